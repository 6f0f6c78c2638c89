/- Functions of the program, as they answer, and that their code comes to these answers. -/
import Derived.Test.YtcahembojhmpbaaDoorKq0
namespace Go.Proofs.YtcahembojhmpbaaDoor.VM
open Go Go.RowKit

structure GToken where
  Kind : Int
  Text : List UInt8
  Int_ : Int
  Bits : UInt64
deriving DecidableEq, Inhabited
def GToken.zero : GToken := ⟨(0 : Int), [], (0 : Int), (0 : UInt64)⟩
def GToken.cs (x : GToken) : List AV := ([(AV.int x.Kind)]) ++ (([(AV.txt x.Text)]) ++ (([(AV.int x.Int_)]) ++ ([(AV.u64 x.Bits)])))
theorem GToken.len (x : GToken) : (GToken.cs x).length = 4 := by
  simp only [GToken.cs, List.length_append]
  rw [show ([(AV.int x.Kind)]).length = 1 from (show ([(AV.int x.Kind)]).length = 1 from rfl), show ([(AV.txt x.Text)]).length = 1 from (show ([(AV.txt x.Text)]).length = 1 from rfl), show ([(AV.int x.Int_)]).length = 1 from (show ([(AV.int x.Int_)]).length = 1 from rfl), show ([(AV.u64 x.Bits)]).length = 1 from (show ([(AV.u64 x.Bits)]).length = 1 from rfl)]
theorem GToken.sub0 (x : GToken) : Sub (GToken.cs x) 0 ([(AV.int x.Kind)]) := Sub.head _ _
abbrev GToken.w0 (x : GToken) (y : Int) : GToken := { x with Kind := y }
theorem GToken.upd0 (x : GToken) (y : Int) : Upd (GToken.cs x) 0 ([(AV.int y)]) (GToken.cs { x with Kind := y }) := Upd.head (show ([(AV.int y)]).length = ([(AV.int x.Kind)]).length from rfl)
theorem GToken.sub1 (x : GToken) : Sub (GToken.cs x) 1 ([(AV.txt x.Text)]) := Sub.skip (k := 1) (show ([(AV.int x.Kind)]).length = 1 from rfl) (Sub.head _ _)
abbrev GToken.w1 (x : GToken) (y : List UInt8) : GToken := { x with Text := y }
theorem GToken.upd1 (x : GToken) (y : List UInt8) : Upd (GToken.cs x) 1 ([(AV.txt y)]) (GToken.cs { x with Text := y }) := Upd.skip (k := 1) (show ([(AV.int x.Kind)]).length = 1 from rfl) (Upd.head (show ([(AV.txt y)]).length = ([(AV.txt x.Text)]).length from rfl))
theorem GToken.sub2 (x : GToken) : Sub (GToken.cs x) 2 ([(AV.int x.Int_)]) := Sub.skip (k := 1) (show ([(AV.int x.Kind)]).length = 1 from rfl) (Sub.skip (k := 1) (show ([(AV.txt x.Text)]).length = 1 from rfl) (Sub.head _ _))
abbrev GToken.w2 (x : GToken) (y : Int) : GToken := { x with Int_ := y }
theorem GToken.upd2 (x : GToken) (y : Int) : Upd (GToken.cs x) 2 ([(AV.int y)]) (GToken.cs { x with Int_ := y }) := Upd.skip (k := 1) (show ([(AV.int x.Kind)]).length = 1 from rfl) (Upd.skip (k := 1) (show ([(AV.txt x.Text)]).length = 1 from rfl) (Upd.head (show ([(AV.int y)]).length = ([(AV.int x.Int_)]).length from rfl)))
theorem GToken.sub3 (x : GToken) : Sub (GToken.cs x) 3 ([(AV.u64 x.Bits)]) := Sub.skip (k := 1) (show ([(AV.int x.Kind)]).length = 1 from rfl) (Sub.skip (k := 1) (show ([(AV.txt x.Text)]).length = 1 from rfl) (Sub.skip (k := 1) (show ([(AV.int x.Int_)]).length = 1 from rfl) (Sub.refl _)))
abbrev GToken.w3 (x : GToken) (y : UInt64) : GToken := { x with Bits := y }
theorem GToken.upd3 (x : GToken) (y : UInt64) : Upd (GToken.cs x) 3 ([(AV.u64 y)]) (GToken.cs { x with Bits := y }) := Upd.skip (k := 1) (show ([(AV.int x.Kind)]).length = 1 from rfl) (Upd.skip (k := 1) (show ([(AV.txt x.Text)]).length = 1 from rfl) (Upd.skip (k := 1) (show ([(AV.int x.Int_)]).length = 1 from rfl) (Upd.refl (show ([(AV.u64 y)]).length = ([(AV.u64 x.Bits)]).length from rfl))))
theorem GToken.nl (x : GToken) : (GToken.cs x).all noLst1 = true := nlA rfl (nlA rfl (nlA rfl (rfl)))
structure GColumn where
  Name : List UInt8
  Kind : Int
  Null : Bool
deriving DecidableEq, Inhabited
def GColumn.zero : GColumn := ⟨[], (0 : Int), false⟩
def GColumn.cs (x : GColumn) : List AV := ([(AV.txt x.Name)]) ++ (([(AV.int x.Kind)]) ++ ([(AV.bool x.Null)]))
theorem GColumn.len (x : GColumn) : (GColumn.cs x).length = 3 := by
  simp only [GColumn.cs, List.length_append]
  rw [show ([(AV.txt x.Name)]).length = 1 from (show ([(AV.txt x.Name)]).length = 1 from rfl), show ([(AV.int x.Kind)]).length = 1 from (show ([(AV.int x.Kind)]).length = 1 from rfl), show ([(AV.bool x.Null)]).length = 1 from (show ([(AV.bool x.Null)]).length = 1 from rfl)]
theorem GColumn.sub0 (x : GColumn) : Sub (GColumn.cs x) 0 ([(AV.txt x.Name)]) := Sub.head _ _
abbrev GColumn.w0 (x : GColumn) (y : List UInt8) : GColumn := { x with Name := y }
theorem GColumn.upd0 (x : GColumn) (y : List UInt8) : Upd (GColumn.cs x) 0 ([(AV.txt y)]) (GColumn.cs { x with Name := y }) := Upd.head (show ([(AV.txt y)]).length = ([(AV.txt x.Name)]).length from rfl)
theorem GColumn.sub1 (x : GColumn) : Sub (GColumn.cs x) 1 ([(AV.int x.Kind)]) := Sub.skip (k := 1) (show ([(AV.txt x.Name)]).length = 1 from rfl) (Sub.head _ _)
abbrev GColumn.w1 (x : GColumn) (y : Int) : GColumn := { x with Kind := y }
theorem GColumn.upd1 (x : GColumn) (y : Int) : Upd (GColumn.cs x) 1 ([(AV.int y)]) (GColumn.cs { x with Kind := y }) := Upd.skip (k := 1) (show ([(AV.txt x.Name)]).length = 1 from rfl) (Upd.head (show ([(AV.int y)]).length = ([(AV.int x.Kind)]).length from rfl))
theorem GColumn.sub2 (x : GColumn) : Sub (GColumn.cs x) 2 ([(AV.bool x.Null)]) := Sub.skip (k := 1) (show ([(AV.txt x.Name)]).length = 1 from rfl) (Sub.skip (k := 1) (show ([(AV.int x.Kind)]).length = 1 from rfl) (Sub.refl _))
abbrev GColumn.w2 (x : GColumn) (y : Bool) : GColumn := { x with Null := y }
theorem GColumn.upd2 (x : GColumn) (y : Bool) : Upd (GColumn.cs x) 2 ([(AV.bool y)]) (GColumn.cs { x with Null := y }) := Upd.skip (k := 1) (show ([(AV.txt x.Name)]).length = 1 from rfl) (Upd.skip (k := 1) (show ([(AV.int x.Kind)]).length = 1 from rfl) (Upd.refl (show ([(AV.bool y)]).length = ([(AV.bool x.Null)]).length from rfl)))
theorem GColumn.nl (x : GColumn) : (GColumn.cs x).all noLst1 = true := nlA rfl (nlA rfl (rfl))
structure GExpr where
  Op : Int
  Value : GValue
  Name : List UInt8
  Args : List GExpr
def GExpr.zero : GExpr := ⟨(0 : Int), GValue.zero, [], []⟩
instance : Inhabited GExpr := ⟨GExpr.zero⟩
mutual
def GExpr.cs : GExpr → List AV
  | ⟨x0, x1, x2, x3⟩ => ([(AV.int x0)]) ++ ((GValue.cs x1) ++ (([(AV.txt x2)]) ++ ([AV.lst (GExpr.csL x3) x3.length])))
def GExpr.csL : List GExpr → List AV
  | [] => []
  | x :: l => GExpr.cs x ++ GExpr.csL l
end
theorem GExpr.csL_eq : ∀ l : List GExpr, GExpr.csL l = l.flatMap GExpr.cs
  | [] => by rw [GExpr.csL, List.flatMap_nil]
  | x :: l => by rw [GExpr.csL, GExpr.csL_eq l, List.flatMap_cons]
theorem GExpr.cs_eq (x : GExpr) : GExpr.cs x = ([(AV.int x.Op)]) ++ ((GValue.cs x.Value) ++ (([(AV.txt x.Name)]) ++ ([((fun q : List GExpr => AV.lst (q.flatMap GExpr.cs) q.length) x.Args)]))) := by
  cases x
  rw [GExpr.cs, GExpr.csL_eq]
theorem GExpr.len (x : GExpr) : (GExpr.cs x).length = 7 := by
  simp only [GExpr.cs_eq, List.length_append]
  rw [show ([(AV.int x.Op)]).length = 1 from (show ([(AV.int x.Op)]).length = 1 from rfl), show (GValue.cs x.Value).length = 4 from (GValue.len x.Value), show ([(AV.txt x.Name)]).length = 1 from (show ([(AV.txt x.Name)]).length = 1 from rfl), show ([((fun q : List GExpr => AV.lst (q.flatMap GExpr.cs) q.length) x.Args)]).length = 1 from (show ([((fun q : List GExpr => AV.lst (q.flatMap GExpr.cs) q.length) x.Args)]).length = 1 from rfl)]
theorem GExpr.sub0 (x : GExpr) : Sub (GExpr.cs x) 0 ([(AV.int x.Op)]) := by
  rw [GExpr.cs_eq]
  exact (Sub.head _ _)
abbrev GExpr.w0 (x : GExpr) (y : Int) : GExpr := { x with Op := y }
theorem GExpr.upd0 (x : GExpr) (y : Int) : Upd (GExpr.cs x) 0 ([(AV.int y)]) (GExpr.cs { x with Op := y }) := by
  rw [GExpr.cs_eq x, GExpr.cs_eq { x with Op := y }]
  exact (Upd.head (show ([(AV.int y)]).length = ([(AV.int x.Op)]).length from rfl))
theorem GExpr.sub1 (x : GExpr) : Sub (GExpr.cs x) 1 (GValue.cs x.Value) := by
  rw [GExpr.cs_eq]
  exact (Sub.skip (k := 1) (show ([(AV.int x.Op)]).length = 1 from rfl) (Sub.head _ _))
abbrev GExpr.w1 (x : GExpr) (y : GValue) : GExpr := { x with Value := y }
theorem GExpr.upd1 (x : GExpr) (y : GValue) : Upd (GExpr.cs x) 1 (GValue.cs y) (GExpr.cs { x with Value := y }) := by
  rw [GExpr.cs_eq x, GExpr.cs_eq { x with Value := y }]
  exact (Upd.skip (k := 1) (show ([(AV.int x.Op)]).length = 1 from rfl) (Upd.head ((GValue.len y).trans (GValue.len x.Value).symm)))
theorem GExpr.sub2 (x : GExpr) : Sub (GExpr.cs x) 5 ([(AV.txt x.Name)]) := by
  rw [GExpr.cs_eq]
  exact (Sub.skip (k := 1) (show ([(AV.int x.Op)]).length = 1 from rfl) (Sub.skip (k := 4) (GValue.len x.Value) (Sub.head _ _)))
abbrev GExpr.w2 (x : GExpr) (y : List UInt8) : GExpr := { x with Name := y }
theorem GExpr.upd2 (x : GExpr) (y : List UInt8) : Upd (GExpr.cs x) 5 ([(AV.txt y)]) (GExpr.cs { x with Name := y }) := by
  rw [GExpr.cs_eq x, GExpr.cs_eq { x with Name := y }]
  exact (Upd.skip (k := 1) (show ([(AV.int x.Op)]).length = 1 from rfl) (Upd.skip (k := 4) (GValue.len x.Value) (Upd.head (show ([(AV.txt y)]).length = ([(AV.txt x.Name)]).length from rfl))))
theorem GExpr.sub3 (x : GExpr) : Sub (GExpr.cs x) 6 ([((fun q : List GExpr => AV.lst (q.flatMap GExpr.cs) q.length) x.Args)]) := by
  rw [GExpr.cs_eq]
  exact (Sub.skip (k := 1) (show ([(AV.int x.Op)]).length = 1 from rfl) (Sub.skip (k := 4) (GValue.len x.Value) (Sub.skip (k := 1) (show ([(AV.txt x.Name)]).length = 1 from rfl) (Sub.refl _))))
abbrev GExpr.w3 (x : GExpr) (y : List GExpr) : GExpr := { x with Args := y }
theorem GExpr.upd3 (x : GExpr) (y : List GExpr) : Upd (GExpr.cs x) 6 ([((fun q : List GExpr => AV.lst (q.flatMap GExpr.cs) q.length) y)]) (GExpr.cs { x with Args := y }) := by
  rw [GExpr.cs_eq x, GExpr.cs_eq { x with Args := y }]
  exact (Upd.skip (k := 1) (show ([(AV.int x.Op)]).length = 1 from rfl) (Upd.skip (k := 4) (GValue.len x.Value) (Upd.skip (k := 1) (show ([(AV.txt x.Name)]).length = 1 from rfl) (Upd.refl (show ([((fun q : List GExpr => AV.lst (q.flatMap GExpr.cs) q.length) y)]).length = ([((fun q : List GExpr => AV.lst (q.flatMap GExpr.cs) q.length) x.Args)]).length from rfl)))))
theorem in_24 : Info Tryd.prog 24 4 40 (.agg #[.int .i64 0, .int .i64 0, .int .u64 0, .string ⟨#[]⟩]) := by unfold Info; kernel_rfl
theorem one_24 : (.agg #[.int .i64 0, .int .i64 0, .int .u64 0, .string ⟨#[]⟩] : Value).cells.all (·.oneCell') = true := by kernel_rfl
theorem zc_24 : ((.agg #[.int .i64 0, .int .i64 0, .int .u64 0, .string ⟨#[]⟩] : Value).cells.toList.map zcell) = GValue.cs GValue.zero := by rfl
theorem pl_24 : placesOf Tryd.prog 24 = some [(0, 1), (1, 1), (2, 1), (3, 1)] := by kernel_rfl
theorem in_59 : Info Tryd.prog 59 3 32 (.agg #[.string ⟨#[]⟩, .int .i64 0, .bool false]) := by unfold Info; kernel_rfl
theorem one_59 : (.agg #[.string ⟨#[]⟩, .int .i64 0, .bool false] : Value).cells.all (·.oneCell') = true := by kernel_rfl
theorem zc_59 : ((.agg #[.string ⟨#[]⟩, .int .i64 0, .bool false] : Value).cells.toList.map zcell) = GColumn.cs GColumn.zero := by rfl
theorem pl_59 : placesOf Tryd.prog 59 = some [(0, 1), (1, 1), (2, 1)] := by kernel_rfl
theorem in_82 : Info Tryd.prog 82 4 40 (.agg #[.int .i64 0, .string ⟨#[]⟩, .int .i64 0, .int .u64 0]) := by unfold Info; kernel_rfl
theorem one_82 : (.agg #[.int .i64 0, .string ⟨#[]⟩, .int .i64 0, .int .u64 0] : Value).cells.all (·.oneCell') = true := by kernel_rfl
theorem zc_82 : ((.agg #[.int .i64 0, .string ⟨#[]⟩, .int .i64 0, .int .u64 0] : Value).cells.toList.map zcell) = GToken.cs GToken.zero := by rfl
theorem pl_82 : placesOf Tryd.prog 82 = some [(0, 1), (1, 1), (2, 1), (3, 1)] := by kernel_rfl
theorem in_25 : Info Tryd.prog 25 1 24 (.slice none 0 0) := by unfold Info; kernel_rfl
theorem one_25 : (.slice none 0 0 : Value).cells.all (·.oneCell') = true := by kernel_rfl
theorem zc_25 : ((.slice none 0 0 : Value).cells.toList.map zcell) = [((fun q : List GExpr => AV.lst (q.flatMap GExpr.cs) q.length) [])] := by rfl
theorem in_27 : Info Tryd.prog 27 7 88 (.agg #[.int .i64 0, .int .i64 0, .int .i64 0, .int .u64 0, .string ⟨#[]⟩, .string ⟨#[]⟩, .slice none 0 0]) := by unfold Info; kernel_rfl
theorem one_27 : (.agg #[.int .i64 0, .int .i64 0, .int .i64 0, .int .u64 0, .string ⟨#[]⟩, .string ⟨#[]⟩, .slice none 0 0] : Value).cells.all (·.oneCell') = true := by kernel_rfl
theorem zc_27 : ((.agg #[.int .i64 0, .int .i64 0, .int .i64 0, .int .u64 0, .string ⟨#[]⟩, .string ⟨#[]⟩, .slice none 0 0] : Value).cells.toList.map zcell) = GExpr.cs GExpr.zero := by rfl
theorem pl_27 : placesOf Tryd.prog 27 = some [(0, 1), (1, 4), (5, 1), (6, 1)] := by kernel_rfl
theorem eq_24 : EqT Tryd.prog 24 2 (fun x : GValue => .agg (GValue.cs x)) :=
  eqt_struct [fun a b => a.Kind = b.Kind, fun a b => a.Int_ = b.Int_, fun a b => a.Bits = b.Bits, fun a b => a.Text = b.Text] Tryd.underlying24 (by kernel_rfl) ⟨(FieldEq.more (fe_one (by decide) Tryd.underlying3 rfl (eqt_int Tryd.underlying3) (fun a => GValue.sub0 a)) (by decide : 1 ≤ 1)), (FieldEq.more (fe_one (by decide) Tryd.underlying3 rfl (eqt_int Tryd.underlying3) (fun a => GValue.sub1 a)) (by decide : 1 ≤ 1)), (FieldEq.more (fe_one (by decide) Tryd.underlying22 rfl (eqt_u64 Tryd.underlying22) (fun a => GValue.sub2 a)) (by decide : 1 ≤ 1)), (FieldEq.more (fe_one (by decide) Tryd.underlying9 rfl (eqt_txt Tryd.underlying9) (fun a => GValue.sub3 a)) (by decide : 1 ≤ 1)), trivial⟩ (fun a b => by
    cases a; cases b
    simp)

/-! lex.sign -/
noncomputable def g_lex_sign (t0 : List UInt8) : Option (Bool) :=
  ((if t0 = [40] then some (decide (t0 = [40])) else (if t0 = [41] then some (decide (t0 = [41])) else (if t0 = [44] then some (decide (t0 = [44])) else (if t0 = [46] then some (decide (t0 = [46])) else (if t0 = [61] then some (decide (t0 = [61])) else (if t0 = [60] then some (decide (t0 = [60])) else (if t0 = [62] then some (decide (t0 = [62])) else (if t0 = [60, 61] then some (decide (t0 = [60, 61])) else (if t0 = [62, 61] then some (decide (t0 = [62, 61])) else (if t0 = [60, 62] then some (decide (t0 = [60, 62])) else (if t0 = [43] then some (decide (t0 = [43])) else (if t0 = [45] then some (decide (t0 = [45])) else (if t0 = [42] then some (decide (t0 = [42])) else (if t0 = [47] then some (decide (t0 = [47])) else (if t0 = [124, 124] then some (decide (t0 = [124, 124])) else some (decide (t0 = [59])))))))))))))))))).bind fun j'1 => (if j'1 = true then some true else some false)
set_option maxHeartbeats 4000000 in
set_option maxRecDepth 100000 in
theorem g_lex_sign_ac {t0 : List UInt8} {r : Bool} (H : g_lex_sign t0 = some r) : ACp Tryd.prog 68 [(AV.txt t0)] (AV.bool r) := by
 refine ACp_of (AC2_of_body (vs := [.b r]) Tryd.func68 rfl rfl (Nat.le_of_ble_eq_true rfl) rfl ?_) (fun _ => .same _)
 unfold g_lex_sign at H
 refine as2 [(0, .t t0)] [] rfl rfl rfl ?_
 refine sg [0] rfl ?_
 refine rp rfl rfl (p_asg rfl rfl) ?_
 refine rz [(0, .t t0)] [] rfl rfl rfl ?_
 refine AW2_seq ?_
 refine sg [0] rfl ?_
 refine rp rfl rfl (p_move rfl rfl) ?_
 refine rz [(3, .t t0)] [] rfl rfl rfl ?_
 refine AW2_block ?_
 refine AW2_seq ?_
 refine bindK H fun j'1 h1 H => ?_
 refine AW2_mid (⟨[(4, .b j'1)], [], 21⟩ : TS) ?_ ?_
 ·clear H
  have H := h1
  clear h1
  refine sg [0, 1] rfl ?_
  refine rp rfl rfl (p_seq rfl rfl rfl) ?_
  refine rp rfl rfl (p_asg rfl rfl) ?_
  refine rz [(3, .t t0), (4, .b (decide (t0 = [40])))] [] rfl rfl rfl ?_
  refine AW2_if (p := t0 = [40]) rfl (fun h2 => ?_) (fun h2 => ?_)
  ·replace H := ite_then h2 H
   refine as2 [(4, .b (decide (t0 = [40])))] [] rfl rfl rfl ?_
   refine AW2_skip ?_
   have hz := some_elim H
   subst hz
   exact rfl
  ·replace H := ite_else h2 H
   refine sg [0, 1] rfl ?_
   refine rp rfl rfl (p_seq rfl rfl rfl) ?_
   refine rp rfl rfl (p_asg rfl rfl) ?_
   refine rz [(3, .t t0), (4, .b (decide (t0 = [41])))] [] rfl rfl rfl ?_
   refine AW2_if (p := t0 = [41]) rfl (fun h3 => ?_) (fun h3 => ?_)
   ·replace H := ite_then h3 H
    refine as2 [(4, .b (decide (t0 = [41])))] [] rfl rfl rfl ?_
    refine AW2_skip ?_
    have hz := some_elim H
    subst hz
    exact rfl
   ·replace H := ite_else h3 H
    refine sg [0, 1] rfl ?_
    refine rp rfl rfl (p_seq rfl rfl rfl) ?_
    refine rp rfl rfl (p_asg rfl rfl) ?_
    refine rz [(3, .t t0), (4, .b (decide (t0 = [44])))] [] rfl rfl rfl ?_
    refine AW2_if (p := t0 = [44]) rfl (fun h4 => ?_) (fun h4 => ?_)
    ·replace H := ite_then h4 H
     refine as2 [(4, .b (decide (t0 = [44])))] [] rfl rfl rfl ?_
     refine AW2_skip ?_
     have hz := some_elim H
     subst hz
     exact rfl
    ·replace H := ite_else h4 H
     refine sg [0, 1] rfl ?_
     refine rp rfl rfl (p_seq rfl rfl rfl) ?_
     refine rp rfl rfl (p_asg rfl rfl) ?_
     refine rz [(3, .t t0), (4, .b (decide (t0 = [46])))] [] rfl rfl rfl ?_
     refine AW2_if (p := t0 = [46]) rfl (fun h5 => ?_) (fun h5 => ?_)
     ·replace H := ite_then h5 H
      refine as2 [(4, .b (decide (t0 = [46])))] [] rfl rfl rfl ?_
      refine AW2_skip ?_
      have hz := some_elim H
      subst hz
      exact rfl
     ·replace H := ite_else h5 H
      refine sg [0, 1] rfl ?_
      refine rp rfl rfl (p_seq rfl rfl rfl) ?_
      refine rp rfl rfl (p_asg rfl rfl) ?_
      refine rz [(3, .t t0), (4, .b (decide (t0 = [61])))] [] rfl rfl rfl ?_
      refine AW2_if (p := t0 = [61]) rfl (fun h6 => ?_) (fun h6 => ?_)
      ·replace H := ite_then h6 H
       refine as2 [(4, .b (decide (t0 = [61])))] [] rfl rfl rfl ?_
       refine AW2_skip ?_
       have hz := some_elim H
       subst hz
       exact rfl
      ·replace H := ite_else h6 H
       refine sg [0, 1] rfl ?_
       refine rp rfl rfl (p_seq rfl rfl rfl) ?_
       refine rp rfl rfl (p_asg rfl rfl) ?_
       refine rz [(3, .t t0), (4, .b (decide (t0 = [60])))] [] rfl rfl rfl ?_
       refine AW2_if (p := t0 = [60]) rfl (fun h7 => ?_) (fun h7 => ?_)
       ·replace H := ite_then h7 H
        refine as2 [(4, .b (decide (t0 = [60])))] [] rfl rfl rfl ?_
        refine AW2_skip ?_
        have hz := some_elim H
        subst hz
        exact rfl
       ·replace H := ite_else h7 H
        refine sg [0, 1] rfl ?_
        refine rp rfl rfl (p_seq rfl rfl rfl) ?_
        refine rp rfl rfl (p_asg rfl rfl) ?_
        refine rz [(3, .t t0), (4, .b (decide (t0 = [62])))] [] rfl rfl rfl ?_
        refine AW2_if (p := t0 = [62]) rfl (fun h8 => ?_) (fun h8 => ?_)
        ·replace H := ite_then h8 H
         refine as2 [(4, .b (decide (t0 = [62])))] [] rfl rfl rfl ?_
         refine AW2_skip ?_
         have hz := some_elim H
         subst hz
         exact rfl
        ·replace H := ite_else h8 H
         refine sg [0, 1] rfl ?_
         refine rp rfl rfl (p_seq rfl rfl rfl) ?_
         refine rp rfl rfl (p_asg rfl rfl) ?_
         refine rz [(3, .t t0), (4, .b (decide (t0 = [60, 61])))] [] rfl rfl rfl ?_
         refine AW2_if (p := t0 = [60, 61]) rfl (fun h9 => ?_) (fun h9 => ?_)
         ·replace H := ite_then h9 H
          refine as2 [(4, .b (decide (t0 = [60, 61])))] [] rfl rfl rfl ?_
          refine AW2_skip ?_
          have hz := some_elim H
          subst hz
          exact rfl
         ·replace H := ite_else h9 H
          refine sg [0, 1] rfl ?_
          refine rp rfl rfl (p_seq rfl rfl rfl) ?_
          refine rp rfl rfl (p_asg rfl rfl) ?_
          refine rz [(3, .t t0), (4, .b (decide (t0 = [62, 61])))] [] rfl rfl rfl ?_
          refine AW2_if (p := t0 = [62, 61]) rfl (fun h10 => ?_) (fun h10 => ?_)
          ·replace H := ite_then h10 H
           refine as2 [(4, .b (decide (t0 = [62, 61])))] [] rfl rfl rfl ?_
           refine AW2_skip ?_
           have hz := some_elim H
           subst hz
           exact rfl
          ·replace H := ite_else h10 H
           refine sg [0, 1] rfl ?_
           refine rp rfl rfl (p_seq rfl rfl rfl) ?_
           refine rp rfl rfl (p_asg rfl rfl) ?_
           refine rz [(3, .t t0), (4, .b (decide (t0 = [60, 62])))] [] rfl rfl rfl ?_
           refine AW2_if (p := t0 = [60, 62]) rfl (fun h11 => ?_) (fun h11 => ?_)
           ·replace H := ite_then h11 H
            refine as2 [(4, .b (decide (t0 = [60, 62])))] [] rfl rfl rfl ?_
            refine AW2_skip ?_
            have hz := some_elim H
            subst hz
            exact rfl
           ·replace H := ite_else h11 H
            refine sg [0, 1] rfl ?_
            refine rp rfl rfl (p_seq rfl rfl rfl) ?_
            refine rp rfl rfl (p_asg rfl rfl) ?_
            refine rz [(3, .t t0), (4, .b (decide (t0 = [43])))] [] rfl rfl rfl ?_
            refine AW2_if (p := t0 = [43]) rfl (fun h12 => ?_) (fun h12 => ?_)
            ·replace H := ite_then h12 H
             refine as2 [(4, .b (decide (t0 = [43])))] [] rfl rfl rfl ?_
             refine AW2_skip ?_
             have hz := some_elim H
             subst hz
             exact rfl
            ·replace H := ite_else h12 H
             refine sg [0, 1] rfl ?_
             refine rp rfl rfl (p_seq rfl rfl rfl) ?_
             refine rp rfl rfl (p_asg rfl rfl) ?_
             refine rz [(3, .t t0), (4, .b (decide (t0 = [45])))] [] rfl rfl rfl ?_
             refine AW2_if (p := t0 = [45]) rfl (fun h13 => ?_) (fun h13 => ?_)
             ·replace H := ite_then h13 H
              refine as2 [(4, .b (decide (t0 = [45])))] [] rfl rfl rfl ?_
              refine AW2_skip ?_
              have hz := some_elim H
              subst hz
              exact rfl
             ·replace H := ite_else h13 H
              refine sg [0, 1] rfl ?_
              refine rp rfl rfl (p_seq rfl rfl rfl) ?_
              refine rp rfl rfl (p_asg rfl rfl) ?_
              refine rz [(3, .t t0), (4, .b (decide (t0 = [42])))] [] rfl rfl rfl ?_
              refine AW2_if (p := t0 = [42]) rfl (fun h14 => ?_) (fun h14 => ?_)
              ·replace H := ite_then h14 H
               refine as2 [(4, .b (decide (t0 = [42])))] [] rfl rfl rfl ?_
               refine AW2_skip ?_
               have hz := some_elim H
               subst hz
               exact rfl
              ·replace H := ite_else h14 H
               refine sg [0, 1] rfl ?_
               refine rp rfl rfl (p_seq rfl rfl rfl) ?_
               refine rp rfl rfl (p_asg rfl rfl) ?_
               refine rz [(3, .t t0), (4, .b (decide (t0 = [47])))] [] rfl rfl rfl ?_
               refine AW2_if (p := t0 = [47]) rfl (fun h15 => ?_) (fun h15 => ?_)
               ·replace H := ite_then h15 H
                refine as2 [(4, .b (decide (t0 = [47])))] [] rfl rfl rfl ?_
                refine AW2_skip ?_
                have hz := some_elim H
                subst hz
                exact rfl
               ·replace H := ite_else h15 H
                refine sg [0, 1] rfl ?_
                refine rp rfl rfl (p_seq rfl rfl rfl) ?_
                refine rp rfl rfl (p_asg rfl rfl) ?_
                refine rz [(3, .t t0), (4, .b (decide (t0 = [124, 124])))] [] rfl rfl rfl ?_
                refine AW2_if (p := t0 = [124, 124]) rfl (fun h16 => ?_) (fun h16 => ?_)
                ·replace H := ite_then h16 H
                 refine as2 [(4, .b (decide (t0 = [124, 124])))] [] rfl rfl rfl ?_
                 refine AW2_skip ?_
                 have hz := some_elim H
                 subst hz
                 exact rfl
                ·replace H := ite_else h16 H
                 refine AW2_reg [0, 1] rfl ?_
                 refine rp rfl rfl (p_seq rfl rfl rfl) ?_
                 refine rp rfl rfl (p_asg rfl rfl) ?_
                 refine rz [(4, .b (decide (t0 = [59])))] [] rfl rfl rfl ?_
                 have hz := some_elim H
                 subst hz
                 exact rfl
 ·refine AW2_cond rfl (fun h17 => ?_) (fun h17 => ?_)
  ·replace H := ite_then h17 H
   refine sg [0] rfl ?_
   refine rp rfl rfl (p_asg rfl rfl) ?_
   refine rz [(2, .b true)] [] rfl rfl rfl ?_
   refine AW2_ret ?_
   have hz := some_elim H
   subst hz
   exact ⟨⟨res_tmp (.same _), trivial⟩, trivial⟩
  ·replace H := ite_else (ne_true h17) H
   refine as2 [] [] rfl rfl rfl ?_
   refine AW2_skip ?_
   refine sg [0] rfl ?_
   refine rp rfl rfl (p_asg rfl rfl) ?_
   refine rz [(2, .b false)] [] rfl rfl rfl ?_
   refine AW2_ret ?_
   have hz := some_elim H
   subst hz
   exact ⟨⟨res_tmp (.same _), trivial⟩, trivial⟩

/-! lex.all -/
noncomputable def g_lex_all_i0_l0 (s0 : List UInt8) : Int → Option (Int ⊕ (Bool ⊕ Unit))
  | t8_0 => (if t8_0 < (s0.length : Int) then if 0 ≤ t8_0 ∧ t8_0 < (s0.length : Int) then (g_lex_inName (lrd s0 t8_0.toNat)).bind fun r'1 => (if (!r'1) = true then some (.inr (.inl false)) else some (.inl (w64 (t8_0 + (1 : Int))))) else none else some (.inr (.inr ())))
noncomputable def g_lex_all_i0 (s0 : List UInt8) : Option (Bool) :=
  (loopO (g_lex_all_i0_l0 s0) (0 : Int)).bind fun o'5 => match o'5 with | .inl y'6 => some y'6 | .inr (y'7) => some (decide (s0 ≠ []))
set_option maxHeartbeats 4000000 in
set_option maxRecDepth 100000 in
theorem g_lex_all_i0_ac {s0 : List UInt8} {r : Bool} (H : g_lex_all_i0 s0 = some r) : ACp Tryd.prog 64 [(AV.txt s0), .clo 65 []] (AV.bool r) := by
 refine ACp_of (AC2_of_body (vs := [.b r]) Tryd.func64 rfl rfl (Nat.le_of_ble_eq_true rfl) rfl ?_) (fun _ => .same _)
 unfold g_lex_all_i0 at H
 refine AW2_st [(0, .t s0), (1, .clo 65 [])] [] rfl ⟨TLes.same _, (fun _ => .same _), trivial⟩ trivial ?_
 refine sg [0] rfl ?_
 refine rp rfl rfl (p_asg rfl rfl) ?_
 refine RunW_st [(0, .t s0), (1, .clo 65 [])] [] rfl ⟨TLes.same _, (fun _ => .same _), trivial⟩ trivial ?_
 refine RunW_nil ?_
 refine AW2_seq ?_
 refine sg [0, 1, 2] rfl ?_
 refine rp rfl rfl (p_move rfl rfl) ?_
 refine rp rfl rfl (p_lent rfl Tryd.underlying9 rfl) ?_
 refine rp rfl rfl (p_move rfl rfl) ?_
 refine RunW_st [(0, .t s0), (1, .clo 65 []), (7, .i (s0.length : Int)), (8, .i (0 : Int))] [] rfl ⟨TLes.same _, (fun _ => .same _), TLes.same _, TLes.same _, trivial⟩ trivial ?_
 refine RunW_nil ?_
 refine AW2_block ?_
 refine AW2_st [(0, .t s0), (1, .clo 65 []), (7, .i (s0.length : Int)), (8, .i (0 : Int))] [] rfl ⟨TLes.same _, (fun _ => .same _), TLes.same _, TLes.same _, trivial⟩ trivial ?_
 refine bindK H fun o'5 h5 H => ?_
 refine AW2_loopO (fun a'2 : Int => (⟨[(0, .t s0), (1, .clo 65 []), (7, .i (s0.length : Int)), (8, .i a'2)], [], 20⟩ : TS)) (fun (o : Bool ⊕ Unit) e s' => match o with | .inl y'3 => e = Go.Exit.ret ∧ ResAll Tryd.prog s' [ResultVar.tmp 4] [.b y'3] ∧ HFits s' [] | .inr (y'4) => e = Go.Exit.exit 0 ∧ s' = (⟨[(0, .t s0)], [], 20⟩ : TS)) h5 rfl (fun t8_0 x hx => ?_) (fun e s' hs => ?_)
 ·clear H
  have H := hx
  clear hx
  unfold g_lex_all_i0_l0 at H
  refine sg [0] rfl ?_
  refine rp rfl rfl (p_bin rfl rfl rfl rfl) ?_
  refine RunW_st [(0, .t s0), (1, .clo 65 []), (7, .i (s0.length : Int)), (8, .i t8_0), (9, .b (decide (t8_0 < (s0.length : Int))))] [] rfl ⟨TLes.same _, (fun _ => .same _), TLes.same _, TLes.same _, TLes.same _, trivial⟩ trivial ?_
  refine RunW_nil ?_
  refine AW2_seq ?_
  refine AW2_if (p := t8_0 < (s0.length : Int)) rfl (fun h1 => ?_) (fun h1 => ?_)
  ·replace H := ite_then h1 H
   refine AW2_st [(0, .t s0), (1, .clo 65 []), (7, .i (s0.length : Int)), (8, .i t8_0)] [] rfl ⟨TLes.same _, (fun _ => .same _), TLes.same _, TLes.same _, trivial⟩ trivial ?_
   refine AW2_skip ?_
   refine AW2_seq ?_
   refine AW2_block ?_
   refine sg [0, 1] rfl ?_
   refine rp rfl rfl (p_move rfl rfl) ?_
   refine rp rfl rfl (p_asg rfl rfl) ?_
   refine RunW_st [(0, .t s0), (1, .clo 65 []), (5, .i t8_0), (7, .i (s0.length : Int)), (8, .i t8_0)] [] rfl ⟨TLes.same _, (fun _ => .same _), TLes.same _, TLes.same _, TLes.same _, trivial⟩ trivial ?_
   refine RunW_nil ?_
   refine sg [0, 1, 2, 3, 4, 5] rfl ?_
   refine rp rfl rfl (p_move rfl rfl) ?_
   refine rp rfl rfl (p_move rfl rfl) ?_
   refine rp rfl rfl (p_move rfl rfl) ?_
   refine chkK H fun h2 H => ?_
   refine rp rfl rfl (p_ixt rfl Tryd.underlying9 rfl rfl (ixe h2) (lrd_get (ixn h2))) ?_
   refine bindK H fun r'1 h3 H => ?_
   refine rp rfl rfl (p_callp rfl rfl rfl Tryd.func65 rfl rfl (g_lex_inName_ac h3) ⟨rfl, trivial⟩) ?_
   refine rp rfl rfl (p_not rfl rfl) ?_
   refine RunW_st [(0, .t s0), (1, .clo 65 []), (7, .i (s0.length : Int)), (8, .i t8_0), (16, .b (!r'1))] [] rfl ⟨TLes.same _, (fun _ => .same _), TLes.same _, TLes.same _, TLes.same _, trivial⟩ trivial ?_
   refine RunW_nil ?_
   refine AW2_cond rfl (fun h4 => ?_) (fun h4 => ?_)
   ·replace H := ite_then h4 H
    refine sg [0] rfl ?_
    refine rp rfl rfl (p_asg rfl rfl) ?_
    refine rz [(4, .b false)] [] rfl rfl rfl ?_
    refine AW2_ret ?_
    have hz := some_elim H
    subst hz
    exact ⟨rfl, ⟨res_tmp (.same _), trivial⟩, trivial⟩
   ·replace H := ite_else (ne_true h4) H
    refine AW2_st [(0, .t s0), (1, .clo 65 []), (7, .i (s0.length : Int)), (8, .i t8_0)] [] rfl ⟨TLes.same _, (fun _ => .same _), TLes.same _, TLes.same _, trivial⟩ trivial ?_
    refine AW2_skip ?_
    refine AW2_reg [0, 1] rfl ?_
    refine rp rfl rfl (p_bin rfl rfl rfl rfl) ?_
    refine rp rfl rfl (p_move rfl rfl) ?_
    refine RunW_st [(0, .t s0), (1, .clo 65 []), (7, .i (s0.length : Int)), (8, .i (w64 (t8_0 + (1 : Int))))] [] rfl ⟨TLes.same _, (fun _ => .same _), TLes.same _, TLes.same _, trivial⟩ trivial ?_
    refine RunW_nil ?_
    have hz := some_elim H
    subst hz
    exact ⟨rfl, rfl⟩
  ·replace H := ite_else h1 H
   refine as2 [(0, .t s0)] [] rfl rfl rfl ?_
   refine AW2_exit ?_
   refine thenQ2_exit ?_
   have hz := some_elim H
   subst hz
   exact ⟨rfl, rfl⟩
 ·rcases o'5 with y'6 | y'7
  ·obtain ⟨rfl, hs⟩ := hs
   refine ⟨by simp, ?_⟩
   have hz := some_elim H
   subst hz
   exact ⟨hs.1, hs.2⟩
  ·obtain ⟨rfl, rfl⟩ := hs
   refine ⟨by simp, ?_⟩
   refine blockQ2_exit ?_
   refine sg [0, 1, 2] rfl ?_
   refine rp rfl rfl (p_move rfl rfl) ?_
   refine rp rfl rfl (p_sne rfl rfl rfl) ?_
   refine rp rfl rfl (p_asg rfl rfl) ?_
   refine rz [(4, .b (decide (s0 ≠ [])))] [] rfl rfl rfl ?_
   refine AW2_ret ?_
   have hz := some_elim H
   subst hz
   exact ⟨⟨res_tmp (.same _), trivial⟩, trivial⟩

/-! lex.all -/
noncomputable def g_lex_all_i1_l0 (s0 : List UInt8) : Int → Option (Int ⊕ (Bool ⊕ Unit))
  | t8_0 => (if t8_0 < (s0.length : Int) then if 0 ≤ t8_0 ∧ t8_0 < (s0.length : Int) then (g_lex_great (lrd s0 t8_0.toNat)).bind fun r'1 => (if (!r'1) = true then some (.inr (.inl false)) else some (.inl (w64 (t8_0 + (1 : Int))))) else none else some (.inr (.inr ())))
noncomputable def g_lex_all_i1 (s0 : List UInt8) : Option (Bool) :=
  (loopO (g_lex_all_i1_l0 s0) (0 : Int)).bind fun o'5 => match o'5 with | .inl y'6 => some y'6 | .inr (y'7) => some (decide (s0 ≠ []))
set_option maxHeartbeats 4000000 in
set_option maxRecDepth 100000 in
theorem g_lex_all_i1_ac {s0 : List UInt8} {r : Bool} (H : g_lex_all_i1 s0 = some r) : ACp Tryd.prog 64 [(AV.txt s0), .clo 67 []] (AV.bool r) := by
 refine ACp_of (AC2_of_body (vs := [.b r]) Tryd.func64 rfl rfl (Nat.le_of_ble_eq_true rfl) rfl ?_) (fun _ => .same _)
 unfold g_lex_all_i1 at H
 refine AW2_st [(0, .t s0), (1, .clo 67 [])] [] rfl ⟨TLes.same _, (fun _ => .same _), trivial⟩ trivial ?_
 refine sg [0] rfl ?_
 refine rp rfl rfl (p_asg rfl rfl) ?_
 refine RunW_st [(0, .t s0), (1, .clo 67 [])] [] rfl ⟨TLes.same _, (fun _ => .same _), trivial⟩ trivial ?_
 refine RunW_nil ?_
 refine AW2_seq ?_
 refine sg [0, 1, 2] rfl ?_
 refine rp rfl rfl (p_move rfl rfl) ?_
 refine rp rfl rfl (p_lent rfl Tryd.underlying9 rfl) ?_
 refine rp rfl rfl (p_move rfl rfl) ?_
 refine RunW_st [(0, .t s0), (1, .clo 67 []), (7, .i (s0.length : Int)), (8, .i (0 : Int))] [] rfl ⟨TLes.same _, (fun _ => .same _), TLes.same _, TLes.same _, trivial⟩ trivial ?_
 refine RunW_nil ?_
 refine AW2_block ?_
 refine AW2_st [(0, .t s0), (1, .clo 67 []), (7, .i (s0.length : Int)), (8, .i (0 : Int))] [] rfl ⟨TLes.same _, (fun _ => .same _), TLes.same _, TLes.same _, trivial⟩ trivial ?_
 refine bindK H fun o'5 h5 H => ?_
 refine AW2_loopO (fun a'2 : Int => (⟨[(0, .t s0), (1, .clo 67 []), (7, .i (s0.length : Int)), (8, .i a'2)], [], 20⟩ : TS)) (fun (o : Bool ⊕ Unit) e s' => match o with | .inl y'3 => e = Go.Exit.ret ∧ ResAll Tryd.prog s' [ResultVar.tmp 4] [.b y'3] ∧ HFits s' [] | .inr (y'4) => e = Go.Exit.exit 0 ∧ s' = (⟨[(0, .t s0)], [], 20⟩ : TS)) h5 rfl (fun t8_0 x hx => ?_) (fun e s' hs => ?_)
 ·clear H
  have H := hx
  clear hx
  unfold g_lex_all_i1_l0 at H
  refine sg [0] rfl ?_
  refine rp rfl rfl (p_bin rfl rfl rfl rfl) ?_
  refine RunW_st [(0, .t s0), (1, .clo 67 []), (7, .i (s0.length : Int)), (8, .i t8_0), (9, .b (decide (t8_0 < (s0.length : Int))))] [] rfl ⟨TLes.same _, (fun _ => .same _), TLes.same _, TLes.same _, TLes.same _, trivial⟩ trivial ?_
  refine RunW_nil ?_
  refine AW2_seq ?_
  refine AW2_if (p := t8_0 < (s0.length : Int)) rfl (fun h1 => ?_) (fun h1 => ?_)
  ·replace H := ite_then h1 H
   refine AW2_st [(0, .t s0), (1, .clo 67 []), (7, .i (s0.length : Int)), (8, .i t8_0)] [] rfl ⟨TLes.same _, (fun _ => .same _), TLes.same _, TLes.same _, trivial⟩ trivial ?_
   refine AW2_skip ?_
   refine AW2_seq ?_
   refine AW2_block ?_
   refine sg [0, 1] rfl ?_
   refine rp rfl rfl (p_move rfl rfl) ?_
   refine rp rfl rfl (p_asg rfl rfl) ?_
   refine RunW_st [(0, .t s0), (1, .clo 67 []), (5, .i t8_0), (7, .i (s0.length : Int)), (8, .i t8_0)] [] rfl ⟨TLes.same _, (fun _ => .same _), TLes.same _, TLes.same _, TLes.same _, trivial⟩ trivial ?_
   refine RunW_nil ?_
   refine sg [0, 1, 2, 3, 4, 5] rfl ?_
   refine rp rfl rfl (p_move rfl rfl) ?_
   refine rp rfl rfl (p_move rfl rfl) ?_
   refine rp rfl rfl (p_move rfl rfl) ?_
   refine chkK H fun h2 H => ?_
   refine rp rfl rfl (p_ixt rfl Tryd.underlying9 rfl rfl (ixe h2) (lrd_get (ixn h2))) ?_
   refine bindK H fun r'1 h3 H => ?_
   refine rp rfl rfl (p_callp rfl rfl rfl Tryd.func67 rfl rfl (g_lex_great_ac h3) ⟨rfl, trivial⟩) ?_
   refine rp rfl rfl (p_not rfl rfl) ?_
   refine RunW_st [(0, .t s0), (1, .clo 67 []), (7, .i (s0.length : Int)), (8, .i t8_0), (16, .b (!r'1))] [] rfl ⟨TLes.same _, (fun _ => .same _), TLes.same _, TLes.same _, TLes.same _, trivial⟩ trivial ?_
   refine RunW_nil ?_
   refine AW2_cond rfl (fun h4 => ?_) (fun h4 => ?_)
   ·replace H := ite_then h4 H
    refine sg [0] rfl ?_
    refine rp rfl rfl (p_asg rfl rfl) ?_
    refine rz [(4, .b false)] [] rfl rfl rfl ?_
    refine AW2_ret ?_
    have hz := some_elim H
    subst hz
    exact ⟨rfl, ⟨res_tmp (.same _), trivial⟩, trivial⟩
   ·replace H := ite_else (ne_true h4) H
    refine AW2_st [(0, .t s0), (1, .clo 67 []), (7, .i (s0.length : Int)), (8, .i t8_0)] [] rfl ⟨TLes.same _, (fun _ => .same _), TLes.same _, TLes.same _, trivial⟩ trivial ?_
    refine AW2_skip ?_
    refine AW2_reg [0, 1] rfl ?_
    refine rp rfl rfl (p_bin rfl rfl rfl rfl) ?_
    refine rp rfl rfl (p_move rfl rfl) ?_
    refine RunW_st [(0, .t s0), (1, .clo 67 []), (7, .i (s0.length : Int)), (8, .i (w64 (t8_0 + (1 : Int))))] [] rfl ⟨TLes.same _, (fun _ => .same _), TLes.same _, TLes.same _, trivial⟩ trivial ?_
    refine RunW_nil ?_
    have hz := some_elim H
    subst hz
    exact ⟨rfl, rfl⟩
  ·replace H := ite_else h1 H
   refine as2 [(0, .t s0)] [] rfl rfl rfl ?_
   refine AW2_exit ?_
   refine thenQ2_exit ?_
   have hz := some_elim H
   subst hz
   exact ⟨rfl, rfl⟩
 ·rcases o'5 with y'6 | y'7
  ·obtain ⟨rfl, hs⟩ := hs
   refine ⟨by simp, ?_⟩
   have hz := some_elim H
   subst hz
   exact ⟨hs.1, hs.2⟩
  ·obtain ⟨rfl, rfl⟩ := hs
   refine ⟨by simp, ?_⟩
   refine blockQ2_exit ?_
   refine sg [0, 1, 2] rfl ?_
   refine rp rfl rfl (p_move rfl rfl) ?_
   refine rp rfl rfl (p_sne rfl rfl rfl) ?_
   refine rp rfl rfl (p_asg rfl rfl) ?_
   refine rz [(4, .b (decide (s0 ≠ [])))] [] rfl rfl rfl ?_
   refine AW2_ret ?_
   have hz := some_elim H
   subst hz
   exact ⟨⟨res_tmp (.same _), trivial⟩, trivial⟩

/-! lex.Check -/
noncomputable def g_lex_Check (t0 : GToken) : Option (Int) :=
  (if (t0.Kind < (1 : Int)) ∨ (t0.Kind > (6 : Int)) then some (2 : Int) else letO (decide (((t0.Kind = (4 : Int)) ∧ ((t0.Text.length : Int) > (40 : Int))) ∨ (((t0.Kind = (1 : Int)) ∨ (t0.Kind = (2 : Int))) ∧ ((t0.Text.length : Int) > (8 : Int))))) fun t36'1 => (if t36'1 = true then some (1 : Int) else letO (decide ((((t0.Kind ≠ (3 : Int)) ∧ (t0.Int_ ≠ (0 : Int))) ∨ ((t0.Kind ≠ (5 : Int)) ∧ (t0.Bits ≠ (0 : UInt64)))) ∨ (((t0.Kind = (3 : Int)) ∨ (t0.Kind = (5 : Int))) ∧ (t0.Text ≠ [])))) fun t69'2 => (if t69'2 = true then some (3 : Int) else ((if t0.Kind = (1 : Int) then ((g_lex_all_i0 t0.Text).bind fun r'5 => (if r'5 = true then if 0 < t0.Text.length then (g_lex_small (lrd t0.Text 0)).bind fun r'6 => some r'6 else none else some false)).bind fun g'7 => some g'7 else (if t0.Kind = (2 : Int) then (g_lex_all_i1 t0.Text).bind fun r'8 => some r'8 else (if t0.Kind = (3 : Int) then some (decide (t0.Int_ ≥ (0 : Int))) else (if t0.Kind = (4 : Int) then (g_utf8_ValidString t0.Text).bind fun r'9 => some r'9 else (if t0.Kind = (5 : Int) then (g_value_Check ({ { GValue.zero with Kind := (3 : Int) } with Bits := t0.Bits })).bind fun r'10 => some (decide (r'10 = (0 : Int))) else (if t0.Kind = (6 : Int) then (g_lex_sign t0.Text).bind fun r'11 => some r'11 else some true))))))).bind fun j'3 => (if (!j'3) = true then some (3 : Int) else some (0 : Int)))))
set_option maxHeartbeats 4000000 in
set_option maxRecDepth 100000 in
theorem g_lex_Check_ac {t0 : GToken} {r : Int} (H : g_lex_Check t0 = some r) : ACp Tryd.prog 45 [(.agg (GToken.cs t0))] (AV.int r) := by
 refine ACp_of (AC2_of_body (vs := [.i r]) Tryd.func45 rfl rfl (Nat.le_of_ble_eq_true rfl) rfl ?_) (fun _ => .same _)
 unfold g_lex_Check at H
 refine as2 [(0, .g (GToken.cs t0))] [] rfl rfl rfl ?_
 refine sg [0, 1] rfl ?_
 refine r_op rfl rfl (MakeD.opD (n_box 1 rfl rfl) rfl rfl rfl rfl) ?_
 refine rp rfl rfl (p_asg rfl rfl) ?_
 refine rz [(1, .q 1 (0))] [(1, .pure (GToken.cs t0))] rfl rfl rfl ?_
 refine AW2_seq ?_
 refine AW2_seq ?_
 refine AW2_mid (⟨[(1, .q 1 (0)), (11, .b (decide ((t0.Kind < (1 : Int)) ∨ (t0.Kind > (6 : Int)))))], [(1, .pure (GToken.cs t0))], 112⟩ : TS) ?_ ?_
 ·refine AW2_reg [0, 1, 2, 3, 4, 5, 6, 7] rfl ?_
  refine rp rfl rfl (u_fa rfl rfl Tryd.underlying82 rfl in_3 (Nat.succ_ne_zero _) rfl rfl (ne_of_lt (n := 0) (Nat.lt_of_lt_of_eq (by decide) (Eq.symm (GToken.len t0))))) ?_
  refine rp rfl rfl (u_ld rfl rfl Tryd.underlying3 rfl rfl ((Sub.refl _).trans (GToken.sub0 t0))) ?_
  refine rp rfl rfl (p_bin rfl rfl rfl rfl) ?_
  refine rp rfl rfl (p_move rfl rfl) ?_
  refine (Classical.em (t0.Kind < (1 : Int))).elim (fun h1 => ?_) (fun h1 => ?_)
  ·iterate 3 (refine r_off rfl rfl rfl rfl (decide_eq_true h1) rfl rfl ?_)
   refine rp rfl rfl (p_pkt rfl rfl (decide_eq_true h1) (tb (decide_eq_true (p := (t0.Kind < (1 : Int)) ∨ (t0.Kind > (6 : Int))) (Or.inl h1)).symm)) ?_
   refine rs [(1, .q 1 (0)), (11, .b (decide ((t0.Kind < (1 : Int)) ∨ (t0.Kind > (6 : Int)))))] [(1, .pure (GToken.cs t0))] rfl rfl rfl ?_
   exact RunW_nil rfl
  ·refine r_on rfl rfl rfl rfl (decide_eq_false h1) rfl (PureD.opD (u_fa rfl rfl Tryd.underlying82 rfl in_3 (Nat.succ_ne_zero _) rfl rfl (ne_of_lt (n := 0) (Nat.lt_of_lt_of_eq (by decide) (Eq.symm (GToken.len t0)))))) ?_
   refine r_on rfl rfl rfl rfl (decide_eq_false h1) rfl (PureD.opD (u_ld rfl rfl Tryd.underlying3 rfl rfl ((Sub.refl _).trans (GToken.sub0 t0)))) ?_
   refine r_on rfl rfl rfl rfl (decide_eq_false h1) rfl (PureD.opD (p_bin rfl rfl rfl rfl)) ?_
   refine rp rfl rfl (p_pkf rfl rfl (decide_eq_false h1) (tb ((or_l (p := t0.Kind < (1 : Int)) (q := t0.Kind > (6 : Int)) h1)))) ?_
   refine rs [(1, .q 1 (0)), (11, .b (decide ((t0.Kind < (1 : Int)) ∨ (t0.Kind > (6 : Int)))))] [(1, .pure (GToken.cs t0))] rfl rfl rfl ?_
   exact RunW_nil rfl
 ·refine AW2_if (p := (t0.Kind < (1 : Int)) ∨ (t0.Kind > (6 : Int))) rfl (fun h2 => ?_) (fun h2 => ?_)
  ·replace H := ite_then h2 H
   refine sg [0] rfl ?_
   refine rp rfl rfl (p_asg rfl rfl) ?_
   refine rz [(2, .i (2 : Int))] [] rfl rfl rfl ?_
   refine AW2_ret ?_
   have hz := some_elim H
   subst hz
   exact ⟨⟨res_tmp (.same _), trivial⟩, trivial⟩
  ·replace H := ite_else h2 H
   refine as2 [(1, .q 1 (0))] [(1, .pure (GToken.cs t0))] rfl rfl rfl ?_
   refine AW2_skip ?_
   refine AW2_seq ?_
   refine AW2_seq ?_
   refine AW2_mid (⟨[(1, .q 1 (0)), (36, .b (decide (((t0.Kind = (4 : Int)) ∧ ((t0.Text.length : Int) > (40 : Int))) ∨ (((t0.Kind = (1 : Int)) ∨ (t0.Kind = (2 : Int))) ∧ ((t0.Text.length : Int) > (8 : Int))))))], [(1, .pure (GToken.cs t0))], 112⟩ : TS) ?_ ?_
   ·refine AW2_reg [0, 1, 2, 3, 4, 5, 6, 7, 8, 9, 10, 11, 12, 13, 14, 15, 16, 17, 18, 19, 20, 21, 22, 23, 24] rfl ?_
    refine rp rfl rfl (u_fa rfl rfl Tryd.underlying82 rfl in_3 (Nat.succ_ne_zero _) rfl rfl (ne_of_lt (n := 0) (Nat.lt_of_lt_of_eq (by decide) (Eq.symm (GToken.len t0))))) ?_
    refine rp rfl rfl (u_ld rfl rfl Tryd.underlying3 rfl rfl ((Sub.refl _).trans (GToken.sub0 t0))) ?_
    refine rp rfl rfl (p_ieq rfl rfl rfl) ?_
    refine rp rfl rfl (p_move rfl rfl) ?_
    refine (Classical.em (t0.Kind = (4 : Int))).elim (fun h3 => ?_) (fun h3 => ?_)
    ·refine r_on rfl rfl rfl rfl (decide_eq_true h3) rfl (PureD.opD (u_fa rfl rfl Tryd.underlying82 rfl in_9 (Nat.succ_ne_zero _) rfl rfl (ne_of_lt (n := 0) (Nat.lt_of_lt_of_eq (by decide) (Eq.symm (GToken.len t0)))))) ?_
     refine r_on rfl rfl rfl rfl (decide_eq_true h3) rfl (PureD.opD (u_ld rfl rfl Tryd.underlying9 rfl rfl ((Sub.refl _).trans (GToken.sub1 t0)))) ?_
     refine r_on rfl rfl rfl rfl (decide_eq_true h3) rfl (PureD.opD (p_lent rfl Tryd.underlying9 rfl)) ?_
     refine r_on rfl rfl rfl rfl (decide_eq_true h3) rfl (PureD.opD (p_bin rfl rfl rfl rfl)) ?_
     refine rp rfl rfl (p_pkt rfl rfl (decide_eq_true h3) (tb ((and_l (p := t0.Kind = (4 : Int)) (q := (t0.Text.length : Int) > (40 : Int)) h3)))) ?_
     refine rp rfl rfl (p_move rfl rfl) ?_
     refine (Classical.em ((t0.Text.length : Int) > (40 : Int))).elim (fun h4 => ?_) (fun h4 => ?_)
     ·have qq1 := decide_eq_true (p := (t0.Kind = (4 : Int)) ∧ ((t0.Text.length : Int) > (40 : Int))) ⟨h3, h4⟩
      iterate 4 (refine r_off rfl rfl rfl rfl qq1 rfl rfl ?_)
      iterate 3 (refine r_off2 rfl rfl rfl rfl rfl rfl ?_)
      iterate 2 (refine r_off rfl rfl rfl rfl qq1 rfl rfl ?_)
      iterate 4 (refine r_off2 rfl rfl rfl rfl rfl rfl ?_)
      refine r_off rfl rfl rfl rfl qq1 rfl rfl ?_
      refine rp rfl rfl (p_pkt rfl rfl qq1 (tb (decide_eq_true (p := ((t0.Kind = (4 : Int)) ∧ ((t0.Text.length : Int) > (40 : Int))) ∨ (((t0.Kind = (1 : Int)) ∨ (t0.Kind = (2 : Int))) ∧ ((t0.Text.length : Int) > (8 : Int)))) (Or.inl ⟨h3, h4⟩)).symm)) ?_
      refine rs [(1, .q 1 (0)), (36, .b (decide (((t0.Kind = (4 : Int)) ∧ ((t0.Text.length : Int) > (40 : Int))) ∨ (((t0.Kind = (1 : Int)) ∨ (t0.Kind = (2 : Int))) ∧ ((t0.Text.length : Int) > (8 : Int))))))] [(1, .pure (GToken.cs t0))] rfl rfl rfl ?_
      exact RunW_nil rfl
     ·have qq2 := decide_eq_false (p := (t0.Kind = (4 : Int)) ∧ ((t0.Text.length : Int) > (40 : Int))) (fun h => h4 h.2)
      refine rn rfl rfl rfl rfl qq2 rfl (u_fa rfl rfl Tryd.underlying82 rfl in_3 (Nat.succ_ne_zero _) rfl rfl (ne_of_lt (n := 0) (Nat.lt_of_lt_of_eq (by decide) (Eq.symm (GToken.len t0))))) ?_
      refine rn rfl rfl rfl rfl qq2 rfl (u_ld rfl rfl Tryd.underlying3 rfl rfl ((Sub.refl _).trans (GToken.sub0 t0))) ?_
      refine rn rfl rfl rfl rfl qq2 rfl (p_ieq rfl rfl rfl) ?_
      refine rn rfl rfl rfl rfl qq2 rfl (p_move rfl rfl) ?_
      refine (Classical.em (t0.Kind = (1 : Int))).elim (fun h5 => ?_) (fun h5 => ?_)
      ·iterate 3 (refine r_off rfl rfl rfl rfl (decide_eq_true h5) rfl rfl ?_)
       have qq3 := decide_eq_true (p := (t0.Kind = (1 : Int)) ∨ (t0.Kind = (2 : Int))) (Or.inl h5)
       refine rn rfl rfl rfl rfl qq2 rfl (p_pkt rfl rfl (decide_eq_true h5) (tb qq3.symm)) ?_
       refine rn rfl rfl rfl rfl qq2 rfl (p_move rfl rfl) ?_
       refine rn rfl rfl rfl rfl qq3 rfl (u_fa rfl rfl Tryd.underlying82 rfl in_9 (Nat.succ_ne_zero _) rfl rfl (ne_of_lt (n := 0) (Nat.lt_of_lt_of_eq (by decide) (Eq.symm (GToken.len t0))))) ?_
       refine rn rfl rfl rfl rfl qq3 rfl (u_ld rfl rfl Tryd.underlying9 rfl rfl ((Sub.refl _).trans (GToken.sub1 t0))) ?_
       refine rn rfl rfl rfl rfl qq3 rfl (p_lent rfl Tryd.underlying9 rfl) ?_
       refine rn rfl rfl rfl rfl qq3 rfl (p_bin rfl rfl rfl rfl) ?_
       refine rn rfl rfl rfl rfl qq2 rfl (p_pkt rfl rfl qq3 (tb ((and_l (p := (t0.Kind = (1 : Int)) ∨ (t0.Kind = (2 : Int))) (q := (t0.Text.length : Int) > (8 : Int)) (Or.inl h5))))) ?_
       refine rp rfl rfl (p_pkf rfl rfl qq2 (tb ((or_l (p := (t0.Kind = (4 : Int)) ∧ ((t0.Text.length : Int) > (40 : Int))) (q := ((t0.Kind = (1 : Int)) ∨ (t0.Kind = (2 : Int))) ∧ ((t0.Text.length : Int) > (8 : Int))) (fun h => h4 h.2))))) ?_
       refine rs [(1, .q 1 (0)), (36, .b (decide (((t0.Kind = (4 : Int)) ∧ ((t0.Text.length : Int) > (40 : Int))) ∨ (((t0.Kind = (1 : Int)) ∨ (t0.Kind = (2 : Int))) ∧ ((t0.Text.length : Int) > (8 : Int))))))] [(1, .pure (GToken.cs t0))] rfl rfl rfl ?_
       exact RunW_nil rfl
      ·refine r_on rfl rfl rfl rfl (decide_eq_false h5) rfl (PureD.opD (u_fa rfl rfl Tryd.underlying82 rfl in_3 (Nat.succ_ne_zero _) rfl rfl (ne_of_lt (n := 0) (Nat.lt_of_lt_of_eq (by decide) (Eq.symm (GToken.len t0)))))) ?_
       refine r_on rfl rfl rfl rfl (decide_eq_false h5) rfl (PureD.opD (u_ld rfl rfl Tryd.underlying3 rfl rfl ((Sub.refl _).trans (GToken.sub0 t0)))) ?_
       refine r_on rfl rfl rfl rfl (decide_eq_false h5) rfl (PureD.opD (p_ieq rfl rfl rfl)) ?_
       refine rn rfl rfl rfl rfl qq2 rfl (p_pkf rfl rfl (decide_eq_false h5) (tb ((or_l (p := t0.Kind = (1 : Int)) (q := t0.Kind = (2 : Int)) h5)))) ?_
       refine rn rfl rfl rfl rfl qq2 rfl (p_move rfl rfl) ?_
       refine (Classical.em (t0.Kind = (2 : Int))).elim (fun h6 => ?_) (fun h6 => ?_)
       ·have qq4 := decide_eq_true (p := (t0.Kind = (1 : Int)) ∨ (t0.Kind = (2 : Int))) (Or.inr h6)
        refine rn rfl rfl rfl rfl qq4 rfl (u_fa rfl rfl Tryd.underlying82 rfl in_9 (Nat.succ_ne_zero _) rfl rfl (ne_of_lt (n := 0) (Nat.lt_of_lt_of_eq (by decide) (Eq.symm (GToken.len t0))))) ?_
        refine rn rfl rfl rfl rfl qq4 rfl (u_ld rfl rfl Tryd.underlying9 rfl rfl ((Sub.refl _).trans (GToken.sub1 t0))) ?_
        refine rn rfl rfl rfl rfl qq4 rfl (p_lent rfl Tryd.underlying9 rfl) ?_
        refine rn rfl rfl rfl rfl qq4 rfl (p_bin rfl rfl rfl rfl) ?_
        refine rn rfl rfl rfl rfl qq2 rfl (p_pkt rfl rfl qq4 (tb ((and_l (p := (t0.Kind = (1 : Int)) ∨ (t0.Kind = (2 : Int))) (q := (t0.Text.length : Int) > (8 : Int)) (Or.inr h6))))) ?_
        refine rp rfl rfl (p_pkf rfl rfl qq2 (tb ((or_l (p := (t0.Kind = (4 : Int)) ∧ ((t0.Text.length : Int) > (40 : Int))) (q := ((t0.Kind = (1 : Int)) ∨ (t0.Kind = (2 : Int))) ∧ ((t0.Text.length : Int) > (8 : Int))) (fun h => h4 h.2))))) ?_
        refine rs [(1, .q 1 (0)), (36, .b (decide (((t0.Kind = (4 : Int)) ∧ ((t0.Text.length : Int) > (40 : Int))) ∨ (((t0.Kind = (1 : Int)) ∨ (t0.Kind = (2 : Int))) ∧ ((t0.Text.length : Int) > (8 : Int))))))] [(1, .pure (GToken.cs t0))] rfl rfl rfl ?_
        exact RunW_nil rfl
       ·have qq5 := decide_eq_false (p := (t0.Kind = (1 : Int)) ∨ (t0.Kind = (2 : Int))) (not_or.2 ⟨h5, h6⟩)
        iterate 4 (refine r_off rfl rfl rfl rfl qq5 rfl rfl ?_)
        refine rn rfl rfl rfl rfl qq2 rfl (p_pkf rfl rfl qq5 (tb (decide_eq_false (p := ((t0.Kind = (1 : Int)) ∨ (t0.Kind = (2 : Int))) ∧ ((t0.Text.length : Int) > (8 : Int))) (fun x => (not_or.2 ⟨h5, h6⟩) x.1)).symm)) ?_
        refine rp rfl rfl (p_pkf rfl rfl qq2 (tb ((or_l (p := (t0.Kind = (4 : Int)) ∧ ((t0.Text.length : Int) > (40 : Int))) (q := ((t0.Kind = (1 : Int)) ∨ (t0.Kind = (2 : Int))) ∧ ((t0.Text.length : Int) > (8 : Int))) (fun h => h4 h.2))))) ?_
        refine rs [(1, .q 1 (0)), (36, .b (decide (((t0.Kind = (4 : Int)) ∧ ((t0.Text.length : Int) > (40 : Int))) ∨ (((t0.Kind = (1 : Int)) ∨ (t0.Kind = (2 : Int))) ∧ ((t0.Text.length : Int) > (8 : Int))))))] [(1, .pure (GToken.cs t0))] rfl rfl rfl ?_
        exact RunW_nil rfl
    ·iterate 4 (refine r_off rfl rfl rfl rfl (decide_eq_false h3) rfl rfl ?_)
     refine rp rfl rfl (p_pkf rfl rfl (decide_eq_false h3) (tb (decide_eq_false (p := (t0.Kind = (4 : Int)) ∧ ((t0.Text.length : Int) > (40 : Int))) (fun x => h3 x.1)).symm)) ?_
     refine rp rfl rfl (p_move rfl rfl) ?_
     have qq6 := decide_eq_false (p := (t0.Kind = (4 : Int)) ∧ ((t0.Text.length : Int) > (40 : Int))) (fun h => h3 h.1)
     refine rn rfl rfl rfl rfl qq6 rfl (u_fa rfl rfl Tryd.underlying82 rfl in_3 (Nat.succ_ne_zero _) rfl rfl (ne_of_lt (n := 0) (Nat.lt_of_lt_of_eq (by decide) (Eq.symm (GToken.len t0))))) ?_
     refine rn rfl rfl rfl rfl qq6 rfl (u_ld rfl rfl Tryd.underlying3 rfl rfl ((Sub.refl _).trans (GToken.sub0 t0))) ?_
     refine rn rfl rfl rfl rfl qq6 rfl (p_ieq rfl rfl rfl) ?_
     refine rn rfl rfl rfl rfl qq6 rfl (p_move rfl rfl) ?_
     refine (Classical.em (t0.Kind = (1 : Int))).elim (fun h7 => ?_) (fun h7 => ?_)
     ·iterate 3 (refine r_off rfl rfl rfl rfl (decide_eq_true h7) rfl rfl ?_)
      have qq7 := decide_eq_true (p := (t0.Kind = (1 : Int)) ∨ (t0.Kind = (2 : Int))) (Or.inl h7)
      refine rn rfl rfl rfl rfl qq6 rfl (p_pkt rfl rfl (decide_eq_true h7) (tb qq7.symm)) ?_
      refine rn rfl rfl rfl rfl qq6 rfl (p_move rfl rfl) ?_
      refine rn rfl rfl rfl rfl qq7 rfl (u_fa rfl rfl Tryd.underlying82 rfl in_9 (Nat.succ_ne_zero _) rfl rfl (ne_of_lt (n := 0) (Nat.lt_of_lt_of_eq (by decide) (Eq.symm (GToken.len t0))))) ?_
      refine rn rfl rfl rfl rfl qq7 rfl (u_ld rfl rfl Tryd.underlying9 rfl rfl ((Sub.refl _).trans (GToken.sub1 t0))) ?_
      refine rn rfl rfl rfl rfl qq7 rfl (p_lent rfl Tryd.underlying9 rfl) ?_
      refine rn rfl rfl rfl rfl qq7 rfl (p_bin rfl rfl rfl rfl) ?_
      refine rn rfl rfl rfl rfl qq6 rfl (p_pkt rfl rfl qq7 (tb ((and_l (p := (t0.Kind = (1 : Int)) ∨ (t0.Kind = (2 : Int))) (q := (t0.Text.length : Int) > (8 : Int)) (Or.inl h7))))) ?_
      refine rp rfl rfl (p_pkf rfl rfl qq6 (tb ((or_l (p := (t0.Kind = (4 : Int)) ∧ ((t0.Text.length : Int) > (40 : Int))) (q := ((t0.Kind = (1 : Int)) ∨ (t0.Kind = (2 : Int))) ∧ ((t0.Text.length : Int) > (8 : Int))) (fun h => h3 h.1))))) ?_
      refine rs [(1, .q 1 (0)), (36, .b (decide (((t0.Kind = (4 : Int)) ∧ ((t0.Text.length : Int) > (40 : Int))) ∨ (((t0.Kind = (1 : Int)) ∨ (t0.Kind = (2 : Int))) ∧ ((t0.Text.length : Int) > (8 : Int))))))] [(1, .pure (GToken.cs t0))] rfl rfl rfl ?_
      exact RunW_nil rfl
     ·refine r_on rfl rfl rfl rfl (decide_eq_false h7) rfl (PureD.opD (u_fa rfl rfl Tryd.underlying82 rfl in_3 (Nat.succ_ne_zero _) rfl rfl (ne_of_lt (n := 0) (Nat.lt_of_lt_of_eq (by decide) (Eq.symm (GToken.len t0)))))) ?_
      refine r_on rfl rfl rfl rfl (decide_eq_false h7) rfl (PureD.opD (u_ld rfl rfl Tryd.underlying3 rfl rfl ((Sub.refl _).trans (GToken.sub0 t0)))) ?_
      refine r_on rfl rfl rfl rfl (decide_eq_false h7) rfl (PureD.opD (p_ieq rfl rfl rfl)) ?_
      refine rn rfl rfl rfl rfl qq6 rfl (p_pkf rfl rfl (decide_eq_false h7) (tb ((or_l (p := t0.Kind = (1 : Int)) (q := t0.Kind = (2 : Int)) h7)))) ?_
      refine rn rfl rfl rfl rfl qq6 rfl (p_move rfl rfl) ?_
      refine (Classical.em (t0.Kind = (2 : Int))).elim (fun h8 => ?_) (fun h8 => ?_)
      ·have qq8 := decide_eq_true (p := (t0.Kind = (1 : Int)) ∨ (t0.Kind = (2 : Int))) (Or.inr h8)
       refine rn rfl rfl rfl rfl qq8 rfl (u_fa rfl rfl Tryd.underlying82 rfl in_9 (Nat.succ_ne_zero _) rfl rfl (ne_of_lt (n := 0) (Nat.lt_of_lt_of_eq (by decide) (Eq.symm (GToken.len t0))))) ?_
       refine rn rfl rfl rfl rfl qq8 rfl (u_ld rfl rfl Tryd.underlying9 rfl rfl ((Sub.refl _).trans (GToken.sub1 t0))) ?_
       refine rn rfl rfl rfl rfl qq8 rfl (p_lent rfl Tryd.underlying9 rfl) ?_
       refine rn rfl rfl rfl rfl qq8 rfl (p_bin rfl rfl rfl rfl) ?_
       refine rn rfl rfl rfl rfl qq6 rfl (p_pkt rfl rfl qq8 (tb ((and_l (p := (t0.Kind = (1 : Int)) ∨ (t0.Kind = (2 : Int))) (q := (t0.Text.length : Int) > (8 : Int)) (Or.inr h8))))) ?_
       refine rp rfl rfl (p_pkf rfl rfl qq6 (tb ((or_l (p := (t0.Kind = (4 : Int)) ∧ ((t0.Text.length : Int) > (40 : Int))) (q := ((t0.Kind = (1 : Int)) ∨ (t0.Kind = (2 : Int))) ∧ ((t0.Text.length : Int) > (8 : Int))) (fun h => h3 h.1))))) ?_
       refine rs [(1, .q 1 (0)), (36, .b (decide (((t0.Kind = (4 : Int)) ∧ ((t0.Text.length : Int) > (40 : Int))) ∨ (((t0.Kind = (1 : Int)) ∨ (t0.Kind = (2 : Int))) ∧ ((t0.Text.length : Int) > (8 : Int))))))] [(1, .pure (GToken.cs t0))] rfl rfl rfl ?_
       exact RunW_nil rfl
      ·have qq9 := decide_eq_false (p := (t0.Kind = (1 : Int)) ∨ (t0.Kind = (2 : Int))) (not_or.2 ⟨h7, h8⟩)
       iterate 4 (refine r_off rfl rfl rfl rfl qq9 rfl rfl ?_)
       refine rn rfl rfl rfl rfl qq6 rfl (p_pkf rfl rfl qq9 (tb (decide_eq_false (p := ((t0.Kind = (1 : Int)) ∨ (t0.Kind = (2 : Int))) ∧ ((t0.Text.length : Int) > (8 : Int))) (fun x => (not_or.2 ⟨h7, h8⟩) x.1)).symm)) ?_
       refine rp rfl rfl (p_pkf rfl rfl qq6 (tb ((or_l (p := (t0.Kind = (4 : Int)) ∧ ((t0.Text.length : Int) > (40 : Int))) (q := ((t0.Kind = (1 : Int)) ∨ (t0.Kind = (2 : Int))) ∧ ((t0.Text.length : Int) > (8 : Int))) (fun h => h3 h.1))))) ?_
       refine rs [(1, .q 1 (0)), (36, .b (decide (((t0.Kind = (4 : Int)) ∧ ((t0.Text.length : Int) > (40 : Int))) ∨ (((t0.Kind = (1 : Int)) ∨ (t0.Kind = (2 : Int))) ∧ ((t0.Text.length : Int) > (8 : Int))))))] [(1, .pure (GToken.cs t0))] rfl rfl rfl ?_
       exact RunW_nil rfl
   ·refine gen1 (fun t36'1 => (⟨[(1, .q 1 (0)), (36, .b t36'1)], [(1, .pure (GToken.cs t0))], 112⟩ : TS)) H ?_
    intro t36'1 H
    refine AW2_cond rfl (fun h9 => ?_) (fun h9 => ?_)
    ·replace H := ite_then h9 H
     refine sg [0] rfl ?_
     refine rp rfl rfl (p_asg rfl rfl) ?_
     refine rz [(2, .i (1 : Int))] [] rfl rfl rfl ?_
     refine AW2_ret ?_
     have hz := some_elim H
     subst hz
     exact ⟨⟨res_tmp (.same _), trivial⟩, trivial⟩
    ·replace H := ite_else (ne_true h9) H
     refine as2 [(1, .q 1 (0))] [(1, .pure (GToken.cs t0))] rfl rfl rfl ?_
     refine AW2_skip ?_
     refine AW2_seq ?_
     refine AW2_seq ?_
     refine AW2_mid (⟨[(1, .q 1 (0)), (69, .b (decide ((((t0.Kind ≠ (3 : Int)) ∧ (t0.Int_ ≠ (0 : Int))) ∨ ((t0.Kind ≠ (5 : Int)) ∧ (t0.Bits ≠ (0 : UInt64)))) ∨ (((t0.Kind = (3 : Int)) ∨ (t0.Kind = (5 : Int))) ∧ (t0.Text ≠ [])))))], [(1, .pure (GToken.cs t0))], 112⟩ : TS) ?_ ?_
     ·refine AW2_reg [0, 1, 2, 3, 4, 5, 6, 7, 8, 9, 10, 11, 12, 13, 14, 15, 16, 17, 18, 19, 20, 21, 22, 23, 24, 25, 26, 27, 28, 29, 30, 31, 32] rfl ?_
      refine rp rfl rfl (u_fa rfl rfl Tryd.underlying82 rfl in_3 (Nat.succ_ne_zero _) rfl rfl (ne_of_lt (n := 0) (Nat.lt_of_lt_of_eq (by decide) (Eq.symm (GToken.len t0))))) ?_
      refine rp rfl rfl (u_ld rfl rfl Tryd.underlying3 rfl rfl ((Sub.refl _).trans (GToken.sub0 t0))) ?_
      refine rp rfl rfl (p_ine rfl rfl rfl) ?_
      refine rp rfl rfl (p_move rfl rfl) ?_
      refine (Classical.em (t0.Kind ≠ (3 : Int))).elim (fun h10 => ?_) (fun h10 => ?_)
      ·refine r_on rfl rfl rfl rfl (decide_eq_true h10) rfl (PureD.opD (u_fa rfl rfl Tryd.underlying82 rfl in_3 (Nat.succ_ne_zero _) rfl rfl (ne_of_lt (n := 0) (Nat.lt_of_lt_of_eq (by decide) (Eq.symm (GToken.len t0)))))) ?_
       refine r_on rfl rfl rfl rfl (decide_eq_true h10) rfl (PureD.opD (u_ld rfl rfl Tryd.underlying3 rfl rfl ((Sub.refl _).trans (GToken.sub2 t0)))) ?_
       refine r_on rfl rfl rfl rfl (decide_eq_true h10) rfl (PureD.opD (p_ine rfl rfl rfl)) ?_
       refine rp rfl rfl (p_pkt rfl rfl (decide_eq_true h10) (tb ((and_l (p := t0.Kind ≠ (3 : Int)) (q := t0.Int_ ≠ (0 : Int)) h10)))) ?_
       refine rp rfl rfl (p_move rfl rfl) ?_
       refine (Classical.em (t0.Int_ ≠ (0 : Int))).elim (fun h11 => ?_) (fun h11 => ?_)
       ·have qq10 := decide_eq_true (p := (t0.Kind ≠ (3 : Int)) ∧ (t0.Int_ ≠ (0 : Int))) ⟨h10, h11⟩
        iterate 4 (refine r_off rfl rfl rfl rfl qq10 rfl rfl ?_)
        iterate 3 (refine r_off2 rfl rfl rfl rfl rfl rfl ?_)
        refine r_off rfl rfl rfl rfl qq10 rfl rfl ?_
        have qq11 := decide_eq_true (p := ((t0.Kind ≠ (3 : Int)) ∧ (t0.Int_ ≠ (0 : Int))) ∨ ((t0.Kind ≠ (5 : Int)) ∧ (t0.Bits ≠ (0 : UInt64)))) (Or.inl ⟨h10, h11⟩)
        refine rp rfl rfl (p_pkt rfl rfl qq10 (tb qq11.symm)) ?_
        refine rp rfl rfl (p_move rfl rfl) ?_
        iterate 4 (refine r_off rfl rfl rfl rfl qq11 rfl rfl ?_)
        iterate 3 (refine r_off2 rfl rfl rfl rfl rfl rfl ?_)
        iterate 2 (refine r_off rfl rfl rfl rfl qq11 rfl rfl ?_)
        iterate 3 (refine r_off2 rfl rfl rfl rfl rfl rfl ?_)
        refine r_off rfl rfl rfl rfl qq11 rfl rfl ?_
        refine rp rfl rfl (p_pkt rfl rfl qq11 (tb (decide_eq_true (p := (((t0.Kind ≠ (3 : Int)) ∧ (t0.Int_ ≠ (0 : Int))) ∨ ((t0.Kind ≠ (5 : Int)) ∧ (t0.Bits ≠ (0 : UInt64)))) ∨ (((t0.Kind = (3 : Int)) ∨ (t0.Kind = (5 : Int))) ∧ (t0.Text ≠ []))) (Or.inl (Or.inl ⟨h10, h11⟩))).symm)) ?_
        refine rs [(1, .q 1 (0)), (69, .b (decide ((((t0.Kind ≠ (3 : Int)) ∧ (t0.Int_ ≠ (0 : Int))) ∨ ((t0.Kind ≠ (5 : Int)) ∧ (t0.Bits ≠ (0 : UInt64)))) ∨ (((t0.Kind = (3 : Int)) ∨ (t0.Kind = (5 : Int))) ∧ (t0.Text ≠ [])))))] [(1, .pure (GToken.cs t0))] rfl rfl rfl ?_
        exact RunW_nil rfl
       ·have qq12 := decide_eq_false (p := (t0.Kind ≠ (3 : Int)) ∧ (t0.Int_ ≠ (0 : Int))) (fun h => h11 h.2)
        refine rn rfl rfl rfl rfl qq12 rfl (u_fa rfl rfl Tryd.underlying82 rfl in_3 (Nat.succ_ne_zero _) rfl rfl (ne_of_lt (n := 0) (Nat.lt_of_lt_of_eq (by decide) (Eq.symm (GToken.len t0))))) ?_
        refine rn rfl rfl rfl rfl qq12 rfl (u_ld rfl rfl Tryd.underlying3 rfl rfl ((Sub.refl _).trans (GToken.sub0 t0))) ?_
        refine rn rfl rfl rfl rfl qq12 rfl (p_ine rfl rfl rfl) ?_
        refine rn rfl rfl rfl rfl qq12 rfl (p_move rfl rfl) ?_
        refine (Classical.em (t0.Kind ≠ (5 : Int))).elim (fun h12 => ?_) (fun h12 => ?_)
        ·refine r_on rfl rfl rfl rfl (decide_eq_true h12) rfl (PureD.opD (u_fa rfl rfl Tryd.underlying82 rfl in_22 (Nat.succ_ne_zero _) rfl rfl (ne_of_lt (n := 0) (Nat.lt_of_lt_of_eq (by decide) (Eq.symm (GToken.len t0)))))) ?_
         refine r_on rfl rfl rfl rfl (decide_eq_true h12) rfl (PureD.opD (u_ld rfl rfl Tryd.underlying22 rfl rfl ((Sub.refl _).trans (GToken.sub3 t0)))) ?_
         refine r_on rfl rfl rfl rfl (decide_eq_true h12) rfl (PureD.opD (p_u64ne (a := t0.Bits) (b := (0 : UInt64)) rfl rfl rfl)) ?_
         refine rn rfl rfl rfl rfl qq12 rfl (p_pkt rfl rfl (decide_eq_true h12) (tb ((and_l (p := t0.Kind ≠ (5 : Int)) (q := t0.Bits ≠ (0 : UInt64)) h12)))) ?_
         refine rp rfl rfl (p_pkf rfl rfl qq12 (tb ((or_l (p := (t0.Kind ≠ (3 : Int)) ∧ (t0.Int_ ≠ (0 : Int))) (q := (t0.Kind ≠ (5 : Int)) ∧ (t0.Bits ≠ (0 : UInt64))) (fun h => h11 h.2))))) ?_
         refine rp rfl rfl (p_move rfl rfl) ?_
         refine (Classical.em (t0.Bits ≠ (0 : UInt64))).elim (fun h13 => ?_) (fun h13 => ?_)
         ·have qq13 := decide_eq_true (p := ((t0.Kind ≠ (3 : Int)) ∧ (t0.Int_ ≠ (0 : Int))) ∨ ((t0.Kind ≠ (5 : Int)) ∧ (t0.Bits ≠ (0 : UInt64)))) (Or.inr ⟨h12, h13⟩)
          iterate 4 (refine r_off rfl rfl rfl rfl qq13 rfl rfl ?_)
          iterate 3 (refine r_off2 rfl rfl rfl rfl rfl rfl ?_)
          iterate 2 (refine r_off rfl rfl rfl rfl qq13 rfl rfl ?_)
          iterate 3 (refine r_off2 rfl rfl rfl rfl rfl rfl ?_)
          refine r_off rfl rfl rfl rfl qq13 rfl rfl ?_
          refine rp rfl rfl (p_pkt rfl rfl qq13 (tb (decide_eq_true (p := (((t0.Kind ≠ (3 : Int)) ∧ (t0.Int_ ≠ (0 : Int))) ∨ ((t0.Kind ≠ (5 : Int)) ∧ (t0.Bits ≠ (0 : UInt64)))) ∨ (((t0.Kind = (3 : Int)) ∨ (t0.Kind = (5 : Int))) ∧ (t0.Text ≠ []))) (Or.inl (Or.inr ⟨h12, h13⟩))).symm)) ?_
          refine rs [(1, .q 1 (0)), (69, .b (decide ((((t0.Kind ≠ (3 : Int)) ∧ (t0.Int_ ≠ (0 : Int))) ∨ ((t0.Kind ≠ (5 : Int)) ∧ (t0.Bits ≠ (0 : UInt64)))) ∨ (((t0.Kind = (3 : Int)) ∨ (t0.Kind = (5 : Int))) ∧ (t0.Text ≠ [])))))] [(1, .pure (GToken.cs t0))] rfl rfl rfl ?_
          exact RunW_nil rfl
         ·have qq14 := decide_eq_false (p := ((t0.Kind ≠ (3 : Int)) ∧ (t0.Int_ ≠ (0 : Int))) ∨ ((t0.Kind ≠ (5 : Int)) ∧ (t0.Bits ≠ (0 : UInt64)))) (not_or.2 ⟨(fun h => h11 h.2), (fun h => h13 h.2)⟩)
          refine rn rfl rfl rfl rfl qq14 rfl (u_fa rfl rfl Tryd.underlying82 rfl in_3 (Nat.succ_ne_zero _) rfl rfl (ne_of_lt (n := 0) (Nat.lt_of_lt_of_eq (by decide) (Eq.symm (GToken.len t0))))) ?_
          refine rn rfl rfl rfl rfl qq14 rfl (u_ld rfl rfl Tryd.underlying3 rfl rfl ((Sub.refl _).trans (GToken.sub0 t0))) ?_
          refine rn rfl rfl rfl rfl qq14 rfl (p_ieq rfl rfl rfl) ?_
          refine rn rfl rfl rfl rfl qq14 rfl (p_move rfl rfl) ?_
          refine (Classical.em (t0.Kind = (3 : Int))).elim (fun h14 => ?_) (fun h14 => ?_)
          ·iterate 3 (refine r_off rfl rfl rfl rfl (decide_eq_true h14) rfl rfl ?_)
           have qq15 := decide_eq_true (p := (t0.Kind = (3 : Int)) ∨ (t0.Kind = (5 : Int))) (Or.inl h14)
           refine rn rfl rfl rfl rfl qq14 rfl (p_pkt rfl rfl (decide_eq_true h14) (tb qq15.symm)) ?_
           refine rn rfl rfl rfl rfl qq14 rfl (p_move rfl rfl) ?_
           refine rn rfl rfl rfl rfl qq15 rfl (u_fa rfl rfl Tryd.underlying82 rfl in_9 (Nat.succ_ne_zero _) rfl rfl (ne_of_lt (n := 0) (Nat.lt_of_lt_of_eq (by decide) (Eq.symm (GToken.len t0))))) ?_
           refine rn rfl rfl rfl rfl qq15 rfl (u_ld rfl rfl Tryd.underlying9 rfl rfl ((Sub.refl _).trans (GToken.sub1 t0))) ?_
           refine rn rfl rfl rfl rfl qq15 rfl (p_sne rfl rfl rfl) ?_
           refine rn rfl rfl rfl rfl qq14 rfl (p_pkt rfl rfl qq15 (tb ((and_l (p := (t0.Kind = (3 : Int)) ∨ (t0.Kind = (5 : Int))) (q := t0.Text ≠ []) (Or.inl h14))))) ?_
           refine rp rfl rfl (p_pkf rfl rfl qq14 (tb ((or_l (p := ((t0.Kind ≠ (3 : Int)) ∧ (t0.Int_ ≠ (0 : Int))) ∨ ((t0.Kind ≠ (5 : Int)) ∧ (t0.Bits ≠ (0 : UInt64)))) (q := ((t0.Kind = (3 : Int)) ∨ (t0.Kind = (5 : Int))) ∧ (t0.Text ≠ [])) (not_or.2 ⟨(fun h => h11 h.2), (fun h => h13 h.2)⟩))))) ?_
           refine rs [(1, .q 1 (0)), (69, .b (decide ((((t0.Kind ≠ (3 : Int)) ∧ (t0.Int_ ≠ (0 : Int))) ∨ ((t0.Kind ≠ (5 : Int)) ∧ (t0.Bits ≠ (0 : UInt64)))) ∨ (((t0.Kind = (3 : Int)) ∨ (t0.Kind = (5 : Int))) ∧ (t0.Text ≠ [])))))] [(1, .pure (GToken.cs t0))] rfl rfl rfl ?_
           exact RunW_nil rfl
          ·refine r_on rfl rfl rfl rfl (decide_eq_false h14) rfl (PureD.opD (u_fa rfl rfl Tryd.underlying82 rfl in_3 (Nat.succ_ne_zero _) rfl rfl (ne_of_lt (n := 0) (Nat.lt_of_lt_of_eq (by decide) (Eq.symm (GToken.len t0)))))) ?_
           refine r_on rfl rfl rfl rfl (decide_eq_false h14) rfl (PureD.opD (u_ld rfl rfl Tryd.underlying3 rfl rfl ((Sub.refl _).trans (GToken.sub0 t0)))) ?_
           refine r_on rfl rfl rfl rfl (decide_eq_false h14) rfl (PureD.opD (p_ieq rfl rfl rfl)) ?_
           refine rn rfl rfl rfl rfl qq14 rfl (p_pkf rfl rfl (decide_eq_false h14) (tb ((or_l (p := t0.Kind = (3 : Int)) (q := t0.Kind = (5 : Int)) h14)))) ?_
           refine rn rfl rfl rfl rfl qq14 rfl (p_move rfl rfl) ?_
           refine (Classical.em (t0.Kind = (5 : Int))).elim (fun h15 => ?_) (fun h15 => ?_)
           ·have qq16 := decide_eq_true (p := (t0.Kind = (3 : Int)) ∨ (t0.Kind = (5 : Int))) (Or.inr h15)
            refine rn rfl rfl rfl rfl qq16 rfl (u_fa rfl rfl Tryd.underlying82 rfl in_9 (Nat.succ_ne_zero _) rfl rfl (ne_of_lt (n := 0) (Nat.lt_of_lt_of_eq (by decide) (Eq.symm (GToken.len t0))))) ?_
            refine rn rfl rfl rfl rfl qq16 rfl (u_ld rfl rfl Tryd.underlying9 rfl rfl ((Sub.refl _).trans (GToken.sub1 t0))) ?_
            refine rn rfl rfl rfl rfl qq16 rfl (p_sne rfl rfl rfl) ?_
            refine rn rfl rfl rfl rfl qq14 rfl (p_pkt rfl rfl qq16 (tb ((and_l (p := (t0.Kind = (3 : Int)) ∨ (t0.Kind = (5 : Int))) (q := t0.Text ≠ []) (Or.inr h15))))) ?_
            refine rp rfl rfl (p_pkf rfl rfl qq14 (tb ((or_l (p := ((t0.Kind ≠ (3 : Int)) ∧ (t0.Int_ ≠ (0 : Int))) ∨ ((t0.Kind ≠ (5 : Int)) ∧ (t0.Bits ≠ (0 : UInt64)))) (q := ((t0.Kind = (3 : Int)) ∨ (t0.Kind = (5 : Int))) ∧ (t0.Text ≠ [])) (not_or.2 ⟨(fun h => h11 h.2), (fun h => h13 h.2)⟩))))) ?_
            refine rs [(1, .q 1 (0)), (69, .b (decide ((((t0.Kind ≠ (3 : Int)) ∧ (t0.Int_ ≠ (0 : Int))) ∨ ((t0.Kind ≠ (5 : Int)) ∧ (t0.Bits ≠ (0 : UInt64)))) ∨ (((t0.Kind = (3 : Int)) ∨ (t0.Kind = (5 : Int))) ∧ (t0.Text ≠ [])))))] [(1, .pure (GToken.cs t0))] rfl rfl rfl ?_
            exact RunW_nil rfl
           ·have qq17 := decide_eq_false (p := (t0.Kind = (3 : Int)) ∨ (t0.Kind = (5 : Int))) (not_or.2 ⟨h14, h15⟩)
            iterate 3 (refine r_off rfl rfl rfl rfl qq17 rfl rfl ?_)
            refine rn rfl rfl rfl rfl qq14 rfl (p_pkf rfl rfl qq17 (tb (decide_eq_false (p := ((t0.Kind = (3 : Int)) ∨ (t0.Kind = (5 : Int))) ∧ (t0.Text ≠ [])) (fun x => (not_or.2 ⟨h14, h15⟩) x.1)).symm)) ?_
            refine rp rfl rfl (p_pkf rfl rfl qq14 (tb ((or_l (p := ((t0.Kind ≠ (3 : Int)) ∧ (t0.Int_ ≠ (0 : Int))) ∨ ((t0.Kind ≠ (5 : Int)) ∧ (t0.Bits ≠ (0 : UInt64)))) (q := ((t0.Kind = (3 : Int)) ∨ (t0.Kind = (5 : Int))) ∧ (t0.Text ≠ [])) (not_or.2 ⟨(fun h => h11 h.2), (fun h => h13 h.2)⟩))))) ?_
            refine rs [(1, .q 1 (0)), (69, .b (decide ((((t0.Kind ≠ (3 : Int)) ∧ (t0.Int_ ≠ (0 : Int))) ∨ ((t0.Kind ≠ (5 : Int)) ∧ (t0.Bits ≠ (0 : UInt64)))) ∨ (((t0.Kind = (3 : Int)) ∨ (t0.Kind = (5 : Int))) ∧ (t0.Text ≠ [])))))] [(1, .pure (GToken.cs t0))] rfl rfl rfl ?_
            exact RunW_nil rfl
        ·iterate 3 (refine r_off rfl rfl rfl rfl (decide_eq_false h12) rfl rfl ?_)
         refine rn rfl rfl rfl rfl qq12 rfl (p_pkf rfl rfl (decide_eq_false h12) (tb (decide_eq_false (p := (t0.Kind ≠ (5 : Int)) ∧ (t0.Bits ≠ (0 : UInt64))) (fun x => h12 x.1)).symm)) ?_
         refine rp rfl rfl (p_pkf rfl rfl qq12 (tb ((or_l (p := (t0.Kind ≠ (3 : Int)) ∧ (t0.Int_ ≠ (0 : Int))) (q := (t0.Kind ≠ (5 : Int)) ∧ (t0.Bits ≠ (0 : UInt64))) (fun h => h11 h.2))))) ?_
         refine rp rfl rfl (p_move rfl rfl) ?_
         have qq18 := decide_eq_false (p := ((t0.Kind ≠ (3 : Int)) ∧ (t0.Int_ ≠ (0 : Int))) ∨ ((t0.Kind ≠ (5 : Int)) ∧ (t0.Bits ≠ (0 : UInt64)))) (not_or.2 ⟨(fun h => h11 h.2), (fun h => h12 h.1)⟩)
         refine rn rfl rfl rfl rfl qq18 rfl (u_fa rfl rfl Tryd.underlying82 rfl in_3 (Nat.succ_ne_zero _) rfl rfl (ne_of_lt (n := 0) (Nat.lt_of_lt_of_eq (by decide) (Eq.symm (GToken.len t0))))) ?_
         refine rn rfl rfl rfl rfl qq18 rfl (u_ld rfl rfl Tryd.underlying3 rfl rfl ((Sub.refl _).trans (GToken.sub0 t0))) ?_
         refine rn rfl rfl rfl rfl qq18 rfl (p_ieq rfl rfl rfl) ?_
         refine rn rfl rfl rfl rfl qq18 rfl (p_move rfl rfl) ?_
         refine (Classical.em (t0.Kind = (3 : Int))).elim (fun h16 => ?_) (fun h16 => ?_)
         ·iterate 3 (refine r_off rfl rfl rfl rfl (decide_eq_true h16) rfl rfl ?_)
          have qq19 := decide_eq_true (p := (t0.Kind = (3 : Int)) ∨ (t0.Kind = (5 : Int))) (Or.inl h16)
          refine rn rfl rfl rfl rfl qq18 rfl (p_pkt rfl rfl (decide_eq_true h16) (tb qq19.symm)) ?_
          refine rn rfl rfl rfl rfl qq18 rfl (p_move rfl rfl) ?_
          refine rn rfl rfl rfl rfl qq19 rfl (u_fa rfl rfl Tryd.underlying82 rfl in_9 (Nat.succ_ne_zero _) rfl rfl (ne_of_lt (n := 0) (Nat.lt_of_lt_of_eq (by decide) (Eq.symm (GToken.len t0))))) ?_
          refine rn rfl rfl rfl rfl qq19 rfl (u_ld rfl rfl Tryd.underlying9 rfl rfl ((Sub.refl _).trans (GToken.sub1 t0))) ?_
          refine rn rfl rfl rfl rfl qq19 rfl (p_sne rfl rfl rfl) ?_
          refine rn rfl rfl rfl rfl qq18 rfl (p_pkt rfl rfl qq19 (tb ((and_l (p := (t0.Kind = (3 : Int)) ∨ (t0.Kind = (5 : Int))) (q := t0.Text ≠ []) (Or.inl h16))))) ?_
          refine rp rfl rfl (p_pkf rfl rfl qq18 (tb ((or_l (p := ((t0.Kind ≠ (3 : Int)) ∧ (t0.Int_ ≠ (0 : Int))) ∨ ((t0.Kind ≠ (5 : Int)) ∧ (t0.Bits ≠ (0 : UInt64)))) (q := ((t0.Kind = (3 : Int)) ∨ (t0.Kind = (5 : Int))) ∧ (t0.Text ≠ [])) (not_or.2 ⟨(fun h => h11 h.2), (fun h => h12 h.1)⟩))))) ?_
          refine rs [(1, .q 1 (0)), (69, .b (decide ((((t0.Kind ≠ (3 : Int)) ∧ (t0.Int_ ≠ (0 : Int))) ∨ ((t0.Kind ≠ (5 : Int)) ∧ (t0.Bits ≠ (0 : UInt64)))) ∨ (((t0.Kind = (3 : Int)) ∨ (t0.Kind = (5 : Int))) ∧ (t0.Text ≠ [])))))] [(1, .pure (GToken.cs t0))] rfl rfl rfl ?_
          exact RunW_nil rfl
         ·refine r_on rfl rfl rfl rfl (decide_eq_false h16) rfl (PureD.opD (u_fa rfl rfl Tryd.underlying82 rfl in_3 (Nat.succ_ne_zero _) rfl rfl (ne_of_lt (n := 0) (Nat.lt_of_lt_of_eq (by decide) (Eq.symm (GToken.len t0)))))) ?_
          refine r_on rfl rfl rfl rfl (decide_eq_false h16) rfl (PureD.opD (u_ld rfl rfl Tryd.underlying3 rfl rfl ((Sub.refl _).trans (GToken.sub0 t0)))) ?_
          refine r_on rfl rfl rfl rfl (decide_eq_false h16) rfl (PureD.opD (p_ieq rfl rfl rfl)) ?_
          refine rn rfl rfl rfl rfl qq18 rfl (p_pkf rfl rfl (decide_eq_false h16) (tb ((or_l (p := t0.Kind = (3 : Int)) (q := t0.Kind = (5 : Int)) h16)))) ?_
          refine rn rfl rfl rfl rfl qq18 rfl (p_move rfl rfl) ?_
          refine (Classical.em (t0.Kind = (5 : Int))).elim (fun h17 => ?_) (fun h17 => ?_)
          ·have qq20 := decide_eq_true (p := (t0.Kind = (3 : Int)) ∨ (t0.Kind = (5 : Int))) (Or.inr h17)
           refine rn rfl rfl rfl rfl qq20 rfl (u_fa rfl rfl Tryd.underlying82 rfl in_9 (Nat.succ_ne_zero _) rfl rfl (ne_of_lt (n := 0) (Nat.lt_of_lt_of_eq (by decide) (Eq.symm (GToken.len t0))))) ?_
           refine rn rfl rfl rfl rfl qq20 rfl (u_ld rfl rfl Tryd.underlying9 rfl rfl ((Sub.refl _).trans (GToken.sub1 t0))) ?_
           refine rn rfl rfl rfl rfl qq20 rfl (p_sne rfl rfl rfl) ?_
           refine rn rfl rfl rfl rfl qq18 rfl (p_pkt rfl rfl qq20 (tb ((and_l (p := (t0.Kind = (3 : Int)) ∨ (t0.Kind = (5 : Int))) (q := t0.Text ≠ []) (Or.inr h17))))) ?_
           refine rp rfl rfl (p_pkf rfl rfl qq18 (tb ((or_l (p := ((t0.Kind ≠ (3 : Int)) ∧ (t0.Int_ ≠ (0 : Int))) ∨ ((t0.Kind ≠ (5 : Int)) ∧ (t0.Bits ≠ (0 : UInt64)))) (q := ((t0.Kind = (3 : Int)) ∨ (t0.Kind = (5 : Int))) ∧ (t0.Text ≠ [])) (not_or.2 ⟨(fun h => h11 h.2), (fun h => h12 h.1)⟩))))) ?_
           refine rs [(1, .q 1 (0)), (69, .b (decide ((((t0.Kind ≠ (3 : Int)) ∧ (t0.Int_ ≠ (0 : Int))) ∨ ((t0.Kind ≠ (5 : Int)) ∧ (t0.Bits ≠ (0 : UInt64)))) ∨ (((t0.Kind = (3 : Int)) ∨ (t0.Kind = (5 : Int))) ∧ (t0.Text ≠ [])))))] [(1, .pure (GToken.cs t0))] rfl rfl rfl ?_
           exact RunW_nil rfl
          ·have qq21 := decide_eq_false (p := (t0.Kind = (3 : Int)) ∨ (t0.Kind = (5 : Int))) (not_or.2 ⟨h16, h17⟩)
           iterate 3 (refine r_off rfl rfl rfl rfl qq21 rfl rfl ?_)
           refine rn rfl rfl rfl rfl qq18 rfl (p_pkf rfl rfl qq21 (tb (decide_eq_false (p := ((t0.Kind = (3 : Int)) ∨ (t0.Kind = (5 : Int))) ∧ (t0.Text ≠ [])) (fun x => (not_or.2 ⟨h16, h17⟩) x.1)).symm)) ?_
           refine rp rfl rfl (p_pkf rfl rfl qq18 (tb ((or_l (p := ((t0.Kind ≠ (3 : Int)) ∧ (t0.Int_ ≠ (0 : Int))) ∨ ((t0.Kind ≠ (5 : Int)) ∧ (t0.Bits ≠ (0 : UInt64)))) (q := ((t0.Kind = (3 : Int)) ∨ (t0.Kind = (5 : Int))) ∧ (t0.Text ≠ [])) (not_or.2 ⟨(fun h => h11 h.2), (fun h => h12 h.1)⟩))))) ?_
           refine rs [(1, .q 1 (0)), (69, .b (decide ((((t0.Kind ≠ (3 : Int)) ∧ (t0.Int_ ≠ (0 : Int))) ∨ ((t0.Kind ≠ (5 : Int)) ∧ (t0.Bits ≠ (0 : UInt64)))) ∨ (((t0.Kind = (3 : Int)) ∨ (t0.Kind = (5 : Int))) ∧ (t0.Text ≠ [])))))] [(1, .pure (GToken.cs t0))] rfl rfl rfl ?_
           exact RunW_nil rfl
      ·iterate 3 (refine r_off rfl rfl rfl rfl (decide_eq_false h10) rfl rfl ?_)
       refine rp rfl rfl (p_pkf rfl rfl (decide_eq_false h10) (tb (decide_eq_false (p := (t0.Kind ≠ (3 : Int)) ∧ (t0.Int_ ≠ (0 : Int))) (fun x => h10 x.1)).symm)) ?_
       refine rp rfl rfl (p_move rfl rfl) ?_
       have qq22 := decide_eq_false (p := (t0.Kind ≠ (3 : Int)) ∧ (t0.Int_ ≠ (0 : Int))) (fun h => h10 h.1)
       refine rn rfl rfl rfl rfl qq22 rfl (u_fa rfl rfl Tryd.underlying82 rfl in_3 (Nat.succ_ne_zero _) rfl rfl (ne_of_lt (n := 0) (Nat.lt_of_lt_of_eq (by decide) (Eq.symm (GToken.len t0))))) ?_
       refine rn rfl rfl rfl rfl qq22 rfl (u_ld rfl rfl Tryd.underlying3 rfl rfl ((Sub.refl _).trans (GToken.sub0 t0))) ?_
       refine rn rfl rfl rfl rfl qq22 rfl (p_ine rfl rfl rfl) ?_
       refine rn rfl rfl rfl rfl qq22 rfl (p_move rfl rfl) ?_
       refine (Classical.em (t0.Kind ≠ (5 : Int))).elim (fun h18 => ?_) (fun h18 => ?_)
       ·refine r_on rfl rfl rfl rfl (decide_eq_true h18) rfl (PureD.opD (u_fa rfl rfl Tryd.underlying82 rfl in_22 (Nat.succ_ne_zero _) rfl rfl (ne_of_lt (n := 0) (Nat.lt_of_lt_of_eq (by decide) (Eq.symm (GToken.len t0)))))) ?_
        refine r_on rfl rfl rfl rfl (decide_eq_true h18) rfl (PureD.opD (u_ld rfl rfl Tryd.underlying22 rfl rfl ((Sub.refl _).trans (GToken.sub3 t0)))) ?_
        refine r_on rfl rfl rfl rfl (decide_eq_true h18) rfl (PureD.opD (p_u64ne (a := t0.Bits) (b := (0 : UInt64)) rfl rfl rfl)) ?_
        refine rn rfl rfl rfl rfl qq22 rfl (p_pkt rfl rfl (decide_eq_true h18) (tb ((and_l (p := t0.Kind ≠ (5 : Int)) (q := t0.Bits ≠ (0 : UInt64)) h18)))) ?_
        refine rp rfl rfl (p_pkf rfl rfl qq22 (tb ((or_l (p := (t0.Kind ≠ (3 : Int)) ∧ (t0.Int_ ≠ (0 : Int))) (q := (t0.Kind ≠ (5 : Int)) ∧ (t0.Bits ≠ (0 : UInt64))) (fun h => h10 h.1))))) ?_
        refine rp rfl rfl (p_move rfl rfl) ?_
        refine (Classical.em (t0.Bits ≠ (0 : UInt64))).elim (fun h19 => ?_) (fun h19 => ?_)
        ·have qq23 := decide_eq_true (p := ((t0.Kind ≠ (3 : Int)) ∧ (t0.Int_ ≠ (0 : Int))) ∨ ((t0.Kind ≠ (5 : Int)) ∧ (t0.Bits ≠ (0 : UInt64)))) (Or.inr ⟨h18, h19⟩)
         iterate 4 (refine r_off rfl rfl rfl rfl qq23 rfl rfl ?_)
         iterate 3 (refine r_off2 rfl rfl rfl rfl rfl rfl ?_)
         iterate 2 (refine r_off rfl rfl rfl rfl qq23 rfl rfl ?_)
         iterate 3 (refine r_off2 rfl rfl rfl rfl rfl rfl ?_)
         refine r_off rfl rfl rfl rfl qq23 rfl rfl ?_
         refine rp rfl rfl (p_pkt rfl rfl qq23 (tb (decide_eq_true (p := (((t0.Kind ≠ (3 : Int)) ∧ (t0.Int_ ≠ (0 : Int))) ∨ ((t0.Kind ≠ (5 : Int)) ∧ (t0.Bits ≠ (0 : UInt64)))) ∨ (((t0.Kind = (3 : Int)) ∨ (t0.Kind = (5 : Int))) ∧ (t0.Text ≠ []))) (Or.inl (Or.inr ⟨h18, h19⟩))).symm)) ?_
         refine rs [(1, .q 1 (0)), (69, .b (decide ((((t0.Kind ≠ (3 : Int)) ∧ (t0.Int_ ≠ (0 : Int))) ∨ ((t0.Kind ≠ (5 : Int)) ∧ (t0.Bits ≠ (0 : UInt64)))) ∨ (((t0.Kind = (3 : Int)) ∨ (t0.Kind = (5 : Int))) ∧ (t0.Text ≠ [])))))] [(1, .pure (GToken.cs t0))] rfl rfl rfl ?_
         exact RunW_nil rfl
        ·have qq24 := decide_eq_false (p := ((t0.Kind ≠ (3 : Int)) ∧ (t0.Int_ ≠ (0 : Int))) ∨ ((t0.Kind ≠ (5 : Int)) ∧ (t0.Bits ≠ (0 : UInt64)))) (not_or.2 ⟨(fun h => h10 h.1), (fun h => h19 h.2)⟩)
         refine rn rfl rfl rfl rfl qq24 rfl (u_fa rfl rfl Tryd.underlying82 rfl in_3 (Nat.succ_ne_zero _) rfl rfl (ne_of_lt (n := 0) (Nat.lt_of_lt_of_eq (by decide) (Eq.symm (GToken.len t0))))) ?_
         refine rn rfl rfl rfl rfl qq24 rfl (u_ld rfl rfl Tryd.underlying3 rfl rfl ((Sub.refl _).trans (GToken.sub0 t0))) ?_
         refine rn rfl rfl rfl rfl qq24 rfl (p_ieq rfl rfl rfl) ?_
         refine rn rfl rfl rfl rfl qq24 rfl (p_move rfl rfl) ?_
         refine (Classical.em (t0.Kind = (3 : Int))).elim (fun h20 => ?_) (fun h20 => ?_)
         ·iterate 3 (refine r_off rfl rfl rfl rfl (decide_eq_true h20) rfl rfl ?_)
          have qq25 := decide_eq_true (p := (t0.Kind = (3 : Int)) ∨ (t0.Kind = (5 : Int))) (Or.inl h20)
          refine rn rfl rfl rfl rfl qq24 rfl (p_pkt rfl rfl (decide_eq_true h20) (tb qq25.symm)) ?_
          refine rn rfl rfl rfl rfl qq24 rfl (p_move rfl rfl) ?_
          refine rn rfl rfl rfl rfl qq25 rfl (u_fa rfl rfl Tryd.underlying82 rfl in_9 (Nat.succ_ne_zero _) rfl rfl (ne_of_lt (n := 0) (Nat.lt_of_lt_of_eq (by decide) (Eq.symm (GToken.len t0))))) ?_
          refine rn rfl rfl rfl rfl qq25 rfl (u_ld rfl rfl Tryd.underlying9 rfl rfl ((Sub.refl _).trans (GToken.sub1 t0))) ?_
          refine rn rfl rfl rfl rfl qq25 rfl (p_sne rfl rfl rfl) ?_
          refine rn rfl rfl rfl rfl qq24 rfl (p_pkt rfl rfl qq25 (tb ((and_l (p := (t0.Kind = (3 : Int)) ∨ (t0.Kind = (5 : Int))) (q := t0.Text ≠ []) (Or.inl h20))))) ?_
          refine rp rfl rfl (p_pkf rfl rfl qq24 (tb ((or_l (p := ((t0.Kind ≠ (3 : Int)) ∧ (t0.Int_ ≠ (0 : Int))) ∨ ((t0.Kind ≠ (5 : Int)) ∧ (t0.Bits ≠ (0 : UInt64)))) (q := ((t0.Kind = (3 : Int)) ∨ (t0.Kind = (5 : Int))) ∧ (t0.Text ≠ [])) (not_or.2 ⟨(fun h => h10 h.1), (fun h => h19 h.2)⟩))))) ?_
          refine rs [(1, .q 1 (0)), (69, .b (decide ((((t0.Kind ≠ (3 : Int)) ∧ (t0.Int_ ≠ (0 : Int))) ∨ ((t0.Kind ≠ (5 : Int)) ∧ (t0.Bits ≠ (0 : UInt64)))) ∨ (((t0.Kind = (3 : Int)) ∨ (t0.Kind = (5 : Int))) ∧ (t0.Text ≠ [])))))] [(1, .pure (GToken.cs t0))] rfl rfl rfl ?_
          exact RunW_nil rfl
         ·refine r_on rfl rfl rfl rfl (decide_eq_false h20) rfl (PureD.opD (u_fa rfl rfl Tryd.underlying82 rfl in_3 (Nat.succ_ne_zero _) rfl rfl (ne_of_lt (n := 0) (Nat.lt_of_lt_of_eq (by decide) (Eq.symm (GToken.len t0)))))) ?_
          refine r_on rfl rfl rfl rfl (decide_eq_false h20) rfl (PureD.opD (u_ld rfl rfl Tryd.underlying3 rfl rfl ((Sub.refl _).trans (GToken.sub0 t0)))) ?_
          refine r_on rfl rfl rfl rfl (decide_eq_false h20) rfl (PureD.opD (p_ieq rfl rfl rfl)) ?_
          refine rn rfl rfl rfl rfl qq24 rfl (p_pkf rfl rfl (decide_eq_false h20) (tb ((or_l (p := t0.Kind = (3 : Int)) (q := t0.Kind = (5 : Int)) h20)))) ?_
          refine rn rfl rfl rfl rfl qq24 rfl (p_move rfl rfl) ?_
          refine (Classical.em (t0.Kind = (5 : Int))).elim (fun h21 => ?_) (fun h21 => ?_)
          ·have qq26 := decide_eq_true (p := (t0.Kind = (3 : Int)) ∨ (t0.Kind = (5 : Int))) (Or.inr h21)
           refine rn rfl rfl rfl rfl qq26 rfl (u_fa rfl rfl Tryd.underlying82 rfl in_9 (Nat.succ_ne_zero _) rfl rfl (ne_of_lt (n := 0) (Nat.lt_of_lt_of_eq (by decide) (Eq.symm (GToken.len t0))))) ?_
           refine rn rfl rfl rfl rfl qq26 rfl (u_ld rfl rfl Tryd.underlying9 rfl rfl ((Sub.refl _).trans (GToken.sub1 t0))) ?_
           refine rn rfl rfl rfl rfl qq26 rfl (p_sne rfl rfl rfl) ?_
           refine rn rfl rfl rfl rfl qq24 rfl (p_pkt rfl rfl qq26 (tb ((and_l (p := (t0.Kind = (3 : Int)) ∨ (t0.Kind = (5 : Int))) (q := t0.Text ≠ []) (Or.inr h21))))) ?_
           refine rp rfl rfl (p_pkf rfl rfl qq24 (tb ((or_l (p := ((t0.Kind ≠ (3 : Int)) ∧ (t0.Int_ ≠ (0 : Int))) ∨ ((t0.Kind ≠ (5 : Int)) ∧ (t0.Bits ≠ (0 : UInt64)))) (q := ((t0.Kind = (3 : Int)) ∨ (t0.Kind = (5 : Int))) ∧ (t0.Text ≠ [])) (not_or.2 ⟨(fun h => h10 h.1), (fun h => h19 h.2)⟩))))) ?_
           refine rs [(1, .q 1 (0)), (69, .b (decide ((((t0.Kind ≠ (3 : Int)) ∧ (t0.Int_ ≠ (0 : Int))) ∨ ((t0.Kind ≠ (5 : Int)) ∧ (t0.Bits ≠ (0 : UInt64)))) ∨ (((t0.Kind = (3 : Int)) ∨ (t0.Kind = (5 : Int))) ∧ (t0.Text ≠ [])))))] [(1, .pure (GToken.cs t0))] rfl rfl rfl ?_
           exact RunW_nil rfl
          ·have qq27 := decide_eq_false (p := (t0.Kind = (3 : Int)) ∨ (t0.Kind = (5 : Int))) (not_or.2 ⟨h20, h21⟩)
           iterate 3 (refine r_off rfl rfl rfl rfl qq27 rfl rfl ?_)
           refine rn rfl rfl rfl rfl qq24 rfl (p_pkf rfl rfl qq27 (tb (decide_eq_false (p := ((t0.Kind = (3 : Int)) ∨ (t0.Kind = (5 : Int))) ∧ (t0.Text ≠ [])) (fun x => (not_or.2 ⟨h20, h21⟩) x.1)).symm)) ?_
           refine rp rfl rfl (p_pkf rfl rfl qq24 (tb ((or_l (p := ((t0.Kind ≠ (3 : Int)) ∧ (t0.Int_ ≠ (0 : Int))) ∨ ((t0.Kind ≠ (5 : Int)) ∧ (t0.Bits ≠ (0 : UInt64)))) (q := ((t0.Kind = (3 : Int)) ∨ (t0.Kind = (5 : Int))) ∧ (t0.Text ≠ [])) (not_or.2 ⟨(fun h => h10 h.1), (fun h => h19 h.2)⟩))))) ?_
           refine rs [(1, .q 1 (0)), (69, .b (decide ((((t0.Kind ≠ (3 : Int)) ∧ (t0.Int_ ≠ (0 : Int))) ∨ ((t0.Kind ≠ (5 : Int)) ∧ (t0.Bits ≠ (0 : UInt64)))) ∨ (((t0.Kind = (3 : Int)) ∨ (t0.Kind = (5 : Int))) ∧ (t0.Text ≠ [])))))] [(1, .pure (GToken.cs t0))] rfl rfl rfl ?_
           exact RunW_nil rfl
       ·iterate 3 (refine r_off rfl rfl rfl rfl (decide_eq_false h18) rfl rfl ?_)
        refine rn rfl rfl rfl rfl qq22 rfl (p_pkf rfl rfl (decide_eq_false h18) (tb (decide_eq_false (p := (t0.Kind ≠ (5 : Int)) ∧ (t0.Bits ≠ (0 : UInt64))) (fun x => h18 x.1)).symm)) ?_
        refine rp rfl rfl (p_pkf rfl rfl qq22 (tb ((or_l (p := (t0.Kind ≠ (3 : Int)) ∧ (t0.Int_ ≠ (0 : Int))) (q := (t0.Kind ≠ (5 : Int)) ∧ (t0.Bits ≠ (0 : UInt64))) (fun h => h10 h.1))))) ?_
        refine rp rfl rfl (p_move rfl rfl) ?_
        have qq28 := decide_eq_false (p := ((t0.Kind ≠ (3 : Int)) ∧ (t0.Int_ ≠ (0 : Int))) ∨ ((t0.Kind ≠ (5 : Int)) ∧ (t0.Bits ≠ (0 : UInt64)))) (not_or.2 ⟨(fun h => h10 h.1), (fun h => h18 h.1)⟩)
        refine rn rfl rfl rfl rfl qq28 rfl (u_fa rfl rfl Tryd.underlying82 rfl in_3 (Nat.succ_ne_zero _) rfl rfl (ne_of_lt (n := 0) (Nat.lt_of_lt_of_eq (by decide) (Eq.symm (GToken.len t0))))) ?_
        refine rn rfl rfl rfl rfl qq28 rfl (u_ld rfl rfl Tryd.underlying3 rfl rfl ((Sub.refl _).trans (GToken.sub0 t0))) ?_
        refine rn rfl rfl rfl rfl qq28 rfl (p_ieq rfl rfl rfl) ?_
        refine rn rfl rfl rfl rfl qq28 rfl (p_move rfl rfl) ?_
        refine (Classical.em (t0.Kind = (3 : Int))).elim (fun h22 => ?_) (fun h22 => ?_)
        ·iterate 3 (refine r_off rfl rfl rfl rfl (decide_eq_true h22) rfl rfl ?_)
         have qq29 := decide_eq_true (p := (t0.Kind = (3 : Int)) ∨ (t0.Kind = (5 : Int))) (Or.inl h22)
         refine rn rfl rfl rfl rfl qq28 rfl (p_pkt rfl rfl (decide_eq_true h22) (tb qq29.symm)) ?_
         refine rn rfl rfl rfl rfl qq28 rfl (p_move rfl rfl) ?_
         refine rn rfl rfl rfl rfl qq29 rfl (u_fa rfl rfl Tryd.underlying82 rfl in_9 (Nat.succ_ne_zero _) rfl rfl (ne_of_lt (n := 0) (Nat.lt_of_lt_of_eq (by decide) (Eq.symm (GToken.len t0))))) ?_
         refine rn rfl rfl rfl rfl qq29 rfl (u_ld rfl rfl Tryd.underlying9 rfl rfl ((Sub.refl _).trans (GToken.sub1 t0))) ?_
         refine rn rfl rfl rfl rfl qq29 rfl (p_sne rfl rfl rfl) ?_
         refine rn rfl rfl rfl rfl qq28 rfl (p_pkt rfl rfl qq29 (tb ((and_l (p := (t0.Kind = (3 : Int)) ∨ (t0.Kind = (5 : Int))) (q := t0.Text ≠ []) (Or.inl h22))))) ?_
         refine rp rfl rfl (p_pkf rfl rfl qq28 (tb ((or_l (p := ((t0.Kind ≠ (3 : Int)) ∧ (t0.Int_ ≠ (0 : Int))) ∨ ((t0.Kind ≠ (5 : Int)) ∧ (t0.Bits ≠ (0 : UInt64)))) (q := ((t0.Kind = (3 : Int)) ∨ (t0.Kind = (5 : Int))) ∧ (t0.Text ≠ [])) (not_or.2 ⟨(fun h => h10 h.1), (fun h => h18 h.1)⟩))))) ?_
         refine rs [(1, .q 1 (0)), (69, .b (decide ((((t0.Kind ≠ (3 : Int)) ∧ (t0.Int_ ≠ (0 : Int))) ∨ ((t0.Kind ≠ (5 : Int)) ∧ (t0.Bits ≠ (0 : UInt64)))) ∨ (((t0.Kind = (3 : Int)) ∨ (t0.Kind = (5 : Int))) ∧ (t0.Text ≠ [])))))] [(1, .pure (GToken.cs t0))] rfl rfl rfl ?_
         exact RunW_nil rfl
        ·refine r_on rfl rfl rfl rfl (decide_eq_false h22) rfl (PureD.opD (u_fa rfl rfl Tryd.underlying82 rfl in_3 (Nat.succ_ne_zero _) rfl rfl (ne_of_lt (n := 0) (Nat.lt_of_lt_of_eq (by decide) (Eq.symm (GToken.len t0)))))) ?_
         refine r_on rfl rfl rfl rfl (decide_eq_false h22) rfl (PureD.opD (u_ld rfl rfl Tryd.underlying3 rfl rfl ((Sub.refl _).trans (GToken.sub0 t0)))) ?_
         refine r_on rfl rfl rfl rfl (decide_eq_false h22) rfl (PureD.opD (p_ieq rfl rfl rfl)) ?_
         refine rn rfl rfl rfl rfl qq28 rfl (p_pkf rfl rfl (decide_eq_false h22) (tb ((or_l (p := t0.Kind = (3 : Int)) (q := t0.Kind = (5 : Int)) h22)))) ?_
         refine rn rfl rfl rfl rfl qq28 rfl (p_move rfl rfl) ?_
         refine (Classical.em (t0.Kind = (5 : Int))).elim (fun h23 => ?_) (fun h23 => ?_)
         ·have qq30 := decide_eq_true (p := (t0.Kind = (3 : Int)) ∨ (t0.Kind = (5 : Int))) (Or.inr h23)
          refine rn rfl rfl rfl rfl qq30 rfl (u_fa rfl rfl Tryd.underlying82 rfl in_9 (Nat.succ_ne_zero _) rfl rfl (ne_of_lt (n := 0) (Nat.lt_of_lt_of_eq (by decide) (Eq.symm (GToken.len t0))))) ?_
          refine rn rfl rfl rfl rfl qq30 rfl (u_ld rfl rfl Tryd.underlying9 rfl rfl ((Sub.refl _).trans (GToken.sub1 t0))) ?_
          refine rn rfl rfl rfl rfl qq30 rfl (p_sne rfl rfl rfl) ?_
          refine rn rfl rfl rfl rfl qq28 rfl (p_pkt rfl rfl qq30 (tb ((and_l (p := (t0.Kind = (3 : Int)) ∨ (t0.Kind = (5 : Int))) (q := t0.Text ≠ []) (Or.inr h23))))) ?_
          refine rp rfl rfl (p_pkf rfl rfl qq28 (tb ((or_l (p := ((t0.Kind ≠ (3 : Int)) ∧ (t0.Int_ ≠ (0 : Int))) ∨ ((t0.Kind ≠ (5 : Int)) ∧ (t0.Bits ≠ (0 : UInt64)))) (q := ((t0.Kind = (3 : Int)) ∨ (t0.Kind = (5 : Int))) ∧ (t0.Text ≠ [])) (not_or.2 ⟨(fun h => h10 h.1), (fun h => h18 h.1)⟩))))) ?_
          refine rs [(1, .q 1 (0)), (69, .b (decide ((((t0.Kind ≠ (3 : Int)) ∧ (t0.Int_ ≠ (0 : Int))) ∨ ((t0.Kind ≠ (5 : Int)) ∧ (t0.Bits ≠ (0 : UInt64)))) ∨ (((t0.Kind = (3 : Int)) ∨ (t0.Kind = (5 : Int))) ∧ (t0.Text ≠ [])))))] [(1, .pure (GToken.cs t0))] rfl rfl rfl ?_
          exact RunW_nil rfl
         ·have qq31 := decide_eq_false (p := (t0.Kind = (3 : Int)) ∨ (t0.Kind = (5 : Int))) (not_or.2 ⟨h22, h23⟩)
          iterate 3 (refine r_off rfl rfl rfl rfl qq31 rfl rfl ?_)
          refine rn rfl rfl rfl rfl qq28 rfl (p_pkf rfl rfl qq31 (tb (decide_eq_false (p := ((t0.Kind = (3 : Int)) ∨ (t0.Kind = (5 : Int))) ∧ (t0.Text ≠ [])) (fun x => (not_or.2 ⟨h22, h23⟩) x.1)).symm)) ?_
          refine rp rfl rfl (p_pkf rfl rfl qq28 (tb ((or_l (p := ((t0.Kind ≠ (3 : Int)) ∧ (t0.Int_ ≠ (0 : Int))) ∨ ((t0.Kind ≠ (5 : Int)) ∧ (t0.Bits ≠ (0 : UInt64)))) (q := ((t0.Kind = (3 : Int)) ∨ (t0.Kind = (5 : Int))) ∧ (t0.Text ≠ [])) (not_or.2 ⟨(fun h => h10 h.1), (fun h => h18 h.1)⟩))))) ?_
          refine rs [(1, .q 1 (0)), (69, .b (decide ((((t0.Kind ≠ (3 : Int)) ∧ (t0.Int_ ≠ (0 : Int))) ∨ ((t0.Kind ≠ (5 : Int)) ∧ (t0.Bits ≠ (0 : UInt64)))) ∨ (((t0.Kind = (3 : Int)) ∨ (t0.Kind = (5 : Int))) ∧ (t0.Text ≠ [])))))] [(1, .pure (GToken.cs t0))] rfl rfl rfl ?_
          exact RunW_nil rfl
     ·refine gen1 (fun t69'2 => (⟨[(1, .q 1 (0)), (69, .b t69'2)], [(1, .pure (GToken.cs t0))], 112⟩ : TS)) H ?_
      intro t69'2 H
      refine AW2_cond rfl (fun h24 => ?_) (fun h24 => ?_)
      ·replace H := ite_then h24 H
       refine sg [0] rfl ?_
       refine rp rfl rfl (p_asg rfl rfl) ?_
       refine rz [(2, .i (3 : Int))] [] rfl rfl rfl ?_
       refine AW2_ret ?_
       have hz := some_elim H
       subst hz
       exact ⟨⟨res_tmp (.same _), trivial⟩, trivial⟩
      ·replace H := ite_else (ne_true h24) H
       refine as2 [(1, .q 1 (0))] [(1, .pure (GToken.cs t0))] rfl rfl rfl ?_
       refine AW2_skip ?_
       refine sg [0] rfl ?_
       refine rp rfl rfl (p_asg rfl rfl) ?_
       refine rz [(1, .q 1 (0)), (3, .b true)] [(1, .pure (GToken.cs t0))] rfl rfl rfl ?_
       refine AW2_seq ?_
       refine bindK H fun j'3 h25 H => ?_
       refine AW2_mid (⟨[(3, .b j'3)], [], 112⟩ : TS) ?_ ?_
       ·clear H
        have H := h25
        clear h25
        refine sg [0, 1] rfl ?_
        refine rp rfl rfl (u_fa rfl rfl Tryd.underlying82 rfl in_3 (Nat.succ_ne_zero _) rfl rfl (ne_of_lt (n := 0) (Nat.lt_of_lt_of_eq (by decide) (Eq.symm (GToken.len t0))))) ?_
        refine rp rfl rfl (u_ld rfl rfl Tryd.underlying3 rfl rfl ((Sub.refl _).trans (GToken.sub0 t0))) ?_
        refine rz [(1, .q 1 (0)), (3, .b true), (71, .i t0.Kind)] [(1, .pure (GToken.cs t0))] rfl rfl rfl ?_
        refine AW2_block ?_
        refine sg [0, 1] rfl ?_
        refine rp rfl rfl (p_ieq rfl rfl rfl) ?_
        refine rp rfl rfl (p_asg rfl rfl) ?_
        refine rz [(1, .q 1 (0)), (3, .b true), (71, .i t0.Kind), (72, .b (decide (t0.Kind = (1 : Int))))] [(1, .pure (GToken.cs t0))] rfl rfl rfl ?_
        refine AW2_if (p := t0.Kind = (1 : Int)) rfl (fun h26 => ?_) (fun h26 => ?_)
        ·replace H := ite_then h26 H
         refine bindK H fun g'7 h33 H => ?_
         refine AW2_mid (⟨[(3, .b g'7)], [], 112⟩ : TS) ?_ ?_
         ·clear H
          have H := h33
          clear h33
          refine AW2_reg [0, 1, 2, 3, 4, 5, 6, 7, 8, 9] rfl ?_
          refine rp rfl rfl (u_fa rfl rfl Tryd.underlying82 rfl in_9 (Nat.succ_ne_zero _) rfl rfl (ne_of_lt (n := 0) (Nat.lt_of_lt_of_eq (by decide) (Eq.symm (GToken.len t0))))) ?_
          refine rp rfl rfl (u_ld rfl rfl Tryd.underlying9 rfl rfl ((Sub.refl _).trans (GToken.sub1 t0))) ?_
          refine bindK H fun r'5 h29 H => ?_
          refine rp rfl rfl (p_calll rfl rfl rfl Tryd.func64 rfl rfl (g_lex_all_i0_ac h29) rfl ⟨lend_p rfl, lend_clo rfl rfl trivial, trivial⟩) ?_
          refine rp rfl rfl (p_move rfl rfl) ?_
          refine (Classical.em (r'5 = true)).elim (fun h30 => ?_) (fun h30 => ?_)
          ·replace H := ite_then h30 H
           refine rn rfl rfl rfl rfl h30 rfl (u_fa rfl rfl Tryd.underlying82 rfl in_9 (Nat.succ_ne_zero _) rfl rfl (ne_of_lt (n := 0) (Nat.lt_of_lt_of_eq (by decide) (Eq.symm (GToken.len t0))))) ?_
           refine rn rfl rfl rfl rfl h30 rfl (u_ld rfl rfl Tryd.underlying9 rfl rfl ((Sub.refl _).trans (GToken.sub1 t0))) ?_
           refine chkK H fun h31 H => ?_
           refine rn rfl rfl rfl rfl h30 rfl (p_ixt rfl Tryd.underlying9 rfl rfl rfl (lrd_get h31)) ?_
           refine bindK H fun r'6 h32 H => ?_
           refine rn rfl rfl rfl rfl h30 rfl (p_callp rfl rfl rfl Tryd.func66 rfl rfl (g_lex_small_ac h32) ⟨rfl, trivial⟩) ?_
           refine rp rfl rfl (p_pkt rfl rfl h30 (.same _)) ?_
           refine rp rfl rfl (p_asg rfl rfl) ?_
           refine rs [(3, .b r'6)] [] rfl rfl rfl ?_
           have hz := some_elim H
           subst hz
           exact RunW_nil rfl
          ·replace H := ite_else h30 H
           iterate 4 (refine r_off rfl rfl rfl rfl (bfalse h30) rfl rfl ?_)
           refine rp rfl rfl (p_pkf rfl rfl (bfalse h30) (.same _)) ?_
           refine rp rfl rfl (p_asg rfl rfl) ?_
           refine rs [(3, .b false)] [] rfl rfl rfl ?_
           have hz := some_elim H
           subst hz
           exact RunW_nil rfl
         ·have hz := some_elim H
          subst hz
          exact rfl
        ·replace H := ite_else h26 H
         refine sg [0, 1] rfl ?_
         refine rp rfl rfl (p_ieq rfl rfl rfl) ?_
         refine rp rfl rfl (p_asg rfl rfl) ?_
         refine rz [(1, .q 1 (0)), (3, .b true), (71, .i t0.Kind), (83, .b (decide (t0.Kind = (2 : Int))))] [(1, .pure (GToken.cs t0))] rfl rfl rfl ?_
         refine AW2_if (p := t0.Kind = (2 : Int)) rfl (fun h35 => ?_) (fun h35 => ?_)
         ·replace H := ite_then h35 H
          refine AW2_reg [0, 1, 2, 3] rfl ?_
          refine rp rfl rfl (u_fa rfl rfl Tryd.underlying82 rfl in_9 (Nat.succ_ne_zero _) rfl rfl (ne_of_lt (n := 0) (Nat.lt_of_lt_of_eq (by decide) (Eq.symm (GToken.len t0))))) ?_
          refine rp rfl rfl (u_ld rfl rfl Tryd.underlying9 rfl rfl ((Sub.refl _).trans (GToken.sub1 t0))) ?_
          refine bindK H fun r'8 h36 H => ?_
          refine rp rfl rfl (p_calll rfl rfl rfl Tryd.func64 rfl rfl (g_lex_all_i1_ac h36) rfl ⟨lend_p rfl, lend_clo rfl rfl trivial, trivial⟩) ?_
          refine rp rfl rfl (p_asg rfl rfl) ?_
          refine rz [(3, .b r'8)] [] rfl rfl rfl ?_
          have hz := some_elim H
          subst hz
          exact rfl
         ·replace H := ite_else h35 H
          refine sg [0, 1] rfl ?_
          refine rp rfl rfl (p_ieq rfl rfl rfl) ?_
          refine rp rfl rfl (p_asg rfl rfl) ?_
          refine rz [(1, .q 1 (0)), (3, .b true), (71, .i t0.Kind), (88, .b (decide (t0.Kind = (3 : Int))))] [(1, .pure (GToken.cs t0))] rfl rfl rfl ?_
          refine AW2_if (p := t0.Kind = (3 : Int)) rfl (fun h37 => ?_) (fun h37 => ?_)
          ·replace H := ite_then h37 H
           refine AW2_reg [0, 1, 2, 3] rfl ?_
           refine rp rfl rfl (u_fa rfl rfl Tryd.underlying82 rfl in_3 (Nat.succ_ne_zero _) rfl rfl (ne_of_lt (n := 0) (Nat.lt_of_lt_of_eq (by decide) (Eq.symm (GToken.len t0))))) ?_
           refine rp rfl rfl (u_ld rfl rfl Tryd.underlying3 rfl rfl ((Sub.refl _).trans (GToken.sub2 t0))) ?_
           refine rp rfl rfl (p_bin rfl rfl rfl rfl) ?_
           refine rp rfl rfl (p_asg rfl rfl) ?_
           refine rz [(3, .b (decide (t0.Int_ ≥ (0 : Int))))] [] rfl rfl rfl ?_
           have hz := some_elim H
           subst hz
           exact rfl
          ·replace H := ite_else h37 H
           refine sg [0, 1] rfl ?_
           refine rp rfl rfl (p_ieq rfl rfl rfl) ?_
           refine rp rfl rfl (p_asg rfl rfl) ?_
           refine rz [(1, .q 1 (0)), (3, .b true), (71, .i t0.Kind), (93, .b (decide (t0.Kind = (4 : Int))))] [(1, .pure (GToken.cs t0))] rfl rfl rfl ?_
           refine AW2_if (p := t0.Kind = (4 : Int)) rfl (fun h38 => ?_) (fun h38 => ?_)
           ·replace H := ite_then h38 H
            refine AW2_reg [0, 1, 2, 3] rfl ?_
            refine rp rfl rfl (u_fa rfl rfl Tryd.underlying82 rfl in_9 (Nat.succ_ne_zero _) rfl rfl (ne_of_lt (n := 0) (Nat.lt_of_lt_of_eq (by decide) (Eq.symm (GToken.len t0))))) ?_
            refine rp rfl rfl (u_ld rfl rfl Tryd.underlying9 rfl rfl ((Sub.refl _).trans (GToken.sub1 t0))) ?_
            refine bindK H fun r'9 h39 H => ?_
            refine rp rfl rfl (p_callp rfl rfl rfl Tryd.func59 rfl rfl (g_utf8_ValidString_ac h39) ⟨rfl, trivial⟩) ?_
            refine rp rfl rfl (p_asg rfl rfl) ?_
            refine rz [(3, .b r'9)] [] rfl rfl rfl ?_
            have hz := some_elim H
            subst hz
            exact rfl
           ·replace H := ite_else h38 H
            refine sg [0, 1] rfl ?_
            refine rp rfl rfl (p_ieq rfl rfl rfl) ?_
            refine rp rfl rfl (p_asg rfl rfl) ?_
            refine rz [(1, .q 1 (0)), (3, .b true), (71, .i t0.Kind), (98, .b (decide (t0.Kind = (5 : Int))))] [(1, .pure (GToken.cs t0))] rfl rfl rfl ?_
            refine AW2_if (p := t0.Kind = (5 : Int)) rfl (fun h40 => ?_) (fun h40 => ?_)
            ·replace H := ite_then h40 H
             refine AW2_reg [0, 1, 2, 3, 4, 5] rfl ?_
             refine rp rfl rfl (u_fa rfl rfl Tryd.underlying82 rfl in_22 (Nat.succ_ne_zero _) rfl rfl (ne_of_lt (n := 0) (Nat.lt_of_lt_of_eq (by decide) (Eq.symm (GToken.len t0))))) ?_
             refine rp rfl rfl (u_ld rfl rfl Tryd.underlying22 rfl rfl ((Sub.refl _).trans (GToken.sub3 t0))) ?_
             refine rp rfl rfl (u_bld rfl in_24 one_24 zc_24 pl_24 rfl (af_cons rfl rfl (GValue.upd0 GValue.zero (3 : Int)) (af_cons rfl rfl (GValue.upd2 ((GValue.w0 GValue.zero (3 : Int))) t0.Bits) rfl))) ?_
             refine bindK H fun r'10 h41 H => ?_
             refine rp rfl rfl (p_callp rfl rfl rfl Tryd.func55 rfl rfl (g_value_Check_ac h41) ⟨rfl, trivial⟩) ?_
             refine rp rfl rfl (p_ieq rfl rfl rfl) ?_
             refine rp rfl rfl (p_asg rfl rfl) ?_
             refine rz [(3, .b (decide (r'10 = (0 : Int))))] [] rfl rfl rfl ?_
             have hz := some_elim H
             subst hz
             exact rfl
            ·replace H := ite_else h40 H
             refine sg [0, 1] rfl ?_
             refine rp rfl rfl (p_ieq rfl rfl rfl) ?_
             refine rp rfl rfl (p_asg rfl rfl) ?_
             refine rz [(1, .q 1 (0)), (3, .b true), (105, .b (decide (t0.Kind = (6 : Int))))] [(1, .pure (GToken.cs t0))] rfl rfl rfl ?_
             refine AW2_if (p := t0.Kind = (6 : Int)) rfl (fun h42 => ?_) (fun h42 => ?_)
             ·replace H := ite_then h42 H
              refine AW2_reg [0, 1, 2, 3] rfl ?_
              refine rp rfl rfl (u_fa rfl rfl Tryd.underlying82 rfl in_9 (Nat.succ_ne_zero _) rfl rfl (ne_of_lt (n := 0) (Nat.lt_of_lt_of_eq (by decide) (Eq.symm (GToken.len t0))))) ?_
              refine rp rfl rfl (u_ld rfl rfl Tryd.underlying9 rfl rfl ((Sub.refl _).trans (GToken.sub1 t0))) ?_
              refine bindK H fun r'11 h43 H => ?_
              refine rp rfl rfl (p_callp rfl rfl rfl Tryd.func68 rfl rfl (g_lex_sign_ac h43) ⟨rfl, trivial⟩) ?_
              refine rp rfl rfl (p_asg rfl rfl) ?_
              refine rz [(3, .b r'11)] [] rfl rfl rfl ?_
              have hz := some_elim H
              subst hz
              exact rfl
             ·replace H := ite_else h42 H
              refine as2 [(3, .b true)] [] rfl rfl rfl ?_
              refine AW2_skip ?_
              have hz := some_elim H
              subst hz
              exact rfl
       ·refine AW2_seq ?_
        refine sg [0, 1] rfl ?_
        refine rp rfl rfl (p_move rfl rfl) ?_
        refine rp rfl rfl (p_not rfl rfl) ?_
        refine rz [(111, .b (!j'3))] [] rfl rfl rfl ?_
        refine AW2_cond rfl (fun h44 => ?_) (fun h44 => ?_)
        ·replace H := ite_then h44 H
         refine sg [0] rfl ?_
         refine rp rfl rfl (p_asg rfl rfl) ?_
         refine rz [(2, .i (3 : Int))] [] rfl rfl rfl ?_
         refine AW2_ret ?_
         have hz := some_elim H
         subst hz
         exact ⟨⟨res_tmp (.same _), trivial⟩, trivial⟩
        ·replace H := ite_else (ne_true h44) H
         refine as2 [] [] rfl rfl rfl ?_
         refine AW2_skip ?_
         refine sg [0] rfl ?_
         refine rp rfl rfl (p_asg rfl rfl) ?_
         refine rz [(2, .i (0 : Int))] [] rfl rfl rfl ?_
         refine AW2_ret ?_
         have hz := some_elim H
         subst hz
         exact ⟨⟨res_tmp (.same _), trivial⟩, trivial⟩

/-! kinds.Columns -/
noncomputable def g_kinds_Columns_l1 (cols0 : List GColumn) (t12_0 : Int) : Int → Option (Int ⊕ (Int ⊕ Unit))
  | t34_1 => (if t34_1 < ((cut cols0 (0 : Int) t12_0).length : Int) then if 0 ≤ t34_1 ∧ t34_1 < ((cut cols0 (0 : Int) t12_0).length : Int) then (if (lrd (cut cols0 (0 : Int) t12_0) t34_1.toNat).Name = (lrd cols0 t12_0.toNat).Name then some (.inr (.inl (8 : Int))) else some (.inl (w64 (t34_1 + (1 : Int))))) else none else some (.inr (.inr ())))
noncomputable def g_kinds_Columns_l0 (cols0 : List GColumn) : Int → Option (Int ⊕ (Int ⊕ Unit))
  | t12_0 => (if t12_0 < (cols0.length : Int) then if 0 ≤ t12_0 ∧ t12_0 < (cols0.length : Int) then (g_lex_Check ({ { GToken.zero with Kind := (1 : Int) } with Text := (lrd cols0 t12_0.toNat).Name })).bind fun r'1 => (if r'1 ≠ (0 : Int) then some (.inr (.inl (3 : Int))) else (if ((lrd cols0 t12_0.toNat).Kind < (1 : Int)) ∨ ((lrd cols0 t12_0.toNat).Kind > (4 : Int)) then some (.inr (.inl (2 : Int))) else if 0 ≤ t12_0 ∧ t12_0 ≤ (cols0.length : Int) then (loopO (g_kinds_Columns_l1 cols0 t12_0) (0 : Int)).bind fun o'5 => match o'5 with | .inl y'6 => some (.inr (.inl y'6)) | .inr (y'7) => some (.inl (w64 (t12_0 + (1 : Int)))) else none)) else none else some (.inr (.inr ())))
noncomputable def g_kinds_Columns (cols0 : List GColumn) : Option (Int) :=
  (if (cols0.length : Int) > (5 : Int) then some (1 : Int) else (loopO (g_kinds_Columns_l0 cols0) (0 : Int)).bind fun o'11 => match o'11 with | .inl y'12 => some y'12 | .inr (y'13) => some (0 : Int))
set_option maxHeartbeats 4000000 in
set_option maxRecDepth 100000 in
theorem g_kinds_Columns_ac {cols0 : List GColumn} {r : Int} (H : g_kinds_Columns cols0 = some r) : ACp Tryd.prog 19 [((fun q : List GColumn => AV.lst (q.flatMap GColumn.cs) q.length) cols0)] (AV.int r) := by
 refine ACp_of (AC2_of_body (vs := [.i r]) Tryd.func19 rfl rfl (Nat.le_of_ble_eq_true rfl) rfl ?_) (fun _ => .same _)
 unfold g_kinds_Columns at H
 refine as2 [(0, .p ((fun q : List GColumn => AV.lst (q.flatMap GColumn.cs) q.length) cols0))] [] rfl rfl rfl ?_
 refine sg [0] rfl ?_
 refine rp rfl rfl (p_asg rfl rfl) ?_
 refine rz [(0, .p ((fun q : List GColumn => AV.lst (q.flatMap GColumn.cs) q.length) cols0))] [] rfl rfl rfl ?_
 refine AW2_seq ?_
 refine sg [0, 1, 2] rfl ?_
 refine rp rfl rfl (p_move rfl rfl) ?_
 refine rp rfl rfl (p_lenl rfl Tryd.underlying28 rfl rfl) ?_
 refine rp rfl rfl (p_bin rfl rfl rfl rfl) ?_
 refine rz [(0, .p ((fun q : List GColumn => AV.lst (q.flatMap GColumn.cs) q.length) cols0)), (9, .b (decide ((cols0.length : Int) > (5 : Int))))] [] rfl rfl rfl ?_
 refine AW2_if (p := (cols0.length : Int) > (5 : Int)) rfl (fun h1 => ?_) (fun h1 => ?_)
 ·replace H := ite_then h1 H
  refine sg [0] rfl ?_
  refine rp rfl rfl (p_asg rfl rfl) ?_
  refine rz [(2, .i (1 : Int))] [] rfl rfl rfl ?_
  refine AW2_ret ?_
  have hz := some_elim H
  subst hz
  exact ⟨⟨res_tmp (.same _), trivial⟩, trivial⟩
 ·replace H := ite_else h1 H
  refine as2 [(0, .p ((fun q : List GColumn => AV.lst (q.flatMap GColumn.cs) q.length) cols0))] [] rfl rfl rfl ?_
  refine AW2_skip ?_
  refine AW2_seq ?_
  refine sg [0, 1, 2] rfl ?_
  refine rp rfl rfl (p_move rfl rfl) ?_
  refine rp rfl rfl (p_lenl rfl Tryd.underlying28 rfl rfl) ?_
  refine rp rfl rfl (p_move rfl rfl) ?_
  refine rz [(0, .p ((fun q : List GColumn => AV.lst (q.flatMap GColumn.cs) q.length) cols0)), (10, .p ((fun q : List GColumn => AV.lst (q.flatMap GColumn.cs) q.length) cols0)), (11, .i (cols0.length : Int)), (12, .i (0 : Int))] [] rfl rfl rfl ?_
  refine AW2_block ?_
  refine as2 [(0, .p ((fun q : List GColumn => AV.lst (q.flatMap GColumn.cs) q.length) cols0)), (10, .p ((fun q : List GColumn => AV.lst (q.flatMap GColumn.cs) q.length) cols0)), (11, .i (cols0.length : Int)), (12, .i (0 : Int))] [] rfl rfl rfl ?_
  refine bindK H fun o'11 h13 H => ?_
  refine AW2_loopO (fun a'8 : Int => (⟨[(0, .p ((fun q : List GColumn => AV.lst (q.flatMap GColumn.cs) q.length) cols0)), (10, .p ((fun q : List GColumn => AV.lst (q.flatMap GColumn.cs) q.length) cols0)), (11, .i (cols0.length : Int)), (12, .i a'8)], [], 45⟩ : TS)) (fun (o : Int ⊕ Unit) e s' => match o with | .inl y'9 => e = Go.Exit.ret ∧ ResAll Tryd.prog s' [ResultVar.tmp 2] [.i y'9] ∧ HFits s' [] | .inr (y'10) => e = Go.Exit.exit 0 ∧ s' = (⟨[], [], 45⟩ : TS)) h13 rfl (fun t12_0 x hx => ?_) (fun e s' hs => ?_)
  ·clear H
   have H := hx
   clear hx
   unfold g_kinds_Columns_l0 at H
   refine sg [0] rfl ?_
   refine rp rfl rfl (p_bin rfl rfl rfl rfl) ?_
   refine rz [(0, .p ((fun q : List GColumn => AV.lst (q.flatMap GColumn.cs) q.length) cols0)), (10, .p ((fun q : List GColumn => AV.lst (q.flatMap GColumn.cs) q.length) cols0)), (11, .i (cols0.length : Int)), (12, .i t12_0), (13, .b (decide (t12_0 < (cols0.length : Int))))] [] rfl rfl rfl ?_
   refine AW2_seq ?_
   refine AW2_if (p := t12_0 < (cols0.length : Int)) rfl (fun h2 => ?_) (fun h2 => ?_)
   ·replace H := ite_then h2 H
    refine as2 [(0, .p ((fun q : List GColumn => AV.lst (q.flatMap GColumn.cs) q.length) cols0)), (10, .p ((fun q : List GColumn => AV.lst (q.flatMap GColumn.cs) q.length) cols0)), (11, .i (cols0.length : Int)), (12, .i t12_0)] [] rfl rfl rfl ?_
    refine AW2_skip ?_
    refine AW2_seq ?_
    refine AW2_block ?_
    refine sg [0, 1, 2, 3, 4, 5] rfl ?_
    refine rp rfl rfl (p_move rfl rfl) ?_
    refine chkK H fun h3 H => ?_
    refine rp rfl rfl (u_ixl rfl rfl Tryd.underlying28 in_59 rfl rfl (ixe h3) (ixn h3) (fne (fun x => (GColumn.len x)) (by decide) (ixn h3))) ?_
    refine rp rfl rfl (u_lda rfl rfl Tryd.underlying59 rfl in_59 rfl (Nat.succ_pos _) (Sub.fm default (fun x => (GColumn.len x)) (ixn h3)) (GColumn.len (lrd cols0 t12_0.toNat))) ?_
    refine r_op rfl rfl (MakeD.opD (u_alloc 4 rfl in_59 one_59 zc_59) rfl rfl rfl rfl) ?_
    refine rp rfl rfl (p_asg rfl rfl) ?_
    refine r_op rfl rfl (u_st rfl rfl rfl rfl rfl in_59 (GColumn.len (lrd cols0 t12_0.toNat)) (ne_of_lt (n := 0) (Nat.lt_of_lt_of_eq (by decide) (Eq.symm (GColumn.len GColumn.zero)))) (Upd.refl ((GColumn.len (lrd cols0 t12_0.toNat)).trans (GColumn.len GColumn.zero).symm))) ?_
    refine rz [(0, .p ((fun q : List GColumn => AV.lst (q.flatMap GColumn.cs) q.length) cols0)), (3, .i t12_0), (4, .q 4 (0)), (10, .p ((fun q : List GColumn => AV.lst (q.flatMap GColumn.cs) q.length) cols0)), (11, .i (cols0.length : Int)), (12, .i t12_0)] [(4, .pure (GColumn.cs (lrd cols0 t12_0.toNat)))] rfl rfl rfl ?_
    refine AW2_seq ?_
    refine sg [0, 1, 2, 3, 4] rfl ?_
    refine rp rfl rfl (u_fa rfl rfl Tryd.underlying59 rfl in_9 (Nat.succ_ne_zero _) rfl rfl (ne_of_lt (n := 0) (Nat.lt_of_lt_of_eq (by decide) (Eq.symm (GColumn.len (lrd cols0 t12_0.toNat)))))) ?_
    refine rp rfl rfl (u_ld rfl rfl Tryd.underlying9 rfl rfl ((Sub.refl _).trans (GColumn.sub0 (lrd cols0 t12_0.toNat)))) ?_
    refine rp rfl rfl (u_bld rfl in_82 one_82 zc_82 pl_82 rfl (af_cons rfl rfl (GToken.upd0 GToken.zero (1 : Int)) (af_cons rfl rfl (GToken.upd1 ((GToken.w0 GToken.zero (1 : Int))) ((lrd cols0 t12_0.toNat).Name)) rfl))) ?_
    refine bindK H fun r'1 h4 H => ?_
    refine rp rfl rfl (p_callp rfl rfl rfl Tryd.func45 rfl rfl (g_lex_Check_ac h4) ⟨rfl, trivial⟩) ?_
    refine rp rfl rfl (p_ine rfl rfl rfl) ?_
    refine rz [(0, .p ((fun q : List GColumn => AV.lst (q.flatMap GColumn.cs) q.length) cols0)), (3, .i t12_0), (4, .q 4 (0)), (10, .p ((fun q : List GColumn => AV.lst (q.flatMap GColumn.cs) q.length) cols0)), (11, .i (cols0.length : Int)), (12, .i t12_0), (21, .b (decide (r'1 ≠ (0 : Int))))] [(4, .pure (GColumn.cs (lrd cols0 t12_0.toNat)))] rfl rfl rfl ?_
    refine AW2_if (p := r'1 ≠ (0 : Int)) rfl (fun h5 => ?_) (fun h5 => ?_)
    ·replace H := ite_then h5 H
     refine sg [0] rfl ?_
     refine rp rfl rfl (p_asg rfl rfl) ?_
     refine rz [(2, .i (3 : Int))] [] rfl rfl rfl ?_
     refine AW2_ret ?_
     have hz := some_elim H
     subst hz
     exact ⟨rfl, ⟨res_tmp (.same _), trivial⟩, trivial⟩
    ·replace H := ite_else h5 H
     refine as2 [(0, .p ((fun q : List GColumn => AV.lst (q.flatMap GColumn.cs) q.length) cols0)), (3, .i t12_0), (4, .q 4 (0)), (10, .p ((fun q : List GColumn => AV.lst (q.flatMap GColumn.cs) q.length) cols0)), (11, .i (cols0.length : Int)), (12, .i t12_0)] [(4, .pure (GColumn.cs (lrd cols0 t12_0.toNat)))] rfl rfl rfl ?_
     refine AW2_skip ?_
     refine AW2_seq ?_
     refine AW2_seq ?_
     refine AW2_mid (⟨[(0, .p ((fun q : List GColumn => AV.lst (q.flatMap GColumn.cs) q.length) cols0)), (3, .i t12_0), (4, .q 4 (0)), (10, .p ((fun q : List GColumn => AV.lst (q.flatMap GColumn.cs) q.length) cols0)), (11, .i (cols0.length : Int)), (12, .i t12_0), (29, .b (decide (((lrd cols0 t12_0.toNat).Kind < (1 : Int)) ∨ ((lrd cols0 t12_0.toNat).Kind > (4 : Int)))))], [(4, .pure (GColumn.cs (lrd cols0 t12_0.toNat)))], 45⟩ : TS) ?_ ?_
     ·refine AW2_reg [0, 1, 2, 3, 4, 5, 6, 7] rfl ?_
      refine rp rfl rfl (u_fa rfl rfl Tryd.underlying59 rfl in_3 (Nat.succ_ne_zero _) rfl rfl (ne_of_lt (n := 0) (Nat.lt_of_lt_of_eq (by decide) (Eq.symm (GColumn.len (lrd cols0 t12_0.toNat)))))) ?_
      refine rp rfl rfl (u_ld rfl rfl Tryd.underlying3 rfl rfl ((Sub.refl _).trans (GColumn.sub1 (lrd cols0 t12_0.toNat)))) ?_
      refine rp rfl rfl (p_bin rfl rfl rfl rfl) ?_
      refine rp rfl rfl (p_move rfl rfl) ?_
      refine (Classical.em ((lrd cols0 t12_0.toNat).Kind < (1 : Int))).elim (fun h6 => ?_) (fun h6 => ?_)
      ·refine r_off rfl rfl rfl rfl (decide_eq_true h6) rfl rfl ?_
       refine r_off rfl rfl rfl rfl (decide_eq_true h6) rfl rfl ?_
       refine r_off rfl rfl rfl rfl (decide_eq_true h6) rfl rfl ?_
       refine rp rfl rfl (p_pkt rfl rfl (decide_eq_true h6) (tb (decide_eq_true (p := ((lrd cols0 t12_0.toNat).Kind < (1 : Int)) ∨ ((lrd cols0 t12_0.toNat).Kind > (4 : Int))) (Or.inl h6)).symm)) ?_
       refine rs [(0, .p ((fun q : List GColumn => AV.lst (q.flatMap GColumn.cs) q.length) cols0)), (3, .i t12_0), (4, .q 4 (0)), (10, .p ((fun q : List GColumn => AV.lst (q.flatMap GColumn.cs) q.length) cols0)), (11, .i (cols0.length : Int)), (12, .i t12_0), (29, .b (decide (((lrd cols0 t12_0.toNat).Kind < (1 : Int)) ∨ ((lrd cols0 t12_0.toNat).Kind > (4 : Int)))))] [(4, .pure (GColumn.cs (lrd cols0 t12_0.toNat)))] rfl rfl rfl ?_
       exact RunW_nil rfl
      ·refine r_on rfl rfl rfl rfl (decide_eq_false h6) rfl (PureD.opD (u_fa rfl rfl Tryd.underlying59 rfl in_3 (Nat.succ_ne_zero _) rfl rfl (ne_of_lt (n := 0) (Nat.lt_of_lt_of_eq (by decide) (Eq.symm (GColumn.len (lrd cols0 t12_0.toNat))))))) ?_
       refine r_on rfl rfl rfl rfl (decide_eq_false h6) rfl (PureD.opD (u_ld rfl rfl Tryd.underlying3 rfl rfl ((Sub.refl _).trans (GColumn.sub1 (lrd cols0 t12_0.toNat))))) ?_
       refine r_on rfl rfl rfl rfl (decide_eq_false h6) rfl (PureD.opD (p_bin rfl rfl rfl rfl)) ?_
       refine rp rfl rfl (p_pkf rfl rfl (decide_eq_false h6) (tb ((or_l (p := (lrd cols0 t12_0.toNat).Kind < (1 : Int)) (q := (lrd cols0 t12_0.toNat).Kind > (4 : Int)) h6)))) ?_
       refine rs [(0, .p ((fun q : List GColumn => AV.lst (q.flatMap GColumn.cs) q.length) cols0)), (3, .i t12_0), (4, .q 4 (0)), (10, .p ((fun q : List GColumn => AV.lst (q.flatMap GColumn.cs) q.length) cols0)), (11, .i (cols0.length : Int)), (12, .i t12_0), (29, .b (decide (((lrd cols0 t12_0.toNat).Kind < (1 : Int)) ∨ ((lrd cols0 t12_0.toNat).Kind > (4 : Int)))))] [(4, .pure (GColumn.cs (lrd cols0 t12_0.toNat)))] rfl rfl rfl ?_
       exact RunW_nil rfl
     ·refine AW2_if (p := ((lrd cols0 t12_0.toNat).Kind < (1 : Int)) ∨ ((lrd cols0 t12_0.toNat).Kind > (4 : Int))) rfl (fun h7 => ?_) (fun h7 => ?_)
      ·replace H := ite_then h7 H
       refine sg [0] rfl ?_
       refine rp rfl rfl (p_asg rfl rfl) ?_
       refine rz [(2, .i (2 : Int))] [] rfl rfl rfl ?_
       refine AW2_ret ?_
       have hz := some_elim H
       subst hz
       exact ⟨rfl, ⟨res_tmp (.same _), trivial⟩, trivial⟩
      ·replace H := ite_else h7 H
       refine as2 [(0, .p ((fun q : List GColumn => AV.lst (q.flatMap GColumn.cs) q.length) cols0)), (3, .i t12_0), (4, .q 4 (0)), (10, .p ((fun q : List GColumn => AV.lst (q.flatMap GColumn.cs) q.length) cols0)), (11, .i (cols0.length : Int)), (12, .i t12_0)] [(4, .pure (GColumn.cs (lrd cols0 t12_0.toNat)))] rfl rfl rfl ?_
       refine AW2_skip ?_
       refine sg [0, 1, 2, 3, 4] rfl ?_
       refine rp rfl rfl (p_move rfl rfl) ?_
       refine rp rfl rfl (p_move rfl rfl) ?_
       refine chkK H fun h8 H => ?_
       refine rp rfl rfl (u_cutl (g := (fun l => l.flatMap GColumn.cs)) (a := (0 : Int)) (b := t12_0) rfl rfl Tryd.underlying28 in_59 rfl bT_zero (bT_i (Int.le_trans (show 0 ≤ (0 : Int) ∧ (0 : Int) ≤ t12_0 ∧ t12_0 ≤ (cols0.length : Int) from ⟨Int.le_refl _, h8.1, h8.2⟩).1 (show 0 ≤ (0 : Int) ∧ (0 : Int) ≤ t12_0 ∧ t12_0 ≤ (cols0.length : Int) from ⟨Int.le_refl _, h8.1, h8.2⟩).2.1) rfl) (.inl rfl) (show 0 ≤ (0 : Int) ∧ (0 : Int) ≤ t12_0 ∧ t12_0 ≤ (cols0.length : Int) from ⟨Int.le_refl _, h8.1, h8.2⟩) (g_fm (fun x => (GColumn.len x)))) ?_
       refine rp rfl rfl (p_lenl rfl Tryd.underlying28 rfl rfl) ?_
       refine rp rfl rfl (p_move rfl rfl) ?_
       refine rz [(0, .p ((fun q : List GColumn => AV.lst (q.flatMap GColumn.cs) q.length) cols0)), (4, .q 4 (0)), (10, .p ((fun q : List GColumn => AV.lst (q.flatMap GColumn.cs) q.length) cols0)), (11, .i (cols0.length : Int)), (12, .i t12_0), (32, .p ((fun q : List GColumn => AV.lst (q.flatMap GColumn.cs) q.length) (cut cols0 (0 : Int) t12_0))), (33, .i ((cut cols0 (0 : Int) t12_0).length : Int)), (34, .i (0 : Int))] [(4, .pure (GColumn.cs (lrd cols0 t12_0.toNat)))] rfl rfl rfl ?_
       refine AW2_block ?_
       refine as2 [(0, .p ((fun q : List GColumn => AV.lst (q.flatMap GColumn.cs) q.length) cols0)), (4, .q 4 (0)), (10, .p ((fun q : List GColumn => AV.lst (q.flatMap GColumn.cs) q.length) cols0)), (11, .i (cols0.length : Int)), (12, .i t12_0), (32, .p ((fun q : List GColumn => AV.lst (q.flatMap GColumn.cs) q.length) (cut cols0 (0 : Int) t12_0))), (33, .i ((cut cols0 (0 : Int) t12_0).length : Int)), (34, .i (0 : Int))] [(4, .pure (GColumn.cs (lrd cols0 t12_0.toNat)))] rfl rfl rfl ?_
       refine bindK H fun o'5 h12 H => ?_
       refine AW2_loopO (fun a'2 : Int => (⟨[(0, .p ((fun q : List GColumn => AV.lst (q.flatMap GColumn.cs) q.length) cols0)), (4, .q 4 (0)), (10, .p ((fun q : List GColumn => AV.lst (q.flatMap GColumn.cs) q.length) cols0)), (11, .i (cols0.length : Int)), (12, .i t12_0), (32, .p ((fun q : List GColumn => AV.lst (q.flatMap GColumn.cs) q.length) (cut cols0 (0 : Int) t12_0))), (33, .i ((cut cols0 (0 : Int) t12_0).length : Int)), (34, .i a'2)], [(4, .pure (GColumn.cs (lrd cols0 t12_0.toNat)))], 45⟩ : TS)) (fun (o : Int ⊕ Unit) e s' => match o with | .inl y'3 => e = Go.Exit.ret ∧ ResAll Tryd.prog s' [ResultVar.tmp 2] [.i y'3] ∧ HFits s' [] | .inr (y'4) => e = Go.Exit.exit 2 ∧ s' = (⟨[(0, .p ((fun q : List GColumn => AV.lst (q.flatMap GColumn.cs) q.length) cols0)), (10, .p ((fun q : List GColumn => AV.lst (q.flatMap GColumn.cs) q.length) cols0)), (11, .i (cols0.length : Int)), (12, .i t12_0)], [], 45⟩ : TS)) h12 rfl (fun t34_1 x hx => ?_) (fun e s' hs => ?_)
       ·clear H
        have H := hx
        clear hx
        unfold g_kinds_Columns_l1 at H
        refine sg [0] rfl ?_
        refine rp rfl rfl (p_bin rfl rfl rfl rfl) ?_
        refine rz [(0, .p ((fun q : List GColumn => AV.lst (q.flatMap GColumn.cs) q.length) cols0)), (4, .q 4 (0)), (10, .p ((fun q : List GColumn => AV.lst (q.flatMap GColumn.cs) q.length) cols0)), (11, .i (cols0.length : Int)), (12, .i t12_0), (32, .p ((fun q : List GColumn => AV.lst (q.flatMap GColumn.cs) q.length) (cut cols0 (0 : Int) t12_0))), (33, .i ((cut cols0 (0 : Int) t12_0).length : Int)), (34, .i t34_1), (35, .b (decide (t34_1 < ((cut cols0 (0 : Int) t12_0).length : Int))))] [(4, .pure (GColumn.cs (lrd cols0 t12_0.toNat)))] rfl rfl rfl ?_
        refine AW2_seq ?_
        refine AW2_if (p := t34_1 < ((cut cols0 (0 : Int) t12_0).length : Int)) rfl (fun h9 => ?_) (fun h9 => ?_)
        ·replace H := ite_then h9 H
         refine as2 [(0, .p ((fun q : List GColumn => AV.lst (q.flatMap GColumn.cs) q.length) cols0)), (4, .q 4 (0)), (10, .p ((fun q : List GColumn => AV.lst (q.flatMap GColumn.cs) q.length) cols0)), (11, .i (cols0.length : Int)), (12, .i t12_0), (32, .p ((fun q : List GColumn => AV.lst (q.flatMap GColumn.cs) q.length) (cut cols0 (0 : Int) t12_0))), (33, .i ((cut cols0 (0 : Int) t12_0).length : Int)), (34, .i t34_1)] [(4, .pure (GColumn.cs (lrd cols0 t12_0.toNat)))] rfl rfl rfl ?_
         refine AW2_skip ?_
         refine AW2_seq ?_
         refine AW2_block ?_
         refine sg [0, 1, 2, 3] rfl ?_
         refine chkK H fun h10 H => ?_
         refine rp rfl rfl (u_ixl rfl rfl Tryd.underlying28 in_59 rfl rfl (ixe h10) (ixn h10) (fne (fun x => (GColumn.len x)) (by decide) (ixn h10))) ?_
         refine rp rfl rfl (u_lda rfl rfl Tryd.underlying59 rfl in_59 rfl (Nat.succ_pos _) (Sub.fm default (fun x => (GColumn.len x)) (ixn h10)) (GColumn.len (lrd (cut cols0 (0 : Int) t12_0) t34_1.toNat))) ?_
         refine r_op rfl rfl (MakeD.opD (u_alloc 6 rfl in_59 one_59 zc_59) rfl rfl rfl rfl) ?_
         refine r_op rfl rfl (u_st rfl rfl rfl rfl rfl in_59 (GColumn.len (lrd (cut cols0 (0 : Int) t12_0) t34_1.toNat)) (ne_of_lt (n := 0) (Nat.lt_of_lt_of_eq (by decide) (Eq.symm (GColumn.len GColumn.zero)))) (Upd.refl ((GColumn.len (lrd (cut cols0 (0 : Int) t12_0) t34_1.toNat)).trans (GColumn.len GColumn.zero).symm))) ?_
         refine rz [(0, .p ((fun q : List GColumn => AV.lst (q.flatMap GColumn.cs) q.length) cols0)), (4, .q 4 (0)), (6, .q 6 (0)), (10, .p ((fun q : List GColumn => AV.lst (q.flatMap GColumn.cs) q.length) cols0)), (11, .i (cols0.length : Int)), (12, .i t12_0), (32, .p ((fun q : List GColumn => AV.lst (q.flatMap GColumn.cs) q.length) (cut cols0 (0 : Int) t12_0))), (33, .i ((cut cols0 (0 : Int) t12_0).length : Int)), (34, .i t34_1)] [(4, .pure (GColumn.cs (lrd cols0 t12_0.toNat))), (6, .pure (GColumn.cs (lrd (cut cols0 (0 : Int) t12_0) t34_1.toNat)))] rfl rfl rfl ?_
         refine sg [0, 1, 2, 3, 4] rfl ?_
         refine rp rfl rfl (u_fa rfl rfl Tryd.underlying59 rfl in_9 (Nat.succ_ne_zero _) rfl rfl (ne_of_lt (n := 0) (Nat.lt_of_lt_of_eq (by decide) (Eq.symm (GColumn.len (lrd (cut cols0 (0 : Int) t12_0) t34_1.toNat)))))) ?_
         refine rp rfl rfl (u_ld rfl rfl Tryd.underlying9 rfl rfl ((Sub.refl _).trans (GColumn.sub0 (lrd (cut cols0 (0 : Int) t12_0) t34_1.toNat)))) ?_
         refine rp rfl rfl (u_fa rfl rfl Tryd.underlying59 rfl in_9 (Nat.succ_ne_zero _) rfl rfl (ne_of_lt (n := 0) (Nat.lt_of_lt_of_eq (by decide) (Eq.symm (GColumn.len (lrd cols0 t12_0.toNat)))))) ?_
         refine rp rfl rfl (u_ld rfl rfl Tryd.underlying9 rfl rfl ((Sub.refl _).trans (GColumn.sub0 (lrd cols0 t12_0.toNat)))) ?_
         refine rp rfl rfl (p_seq rfl rfl rfl) ?_
         refine rz [(0, .p ((fun q : List GColumn => AV.lst (q.flatMap GColumn.cs) q.length) cols0)), (4, .q 4 (0)), (10, .p ((fun q : List GColumn => AV.lst (q.flatMap GColumn.cs) q.length) cols0)), (11, .i (cols0.length : Int)), (12, .i t12_0), (32, .p ((fun q : List GColumn => AV.lst (q.flatMap GColumn.cs) q.length) (cut cols0 (0 : Int) t12_0))), (33, .i ((cut cols0 (0 : Int) t12_0).length : Int)), (34, .i t34_1), (42, .b (decide ((lrd (cut cols0 (0 : Int) t12_0) t34_1.toNat).Name = (lrd cols0 t12_0.toNat).Name)))] [(4, .pure (GColumn.cs (lrd cols0 t12_0.toNat)))] rfl rfl rfl ?_
         refine AW2_if (p := (lrd (cut cols0 (0 : Int) t12_0) t34_1.toNat).Name = (lrd cols0 t12_0.toNat).Name) rfl (fun h11 => ?_) (fun h11 => ?_)
         ·replace H := ite_then h11 H
          refine sg [0] rfl ?_
          refine rp rfl rfl (p_asg rfl rfl) ?_
          refine rz [(2, .i (8 : Int))] [] rfl rfl rfl ?_
          refine AW2_ret ?_
          have hz := some_elim H
          subst hz
          exact ⟨rfl, ⟨res_tmp (.same _), trivial⟩, trivial⟩
         ·replace H := ite_else h11 H
          refine as2 [(0, .p ((fun q : List GColumn => AV.lst (q.flatMap GColumn.cs) q.length) cols0)), (4, .q 4 (0)), (10, .p ((fun q : List GColumn => AV.lst (q.flatMap GColumn.cs) q.length) cols0)), (11, .i (cols0.length : Int)), (12, .i t12_0), (32, .p ((fun q : List GColumn => AV.lst (q.flatMap GColumn.cs) q.length) (cut cols0 (0 : Int) t12_0))), (33, .i ((cut cols0 (0 : Int) t12_0).length : Int)), (34, .i t34_1)] [(4, .pure (GColumn.cs (lrd cols0 t12_0.toNat)))] rfl rfl rfl ?_
          refine AW2_skip ?_
          refine AW2_reg [0, 1] rfl ?_
          refine rp rfl rfl (p_bin rfl rfl rfl rfl) ?_
          refine rp rfl rfl (p_move rfl rfl) ?_
          refine rz [(0, .p ((fun q : List GColumn => AV.lst (q.flatMap GColumn.cs) q.length) cols0)), (4, .q 4 (0)), (10, .p ((fun q : List GColumn => AV.lst (q.flatMap GColumn.cs) q.length) cols0)), (11, .i (cols0.length : Int)), (12, .i t12_0), (32, .p ((fun q : List GColumn => AV.lst (q.flatMap GColumn.cs) q.length) (cut cols0 (0 : Int) t12_0))), (33, .i ((cut cols0 (0 : Int) t12_0).length : Int)), (34, .i (w64 (t34_1 + (1 : Int))))] [(4, .pure (GColumn.cs (lrd cols0 t12_0.toNat)))] rfl rfl rfl ?_
          have hz := some_elim H
          subst hz
          exact ⟨rfl, rfl⟩
        ·replace H := ite_else h9 H
         refine as2 [(0, .p ((fun q : List GColumn => AV.lst (q.flatMap GColumn.cs) q.length) cols0)), (10, .p ((fun q : List GColumn => AV.lst (q.flatMap GColumn.cs) q.length) cols0)), (11, .i (cols0.length : Int)), (12, .i t12_0)] [] rfl rfl rfl ?_
         refine AW2_exit ?_
         refine thenQ2_exit ?_
         have hz := some_elim H
         subst hz
         exact ⟨rfl, rfl⟩
       ·rcases o'5 with y'6 | y'7
        ·obtain ⟨rfl, hs⟩ := hs
         refine ⟨by simp, ?_⟩
         have hz := some_elim H
         subst hz
         exact ⟨rfl, hs.1, hs.2⟩
        ·obtain ⟨rfl, rfl⟩ := hs
         refine ⟨by simp, ?_⟩
         refine blockQ2_exit ?_
         refine AW2_reg [0, 1] rfl ?_
         refine rp rfl rfl (p_bin rfl rfl rfl rfl) ?_
         refine rp rfl rfl (p_move rfl rfl) ?_
         refine rz [(0, .p ((fun q : List GColumn => AV.lst (q.flatMap GColumn.cs) q.length) cols0)), (10, .p ((fun q : List GColumn => AV.lst (q.flatMap GColumn.cs) q.length) cols0)), (11, .i (cols0.length : Int)), (12, .i (w64 (t12_0 + (1 : Int))))] [] rfl rfl rfl ?_
         have hz := some_elim H
         subst hz
         exact ⟨rfl, rfl⟩
   ·replace H := ite_else h2 H
    refine as2 [] [] rfl rfl rfl ?_
    refine AW2_exit ?_
    refine thenQ2_exit ?_
    have hz := some_elim H
    subst hz
    exact ⟨rfl, rfl⟩
  ·rcases o'11 with y'12 | y'13
   ·obtain ⟨rfl, hs⟩ := hs
    refine ⟨by simp, ?_⟩
    have hz := some_elim H
    subst hz
    exact ⟨hs.1, hs.2⟩
   ·obtain ⟨rfl, rfl⟩ := hs
    refine ⟨by simp, ?_⟩
    refine blockQ2_exit ?_
    refine sg [0] rfl ?_
    refine rp rfl rfl (p_asg rfl rfl) ?_
    refine rz [(2, .i (0 : Int))] [] rfl rfl rfl ?_
    refine AW2_ret ?_
    have hz := some_elim H
    subst hz
    exact ⟨⟨res_tmp (.same _), trivial⟩, trivial⟩

/-! table.none -/
noncomputable def g_table_none (e0 : GExpr) : Option (Bool) :=
  some (decide ((((e0.Op = (0 : Int)) ∧ (e0.Name = [])) ∧ (e0.Value = GValue.zero)) ∧ ((e0.Args.length : Int) = (0 : Int))))
set_option maxHeartbeats 4000000 in
set_option maxRecDepth 100000 in
theorem g_table_none_ac {e0 : GExpr} {r : Bool} (H : g_table_none e0 = some r) : ACp Tryd.prog 24 [(.agg (GExpr.cs e0))] (AV.bool r) := by
 refine ACp_of (AC2_of_body (vs := [.b r]) Tryd.func24 rfl rfl (Nat.le_of_ble_eq_true rfl) rfl ?_) (fun _ => .same _)
 unfold g_table_none at H
 refine as2 [(0, .g (GExpr.cs e0))] [] rfl rfl rfl ?_
 refine sg [0, 1] rfl ?_
 refine r_op rfl rfl (MakeD.opD (n_box 1 rfl rfl) rfl rfl rfl rfl) ?_
 refine rp rfl rfl (p_asg rfl rfl) ?_
 refine rz [(1, .q 1 (0))] [(1, .pure (GExpr.cs e0))] rfl rfl rfl ?_
 refine AW2_seq ?_
 refine AW2_mid (⟨[(2, .b (decide ((((e0.Op = (0 : Int)) ∧ (e0.Name = [])) ∧ (e0.Value = GValue.zero)) ∧ ((e0.Args.length : Int) = (0 : Int)))))], [], 23⟩ : TS) ?_ ?_
 ·refine AW2_reg [0, 1, 2, 3, 4, 5, 6, 7, 8, 9, 10, 11, 12, 13, 14, 15, 16, 17, 18, 19, 20] rfl ?_
  refine rp rfl rfl (u_fa rfl rfl Tryd.underlying27 rfl in_3 (Nat.succ_ne_zero _) rfl rfl (ne_of_lt (n := 0) (Nat.lt_of_lt_of_eq (by decide) (Eq.symm (GExpr.len e0))))) ?_
  refine rp rfl rfl (u_ld rfl rfl Tryd.underlying3 rfl rfl ((Sub.refl _).trans (GExpr.sub0 e0))) ?_
  refine rp rfl rfl (p_ieq rfl rfl rfl) ?_
  refine rp rfl rfl (p_move rfl rfl) ?_
  refine (Classical.em (e0.Op = (0 : Int))).elim (fun h1 => ?_) (fun h1 => ?_)
  ·refine r_on rfl rfl rfl rfl (decide_eq_true h1) rfl (PureD.opD (u_fa rfl rfl Tryd.underlying27 rfl in_9 (Nat.succ_ne_zero _) rfl rfl (ne_of_lt (n := 0) (Nat.lt_of_lt_of_eq (by decide) (Eq.symm (GExpr.len e0)))))) ?_
   refine r_on rfl rfl rfl rfl (decide_eq_true h1) rfl (PureD.opD (u_ld rfl rfl Tryd.underlying9 rfl rfl ((Sub.refl _).trans (GExpr.sub2 e0)))) ?_
   refine r_on rfl rfl rfl rfl (decide_eq_true h1) rfl (PureD.opD (p_seq rfl rfl rfl)) ?_
   refine rp rfl rfl (p_pkt rfl rfl (decide_eq_true h1) (tb ((and_l (p := e0.Op = (0 : Int)) (q := e0.Name = []) h1)))) ?_
   refine rp rfl rfl (p_move rfl rfl) ?_
   refine (Classical.em (e0.Name = [])).elim (fun h2 => ?_) (fun h2 => ?_)
   ·refine r_on rfl rfl rfl rfl (decide_eq_true (p := (e0.Op = (0 : Int)) ∧ (e0.Name = [])) ⟨h1, h2⟩) rfl (PureD.opD (u_fa rfl rfl Tryd.underlying27 rfl in_24 (Nat.succ_ne_zero _) rfl rfl (ne_of_lt (n := 0) (Nat.lt_of_lt_of_eq (by decide) (Eq.symm (GExpr.len e0)))))) ?_
    refine r_on rfl rfl rfl rfl (decide_eq_true (p := (e0.Op = (0 : Int)) ∧ (e0.Name = [])) ⟨h1, h2⟩) rfl (PureD.opD (u_lda rfl rfl Tryd.underlying24 rfl in_24 rfl (Nat.succ_pos _) ((Sub.refl _).trans (GExpr.sub1 e0)) (GValue.len e0.Value))) ?_
    refine r_on rfl rfl rfl rfl (decide_eq_true (p := (e0.Op = (0 : Int)) ∧ (e0.Name = [])) ⟨h1, h2⟩) rfl (PureD.opD (u_bld rfl in_24 one_24 zc_24 pl_24 rfl rfl)) ?_
    refine r_on rfl rfl rfl rfl (decide_eq_true (p := (e0.Op = (0 : Int)) ∧ (e0.Name = [])) ⟨h1, h2⟩) rfl (PureD.opD (p_eqa (a := e0.Value) (b := GValue.zero) rfl eq_24 rfl (by kernel_rfl) rfl rfl)) ?_
    refine rp rfl rfl (p_pkt rfl rfl (decide_eq_true (p := (e0.Op = (0 : Int)) ∧ (e0.Name = [])) ⟨h1, h2⟩) (tb ((and_l (p := (e0.Op = (0 : Int)) ∧ (e0.Name = [])) (q := e0.Value = GValue.zero) ⟨h1, h2⟩)))) ?_
    refine rp rfl rfl (p_move rfl rfl) ?_
    refine (Classical.em (e0.Value = GValue.zero)).elim (fun h3 => ?_) (fun h3 => ?_)
    ·refine r_on rfl rfl rfl rfl (decide_eq_true (p := ((e0.Op = (0 : Int)) ∧ (e0.Name = [])) ∧ (e0.Value = GValue.zero)) ⟨⟨h1, h2⟩, h3⟩) rfl (PureD.opD (u_fa rfl rfl Tryd.underlying27 rfl in_25 (Nat.succ_ne_zero _) rfl rfl (ne_of_lt (n := 0) (Nat.lt_of_lt_of_eq (by decide) (Eq.symm (GExpr.len e0)))))) ?_
     refine r_on rfl rfl rfl rfl (decide_eq_true (p := ((e0.Op = (0 : Int)) ∧ (e0.Name = [])) ∧ (e0.Value = GValue.zero)) ⟨⟨h1, h2⟩, h3⟩) rfl (PureD.opD (u_ld rfl rfl Tryd.underlying25 rfl rfl ((Sub.refl _).trans (GExpr.sub3 e0)))) ?_
     refine r_on rfl rfl rfl rfl (decide_eq_true (p := ((e0.Op = (0 : Int)) ∧ (e0.Name = [])) ∧ (e0.Value = GValue.zero)) ⟨⟨h1, h2⟩, h3⟩) rfl (PureD.opD (p_lenl rfl Tryd.underlying25 rfl rfl)) ?_
     refine r_on rfl rfl rfl rfl (decide_eq_true (p := ((e0.Op = (0 : Int)) ∧ (e0.Name = [])) ∧ (e0.Value = GValue.zero)) ⟨⟨h1, h2⟩, h3⟩) rfl (PureD.opD (p_ieq rfl rfl rfl)) ?_
     refine rp rfl rfl (p_pkt rfl rfl (decide_eq_true (p := ((e0.Op = (0 : Int)) ∧ (e0.Name = [])) ∧ (e0.Value = GValue.zero)) ⟨⟨h1, h2⟩, h3⟩) (tb ((and_l (p := ((e0.Op = (0 : Int)) ∧ (e0.Name = [])) ∧ (e0.Value = GValue.zero)) (q := (e0.Args.length : Int) = (0 : Int)) ⟨⟨h1, h2⟩, h3⟩)))) ?_
     refine rp rfl rfl (p_asg rfl rfl) ?_
     refine rs [(2, .b (decide ((((e0.Op = (0 : Int)) ∧ (e0.Name = [])) ∧ (e0.Value = GValue.zero)) ∧ ((e0.Args.length : Int) = (0 : Int)))))] [] rfl rfl rfl ?_
     exact RunW_nil rfl
    ·refine r_off rfl rfl rfl rfl (decide_eq_false (p := ((e0.Op = (0 : Int)) ∧ (e0.Name = [])) ∧ (e0.Value = GValue.zero)) (fun h => h3 h.2)) rfl rfl ?_
     refine r_off rfl rfl rfl rfl (decide_eq_false (p := ((e0.Op = (0 : Int)) ∧ (e0.Name = [])) ∧ (e0.Value = GValue.zero)) (fun h => h3 h.2)) rfl rfl ?_
     refine r_off rfl rfl rfl rfl (decide_eq_false (p := ((e0.Op = (0 : Int)) ∧ (e0.Name = [])) ∧ (e0.Value = GValue.zero)) (fun h => h3 h.2)) rfl rfl ?_
     refine r_off rfl rfl rfl rfl (decide_eq_false (p := ((e0.Op = (0 : Int)) ∧ (e0.Name = [])) ∧ (e0.Value = GValue.zero)) (fun h => h3 h.2)) rfl rfl ?_
     refine rp rfl rfl (p_pkf rfl rfl (decide_eq_false (p := ((e0.Op = (0 : Int)) ∧ (e0.Name = [])) ∧ (e0.Value = GValue.zero)) (fun h => h3 h.2)) (tb (decide_eq_false (p := (((e0.Op = (0 : Int)) ∧ (e0.Name = [])) ∧ (e0.Value = GValue.zero)) ∧ ((e0.Args.length : Int) = (0 : Int))) (fun x => (fun h => h3 h.2) x.1)).symm)) ?_
     refine rp rfl rfl (p_asg rfl rfl) ?_
     refine rs [(2, .b (decide ((((e0.Op = (0 : Int)) ∧ (e0.Name = [])) ∧ (e0.Value = GValue.zero)) ∧ ((e0.Args.length : Int) = (0 : Int)))))] [] rfl rfl rfl ?_
     exact RunW_nil rfl
   ·refine r_off rfl rfl rfl rfl (decide_eq_false (p := (e0.Op = (0 : Int)) ∧ (e0.Name = [])) (fun h => h2 h.2)) rfl rfl ?_
    refine r_off rfl rfl rfl rfl (decide_eq_false (p := (e0.Op = (0 : Int)) ∧ (e0.Name = [])) (fun h => h2 h.2)) rfl rfl ?_
    refine r_off rfl rfl rfl rfl (decide_eq_false (p := (e0.Op = (0 : Int)) ∧ (e0.Name = [])) (fun h => h2 h.2)) rfl rfl ?_
    refine r_off rfl rfl rfl rfl (decide_eq_false (p := (e0.Op = (0 : Int)) ∧ (e0.Name = [])) (fun h => h2 h.2)) rfl rfl ?_
    refine rp rfl rfl (p_pkf rfl rfl (decide_eq_false (p := (e0.Op = (0 : Int)) ∧ (e0.Name = [])) (fun h => h2 h.2)) (tb (decide_eq_false (p := ((e0.Op = (0 : Int)) ∧ (e0.Name = [])) ∧ (e0.Value = GValue.zero)) (fun x => (fun h => h2 h.2) x.1)).symm)) ?_
    refine rp rfl rfl (p_move rfl rfl) ?_
    refine r_off rfl rfl rfl rfl (decide_eq_false (p := ((e0.Op = (0 : Int)) ∧ (e0.Name = [])) ∧ (e0.Value = GValue.zero)) (fun h => (fun h => h2 h.2) h.1)) rfl rfl ?_
    refine r_off rfl rfl rfl rfl (decide_eq_false (p := ((e0.Op = (0 : Int)) ∧ (e0.Name = [])) ∧ (e0.Value = GValue.zero)) (fun h => (fun h => h2 h.2) h.1)) rfl rfl ?_
    refine r_off rfl rfl rfl rfl (decide_eq_false (p := ((e0.Op = (0 : Int)) ∧ (e0.Name = [])) ∧ (e0.Value = GValue.zero)) (fun h => (fun h => h2 h.2) h.1)) rfl rfl ?_
    refine r_off rfl rfl rfl rfl (decide_eq_false (p := ((e0.Op = (0 : Int)) ∧ (e0.Name = [])) ∧ (e0.Value = GValue.zero)) (fun h => (fun h => h2 h.2) h.1)) rfl rfl ?_
    refine rp rfl rfl (p_pkf rfl rfl (decide_eq_false (p := ((e0.Op = (0 : Int)) ∧ (e0.Name = [])) ∧ (e0.Value = GValue.zero)) (fun h => (fun h => h2 h.2) h.1)) (tb (decide_eq_false (p := (((e0.Op = (0 : Int)) ∧ (e0.Name = [])) ∧ (e0.Value = GValue.zero)) ∧ ((e0.Args.length : Int) = (0 : Int))) (fun x => (fun h => (fun h => h2 h.2) h.1) x.1)).symm)) ?_
    refine rp rfl rfl (p_asg rfl rfl) ?_
    refine rs [(2, .b (decide ((((e0.Op = (0 : Int)) ∧ (e0.Name = [])) ∧ (e0.Value = GValue.zero)) ∧ ((e0.Args.length : Int) = (0 : Int)))))] [] rfl rfl rfl ?_
    exact RunW_nil rfl
  ·refine r_off rfl rfl rfl rfl (decide_eq_false h1) rfl rfl ?_
   refine r_off rfl rfl rfl rfl (decide_eq_false h1) rfl rfl ?_
   refine r_off rfl rfl rfl rfl (decide_eq_false h1) rfl rfl ?_
   refine rp rfl rfl (p_pkf rfl rfl (decide_eq_false h1) (tb (decide_eq_false (p := (e0.Op = (0 : Int)) ∧ (e0.Name = [])) (fun x => h1 x.1)).symm)) ?_
   refine rp rfl rfl (p_move rfl rfl) ?_
   refine r_off rfl rfl rfl rfl (decide_eq_false (p := (e0.Op = (0 : Int)) ∧ (e0.Name = [])) (fun h => h1 h.1)) rfl rfl ?_
   refine r_off rfl rfl rfl rfl (decide_eq_false (p := (e0.Op = (0 : Int)) ∧ (e0.Name = [])) (fun h => h1 h.1)) rfl rfl ?_
   refine r_off rfl rfl rfl rfl (decide_eq_false (p := (e0.Op = (0 : Int)) ∧ (e0.Name = [])) (fun h => h1 h.1)) rfl rfl ?_
   refine r_off rfl rfl rfl rfl (decide_eq_false (p := (e0.Op = (0 : Int)) ∧ (e0.Name = [])) (fun h => h1 h.1)) rfl rfl ?_
   refine rp rfl rfl (p_pkf rfl rfl (decide_eq_false (p := (e0.Op = (0 : Int)) ∧ (e0.Name = [])) (fun h => h1 h.1)) (tb (decide_eq_false (p := ((e0.Op = (0 : Int)) ∧ (e0.Name = [])) ∧ (e0.Value = GValue.zero)) (fun x => (fun h => h1 h.1) x.1)).symm)) ?_
   refine rp rfl rfl (p_move rfl rfl) ?_
   refine r_off rfl rfl rfl rfl (decide_eq_false (p := ((e0.Op = (0 : Int)) ∧ (e0.Name = [])) ∧ (e0.Value = GValue.zero)) (fun h => (fun h => h1 h.1) h.1)) rfl rfl ?_
   refine r_off rfl rfl rfl rfl (decide_eq_false (p := ((e0.Op = (0 : Int)) ∧ (e0.Name = [])) ∧ (e0.Value = GValue.zero)) (fun h => (fun h => h1 h.1) h.1)) rfl rfl ?_
   refine r_off rfl rfl rfl rfl (decide_eq_false (p := ((e0.Op = (0 : Int)) ∧ (e0.Name = [])) ∧ (e0.Value = GValue.zero)) (fun h => (fun h => h1 h.1) h.1)) rfl rfl ?_
   refine r_off rfl rfl rfl rfl (decide_eq_false (p := ((e0.Op = (0 : Int)) ∧ (e0.Name = [])) ∧ (e0.Value = GValue.zero)) (fun h => (fun h => h1 h.1) h.1)) rfl rfl ?_
   refine rp rfl rfl (p_pkf rfl rfl (decide_eq_false (p := ((e0.Op = (0 : Int)) ∧ (e0.Name = [])) ∧ (e0.Value = GValue.zero)) (fun h => (fun h => h1 h.1) h.1)) (tb (decide_eq_false (p := (((e0.Op = (0 : Int)) ∧ (e0.Name = [])) ∧ (e0.Value = GValue.zero)) ∧ ((e0.Args.length : Int) = (0 : Int))) (fun x => (fun h => (fun h => h1 h.1) h.1) x.1)).symm)) ?_
   refine rp rfl rfl (p_asg rfl rfl) ?_
   refine rs [(2, .b (decide ((((e0.Op = (0 : Int)) ∧ (e0.Name = [])) ∧ (e0.Value = GValue.zero)) ∧ ((e0.Args.length : Int) = (0 : Int)))))] [] rfl rfl rfl ?_
   exact RunW_nil rfl
 ·refine AW2_ret ?_
  have hz := some_elim H
  subst hz
  exact ⟨⟨res_tmp (.same _), trivial⟩, trivial⟩

/-! expr.size -/
noncomputable def g_expr_size_l0 (e0 : GExpr) (depth1 : Int) (R' : GExpr → Int → Option (Int × Bool)) : Int × Int → Option ((Int × Int) ⊕ ((Int × Bool) ⊕ Int))
  | (n6_0, t16_0) => (if t16_0 < (e0.Args.length : Int) then if 0 ≤ t16_0 ∧ t16_0 < (e0.Args.length : Int) then (R' (lrd e0.Args t16_0.toNat) (w64 (depth1 + (1 : Int)))).bind fun r'1 => (if ((!r'1.2) = true) ∨ (w64 (n6_0 + r'1.1) > (40 : Int)) then some (.inr (.inl ((0 : Int), false))) else some (.inl (w64 (n6_0 + r'1.1), w64 (t16_0 + (1 : Int))))) else none else some (.inr (.inr n6_0)))
noncomputable def g_expr_size_b (R' : GExpr → Int → Option (Int × Bool)) (e0 : GExpr) (depth1 : Int) : Option (Int × Bool) :=
  (if depth1 > (7 : Int) then some ((0 : Int), false) else (loopO (g_expr_size_l0 e0 depth1 R') ((1 : Int), (0 : Int))).bind fun o'5 => match o'5 with | .inl y'6 => some y'6 | .inr (y'7) => some (y'7, true))
noncomputable def g_expr_size : Nat → GExpr → Int → Option (Int × Bool)
  | 0, _, _ => none
  | fu + 1, e0, depth1 => g_expr_size_b (g_expr_size fu) e0 depth1
set_option maxHeartbeats 4000000 in
set_option maxRecDepth 100000 in
theorem g_expr_size_ac0 {R' : GExpr → Int → Option (Int × Bool)} (hR : ∀ {e0 : GExpr} {depth1 : Int} {r : Int × Bool}, R' e0 depth1 = some r → ACp Tryd.prog 43 [(.agg (GExpr.cs e0)), (AV.int depth1)] (.tup [(AV.int r.1), (AV.bool r.2)])) {e0 : GExpr} {depth1 : Int} {r : Int × Bool} (H : g_expr_size_b R' e0 depth1 = some r) : ACp Tryd.prog 43 [(.agg (GExpr.cs e0)), (AV.int depth1)] (.tup [(AV.int r.1), (AV.bool r.2)]) := by
 refine ACp_of (AC2_of_body (vs := [.i r.1, .b r.2]) Tryd.func43 rfl rfl (Nat.le_of_ble_eq_true rfl) rfl ?_) (fun _ => .same _)
 unfold g_expr_size_b at H
 refine as2 [(0, .g (GExpr.cs e0)), (1, .i depth1)] [] rfl rfl rfl ?_
 refine sg [0, 1, 2] rfl ?_
 refine r_op rfl rfl (MakeD.opD (n_box 2 rfl rfl) rfl rfl rfl rfl) ?_
 refine rp rfl rfl (p_asg rfl rfl) ?_
 refine rp rfl rfl (p_asg rfl rfl) ?_
 refine rz [(1, .i depth1), (2, .q 2 (0))] [(2, .pure (GExpr.cs e0))] rfl rfl rfl ?_
 refine AW2_seq ?_
 refine sg [0, 1] rfl ?_
 refine rp rfl rfl (p_move rfl rfl) ?_
 refine rp rfl rfl (p_bin rfl rfl rfl rfl) ?_
 refine rz [(1, .i depth1), (2, .q 2 (0)), (12, .b (decide (depth1 > (7 : Int))))] [(2, .pure (GExpr.cs e0))] rfl rfl rfl ?_
 refine AW2_if (p := depth1 > (7 : Int)) rfl (fun h1 => ?_) (fun h1 => ?_)
 ·replace H := ite_then h1 H
  refine sg [0, 1] rfl ?_
  refine rp rfl rfl (p_asg rfl rfl) ?_
  refine rp rfl rfl (p_asg rfl rfl) ?_
  refine rz [(4, .i (0 : Int)), (5, .b false)] [] rfl rfl rfl ?_
  refine AW2_ret ?_
  have hz := some_elim H
  subst hz
  exact ⟨⟨res_tmp (.same _), res_tmp (.same _), trivial⟩, trivial⟩
 ·replace H := ite_else h1 H
  refine as2 [(1, .i depth1), (2, .q 2 (0))] [(2, .pure (GExpr.cs e0))] rfl rfl rfl ?_
  refine AW2_skip ?_
  refine sg [0] rfl ?_
  refine rp rfl rfl (p_asg rfl rfl) ?_
  refine rz [(1, .i depth1), (2, .q 2 (0)), (6, .i (1 : Int))] [(2, .pure (GExpr.cs e0))] rfl rfl rfl ?_
  refine AW2_seq ?_
  refine sg [0, 1, 2, 3] rfl ?_
  refine rp rfl rfl (u_fa rfl rfl Tryd.underlying27 rfl in_25 (Nat.succ_ne_zero _) rfl rfl (ne_of_lt (n := 0) (Nat.lt_of_lt_of_eq (by decide) (Eq.symm (GExpr.len e0))))) ?_
  refine rp rfl rfl (u_ld rfl rfl Tryd.underlying25 rfl rfl ((Sub.refl _).trans (GExpr.sub3 e0))) ?_
  refine rp rfl rfl (p_lenl rfl Tryd.underlying25 rfl rfl) ?_
  refine rp rfl rfl (p_move rfl rfl) ?_
  refine rz [(1, .i depth1), (6, .i (1 : Int)), (14, .p ((fun q : List GExpr => AV.lst (q.flatMap GExpr.cs) q.length) e0.Args)), (15, .i (e0.Args.length : Int)), (16, .i (0 : Int))] [] rfl rfl rfl ?_
  refine AW2_block ?_
  refine as2 [(1, .i depth1), (6, .i (1 : Int)), (14, .p ((fun q : List GExpr => AV.lst (q.flatMap GExpr.cs) q.length) e0.Args)), (15, .i (e0.Args.length : Int)), (16, .i (0 : Int))] [] rfl rfl rfl ?_
  refine bindK H fun o'5 h7 H => ?_
  refine AW2_loopO (fun a'2 : Int × Int => (⟨[(1, .i depth1), (6, .i a'2.1), (14, .p ((fun q : List GExpr => AV.lst (q.flatMap GExpr.cs) q.length) e0.Args)), (15, .i (e0.Args.length : Int)), (16, .i a'2.2)], [], 38⟩ : TS)) (fun (o : (Int × Bool) ⊕ Int) e s' => match o with | .inl y'3 => e = Go.Exit.ret ∧ ResAll Tryd.prog s' [ResultVar.tmp 4, ResultVar.tmp 5] [.i y'3.1, .b y'3.2] ∧ HFits s' [] | .inr (y'4) => e = Go.Exit.exit 0 ∧ s' = (⟨[(6, .i y'4)], [], 38⟩ : TS)) h7 rfl (fun a x hx => ?_) (fun e s' hs => ?_)
  ·clear H
   obtain ⟨n6_0, t16_0⟩ := a
   have H := hx
   clear hx
   unfold g_expr_size_l0 at H
   refine sg [0] rfl ?_
   refine rp rfl rfl (p_bin rfl rfl rfl rfl) ?_
   refine rz [(1, .i depth1), (6, .i n6_0), (14, .p ((fun q : List GExpr => AV.lst (q.flatMap GExpr.cs) q.length) e0.Args)), (15, .i (e0.Args.length : Int)), (16, .i t16_0), (17, .b (decide (t16_0 < (e0.Args.length : Int))))] [] rfl rfl rfl ?_
   refine AW2_seq ?_
   refine AW2_if (p := t16_0 < (e0.Args.length : Int)) rfl (fun h2 => ?_) (fun h2 => ?_)
   ·replace H := ite_then h2 H
    refine as2 [(1, .i depth1), (6, .i n6_0), (14, .p ((fun q : List GExpr => AV.lst (q.flatMap GExpr.cs) q.length) e0.Args)), (15, .i (e0.Args.length : Int)), (16, .i t16_0)] [] rfl rfl rfl ?_
    refine AW2_skip ?_
    refine AW2_seq ?_
    refine AW2_block ?_
    refine sg [0, 1, 2, 3] rfl ?_
    refine chkK H fun h3 H => ?_
    refine rp rfl rfl (u_ixl rfl rfl Tryd.underlying25 in_27 rfl rfl (ixe h3) (ixn h3) (fne (fun x => (GExpr.len x)) (by decide) (ixn h3))) ?_
    refine rp rfl rfl (u_lda rfl rfl Tryd.underlying27 rfl in_27 rfl (Nat.succ_pos _) (Sub.fm default (fun x => (GExpr.len x)) (ixn h3)) (GExpr.len (lrd e0.Args t16_0.toNat))) ?_
    refine r_op rfl rfl (MakeD.opD (u_alloc 8 rfl in_27 one_27 zc_27) rfl rfl rfl rfl) ?_
    refine r_op rfl rfl (u_st rfl rfl rfl rfl rfl in_27 (GExpr.len (lrd e0.Args t16_0.toNat)) (ne_of_lt (n := 0) (Nat.lt_of_lt_of_eq (by decide) (Eq.symm (GExpr.len GExpr.zero)))) (Upd.refl ((GExpr.len (lrd e0.Args t16_0.toNat)).trans (GExpr.len GExpr.zero).symm))) ?_
    refine rz [(1, .i depth1), (6, .i n6_0), (8, .q 8 (0)), (14, .p ((fun q : List GExpr => AV.lst (q.flatMap GExpr.cs) q.length) e0.Args)), (15, .i (e0.Args.length : Int)), (16, .i t16_0)] [(8, .pure (GExpr.cs (lrd e0.Args t16_0.toNat)))] rfl rfl rfl ?_
    refine sg [0, 1, 2, 3, 4, 5, 6, 7, 8] rfl ?_
    refine rp rfl rfl (u_lda rfl rfl Tryd.underlying27 rfl in_27 rfl (Nat.succ_pos _) (Sub.refl _) (GExpr.len (lrd e0.Args t16_0.toNat))) ?_
    refine rp rfl rfl (p_move rfl rfl) ?_
    refine rp rfl rfl (p_bin rfl rfl rfl rfl) ?_
    refine bindK H fun r'1 h4 H => ?_
    refine rp rfl rfl (p_callp rfl rfl rfl Tryd.func43 rfl rfl (hR h4) ⟨rfl, rfl, trivial⟩) ?_
    refine rp rfl rfl (p_move rfl rfl) ?_
    refine rp rfl rfl (p_ext rfl rfl rfl rfl) ?_
    refine rp rfl rfl (p_ext rfl rfl rfl rfl) ?_
    refine rp rfl rfl (p_asg rfl rfl) ?_
    refine rp rfl rfl (p_asg rfl rfl) ?_
    refine rz [(1, .i depth1), (6, .i n6_0), (9, .i r'1.1), (10, .b r'1.2), (14, .p ((fun q : List GExpr => AV.lst (q.flatMap GExpr.cs) q.length) e0.Args)), (15, .i (e0.Args.length : Int)), (16, .i t16_0)] [] rfl rfl rfl ?_
    refine sg [0, 1, 2, 3] rfl ?_
    refine rp rfl rfl (p_move rfl rfl) ?_
    refine rp rfl rfl (p_move rfl rfl) ?_
    refine rp rfl rfl (p_bin rfl rfl rfl rfl) ?_
    refine rp rfl rfl (p_asg rfl rfl) ?_
    refine rz [(1, .i depth1), (6, .i (w64 (n6_0 + r'1.1))), (10, .b r'1.2), (14, .p ((fun q : List GExpr => AV.lst (q.flatMap GExpr.cs) q.length) e0.Args)), (15, .i (e0.Args.length : Int)), (16, .i t16_0)] [] rfl rfl rfl ?_
    refine AW2_seq ?_
    refine AW2_mid (⟨[(1, .i depth1), (6, .i (w64 (n6_0 + r'1.1))), (14, .p ((fun q : List GExpr => AV.lst (q.flatMap GExpr.cs) q.length) e0.Args)), (15, .i (e0.Args.length : Int)), (16, .i t16_0), (35, .b (decide (((!r'1.2) = true) ∨ (w64 (n6_0 + r'1.1) > (40 : Int)))))], [], 38⟩ : TS) ?_ ?_
    ·refine AW2_reg [0, 1, 2, 3, 4, 5] rfl ?_
     refine rp rfl rfl (p_move rfl rfl) ?_
     refine rp rfl rfl (p_not rfl rfl) ?_
     refine rp rfl rfl (p_move rfl rfl) ?_
     refine (Classical.em ((!r'1.2) = true)).elim (fun h5 => ?_) (fun h5 => ?_)
     ·refine r_off rfl rfl rfl rfl h5 rfl rfl ?_
      refine r_off rfl rfl rfl rfl h5 rfl rfl ?_
      refine rp rfl rfl (p_pkt rfl rfl h5 (tb (decide_eq_true (p := ((!r'1.2) = true) ∨ (w64 (n6_0 + r'1.1) > (40 : Int))) (Or.inl h5)).symm)) ?_
      refine rs [(1, .i depth1), (6, .i (w64 (n6_0 + r'1.1))), (14, .p ((fun q : List GExpr => AV.lst (q.flatMap GExpr.cs) q.length) e0.Args)), (15, .i (e0.Args.length : Int)), (16, .i t16_0), (35, .b (decide (((!r'1.2) = true) ∨ (w64 (n6_0 + r'1.1) > (40 : Int)))))] [] rfl rfl rfl ?_
      exact RunW_nil rfl
     ·refine r_on rfl rfl rfl rfl (bfalse h5) rfl (PureD.opD (p_move rfl rfl)) ?_
      refine r_on rfl rfl rfl rfl (bfalse h5) rfl (PureD.opD (p_bin rfl rfl rfl rfl)) ?_
      refine rp rfl rfl (p_pkf rfl rfl (bfalse h5) (tb ((or_l (p := (!r'1.2) = true) (q := w64 (n6_0 + r'1.1) > (40 : Int)) h5)))) ?_
      refine rs [(1, .i depth1), (6, .i (w64 (n6_0 + r'1.1))), (14, .p ((fun q : List GExpr => AV.lst (q.flatMap GExpr.cs) q.length) e0.Args)), (15, .i (e0.Args.length : Int)), (16, .i t16_0), (35, .b (decide (((!r'1.2) = true) ∨ (w64 (n6_0 + r'1.1) > (40 : Int)))))] [] rfl rfl rfl ?_
      exact RunW_nil rfl
    ·refine AW2_if (p := ((!r'1.2) = true) ∨ (w64 (n6_0 + r'1.1) > (40 : Int))) rfl (fun h6 => ?_) (fun h6 => ?_)
     ·replace H := ite_then h6 H
      refine sg [0, 1] rfl ?_
      refine rp rfl rfl (p_asg rfl rfl) ?_
      refine rp rfl rfl (p_asg rfl rfl) ?_
      refine rz [(4, .i (0 : Int)), (5, .b false)] [] rfl rfl rfl ?_
      refine AW2_ret ?_
      have hz := some_elim H
      subst hz
      exact ⟨rfl, ⟨res_tmp (.same _), res_tmp (.same _), trivial⟩, trivial⟩
     ·replace H := ite_else h6 H
      refine as2 [(1, .i depth1), (6, .i (w64 (n6_0 + r'1.1))), (14, .p ((fun q : List GExpr => AV.lst (q.flatMap GExpr.cs) q.length) e0.Args)), (15, .i (e0.Args.length : Int)), (16, .i t16_0)] [] rfl rfl rfl ?_
      refine AW2_skip ?_
      refine AW2_reg [0, 1] rfl ?_
      refine rp rfl rfl (p_bin rfl rfl rfl rfl) ?_
      refine rp rfl rfl (p_move rfl rfl) ?_
      refine rz [(1, .i depth1), (6, .i (w64 (n6_0 + r'1.1))), (14, .p ((fun q : List GExpr => AV.lst (q.flatMap GExpr.cs) q.length) e0.Args)), (15, .i (e0.Args.length : Int)), (16, .i (w64 (t16_0 + (1 : Int))))] [] rfl rfl rfl ?_
      have hz := some_elim H
      subst hz
      exact ⟨rfl, rfl⟩
   ·replace H := ite_else h2 H
    refine as2 [(6, .i n6_0)] [] rfl rfl rfl ?_
    refine AW2_exit ?_
    refine thenQ2_exit ?_
    have hz := some_elim H
    subst hz
    exact ⟨rfl, rfl⟩
  ·rcases o'5 with y'6 | y'7
   ·obtain ⟨rfl, hs⟩ := hs
    refine ⟨by simp, ?_⟩
    have hz := some_elim H
    subst hz
    exact ⟨hs.1, hs.2⟩
   ·obtain ⟨rfl, rfl⟩ := hs
    refine ⟨by simp, ?_⟩
    refine blockQ2_exit ?_
    refine sg [0, 1, 2] rfl ?_
    refine rp rfl rfl (p_move rfl rfl) ?_
    refine rp rfl rfl (p_asg rfl rfl) ?_
    refine rp rfl rfl (p_asg rfl rfl) ?_
    refine rz [(4, .i y'7), (5, .b true)] [] rfl rfl rfl ?_
    refine AW2_ret ?_
    have hz := some_elim H
    subst hz
    exact ⟨⟨res_tmp (.same _), res_tmp (.same _), trivial⟩, trivial⟩
theorem g_expr_size_acN : ∀ (fu : Nat) {e0 : GExpr} {depth1 : Int} {r : Int × Bool}, g_expr_size fu e0 depth1 = some r → ACp Tryd.prog 43 [(.agg (GExpr.cs e0)), (AV.int depth1)] (.tup [(AV.int r.1), (AV.bool r.2)])
 | 0, _, _, _, H => (by cases H)
 | fu + 1, _, _, _, H => g_expr_size_ac0 (g_expr_size_acN fu) H
theorem g_expr_size_ac {e0 : GExpr} {depth1 : Int} {r : Int × Bool} (H : g_expr_size 100000 e0 depth1 = some r) : ACp Tryd.prog 43 [(.agg (GExpr.cs e0)), (AV.int depth1)] (.tup [(AV.int r.1), (AV.bool r.2)]) := g_expr_size_acN 100000 H

/-! expr.wants -/
noncomputable def g_expr_wants (op0 : Int) : Option (Int) :=
  ((if op0 = (1 : Int) then some (decide (op0 = (1 : Int))) else some (decide (op0 = (2 : Int))))).bind fun j'1 => (if j'1 = true then some (0 : Int) else ((if op0 = (3 : Int) then some (decide (op0 = (3 : Int))) else (if op0 = (4 : Int) then some (decide (op0 = (4 : Int))) else (if op0 = (17 : Int) then some (decide (op0 = (17 : Int))) else some (decide (op0 = (18 : Int))))))).bind fun j'2 => (if j'2 = true then some (1 : Int) else some (2 : Int)))
set_option maxHeartbeats 4000000 in
set_option maxRecDepth 100000 in
theorem g_expr_wants_ac {op0 : Int} {r : Int} (H : g_expr_wants op0 = some r) : ACp Tryd.prog 77 [(AV.int op0)] (AV.int r) := by
 refine ACp_of (AC2_of_body (vs := [.i r]) Tryd.func77 rfl rfl (Nat.le_of_ble_eq_true rfl) rfl ?_) (fun _ => .same _)
 unfold g_expr_wants at H
 refine as2 [(0, .i op0)] [] rfl rfl rfl ?_
 refine sg [0] rfl ?_
 refine rp rfl rfl (p_asg rfl rfl) ?_
 refine rz [(0, .i op0)] [] rfl rfl rfl ?_
 refine AW2_seq ?_
 refine sg [0] rfl ?_
 refine rp rfl rfl (p_move rfl rfl) ?_
 refine rz [(3, .i op0)] [] rfl rfl rfl ?_
 refine AW2_block ?_
 refine AW2_seq ?_
 refine bindK H fun j'1 h1 H => ?_
 refine AW2_mid (⟨[(3, .i op0), (4, .b j'1)], [], 12⟩ : TS) ?_ ?_
 ·clear H
  have H := h1
  clear h1
  refine sg [0, 1] rfl ?_
  refine rp rfl rfl (p_ieq rfl rfl rfl) ?_
  refine rp rfl rfl (p_asg rfl rfl) ?_
  refine rz [(3, .i op0), (4, .b (decide (op0 = (1 : Int))))] [] rfl rfl rfl ?_
  refine AW2_if (p := op0 = (1 : Int)) rfl (fun h2 => ?_) (fun h2 => ?_)
  ·replace H := ite_then h2 H
   refine AW2_skip ?_
   have hz := some_elim H
   subst hz
   exact rfl
  ·replace H := ite_else h2 H
   refine AW2_reg [0, 1] rfl ?_
   refine rp rfl rfl (p_ieq rfl rfl rfl) ?_
   refine rp rfl rfl (p_asg rfl rfl) ?_
   refine rz [(3, .i op0), (4, .b (decide (op0 = (2 : Int))))] [] rfl rfl rfl ?_
   have hz := some_elim H
   subst hz
   exact rfl
 ·refine AW2_cond rfl (fun h3 => ?_) (fun h3 => ?_)
  ·replace H := ite_then h3 H
   refine sg [0] rfl ?_
   refine rp rfl rfl (p_asg rfl rfl) ?_
   refine rz [(2, .i (0 : Int))] [] rfl rfl rfl ?_
   refine AW2_ret ?_
   have hz := some_elim H
   subst hz
   exact ⟨⟨res_tmp (.same _), trivial⟩, trivial⟩
  ·replace H := ite_else (ne_true h3) H
   refine AW2_seq ?_
   refine bindK H fun j'2 h4 H => ?_
   refine AW2_mid (⟨[(7, .b j'2)], [], 12⟩ : TS) ?_ ?_
   ·clear H
    have H := h4
    clear h4
    refine sg [0, 1] rfl ?_
    refine rp rfl rfl (p_ieq rfl rfl rfl) ?_
    refine rp rfl rfl (p_asg rfl rfl) ?_
    refine rz [(3, .i op0), (7, .b (decide (op0 = (3 : Int))))] [] rfl rfl rfl ?_
    refine AW2_if (p := op0 = (3 : Int)) rfl (fun h5 => ?_) (fun h5 => ?_)
    ·replace H := ite_then h5 H
     refine as2 [(7, .b (decide (op0 = (3 : Int))))] [] rfl rfl rfl ?_
     refine AW2_skip ?_
     have hz := some_elim H
     subst hz
     exact rfl
    ·replace H := ite_else h5 H
     refine sg [0, 1] rfl ?_
     refine rp rfl rfl (p_ieq rfl rfl rfl) ?_
     refine rp rfl rfl (p_asg rfl rfl) ?_
     refine rz [(3, .i op0), (7, .b (decide (op0 = (4 : Int))))] [] rfl rfl rfl ?_
     refine AW2_if (p := op0 = (4 : Int)) rfl (fun h6 => ?_) (fun h6 => ?_)
     ·replace H := ite_then h6 H
      refine as2 [(7, .b (decide (op0 = (4 : Int))))] [] rfl rfl rfl ?_
      refine AW2_skip ?_
      have hz := some_elim H
      subst hz
      exact rfl
     ·replace H := ite_else h6 H
      refine sg [0, 1] rfl ?_
      refine rp rfl rfl (p_ieq rfl rfl rfl) ?_
      refine rp rfl rfl (p_asg rfl rfl) ?_
      refine rz [(3, .i op0), (7, .b (decide (op0 = (17 : Int))))] [] rfl rfl rfl ?_
      refine AW2_if (p := op0 = (17 : Int)) rfl (fun h7 => ?_) (fun h7 => ?_)
      ·replace H := ite_then h7 H
       refine as2 [(7, .b (decide (op0 = (17 : Int))))] [] rfl rfl rfl ?_
       refine AW2_skip ?_
       have hz := some_elim H
       subst hz
       exact rfl
      ·replace H := ite_else h7 H
       refine AW2_reg [0, 1] rfl ?_
       refine rp rfl rfl (p_ieq rfl rfl rfl) ?_
       refine rp rfl rfl (p_asg rfl rfl) ?_
       refine rz [(7, .b (decide (op0 = (18 : Int))))] [] rfl rfl rfl ?_
       have hz := some_elim H
       subst hz
       exact rfl
   ·refine AW2_cond rfl (fun h8 => ?_) (fun h8 => ?_)
    ·replace H := ite_then h8 H
     refine sg [0] rfl ?_
     refine rp rfl rfl (p_asg rfl rfl) ?_
     refine rz [(2, .i (1 : Int))] [] rfl rfl rfl ?_
     refine AW2_ret ?_
     have hz := some_elim H
     subst hz
     exact ⟨⟨res_tmp (.same _), trivial⟩, trivial⟩
    ·replace H := ite_else (ne_true h8) H
     refine as2 [] [] rfl rfl rfl ?_
     refine AW2_skip ?_
     refine sg [0] rfl ?_
     refine rp rfl rfl (p_asg rfl rfl) ?_
     refine rz [(2, .i (2 : Int))] [] rfl rfl rfl ?_
     refine AW2_ret ?_
     have hz := some_elim H
     subst hz
     exact ⟨⟨res_tmp (.same _), trivial⟩, trivial⟩

/-! expr.node -/
def g_expr_node_r3 : List (List (Nat × Option Nat)) := [[(1, none)], [(11, some 0)], [(12, some 1)], [(1, none)], [(14, some 3)], [(15, some 4)]]
def g_expr_node_r3c : List (List Nat) := [[], [0], [0, 1], [], [3], [3, 4], [0, 1, 2, 3, 4, 5]]
noncomputable def g_expr_node (e0 : GExpr) : Option (Int) :=
  (if (e0.Op < (1 : Int)) ∨ (e0.Op > (20 : Int)) then some (2 : Int) else (g_expr_wants e0.Op).bind fun r'1 => (if (e0.Args.length : Int) ≠ r'1 then some (3 : Int) else (if ((decide (e0.Op = (2 : Int))) ≠ (decide (e0.Name ≠ []))) ∨ ((e0.Op ≠ (1 : Int)) ∧ (e0.Value ≠ GValue.zero)) then some (3 : Int) else ((if e0.Op = (2 : Int) then (g_lex_Check ({ { GToken.zero with Kind := (1 : Int) } with Text := e0.Name })).bind fun r'3 => some (decide (r'3 ≠ (0 : Int))) else some false)).bind fun g'4 => (if g'4 = true then some (3 : Int) else ((if e0.Op = (1 : Int) then (g_value_Check e0.Value).bind fun r'6 => (if r'6 ≠ (0 : Int) then some true else some (decide (e0.Value.Int_ < (0 : Int)))) else some false)).bind fun g'7 => (if g'7 = true then some (3 : Int) else some (0 : Int))))))
set_option maxHeartbeats 4000000 in
set_option maxRecDepth 100000 in
theorem g_expr_node_ac {e0 : GExpr} {r : Int} (H : g_expr_node e0 = some r) : ACp Tryd.prog 63 [(.agg (GExpr.cs e0))] (AV.int r) := by
 refine ACp_of (AC2_of_body (vs := [.i r]) Tryd.func63 rfl rfl (Nat.le_of_ble_eq_true rfl) rfl ?_) (fun _ => .same _)
 unfold g_expr_node at H
 refine as2 [(0, .g (GExpr.cs e0))] [] rfl rfl rfl ?_
 refine sg [0, 1] rfl ?_
 refine r_op rfl rfl (MakeD.opD (n_box 1 rfl rfl) rfl rfl rfl rfl) ?_
 refine rp rfl rfl (p_asg rfl rfl) ?_
 refine rz [(1, .q 1 (0))] [(1, .pure (GExpr.cs e0))] rfl rfl rfl ?_
 refine AW2_seq ?_
 refine AW2_seq ?_
 refine AW2_mid (⟨[(1, .q 1 (0)), (10, .b (decide ((e0.Op < (1 : Int)) ∨ (e0.Op > (20 : Int)))))], [(1, .pure (GExpr.cs e0))], 61⟩ : TS) ?_ ?_
 ·refine AW2_reg [0, 1, 2, 3, 4, 5, 6, 7] rfl ?_
  refine rp rfl rfl (u_fa rfl rfl Tryd.underlying27 rfl in_3 (Nat.succ_ne_zero _) rfl rfl (ne_of_lt (n := 0) (Nat.lt_of_lt_of_eq (by decide) (Eq.symm (GExpr.len e0))))) ?_
  refine rp rfl rfl (u_ld rfl rfl Tryd.underlying3 rfl rfl ((Sub.refl _).trans (GExpr.sub0 e0))) ?_
  refine rp rfl rfl (p_bin rfl rfl rfl rfl) ?_
  refine rp rfl rfl (p_move rfl rfl) ?_
  refine (Classical.em (e0.Op < (1 : Int))).elim (fun h1 => ?_) (fun h1 => ?_)
  ·refine r_off rfl rfl rfl rfl (decide_eq_true h1) rfl rfl ?_
   refine r_off rfl rfl rfl rfl (decide_eq_true h1) rfl rfl ?_
   refine r_off rfl rfl rfl rfl (decide_eq_true h1) rfl rfl ?_
   refine rp rfl rfl (p_pkt rfl rfl (decide_eq_true h1) (tb (decide_eq_true (p := (e0.Op < (1 : Int)) ∨ (e0.Op > (20 : Int))) (Or.inl h1)).symm)) ?_
   refine rs [(1, .q 1 (0)), (10, .b (decide ((e0.Op < (1 : Int)) ∨ (e0.Op > (20 : Int)))))] [(1, .pure (GExpr.cs e0))] rfl rfl rfl ?_
   exact RunW_nil rfl
  ·refine r_on rfl rfl rfl rfl (decide_eq_false h1) rfl (PureD.opD (u_fa rfl rfl Tryd.underlying27 rfl in_3 (Nat.succ_ne_zero _) rfl rfl (ne_of_lt (n := 0) (Nat.lt_of_lt_of_eq (by decide) (Eq.symm (GExpr.len e0)))))) ?_
   refine r_on rfl rfl rfl rfl (decide_eq_false h1) rfl (PureD.opD (u_ld rfl rfl Tryd.underlying3 rfl rfl ((Sub.refl _).trans (GExpr.sub0 e0)))) ?_
   refine r_on rfl rfl rfl rfl (decide_eq_false h1) rfl (PureD.opD (p_bin rfl rfl rfl rfl)) ?_
   refine rp rfl rfl (p_pkf rfl rfl (decide_eq_false h1) (tb ((or_l (p := e0.Op < (1 : Int)) (q := e0.Op > (20 : Int)) h1)))) ?_
   refine rs [(1, .q 1 (0)), (10, .b (decide ((e0.Op < (1 : Int)) ∨ (e0.Op > (20 : Int)))))] [(1, .pure (GExpr.cs e0))] rfl rfl rfl ?_
   exact RunW_nil rfl
 ·refine AW2_if (p := (e0.Op < (1 : Int)) ∨ (e0.Op > (20 : Int))) rfl (fun h2 => ?_) (fun h2 => ?_)
  ·replace H := ite_then h2 H
   refine sg [0] rfl ?_
   refine rp rfl rfl (p_asg rfl rfl) ?_
   refine rz [(2, .i (2 : Int))] [] rfl rfl rfl ?_
   refine AW2_ret ?_
   have hz := some_elim H
   subst hz
   exact ⟨⟨res_tmp (.same _), trivial⟩, trivial⟩
  ·replace H := ite_else h2 H
   refine as2 [(1, .q 1 (0))] [(1, .pure (GExpr.cs e0))] rfl rfl rfl ?_
   refine AW2_skip ?_
   refine AW2_seq ?_
   refine AW2_seq ?_
   refine bindK H fun r'1 h3 H => ?_
   refine AW2_ghoQ ?_
   refine AW2_draw 6 [6] (fun k => ([.q 1 (0 + 6), .p ((fun q : List GExpr => AV.lst (q.flatMap GExpr.cs) q.length) e0.Args), .i (e0.Args.length : Int), .q 1 (0 + 0), .i e0.Op, .i r'1] : List TV).getD k TV.any) (fun k => g_expr_node_r3.getD k []) [(1, none), (13, some 2), (16, some 5)] [] (fun k => g_expr_node_r3c.getD k []) mixed (by kernel_rfl) rfl rfl (a_op (g_x rfl (x_p rfl (u_fa rfl rfl Tryd.underlying27 rfl in_25 (Nat.succ_ne_zero _) rfl rfl (ne_of_lt (n := 0) (Nat.lt_of_lt_of_eq (by decide) (Eq.symm (GExpr.len e0))))) rfl)) (a_op (g_x rfl (x_p rfl (u_ld rfl rfl Tryd.underlying25 rfl rfl ((Sub.refl _).trans (GExpr.sub3 e0))) rfl)) (a_op (g_x rfl (x_p rfl (p_lenl rfl Tryd.underlying25 rfl rfl) rfl)) (a_op (g_x rfl (x_p rfl (u_fa rfl rfl Tryd.underlying27 rfl in_3 (Nat.succ_ne_zero _) rfl rfl (ne_of_lt (n := 0) (Nat.lt_of_lt_of_eq (by decide) (Eq.symm (GExpr.len e0))))) rfl)) (a_op (g_x rfl (x_p rfl (u_ld rfl rfl Tryd.underlying3 rfl rfl ((Sub.refl _).trans (GExpr.sub0 e0))) rfl)) (a_op (g_x rfl (x_p rfl (p_callp rfl rfl rfl Tryd.func77 rfl rfl (g_expr_wants_ac h3) ⟨rfl, trivial⟩) rfl)) (a_nil))))))) ?_
   refine t_op rfl rfl (PureD.opD (p_ine rfl rfl rfl)) ?_
   refine t_gho (Gho_st (L := [(1, .q 1 (0)), (17, .b (decide ((e0.Args.length : Int) ≠ r'1)))]) (H := [(1, .pure (GExpr.cs e0))]) (N := 61) rfl ⟨TLes.same _, TLes.same _, trivial⟩ ⟨rfl, trivial⟩) ?_
   refine AW2_if (p := (e0.Args.length : Int) ≠ r'1) rfl (fun h4 => ?_) (fun h4 => ?_)
   ·replace H := ite_then h4 H
    refine sg [0] rfl ?_
    refine rp rfl rfl (p_asg rfl rfl) ?_
    refine rz [(2, .i (3 : Int))] [] rfl rfl rfl ?_
    refine AW2_ret ?_
    have hz := some_elim H
    subst hz
    exact ⟨⟨res_tmp (.same _), trivial⟩, trivial⟩
   ·replace H := ite_else h4 H
    refine as2 [(1, .q 1 (0))] [(1, .pure (GExpr.cs e0))] rfl rfl rfl ?_
    refine AW2_skip ?_
    refine AW2_seq ?_
    refine AW2_seq ?_
    refine AW2_mid (⟨[(1, .q 1 (0)), (35, .b (decide (((decide (e0.Op = (2 : Int))) ≠ (decide (e0.Name ≠ []))) ∨ ((e0.Op ≠ (1 : Int)) ∧ (e0.Value ≠ GValue.zero)))))], [(1, .pure (GExpr.cs e0))], 61⟩ : TS) ?_ ?_
    ·refine AW2_reg [0, 1, 2, 3, 4, 5, 6, 7, 8, 9, 10, 11, 12, 13, 14, 15, 16, 17] rfl ?_
     refine rp rfl rfl (u_fa rfl rfl Tryd.underlying27 rfl in_3 (Nat.succ_ne_zero _) rfl rfl (ne_of_lt (n := 0) (Nat.lt_of_lt_of_eq (by decide) (Eq.symm (GExpr.len e0))))) ?_
     refine rp rfl rfl (u_ld rfl rfl Tryd.underlying3 rfl rfl ((Sub.refl _).trans (GExpr.sub0 e0))) ?_
     refine rp rfl rfl (p_ieq rfl rfl rfl) ?_
     refine rp rfl rfl (u_fa rfl rfl Tryd.underlying27 rfl in_9 (Nat.succ_ne_zero _) rfl rfl (ne_of_lt (n := 0) (Nat.lt_of_lt_of_eq (by decide) (Eq.symm (GExpr.len e0))))) ?_
     refine rp rfl rfl (u_ld rfl rfl Tryd.underlying9 rfl rfl ((Sub.refl _).trans (GExpr.sub2 e0))) ?_
     refine rp rfl rfl (p_sne rfl rfl rfl) ?_
     refine rp rfl rfl (p_bnep rfl Tryd.underlying4 rfl rfl) ?_
     refine rp rfl rfl (p_move rfl rfl) ?_
     refine (Classical.em ((decide (e0.Op = (2 : Int))) ≠ (decide (e0.Name ≠ [])))).elim (fun h5 => ?_) (fun h5 => ?_)
     ·refine r_off rfl rfl rfl rfl (decide_eq_true h5) rfl rfl ?_
      refine r_off rfl rfl rfl rfl (decide_eq_true h5) rfl rfl ?_
      refine r_off rfl rfl rfl rfl (decide_eq_true h5) rfl rfl ?_
      refine r_off rfl rfl rfl rfl (decide_eq_true h5) rfl rfl ?_
      refine r_off2 rfl rfl rfl rfl rfl rfl ?_
      refine r_off2 rfl rfl rfl rfl rfl rfl ?_
      refine r_off2 rfl rfl rfl rfl rfl rfl ?_
      refine r_off2 rfl rfl rfl rfl rfl rfl ?_
      refine r_off rfl rfl rfl rfl (decide_eq_true h5) rfl rfl ?_
      refine rp rfl rfl (p_pkt rfl rfl (decide_eq_true h5) (tb (decide_eq_true (p := ((decide (e0.Op = (2 : Int))) ≠ (decide (e0.Name ≠ []))) ∨ ((e0.Op ≠ (1 : Int)) ∧ (e0.Value ≠ GValue.zero))) (Or.inl h5)).symm)) ?_
      refine rs [(1, .q 1 (0)), (35, .b (decide (((decide (e0.Op = (2 : Int))) ≠ (decide (e0.Name ≠ []))) ∨ ((e0.Op ≠ (1 : Int)) ∧ (e0.Value ≠ GValue.zero)))))] [(1, .pure (GExpr.cs e0))] rfl rfl rfl ?_
      exact RunW_nil rfl
     ·refine r_on rfl rfl rfl rfl (decide_eq_false h5) rfl (PureD.opD (u_fa rfl rfl Tryd.underlying27 rfl in_3 (Nat.succ_ne_zero _) rfl rfl (ne_of_lt (n := 0) (Nat.lt_of_lt_of_eq (by decide) (Eq.symm (GExpr.len e0)))))) ?_
      refine r_on rfl rfl rfl rfl (decide_eq_false h5) rfl (PureD.opD (u_ld rfl rfl Tryd.underlying3 rfl rfl ((Sub.refl _).trans (GExpr.sub0 e0)))) ?_
      refine r_on rfl rfl rfl rfl (decide_eq_false h5) rfl (PureD.opD (p_ine rfl rfl rfl)) ?_
      refine r_on rfl rfl rfl rfl (decide_eq_false h5) rfl (PureD.opD (p_move rfl rfl)) ?_
      refine (Classical.em (e0.Op ≠ (1 : Int))).elim (fun h6 => ?_) (fun h6 => ?_)
      ·refine r_on rfl rfl rfl rfl (decide_eq_true h6) rfl (PureD.opD (u_fa rfl rfl Tryd.underlying27 rfl in_24 (Nat.succ_ne_zero _) rfl rfl (ne_of_lt (n := 0) (Nat.lt_of_lt_of_eq (by decide) (Eq.symm (GExpr.len e0)))))) ?_
       refine r_on rfl rfl rfl rfl (decide_eq_true h6) rfl (PureD.opD (u_lda rfl rfl Tryd.underlying24 rfl in_24 rfl (Nat.succ_pos _) ((Sub.refl _).trans (GExpr.sub1 e0)) (GValue.len e0.Value))) ?_
       refine r_on rfl rfl rfl rfl (decide_eq_true h6) rfl (PureD.opD (u_bld rfl in_24 one_24 zc_24 pl_24 rfl rfl)) ?_
       refine r_on rfl rfl rfl rfl (decide_eq_true h6) rfl (PureD.opD (p_nea (a := e0.Value) (b := GValue.zero) rfl eq_24 rfl (by kernel_rfl) rfl rfl)) ?_
       refine r_on rfl rfl rfl rfl (decide_eq_false h5) rfl (PureD.opD (p_pkt rfl rfl (decide_eq_true h6) (tb ((and_l (p := e0.Op ≠ (1 : Int)) (q := e0.Value ≠ GValue.zero) h6))))) ?_
       refine rp rfl rfl (p_pkf rfl rfl (decide_eq_false h5) (tb ((or_l (p := (decide (e0.Op = (2 : Int))) ≠ (decide (e0.Name ≠ []))) (q := (e0.Op ≠ (1 : Int)) ∧ (e0.Value ≠ GValue.zero)) h5)))) ?_
       refine rs [(1, .q 1 (0)), (35, .b (decide (((decide (e0.Op = (2 : Int))) ≠ (decide (e0.Name ≠ []))) ∨ ((e0.Op ≠ (1 : Int)) ∧ (e0.Value ≠ GValue.zero)))))] [(1, .pure (GExpr.cs e0))] rfl rfl rfl ?_
       exact RunW_nil rfl
      ·refine r_off rfl rfl rfl rfl (decide_eq_false h6) rfl rfl ?_
       refine r_off rfl rfl rfl rfl (decide_eq_false h6) rfl rfl ?_
       refine r_off rfl rfl rfl rfl (decide_eq_false h6) rfl rfl ?_
       refine r_off rfl rfl rfl rfl (decide_eq_false h6) rfl rfl ?_
       refine r_on rfl rfl rfl rfl (decide_eq_false h5) rfl (PureD.opD (p_pkf rfl rfl (decide_eq_false h6) (tb (decide_eq_false (p := (e0.Op ≠ (1 : Int)) ∧ (e0.Value ≠ GValue.zero)) (fun x => h6 x.1)).symm))) ?_
       refine rp rfl rfl (p_pkf rfl rfl (decide_eq_false h5) (tb ((or_l (p := (decide (e0.Op = (2 : Int))) ≠ (decide (e0.Name ≠ []))) (q := (e0.Op ≠ (1 : Int)) ∧ (e0.Value ≠ GValue.zero)) h5)))) ?_
       refine rs [(1, .q 1 (0)), (35, .b (decide (((decide (e0.Op = (2 : Int))) ≠ (decide (e0.Name ≠ []))) ∨ ((e0.Op ≠ (1 : Int)) ∧ (e0.Value ≠ GValue.zero)))))] [(1, .pure (GExpr.cs e0))] rfl rfl rfl ?_
       exact RunW_nil rfl
    ·refine AW2_if (p := ((decide (e0.Op = (2 : Int))) ≠ (decide (e0.Name ≠ []))) ∨ ((e0.Op ≠ (1 : Int)) ∧ (e0.Value ≠ GValue.zero))) rfl (fun h7 => ?_) (fun h7 => ?_)
     ·replace H := ite_then h7 H
      refine sg [0] rfl ?_
      refine rp rfl rfl (p_asg rfl rfl) ?_
      refine rz [(2, .i (3 : Int))] [] rfl rfl rfl ?_
      refine AW2_ret ?_
      have hz := some_elim H
      subst hz
      exact ⟨⟨res_tmp (.same _), trivial⟩, trivial⟩
     ·replace H := ite_else h7 H
      refine as2 [(1, .q 1 (0))] [(1, .pure (GExpr.cs e0))] rfl rfl rfl ?_
      refine AW2_skip ?_
      refine AW2_seq ?_
      refine AW2_seq ?_
      refine bindK H fun g'4 h11 H => ?_
      refine AW2_mid (⟨[(1, .q 1 (0)), (45, .b g'4)], [(1, .pure (GExpr.cs e0))], 61⟩ : TS) ?_ ?_
      ·clear H
       have H := h11
       clear h11
       refine AW2_reg [0, 1, 2, 3, 4, 5, 6, 7, 8, 9] rfl ?_
       refine rp rfl rfl (u_fa rfl rfl Tryd.underlying27 rfl in_3 (Nat.succ_ne_zero _) rfl rfl (ne_of_lt (n := 0) (Nat.lt_of_lt_of_eq (by decide) (Eq.symm (GExpr.len e0))))) ?_
       refine rp rfl rfl (u_ld rfl rfl Tryd.underlying3 rfl rfl ((Sub.refl _).trans (GExpr.sub0 e0))) ?_
       refine rp rfl rfl (p_ieq rfl rfl rfl) ?_
       refine rp rfl rfl (p_move rfl rfl) ?_
       refine (Classical.em (e0.Op = (2 : Int))).elim (fun h9 => ?_) (fun h9 => ?_)
       ·replace H := ite_then h9 H
        refine r_on rfl rfl rfl rfl (decide_eq_true h9) rfl (PureD.opD (u_fa rfl rfl Tryd.underlying27 rfl in_9 (Nat.succ_ne_zero _) rfl rfl (ne_of_lt (n := 0) (Nat.lt_of_lt_of_eq (by decide) (Eq.symm (GExpr.len e0)))))) ?_
        refine r_on rfl rfl rfl rfl (decide_eq_true h9) rfl (PureD.opD (u_ld rfl rfl Tryd.underlying9 rfl rfl ((Sub.refl _).trans (GExpr.sub2 e0)))) ?_
        refine r_on rfl rfl rfl rfl (decide_eq_true h9) rfl (PureD.opD (u_bld rfl in_82 one_82 zc_82 pl_82 rfl (af_cons rfl rfl (GToken.upd0 GToken.zero (1 : Int)) (af_cons rfl rfl (GToken.upd1 ((GToken.w0 GToken.zero (1 : Int))) e0.Name) rfl)))) ?_
        refine bindK H fun r'3 h10 H => ?_
        refine r_on rfl rfl rfl rfl (decide_eq_true h9) rfl (PureD.opD (p_callp rfl rfl rfl Tryd.func45 rfl rfl (g_lex_Check_ac h10) ⟨rfl, trivial⟩)) ?_
        refine r_on rfl rfl rfl rfl (decide_eq_true h9) rfl (PureD.opD (p_ine rfl rfl rfl)) ?_
        refine rp rfl rfl (p_pkt rfl rfl (decide_eq_true h9) (.same _)) ?_
        refine rs [(1, .q 1 (0)), (45, .b (decide (r'3 ≠ (0 : Int))))] [(1, .pure (GExpr.cs e0))] rfl rfl rfl ?_
        have hz := some_elim H
        subst hz
        exact RunW_nil rfl
       ·replace H := ite_else h9 H
        refine r_off rfl rfl rfl rfl (decide_eq_false h9) rfl rfl ?_
        refine r_off rfl rfl rfl rfl (decide_eq_false h9) rfl rfl ?_
        refine r_off rfl rfl rfl rfl (decide_eq_false h9) rfl rfl ?_
        refine r_off rfl rfl rfl rfl (decide_eq_false h9) rfl rfl ?_
        refine r_off rfl rfl rfl rfl (decide_eq_false h9) rfl rfl ?_
        refine rp rfl rfl (p_pkf rfl rfl (decide_eq_false h9) (.same _)) ?_
        refine rs [(1, .q 1 (0)), (45, .b false)] [(1, .pure (GExpr.cs e0))] rfl rfl rfl ?_
        have hz := some_elim H
        subst hz
        exact RunW_nil rfl
      ·refine AW2_cond rfl (fun h12 => ?_) (fun h12 => ?_)
       ·replace H := ite_then h12 H
        refine sg [0] rfl ?_
        refine rp rfl rfl (p_asg rfl rfl) ?_
        refine rz [(2, .i (3 : Int))] [] rfl rfl rfl ?_
        refine AW2_ret ?_
        have hz := some_elim H
        subst hz
        exact ⟨⟨res_tmp (.same _), trivial⟩, trivial⟩
       ·replace H := ite_else (ne_true h12) H
        refine as2 [(1, .q 1 (0))] [(1, .pure (GExpr.cs e0))] rfl rfl rfl ?_
        refine AW2_skip ?_
        refine AW2_seq ?_
        refine AW2_seq ?_
        refine bindK H fun g'7 h17 H => ?_
        refine AW2_mid (⟨[(60, .b g'7)], [], 61⟩ : TS) ?_ ?_
        ·clear H
         have H := h17
         clear h17
         refine AW2_reg [0, 1, 2, 3, 4, 5, 6, 7, 8, 9, 10, 11, 12, 13, 14] rfl ?_
         refine rp rfl rfl (u_fa rfl rfl Tryd.underlying27 rfl in_3 (Nat.succ_ne_zero _) rfl rfl (ne_of_lt (n := 0) (Nat.lt_of_lt_of_eq (by decide) (Eq.symm (GExpr.len e0))))) ?_
         refine rp rfl rfl (u_ld rfl rfl Tryd.underlying3 rfl rfl ((Sub.refl _).trans (GExpr.sub0 e0))) ?_
         refine rp rfl rfl (p_ieq rfl rfl rfl) ?_
         refine rp rfl rfl (p_move rfl rfl) ?_
         refine (Classical.em (e0.Op = (1 : Int))).elim (fun h14 => ?_) (fun h14 => ?_)
         ·replace H := ite_then h14 H
          refine r_on rfl rfl rfl rfl (decide_eq_true h14) rfl (PureD.opD (u_fa rfl rfl Tryd.underlying27 rfl in_24 (Nat.succ_ne_zero _) rfl rfl (ne_of_lt (n := 0) (Nat.lt_of_lt_of_eq (by decide) (Eq.symm (GExpr.len e0)))))) ?_
          refine r_on rfl rfl rfl rfl (decide_eq_true h14) rfl (PureD.opD (u_lda rfl rfl Tryd.underlying24 rfl in_24 rfl (Nat.succ_pos _) ((Sub.refl _).trans (GExpr.sub1 e0)) (GValue.len e0.Value))) ?_
          refine bindK H fun r'6 h15 H => ?_
          refine r_on rfl rfl rfl rfl (decide_eq_true h14) rfl (PureD.opD (p_callp rfl rfl rfl Tryd.func55 rfl rfl (g_value_Check_ac h15) ⟨rfl, trivial⟩)) ?_
          refine r_on rfl rfl rfl rfl (decide_eq_true h14) rfl (PureD.opD (p_ine rfl rfl rfl)) ?_
          refine r_on rfl rfl rfl rfl (decide_eq_true h14) rfl (PureD.opD (p_move rfl rfl)) ?_
          refine (Classical.em (r'6 ≠ (0 : Int))).elim (fun h16 => ?_) (fun h16 => ?_)
          ·replace H := ite_then h16 H
           refine r_off rfl rfl rfl rfl (decide_eq_true h16) rfl rfl ?_
           refine r_off rfl rfl rfl rfl (decide_eq_true h16) rfl rfl ?_
           refine r_off rfl rfl rfl rfl (decide_eq_true h16) rfl rfl ?_
           refine r_off rfl rfl rfl rfl (decide_eq_true h16) rfl rfl ?_
           refine r_on rfl rfl rfl rfl (decide_eq_true h14) rfl (PureD.opD (p_pkt rfl rfl (decide_eq_true h16) (.same _))) ?_
           refine rp rfl rfl (p_pkt rfl rfl (decide_eq_true h14) (.same _)) ?_
           refine rs [(60, .b true)] [] rfl rfl rfl ?_
           have hz := some_elim H
           subst hz
           exact RunW_nil rfl
          ·replace H := ite_else h16 H
           refine r_on rfl rfl rfl rfl (decide_eq_false h16) rfl (PureD.opD (u_fa rfl rfl Tryd.underlying27 rfl in_24 (Nat.succ_ne_zero _) rfl rfl (ne_of_lt (n := 0) (Nat.lt_of_lt_of_eq (by decide) (Eq.symm (GExpr.len e0)))))) ?_
           refine r_on rfl rfl rfl rfl (decide_eq_false h16) rfl (PureD.opD (u_fa rfl rfl Tryd.underlying24 rfl in_3 (Nat.succ_ne_zero _) rfl rfl (ne_of_lt (n := 0) (Nat.lt_of_lt_of_eq (by decide) (Eq.symm (GExpr.len e0)))))) ?_
           refine r_on rfl rfl rfl rfl (decide_eq_false h16) rfl (PureD.opD (u_ld rfl rfl Tryd.underlying3 rfl rfl (((Sub.refl _).trans (GExpr.sub1 e0)).trans (GValue.sub1 e0.Value)))) ?_
           refine r_on rfl rfl rfl rfl (decide_eq_false h16) rfl (PureD.opD (p_bin rfl rfl rfl rfl)) ?_
           refine r_on rfl rfl rfl rfl (decide_eq_true h14) rfl (PureD.opD (p_pkf rfl rfl (decide_eq_false h16) (.same _))) ?_
           refine rp rfl rfl (p_pkt rfl rfl (decide_eq_true h14) (.same _)) ?_
           refine rs [(60, .b (decide (e0.Value.Int_ < (0 : Int))))] [] rfl rfl rfl ?_
           have hz := some_elim H
           subst hz
           exact RunW_nil rfl
         ·replace H := ite_else h14 H
          refine r_off rfl rfl rfl rfl (decide_eq_false h14) rfl rfl ?_
          refine r_off rfl rfl rfl rfl (decide_eq_false h14) rfl rfl ?_
          refine r_off rfl rfl rfl rfl (decide_eq_false h14) rfl rfl ?_
          refine r_off rfl rfl rfl rfl (decide_eq_false h14) rfl rfl ?_
          refine r_off rfl rfl rfl rfl (decide_eq_false h14) rfl rfl ?_
          refine r_off2 rfl rfl rfl rfl rfl rfl ?_
          refine r_off2 rfl rfl rfl rfl rfl rfl ?_
          refine r_off2 rfl rfl rfl rfl rfl rfl ?_
          refine r_off2 rfl rfl rfl rfl rfl rfl ?_
          refine r_off rfl rfl rfl rfl (decide_eq_false h14) rfl rfl ?_
          refine rp rfl rfl (p_pkf rfl rfl (decide_eq_false h14) (.same _)) ?_
          refine rs [(60, .b false)] [] rfl rfl rfl ?_
          have hz := some_elim H
          subst hz
          exact RunW_nil rfl
        ·refine AW2_cond rfl (fun h18 => ?_) (fun h18 => ?_)
         ·replace H := ite_then h18 H
          refine sg [0] rfl ?_
          refine rp rfl rfl (p_asg rfl rfl) ?_
          refine rz [(2, .i (3 : Int))] [] rfl rfl rfl ?_
          refine AW2_ret ?_
          have hz := some_elim H
          subst hz
          exact ⟨⟨res_tmp (.same _), trivial⟩, trivial⟩
         ·replace H := ite_else (ne_true h18) H
          refine as2 [] [] rfl rfl rfl ?_
          refine AW2_skip ?_
          refine sg [0] rfl ?_
          refine rp rfl rfl (p_asg rfl rfl) ?_
          refine rz [(2, .i (0 : Int))] [] rfl rfl rfl ?_
          refine AW2_ret ?_
          have hz := some_elim H
          subst hz
          exact ⟨⟨res_tmp (.same _), trivial⟩, trivial⟩
end Go.Proofs.YtcahembojhmpbaaDoor.VM
