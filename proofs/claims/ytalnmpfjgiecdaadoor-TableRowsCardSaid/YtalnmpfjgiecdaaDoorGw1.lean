/- Functions of the program, as they answer, and that their code comes to these answers. -/
import Derived.Test.YtalnmpfjgiecdaaDoorGw0
namespace Go.Proofs.YtalnmpfjgiecdaaDoor.VM
open Go Go.RowKit

structure GToken where
  Kind : Int
  Text : List UInt8
  Int_ : Int
  Bits : UInt64
deriving DecidableEq, Inhabited
def GToken.zero : GToken := ⟨(0 : Int), [], (0 : Int), (0 : UInt64)⟩
def GToken.cs (x : GToken) : List AV := ([(AV.int x.Kind)]) ++ (([(AV.txt x.Text)]) ++ (([(AV.int x.Int_)]) ++ ([(AV.u64 x.Bits)])))
theorem GToken.len (x : GToken) : (GToken.cs x).length = 4 := by
  simp only [GToken.cs, List.length_append]
  rw [show ([(AV.int x.Kind)]).length = 1 from (show ([(AV.int x.Kind)]).length = 1 from rfl), show ([(AV.txt x.Text)]).length = 1 from (show ([(AV.txt x.Text)]).length = 1 from rfl), show ([(AV.int x.Int_)]).length = 1 from (show ([(AV.int x.Int_)]).length = 1 from rfl), show ([(AV.u64 x.Bits)]).length = 1 from (show ([(AV.u64 x.Bits)]).length = 1 from rfl)]
theorem GToken.sub0 (x : GToken) : Sub (GToken.cs x) 0 ([(AV.int x.Kind)]) := Sub.head _ _
abbrev GToken.w0 (x : GToken) (y : Int) : GToken := { x with Kind := y }
theorem GToken.upd0 (x : GToken) (y : Int) : Upd (GToken.cs x) 0 ([(AV.int y)]) (GToken.cs { x with Kind := y }) := Upd.head (show ([(AV.int y)]).length = ([(AV.int x.Kind)]).length from rfl)
theorem GToken.sub1 (x : GToken) : Sub (GToken.cs x) 1 ([(AV.txt x.Text)]) := Sub.skip (k := 1) (show ([(AV.int x.Kind)]).length = 1 from rfl) (Sub.head _ _)
abbrev GToken.w1 (x : GToken) (y : List UInt8) : GToken := { x with Text := y }
theorem GToken.upd1 (x : GToken) (y : List UInt8) : Upd (GToken.cs x) 1 ([(AV.txt y)]) (GToken.cs { x with Text := y }) := Upd.skip (k := 1) (show ([(AV.int x.Kind)]).length = 1 from rfl) (Upd.head (show ([(AV.txt y)]).length = ([(AV.txt x.Text)]).length from rfl))
theorem GToken.sub2 (x : GToken) : Sub (GToken.cs x) 2 ([(AV.int x.Int_)]) := Sub.skip (k := 1) (show ([(AV.int x.Kind)]).length = 1 from rfl) (Sub.skip (k := 1) (show ([(AV.txt x.Text)]).length = 1 from rfl) (Sub.head _ _))
abbrev GToken.w2 (x : GToken) (y : Int) : GToken := { x with Int_ := y }
theorem GToken.upd2 (x : GToken) (y : Int) : Upd (GToken.cs x) 2 ([(AV.int y)]) (GToken.cs { x with Int_ := y }) := Upd.skip (k := 1) (show ([(AV.int x.Kind)]).length = 1 from rfl) (Upd.skip (k := 1) (show ([(AV.txt x.Text)]).length = 1 from rfl) (Upd.head (show ([(AV.int y)]).length = ([(AV.int x.Int_)]).length from rfl)))
theorem GToken.sub3 (x : GToken) : Sub (GToken.cs x) 3 ([(AV.u64 x.Bits)]) := Sub.skip (k := 1) (show ([(AV.int x.Kind)]).length = 1 from rfl) (Sub.skip (k := 1) (show ([(AV.txt x.Text)]).length = 1 from rfl) (Sub.skip (k := 1) (show ([(AV.int x.Int_)]).length = 1 from rfl) (Sub.refl _)))
abbrev GToken.w3 (x : GToken) (y : UInt64) : GToken := { x with Bits := y }
theorem GToken.upd3 (x : GToken) (y : UInt64) : Upd (GToken.cs x) 3 ([(AV.u64 y)]) (GToken.cs { x with Bits := y }) := Upd.skip (k := 1) (show ([(AV.int x.Kind)]).length = 1 from rfl) (Upd.skip (k := 1) (show ([(AV.txt x.Text)]).length = 1 from rfl) (Upd.skip (k := 1) (show ([(AV.int x.Int_)]).length = 1 from rfl) (Upd.refl (show ([(AV.u64 y)]).length = ([(AV.u64 x.Bits)]).length from rfl))))
theorem GToken.nl (x : GToken) : (GToken.cs x).all noLst1 = true := nlA rfl (nlA rfl (nlA rfl (rfl)))
structure GColumn where
  Name : List UInt8
  Kind : Int
  Null : Bool
deriving DecidableEq, Inhabited
def GColumn.zero : GColumn := ⟨[], (0 : Int), false⟩
def GColumn.cs (x : GColumn) : List AV := ([(AV.txt x.Name)]) ++ (([(AV.int x.Kind)]) ++ ([(AV.bool x.Null)]))
theorem GColumn.len (x : GColumn) : (GColumn.cs x).length = 3 := by
  simp only [GColumn.cs, List.length_append]
  rw [show ([(AV.txt x.Name)]).length = 1 from (show ([(AV.txt x.Name)]).length = 1 from rfl), show ([(AV.int x.Kind)]).length = 1 from (show ([(AV.int x.Kind)]).length = 1 from rfl), show ([(AV.bool x.Null)]).length = 1 from (show ([(AV.bool x.Null)]).length = 1 from rfl)]
theorem GColumn.sub0 (x : GColumn) : Sub (GColumn.cs x) 0 ([(AV.txt x.Name)]) := Sub.head _ _
abbrev GColumn.w0 (x : GColumn) (y : List UInt8) : GColumn := { x with Name := y }
theorem GColumn.upd0 (x : GColumn) (y : List UInt8) : Upd (GColumn.cs x) 0 ([(AV.txt y)]) (GColumn.cs { x with Name := y }) := Upd.head (show ([(AV.txt y)]).length = ([(AV.txt x.Name)]).length from rfl)
theorem GColumn.sub1 (x : GColumn) : Sub (GColumn.cs x) 1 ([(AV.int x.Kind)]) := Sub.skip (k := 1) (show ([(AV.txt x.Name)]).length = 1 from rfl) (Sub.head _ _)
abbrev GColumn.w1 (x : GColumn) (y : Int) : GColumn := { x with Kind := y }
theorem GColumn.upd1 (x : GColumn) (y : Int) : Upd (GColumn.cs x) 1 ([(AV.int y)]) (GColumn.cs { x with Kind := y }) := Upd.skip (k := 1) (show ([(AV.txt x.Name)]).length = 1 from rfl) (Upd.head (show ([(AV.int y)]).length = ([(AV.int x.Kind)]).length from rfl))
theorem GColumn.sub2 (x : GColumn) : Sub (GColumn.cs x) 2 ([(AV.bool x.Null)]) := Sub.skip (k := 1) (show ([(AV.txt x.Name)]).length = 1 from rfl) (Sub.skip (k := 1) (show ([(AV.int x.Kind)]).length = 1 from rfl) (Sub.refl _))
abbrev GColumn.w2 (x : GColumn) (y : Bool) : GColumn := { x with Null := y }
theorem GColumn.upd2 (x : GColumn) (y : Bool) : Upd (GColumn.cs x) 2 ([(AV.bool y)]) (GColumn.cs { x with Null := y }) := Upd.skip (k := 1) (show ([(AV.txt x.Name)]).length = 1 from rfl) (Upd.skip (k := 1) (show ([(AV.int x.Kind)]).length = 1 from rfl) (Upd.refl (show ([(AV.bool y)]).length = ([(AV.bool x.Null)]).length from rfl)))
theorem GColumn.nl (x : GColumn) : (GColumn.cs x).all noLst1 = true := nlA rfl (nlA rfl (rfl))
structure GCell where
  Full : Bool
  Row : List GValue
deriving DecidableEq, Inhabited
def GCell.zero : GCell := ⟨false, []⟩
def GCell.cs (x : GCell) : List AV := ([(AV.bool x.Full)]) ++ ([((fun q : List GValue => AV.lst (q.flatMap GValue.cs) q.length) x.Row)])
theorem GCell.len (x : GCell) : (GCell.cs x).length = 2 := by
  simp only [GCell.cs, List.length_append]
  rw [show ([(AV.bool x.Full)]).length = 1 from (show ([(AV.bool x.Full)]).length = 1 from rfl), show ([((fun q : List GValue => AV.lst (q.flatMap GValue.cs) q.length) x.Row)]).length = 1 from (show ([((fun q : List GValue => AV.lst (q.flatMap GValue.cs) q.length) x.Row)]).length = 1 from rfl)]
theorem GCell.sub0 (x : GCell) : Sub (GCell.cs x) 0 ([(AV.bool x.Full)]) := Sub.head _ _
abbrev GCell.w0 (x : GCell) (y : Bool) : GCell := { x with Full := y }
theorem GCell.upd0 (x : GCell) (y : Bool) : Upd (GCell.cs x) 0 ([(AV.bool y)]) (GCell.cs { x with Full := y }) := Upd.head (show ([(AV.bool y)]).length = ([(AV.bool x.Full)]).length from rfl)
theorem GCell.sub1 (x : GCell) : Sub (GCell.cs x) 1 ([((fun q : List GValue => AV.lst (q.flatMap GValue.cs) q.length) x.Row)]) := Sub.skip (k := 1) (show ([(AV.bool x.Full)]).length = 1 from rfl) (Sub.refl _)
abbrev GCell.w1 (x : GCell) (y : List GValue) : GCell := { x with Row := y }
theorem GCell.upd1 (x : GCell) (y : List GValue) : Upd (GCell.cs x) 1 ([((fun q : List GValue => AV.lst (q.flatMap GValue.cs) q.length) y)]) (GCell.cs { x with Row := y }) := Upd.skip (k := 1) (show ([(AV.bool x.Full)]).length = 1 from rfl) (Upd.refl (show ([((fun q : List GValue => AV.lst (q.flatMap GValue.cs) q.length) y)]).length = ([((fun q : List GValue => AV.lst (q.flatMap GValue.cs) q.length) x.Row)]).length from rfl))
theorem in_29 : Info Tryd.prog 29 4 40 (.agg #[.int .i64 0, .int .i64 0, .int .u64 0, .string ⟨#[]⟩]) := by unfold Info; kernel_rfl
theorem one_29 : (.agg #[.int .i64 0, .int .i64 0, .int .u64 0, .string ⟨#[]⟩] : Value).cells.all (·.oneCell') = true := by kernel_rfl
theorem zc_29 : ((.agg #[.int .i64 0, .int .i64 0, .int .u64 0, .string ⟨#[]⟩] : Value).cells.toList.map zcell) = GValue.cs GValue.zero := by rfl
theorem pl_29 : placesOf Tryd.prog 29 = some [(0, 1), (1, 1), (2, 1), (3, 1)] := by kernel_rfl
theorem in_68 : Info Tryd.prog 68 3 32 (.agg #[.string ⟨#[]⟩, .int .i64 0, .bool false]) := by unfold Info; kernel_rfl
theorem one_68 : (.agg #[.string ⟨#[]⟩, .int .i64 0, .bool false] : Value).cells.all (·.oneCell') = true := by kernel_rfl
theorem zc_68 : ((.agg #[.string ⟨#[]⟩, .int .i64 0, .bool false] : Value).cells.toList.map zcell) = GColumn.cs GColumn.zero := by rfl
theorem pl_68 : placesOf Tryd.prog 68 = some [(0, 1), (1, 1), (2, 1)] := by kernel_rfl
theorem in_24 : Info Tryd.prog 24 4 40 (.agg #[.int .i64 0, .string ⟨#[]⟩, .int .i64 0, .int .u64 0]) := by unfold Info; kernel_rfl
theorem one_24 : (.agg #[.int .i64 0, .string ⟨#[]⟩, .int .i64 0, .int .u64 0] : Value).cells.all (·.oneCell') = true := by kernel_rfl
theorem zc_24 : ((.agg #[.int .i64 0, .string ⟨#[]⟩, .int .i64 0, .int .u64 0] : Value).cells.toList.map zcell) = GToken.cs GToken.zero := by rfl
theorem pl_24 : placesOf Tryd.prog 24 = some [(0, 1), (1, 1), (2, 1), (3, 1)] := by kernel_rfl
theorem in_4 : Info Tryd.prog 4 1 1 (.bool false) := by unfold Info; kernel_rfl
theorem one_4 : (.bool false : Value).cells.all (·.oneCell') = true := by kernel_rfl
theorem zc_4 : ((.bool false : Value).cells.toList.map zcell) = [(AV.bool false)] := by rfl
theorem in_43 : Info Tryd.prog 43 8 128 (.agg #[.bool false, .slice none 0 0, .bool false, .slice none 0 0, .bool false, .slice none 0 0, .bool false, .slice none 0 0]) := by unfold Info; kernel_rfl
theorem one_43 : (.agg #[.bool false, .slice none 0 0, .bool false, .slice none 0 0, .bool false, .slice none 0 0, .bool false, .slice none 0 0] : Value).cells.all (·.oneCell') = true := by kernel_rfl
theorem zc_43 : ((.agg #[.bool false, .slice none 0 0, .bool false, .slice none 0 0, .bool false, .slice none 0 0, .bool false, .slice none 0 0] : Value).cells.toList.map zcell) = ((Vector.replicate 4 GCell.zero).toList).flatMap GCell.cs := by rfl
theorem in_42 : Info Tryd.prog 42 2 32 (.agg #[.bool false, .slice none 0 0]) := by unfold Info; kernel_rfl
theorem one_42 : (.agg #[.bool false, .slice none 0 0] : Value).cells.all (·.oneCell') = true := by kernel_rfl
theorem zc_42 : ((.agg #[.bool false, .slice none 0 0] : Value).cells.toList.map zcell) = GCell.cs GCell.zero := by rfl
theorem pl_42 : placesOf Tryd.prog 42 = some [(0, 1), (1, 1)] := by kernel_rfl
theorem in_38 : Info Tryd.prog 38 1 24 (.slice none 0 0) := by unfold Info; kernel_rfl
theorem one_38 : (.slice none 0 0 : Value).cells.all (·.oneCell') = true := by kernel_rfl
theorem zc_38 : ((.slice none 0 0 : Value).cells.toList.map zcell) = [((fun q : List GValue => AV.lst (q.flatMap GValue.cs) q.length) [])] := by rfl
theorem eq_29 : EqT Tryd.prog 29 2 (fun x : GValue => .agg (GValue.cs x)) :=
  eqt_struct [fun a b => a.Kind = b.Kind, fun a b => a.Int_ = b.Int_, fun a b => a.Bits = b.Bits, fun a b => a.Text = b.Text] Tryd.underlying29 (by kernel_rfl) ⟨(FieldEq.more (fe_one (by decide) Tryd.underlying3 rfl (eqt_int Tryd.underlying3) (fun a => GValue.sub0 a)) (by decide : 1 ≤ 1)), (FieldEq.more (fe_one (by decide) Tryd.underlying3 rfl (eqt_int Tryd.underlying3) (fun a => GValue.sub1 a)) (by decide : 1 ≤ 1)), (FieldEq.more (fe_one (by decide) Tryd.underlying22 rfl (eqt_u64 Tryd.underlying22) (fun a => GValue.sub2 a)) (by decide : 1 ≤ 1)), (FieldEq.more (fe_one (by decide) Tryd.underlying9 rfl (eqt_txt Tryd.underlying9) (fun a => GValue.sub3 a)) (by decide : 1 ≤ 1)), trivial⟩ (fun a b => by
    cases a; cases b
    simp)

/-! lex.sign -/
noncomputable def g_lex_sign (t0 : List UInt8) : Option (Bool) :=
  ((if t0 = [40] then some (decide (t0 = [40])) else (if t0 = [41] then some (decide (t0 = [41])) else (if t0 = [44] then some (decide (t0 = [44])) else (if t0 = [46] then some (decide (t0 = [46])) else (if t0 = [61] then some (decide (t0 = [61])) else (if t0 = [60] then some (decide (t0 = [60])) else (if t0 = [62] then some (decide (t0 = [62])) else (if t0 = [60, 61] then some (decide (t0 = [60, 61])) else (if t0 = [62, 61] then some (decide (t0 = [62, 61])) else (if t0 = [60, 62] then some (decide (t0 = [60, 62])) else (if t0 = [43] then some (decide (t0 = [43])) else (if t0 = [45] then some (decide (t0 = [45])) else (if t0 = [42] then some (decide (t0 = [42])) else (if t0 = [47] then some (decide (t0 = [47])) else (if t0 = [124, 124] then some (decide (t0 = [124, 124])) else some (decide (t0 = [59])))))))))))))))))).bind fun j'1 => (if j'1 = true then some true else some false)
set_option maxHeartbeats 4000000 in
set_option maxRecDepth 100000 in
theorem g_lex_sign_ac {t0 : List UInt8} {r : Bool} (H : g_lex_sign t0 = some r) : ACp Tryd.prog 32 [(AV.txt t0)] (AV.bool r) := by
 refine ACp_of (AC2_of_body (vs := [.b r]) Tryd.func32 rfl rfl (Nat.le_of_ble_eq_true rfl) rfl ?_) (fun _ => .same _)
 unfold g_lex_sign at H
 refine as2 [(0, .t t0)] [] rfl rfl rfl ?_
 refine sg [0] rfl ?_
 refine rp rfl rfl (p_asg rfl rfl) ?_
 refine rz [(0, .t t0)] [] rfl rfl rfl ?_
 refine AW2_seq ?_
 refine sg [0] rfl ?_
 refine rp rfl rfl (p_move rfl rfl) ?_
 refine rz [(3, .t t0)] [] rfl rfl rfl ?_
 refine AW2_block ?_
 refine AW2_seq ?_
 refine bindK H fun j'1 h1 H => ?_
 refine AW2_mid (⟨[(4, .b j'1)], [], 21⟩ : TS) ?_ ?_
 ·clear H
  have H := h1
  clear h1
  refine sg [0, 1] rfl ?_
  refine rp rfl rfl (p_seq rfl rfl rfl) ?_
  refine rp rfl rfl (p_asg rfl rfl) ?_
  refine rz [(3, .t t0), (4, .b (decide (t0 = [40])))] [] rfl rfl rfl ?_
  refine AW2_if (p := t0 = [40]) rfl (fun h2 => ?_) (fun h2 => ?_)
  ·replace H := ite_then h2 H
   refine as2 [(4, .b (decide (t0 = [40])))] [] rfl rfl rfl ?_
   refine AW2_skip ?_
   have hz := some_elim H
   subst hz
   exact rfl
  ·replace H := ite_else h2 H
   refine sg [0, 1] rfl ?_
   refine rp rfl rfl (p_seq rfl rfl rfl) ?_
   refine rp rfl rfl (p_asg rfl rfl) ?_
   refine rz [(3, .t t0), (4, .b (decide (t0 = [41])))] [] rfl rfl rfl ?_
   refine AW2_if (p := t0 = [41]) rfl (fun h3 => ?_) (fun h3 => ?_)
   ·replace H := ite_then h3 H
    refine as2 [(4, .b (decide (t0 = [41])))] [] rfl rfl rfl ?_
    refine AW2_skip ?_
    have hz := some_elim H
    subst hz
    exact rfl
   ·replace H := ite_else h3 H
    refine sg [0, 1] rfl ?_
    refine rp rfl rfl (p_seq rfl rfl rfl) ?_
    refine rp rfl rfl (p_asg rfl rfl) ?_
    refine rz [(3, .t t0), (4, .b (decide (t0 = [44])))] [] rfl rfl rfl ?_
    refine AW2_if (p := t0 = [44]) rfl (fun h4 => ?_) (fun h4 => ?_)
    ·replace H := ite_then h4 H
     refine as2 [(4, .b (decide (t0 = [44])))] [] rfl rfl rfl ?_
     refine AW2_skip ?_
     have hz := some_elim H
     subst hz
     exact rfl
    ·replace H := ite_else h4 H
     refine sg [0, 1] rfl ?_
     refine rp rfl rfl (p_seq rfl rfl rfl) ?_
     refine rp rfl rfl (p_asg rfl rfl) ?_
     refine rz [(3, .t t0), (4, .b (decide (t0 = [46])))] [] rfl rfl rfl ?_
     refine AW2_if (p := t0 = [46]) rfl (fun h5 => ?_) (fun h5 => ?_)
     ·replace H := ite_then h5 H
      refine as2 [(4, .b (decide (t0 = [46])))] [] rfl rfl rfl ?_
      refine AW2_skip ?_
      have hz := some_elim H
      subst hz
      exact rfl
     ·replace H := ite_else h5 H
      refine sg [0, 1] rfl ?_
      refine rp rfl rfl (p_seq rfl rfl rfl) ?_
      refine rp rfl rfl (p_asg rfl rfl) ?_
      refine rz [(3, .t t0), (4, .b (decide (t0 = [61])))] [] rfl rfl rfl ?_
      refine AW2_if (p := t0 = [61]) rfl (fun h6 => ?_) (fun h6 => ?_)
      ·replace H := ite_then h6 H
       refine as2 [(4, .b (decide (t0 = [61])))] [] rfl rfl rfl ?_
       refine AW2_skip ?_
       have hz := some_elim H
       subst hz
       exact rfl
      ·replace H := ite_else h6 H
       refine sg [0, 1] rfl ?_
       refine rp rfl rfl (p_seq rfl rfl rfl) ?_
       refine rp rfl rfl (p_asg rfl rfl) ?_
       refine rz [(3, .t t0), (4, .b (decide (t0 = [60])))] [] rfl rfl rfl ?_
       refine AW2_if (p := t0 = [60]) rfl (fun h7 => ?_) (fun h7 => ?_)
       ·replace H := ite_then h7 H
        refine as2 [(4, .b (decide (t0 = [60])))] [] rfl rfl rfl ?_
        refine AW2_skip ?_
        have hz := some_elim H
        subst hz
        exact rfl
       ·replace H := ite_else h7 H
        refine sg [0, 1] rfl ?_
        refine rp rfl rfl (p_seq rfl rfl rfl) ?_
        refine rp rfl rfl (p_asg rfl rfl) ?_
        refine rz [(3, .t t0), (4, .b (decide (t0 = [62])))] [] rfl rfl rfl ?_
        refine AW2_if (p := t0 = [62]) rfl (fun h8 => ?_) (fun h8 => ?_)
        ·replace H := ite_then h8 H
         refine as2 [(4, .b (decide (t0 = [62])))] [] rfl rfl rfl ?_
         refine AW2_skip ?_
         have hz := some_elim H
         subst hz
         exact rfl
        ·replace H := ite_else h8 H
         refine sg [0, 1] rfl ?_
         refine rp rfl rfl (p_seq rfl rfl rfl) ?_
         refine rp rfl rfl (p_asg rfl rfl) ?_
         refine rz [(3, .t t0), (4, .b (decide (t0 = [60, 61])))] [] rfl rfl rfl ?_
         refine AW2_if (p := t0 = [60, 61]) rfl (fun h9 => ?_) (fun h9 => ?_)
         ·replace H := ite_then h9 H
          refine as2 [(4, .b (decide (t0 = [60, 61])))] [] rfl rfl rfl ?_
          refine AW2_skip ?_
          have hz := some_elim H
          subst hz
          exact rfl
         ·replace H := ite_else h9 H
          refine sg [0, 1] rfl ?_
          refine rp rfl rfl (p_seq rfl rfl rfl) ?_
          refine rp rfl rfl (p_asg rfl rfl) ?_
          refine rz [(3, .t t0), (4, .b (decide (t0 = [62, 61])))] [] rfl rfl rfl ?_
          refine AW2_if (p := t0 = [62, 61]) rfl (fun h10 => ?_) (fun h10 => ?_)
          ·replace H := ite_then h10 H
           refine as2 [(4, .b (decide (t0 = [62, 61])))] [] rfl rfl rfl ?_
           refine AW2_skip ?_
           have hz := some_elim H
           subst hz
           exact rfl
          ·replace H := ite_else h10 H
           refine sg [0, 1] rfl ?_
           refine rp rfl rfl (p_seq rfl rfl rfl) ?_
           refine rp rfl rfl (p_asg rfl rfl) ?_
           refine rz [(3, .t t0), (4, .b (decide (t0 = [60, 62])))] [] rfl rfl rfl ?_
           refine AW2_if (p := t0 = [60, 62]) rfl (fun h11 => ?_) (fun h11 => ?_)
           ·replace H := ite_then h11 H
            refine as2 [(4, .b (decide (t0 = [60, 62])))] [] rfl rfl rfl ?_
            refine AW2_skip ?_
            have hz := some_elim H
            subst hz
            exact rfl
           ·replace H := ite_else h11 H
            refine sg [0, 1] rfl ?_
            refine rp rfl rfl (p_seq rfl rfl rfl) ?_
            refine rp rfl rfl (p_asg rfl rfl) ?_
            refine rz [(3, .t t0), (4, .b (decide (t0 = [43])))] [] rfl rfl rfl ?_
            refine AW2_if (p := t0 = [43]) rfl (fun h12 => ?_) (fun h12 => ?_)
            ·replace H := ite_then h12 H
             refine as2 [(4, .b (decide (t0 = [43])))] [] rfl rfl rfl ?_
             refine AW2_skip ?_
             have hz := some_elim H
             subst hz
             exact rfl
            ·replace H := ite_else h12 H
             refine sg [0, 1] rfl ?_
             refine rp rfl rfl (p_seq rfl rfl rfl) ?_
             refine rp rfl rfl (p_asg rfl rfl) ?_
             refine rz [(3, .t t0), (4, .b (decide (t0 = [45])))] [] rfl rfl rfl ?_
             refine AW2_if (p := t0 = [45]) rfl (fun h13 => ?_) (fun h13 => ?_)
             ·replace H := ite_then h13 H
              refine as2 [(4, .b (decide (t0 = [45])))] [] rfl rfl rfl ?_
              refine AW2_skip ?_
              have hz := some_elim H
              subst hz
              exact rfl
             ·replace H := ite_else h13 H
              refine sg [0, 1] rfl ?_
              refine rp rfl rfl (p_seq rfl rfl rfl) ?_
              refine rp rfl rfl (p_asg rfl rfl) ?_
              refine rz [(3, .t t0), (4, .b (decide (t0 = [42])))] [] rfl rfl rfl ?_
              refine AW2_if (p := t0 = [42]) rfl (fun h14 => ?_) (fun h14 => ?_)
              ·replace H := ite_then h14 H
               refine as2 [(4, .b (decide (t0 = [42])))] [] rfl rfl rfl ?_
               refine AW2_skip ?_
               have hz := some_elim H
               subst hz
               exact rfl
              ·replace H := ite_else h14 H
               refine sg [0, 1] rfl ?_
               refine rp rfl rfl (p_seq rfl rfl rfl) ?_
               refine rp rfl rfl (p_asg rfl rfl) ?_
               refine rz [(3, .t t0), (4, .b (decide (t0 = [47])))] [] rfl rfl rfl ?_
               refine AW2_if (p := t0 = [47]) rfl (fun h15 => ?_) (fun h15 => ?_)
               ·replace H := ite_then h15 H
                refine as2 [(4, .b (decide (t0 = [47])))] [] rfl rfl rfl ?_
                refine AW2_skip ?_
                have hz := some_elim H
                subst hz
                exact rfl
               ·replace H := ite_else h15 H
                refine sg [0, 1] rfl ?_
                refine rp rfl rfl (p_seq rfl rfl rfl) ?_
                refine rp rfl rfl (p_asg rfl rfl) ?_
                refine rz [(3, .t t0), (4, .b (decide (t0 = [124, 124])))] [] rfl rfl rfl ?_
                refine AW2_if (p := t0 = [124, 124]) rfl (fun h16 => ?_) (fun h16 => ?_)
                ·replace H := ite_then h16 H
                 refine as2 [(4, .b (decide (t0 = [124, 124])))] [] rfl rfl rfl ?_
                 refine AW2_skip ?_
                 have hz := some_elim H
                 subst hz
                 exact rfl
                ·replace H := ite_else h16 H
                 refine AW2_reg [0, 1] rfl ?_
                 refine rp rfl rfl (p_seq rfl rfl rfl) ?_
                 refine rp rfl rfl (p_asg rfl rfl) ?_
                 refine rz [(4, .b (decide (t0 = [59])))] [] rfl rfl rfl ?_
                 have hz := some_elim H
                 subst hz
                 exact rfl
 ·refine AW2_cond rfl (fun h17 => ?_) (fun h17 => ?_)
  ·replace H := ite_then h17 H
   refine sg [0] rfl ?_
   refine rp rfl rfl (p_asg rfl rfl) ?_
   refine rz [(2, .b true)] [] rfl rfl rfl ?_
   refine AW2_ret ?_
   have hz := some_elim H
   subst hz
   exact ⟨⟨res_tmp (.same _), trivial⟩, trivial⟩
  ·replace H := ite_else (ne_true h17) H
   refine as2 [] [] rfl rfl rfl ?_
   refine AW2_skip ?_
   refine sg [0] rfl ?_
   refine rp rfl rfl (p_asg rfl rfl) ?_
   refine rz [(2, .b false)] [] rfl rfl rfl ?_
   refine AW2_ret ?_
   have hz := some_elim H
   subst hz
   exact ⟨⟨res_tmp (.same _), trivial⟩, trivial⟩

/-! lex.all -/
noncomputable def g_lex_all_i0_l0 (s0 : List UInt8) : Int → Option (Int ⊕ (Bool ⊕ Unit))
  | t8_0 => (if t8_0 < (s0.length : Int) then if 0 ≤ t8_0 ∧ t8_0 < (s0.length : Int) then (g_lex_inName (lrd s0 t8_0.toNat)).bind fun r'1 => (if (!r'1) = true then some (.inr (.inl false)) else some (.inl (w64 (t8_0 + (1 : Int))))) else none else some (.inr (.inr ())))
noncomputable def g_lex_all_i0 (s0 : List UInt8) : Option (Bool) :=
  (loopO (g_lex_all_i0_l0 s0) (0 : Int)).bind fun o'5 => match o'5 with | .inl y'6 => some y'6 | .inr (y'7) => some (decide (s0 ≠ []))
set_option maxHeartbeats 4000000 in
set_option maxRecDepth 100000 in
theorem g_lex_all_i0_ac {s0 : List UInt8} {r : Bool} (H : g_lex_all_i0 s0 = some r) : ACp Tryd.prog 26 [(AV.txt s0), .clo 27 []] (AV.bool r) := by
 refine ACp_of (AC2_of_body (vs := [.b r]) Tryd.func26 rfl rfl (Nat.le_of_ble_eq_true rfl) rfl ?_) (fun _ => .same _)
 unfold g_lex_all_i0 at H
 refine AW2_st [(0, .t s0), (1, .clo 27 [])] [] rfl ⟨TLes.same _, (fun _ => .same _), trivial⟩ trivial ?_
 refine sg [0] rfl ?_
 refine rp rfl rfl (p_asg rfl rfl) ?_
 refine RunW_st [(0, .t s0), (1, .clo 27 [])] [] rfl ⟨TLes.same _, (fun _ => .same _), trivial⟩ trivial ?_
 refine RunW_nil ?_
 refine AW2_seq ?_
 refine sg [0, 1, 2] rfl ?_
 refine rp rfl rfl (p_move rfl rfl) ?_
 refine rp rfl rfl (p_lent rfl Tryd.underlying9 rfl) ?_
 refine rp rfl rfl (p_move rfl rfl) ?_
 refine RunW_st [(0, .t s0), (1, .clo 27 []), (7, .i (s0.length : Int)), (8, .i (0 : Int))] [] rfl ⟨TLes.same _, (fun _ => .same _), TLes.same _, TLes.same _, trivial⟩ trivial ?_
 refine RunW_nil ?_
 refine AW2_block ?_
 refine AW2_st [(0, .t s0), (1, .clo 27 []), (7, .i (s0.length : Int)), (8, .i (0 : Int))] [] rfl ⟨TLes.same _, (fun _ => .same _), TLes.same _, TLes.same _, trivial⟩ trivial ?_
 refine bindK H fun o'5 h5 H => ?_
 refine AW2_loopO (fun a'2 : Int => (⟨[(0, .t s0), (1, .clo 27 []), (7, .i (s0.length : Int)), (8, .i a'2)], [], 20⟩ : TS)) (fun (o : Bool ⊕ Unit) e s' => match o with | .inl y'3 => e = Go.Exit.ret ∧ ResAll Tryd.prog s' [ResultVar.tmp 4] [.b y'3] ∧ HFits s' [] | .inr (y'4) => e = Go.Exit.exit 0 ∧ s' = (⟨[(0, .t s0)], [], 20⟩ : TS)) h5 rfl (fun t8_0 x hx => ?_) (fun e s' hs => ?_)
 ·clear H
  have H := hx
  clear hx
  unfold g_lex_all_i0_l0 at H
  refine sg [0] rfl ?_
  refine rp rfl rfl (p_bin rfl rfl rfl rfl) ?_
  refine RunW_st [(0, .t s0), (1, .clo 27 []), (7, .i (s0.length : Int)), (8, .i t8_0), (9, .b (decide (t8_0 < (s0.length : Int))))] [] rfl ⟨TLes.same _, (fun _ => .same _), TLes.same _, TLes.same _, TLes.same _, trivial⟩ trivial ?_
  refine RunW_nil ?_
  refine AW2_seq ?_
  refine AW2_if (p := t8_0 < (s0.length : Int)) rfl (fun h1 => ?_) (fun h1 => ?_)
  ·replace H := ite_then h1 H
   refine AW2_st [(0, .t s0), (1, .clo 27 []), (7, .i (s0.length : Int)), (8, .i t8_0)] [] rfl ⟨TLes.same _, (fun _ => .same _), TLes.same _, TLes.same _, trivial⟩ trivial ?_
   refine AW2_skip ?_
   refine AW2_seq ?_
   refine AW2_block ?_
   refine sg [0, 1] rfl ?_
   refine rp rfl rfl (p_move rfl rfl) ?_
   refine rp rfl rfl (p_asg rfl rfl) ?_
   refine RunW_st [(0, .t s0), (1, .clo 27 []), (5, .i t8_0), (7, .i (s0.length : Int)), (8, .i t8_0)] [] rfl ⟨TLes.same _, (fun _ => .same _), TLes.same _, TLes.same _, TLes.same _, trivial⟩ trivial ?_
   refine RunW_nil ?_
   refine sg [0, 1, 2, 3, 4, 5] rfl ?_
   refine rp rfl rfl (p_move rfl rfl) ?_
   refine rp rfl rfl (p_move rfl rfl) ?_
   refine rp rfl rfl (p_move rfl rfl) ?_
   refine chkK H fun h2 H => ?_
   refine rp rfl rfl (p_ixt rfl Tryd.underlying9 rfl rfl (ixe h2) (lrd_get (ixn h2))) ?_
   refine bindK H fun r'1 h3 H => ?_
   refine rp rfl rfl (p_callp rfl rfl rfl Tryd.func27 rfl rfl (g_lex_inName_ac h3) ⟨rfl, trivial⟩) ?_
   refine rp rfl rfl (p_not rfl rfl) ?_
   refine RunW_st [(0, .t s0), (1, .clo 27 []), (7, .i (s0.length : Int)), (8, .i t8_0), (16, .b (!r'1))] [] rfl ⟨TLes.same _, (fun _ => .same _), TLes.same _, TLes.same _, TLes.same _, trivial⟩ trivial ?_
   refine RunW_nil ?_
   refine AW2_cond rfl (fun h4 => ?_) (fun h4 => ?_)
   ·replace H := ite_then h4 H
    refine sg [0] rfl ?_
    refine rp rfl rfl (p_asg rfl rfl) ?_
    refine rz [(4, .b false)] [] rfl rfl rfl ?_
    refine AW2_ret ?_
    have hz := some_elim H
    subst hz
    exact ⟨rfl, ⟨res_tmp (.same _), trivial⟩, trivial⟩
   ·replace H := ite_else (ne_true h4) H
    refine AW2_st [(0, .t s0), (1, .clo 27 []), (7, .i (s0.length : Int)), (8, .i t8_0)] [] rfl ⟨TLes.same _, (fun _ => .same _), TLes.same _, TLes.same _, trivial⟩ trivial ?_
    refine AW2_skip ?_
    refine AW2_reg [0, 1] rfl ?_
    refine rp rfl rfl (p_bin rfl rfl rfl rfl) ?_
    refine rp rfl rfl (p_move rfl rfl) ?_
    refine RunW_st [(0, .t s0), (1, .clo 27 []), (7, .i (s0.length : Int)), (8, .i (w64 (t8_0 + (1 : Int))))] [] rfl ⟨TLes.same _, (fun _ => .same _), TLes.same _, TLes.same _, trivial⟩ trivial ?_
    refine RunW_nil ?_
    have hz := some_elim H
    subst hz
    exact ⟨rfl, rfl⟩
  ·replace H := ite_else h1 H
   refine as2 [(0, .t s0)] [] rfl rfl rfl ?_
   refine AW2_exit ?_
   refine thenQ2_exit ?_
   have hz := some_elim H
   subst hz
   exact ⟨rfl, rfl⟩
 ·rcases o'5 with y'6 | y'7
  ·obtain ⟨rfl, hs⟩ := hs
   refine ⟨by simp, ?_⟩
   have hz := some_elim H
   subst hz
   exact ⟨hs.1, hs.2⟩
  ·obtain ⟨rfl, rfl⟩ := hs
   refine ⟨by simp, ?_⟩
   refine blockQ2_exit ?_
   refine sg [0, 1, 2] rfl ?_
   refine rp rfl rfl (p_move rfl rfl) ?_
   refine rp rfl rfl (p_sne rfl rfl rfl) ?_
   refine rp rfl rfl (p_asg rfl rfl) ?_
   refine rz [(4, .b (decide (s0 ≠ [])))] [] rfl rfl rfl ?_
   refine AW2_ret ?_
   have hz := some_elim H
   subst hz
   exact ⟨⟨res_tmp (.same _), trivial⟩, trivial⟩

/-! lex.all -/
noncomputable def g_lex_all_i1_l0 (s0 : List UInt8) : Int → Option (Int ⊕ (Bool ⊕ Unit))
  | t8_0 => (if t8_0 < (s0.length : Int) then if 0 ≤ t8_0 ∧ t8_0 < (s0.length : Int) then (g_lex_great (lrd s0 t8_0.toNat)).bind fun r'1 => (if (!r'1) = true then some (.inr (.inl false)) else some (.inl (w64 (t8_0 + (1 : Int))))) else none else some (.inr (.inr ())))
noncomputable def g_lex_all_i1 (s0 : List UInt8) : Option (Bool) :=
  (loopO (g_lex_all_i1_l0 s0) (0 : Int)).bind fun o'5 => match o'5 with | .inl y'6 => some y'6 | .inr (y'7) => some (decide (s0 ≠ []))
set_option maxHeartbeats 4000000 in
set_option maxRecDepth 100000 in
theorem g_lex_all_i1_ac {s0 : List UInt8} {r : Bool} (H : g_lex_all_i1 s0 = some r) : ACp Tryd.prog 26 [(AV.txt s0), .clo 29 []] (AV.bool r) := by
 refine ACp_of (AC2_of_body (vs := [.b r]) Tryd.func26 rfl rfl (Nat.le_of_ble_eq_true rfl) rfl ?_) (fun _ => .same _)
 unfold g_lex_all_i1 at H
 refine AW2_st [(0, .t s0), (1, .clo 29 [])] [] rfl ⟨TLes.same _, (fun _ => .same _), trivial⟩ trivial ?_
 refine sg [0] rfl ?_
 refine rp rfl rfl (p_asg rfl rfl) ?_
 refine RunW_st [(0, .t s0), (1, .clo 29 [])] [] rfl ⟨TLes.same _, (fun _ => .same _), trivial⟩ trivial ?_
 refine RunW_nil ?_
 refine AW2_seq ?_
 refine sg [0, 1, 2] rfl ?_
 refine rp rfl rfl (p_move rfl rfl) ?_
 refine rp rfl rfl (p_lent rfl Tryd.underlying9 rfl) ?_
 refine rp rfl rfl (p_move rfl rfl) ?_
 refine RunW_st [(0, .t s0), (1, .clo 29 []), (7, .i (s0.length : Int)), (8, .i (0 : Int))] [] rfl ⟨TLes.same _, (fun _ => .same _), TLes.same _, TLes.same _, trivial⟩ trivial ?_
 refine RunW_nil ?_
 refine AW2_block ?_
 refine AW2_st [(0, .t s0), (1, .clo 29 []), (7, .i (s0.length : Int)), (8, .i (0 : Int))] [] rfl ⟨TLes.same _, (fun _ => .same _), TLes.same _, TLes.same _, trivial⟩ trivial ?_
 refine bindK H fun o'5 h5 H => ?_
 refine AW2_loopO (fun a'2 : Int => (⟨[(0, .t s0), (1, .clo 29 []), (7, .i (s0.length : Int)), (8, .i a'2)], [], 20⟩ : TS)) (fun (o : Bool ⊕ Unit) e s' => match o with | .inl y'3 => e = Go.Exit.ret ∧ ResAll Tryd.prog s' [ResultVar.tmp 4] [.b y'3] ∧ HFits s' [] | .inr (y'4) => e = Go.Exit.exit 0 ∧ s' = (⟨[(0, .t s0)], [], 20⟩ : TS)) h5 rfl (fun t8_0 x hx => ?_) (fun e s' hs => ?_)
 ·clear H
  have H := hx
  clear hx
  unfold g_lex_all_i1_l0 at H
  refine sg [0] rfl ?_
  refine rp rfl rfl (p_bin rfl rfl rfl rfl) ?_
  refine RunW_st [(0, .t s0), (1, .clo 29 []), (7, .i (s0.length : Int)), (8, .i t8_0), (9, .b (decide (t8_0 < (s0.length : Int))))] [] rfl ⟨TLes.same _, (fun _ => .same _), TLes.same _, TLes.same _, TLes.same _, trivial⟩ trivial ?_
  refine RunW_nil ?_
  refine AW2_seq ?_
  refine AW2_if (p := t8_0 < (s0.length : Int)) rfl (fun h1 => ?_) (fun h1 => ?_)
  ·replace H := ite_then h1 H
   refine AW2_st [(0, .t s0), (1, .clo 29 []), (7, .i (s0.length : Int)), (8, .i t8_0)] [] rfl ⟨TLes.same _, (fun _ => .same _), TLes.same _, TLes.same _, trivial⟩ trivial ?_
   refine AW2_skip ?_
   refine AW2_seq ?_
   refine AW2_block ?_
   refine sg [0, 1] rfl ?_
   refine rp rfl rfl (p_move rfl rfl) ?_
   refine rp rfl rfl (p_asg rfl rfl) ?_
   refine RunW_st [(0, .t s0), (1, .clo 29 []), (5, .i t8_0), (7, .i (s0.length : Int)), (8, .i t8_0)] [] rfl ⟨TLes.same _, (fun _ => .same _), TLes.same _, TLes.same _, TLes.same _, trivial⟩ trivial ?_
   refine RunW_nil ?_
   refine sg [0, 1, 2, 3, 4, 5] rfl ?_
   refine rp rfl rfl (p_move rfl rfl) ?_
   refine rp rfl rfl (p_move rfl rfl) ?_
   refine rp rfl rfl (p_move rfl rfl) ?_
   refine chkK H fun h2 H => ?_
   refine rp rfl rfl (p_ixt rfl Tryd.underlying9 rfl rfl (ixe h2) (lrd_get (ixn h2))) ?_
   refine bindK H fun r'1 h3 H => ?_
   refine rp rfl rfl (p_callp rfl rfl rfl Tryd.func29 rfl rfl (g_lex_great_ac h3) ⟨rfl, trivial⟩) ?_
   refine rp rfl rfl (p_not rfl rfl) ?_
   refine RunW_st [(0, .t s0), (1, .clo 29 []), (7, .i (s0.length : Int)), (8, .i t8_0), (16, .b (!r'1))] [] rfl ⟨TLes.same _, (fun _ => .same _), TLes.same _, TLes.same _, TLes.same _, trivial⟩ trivial ?_
   refine RunW_nil ?_
   refine AW2_cond rfl (fun h4 => ?_) (fun h4 => ?_)
   ·replace H := ite_then h4 H
    refine sg [0] rfl ?_
    refine rp rfl rfl (p_asg rfl rfl) ?_
    refine rz [(4, .b false)] [] rfl rfl rfl ?_
    refine AW2_ret ?_
    have hz := some_elim H
    subst hz
    exact ⟨rfl, ⟨res_tmp (.same _), trivial⟩, trivial⟩
   ·replace H := ite_else (ne_true h4) H
    refine AW2_st [(0, .t s0), (1, .clo 29 []), (7, .i (s0.length : Int)), (8, .i t8_0)] [] rfl ⟨TLes.same _, (fun _ => .same _), TLes.same _, TLes.same _, trivial⟩ trivial ?_
    refine AW2_skip ?_
    refine AW2_reg [0, 1] rfl ?_
    refine rp rfl rfl (p_bin rfl rfl rfl rfl) ?_
    refine rp rfl rfl (p_move rfl rfl) ?_
    refine RunW_st [(0, .t s0), (1, .clo 29 []), (7, .i (s0.length : Int)), (8, .i (w64 (t8_0 + (1 : Int))))] [] rfl ⟨TLes.same _, (fun _ => .same _), TLes.same _, TLes.same _, trivial⟩ trivial ?_
    refine RunW_nil ?_
    have hz := some_elim H
    subst hz
    exact ⟨rfl, rfl⟩
  ·replace H := ite_else h1 H
   refine as2 [(0, .t s0)] [] rfl rfl rfl ?_
   refine AW2_exit ?_
   refine thenQ2_exit ?_
   have hz := some_elim H
   subst hz
   exact ⟨rfl, rfl⟩
 ·rcases o'5 with y'6 | y'7
  ·obtain ⟨rfl, hs⟩ := hs
   refine ⟨by simp, ?_⟩
   have hz := some_elim H
   subst hz
   exact ⟨hs.1, hs.2⟩
  ·obtain ⟨rfl, rfl⟩ := hs
   refine ⟨by simp, ?_⟩
   refine blockQ2_exit ?_
   refine sg [0, 1, 2] rfl ?_
   refine rp rfl rfl (p_move rfl rfl) ?_
   refine rp rfl rfl (p_sne rfl rfl rfl) ?_
   refine rp rfl rfl (p_asg rfl rfl) ?_
   refine rz [(4, .b (decide (s0 ≠ [])))] [] rfl rfl rfl ?_
   refine AW2_ret ?_
   have hz := some_elim H
   subst hz
   exact ⟨⟨res_tmp (.same _), trivial⟩, trivial⟩

/-! lex.Check -/
noncomputable def g_lex_Check (t0 : GToken) : Option (Int) :=
  (if (t0.Kind < (1 : Int)) ∨ (t0.Kind > (6 : Int)) then some (2 : Int) else letO (decide (((t0.Kind = (4 : Int)) ∧ ((t0.Text.length : Int) > (40 : Int))) ∨ (((t0.Kind = (1 : Int)) ∨ (t0.Kind = (2 : Int))) ∧ ((t0.Text.length : Int) > (8 : Int))))) fun t36'1 => (if t36'1 = true then some (1 : Int) else letO (decide ((((t0.Kind ≠ (3 : Int)) ∧ (t0.Int_ ≠ (0 : Int))) ∨ ((t0.Kind ≠ (5 : Int)) ∧ (t0.Bits ≠ (0 : UInt64)))) ∨ (((t0.Kind = (3 : Int)) ∨ (t0.Kind = (5 : Int))) ∧ (t0.Text ≠ [])))) fun t69'2 => (if t69'2 = true then some (3 : Int) else ((if t0.Kind = (1 : Int) then ((g_lex_all_i0 t0.Text).bind fun r'5 => (if r'5 = true then if 0 < t0.Text.length then (g_lex_small (lrd t0.Text 0)).bind fun r'6 => some r'6 else none else some false)).bind fun g'7 => some g'7 else (if t0.Kind = (2 : Int) then (g_lex_all_i1 t0.Text).bind fun r'8 => some r'8 else (if t0.Kind = (3 : Int) then some (decide (t0.Int_ ≥ (0 : Int))) else (if t0.Kind = (4 : Int) then (g_utf8_ValidString t0.Text).bind fun r'9 => some r'9 else (if t0.Kind = (5 : Int) then (g_value_Check ({ { GValue.zero with Kind := (3 : Int) } with Bits := t0.Bits })).bind fun r'10 => some (decide (r'10 = (0 : Int))) else (if t0.Kind = (6 : Int) then (g_lex_sign t0.Text).bind fun r'11 => some r'11 else some true))))))).bind fun j'3 => (if (!j'3) = true then some (3 : Int) else some (0 : Int)))))
set_option maxHeartbeats 4000000 in
set_option maxRecDepth 100000 in
theorem g_lex_Check_ac {t0 : GToken} {r : Int} (H : g_lex_Check t0 = some r) : ACp Tryd.prog 10 [(.agg (GToken.cs t0))] (AV.int r) := by
 refine ACp_of (AC2_of_body (vs := [.i r]) Tryd.func10 rfl rfl (Nat.le_of_ble_eq_true rfl) rfl ?_) (fun _ => .same _)
 unfold g_lex_Check at H
 refine as2 [(0, .g (GToken.cs t0))] [] rfl rfl rfl ?_
 refine sg [0, 1] rfl ?_
 refine r_op rfl rfl (MakeD.opD (n_box 1 rfl rfl) rfl rfl rfl rfl) ?_
 refine rp rfl rfl (p_asg rfl rfl) ?_
 refine rz [(1, .q 1 (0))] [(1, .pure (GToken.cs t0))] rfl rfl rfl ?_
 refine AW2_seq ?_
 refine AW2_seq ?_
 refine AW2_mid (⟨[(1, .q 1 (0)), (11, .b (decide ((t0.Kind < (1 : Int)) ∨ (t0.Kind > (6 : Int)))))], [(1, .pure (GToken.cs t0))], 112⟩ : TS) ?_ ?_
 ·refine AW2_reg [0, 1, 2, 3, 4, 5, 6, 7] rfl ?_
  refine rp rfl rfl (u_fa rfl rfl Tryd.underlying24 rfl in_3 (Nat.succ_ne_zero _) rfl rfl (ne_of_lt (n := 0) (Nat.lt_of_lt_of_eq (by decide) (Eq.symm (GToken.len t0))))) ?_
  refine rp rfl rfl (u_ld rfl rfl Tryd.underlying3 rfl rfl ((Sub.refl _).trans (GToken.sub0 t0))) ?_
  refine rp rfl rfl (p_bin rfl rfl rfl rfl) ?_
  refine rp rfl rfl (p_move rfl rfl) ?_
  refine (Classical.em (t0.Kind < (1 : Int))).elim (fun h1 => ?_) (fun h1 => ?_)
  ·iterate 3 (refine r_off rfl rfl rfl rfl (decide_eq_true h1) rfl rfl ?_)
   refine rp rfl rfl (p_pkt rfl rfl (decide_eq_true h1) (tb (decide_eq_true (p := (t0.Kind < (1 : Int)) ∨ (t0.Kind > (6 : Int))) (Or.inl h1)).symm)) ?_
   refine rs [(1, .q 1 (0)), (11, .b (decide ((t0.Kind < (1 : Int)) ∨ (t0.Kind > (6 : Int)))))] [(1, .pure (GToken.cs t0))] rfl rfl rfl ?_
   exact RunW_nil rfl
  ·refine r_on rfl rfl rfl rfl (decide_eq_false h1) rfl (PureD.opD (u_fa rfl rfl Tryd.underlying24 rfl in_3 (Nat.succ_ne_zero _) rfl rfl (ne_of_lt (n := 0) (Nat.lt_of_lt_of_eq (by decide) (Eq.symm (GToken.len t0)))))) ?_
   refine r_on rfl rfl rfl rfl (decide_eq_false h1) rfl (PureD.opD (u_ld rfl rfl Tryd.underlying3 rfl rfl ((Sub.refl _).trans (GToken.sub0 t0)))) ?_
   refine r_on rfl rfl rfl rfl (decide_eq_false h1) rfl (PureD.opD (p_bin rfl rfl rfl rfl)) ?_
   refine rp rfl rfl (p_pkf rfl rfl (decide_eq_false h1) (tb ((or_l (p := t0.Kind < (1 : Int)) (q := t0.Kind > (6 : Int)) h1)))) ?_
   refine rs [(1, .q 1 (0)), (11, .b (decide ((t0.Kind < (1 : Int)) ∨ (t0.Kind > (6 : Int)))))] [(1, .pure (GToken.cs t0))] rfl rfl rfl ?_
   exact RunW_nil rfl
 ·refine AW2_if (p := (t0.Kind < (1 : Int)) ∨ (t0.Kind > (6 : Int))) rfl (fun h2 => ?_) (fun h2 => ?_)
  ·replace H := ite_then h2 H
   refine sg [0] rfl ?_
   refine rp rfl rfl (p_asg rfl rfl) ?_
   refine rz [(2, .i (2 : Int))] [] rfl rfl rfl ?_
   refine AW2_ret ?_
   have hz := some_elim H
   subst hz
   exact ⟨⟨res_tmp (.same _), trivial⟩, trivial⟩
  ·replace H := ite_else h2 H
   refine as2 [(1, .q 1 (0))] [(1, .pure (GToken.cs t0))] rfl rfl rfl ?_
   refine AW2_skip ?_
   refine AW2_seq ?_
   refine AW2_seq ?_
   refine AW2_mid (⟨[(1, .q 1 (0)), (36, .b (decide (((t0.Kind = (4 : Int)) ∧ ((t0.Text.length : Int) > (40 : Int))) ∨ (((t0.Kind = (1 : Int)) ∨ (t0.Kind = (2 : Int))) ∧ ((t0.Text.length : Int) > (8 : Int))))))], [(1, .pure (GToken.cs t0))], 112⟩ : TS) ?_ ?_
   ·refine AW2_reg [0, 1, 2, 3, 4, 5, 6, 7, 8, 9, 10, 11, 12, 13, 14, 15, 16, 17, 18, 19, 20, 21, 22, 23, 24] rfl ?_
    refine rp rfl rfl (u_fa rfl rfl Tryd.underlying24 rfl in_3 (Nat.succ_ne_zero _) rfl rfl (ne_of_lt (n := 0) (Nat.lt_of_lt_of_eq (by decide) (Eq.symm (GToken.len t0))))) ?_
    refine rp rfl rfl (u_ld rfl rfl Tryd.underlying3 rfl rfl ((Sub.refl _).trans (GToken.sub0 t0))) ?_
    refine rp rfl rfl (p_ieq rfl rfl rfl) ?_
    refine rp rfl rfl (p_move rfl rfl) ?_
    refine (Classical.em (t0.Kind = (4 : Int))).elim (fun h3 => ?_) (fun h3 => ?_)
    ·refine r_on rfl rfl rfl rfl (decide_eq_true h3) rfl (PureD.opD (u_fa rfl rfl Tryd.underlying24 rfl in_9 (Nat.succ_ne_zero _) rfl rfl (ne_of_lt (n := 0) (Nat.lt_of_lt_of_eq (by decide) (Eq.symm (GToken.len t0)))))) ?_
     refine r_on rfl rfl rfl rfl (decide_eq_true h3) rfl (PureD.opD (u_ld rfl rfl Tryd.underlying9 rfl rfl ((Sub.refl _).trans (GToken.sub1 t0)))) ?_
     refine r_on rfl rfl rfl rfl (decide_eq_true h3) rfl (PureD.opD (p_lent rfl Tryd.underlying9 rfl)) ?_
     refine r_on rfl rfl rfl rfl (decide_eq_true h3) rfl (PureD.opD (p_bin rfl rfl rfl rfl)) ?_
     refine rp rfl rfl (p_pkt rfl rfl (decide_eq_true h3) (tb ((and_l (p := t0.Kind = (4 : Int)) (q := (t0.Text.length : Int) > (40 : Int)) h3)))) ?_
     refine rp rfl rfl (p_move rfl rfl) ?_
     refine (Classical.em ((t0.Text.length : Int) > (40 : Int))).elim (fun h4 => ?_) (fun h4 => ?_)
     ·have qq1 := decide_eq_true (p := (t0.Kind = (4 : Int)) ∧ ((t0.Text.length : Int) > (40 : Int))) ⟨h3, h4⟩
      iterate 4 (refine r_off rfl rfl rfl rfl qq1 rfl rfl ?_)
      iterate 3 (refine r_off2 rfl rfl rfl rfl rfl rfl ?_)
      iterate 2 (refine r_off rfl rfl rfl rfl qq1 rfl rfl ?_)
      iterate 4 (refine r_off2 rfl rfl rfl rfl rfl rfl ?_)
      refine r_off rfl rfl rfl rfl qq1 rfl rfl ?_
      refine rp rfl rfl (p_pkt rfl rfl qq1 (tb (decide_eq_true (p := ((t0.Kind = (4 : Int)) ∧ ((t0.Text.length : Int) > (40 : Int))) ∨ (((t0.Kind = (1 : Int)) ∨ (t0.Kind = (2 : Int))) ∧ ((t0.Text.length : Int) > (8 : Int)))) (Or.inl ⟨h3, h4⟩)).symm)) ?_
      refine rs [(1, .q 1 (0)), (36, .b (decide (((t0.Kind = (4 : Int)) ∧ ((t0.Text.length : Int) > (40 : Int))) ∨ (((t0.Kind = (1 : Int)) ∨ (t0.Kind = (2 : Int))) ∧ ((t0.Text.length : Int) > (8 : Int))))))] [(1, .pure (GToken.cs t0))] rfl rfl rfl ?_
      exact RunW_nil rfl
     ·have qq2 := decide_eq_false (p := (t0.Kind = (4 : Int)) ∧ ((t0.Text.length : Int) > (40 : Int))) (fun h => h4 h.2)
      refine rn rfl rfl rfl rfl qq2 rfl (u_fa rfl rfl Tryd.underlying24 rfl in_3 (Nat.succ_ne_zero _) rfl rfl (ne_of_lt (n := 0) (Nat.lt_of_lt_of_eq (by decide) (Eq.symm (GToken.len t0))))) ?_
      refine rn rfl rfl rfl rfl qq2 rfl (u_ld rfl rfl Tryd.underlying3 rfl rfl ((Sub.refl _).trans (GToken.sub0 t0))) ?_
      refine rn rfl rfl rfl rfl qq2 rfl (p_ieq rfl rfl rfl) ?_
      refine rn rfl rfl rfl rfl qq2 rfl (p_move rfl rfl) ?_
      refine (Classical.em (t0.Kind = (1 : Int))).elim (fun h5 => ?_) (fun h5 => ?_)
      ·iterate 3 (refine r_off rfl rfl rfl rfl (decide_eq_true h5) rfl rfl ?_)
       have qq3 := decide_eq_true (p := (t0.Kind = (1 : Int)) ∨ (t0.Kind = (2 : Int))) (Or.inl h5)
       refine rn rfl rfl rfl rfl qq2 rfl (p_pkt rfl rfl (decide_eq_true h5) (tb qq3.symm)) ?_
       refine rn rfl rfl rfl rfl qq2 rfl (p_move rfl rfl) ?_
       refine rn rfl rfl rfl rfl qq3 rfl (u_fa rfl rfl Tryd.underlying24 rfl in_9 (Nat.succ_ne_zero _) rfl rfl (ne_of_lt (n := 0) (Nat.lt_of_lt_of_eq (by decide) (Eq.symm (GToken.len t0))))) ?_
       refine rn rfl rfl rfl rfl qq3 rfl (u_ld rfl rfl Tryd.underlying9 rfl rfl ((Sub.refl _).trans (GToken.sub1 t0))) ?_
       refine rn rfl rfl rfl rfl qq3 rfl (p_lent rfl Tryd.underlying9 rfl) ?_
       refine rn rfl rfl rfl rfl qq3 rfl (p_bin rfl rfl rfl rfl) ?_
       refine rn rfl rfl rfl rfl qq2 rfl (p_pkt rfl rfl qq3 (tb ((and_l (p := (t0.Kind = (1 : Int)) ∨ (t0.Kind = (2 : Int))) (q := (t0.Text.length : Int) > (8 : Int)) (Or.inl h5))))) ?_
       refine rp rfl rfl (p_pkf rfl rfl qq2 (tb ((or_l (p := (t0.Kind = (4 : Int)) ∧ ((t0.Text.length : Int) > (40 : Int))) (q := ((t0.Kind = (1 : Int)) ∨ (t0.Kind = (2 : Int))) ∧ ((t0.Text.length : Int) > (8 : Int))) (fun h => h4 h.2))))) ?_
       refine rs [(1, .q 1 (0)), (36, .b (decide (((t0.Kind = (4 : Int)) ∧ ((t0.Text.length : Int) > (40 : Int))) ∨ (((t0.Kind = (1 : Int)) ∨ (t0.Kind = (2 : Int))) ∧ ((t0.Text.length : Int) > (8 : Int))))))] [(1, .pure (GToken.cs t0))] rfl rfl rfl ?_
       exact RunW_nil rfl
      ·refine r_on rfl rfl rfl rfl (decide_eq_false h5) rfl (PureD.opD (u_fa rfl rfl Tryd.underlying24 rfl in_3 (Nat.succ_ne_zero _) rfl rfl (ne_of_lt (n := 0) (Nat.lt_of_lt_of_eq (by decide) (Eq.symm (GToken.len t0)))))) ?_
       refine r_on rfl rfl rfl rfl (decide_eq_false h5) rfl (PureD.opD (u_ld rfl rfl Tryd.underlying3 rfl rfl ((Sub.refl _).trans (GToken.sub0 t0)))) ?_
       refine r_on rfl rfl rfl rfl (decide_eq_false h5) rfl (PureD.opD (p_ieq rfl rfl rfl)) ?_
       refine rn rfl rfl rfl rfl qq2 rfl (p_pkf rfl rfl (decide_eq_false h5) (tb ((or_l (p := t0.Kind = (1 : Int)) (q := t0.Kind = (2 : Int)) h5)))) ?_
       refine rn rfl rfl rfl rfl qq2 rfl (p_move rfl rfl) ?_
       refine (Classical.em (t0.Kind = (2 : Int))).elim (fun h6 => ?_) (fun h6 => ?_)
       ·have qq4 := decide_eq_true (p := (t0.Kind = (1 : Int)) ∨ (t0.Kind = (2 : Int))) (Or.inr h6)
        refine rn rfl rfl rfl rfl qq4 rfl (u_fa rfl rfl Tryd.underlying24 rfl in_9 (Nat.succ_ne_zero _) rfl rfl (ne_of_lt (n := 0) (Nat.lt_of_lt_of_eq (by decide) (Eq.symm (GToken.len t0))))) ?_
        refine rn rfl rfl rfl rfl qq4 rfl (u_ld rfl rfl Tryd.underlying9 rfl rfl ((Sub.refl _).trans (GToken.sub1 t0))) ?_
        refine rn rfl rfl rfl rfl qq4 rfl (p_lent rfl Tryd.underlying9 rfl) ?_
        refine rn rfl rfl rfl rfl qq4 rfl (p_bin rfl rfl rfl rfl) ?_
        refine rn rfl rfl rfl rfl qq2 rfl (p_pkt rfl rfl qq4 (tb ((and_l (p := (t0.Kind = (1 : Int)) ∨ (t0.Kind = (2 : Int))) (q := (t0.Text.length : Int) > (8 : Int)) (Or.inr h6))))) ?_
        refine rp rfl rfl (p_pkf rfl rfl qq2 (tb ((or_l (p := (t0.Kind = (4 : Int)) ∧ ((t0.Text.length : Int) > (40 : Int))) (q := ((t0.Kind = (1 : Int)) ∨ (t0.Kind = (2 : Int))) ∧ ((t0.Text.length : Int) > (8 : Int))) (fun h => h4 h.2))))) ?_
        refine rs [(1, .q 1 (0)), (36, .b (decide (((t0.Kind = (4 : Int)) ∧ ((t0.Text.length : Int) > (40 : Int))) ∨ (((t0.Kind = (1 : Int)) ∨ (t0.Kind = (2 : Int))) ∧ ((t0.Text.length : Int) > (8 : Int))))))] [(1, .pure (GToken.cs t0))] rfl rfl rfl ?_
        exact RunW_nil rfl
       ·have qq5 := decide_eq_false (p := (t0.Kind = (1 : Int)) ∨ (t0.Kind = (2 : Int))) (not_or.2 ⟨h5, h6⟩)
        iterate 4 (refine r_off rfl rfl rfl rfl qq5 rfl rfl ?_)
        refine rn rfl rfl rfl rfl qq2 rfl (p_pkf rfl rfl qq5 (tb (decide_eq_false (p := ((t0.Kind = (1 : Int)) ∨ (t0.Kind = (2 : Int))) ∧ ((t0.Text.length : Int) > (8 : Int))) (fun x => (not_or.2 ⟨h5, h6⟩) x.1)).symm)) ?_
        refine rp rfl rfl (p_pkf rfl rfl qq2 (tb ((or_l (p := (t0.Kind = (4 : Int)) ∧ ((t0.Text.length : Int) > (40 : Int))) (q := ((t0.Kind = (1 : Int)) ∨ (t0.Kind = (2 : Int))) ∧ ((t0.Text.length : Int) > (8 : Int))) (fun h => h4 h.2))))) ?_
        refine rs [(1, .q 1 (0)), (36, .b (decide (((t0.Kind = (4 : Int)) ∧ ((t0.Text.length : Int) > (40 : Int))) ∨ (((t0.Kind = (1 : Int)) ∨ (t0.Kind = (2 : Int))) ∧ ((t0.Text.length : Int) > (8 : Int))))))] [(1, .pure (GToken.cs t0))] rfl rfl rfl ?_
        exact RunW_nil rfl
    ·iterate 4 (refine r_off rfl rfl rfl rfl (decide_eq_false h3) rfl rfl ?_)
     refine rp rfl rfl (p_pkf rfl rfl (decide_eq_false h3) (tb (decide_eq_false (p := (t0.Kind = (4 : Int)) ∧ ((t0.Text.length : Int) > (40 : Int))) (fun x => h3 x.1)).symm)) ?_
     refine rp rfl rfl (p_move rfl rfl) ?_
     have qq6 := decide_eq_false (p := (t0.Kind = (4 : Int)) ∧ ((t0.Text.length : Int) > (40 : Int))) (fun h => h3 h.1)
     refine rn rfl rfl rfl rfl qq6 rfl (u_fa rfl rfl Tryd.underlying24 rfl in_3 (Nat.succ_ne_zero _) rfl rfl (ne_of_lt (n := 0) (Nat.lt_of_lt_of_eq (by decide) (Eq.symm (GToken.len t0))))) ?_
     refine rn rfl rfl rfl rfl qq6 rfl (u_ld rfl rfl Tryd.underlying3 rfl rfl ((Sub.refl _).trans (GToken.sub0 t0))) ?_
     refine rn rfl rfl rfl rfl qq6 rfl (p_ieq rfl rfl rfl) ?_
     refine rn rfl rfl rfl rfl qq6 rfl (p_move rfl rfl) ?_
     refine (Classical.em (t0.Kind = (1 : Int))).elim (fun h7 => ?_) (fun h7 => ?_)
     ·iterate 3 (refine r_off rfl rfl rfl rfl (decide_eq_true h7) rfl rfl ?_)
      have qq7 := decide_eq_true (p := (t0.Kind = (1 : Int)) ∨ (t0.Kind = (2 : Int))) (Or.inl h7)
      refine rn rfl rfl rfl rfl qq6 rfl (p_pkt rfl rfl (decide_eq_true h7) (tb qq7.symm)) ?_
      refine rn rfl rfl rfl rfl qq6 rfl (p_move rfl rfl) ?_
      refine rn rfl rfl rfl rfl qq7 rfl (u_fa rfl rfl Tryd.underlying24 rfl in_9 (Nat.succ_ne_zero _) rfl rfl (ne_of_lt (n := 0) (Nat.lt_of_lt_of_eq (by decide) (Eq.symm (GToken.len t0))))) ?_
      refine rn rfl rfl rfl rfl qq7 rfl (u_ld rfl rfl Tryd.underlying9 rfl rfl ((Sub.refl _).trans (GToken.sub1 t0))) ?_
      refine rn rfl rfl rfl rfl qq7 rfl (p_lent rfl Tryd.underlying9 rfl) ?_
      refine rn rfl rfl rfl rfl qq7 rfl (p_bin rfl rfl rfl rfl) ?_
      refine rn rfl rfl rfl rfl qq6 rfl (p_pkt rfl rfl qq7 (tb ((and_l (p := (t0.Kind = (1 : Int)) ∨ (t0.Kind = (2 : Int))) (q := (t0.Text.length : Int) > (8 : Int)) (Or.inl h7))))) ?_
      refine rp rfl rfl (p_pkf rfl rfl qq6 (tb ((or_l (p := (t0.Kind = (4 : Int)) ∧ ((t0.Text.length : Int) > (40 : Int))) (q := ((t0.Kind = (1 : Int)) ∨ (t0.Kind = (2 : Int))) ∧ ((t0.Text.length : Int) > (8 : Int))) (fun h => h3 h.1))))) ?_
      refine rs [(1, .q 1 (0)), (36, .b (decide (((t0.Kind = (4 : Int)) ∧ ((t0.Text.length : Int) > (40 : Int))) ∨ (((t0.Kind = (1 : Int)) ∨ (t0.Kind = (2 : Int))) ∧ ((t0.Text.length : Int) > (8 : Int))))))] [(1, .pure (GToken.cs t0))] rfl rfl rfl ?_
      exact RunW_nil rfl
     ·refine r_on rfl rfl rfl rfl (decide_eq_false h7) rfl (PureD.opD (u_fa rfl rfl Tryd.underlying24 rfl in_3 (Nat.succ_ne_zero _) rfl rfl (ne_of_lt (n := 0) (Nat.lt_of_lt_of_eq (by decide) (Eq.symm (GToken.len t0)))))) ?_
      refine r_on rfl rfl rfl rfl (decide_eq_false h7) rfl (PureD.opD (u_ld rfl rfl Tryd.underlying3 rfl rfl ((Sub.refl _).trans (GToken.sub0 t0)))) ?_
      refine r_on rfl rfl rfl rfl (decide_eq_false h7) rfl (PureD.opD (p_ieq rfl rfl rfl)) ?_
      refine rn rfl rfl rfl rfl qq6 rfl (p_pkf rfl rfl (decide_eq_false h7) (tb ((or_l (p := t0.Kind = (1 : Int)) (q := t0.Kind = (2 : Int)) h7)))) ?_
      refine rn rfl rfl rfl rfl qq6 rfl (p_move rfl rfl) ?_
      refine (Classical.em (t0.Kind = (2 : Int))).elim (fun h8 => ?_) (fun h8 => ?_)
      ·have qq8 := decide_eq_true (p := (t0.Kind = (1 : Int)) ∨ (t0.Kind = (2 : Int))) (Or.inr h8)
       refine rn rfl rfl rfl rfl qq8 rfl (u_fa rfl rfl Tryd.underlying24 rfl in_9 (Nat.succ_ne_zero _) rfl rfl (ne_of_lt (n := 0) (Nat.lt_of_lt_of_eq (by decide) (Eq.symm (GToken.len t0))))) ?_
       refine rn rfl rfl rfl rfl qq8 rfl (u_ld rfl rfl Tryd.underlying9 rfl rfl ((Sub.refl _).trans (GToken.sub1 t0))) ?_
       refine rn rfl rfl rfl rfl qq8 rfl (p_lent rfl Tryd.underlying9 rfl) ?_
       refine rn rfl rfl rfl rfl qq8 rfl (p_bin rfl rfl rfl rfl) ?_
       refine rn rfl rfl rfl rfl qq6 rfl (p_pkt rfl rfl qq8 (tb ((and_l (p := (t0.Kind = (1 : Int)) ∨ (t0.Kind = (2 : Int))) (q := (t0.Text.length : Int) > (8 : Int)) (Or.inr h8))))) ?_
       refine rp rfl rfl (p_pkf rfl rfl qq6 (tb ((or_l (p := (t0.Kind = (4 : Int)) ∧ ((t0.Text.length : Int) > (40 : Int))) (q := ((t0.Kind = (1 : Int)) ∨ (t0.Kind = (2 : Int))) ∧ ((t0.Text.length : Int) > (8 : Int))) (fun h => h3 h.1))))) ?_
       refine rs [(1, .q 1 (0)), (36, .b (decide (((t0.Kind = (4 : Int)) ∧ ((t0.Text.length : Int) > (40 : Int))) ∨ (((t0.Kind = (1 : Int)) ∨ (t0.Kind = (2 : Int))) ∧ ((t0.Text.length : Int) > (8 : Int))))))] [(1, .pure (GToken.cs t0))] rfl rfl rfl ?_
       exact RunW_nil rfl
      ·have qq9 := decide_eq_false (p := (t0.Kind = (1 : Int)) ∨ (t0.Kind = (2 : Int))) (not_or.2 ⟨h7, h8⟩)
       iterate 4 (refine r_off rfl rfl rfl rfl qq9 rfl rfl ?_)
       refine rn rfl rfl rfl rfl qq6 rfl (p_pkf rfl rfl qq9 (tb (decide_eq_false (p := ((t0.Kind = (1 : Int)) ∨ (t0.Kind = (2 : Int))) ∧ ((t0.Text.length : Int) > (8 : Int))) (fun x => (not_or.2 ⟨h7, h8⟩) x.1)).symm)) ?_
       refine rp rfl rfl (p_pkf rfl rfl qq6 (tb ((or_l (p := (t0.Kind = (4 : Int)) ∧ ((t0.Text.length : Int) > (40 : Int))) (q := ((t0.Kind = (1 : Int)) ∨ (t0.Kind = (2 : Int))) ∧ ((t0.Text.length : Int) > (8 : Int))) (fun h => h3 h.1))))) ?_
       refine rs [(1, .q 1 (0)), (36, .b (decide (((t0.Kind = (4 : Int)) ∧ ((t0.Text.length : Int) > (40 : Int))) ∨ (((t0.Kind = (1 : Int)) ∨ (t0.Kind = (2 : Int))) ∧ ((t0.Text.length : Int) > (8 : Int))))))] [(1, .pure (GToken.cs t0))] rfl rfl rfl ?_
       exact RunW_nil rfl
   ·refine gen1 (fun t36'1 => (⟨[(1, .q 1 (0)), (36, .b t36'1)], [(1, .pure (GToken.cs t0))], 112⟩ : TS)) H ?_
    intro t36'1 H
    refine AW2_cond rfl (fun h9 => ?_) (fun h9 => ?_)
    ·replace H := ite_then h9 H
     refine sg [0] rfl ?_
     refine rp rfl rfl (p_asg rfl rfl) ?_
     refine rz [(2, .i (1 : Int))] [] rfl rfl rfl ?_
     refine AW2_ret ?_
     have hz := some_elim H
     subst hz
     exact ⟨⟨res_tmp (.same _), trivial⟩, trivial⟩
    ·replace H := ite_else (ne_true h9) H
     refine as2 [(1, .q 1 (0))] [(1, .pure (GToken.cs t0))] rfl rfl rfl ?_
     refine AW2_skip ?_
     refine AW2_seq ?_
     refine AW2_seq ?_
     refine AW2_mid (⟨[(1, .q 1 (0)), (69, .b (decide ((((t0.Kind ≠ (3 : Int)) ∧ (t0.Int_ ≠ (0 : Int))) ∨ ((t0.Kind ≠ (5 : Int)) ∧ (t0.Bits ≠ (0 : UInt64)))) ∨ (((t0.Kind = (3 : Int)) ∨ (t0.Kind = (5 : Int))) ∧ (t0.Text ≠ [])))))], [(1, .pure (GToken.cs t0))], 112⟩ : TS) ?_ ?_
     ·refine AW2_reg [0, 1, 2, 3, 4, 5, 6, 7, 8, 9, 10, 11, 12, 13, 14, 15, 16, 17, 18, 19, 20, 21, 22, 23, 24, 25, 26, 27, 28, 29, 30, 31, 32] rfl ?_
      refine rp rfl rfl (u_fa rfl rfl Tryd.underlying24 rfl in_3 (Nat.succ_ne_zero _) rfl rfl (ne_of_lt (n := 0) (Nat.lt_of_lt_of_eq (by decide) (Eq.symm (GToken.len t0))))) ?_
      refine rp rfl rfl (u_ld rfl rfl Tryd.underlying3 rfl rfl ((Sub.refl _).trans (GToken.sub0 t0))) ?_
      refine rp rfl rfl (p_ine rfl rfl rfl) ?_
      refine rp rfl rfl (p_move rfl rfl) ?_
      refine (Classical.em (t0.Kind ≠ (3 : Int))).elim (fun h10 => ?_) (fun h10 => ?_)
      ·refine r_on rfl rfl rfl rfl (decide_eq_true h10) rfl (PureD.opD (u_fa rfl rfl Tryd.underlying24 rfl in_3 (Nat.succ_ne_zero _) rfl rfl (ne_of_lt (n := 0) (Nat.lt_of_lt_of_eq (by decide) (Eq.symm (GToken.len t0)))))) ?_
       refine r_on rfl rfl rfl rfl (decide_eq_true h10) rfl (PureD.opD (u_ld rfl rfl Tryd.underlying3 rfl rfl ((Sub.refl _).trans (GToken.sub2 t0)))) ?_
       refine r_on rfl rfl rfl rfl (decide_eq_true h10) rfl (PureD.opD (p_ine rfl rfl rfl)) ?_
       refine rp rfl rfl (p_pkt rfl rfl (decide_eq_true h10) (tb ((and_l (p := t0.Kind ≠ (3 : Int)) (q := t0.Int_ ≠ (0 : Int)) h10)))) ?_
       refine rp rfl rfl (p_move rfl rfl) ?_
       refine (Classical.em (t0.Int_ ≠ (0 : Int))).elim (fun h11 => ?_) (fun h11 => ?_)
       ·have qq10 := decide_eq_true (p := (t0.Kind ≠ (3 : Int)) ∧ (t0.Int_ ≠ (0 : Int))) ⟨h10, h11⟩
        iterate 4 (refine r_off rfl rfl rfl rfl qq10 rfl rfl ?_)
        iterate 3 (refine r_off2 rfl rfl rfl rfl rfl rfl ?_)
        refine r_off rfl rfl rfl rfl qq10 rfl rfl ?_
        have qq11 := decide_eq_true (p := ((t0.Kind ≠ (3 : Int)) ∧ (t0.Int_ ≠ (0 : Int))) ∨ ((t0.Kind ≠ (5 : Int)) ∧ (t0.Bits ≠ (0 : UInt64)))) (Or.inl ⟨h10, h11⟩)
        refine rp rfl rfl (p_pkt rfl rfl qq10 (tb qq11.symm)) ?_
        refine rp rfl rfl (p_move rfl rfl) ?_
        iterate 4 (refine r_off rfl rfl rfl rfl qq11 rfl rfl ?_)
        iterate 3 (refine r_off2 rfl rfl rfl rfl rfl rfl ?_)
        iterate 2 (refine r_off rfl rfl rfl rfl qq11 rfl rfl ?_)
        iterate 3 (refine r_off2 rfl rfl rfl rfl rfl rfl ?_)
        refine r_off rfl rfl rfl rfl qq11 rfl rfl ?_
        refine rp rfl rfl (p_pkt rfl rfl qq11 (tb (decide_eq_true (p := (((t0.Kind ≠ (3 : Int)) ∧ (t0.Int_ ≠ (0 : Int))) ∨ ((t0.Kind ≠ (5 : Int)) ∧ (t0.Bits ≠ (0 : UInt64)))) ∨ (((t0.Kind = (3 : Int)) ∨ (t0.Kind = (5 : Int))) ∧ (t0.Text ≠ []))) (Or.inl (Or.inl ⟨h10, h11⟩))).symm)) ?_
        refine rs [(1, .q 1 (0)), (69, .b (decide ((((t0.Kind ≠ (3 : Int)) ∧ (t0.Int_ ≠ (0 : Int))) ∨ ((t0.Kind ≠ (5 : Int)) ∧ (t0.Bits ≠ (0 : UInt64)))) ∨ (((t0.Kind = (3 : Int)) ∨ (t0.Kind = (5 : Int))) ∧ (t0.Text ≠ [])))))] [(1, .pure (GToken.cs t0))] rfl rfl rfl ?_
        exact RunW_nil rfl
       ·have qq12 := decide_eq_false (p := (t0.Kind ≠ (3 : Int)) ∧ (t0.Int_ ≠ (0 : Int))) (fun h => h11 h.2)
        refine rn rfl rfl rfl rfl qq12 rfl (u_fa rfl rfl Tryd.underlying24 rfl in_3 (Nat.succ_ne_zero _) rfl rfl (ne_of_lt (n := 0) (Nat.lt_of_lt_of_eq (by decide) (Eq.symm (GToken.len t0))))) ?_
        refine rn rfl rfl rfl rfl qq12 rfl (u_ld rfl rfl Tryd.underlying3 rfl rfl ((Sub.refl _).trans (GToken.sub0 t0))) ?_
        refine rn rfl rfl rfl rfl qq12 rfl (p_ine rfl rfl rfl) ?_
        refine rn rfl rfl rfl rfl qq12 rfl (p_move rfl rfl) ?_
        refine (Classical.em (t0.Kind ≠ (5 : Int))).elim (fun h12 => ?_) (fun h12 => ?_)
        ·refine r_on rfl rfl rfl rfl (decide_eq_true h12) rfl (PureD.opD (u_fa rfl rfl Tryd.underlying24 rfl in_22 (Nat.succ_ne_zero _) rfl rfl (ne_of_lt (n := 0) (Nat.lt_of_lt_of_eq (by decide) (Eq.symm (GToken.len t0)))))) ?_
         refine r_on rfl rfl rfl rfl (decide_eq_true h12) rfl (PureD.opD (u_ld rfl rfl Tryd.underlying22 rfl rfl ((Sub.refl _).trans (GToken.sub3 t0)))) ?_
         refine r_on rfl rfl rfl rfl (decide_eq_true h12) rfl (PureD.opD (p_u64ne (a := t0.Bits) (b := (0 : UInt64)) rfl rfl rfl)) ?_
         refine rn rfl rfl rfl rfl qq12 rfl (p_pkt rfl rfl (decide_eq_true h12) (tb ((and_l (p := t0.Kind ≠ (5 : Int)) (q := t0.Bits ≠ (0 : UInt64)) h12)))) ?_
         refine rp rfl rfl (p_pkf rfl rfl qq12 (tb ((or_l (p := (t0.Kind ≠ (3 : Int)) ∧ (t0.Int_ ≠ (0 : Int))) (q := (t0.Kind ≠ (5 : Int)) ∧ (t0.Bits ≠ (0 : UInt64))) (fun h => h11 h.2))))) ?_
         refine rp rfl rfl (p_move rfl rfl) ?_
         refine (Classical.em (t0.Bits ≠ (0 : UInt64))).elim (fun h13 => ?_) (fun h13 => ?_)
         ·have qq13 := decide_eq_true (p := ((t0.Kind ≠ (3 : Int)) ∧ (t0.Int_ ≠ (0 : Int))) ∨ ((t0.Kind ≠ (5 : Int)) ∧ (t0.Bits ≠ (0 : UInt64)))) (Or.inr ⟨h12, h13⟩)
          iterate 4 (refine r_off rfl rfl rfl rfl qq13 rfl rfl ?_)
          iterate 3 (refine r_off2 rfl rfl rfl rfl rfl rfl ?_)
          iterate 2 (refine r_off rfl rfl rfl rfl qq13 rfl rfl ?_)
          iterate 3 (refine r_off2 rfl rfl rfl rfl rfl rfl ?_)
          refine r_off rfl rfl rfl rfl qq13 rfl rfl ?_
          refine rp rfl rfl (p_pkt rfl rfl qq13 (tb (decide_eq_true (p := (((t0.Kind ≠ (3 : Int)) ∧ (t0.Int_ ≠ (0 : Int))) ∨ ((t0.Kind ≠ (5 : Int)) ∧ (t0.Bits ≠ (0 : UInt64)))) ∨ (((t0.Kind = (3 : Int)) ∨ (t0.Kind = (5 : Int))) ∧ (t0.Text ≠ []))) (Or.inl (Or.inr ⟨h12, h13⟩))).symm)) ?_
          refine rs [(1, .q 1 (0)), (69, .b (decide ((((t0.Kind ≠ (3 : Int)) ∧ (t0.Int_ ≠ (0 : Int))) ∨ ((t0.Kind ≠ (5 : Int)) ∧ (t0.Bits ≠ (0 : UInt64)))) ∨ (((t0.Kind = (3 : Int)) ∨ (t0.Kind = (5 : Int))) ∧ (t0.Text ≠ [])))))] [(1, .pure (GToken.cs t0))] rfl rfl rfl ?_
          exact RunW_nil rfl
         ·have qq14 := decide_eq_false (p := ((t0.Kind ≠ (3 : Int)) ∧ (t0.Int_ ≠ (0 : Int))) ∨ ((t0.Kind ≠ (5 : Int)) ∧ (t0.Bits ≠ (0 : UInt64)))) (not_or.2 ⟨(fun h => h11 h.2), (fun h => h13 h.2)⟩)
          refine rn rfl rfl rfl rfl qq14 rfl (u_fa rfl rfl Tryd.underlying24 rfl in_3 (Nat.succ_ne_zero _) rfl rfl (ne_of_lt (n := 0) (Nat.lt_of_lt_of_eq (by decide) (Eq.symm (GToken.len t0))))) ?_
          refine rn rfl rfl rfl rfl qq14 rfl (u_ld rfl rfl Tryd.underlying3 rfl rfl ((Sub.refl _).trans (GToken.sub0 t0))) ?_
          refine rn rfl rfl rfl rfl qq14 rfl (p_ieq rfl rfl rfl) ?_
          refine rn rfl rfl rfl rfl qq14 rfl (p_move rfl rfl) ?_
          refine (Classical.em (t0.Kind = (3 : Int))).elim (fun h14 => ?_) (fun h14 => ?_)
          ·iterate 3 (refine r_off rfl rfl rfl rfl (decide_eq_true h14) rfl rfl ?_)
           have qq15 := decide_eq_true (p := (t0.Kind = (3 : Int)) ∨ (t0.Kind = (5 : Int))) (Or.inl h14)
           refine rn rfl rfl rfl rfl qq14 rfl (p_pkt rfl rfl (decide_eq_true h14) (tb qq15.symm)) ?_
           refine rn rfl rfl rfl rfl qq14 rfl (p_move rfl rfl) ?_
           refine rn rfl rfl rfl rfl qq15 rfl (u_fa rfl rfl Tryd.underlying24 rfl in_9 (Nat.succ_ne_zero _) rfl rfl (ne_of_lt (n := 0) (Nat.lt_of_lt_of_eq (by decide) (Eq.symm (GToken.len t0))))) ?_
           refine rn rfl rfl rfl rfl qq15 rfl (u_ld rfl rfl Tryd.underlying9 rfl rfl ((Sub.refl _).trans (GToken.sub1 t0))) ?_
           refine rn rfl rfl rfl rfl qq15 rfl (p_sne rfl rfl rfl) ?_
           refine rn rfl rfl rfl rfl qq14 rfl (p_pkt rfl rfl qq15 (tb ((and_l (p := (t0.Kind = (3 : Int)) ∨ (t0.Kind = (5 : Int))) (q := t0.Text ≠ []) (Or.inl h14))))) ?_
           refine rp rfl rfl (p_pkf rfl rfl qq14 (tb ((or_l (p := ((t0.Kind ≠ (3 : Int)) ∧ (t0.Int_ ≠ (0 : Int))) ∨ ((t0.Kind ≠ (5 : Int)) ∧ (t0.Bits ≠ (0 : UInt64)))) (q := ((t0.Kind = (3 : Int)) ∨ (t0.Kind = (5 : Int))) ∧ (t0.Text ≠ [])) (not_or.2 ⟨(fun h => h11 h.2), (fun h => h13 h.2)⟩))))) ?_
           refine rs [(1, .q 1 (0)), (69, .b (decide ((((t0.Kind ≠ (3 : Int)) ∧ (t0.Int_ ≠ (0 : Int))) ∨ ((t0.Kind ≠ (5 : Int)) ∧ (t0.Bits ≠ (0 : UInt64)))) ∨ (((t0.Kind = (3 : Int)) ∨ (t0.Kind = (5 : Int))) ∧ (t0.Text ≠ [])))))] [(1, .pure (GToken.cs t0))] rfl rfl rfl ?_
           exact RunW_nil rfl
          ·refine r_on rfl rfl rfl rfl (decide_eq_false h14) rfl (PureD.opD (u_fa rfl rfl Tryd.underlying24 rfl in_3 (Nat.succ_ne_zero _) rfl rfl (ne_of_lt (n := 0) (Nat.lt_of_lt_of_eq (by decide) (Eq.symm (GToken.len t0)))))) ?_
           refine r_on rfl rfl rfl rfl (decide_eq_false h14) rfl (PureD.opD (u_ld rfl rfl Tryd.underlying3 rfl rfl ((Sub.refl _).trans (GToken.sub0 t0)))) ?_
           refine r_on rfl rfl rfl rfl (decide_eq_false h14) rfl (PureD.opD (p_ieq rfl rfl rfl)) ?_
           refine rn rfl rfl rfl rfl qq14 rfl (p_pkf rfl rfl (decide_eq_false h14) (tb ((or_l (p := t0.Kind = (3 : Int)) (q := t0.Kind = (5 : Int)) h14)))) ?_
           refine rn rfl rfl rfl rfl qq14 rfl (p_move rfl rfl) ?_
           refine (Classical.em (t0.Kind = (5 : Int))).elim (fun h15 => ?_) (fun h15 => ?_)
           ·have qq16 := decide_eq_true (p := (t0.Kind = (3 : Int)) ∨ (t0.Kind = (5 : Int))) (Or.inr h15)
            refine rn rfl rfl rfl rfl qq16 rfl (u_fa rfl rfl Tryd.underlying24 rfl in_9 (Nat.succ_ne_zero _) rfl rfl (ne_of_lt (n := 0) (Nat.lt_of_lt_of_eq (by decide) (Eq.symm (GToken.len t0))))) ?_
            refine rn rfl rfl rfl rfl qq16 rfl (u_ld rfl rfl Tryd.underlying9 rfl rfl ((Sub.refl _).trans (GToken.sub1 t0))) ?_
            refine rn rfl rfl rfl rfl qq16 rfl (p_sne rfl rfl rfl) ?_
            refine rn rfl rfl rfl rfl qq14 rfl (p_pkt rfl rfl qq16 (tb ((and_l (p := (t0.Kind = (3 : Int)) ∨ (t0.Kind = (5 : Int))) (q := t0.Text ≠ []) (Or.inr h15))))) ?_
            refine rp rfl rfl (p_pkf rfl rfl qq14 (tb ((or_l (p := ((t0.Kind ≠ (3 : Int)) ∧ (t0.Int_ ≠ (0 : Int))) ∨ ((t0.Kind ≠ (5 : Int)) ∧ (t0.Bits ≠ (0 : UInt64)))) (q := ((t0.Kind = (3 : Int)) ∨ (t0.Kind = (5 : Int))) ∧ (t0.Text ≠ [])) (not_or.2 ⟨(fun h => h11 h.2), (fun h => h13 h.2)⟩))))) ?_
            refine rs [(1, .q 1 (0)), (69, .b (decide ((((t0.Kind ≠ (3 : Int)) ∧ (t0.Int_ ≠ (0 : Int))) ∨ ((t0.Kind ≠ (5 : Int)) ∧ (t0.Bits ≠ (0 : UInt64)))) ∨ (((t0.Kind = (3 : Int)) ∨ (t0.Kind = (5 : Int))) ∧ (t0.Text ≠ [])))))] [(1, .pure (GToken.cs t0))] rfl rfl rfl ?_
            exact RunW_nil rfl
           ·have qq17 := decide_eq_false (p := (t0.Kind = (3 : Int)) ∨ (t0.Kind = (5 : Int))) (not_or.2 ⟨h14, h15⟩)
            iterate 3 (refine r_off rfl rfl rfl rfl qq17 rfl rfl ?_)
            refine rn rfl rfl rfl rfl qq14 rfl (p_pkf rfl rfl qq17 (tb (decide_eq_false (p := ((t0.Kind = (3 : Int)) ∨ (t0.Kind = (5 : Int))) ∧ (t0.Text ≠ [])) (fun x => (not_or.2 ⟨h14, h15⟩) x.1)).symm)) ?_
            refine rp rfl rfl (p_pkf rfl rfl qq14 (tb ((or_l (p := ((t0.Kind ≠ (3 : Int)) ∧ (t0.Int_ ≠ (0 : Int))) ∨ ((t0.Kind ≠ (5 : Int)) ∧ (t0.Bits ≠ (0 : UInt64)))) (q := ((t0.Kind = (3 : Int)) ∨ (t0.Kind = (5 : Int))) ∧ (t0.Text ≠ [])) (not_or.2 ⟨(fun h => h11 h.2), (fun h => h13 h.2)⟩))))) ?_
            refine rs [(1, .q 1 (0)), (69, .b (decide ((((t0.Kind ≠ (3 : Int)) ∧ (t0.Int_ ≠ (0 : Int))) ∨ ((t0.Kind ≠ (5 : Int)) ∧ (t0.Bits ≠ (0 : UInt64)))) ∨ (((t0.Kind = (3 : Int)) ∨ (t0.Kind = (5 : Int))) ∧ (t0.Text ≠ [])))))] [(1, .pure (GToken.cs t0))] rfl rfl rfl ?_
            exact RunW_nil rfl
        ·iterate 3 (refine r_off rfl rfl rfl rfl (decide_eq_false h12) rfl rfl ?_)
         refine rn rfl rfl rfl rfl qq12 rfl (p_pkf rfl rfl (decide_eq_false h12) (tb (decide_eq_false (p := (t0.Kind ≠ (5 : Int)) ∧ (t0.Bits ≠ (0 : UInt64))) (fun x => h12 x.1)).symm)) ?_
         refine rp rfl rfl (p_pkf rfl rfl qq12 (tb ((or_l (p := (t0.Kind ≠ (3 : Int)) ∧ (t0.Int_ ≠ (0 : Int))) (q := (t0.Kind ≠ (5 : Int)) ∧ (t0.Bits ≠ (0 : UInt64))) (fun h => h11 h.2))))) ?_
         refine rp rfl rfl (p_move rfl rfl) ?_
         have qq18 := decide_eq_false (p := ((t0.Kind ≠ (3 : Int)) ∧ (t0.Int_ ≠ (0 : Int))) ∨ ((t0.Kind ≠ (5 : Int)) ∧ (t0.Bits ≠ (0 : UInt64)))) (not_or.2 ⟨(fun h => h11 h.2), (fun h => h12 h.1)⟩)
         refine rn rfl rfl rfl rfl qq18 rfl (u_fa rfl rfl Tryd.underlying24 rfl in_3 (Nat.succ_ne_zero _) rfl rfl (ne_of_lt (n := 0) (Nat.lt_of_lt_of_eq (by decide) (Eq.symm (GToken.len t0))))) ?_
         refine rn rfl rfl rfl rfl qq18 rfl (u_ld rfl rfl Tryd.underlying3 rfl rfl ((Sub.refl _).trans (GToken.sub0 t0))) ?_
         refine rn rfl rfl rfl rfl qq18 rfl (p_ieq rfl rfl rfl) ?_
         refine rn rfl rfl rfl rfl qq18 rfl (p_move rfl rfl) ?_
         refine (Classical.em (t0.Kind = (3 : Int))).elim (fun h16 => ?_) (fun h16 => ?_)
         ·iterate 3 (refine r_off rfl rfl rfl rfl (decide_eq_true h16) rfl rfl ?_)
          have qq19 := decide_eq_true (p := (t0.Kind = (3 : Int)) ∨ (t0.Kind = (5 : Int))) (Or.inl h16)
          refine rn rfl rfl rfl rfl qq18 rfl (p_pkt rfl rfl (decide_eq_true h16) (tb qq19.symm)) ?_
          refine rn rfl rfl rfl rfl qq18 rfl (p_move rfl rfl) ?_
          refine rn rfl rfl rfl rfl qq19 rfl (u_fa rfl rfl Tryd.underlying24 rfl in_9 (Nat.succ_ne_zero _) rfl rfl (ne_of_lt (n := 0) (Nat.lt_of_lt_of_eq (by decide) (Eq.symm (GToken.len t0))))) ?_
          refine rn rfl rfl rfl rfl qq19 rfl (u_ld rfl rfl Tryd.underlying9 rfl rfl ((Sub.refl _).trans (GToken.sub1 t0))) ?_
          refine rn rfl rfl rfl rfl qq19 rfl (p_sne rfl rfl rfl) ?_
          refine rn rfl rfl rfl rfl qq18 rfl (p_pkt rfl rfl qq19 (tb ((and_l (p := (t0.Kind = (3 : Int)) ∨ (t0.Kind = (5 : Int))) (q := t0.Text ≠ []) (Or.inl h16))))) ?_
          refine rp rfl rfl (p_pkf rfl rfl qq18 (tb ((or_l (p := ((t0.Kind ≠ (3 : Int)) ∧ (t0.Int_ ≠ (0 : Int))) ∨ ((t0.Kind ≠ (5 : Int)) ∧ (t0.Bits ≠ (0 : UInt64)))) (q := ((t0.Kind = (3 : Int)) ∨ (t0.Kind = (5 : Int))) ∧ (t0.Text ≠ [])) (not_or.2 ⟨(fun h => h11 h.2), (fun h => h12 h.1)⟩))))) ?_
          refine rs [(1, .q 1 (0)), (69, .b (decide ((((t0.Kind ≠ (3 : Int)) ∧ (t0.Int_ ≠ (0 : Int))) ∨ ((t0.Kind ≠ (5 : Int)) ∧ (t0.Bits ≠ (0 : UInt64)))) ∨ (((t0.Kind = (3 : Int)) ∨ (t0.Kind = (5 : Int))) ∧ (t0.Text ≠ [])))))] [(1, .pure (GToken.cs t0))] rfl rfl rfl ?_
          exact RunW_nil rfl
         ·refine r_on rfl rfl rfl rfl (decide_eq_false h16) rfl (PureD.opD (u_fa rfl rfl Tryd.underlying24 rfl in_3 (Nat.succ_ne_zero _) rfl rfl (ne_of_lt (n := 0) (Nat.lt_of_lt_of_eq (by decide) (Eq.symm (GToken.len t0)))))) ?_
          refine r_on rfl rfl rfl rfl (decide_eq_false h16) rfl (PureD.opD (u_ld rfl rfl Tryd.underlying3 rfl rfl ((Sub.refl _).trans (GToken.sub0 t0)))) ?_
          refine r_on rfl rfl rfl rfl (decide_eq_false h16) rfl (PureD.opD (p_ieq rfl rfl rfl)) ?_
          refine rn rfl rfl rfl rfl qq18 rfl (p_pkf rfl rfl (decide_eq_false h16) (tb ((or_l (p := t0.Kind = (3 : Int)) (q := t0.Kind = (5 : Int)) h16)))) ?_
          refine rn rfl rfl rfl rfl qq18 rfl (p_move rfl rfl) ?_
          refine (Classical.em (t0.Kind = (5 : Int))).elim (fun h17 => ?_) (fun h17 => ?_)
          ·have qq20 := decide_eq_true (p := (t0.Kind = (3 : Int)) ∨ (t0.Kind = (5 : Int))) (Or.inr h17)
           refine rn rfl rfl rfl rfl qq20 rfl (u_fa rfl rfl Tryd.underlying24 rfl in_9 (Nat.succ_ne_zero _) rfl rfl (ne_of_lt (n := 0) (Nat.lt_of_lt_of_eq (by decide) (Eq.symm (GToken.len t0))))) ?_
           refine rn rfl rfl rfl rfl qq20 rfl (u_ld rfl rfl Tryd.underlying9 rfl rfl ((Sub.refl _).trans (GToken.sub1 t0))) ?_
           refine rn rfl rfl rfl rfl qq20 rfl (p_sne rfl rfl rfl) ?_
           refine rn rfl rfl rfl rfl qq18 rfl (p_pkt rfl rfl qq20 (tb ((and_l (p := (t0.Kind = (3 : Int)) ∨ (t0.Kind = (5 : Int))) (q := t0.Text ≠ []) (Or.inr h17))))) ?_
           refine rp rfl rfl (p_pkf rfl rfl qq18 (tb ((or_l (p := ((t0.Kind ≠ (3 : Int)) ∧ (t0.Int_ ≠ (0 : Int))) ∨ ((t0.Kind ≠ (5 : Int)) ∧ (t0.Bits ≠ (0 : UInt64)))) (q := ((t0.Kind = (3 : Int)) ∨ (t0.Kind = (5 : Int))) ∧ (t0.Text ≠ [])) (not_or.2 ⟨(fun h => h11 h.2), (fun h => h12 h.1)⟩))))) ?_
           refine rs [(1, .q 1 (0)), (69, .b (decide ((((t0.Kind ≠ (3 : Int)) ∧ (t0.Int_ ≠ (0 : Int))) ∨ ((t0.Kind ≠ (5 : Int)) ∧ (t0.Bits ≠ (0 : UInt64)))) ∨ (((t0.Kind = (3 : Int)) ∨ (t0.Kind = (5 : Int))) ∧ (t0.Text ≠ [])))))] [(1, .pure (GToken.cs t0))] rfl rfl rfl ?_
           exact RunW_nil rfl
          ·have qq21 := decide_eq_false (p := (t0.Kind = (3 : Int)) ∨ (t0.Kind = (5 : Int))) (not_or.2 ⟨h16, h17⟩)
           iterate 3 (refine r_off rfl rfl rfl rfl qq21 rfl rfl ?_)
           refine rn rfl rfl rfl rfl qq18 rfl (p_pkf rfl rfl qq21 (tb (decide_eq_false (p := ((t0.Kind = (3 : Int)) ∨ (t0.Kind = (5 : Int))) ∧ (t0.Text ≠ [])) (fun x => (not_or.2 ⟨h16, h17⟩) x.1)).symm)) ?_
           refine rp rfl rfl (p_pkf rfl rfl qq18 (tb ((or_l (p := ((t0.Kind ≠ (3 : Int)) ∧ (t0.Int_ ≠ (0 : Int))) ∨ ((t0.Kind ≠ (5 : Int)) ∧ (t0.Bits ≠ (0 : UInt64)))) (q := ((t0.Kind = (3 : Int)) ∨ (t0.Kind = (5 : Int))) ∧ (t0.Text ≠ [])) (not_or.2 ⟨(fun h => h11 h.2), (fun h => h12 h.1)⟩))))) ?_
           refine rs [(1, .q 1 (0)), (69, .b (decide ((((t0.Kind ≠ (3 : Int)) ∧ (t0.Int_ ≠ (0 : Int))) ∨ ((t0.Kind ≠ (5 : Int)) ∧ (t0.Bits ≠ (0 : UInt64)))) ∨ (((t0.Kind = (3 : Int)) ∨ (t0.Kind = (5 : Int))) ∧ (t0.Text ≠ [])))))] [(1, .pure (GToken.cs t0))] rfl rfl rfl ?_
           exact RunW_nil rfl
      ·iterate 3 (refine r_off rfl rfl rfl rfl (decide_eq_false h10) rfl rfl ?_)
       refine rp rfl rfl (p_pkf rfl rfl (decide_eq_false h10) (tb (decide_eq_false (p := (t0.Kind ≠ (3 : Int)) ∧ (t0.Int_ ≠ (0 : Int))) (fun x => h10 x.1)).symm)) ?_
       refine rp rfl rfl (p_move rfl rfl) ?_
       have qq22 := decide_eq_false (p := (t0.Kind ≠ (3 : Int)) ∧ (t0.Int_ ≠ (0 : Int))) (fun h => h10 h.1)
       refine rn rfl rfl rfl rfl qq22 rfl (u_fa rfl rfl Tryd.underlying24 rfl in_3 (Nat.succ_ne_zero _) rfl rfl (ne_of_lt (n := 0) (Nat.lt_of_lt_of_eq (by decide) (Eq.symm (GToken.len t0))))) ?_
       refine rn rfl rfl rfl rfl qq22 rfl (u_ld rfl rfl Tryd.underlying3 rfl rfl ((Sub.refl _).trans (GToken.sub0 t0))) ?_
       refine rn rfl rfl rfl rfl qq22 rfl (p_ine rfl rfl rfl) ?_
       refine rn rfl rfl rfl rfl qq22 rfl (p_move rfl rfl) ?_
       refine (Classical.em (t0.Kind ≠ (5 : Int))).elim (fun h18 => ?_) (fun h18 => ?_)
       ·refine r_on rfl rfl rfl rfl (decide_eq_true h18) rfl (PureD.opD (u_fa rfl rfl Tryd.underlying24 rfl in_22 (Nat.succ_ne_zero _) rfl rfl (ne_of_lt (n := 0) (Nat.lt_of_lt_of_eq (by decide) (Eq.symm (GToken.len t0)))))) ?_
        refine r_on rfl rfl rfl rfl (decide_eq_true h18) rfl (PureD.opD (u_ld rfl rfl Tryd.underlying22 rfl rfl ((Sub.refl _).trans (GToken.sub3 t0)))) ?_
        refine r_on rfl rfl rfl rfl (decide_eq_true h18) rfl (PureD.opD (p_u64ne (a := t0.Bits) (b := (0 : UInt64)) rfl rfl rfl)) ?_
        refine rn rfl rfl rfl rfl qq22 rfl (p_pkt rfl rfl (decide_eq_true h18) (tb ((and_l (p := t0.Kind ≠ (5 : Int)) (q := t0.Bits ≠ (0 : UInt64)) h18)))) ?_
        refine rp rfl rfl (p_pkf rfl rfl qq22 (tb ((or_l (p := (t0.Kind ≠ (3 : Int)) ∧ (t0.Int_ ≠ (0 : Int))) (q := (t0.Kind ≠ (5 : Int)) ∧ (t0.Bits ≠ (0 : UInt64))) (fun h => h10 h.1))))) ?_
        refine rp rfl rfl (p_move rfl rfl) ?_
        refine (Classical.em (t0.Bits ≠ (0 : UInt64))).elim (fun h19 => ?_) (fun h19 => ?_)
        ·have qq23 := decide_eq_true (p := ((t0.Kind ≠ (3 : Int)) ∧ (t0.Int_ ≠ (0 : Int))) ∨ ((t0.Kind ≠ (5 : Int)) ∧ (t0.Bits ≠ (0 : UInt64)))) (Or.inr ⟨h18, h19⟩)
         iterate 4 (refine r_off rfl rfl rfl rfl qq23 rfl rfl ?_)
         iterate 3 (refine r_off2 rfl rfl rfl rfl rfl rfl ?_)
         iterate 2 (refine r_off rfl rfl rfl rfl qq23 rfl rfl ?_)
         iterate 3 (refine r_off2 rfl rfl rfl rfl rfl rfl ?_)
         refine r_off rfl rfl rfl rfl qq23 rfl rfl ?_
         refine rp rfl rfl (p_pkt rfl rfl qq23 (tb (decide_eq_true (p := (((t0.Kind ≠ (3 : Int)) ∧ (t0.Int_ ≠ (0 : Int))) ∨ ((t0.Kind ≠ (5 : Int)) ∧ (t0.Bits ≠ (0 : UInt64)))) ∨ (((t0.Kind = (3 : Int)) ∨ (t0.Kind = (5 : Int))) ∧ (t0.Text ≠ []))) (Or.inl (Or.inr ⟨h18, h19⟩))).symm)) ?_
         refine rs [(1, .q 1 (0)), (69, .b (decide ((((t0.Kind ≠ (3 : Int)) ∧ (t0.Int_ ≠ (0 : Int))) ∨ ((t0.Kind ≠ (5 : Int)) ∧ (t0.Bits ≠ (0 : UInt64)))) ∨ (((t0.Kind = (3 : Int)) ∨ (t0.Kind = (5 : Int))) ∧ (t0.Text ≠ [])))))] [(1, .pure (GToken.cs t0))] rfl rfl rfl ?_
         exact RunW_nil rfl
        ·have qq24 := decide_eq_false (p := ((t0.Kind ≠ (3 : Int)) ∧ (t0.Int_ ≠ (0 : Int))) ∨ ((t0.Kind ≠ (5 : Int)) ∧ (t0.Bits ≠ (0 : UInt64)))) (not_or.2 ⟨(fun h => h10 h.1), (fun h => h19 h.2)⟩)
         refine rn rfl rfl rfl rfl qq24 rfl (u_fa rfl rfl Tryd.underlying24 rfl in_3 (Nat.succ_ne_zero _) rfl rfl (ne_of_lt (n := 0) (Nat.lt_of_lt_of_eq (by decide) (Eq.symm (GToken.len t0))))) ?_
         refine rn rfl rfl rfl rfl qq24 rfl (u_ld rfl rfl Tryd.underlying3 rfl rfl ((Sub.refl _).trans (GToken.sub0 t0))) ?_
         refine rn rfl rfl rfl rfl qq24 rfl (p_ieq rfl rfl rfl) ?_
         refine rn rfl rfl rfl rfl qq24 rfl (p_move rfl rfl) ?_
         refine (Classical.em (t0.Kind = (3 : Int))).elim (fun h20 => ?_) (fun h20 => ?_)
         ·iterate 3 (refine r_off rfl rfl rfl rfl (decide_eq_true h20) rfl rfl ?_)
          have qq25 := decide_eq_true (p := (t0.Kind = (3 : Int)) ∨ (t0.Kind = (5 : Int))) (Or.inl h20)
          refine rn rfl rfl rfl rfl qq24 rfl (p_pkt rfl rfl (decide_eq_true h20) (tb qq25.symm)) ?_
          refine rn rfl rfl rfl rfl qq24 rfl (p_move rfl rfl) ?_
          refine rn rfl rfl rfl rfl qq25 rfl (u_fa rfl rfl Tryd.underlying24 rfl in_9 (Nat.succ_ne_zero _) rfl rfl (ne_of_lt (n := 0) (Nat.lt_of_lt_of_eq (by decide) (Eq.symm (GToken.len t0))))) ?_
          refine rn rfl rfl rfl rfl qq25 rfl (u_ld rfl rfl Tryd.underlying9 rfl rfl ((Sub.refl _).trans (GToken.sub1 t0))) ?_
          refine rn rfl rfl rfl rfl qq25 rfl (p_sne rfl rfl rfl) ?_
          refine rn rfl rfl rfl rfl qq24 rfl (p_pkt rfl rfl qq25 (tb ((and_l (p := (t0.Kind = (3 : Int)) ∨ (t0.Kind = (5 : Int))) (q := t0.Text ≠ []) (Or.inl h20))))) ?_
          refine rp rfl rfl (p_pkf rfl rfl qq24 (tb ((or_l (p := ((t0.Kind ≠ (3 : Int)) ∧ (t0.Int_ ≠ (0 : Int))) ∨ ((t0.Kind ≠ (5 : Int)) ∧ (t0.Bits ≠ (0 : UInt64)))) (q := ((t0.Kind = (3 : Int)) ∨ (t0.Kind = (5 : Int))) ∧ (t0.Text ≠ [])) (not_or.2 ⟨(fun h => h10 h.1), (fun h => h19 h.2)⟩))))) ?_
          refine rs [(1, .q 1 (0)), (69, .b (decide ((((t0.Kind ≠ (3 : Int)) ∧ (t0.Int_ ≠ (0 : Int))) ∨ ((t0.Kind ≠ (5 : Int)) ∧ (t0.Bits ≠ (0 : UInt64)))) ∨ (((t0.Kind = (3 : Int)) ∨ (t0.Kind = (5 : Int))) ∧ (t0.Text ≠ [])))))] [(1, .pure (GToken.cs t0))] rfl rfl rfl ?_
          exact RunW_nil rfl
         ·refine r_on rfl rfl rfl rfl (decide_eq_false h20) rfl (PureD.opD (u_fa rfl rfl Tryd.underlying24 rfl in_3 (Nat.succ_ne_zero _) rfl rfl (ne_of_lt (n := 0) (Nat.lt_of_lt_of_eq (by decide) (Eq.symm (GToken.len t0)))))) ?_
          refine r_on rfl rfl rfl rfl (decide_eq_false h20) rfl (PureD.opD (u_ld rfl rfl Tryd.underlying3 rfl rfl ((Sub.refl _).trans (GToken.sub0 t0)))) ?_
          refine r_on rfl rfl rfl rfl (decide_eq_false h20) rfl (PureD.opD (p_ieq rfl rfl rfl)) ?_
          refine rn rfl rfl rfl rfl qq24 rfl (p_pkf rfl rfl (decide_eq_false h20) (tb ((or_l (p := t0.Kind = (3 : Int)) (q := t0.Kind = (5 : Int)) h20)))) ?_
          refine rn rfl rfl rfl rfl qq24 rfl (p_move rfl rfl) ?_
          refine (Classical.em (t0.Kind = (5 : Int))).elim (fun h21 => ?_) (fun h21 => ?_)
          ·have qq26 := decide_eq_true (p := (t0.Kind = (3 : Int)) ∨ (t0.Kind = (5 : Int))) (Or.inr h21)
           refine rn rfl rfl rfl rfl qq26 rfl (u_fa rfl rfl Tryd.underlying24 rfl in_9 (Nat.succ_ne_zero _) rfl rfl (ne_of_lt (n := 0) (Nat.lt_of_lt_of_eq (by decide) (Eq.symm (GToken.len t0))))) ?_
           refine rn rfl rfl rfl rfl qq26 rfl (u_ld rfl rfl Tryd.underlying9 rfl rfl ((Sub.refl _).trans (GToken.sub1 t0))) ?_
           refine rn rfl rfl rfl rfl qq26 rfl (p_sne rfl rfl rfl) ?_
           refine rn rfl rfl rfl rfl qq24 rfl (p_pkt rfl rfl qq26 (tb ((and_l (p := (t0.Kind = (3 : Int)) ∨ (t0.Kind = (5 : Int))) (q := t0.Text ≠ []) (Or.inr h21))))) ?_
           refine rp rfl rfl (p_pkf rfl rfl qq24 (tb ((or_l (p := ((t0.Kind ≠ (3 : Int)) ∧ (t0.Int_ ≠ (0 : Int))) ∨ ((t0.Kind ≠ (5 : Int)) ∧ (t0.Bits ≠ (0 : UInt64)))) (q := ((t0.Kind = (3 : Int)) ∨ (t0.Kind = (5 : Int))) ∧ (t0.Text ≠ [])) (not_or.2 ⟨(fun h => h10 h.1), (fun h => h19 h.2)⟩))))) ?_
           refine rs [(1, .q 1 (0)), (69, .b (decide ((((t0.Kind ≠ (3 : Int)) ∧ (t0.Int_ ≠ (0 : Int))) ∨ ((t0.Kind ≠ (5 : Int)) ∧ (t0.Bits ≠ (0 : UInt64)))) ∨ (((t0.Kind = (3 : Int)) ∨ (t0.Kind = (5 : Int))) ∧ (t0.Text ≠ [])))))] [(1, .pure (GToken.cs t0))] rfl rfl rfl ?_
           exact RunW_nil rfl
          ·have qq27 := decide_eq_false (p := (t0.Kind = (3 : Int)) ∨ (t0.Kind = (5 : Int))) (not_or.2 ⟨h20, h21⟩)
           iterate 3 (refine r_off rfl rfl rfl rfl qq27 rfl rfl ?_)
           refine rn rfl rfl rfl rfl qq24 rfl (p_pkf rfl rfl qq27 (tb (decide_eq_false (p := ((t0.Kind = (3 : Int)) ∨ (t0.Kind = (5 : Int))) ∧ (t0.Text ≠ [])) (fun x => (not_or.2 ⟨h20, h21⟩) x.1)).symm)) ?_
           refine rp rfl rfl (p_pkf rfl rfl qq24 (tb ((or_l (p := ((t0.Kind ≠ (3 : Int)) ∧ (t0.Int_ ≠ (0 : Int))) ∨ ((t0.Kind ≠ (5 : Int)) ∧ (t0.Bits ≠ (0 : UInt64)))) (q := ((t0.Kind = (3 : Int)) ∨ (t0.Kind = (5 : Int))) ∧ (t0.Text ≠ [])) (not_or.2 ⟨(fun h => h10 h.1), (fun h => h19 h.2)⟩))))) ?_
           refine rs [(1, .q 1 (0)), (69, .b (decide ((((t0.Kind ≠ (3 : Int)) ∧ (t0.Int_ ≠ (0 : Int))) ∨ ((t0.Kind ≠ (5 : Int)) ∧ (t0.Bits ≠ (0 : UInt64)))) ∨ (((t0.Kind = (3 : Int)) ∨ (t0.Kind = (5 : Int))) ∧ (t0.Text ≠ [])))))] [(1, .pure (GToken.cs t0))] rfl rfl rfl ?_
           exact RunW_nil rfl
       ·iterate 3 (refine r_off rfl rfl rfl rfl (decide_eq_false h18) rfl rfl ?_)
        refine rn rfl rfl rfl rfl qq22 rfl (p_pkf rfl rfl (decide_eq_false h18) (tb (decide_eq_false (p := (t0.Kind ≠ (5 : Int)) ∧ (t0.Bits ≠ (0 : UInt64))) (fun x => h18 x.1)).symm)) ?_
        refine rp rfl rfl (p_pkf rfl rfl qq22 (tb ((or_l (p := (t0.Kind ≠ (3 : Int)) ∧ (t0.Int_ ≠ (0 : Int))) (q := (t0.Kind ≠ (5 : Int)) ∧ (t0.Bits ≠ (0 : UInt64))) (fun h => h10 h.1))))) ?_
        refine rp rfl rfl (p_move rfl rfl) ?_
        have qq28 := decide_eq_false (p := ((t0.Kind ≠ (3 : Int)) ∧ (t0.Int_ ≠ (0 : Int))) ∨ ((t0.Kind ≠ (5 : Int)) ∧ (t0.Bits ≠ (0 : UInt64)))) (not_or.2 ⟨(fun h => h10 h.1), (fun h => h18 h.1)⟩)
        refine rn rfl rfl rfl rfl qq28 rfl (u_fa rfl rfl Tryd.underlying24 rfl in_3 (Nat.succ_ne_zero _) rfl rfl (ne_of_lt (n := 0) (Nat.lt_of_lt_of_eq (by decide) (Eq.symm (GToken.len t0))))) ?_
        refine rn rfl rfl rfl rfl qq28 rfl (u_ld rfl rfl Tryd.underlying3 rfl rfl ((Sub.refl _).trans (GToken.sub0 t0))) ?_
        refine rn rfl rfl rfl rfl qq28 rfl (p_ieq rfl rfl rfl) ?_
        refine rn rfl rfl rfl rfl qq28 rfl (p_move rfl rfl) ?_
        refine (Classical.em (t0.Kind = (3 : Int))).elim (fun h22 => ?_) (fun h22 => ?_)
        ·iterate 3 (refine r_off rfl rfl rfl rfl (decide_eq_true h22) rfl rfl ?_)
         have qq29 := decide_eq_true (p := (t0.Kind = (3 : Int)) ∨ (t0.Kind = (5 : Int))) (Or.inl h22)
         refine rn rfl rfl rfl rfl qq28 rfl (p_pkt rfl rfl (decide_eq_true h22) (tb qq29.symm)) ?_
         refine rn rfl rfl rfl rfl qq28 rfl (p_move rfl rfl) ?_
         refine rn rfl rfl rfl rfl qq29 rfl (u_fa rfl rfl Tryd.underlying24 rfl in_9 (Nat.succ_ne_zero _) rfl rfl (ne_of_lt (n := 0) (Nat.lt_of_lt_of_eq (by decide) (Eq.symm (GToken.len t0))))) ?_
         refine rn rfl rfl rfl rfl qq29 rfl (u_ld rfl rfl Tryd.underlying9 rfl rfl ((Sub.refl _).trans (GToken.sub1 t0))) ?_
         refine rn rfl rfl rfl rfl qq29 rfl (p_sne rfl rfl rfl) ?_
         refine rn rfl rfl rfl rfl qq28 rfl (p_pkt rfl rfl qq29 (tb ((and_l (p := (t0.Kind = (3 : Int)) ∨ (t0.Kind = (5 : Int))) (q := t0.Text ≠ []) (Or.inl h22))))) ?_
         refine rp rfl rfl (p_pkf rfl rfl qq28 (tb ((or_l (p := ((t0.Kind ≠ (3 : Int)) ∧ (t0.Int_ ≠ (0 : Int))) ∨ ((t0.Kind ≠ (5 : Int)) ∧ (t0.Bits ≠ (0 : UInt64)))) (q := ((t0.Kind = (3 : Int)) ∨ (t0.Kind = (5 : Int))) ∧ (t0.Text ≠ [])) (not_or.2 ⟨(fun h => h10 h.1), (fun h => h18 h.1)⟩))))) ?_
         refine rs [(1, .q 1 (0)), (69, .b (decide ((((t0.Kind ≠ (3 : Int)) ∧ (t0.Int_ ≠ (0 : Int))) ∨ ((t0.Kind ≠ (5 : Int)) ∧ (t0.Bits ≠ (0 : UInt64)))) ∨ (((t0.Kind = (3 : Int)) ∨ (t0.Kind = (5 : Int))) ∧ (t0.Text ≠ [])))))] [(1, .pure (GToken.cs t0))] rfl rfl rfl ?_
         exact RunW_nil rfl
        ·refine r_on rfl rfl rfl rfl (decide_eq_false h22) rfl (PureD.opD (u_fa rfl rfl Tryd.underlying24 rfl in_3 (Nat.succ_ne_zero _) rfl rfl (ne_of_lt (n := 0) (Nat.lt_of_lt_of_eq (by decide) (Eq.symm (GToken.len t0)))))) ?_
         refine r_on rfl rfl rfl rfl (decide_eq_false h22) rfl (PureD.opD (u_ld rfl rfl Tryd.underlying3 rfl rfl ((Sub.refl _).trans (GToken.sub0 t0)))) ?_
         refine r_on rfl rfl rfl rfl (decide_eq_false h22) rfl (PureD.opD (p_ieq rfl rfl rfl)) ?_
         refine rn rfl rfl rfl rfl qq28 rfl (p_pkf rfl rfl (decide_eq_false h22) (tb ((or_l (p := t0.Kind = (3 : Int)) (q := t0.Kind = (5 : Int)) h22)))) ?_
         refine rn rfl rfl rfl rfl qq28 rfl (p_move rfl rfl) ?_
         refine (Classical.em (t0.Kind = (5 : Int))).elim (fun h23 => ?_) (fun h23 => ?_)
         ·have qq30 := decide_eq_true (p := (t0.Kind = (3 : Int)) ∨ (t0.Kind = (5 : Int))) (Or.inr h23)
          refine rn rfl rfl rfl rfl qq30 rfl (u_fa rfl rfl Tryd.underlying24 rfl in_9 (Nat.succ_ne_zero _) rfl rfl (ne_of_lt (n := 0) (Nat.lt_of_lt_of_eq (by decide) (Eq.symm (GToken.len t0))))) ?_
          refine rn rfl rfl rfl rfl qq30 rfl (u_ld rfl rfl Tryd.underlying9 rfl rfl ((Sub.refl _).trans (GToken.sub1 t0))) ?_
          refine rn rfl rfl rfl rfl qq30 rfl (p_sne rfl rfl rfl) ?_
          refine rn rfl rfl rfl rfl qq28 rfl (p_pkt rfl rfl qq30 (tb ((and_l (p := (t0.Kind = (3 : Int)) ∨ (t0.Kind = (5 : Int))) (q := t0.Text ≠ []) (Or.inr h23))))) ?_
          refine rp rfl rfl (p_pkf rfl rfl qq28 (tb ((or_l (p := ((t0.Kind ≠ (3 : Int)) ∧ (t0.Int_ ≠ (0 : Int))) ∨ ((t0.Kind ≠ (5 : Int)) ∧ (t0.Bits ≠ (0 : UInt64)))) (q := ((t0.Kind = (3 : Int)) ∨ (t0.Kind = (5 : Int))) ∧ (t0.Text ≠ [])) (not_or.2 ⟨(fun h => h10 h.1), (fun h => h18 h.1)⟩))))) ?_
          refine rs [(1, .q 1 (0)), (69, .b (decide ((((t0.Kind ≠ (3 : Int)) ∧ (t0.Int_ ≠ (0 : Int))) ∨ ((t0.Kind ≠ (5 : Int)) ∧ (t0.Bits ≠ (0 : UInt64)))) ∨ (((t0.Kind = (3 : Int)) ∨ (t0.Kind = (5 : Int))) ∧ (t0.Text ≠ [])))))] [(1, .pure (GToken.cs t0))] rfl rfl rfl ?_
          exact RunW_nil rfl
         ·have qq31 := decide_eq_false (p := (t0.Kind = (3 : Int)) ∨ (t0.Kind = (5 : Int))) (not_or.2 ⟨h22, h23⟩)
          iterate 3 (refine r_off rfl rfl rfl rfl qq31 rfl rfl ?_)
          refine rn rfl rfl rfl rfl qq28 rfl (p_pkf rfl rfl qq31 (tb (decide_eq_false (p := ((t0.Kind = (3 : Int)) ∨ (t0.Kind = (5 : Int))) ∧ (t0.Text ≠ [])) (fun x => (not_or.2 ⟨h22, h23⟩) x.1)).symm)) ?_
          refine rp rfl rfl (p_pkf rfl rfl qq28 (tb ((or_l (p := ((t0.Kind ≠ (3 : Int)) ∧ (t0.Int_ ≠ (0 : Int))) ∨ ((t0.Kind ≠ (5 : Int)) ∧ (t0.Bits ≠ (0 : UInt64)))) (q := ((t0.Kind = (3 : Int)) ∨ (t0.Kind = (5 : Int))) ∧ (t0.Text ≠ [])) (not_or.2 ⟨(fun h => h10 h.1), (fun h => h18 h.1)⟩))))) ?_
          refine rs [(1, .q 1 (0)), (69, .b (decide ((((t0.Kind ≠ (3 : Int)) ∧ (t0.Int_ ≠ (0 : Int))) ∨ ((t0.Kind ≠ (5 : Int)) ∧ (t0.Bits ≠ (0 : UInt64)))) ∨ (((t0.Kind = (3 : Int)) ∨ (t0.Kind = (5 : Int))) ∧ (t0.Text ≠ [])))))] [(1, .pure (GToken.cs t0))] rfl rfl rfl ?_
          exact RunW_nil rfl
     ·refine gen1 (fun t69'2 => (⟨[(1, .q 1 (0)), (69, .b t69'2)], [(1, .pure (GToken.cs t0))], 112⟩ : TS)) H ?_
      intro t69'2 H
      refine AW2_cond rfl (fun h24 => ?_) (fun h24 => ?_)
      ·replace H := ite_then h24 H
       refine sg [0] rfl ?_
       refine rp rfl rfl (p_asg rfl rfl) ?_
       refine rz [(2, .i (3 : Int))] [] rfl rfl rfl ?_
       refine AW2_ret ?_
       have hz := some_elim H
       subst hz
       exact ⟨⟨res_tmp (.same _), trivial⟩, trivial⟩
      ·replace H := ite_else (ne_true h24) H
       refine as2 [(1, .q 1 (0))] [(1, .pure (GToken.cs t0))] rfl rfl rfl ?_
       refine AW2_skip ?_
       refine sg [0] rfl ?_
       refine rp rfl rfl (p_asg rfl rfl) ?_
       refine rz [(1, .q 1 (0)), (3, .b true)] [(1, .pure (GToken.cs t0))] rfl rfl rfl ?_
       refine AW2_seq ?_
       refine bindK H fun j'3 h25 H => ?_
       refine AW2_mid (⟨[(3, .b j'3)], [], 112⟩ : TS) ?_ ?_
       ·clear H
        have H := h25
        clear h25
        refine sg [0, 1] rfl ?_
        refine rp rfl rfl (u_fa rfl rfl Tryd.underlying24 rfl in_3 (Nat.succ_ne_zero _) rfl rfl (ne_of_lt (n := 0) (Nat.lt_of_lt_of_eq (by decide) (Eq.symm (GToken.len t0))))) ?_
        refine rp rfl rfl (u_ld rfl rfl Tryd.underlying3 rfl rfl ((Sub.refl _).trans (GToken.sub0 t0))) ?_
        refine rz [(1, .q 1 (0)), (3, .b true), (71, .i t0.Kind)] [(1, .pure (GToken.cs t0))] rfl rfl rfl ?_
        refine AW2_block ?_
        refine sg [0, 1] rfl ?_
        refine rp rfl rfl (p_ieq rfl rfl rfl) ?_
        refine rp rfl rfl (p_asg rfl rfl) ?_
        refine rz [(1, .q 1 (0)), (3, .b true), (71, .i t0.Kind), (72, .b (decide (t0.Kind = (1 : Int))))] [(1, .pure (GToken.cs t0))] rfl rfl rfl ?_
        refine AW2_if (p := t0.Kind = (1 : Int)) rfl (fun h26 => ?_) (fun h26 => ?_)
        ·replace H := ite_then h26 H
         refine bindK H fun g'7 h33 H => ?_
         refine AW2_mid (⟨[(3, .b g'7)], [], 112⟩ : TS) ?_ ?_
         ·clear H
          have H := h33
          clear h33
          refine AW2_reg [0, 1, 2, 3, 4, 5, 6, 7, 8, 9] rfl ?_
          refine rp rfl rfl (u_fa rfl rfl Tryd.underlying24 rfl in_9 (Nat.succ_ne_zero _) rfl rfl (ne_of_lt (n := 0) (Nat.lt_of_lt_of_eq (by decide) (Eq.symm (GToken.len t0))))) ?_
          refine rp rfl rfl (u_ld rfl rfl Tryd.underlying9 rfl rfl ((Sub.refl _).trans (GToken.sub1 t0))) ?_
          refine bindK H fun r'5 h29 H => ?_
          refine rp rfl rfl (p_calll rfl rfl rfl Tryd.func26 rfl rfl (g_lex_all_i0_ac h29) rfl ⟨lend_p rfl, lend_clo rfl rfl trivial, trivial⟩) ?_
          refine rp rfl rfl (p_move rfl rfl) ?_
          refine (Classical.em (r'5 = true)).elim (fun h30 => ?_) (fun h30 => ?_)
          ·replace H := ite_then h30 H
           refine rn rfl rfl rfl rfl h30 rfl (u_fa rfl rfl Tryd.underlying24 rfl in_9 (Nat.succ_ne_zero _) rfl rfl (ne_of_lt (n := 0) (Nat.lt_of_lt_of_eq (by decide) (Eq.symm (GToken.len t0))))) ?_
           refine rn rfl rfl rfl rfl h30 rfl (u_ld rfl rfl Tryd.underlying9 rfl rfl ((Sub.refl _).trans (GToken.sub1 t0))) ?_
           refine chkK H fun h31 H => ?_
           refine rn rfl rfl rfl rfl h30 rfl (p_ixt rfl Tryd.underlying9 rfl rfl rfl (lrd_get h31)) ?_
           refine bindK H fun r'6 h32 H => ?_
           refine rn rfl rfl rfl rfl h30 rfl (p_callp rfl rfl rfl Tryd.func28 rfl rfl (g_lex_small_ac h32) ⟨rfl, trivial⟩) ?_
           refine rp rfl rfl (p_pkt rfl rfl h30 (.same _)) ?_
           refine rp rfl rfl (p_asg rfl rfl) ?_
           refine rs [(3, .b r'6)] [] rfl rfl rfl ?_
           have hz := some_elim H
           subst hz
           exact RunW_nil rfl
          ·replace H := ite_else h30 H
           iterate 4 (refine r_off rfl rfl rfl rfl (bfalse h30) rfl rfl ?_)
           refine rp rfl rfl (p_pkf rfl rfl (bfalse h30) (.same _)) ?_
           refine rp rfl rfl (p_asg rfl rfl) ?_
           refine rs [(3, .b false)] [] rfl rfl rfl ?_
           have hz := some_elim H
           subst hz
           exact RunW_nil rfl
         ·have hz := some_elim H
          subst hz
          exact rfl
        ·replace H := ite_else h26 H
         refine sg [0, 1] rfl ?_
         refine rp rfl rfl (p_ieq rfl rfl rfl) ?_
         refine rp rfl rfl (p_asg rfl rfl) ?_
         refine rz [(1, .q 1 (0)), (3, .b true), (71, .i t0.Kind), (83, .b (decide (t0.Kind = (2 : Int))))] [(1, .pure (GToken.cs t0))] rfl rfl rfl ?_
         refine AW2_if (p := t0.Kind = (2 : Int)) rfl (fun h35 => ?_) (fun h35 => ?_)
         ·replace H := ite_then h35 H
          refine AW2_reg [0, 1, 2, 3] rfl ?_
          refine rp rfl rfl (u_fa rfl rfl Tryd.underlying24 rfl in_9 (Nat.succ_ne_zero _) rfl rfl (ne_of_lt (n := 0) (Nat.lt_of_lt_of_eq (by decide) (Eq.symm (GToken.len t0))))) ?_
          refine rp rfl rfl (u_ld rfl rfl Tryd.underlying9 rfl rfl ((Sub.refl _).trans (GToken.sub1 t0))) ?_
          refine bindK H fun r'8 h36 H => ?_
          refine rp rfl rfl (p_calll rfl rfl rfl Tryd.func26 rfl rfl (g_lex_all_i1_ac h36) rfl ⟨lend_p rfl, lend_clo rfl rfl trivial, trivial⟩) ?_
          refine rp rfl rfl (p_asg rfl rfl) ?_
          refine rz [(3, .b r'8)] [] rfl rfl rfl ?_
          have hz := some_elim H
          subst hz
          exact rfl
         ·replace H := ite_else h35 H
          refine sg [0, 1] rfl ?_
          refine rp rfl rfl (p_ieq rfl rfl rfl) ?_
          refine rp rfl rfl (p_asg rfl rfl) ?_
          refine rz [(1, .q 1 (0)), (3, .b true), (71, .i t0.Kind), (88, .b (decide (t0.Kind = (3 : Int))))] [(1, .pure (GToken.cs t0))] rfl rfl rfl ?_
          refine AW2_if (p := t0.Kind = (3 : Int)) rfl (fun h37 => ?_) (fun h37 => ?_)
          ·replace H := ite_then h37 H
           refine AW2_reg [0, 1, 2, 3] rfl ?_
           refine rp rfl rfl (u_fa rfl rfl Tryd.underlying24 rfl in_3 (Nat.succ_ne_zero _) rfl rfl (ne_of_lt (n := 0) (Nat.lt_of_lt_of_eq (by decide) (Eq.symm (GToken.len t0))))) ?_
           refine rp rfl rfl (u_ld rfl rfl Tryd.underlying3 rfl rfl ((Sub.refl _).trans (GToken.sub2 t0))) ?_
           refine rp rfl rfl (p_bin rfl rfl rfl rfl) ?_
           refine rp rfl rfl (p_asg rfl rfl) ?_
           refine rz [(3, .b (decide (t0.Int_ ≥ (0 : Int))))] [] rfl rfl rfl ?_
           have hz := some_elim H
           subst hz
           exact rfl
          ·replace H := ite_else h37 H
           refine sg [0, 1] rfl ?_
           refine rp rfl rfl (p_ieq rfl rfl rfl) ?_
           refine rp rfl rfl (p_asg rfl rfl) ?_
           refine rz [(1, .q 1 (0)), (3, .b true), (71, .i t0.Kind), (93, .b (decide (t0.Kind = (4 : Int))))] [(1, .pure (GToken.cs t0))] rfl rfl rfl ?_
           refine AW2_if (p := t0.Kind = (4 : Int)) rfl (fun h38 => ?_) (fun h38 => ?_)
           ·replace H := ite_then h38 H
            refine AW2_reg [0, 1, 2, 3] rfl ?_
            refine rp rfl rfl (u_fa rfl rfl Tryd.underlying24 rfl in_9 (Nat.succ_ne_zero _) rfl rfl (ne_of_lt (n := 0) (Nat.lt_of_lt_of_eq (by decide) (Eq.symm (GToken.len t0))))) ?_
            refine rp rfl rfl (u_ld rfl rfl Tryd.underlying9 rfl rfl ((Sub.refl _).trans (GToken.sub1 t0))) ?_
            refine bindK H fun r'9 h39 H => ?_
            refine rp rfl rfl (p_callp rfl rfl rfl Tryd.func30 rfl rfl (g_utf8_ValidString_ac h39) ⟨rfl, trivial⟩) ?_
            refine rp rfl rfl (p_asg rfl rfl) ?_
            refine rz [(3, .b r'9)] [] rfl rfl rfl ?_
            have hz := some_elim H
            subst hz
            exact rfl
           ·replace H := ite_else h38 H
            refine sg [0, 1] rfl ?_
            refine rp rfl rfl (p_ieq rfl rfl rfl) ?_
            refine rp rfl rfl (p_asg rfl rfl) ?_
            refine rz [(1, .q 1 (0)), (3, .b true), (71, .i t0.Kind), (98, .b (decide (t0.Kind = (5 : Int))))] [(1, .pure (GToken.cs t0))] rfl rfl rfl ?_
            refine AW2_if (p := t0.Kind = (5 : Int)) rfl (fun h40 => ?_) (fun h40 => ?_)
            ·replace H := ite_then h40 H
             refine AW2_reg [0, 1, 2, 3, 4, 5] rfl ?_
             refine rp rfl rfl (u_fa rfl rfl Tryd.underlying24 rfl in_22 (Nat.succ_ne_zero _) rfl rfl (ne_of_lt (n := 0) (Nat.lt_of_lt_of_eq (by decide) (Eq.symm (GToken.len t0))))) ?_
             refine rp rfl rfl (u_ld rfl rfl Tryd.underlying22 rfl rfl ((Sub.refl _).trans (GToken.sub3 t0))) ?_
             refine rp rfl rfl (u_bld rfl in_29 one_29 zc_29 pl_29 rfl (af_cons rfl rfl (GValue.upd0 GValue.zero (3 : Int)) (af_cons rfl rfl (GValue.upd2 ((GValue.w0 GValue.zero (3 : Int))) t0.Bits) rfl))) ?_
             refine bindK H fun r'10 h41 H => ?_
             refine rp rfl rfl (p_callp rfl rfl rfl Tryd.func31 rfl rfl (g_value_Check_ac h41) ⟨rfl, trivial⟩) ?_
             refine rp rfl rfl (p_ieq rfl rfl rfl) ?_
             refine rp rfl rfl (p_asg rfl rfl) ?_
             refine rz [(3, .b (decide (r'10 = (0 : Int))))] [] rfl rfl rfl ?_
             have hz := some_elim H
             subst hz
             exact rfl
            ·replace H := ite_else h40 H
             refine sg [0, 1] rfl ?_
             refine rp rfl rfl (p_ieq rfl rfl rfl) ?_
             refine rp rfl rfl (p_asg rfl rfl) ?_
             refine rz [(1, .q 1 (0)), (3, .b true), (105, .b (decide (t0.Kind = (6 : Int))))] [(1, .pure (GToken.cs t0))] rfl rfl rfl ?_
             refine AW2_if (p := t0.Kind = (6 : Int)) rfl (fun h42 => ?_) (fun h42 => ?_)
             ·replace H := ite_then h42 H
              refine AW2_reg [0, 1, 2, 3] rfl ?_
              refine rp rfl rfl (u_fa rfl rfl Tryd.underlying24 rfl in_9 (Nat.succ_ne_zero _) rfl rfl (ne_of_lt (n := 0) (Nat.lt_of_lt_of_eq (by decide) (Eq.symm (GToken.len t0))))) ?_
              refine rp rfl rfl (u_ld rfl rfl Tryd.underlying9 rfl rfl ((Sub.refl _).trans (GToken.sub1 t0))) ?_
              refine bindK H fun r'11 h43 H => ?_
              refine rp rfl rfl (p_callp rfl rfl rfl Tryd.func32 rfl rfl (g_lex_sign_ac h43) ⟨rfl, trivial⟩) ?_
              refine rp rfl rfl (p_asg rfl rfl) ?_
              refine rz [(3, .b r'11)] [] rfl rfl rfl ?_
              have hz := some_elim H
              subst hz
              exact rfl
             ·replace H := ite_else h42 H
              refine as2 [(3, .b true)] [] rfl rfl rfl ?_
              refine AW2_skip ?_
              have hz := some_elim H
              subst hz
              exact rfl
       ·refine AW2_seq ?_
        refine sg [0, 1] rfl ?_
        refine rp rfl rfl (p_move rfl rfl) ?_
        refine rp rfl rfl (p_not rfl rfl) ?_
        refine rz [(111, .b (!j'3))] [] rfl rfl rfl ?_
        refine AW2_cond rfl (fun h44 => ?_) (fun h44 => ?_)
        ·replace H := ite_then h44 H
         refine sg [0] rfl ?_
         refine rp rfl rfl (p_asg rfl rfl) ?_
         refine rz [(2, .i (3 : Int))] [] rfl rfl rfl ?_
         refine AW2_ret ?_
         have hz := some_elim H
         subst hz
         exact ⟨⟨res_tmp (.same _), trivial⟩, trivial⟩
        ·replace H := ite_else (ne_true h44) H
         refine as2 [] [] rfl rfl rfl ?_
         refine AW2_skip ?_
         refine sg [0] rfl ?_
         refine rp rfl rfl (p_asg rfl rfl) ?_
         refine rz [(2, .i (0 : Int))] [] rfl rfl rfl ?_
         refine AW2_ret ?_
         have hz := some_elim H
         subst hz
         exact ⟨⟨res_tmp (.same _), trivial⟩, trivial⟩

/-! kinds.Columns -/
noncomputable def g_kinds_Columns_l1 (cols0 : List GColumn) (t12_0 : Int) : Int → Option (Int ⊕ (Int ⊕ Unit))
  | t34_1 => (if t34_1 < ((cut cols0 (0 : Int) t12_0).length : Int) then if 0 ≤ t34_1 ∧ t34_1 < ((cut cols0 (0 : Int) t12_0).length : Int) then (if (lrd (cut cols0 (0 : Int) t12_0) t34_1.toNat).Name = (lrd cols0 t12_0.toNat).Name then some (.inr (.inl (8 : Int))) else some (.inl (w64 (t34_1 + (1 : Int))))) else none else some (.inr (.inr ())))
noncomputable def g_kinds_Columns_l0 (cols0 : List GColumn) : Int → Option (Int ⊕ (Int ⊕ Unit))
  | t12_0 => (if t12_0 < (cols0.length : Int) then if 0 ≤ t12_0 ∧ t12_0 < (cols0.length : Int) then (g_lex_Check ({ { GToken.zero with Kind := (1 : Int) } with Text := (lrd cols0 t12_0.toNat).Name })).bind fun r'1 => (if r'1 ≠ (0 : Int) then some (.inr (.inl (3 : Int))) else (if ((lrd cols0 t12_0.toNat).Kind < (1 : Int)) ∨ ((lrd cols0 t12_0.toNat).Kind > (4 : Int)) then some (.inr (.inl (2 : Int))) else if 0 ≤ t12_0 ∧ t12_0 ≤ (cols0.length : Int) then (loopO (g_kinds_Columns_l1 cols0 t12_0) (0 : Int)).bind fun o'5 => match o'5 with | .inl y'6 => some (.inr (.inl y'6)) | .inr (y'7) => some (.inl (w64 (t12_0 + (1 : Int)))) else none)) else none else some (.inr (.inr ())))
noncomputable def g_kinds_Columns (cols0 : List GColumn) : Option (Int) :=
  (if (cols0.length : Int) > (5 : Int) then some (1 : Int) else (loopO (g_kinds_Columns_l0 cols0) (0 : Int)).bind fun o'11 => match o'11 with | .inl y'12 => some y'12 | .inr (y'13) => some (0 : Int))
set_option maxHeartbeats 4000000 in
set_option maxRecDepth 100000 in
theorem g_kinds_Columns_ac {cols0 : List GColumn} {r : Int} (H : g_kinds_Columns cols0 = some r) : ACp Tryd.prog 14 [((fun q : List GColumn => AV.lst (q.flatMap GColumn.cs) q.length) cols0)] (AV.int r) := by
 refine ACp_of (AC2_of_body (vs := [.i r]) Tryd.func14 rfl rfl (Nat.le_of_ble_eq_true rfl) rfl ?_) (fun _ => .same _)
 unfold g_kinds_Columns at H
 refine as2 [(0, .p ((fun q : List GColumn => AV.lst (q.flatMap GColumn.cs) q.length) cols0))] [] rfl rfl rfl ?_
 refine sg [0] rfl ?_
 refine rp rfl rfl (p_asg rfl rfl) ?_
 refine rz [(0, .p ((fun q : List GColumn => AV.lst (q.flatMap GColumn.cs) q.length) cols0))] [] rfl rfl rfl ?_
 refine AW2_seq ?_
 refine sg [0, 1, 2] rfl ?_
 refine rp rfl rfl (p_move rfl rfl) ?_
 refine rp rfl rfl (p_lenl rfl Tryd.underlying35 rfl rfl) ?_
 refine rp rfl rfl (p_bin rfl rfl rfl rfl) ?_
 refine rz [(0, .p ((fun q : List GColumn => AV.lst (q.flatMap GColumn.cs) q.length) cols0)), (9, .b (decide ((cols0.length : Int) > (5 : Int))))] [] rfl rfl rfl ?_
 refine AW2_if (p := (cols0.length : Int) > (5 : Int)) rfl (fun h1 => ?_) (fun h1 => ?_)
 ·replace H := ite_then h1 H
  refine sg [0] rfl ?_
  refine rp rfl rfl (p_asg rfl rfl) ?_
  refine rz [(2, .i (1 : Int))] [] rfl rfl rfl ?_
  refine AW2_ret ?_
  have hz := some_elim H
  subst hz
  exact ⟨⟨res_tmp (.same _), trivial⟩, trivial⟩
 ·replace H := ite_else h1 H
  refine as2 [(0, .p ((fun q : List GColumn => AV.lst (q.flatMap GColumn.cs) q.length) cols0))] [] rfl rfl rfl ?_
  refine AW2_skip ?_
  refine AW2_seq ?_
  refine sg [0, 1, 2] rfl ?_
  refine rp rfl rfl (p_move rfl rfl) ?_
  refine rp rfl rfl (p_lenl rfl Tryd.underlying35 rfl rfl) ?_
  refine rp rfl rfl (p_move rfl rfl) ?_
  refine rz [(0, .p ((fun q : List GColumn => AV.lst (q.flatMap GColumn.cs) q.length) cols0)), (10, .p ((fun q : List GColumn => AV.lst (q.flatMap GColumn.cs) q.length) cols0)), (11, .i (cols0.length : Int)), (12, .i (0 : Int))] [] rfl rfl rfl ?_
  refine AW2_block ?_
  refine as2 [(0, .p ((fun q : List GColumn => AV.lst (q.flatMap GColumn.cs) q.length) cols0)), (10, .p ((fun q : List GColumn => AV.lst (q.flatMap GColumn.cs) q.length) cols0)), (11, .i (cols0.length : Int)), (12, .i (0 : Int))] [] rfl rfl rfl ?_
  refine bindK H fun o'11 h13 H => ?_
  refine AW2_loopO (fun a'8 : Int => (⟨[(0, .p ((fun q : List GColumn => AV.lst (q.flatMap GColumn.cs) q.length) cols0)), (10, .p ((fun q : List GColumn => AV.lst (q.flatMap GColumn.cs) q.length) cols0)), (11, .i (cols0.length : Int)), (12, .i a'8)], [], 45⟩ : TS)) (fun (o : Int ⊕ Unit) e s' => match o with | .inl y'9 => e = Go.Exit.ret ∧ ResAll Tryd.prog s' [ResultVar.tmp 2] [.i y'9] ∧ HFits s' [] | .inr (y'10) => e = Go.Exit.exit 0 ∧ s' = (⟨[], [], 45⟩ : TS)) h13 rfl (fun t12_0 x hx => ?_) (fun e s' hs => ?_)
  ·clear H
   have H := hx
   clear hx
   unfold g_kinds_Columns_l0 at H
   refine sg [0] rfl ?_
   refine rp rfl rfl (p_bin rfl rfl rfl rfl) ?_
   refine rz [(0, .p ((fun q : List GColumn => AV.lst (q.flatMap GColumn.cs) q.length) cols0)), (10, .p ((fun q : List GColumn => AV.lst (q.flatMap GColumn.cs) q.length) cols0)), (11, .i (cols0.length : Int)), (12, .i t12_0), (13, .b (decide (t12_0 < (cols0.length : Int))))] [] rfl rfl rfl ?_
   refine AW2_seq ?_
   refine AW2_if (p := t12_0 < (cols0.length : Int)) rfl (fun h2 => ?_) (fun h2 => ?_)
   ·replace H := ite_then h2 H
    refine as2 [(0, .p ((fun q : List GColumn => AV.lst (q.flatMap GColumn.cs) q.length) cols0)), (10, .p ((fun q : List GColumn => AV.lst (q.flatMap GColumn.cs) q.length) cols0)), (11, .i (cols0.length : Int)), (12, .i t12_0)] [] rfl rfl rfl ?_
    refine AW2_skip ?_
    refine AW2_seq ?_
    refine AW2_block ?_
    refine sg [0, 1, 2, 3, 4, 5] rfl ?_
    refine rp rfl rfl (p_move rfl rfl) ?_
    refine chkK H fun h3 H => ?_
    refine rp rfl rfl (u_ixl rfl rfl Tryd.underlying35 in_68 rfl rfl (ixe h3) (ixn h3) (fne (fun x => (GColumn.len x)) (by decide) (ixn h3))) ?_
    refine rp rfl rfl (u_lda rfl rfl Tryd.underlying68 rfl in_68 rfl (Nat.succ_pos _) (Sub.fm default (fun x => (GColumn.len x)) (ixn h3)) (GColumn.len (lrd cols0 t12_0.toNat))) ?_
    refine r_op rfl rfl (MakeD.opD (u_alloc 4 rfl in_68 one_68 zc_68) rfl rfl rfl rfl) ?_
    refine rp rfl rfl (p_asg rfl rfl) ?_
    refine r_op rfl rfl (u_st rfl rfl rfl rfl rfl in_68 (GColumn.len (lrd cols0 t12_0.toNat)) (ne_of_lt (n := 0) (Nat.lt_of_lt_of_eq (by decide) (Eq.symm (GColumn.len GColumn.zero)))) (Upd.refl ((GColumn.len (lrd cols0 t12_0.toNat)).trans (GColumn.len GColumn.zero).symm))) ?_
    refine rz [(0, .p ((fun q : List GColumn => AV.lst (q.flatMap GColumn.cs) q.length) cols0)), (3, .i t12_0), (4, .q 4 (0)), (10, .p ((fun q : List GColumn => AV.lst (q.flatMap GColumn.cs) q.length) cols0)), (11, .i (cols0.length : Int)), (12, .i t12_0)] [(4, .pure (GColumn.cs (lrd cols0 t12_0.toNat)))] rfl rfl rfl ?_
    refine AW2_seq ?_
    refine sg [0, 1, 2, 3, 4] rfl ?_
    refine rp rfl rfl (u_fa rfl rfl Tryd.underlying68 rfl in_9 (Nat.succ_ne_zero _) rfl rfl (ne_of_lt (n := 0) (Nat.lt_of_lt_of_eq (by decide) (Eq.symm (GColumn.len (lrd cols0 t12_0.toNat)))))) ?_
    refine rp rfl rfl (u_ld rfl rfl Tryd.underlying9 rfl rfl ((Sub.refl _).trans (GColumn.sub0 (lrd cols0 t12_0.toNat)))) ?_
    refine rp rfl rfl (u_bld rfl in_24 one_24 zc_24 pl_24 rfl (af_cons rfl rfl (GToken.upd0 GToken.zero (1 : Int)) (af_cons rfl rfl (GToken.upd1 ((GToken.w0 GToken.zero (1 : Int))) ((lrd cols0 t12_0.toNat).Name)) rfl))) ?_
    refine bindK H fun r'1 h4 H => ?_
    refine rp rfl rfl (p_callp rfl rfl rfl Tryd.func10 rfl rfl (g_lex_Check_ac h4) ⟨rfl, trivial⟩) ?_
    refine rp rfl rfl (p_ine rfl rfl rfl) ?_
    refine rz [(0, .p ((fun q : List GColumn => AV.lst (q.flatMap GColumn.cs) q.length) cols0)), (3, .i t12_0), (4, .q 4 (0)), (10, .p ((fun q : List GColumn => AV.lst (q.flatMap GColumn.cs) q.length) cols0)), (11, .i (cols0.length : Int)), (12, .i t12_0), (21, .b (decide (r'1 ≠ (0 : Int))))] [(4, .pure (GColumn.cs (lrd cols0 t12_0.toNat)))] rfl rfl rfl ?_
    refine AW2_if (p := r'1 ≠ (0 : Int)) rfl (fun h5 => ?_) (fun h5 => ?_)
    ·replace H := ite_then h5 H
     refine sg [0] rfl ?_
     refine rp rfl rfl (p_asg rfl rfl) ?_
     refine rz [(2, .i (3 : Int))] [] rfl rfl rfl ?_
     refine AW2_ret ?_
     have hz := some_elim H
     subst hz
     exact ⟨rfl, ⟨res_tmp (.same _), trivial⟩, trivial⟩
    ·replace H := ite_else h5 H
     refine as2 [(0, .p ((fun q : List GColumn => AV.lst (q.flatMap GColumn.cs) q.length) cols0)), (3, .i t12_0), (4, .q 4 (0)), (10, .p ((fun q : List GColumn => AV.lst (q.flatMap GColumn.cs) q.length) cols0)), (11, .i (cols0.length : Int)), (12, .i t12_0)] [(4, .pure (GColumn.cs (lrd cols0 t12_0.toNat)))] rfl rfl rfl ?_
     refine AW2_skip ?_
     refine AW2_seq ?_
     refine AW2_seq ?_
     refine AW2_mid (⟨[(0, .p ((fun q : List GColumn => AV.lst (q.flatMap GColumn.cs) q.length) cols0)), (3, .i t12_0), (4, .q 4 (0)), (10, .p ((fun q : List GColumn => AV.lst (q.flatMap GColumn.cs) q.length) cols0)), (11, .i (cols0.length : Int)), (12, .i t12_0), (29, .b (decide (((lrd cols0 t12_0.toNat).Kind < (1 : Int)) ∨ ((lrd cols0 t12_0.toNat).Kind > (4 : Int)))))], [(4, .pure (GColumn.cs (lrd cols0 t12_0.toNat)))], 45⟩ : TS) ?_ ?_
     ·refine AW2_reg [0, 1, 2, 3, 4, 5, 6, 7] rfl ?_
      refine rp rfl rfl (u_fa rfl rfl Tryd.underlying68 rfl in_3 (Nat.succ_ne_zero _) rfl rfl (ne_of_lt (n := 0) (Nat.lt_of_lt_of_eq (by decide) (Eq.symm (GColumn.len (lrd cols0 t12_0.toNat)))))) ?_
      refine rp rfl rfl (u_ld rfl rfl Tryd.underlying3 rfl rfl ((Sub.refl _).trans (GColumn.sub1 (lrd cols0 t12_0.toNat)))) ?_
      refine rp rfl rfl (p_bin rfl rfl rfl rfl) ?_
      refine rp rfl rfl (p_move rfl rfl) ?_
      refine (Classical.em ((lrd cols0 t12_0.toNat).Kind < (1 : Int))).elim (fun h6 => ?_) (fun h6 => ?_)
      ·refine r_off rfl rfl rfl rfl (decide_eq_true h6) rfl rfl ?_
       refine r_off rfl rfl rfl rfl (decide_eq_true h6) rfl rfl ?_
       refine r_off rfl rfl rfl rfl (decide_eq_true h6) rfl rfl ?_
       refine rp rfl rfl (p_pkt rfl rfl (decide_eq_true h6) (tb (decide_eq_true (p := ((lrd cols0 t12_0.toNat).Kind < (1 : Int)) ∨ ((lrd cols0 t12_0.toNat).Kind > (4 : Int))) (Or.inl h6)).symm)) ?_
       refine rs [(0, .p ((fun q : List GColumn => AV.lst (q.flatMap GColumn.cs) q.length) cols0)), (3, .i t12_0), (4, .q 4 (0)), (10, .p ((fun q : List GColumn => AV.lst (q.flatMap GColumn.cs) q.length) cols0)), (11, .i (cols0.length : Int)), (12, .i t12_0), (29, .b (decide (((lrd cols0 t12_0.toNat).Kind < (1 : Int)) ∨ ((lrd cols0 t12_0.toNat).Kind > (4 : Int)))))] [(4, .pure (GColumn.cs (lrd cols0 t12_0.toNat)))] rfl rfl rfl ?_
       exact RunW_nil rfl
      ·refine r_on rfl rfl rfl rfl (decide_eq_false h6) rfl (PureD.opD (u_fa rfl rfl Tryd.underlying68 rfl in_3 (Nat.succ_ne_zero _) rfl rfl (ne_of_lt (n := 0) (Nat.lt_of_lt_of_eq (by decide) (Eq.symm (GColumn.len (lrd cols0 t12_0.toNat))))))) ?_
       refine r_on rfl rfl rfl rfl (decide_eq_false h6) rfl (PureD.opD (u_ld rfl rfl Tryd.underlying3 rfl rfl ((Sub.refl _).trans (GColumn.sub1 (lrd cols0 t12_0.toNat))))) ?_
       refine r_on rfl rfl rfl rfl (decide_eq_false h6) rfl (PureD.opD (p_bin rfl rfl rfl rfl)) ?_
       refine rp rfl rfl (p_pkf rfl rfl (decide_eq_false h6) (tb ((or_l (p := (lrd cols0 t12_0.toNat).Kind < (1 : Int)) (q := (lrd cols0 t12_0.toNat).Kind > (4 : Int)) h6)))) ?_
       refine rs [(0, .p ((fun q : List GColumn => AV.lst (q.flatMap GColumn.cs) q.length) cols0)), (3, .i t12_0), (4, .q 4 (0)), (10, .p ((fun q : List GColumn => AV.lst (q.flatMap GColumn.cs) q.length) cols0)), (11, .i (cols0.length : Int)), (12, .i t12_0), (29, .b (decide (((lrd cols0 t12_0.toNat).Kind < (1 : Int)) ∨ ((lrd cols0 t12_0.toNat).Kind > (4 : Int)))))] [(4, .pure (GColumn.cs (lrd cols0 t12_0.toNat)))] rfl rfl rfl ?_
       exact RunW_nil rfl
     ·refine AW2_if (p := ((lrd cols0 t12_0.toNat).Kind < (1 : Int)) ∨ ((lrd cols0 t12_0.toNat).Kind > (4 : Int))) rfl (fun h7 => ?_) (fun h7 => ?_)
      ·replace H := ite_then h7 H
       refine sg [0] rfl ?_
       refine rp rfl rfl (p_asg rfl rfl) ?_
       refine rz [(2, .i (2 : Int))] [] rfl rfl rfl ?_
       refine AW2_ret ?_
       have hz := some_elim H
       subst hz
       exact ⟨rfl, ⟨res_tmp (.same _), trivial⟩, trivial⟩
      ·replace H := ite_else h7 H
       refine as2 [(0, .p ((fun q : List GColumn => AV.lst (q.flatMap GColumn.cs) q.length) cols0)), (3, .i t12_0), (4, .q 4 (0)), (10, .p ((fun q : List GColumn => AV.lst (q.flatMap GColumn.cs) q.length) cols0)), (11, .i (cols0.length : Int)), (12, .i t12_0)] [(4, .pure (GColumn.cs (lrd cols0 t12_0.toNat)))] rfl rfl rfl ?_
       refine AW2_skip ?_
       refine sg [0, 1, 2, 3, 4] rfl ?_
       refine rp rfl rfl (p_move rfl rfl) ?_
       refine rp rfl rfl (p_move rfl rfl) ?_
       refine chkK H fun h8 H => ?_
       refine rp rfl rfl (u_cutl (g := (fun l => l.flatMap GColumn.cs)) (a := (0 : Int)) (b := t12_0) rfl rfl Tryd.underlying35 in_68 rfl bT_zero (bT_i (Int.le_trans (show 0 ≤ (0 : Int) ∧ (0 : Int) ≤ t12_0 ∧ t12_0 ≤ (cols0.length : Int) from ⟨Int.le_refl _, h8.1, h8.2⟩).1 (show 0 ≤ (0 : Int) ∧ (0 : Int) ≤ t12_0 ∧ t12_0 ≤ (cols0.length : Int) from ⟨Int.le_refl _, h8.1, h8.2⟩).2.1) rfl) (.inl rfl) (show 0 ≤ (0 : Int) ∧ (0 : Int) ≤ t12_0 ∧ t12_0 ≤ (cols0.length : Int) from ⟨Int.le_refl _, h8.1, h8.2⟩) (g_fm (fun x => (GColumn.len x)))) ?_
       refine rp rfl rfl (p_lenl rfl Tryd.underlying35 rfl rfl) ?_
       refine rp rfl rfl (p_move rfl rfl) ?_
       refine rz [(0, .p ((fun q : List GColumn => AV.lst (q.flatMap GColumn.cs) q.length) cols0)), (4, .q 4 (0)), (10, .p ((fun q : List GColumn => AV.lst (q.flatMap GColumn.cs) q.length) cols0)), (11, .i (cols0.length : Int)), (12, .i t12_0), (32, .p ((fun q : List GColumn => AV.lst (q.flatMap GColumn.cs) q.length) (cut cols0 (0 : Int) t12_0))), (33, .i ((cut cols0 (0 : Int) t12_0).length : Int)), (34, .i (0 : Int))] [(4, .pure (GColumn.cs (lrd cols0 t12_0.toNat)))] rfl rfl rfl ?_
       refine AW2_block ?_
       refine as2 [(0, .p ((fun q : List GColumn => AV.lst (q.flatMap GColumn.cs) q.length) cols0)), (4, .q 4 (0)), (10, .p ((fun q : List GColumn => AV.lst (q.flatMap GColumn.cs) q.length) cols0)), (11, .i (cols0.length : Int)), (12, .i t12_0), (32, .p ((fun q : List GColumn => AV.lst (q.flatMap GColumn.cs) q.length) (cut cols0 (0 : Int) t12_0))), (33, .i ((cut cols0 (0 : Int) t12_0).length : Int)), (34, .i (0 : Int))] [(4, .pure (GColumn.cs (lrd cols0 t12_0.toNat)))] rfl rfl rfl ?_
       refine bindK H fun o'5 h12 H => ?_
       refine AW2_loopO (fun a'2 : Int => (⟨[(0, .p ((fun q : List GColumn => AV.lst (q.flatMap GColumn.cs) q.length) cols0)), (4, .q 4 (0)), (10, .p ((fun q : List GColumn => AV.lst (q.flatMap GColumn.cs) q.length) cols0)), (11, .i (cols0.length : Int)), (12, .i t12_0), (32, .p ((fun q : List GColumn => AV.lst (q.flatMap GColumn.cs) q.length) (cut cols0 (0 : Int) t12_0))), (33, .i ((cut cols0 (0 : Int) t12_0).length : Int)), (34, .i a'2)], [(4, .pure (GColumn.cs (lrd cols0 t12_0.toNat)))], 45⟩ : TS)) (fun (o : Int ⊕ Unit) e s' => match o with | .inl y'3 => e = Go.Exit.ret ∧ ResAll Tryd.prog s' [ResultVar.tmp 2] [.i y'3] ∧ HFits s' [] | .inr (y'4) => e = Go.Exit.exit 2 ∧ s' = (⟨[(0, .p ((fun q : List GColumn => AV.lst (q.flatMap GColumn.cs) q.length) cols0)), (10, .p ((fun q : List GColumn => AV.lst (q.flatMap GColumn.cs) q.length) cols0)), (11, .i (cols0.length : Int)), (12, .i t12_0)], [], 45⟩ : TS)) h12 rfl (fun t34_1 x hx => ?_) (fun e s' hs => ?_)
       ·clear H
        have H := hx
        clear hx
        unfold g_kinds_Columns_l1 at H
        refine sg [0] rfl ?_
        refine rp rfl rfl (p_bin rfl rfl rfl rfl) ?_
        refine rz [(0, .p ((fun q : List GColumn => AV.lst (q.flatMap GColumn.cs) q.length) cols0)), (4, .q 4 (0)), (10, .p ((fun q : List GColumn => AV.lst (q.flatMap GColumn.cs) q.length) cols0)), (11, .i (cols0.length : Int)), (12, .i t12_0), (32, .p ((fun q : List GColumn => AV.lst (q.flatMap GColumn.cs) q.length) (cut cols0 (0 : Int) t12_0))), (33, .i ((cut cols0 (0 : Int) t12_0).length : Int)), (34, .i t34_1), (35, .b (decide (t34_1 < ((cut cols0 (0 : Int) t12_0).length : Int))))] [(4, .pure (GColumn.cs (lrd cols0 t12_0.toNat)))] rfl rfl rfl ?_
        refine AW2_seq ?_
        refine AW2_if (p := t34_1 < ((cut cols0 (0 : Int) t12_0).length : Int)) rfl (fun h9 => ?_) (fun h9 => ?_)
        ·replace H := ite_then h9 H
         refine as2 [(0, .p ((fun q : List GColumn => AV.lst (q.flatMap GColumn.cs) q.length) cols0)), (4, .q 4 (0)), (10, .p ((fun q : List GColumn => AV.lst (q.flatMap GColumn.cs) q.length) cols0)), (11, .i (cols0.length : Int)), (12, .i t12_0), (32, .p ((fun q : List GColumn => AV.lst (q.flatMap GColumn.cs) q.length) (cut cols0 (0 : Int) t12_0))), (33, .i ((cut cols0 (0 : Int) t12_0).length : Int)), (34, .i t34_1)] [(4, .pure (GColumn.cs (lrd cols0 t12_0.toNat)))] rfl rfl rfl ?_
         refine AW2_skip ?_
         refine AW2_seq ?_
         refine AW2_block ?_
         refine sg [0, 1, 2, 3] rfl ?_
         refine chkK H fun h10 H => ?_
         refine rp rfl rfl (u_ixl rfl rfl Tryd.underlying35 in_68 rfl rfl (ixe h10) (ixn h10) (fne (fun x => (GColumn.len x)) (by decide) (ixn h10))) ?_
         refine rp rfl rfl (u_lda rfl rfl Tryd.underlying68 rfl in_68 rfl (Nat.succ_pos _) (Sub.fm default (fun x => (GColumn.len x)) (ixn h10)) (GColumn.len (lrd (cut cols0 (0 : Int) t12_0) t34_1.toNat))) ?_
         refine r_op rfl rfl (MakeD.opD (u_alloc 6 rfl in_68 one_68 zc_68) rfl rfl rfl rfl) ?_
         refine r_op rfl rfl (u_st rfl rfl rfl rfl rfl in_68 (GColumn.len (lrd (cut cols0 (0 : Int) t12_0) t34_1.toNat)) (ne_of_lt (n := 0) (Nat.lt_of_lt_of_eq (by decide) (Eq.symm (GColumn.len GColumn.zero)))) (Upd.refl ((GColumn.len (lrd (cut cols0 (0 : Int) t12_0) t34_1.toNat)).trans (GColumn.len GColumn.zero).symm))) ?_
         refine rz [(0, .p ((fun q : List GColumn => AV.lst (q.flatMap GColumn.cs) q.length) cols0)), (4, .q 4 (0)), (6, .q 6 (0)), (10, .p ((fun q : List GColumn => AV.lst (q.flatMap GColumn.cs) q.length) cols0)), (11, .i (cols0.length : Int)), (12, .i t12_0), (32, .p ((fun q : List GColumn => AV.lst (q.flatMap GColumn.cs) q.length) (cut cols0 (0 : Int) t12_0))), (33, .i ((cut cols0 (0 : Int) t12_0).length : Int)), (34, .i t34_1)] [(4, .pure (GColumn.cs (lrd cols0 t12_0.toNat))), (6, .pure (GColumn.cs (lrd (cut cols0 (0 : Int) t12_0) t34_1.toNat)))] rfl rfl rfl ?_
         refine sg [0, 1, 2, 3, 4] rfl ?_
         refine rp rfl rfl (u_fa rfl rfl Tryd.underlying68 rfl in_9 (Nat.succ_ne_zero _) rfl rfl (ne_of_lt (n := 0) (Nat.lt_of_lt_of_eq (by decide) (Eq.symm (GColumn.len (lrd (cut cols0 (0 : Int) t12_0) t34_1.toNat)))))) ?_
         refine rp rfl rfl (u_ld rfl rfl Tryd.underlying9 rfl rfl ((Sub.refl _).trans (GColumn.sub0 (lrd (cut cols0 (0 : Int) t12_0) t34_1.toNat)))) ?_
         refine rp rfl rfl (u_fa rfl rfl Tryd.underlying68 rfl in_9 (Nat.succ_ne_zero _) rfl rfl (ne_of_lt (n := 0) (Nat.lt_of_lt_of_eq (by decide) (Eq.symm (GColumn.len (lrd cols0 t12_0.toNat)))))) ?_
         refine rp rfl rfl (u_ld rfl rfl Tryd.underlying9 rfl rfl ((Sub.refl _).trans (GColumn.sub0 (lrd cols0 t12_0.toNat)))) ?_
         refine rp rfl rfl (p_seq rfl rfl rfl) ?_
         refine rz [(0, .p ((fun q : List GColumn => AV.lst (q.flatMap GColumn.cs) q.length) cols0)), (4, .q 4 (0)), (10, .p ((fun q : List GColumn => AV.lst (q.flatMap GColumn.cs) q.length) cols0)), (11, .i (cols0.length : Int)), (12, .i t12_0), (32, .p ((fun q : List GColumn => AV.lst (q.flatMap GColumn.cs) q.length) (cut cols0 (0 : Int) t12_0))), (33, .i ((cut cols0 (0 : Int) t12_0).length : Int)), (34, .i t34_1), (42, .b (decide ((lrd (cut cols0 (0 : Int) t12_0) t34_1.toNat).Name = (lrd cols0 t12_0.toNat).Name)))] [(4, .pure (GColumn.cs (lrd cols0 t12_0.toNat)))] rfl rfl rfl ?_
         refine AW2_if (p := (lrd (cut cols0 (0 : Int) t12_0) t34_1.toNat).Name = (lrd cols0 t12_0.toNat).Name) rfl (fun h11 => ?_) (fun h11 => ?_)
         ·replace H := ite_then h11 H
          refine sg [0] rfl ?_
          refine rp rfl rfl (p_asg rfl rfl) ?_
          refine rz [(2, .i (8 : Int))] [] rfl rfl rfl ?_
          refine AW2_ret ?_
          have hz := some_elim H
          subst hz
          exact ⟨rfl, ⟨res_tmp (.same _), trivial⟩, trivial⟩
         ·replace H := ite_else h11 H
          refine as2 [(0, .p ((fun q : List GColumn => AV.lst (q.flatMap GColumn.cs) q.length) cols0)), (4, .q 4 (0)), (10, .p ((fun q : List GColumn => AV.lst (q.flatMap GColumn.cs) q.length) cols0)), (11, .i (cols0.length : Int)), (12, .i t12_0), (32, .p ((fun q : List GColumn => AV.lst (q.flatMap GColumn.cs) q.length) (cut cols0 (0 : Int) t12_0))), (33, .i ((cut cols0 (0 : Int) t12_0).length : Int)), (34, .i t34_1)] [(4, .pure (GColumn.cs (lrd cols0 t12_0.toNat)))] rfl rfl rfl ?_
          refine AW2_skip ?_
          refine AW2_reg [0, 1] rfl ?_
          refine rp rfl rfl (p_bin rfl rfl rfl rfl) ?_
          refine rp rfl rfl (p_move rfl rfl) ?_
          refine rz [(0, .p ((fun q : List GColumn => AV.lst (q.flatMap GColumn.cs) q.length) cols0)), (4, .q 4 (0)), (10, .p ((fun q : List GColumn => AV.lst (q.flatMap GColumn.cs) q.length) cols0)), (11, .i (cols0.length : Int)), (12, .i t12_0), (32, .p ((fun q : List GColumn => AV.lst (q.flatMap GColumn.cs) q.length) (cut cols0 (0 : Int) t12_0))), (33, .i ((cut cols0 (0 : Int) t12_0).length : Int)), (34, .i (w64 (t34_1 + (1 : Int))))] [(4, .pure (GColumn.cs (lrd cols0 t12_0.toNat)))] rfl rfl rfl ?_
          have hz := some_elim H
          subst hz
          exact ⟨rfl, rfl⟩
        ·replace H := ite_else h9 H
         refine as2 [(0, .p ((fun q : List GColumn => AV.lst (q.flatMap GColumn.cs) q.length) cols0)), (10, .p ((fun q : List GColumn => AV.lst (q.flatMap GColumn.cs) q.length) cols0)), (11, .i (cols0.length : Int)), (12, .i t12_0)] [] rfl rfl rfl ?_
         refine AW2_exit ?_
         refine thenQ2_exit ?_
         have hz := some_elim H
         subst hz
         exact ⟨rfl, rfl⟩
       ·rcases o'5 with y'6 | y'7
        ·obtain ⟨rfl, hs⟩ := hs
         refine ⟨by simp, ?_⟩
         have hz := some_elim H
         subst hz
         exact ⟨rfl, hs.1, hs.2⟩
        ·obtain ⟨rfl, rfl⟩ := hs
         refine ⟨by simp, ?_⟩
         refine blockQ2_exit ?_
         refine AW2_reg [0, 1] rfl ?_
         refine rp rfl rfl (p_bin rfl rfl rfl rfl) ?_
         refine rp rfl rfl (p_move rfl rfl) ?_
         refine rz [(0, .p ((fun q : List GColumn => AV.lst (q.flatMap GColumn.cs) q.length) cols0)), (10, .p ((fun q : List GColumn => AV.lst (q.flatMap GColumn.cs) q.length) cols0)), (11, .i (cols0.length : Int)), (12, .i (w64 (t12_0 + (1 : Int))))] [] rfl rfl rfl ?_
         have hz := some_elim H
         subst hz
         exact ⟨rfl, rfl⟩
   ·replace H := ite_else h2 H
    refine as2 [] [] rfl rfl rfl ?_
    refine AW2_exit ?_
    refine thenQ2_exit ?_
    have hz := some_elim H
    subst hz
    exact ⟨rfl, rfl⟩
  ·rcases o'11 with y'12 | y'13
   ·obtain ⟨rfl, hs⟩ := hs
    refine ⟨by simp, ?_⟩
    have hz := some_elim H
    subst hz
    exact ⟨hs.1, hs.2⟩
   ·obtain ⟨rfl, rfl⟩ := hs
    refine ⟨by simp, ?_⟩
    refine blockQ2_exit ?_
    refine sg [0] rfl ?_
    refine rp rfl rfl (p_asg rfl rfl) ?_
    refine rz [(2, .i (0 : Int))] [] rfl rfl rfl ?_
    refine AW2_ret ?_
    have hz := some_elim H
    subst hz
    exact ⟨⟨res_tmp (.same _), trivial⟩, trivial⟩

/-! kinds.fits -/
def g_kinds_fits_r14 : List (List (Nat × Option Nat)) := [[(7, none)], [(44, some 0)], [(45, some 1)], [(46, some 2)], [(7, none), (47, some 3)], [(47, some 3), (48, some 4)], [(1, none), (47, some 3)], [(6, none), (47, some 3)], [(47, some 3), (50, some 6), (51, some 7)], [(47, some 3), (52, some 8)], [(47, some 3), (53, some 9)]]
def g_kinds_fits_r14c : List (List Nat) := [[], [0], [0, 1], [0, 1, 2], [0, 1, 2, 3], [0, 1, 2, 3, 4], [0, 1, 2, 3], [0, 1, 2, 3], [0, 1, 2, 3, 6, 7], [0, 1, 2, 3, 6, 7, 8], [0, 1, 2, 3, 6, 7, 8, 9], [0, 1, 2, 3, 4, 5, 6, 7, 8, 9, 10], [0, 1, 2, 3, 4, 5, 6, 7, 8, 9, 10, 11], [0, 1, 2, 3, 4, 5, 6, 7, 8, 9, 10, 11, 12]]
noncomputable def g_kinds_fits_l0 (row0 : List GValue) (cols1 : List GColumn) : Int → Option (Int ⊕ (Int ⊕ Unit))
  | t21_0 => (if t21_0 < (row0.length : Int) then if 0 ≤ t21_0 ∧ t21_0 < (row0.length : Int) then (g_value_Check (lrd row0 t21_0.toNat)).bind fun r'2 => (if r'2 ≠ (0 : Int) then some (.inr (.inl r'2)) else ((if (lrd row0 t21_0.toNat).Kind = (0 : Int) then if 0 ≤ t21_0 ∧ t21_0 < (cols1.length : Int) then some (!((lrd cols1 t21_0.toNat).Null)) else none else some false)).bind fun g'3 => (if g'3 = true then some (.inr (.inl (12 : Int))) else ((if (lrd row0 t21_0.toNat).Kind ≠ (0 : Int) then if 0 ≤ t21_0 ∧ t21_0 < (cols1.length : Int) then some (decide ((lrd row0 t21_0.toNat).Kind ≠ (lrd cols1 t21_0.toNat).Kind)) else none else some false)).bind fun g'4 => (if g'4 = true then some (.inr (.inl (2 : Int))) else some (.inl (w64 (t21_0 + (1 : Int))))))) else none else some (.inr (.inr ())))
noncomputable def g_kinds_fits (row0 : List GValue) (cols1 : List GColumn) : Option (Int) :=
  (g_kinds_Columns cols1).bind fun r'1 => (if r'1 ≠ (0 : Int) then some r'1 else (if (row0.length : Int) ≠ (cols1.length : Int) then some (1 : Int) else (loopO (g_kinds_fits_l0 row0 cols1) (0 : Int)).bind fun o'8 => match o'8 with | .inl y'9 => some y'9 | .inr (y'10) => some (0 : Int)))
set_option maxHeartbeats 4000000 in
set_option maxRecDepth 100000 in
theorem g_kinds_fits_ac {row0 : List GValue} {cols1 : List GColumn} {r : Int} (H : g_kinds_fits row0 cols1 = some r) : ACp Tryd.prog 42 [((fun q : List GValue => AV.lst (q.flatMap GValue.cs) q.length) row0), ((fun q : List GColumn => AV.lst (q.flatMap GColumn.cs) q.length) cols1)] (AV.int r) := by
 refine ACp_of (AC2_of_body (vs := [.i r]) Tryd.func42 rfl rfl (Nat.le_of_ble_eq_true rfl) rfl ?_) (fun _ => .same _)
 unfold g_kinds_fits at H
 refine as2 [(0, .p ((fun q : List GValue => AV.lst (q.flatMap GValue.cs) q.length) row0)), (1, .p ((fun q : List GColumn => AV.lst (q.flatMap GColumn.cs) q.length) cols1))] [] rfl rfl rfl ?_
 refine sg [0] rfl ?_
 refine rp rfl rfl (p_asg rfl rfl) ?_
 refine rz [(0, .p ((fun q : List GValue => AV.lst (q.flatMap GValue.cs) q.length) row0)), (1, .p ((fun q : List GColumn => AV.lst (q.flatMap GColumn.cs) q.length) cols1))] [] rfl rfl rfl ?_
 refine AW2_seq ?_
 refine sg [0, 1, 2] rfl ?_
 refine rp rfl rfl (p_move rfl rfl) ?_
 refine bindK H fun r'1 h1 H => ?_
 refine rp rfl rfl (p_callp rfl rfl rfl Tryd.func14 rfl rfl (g_kinds_Columns_ac h1) ⟨rfl, trivial⟩) ?_
 refine rp rfl rfl (p_asg rfl rfl) ?_
 refine rz [(0, .p ((fun q : List GValue => AV.lst (q.flatMap GValue.cs) q.length) row0)), (1, .p ((fun q : List GColumn => AV.lst (q.flatMap GColumn.cs) q.length) cols1)), (5, .i r'1)] [] rfl rfl rfl ?_
 refine sg [0, 1] rfl ?_
 refine rp rfl rfl (p_move rfl rfl) ?_
 refine rp rfl rfl (p_ine rfl rfl rfl) ?_
 refine rz [(0, .p ((fun q : List GValue => AV.lst (q.flatMap GValue.cs) q.length) row0)), (1, .p ((fun q : List GColumn => AV.lst (q.flatMap GColumn.cs) q.length) cols1)), (5, .i r'1), (12, .b (decide (r'1 ≠ (0 : Int))))] [] rfl rfl rfl ?_
 refine AW2_if (p := r'1 ≠ (0 : Int)) rfl (fun h2 => ?_) (fun h2 => ?_)
 ·replace H := ite_then h2 H
  refine sg [0, 1] rfl ?_
  refine rp rfl rfl (p_move rfl rfl) ?_
  refine rp rfl rfl (p_asg rfl rfl) ?_
  refine rz [(4, .i r'1)] [] rfl rfl rfl ?_
  refine AW2_ret ?_
  have hz := some_elim H
  subst hz
  exact ⟨⟨res_tmp (.same _), trivial⟩, trivial⟩
 ·replace H := ite_else h2 H
  refine as2 [(0, .p ((fun q : List GValue => AV.lst (q.flatMap GValue.cs) q.length) row0)), (1, .p ((fun q : List GColumn => AV.lst (q.flatMap GColumn.cs) q.length) cols1))] [] rfl rfl rfl ?_
  refine AW2_skip ?_
  refine AW2_seq ?_
  refine sg [0, 1, 2, 3, 4] rfl ?_
  refine rp rfl rfl (p_move rfl rfl) ?_
  refine rp rfl rfl (p_lenl rfl Tryd.underlying38 rfl rfl) ?_
  refine rp rfl rfl (p_move rfl rfl) ?_
  refine rp rfl rfl (p_lenl rfl Tryd.underlying35 rfl rfl) ?_
  refine rp rfl rfl (p_ine rfl rfl rfl) ?_
  refine rz [(0, .p ((fun q : List GValue => AV.lst (q.flatMap GValue.cs) q.length) row0)), (1, .p ((fun q : List GColumn => AV.lst (q.flatMap GColumn.cs) q.length) cols1)), (18, .b (decide ((row0.length : Int) ≠ (cols1.length : Int))))] [] rfl rfl rfl ?_
  refine AW2_if (p := (row0.length : Int) ≠ (cols1.length : Int)) rfl (fun h3 => ?_) (fun h3 => ?_)
  ·replace H := ite_then h3 H
   refine sg [0] rfl ?_
   refine rp rfl rfl (p_asg rfl rfl) ?_
   refine rz [(4, .i (1 : Int))] [] rfl rfl rfl ?_
   refine AW2_ret ?_
   have hz := some_elim H
   subst hz
   exact ⟨⟨res_tmp (.same _), trivial⟩, trivial⟩
  ·replace H := ite_else h3 H
   refine as2 [(0, .p ((fun q : List GValue => AV.lst (q.flatMap GValue.cs) q.length) row0)), (1, .p ((fun q : List GColumn => AV.lst (q.flatMap GColumn.cs) q.length) cols1))] [] rfl rfl rfl ?_
   refine AW2_skip ?_
   refine AW2_seq ?_
   refine sg [0, 1, 2] rfl ?_
   refine rp rfl rfl (p_move rfl rfl) ?_
   refine rp rfl rfl (p_lenl rfl Tryd.underlying38 rfl rfl) ?_
   refine rp rfl rfl (p_move rfl rfl) ?_
   refine rz [(1, .p ((fun q : List GColumn => AV.lst (q.flatMap GColumn.cs) q.length) cols1)), (19, .p ((fun q : List GValue => AV.lst (q.flatMap GValue.cs) q.length) row0)), (20, .i (row0.length : Int)), (21, .i (0 : Int))] [] rfl rfl rfl ?_
   refine AW2_block ?_
   refine as2 [(1, .p ((fun q : List GColumn => AV.lst (q.flatMap GColumn.cs) q.length) cols1)), (19, .p ((fun q : List GValue => AV.lst (q.flatMap GValue.cs) q.length) row0)), (20, .i (row0.length : Int)), (21, .i (0 : Int))] [] rfl rfl rfl ?_
   refine bindK H fun o'8 h18 H => ?_
   refine AW2_loopO (fun a'5 : Int => (⟨[(1, .p ((fun q : List GColumn => AV.lst (q.flatMap GColumn.cs) q.length) cols1)), (19, .p ((fun q : List GValue => AV.lst (q.flatMap GValue.cs) q.length) row0)), (20, .i (row0.length : Int)), (21, .i a'5)], [], 58⟩ : TS)) (fun (o : Int ⊕ Unit) e s' => match o with | .inl y'6 => e = Go.Exit.ret ∧ ResAll Tryd.prog s' [ResultVar.tmp 4] [.i y'6] ∧ HFits s' [] | .inr (y'7) => e = Go.Exit.exit 0 ∧ s' = (⟨[], [], 58⟩ : TS)) h18 rfl (fun t21_0 x hx => ?_) (fun e s' hs => ?_)
   ·clear H
    have H := hx
    clear hx
    unfold g_kinds_fits_l0 at H
    refine sg [0] rfl ?_
    refine rp rfl rfl (p_bin rfl rfl rfl rfl) ?_
    refine rz [(1, .p ((fun q : List GColumn => AV.lst (q.flatMap GColumn.cs) q.length) cols1)), (19, .p ((fun q : List GValue => AV.lst (q.flatMap GValue.cs) q.length) row0)), (20, .i (row0.length : Int)), (21, .i t21_0), (22, .b (decide (t21_0 < (row0.length : Int))))] [] rfl rfl rfl ?_
    refine AW2_seq ?_
    refine AW2_if (p := t21_0 < (row0.length : Int)) rfl (fun h4 => ?_) (fun h4 => ?_)
    ·replace H := ite_then h4 H
     refine as2 [(1, .p ((fun q : List GColumn => AV.lst (q.flatMap GColumn.cs) q.length) cols1)), (19, .p ((fun q : List GValue => AV.lst (q.flatMap GValue.cs) q.length) row0)), (20, .i (row0.length : Int)), (21, .i t21_0)] [] rfl rfl rfl ?_
     refine AW2_skip ?_
     refine AW2_seq ?_
     refine AW2_block ?_
     refine sg [0, 1, 2, 3, 4, 5] rfl ?_
     refine rp rfl rfl (p_move rfl rfl) ?_
     refine chkK H fun h5 H => ?_
     refine rp rfl rfl (u_ixl rfl rfl Tryd.underlying38 in_29 rfl rfl (ixe h5) (ixn h5) (fne (fun x => (GValue.len x)) (by decide) (ixn h5))) ?_
     refine rp rfl rfl (u_lda rfl rfl Tryd.underlying29 rfl in_29 rfl (Nat.succ_pos _) (Sub.fm default (fun x => (GValue.len x)) (ixn h5)) (GValue.len (lrd row0 t21_0.toNat))) ?_
     refine r_op rfl rfl (MakeD.opD (u_alloc 7 rfl in_29 one_29 zc_29) rfl rfl rfl rfl) ?_
     refine rp rfl rfl (p_asg rfl rfl) ?_
     refine r_op rfl rfl (u_st rfl rfl rfl rfl rfl in_29 (GValue.len (lrd row0 t21_0.toNat)) (ne_of_lt (n := 0) (Nat.lt_of_lt_of_eq (by decide) (Eq.symm (GValue.len GValue.zero)))) (Upd.refl ((GValue.len (lrd row0 t21_0.toNat)).trans (GValue.len GValue.zero).symm))) ?_
     refine rz [(1, .p ((fun q : List GColumn => AV.lst (q.flatMap GColumn.cs) q.length) cols1)), (6, .i t21_0), (7, .q 7 (0)), (19, .p ((fun q : List GValue => AV.lst (q.flatMap GValue.cs) q.length) row0)), (20, .i (row0.length : Int)), (21, .i t21_0)] [(7, .pure (GValue.cs (lrd row0 t21_0.toNat)))] rfl rfl rfl ?_
     refine AW2_seq ?_
     refine sg [0, 1, 2] rfl ?_
     refine rp rfl rfl (u_lda rfl rfl Tryd.underlying29 rfl in_29 rfl (Nat.succ_pos _) (Sub.refl _) (GValue.len (lrd row0 t21_0.toNat))) ?_
     refine bindK H fun r'2 h6 H => ?_
     refine rp rfl rfl (p_callp rfl rfl rfl Tryd.func31 rfl rfl (g_value_Check_ac h6) ⟨rfl, trivial⟩) ?_
     refine rp rfl rfl (p_asg rfl rfl) ?_
     refine rz [(1, .p ((fun q : List GColumn => AV.lst (q.flatMap GColumn.cs) q.length) cols1)), (6, .i t21_0), (7, .q 7 (0)), (8, .i r'2), (19, .p ((fun q : List GValue => AV.lst (q.flatMap GValue.cs) q.length) row0)), (20, .i (row0.length : Int)), (21, .i t21_0)] [(7, .pure (GValue.cs (lrd row0 t21_0.toNat)))] rfl rfl rfl ?_
     refine sg [0, 1] rfl ?_
     refine rp rfl rfl (p_move rfl rfl) ?_
     refine rp rfl rfl (p_ine rfl rfl rfl) ?_
     refine rz [(1, .p ((fun q : List GColumn => AV.lst (q.flatMap GColumn.cs) q.length) cols1)), (6, .i t21_0), (7, .q 7 (0)), (8, .i r'2), (19, .p ((fun q : List GValue => AV.lst (q.flatMap GValue.cs) q.length) row0)), (20, .i (row0.length : Int)), (21, .i t21_0), (29, .b (decide (r'2 ≠ (0 : Int))))] [(7, .pure (GValue.cs (lrd row0 t21_0.toNat)))] rfl rfl rfl ?_
     refine AW2_if (p := r'2 ≠ (0 : Int)) rfl (fun h7 => ?_) (fun h7 => ?_)
     ·replace H := ite_then h7 H
      refine sg [0, 1] rfl ?_
      refine rp rfl rfl (p_move rfl rfl) ?_
      refine rp rfl rfl (p_asg rfl rfl) ?_
      refine rz [(4, .i r'2)] [] rfl rfl rfl ?_
      refine AW2_ret ?_
      have hz := some_elim H
      subst hz
      exact ⟨rfl, ⟨res_tmp (.same _), trivial⟩, trivial⟩
     ·replace H := ite_else h7 H
      refine as2 [(1, .p ((fun q : List GColumn => AV.lst (q.flatMap GColumn.cs) q.length) cols1)), (6, .i t21_0), (7, .q 7 (0)), (19, .p ((fun q : List GValue => AV.lst (q.flatMap GValue.cs) q.length) row0)), (20, .i (row0.length : Int)), (21, .i t21_0)] [(7, .pure (GValue.cs (lrd row0 t21_0.toNat)))] rfl rfl rfl ?_
      refine AW2_skip ?_
      refine AW2_block ?_
      refine AW2_seq ?_
      refine bindK H fun g'3 h11 H => ?_
      refine AW2_mid (⟨[(1, .p ((fun q : List GColumn => AV.lst (q.flatMap GColumn.cs) q.length) cols1)), (6, .i t21_0), (7, .q 7 (0)), (19, .p ((fun q : List GValue => AV.lst (q.flatMap GValue.cs) q.length) row0)), (20, .i (row0.length : Int)), (21, .i t21_0), (31, .b g'3)], [(7, .pure (GValue.cs (lrd row0 t21_0.toNat)))], 58⟩ : TS) ?_ ?_
      ·clear H
       have H := h11
       clear h11
       refine AW2_reg [0, 1, 2, 3, 4, 5, 6, 7, 8, 9, 10, 11] rfl ?_
       refine rp rfl rfl (u_fa rfl rfl Tryd.underlying29 rfl in_3 (Nat.succ_ne_zero _) rfl rfl (ne_of_lt (n := 0) (Nat.lt_of_lt_of_eq (by decide) (Eq.symm (GValue.len (lrd row0 t21_0.toNat)))))) ?_
       refine rp rfl rfl (u_ld rfl rfl Tryd.underlying3 rfl rfl ((Sub.refl _).trans (GValue.sub0 (lrd row0 t21_0.toNat)))) ?_
       refine rp rfl rfl (p_ieq rfl rfl rfl) ?_
       refine rp rfl rfl (p_move rfl rfl) ?_
       refine (Classical.em ((lrd row0 t21_0.toNat).Kind = (0 : Int))).elim (fun h9 => ?_) (fun h9 => ?_)
       ·replace H := ite_then h9 H
        refine r_on rfl rfl rfl rfl (decide_eq_true h9) rfl (PureD.opD (p_move rfl rfl)) ?_
        refine r_on rfl rfl rfl rfl (decide_eq_true h9) rfl (PureD.opD (p_move rfl rfl)) ?_
        refine chkK H fun h10 H => ?_
        refine r_on rfl rfl rfl rfl (decide_eq_true h9) rfl (PureD.opD (u_ixl rfl rfl Tryd.underlying35 in_68 rfl rfl (ixe h10) (ixn h10) (fne (fun x => (GColumn.len x)) (by decide) (ixn h10)))) ?_
        refine r_on rfl rfl rfl rfl (decide_eq_true h9) rfl (PureD.opD (u_far rfl rfl Tryd.underlying68 rfl in_4 (Nat.succ_ne_zero _) rfl)) ?_
        refine r_on rfl rfl rfl rfl (decide_eq_true h9) rfl (PureD.opD (u_ld rfl rfl Tryd.underlying4 rfl rfl ((Sub.fm default (fun x => (GColumn.len x)) (ixn h10)).trans (GColumn.sub2 (lrd cols1 t21_0.toNat))))) ?_
        refine r_on rfl rfl rfl rfl (decide_eq_true h9) rfl (PureD.opD (p_not rfl rfl)) ?_
        refine rp rfl rfl (p_pkt rfl rfl (decide_eq_true h9) (.same _)) ?_
        refine rp rfl rfl (p_asg rfl rfl) ?_
        refine rs [(1, .p ((fun q : List GColumn => AV.lst (q.flatMap GColumn.cs) q.length) cols1)), (6, .i t21_0), (7, .q 7 (0)), (19, .p ((fun q : List GValue => AV.lst (q.flatMap GValue.cs) q.length) row0)), (20, .i (row0.length : Int)), (21, .i t21_0), (31, .b (!((lrd cols1 t21_0.toNat).Null)))] [(7, .pure (GValue.cs (lrd row0 t21_0.toNat)))] rfl rfl rfl ?_
        have hz := some_elim H
        subst hz
        exact RunW_nil rfl
       ·replace H := ite_else h9 H
        refine r_off rfl rfl rfl rfl (decide_eq_false h9) rfl rfl ?_
        refine r_off rfl rfl rfl rfl (decide_eq_false h9) rfl rfl ?_
        refine r_off rfl rfl rfl rfl (decide_eq_false h9) rfl rfl ?_
        refine r_off rfl rfl rfl rfl (decide_eq_false h9) rfl rfl ?_
        refine r_off rfl rfl rfl rfl (decide_eq_false h9) rfl rfl ?_
        refine r_off rfl rfl rfl rfl (decide_eq_false h9) rfl rfl ?_
        refine rp rfl rfl (p_pkf rfl rfl (decide_eq_false h9) (.same _)) ?_
        refine rp rfl rfl (p_asg rfl rfl) ?_
        refine rs [(1, .p ((fun q : List GColumn => AV.lst (q.flatMap GColumn.cs) q.length) cols1)), (6, .i t21_0), (7, .q 7 (0)), (19, .p ((fun q : List GValue => AV.lst (q.flatMap GValue.cs) q.length) row0)), (20, .i (row0.length : Int)), (21, .i t21_0), (31, .b false)] [(7, .pure (GValue.cs (lrd row0 t21_0.toNat)))] rfl rfl rfl ?_
        have hz := some_elim H
        subst hz
        exact RunW_nil rfl
      ·refine AW2_cond rfl (fun h12 => ?_) (fun h12 => ?_)
       ·replace H := ite_then h12 H
        refine sg [0] rfl ?_
        refine rp rfl rfl (p_asg rfl rfl) ?_
        refine rz [(4, .i (12 : Int))] [] rfl rfl rfl ?_
        refine AW2_ret ?_
        have hz := some_elim H
        subst hz
        exact ⟨rfl, ⟨res_tmp (.same _), trivial⟩, trivial⟩
       ·replace H := ite_else (ne_true h12) H
        refine AW2_seq ?_
        refine bindK H fun g'4 h15 H => ?_
        refine AW2_mid (⟨[(1, .p ((fun q : List GColumn => AV.lst (q.flatMap GColumn.cs) q.length) cols1)), (19, .p ((fun q : List GValue => AV.lst (q.flatMap GValue.cs) q.length) row0)), (20, .i (row0.length : Int)), (21, .i t21_0), (43, .b g'4)], [], 58⟩ : TS) ?_ ?_
        ·clear H
         have H := h15
         clear h15
         refine (Classical.em ((lrd row0 t21_0.toNat).Kind ≠ (0 : Int))).elim (fun h13 => ?_) (fun h13 => ?_)
         ·replace H := ite_then h13 H
          refine chkK H fun h14 H => ?_
          have hz := some_elim H
          subst hz
          refine AW2_ghoQ ?_
          refine AW2_draw 11 [11, 12, 13] (fun k => ([.q 7 (0 + 0), .i ((lrd row0 t21_0.toNat).Kind), .b (decide ((lrd row0 t21_0.toNat).Kind ≠ (0 : Int))), .b (decide ((lrd row0 t21_0.toNat).Kind ≠ (0 : Int))), .q 7 (0 + 0), .i ((lrd row0 t21_0.toNat).Kind), .p ((fun q : List GColumn => AV.lst (q.flatMap GColumn.cs) q.length) cols1), .i t21_0, .p (.rptr (cols1.flatMap GColumn.cs) (t21_0.toNat * 3)), .p (.rptr (cols1.flatMap GColumn.cs) (t21_0.toNat * 3 + 1)), .i ((lrd cols1 t21_0.toNat).Kind)] : List TV).getD k TV.any) (fun k => g_kinds_fits_r14.getD k []) [(1, none), (19, none), (20, none), (21, none), (47, some 3), (49, some 5), (54, some 10)] [] (fun k => g_kinds_fits_r14c.getD k []) mixed (by kernel_rfl) rfl rfl (a_op (g_x rfl (x_p rfl (u_fa rfl rfl Tryd.underlying29 rfl in_3 (Nat.succ_ne_zero _) rfl rfl (ne_of_lt (n := 0) (Nat.lt_of_lt_of_eq (by decide) (Eq.symm (GValue.len (lrd row0 t21_0.toNat)))))) rfl)) (a_op (g_x rfl (x_p rfl (u_ld rfl rfl Tryd.underlying3 rfl rfl ((Sub.refl _).trans (GValue.sub0 (lrd row0 t21_0.toNat)))) rfl)) (a_op (g_x rfl (x_p rfl (p_ine rfl rfl rfl) rfl)) (a_op (g_x rfl (x_p rfl (p_move rfl rfl) rfl)) (a_op (g_on rfl rfl rfl (decide_eq_true h13) rfl (x_p rfl (u_fa rfl rfl Tryd.underlying29 rfl in_3 (Nat.succ_ne_zero _) rfl rfl (ne_of_lt (n := 0) (Nat.lt_of_lt_of_eq (by decide) (Eq.symm (GValue.len (lrd row0 t21_0.toNat)))))) rfl)) (a_op (g_on rfl rfl rfl (decide_eq_true h13) rfl (x_p rfl (u_ld rfl rfl Tryd.underlying3 rfl rfl ((Sub.refl _).trans (GValue.sub0 (lrd row0 t21_0.toNat)))) rfl)) (a_op (g_on rfl rfl rfl (decide_eq_true h13) rfl (x_p rfl (p_move rfl rfl) rfl)) (a_op (g_on rfl rfl rfl (decide_eq_true h13) rfl (x_p rfl (p_move rfl rfl) rfl)) (a_op (g_on rfl rfl rfl (decide_eq_true h13) rfl (x_p rfl (u_ixl rfl rfl Tryd.underlying35 in_68 rfl rfl (ixe h14) (ixn h14) (fne (fun x => (GColumn.len x)) (by decide) (ixn h14))) rfl)) (a_op (g_on rfl rfl rfl (decide_eq_true h13) rfl (x_p rfl (u_far rfl rfl Tryd.underlying68 rfl in_3 (Nat.succ_ne_zero _) rfl) rfl)) (a_op (g_on rfl rfl rfl (decide_eq_true h13) rfl (x_p rfl (u_ld rfl rfl Tryd.underlying3 rfl rfl ((Sub.fm default (fun x => (GColumn.len x)) (ixn h14)).trans (GColumn.sub1 (lrd cols1 t21_0.toNat)))) rfl)) (a_nil)))))))))))) ?_
          refine t_on rfl rfl rfl rfl (decide_eq_true h13) rfl (PureD.opD (p_ine rfl rfl rfl)) ?_
          refine t_op rfl rfl (PureD.opD (p_pkt rfl rfl (decide_eq_true h13) (.same _))) ?_
          refine t_op rfl rfl (PureD.opD (p_asg rfl rfl)) ?_
          refine t_gho (Gho_st (L := [(1, .p ((fun q : List GColumn => AV.lst (q.flatMap GColumn.cs) q.length) cols1)), (19, .p ((fun q : List GValue => AV.lst (q.flatMap GValue.cs) q.length) row0)), (20, .i (row0.length : Int)), (21, .i t21_0), (43, .b (decide ((lrd row0 t21_0.toNat).Kind ≠ (lrd cols1 t21_0.toNat).Kind)))]) (H := []) (N := 58) rfl ⟨TLes.same _, TLes.same _, TLes.same _, TLes.same _, TLes.same _, trivial⟩ trivial) ?_
          exact rfl
         ·replace H := ite_else h13 H
          have hz := some_elim H
          subst hz
          refine AW2_ghoQ ?_
          refine AW2_draw 11 [11, 12, 13] (fun k => ([.q 7 (0 + 0), .i ((lrd row0 t21_0.toNat).Kind), .b (decide ((lrd row0 t21_0.toNat).Kind ≠ (0 : Int))), .b (decide ((lrd row0 t21_0.toNat).Kind ≠ (0 : Int))), .p (.tup []), .p (.tup []), .p (.tup []), .p (.tup []), .p (.tup []), .p (.tup []), .p (.tup [])] : List TV).getD k TV.any) (fun k => g_kinds_fits_r14.getD k []) [(1, none), (19, none), (20, none), (21, none), (47, some 3), (49, some 5), (54, some 10)] [] (fun k => g_kinds_fits_r14c.getD k []) mixed (by kernel_rfl) rfl rfl (a_op (g_x rfl (x_p rfl (u_fa rfl rfl Tryd.underlying29 rfl in_3 (Nat.succ_ne_zero _) rfl rfl (ne_of_lt (n := 0) (Nat.lt_of_lt_of_eq (by decide) (Eq.symm (GValue.len (lrd row0 t21_0.toNat)))))) rfl)) (a_op (g_x rfl (x_p rfl (u_ld rfl rfl Tryd.underlying3 rfl rfl ((Sub.refl _).trans (GValue.sub0 (lrd row0 t21_0.toNat)))) rfl)) (a_op (g_x rfl (x_p rfl (p_ine rfl rfl rfl) rfl)) (a_op (g_x rfl (x_p rfl (p_move rfl rfl) rfl)) (a_op (g_off rfl rfl rfl rfl rfl (decide_eq_false h13) rfl rfl) (a_op (g_off rfl rfl rfl rfl rfl (decide_eq_false h13) rfl rfl) (a_op (g_off rfl rfl rfl rfl rfl (decide_eq_false h13) rfl rfl) (a_op (g_off rfl rfl rfl rfl rfl (decide_eq_false h13) rfl rfl) (a_op (g_off rfl rfl rfl rfl rfl (decide_eq_false h13) rfl rfl) (a_op (g_off rfl rfl rfl rfl rfl (decide_eq_false h13) rfl rfl) (a_op (g_off rfl rfl rfl rfl rfl (decide_eq_false h13) rfl rfl) (a_nil)))))))))))) ?_
          refine t_off rfl rfl rfl rfl (decide_eq_false h13) rfl rfl ?_
          refine t_op rfl rfl (PureD.opD (p_pkf rfl rfl (decide_eq_false h13) (.same _))) ?_
          refine t_op rfl rfl (PureD.opD (p_asg rfl rfl)) ?_
          refine t_gho (Gho_st (L := [(1, .p ((fun q : List GColumn => AV.lst (q.flatMap GColumn.cs) q.length) cols1)), (19, .p ((fun q : List GValue => AV.lst (q.flatMap GValue.cs) q.length) row0)), (20, .i (row0.length : Int)), (21, .i t21_0), (43, .b false)]) (H := []) (N := 58) rfl ⟨TLes.same _, TLes.same _, TLes.same _, TLes.same _, TLes.same _, trivial⟩ trivial) ?_
          exact rfl
        ·refine AW2_cond rfl (fun h16 => ?_) (fun h16 => ?_)
         ·replace H := ite_then h16 H
          refine sg [0] rfl ?_
          refine rp rfl rfl (p_asg rfl rfl) ?_
          refine rz [(4, .i (2 : Int))] [] rfl rfl rfl ?_
          refine AW2_ret ?_
          have hz := some_elim H
          subst hz
          exact ⟨rfl, ⟨res_tmp (.same _), trivial⟩, trivial⟩
         ·replace H := ite_else (ne_true h16) H
          refine as2 [(1, .p ((fun q : List GColumn => AV.lst (q.flatMap GColumn.cs) q.length) cols1)), (19, .p ((fun q : List GValue => AV.lst (q.flatMap GValue.cs) q.length) row0)), (20, .i (row0.length : Int)), (21, .i t21_0)] [] rfl rfl rfl ?_
          refine AW2_skip ?_
          refine AW2_reg [0, 1] rfl ?_
          refine rp rfl rfl (p_bin rfl rfl rfl rfl) ?_
          refine rp rfl rfl (p_move rfl rfl) ?_
          refine rz [(1, .p ((fun q : List GColumn => AV.lst (q.flatMap GColumn.cs) q.length) cols1)), (19, .p ((fun q : List GValue => AV.lst (q.flatMap GValue.cs) q.length) row0)), (20, .i (row0.length : Int)), (21, .i (w64 (t21_0 + (1 : Int))))] [] rfl rfl rfl ?_
          have hz := some_elim H
          subst hz
          exact ⟨rfl, rfl⟩
    ·replace H := ite_else h4 H
     refine as2 [] [] rfl rfl rfl ?_
     refine AW2_exit ?_
     refine thenQ2_exit ?_
     have hz := some_elim H
     subst hz
     exact ⟨rfl, rfl⟩
   ·rcases o'8 with y'9 | y'10
    ·obtain ⟨rfl, hs⟩ := hs
     refine ⟨by simp, ?_⟩
     have hz := some_elim H
     subst hz
     exact ⟨hs.1, hs.2⟩
    ·obtain ⟨rfl, rfl⟩ := hs
     refine ⟨by simp, ?_⟩
     refine blockQ2_exit ?_
     refine sg [0] rfl ?_
     refine rp rfl rfl (p_asg rfl rfl) ?_
     refine rz [(4, .i (0 : Int))] [] rfl rfl rfl ?_
     refine AW2_ret ?_
     have hz := some_elim H
     subst hz
     exact ⟨⟨res_tmp (.same _), trivial⟩, trivial⟩

/-! kinds.Row -/
noncomputable def g_kinds_Row (row0 : List GValue) (cols1 : List GColumn) : Option (Int) :=
  (g_kinds_fits row0 cols1).bind fun r'1 => some r'1
set_option maxHeartbeats 4000000 in
set_option maxRecDepth 100000 in
theorem g_kinds_Row_ac {row0 : List GValue} {cols1 : List GColumn} {r : Int} (H : g_kinds_Row row0 cols1 = some r) : ACp Tryd.prog 16 [((fun q : List GValue => AV.lst (q.flatMap GValue.cs) q.length) row0), ((fun q : List GColumn => AV.lst (q.flatMap GColumn.cs) q.length) cols1)] (AV.int r) := by
 refine ACp_of (AC2_of_body (vs := [.i r]) Tryd.func16 rfl rfl (Nat.le_of_ble_eq_true rfl) rfl ?_) (fun _ => .same _)
 unfold g_kinds_Row at H
 refine as2 [(0, .p ((fun q : List GValue => AV.lst (q.flatMap GValue.cs) q.length) row0)), (1, .p ((fun q : List GColumn => AV.lst (q.flatMap GColumn.cs) q.length) cols1))] [] rfl rfl rfl ?_
 refine sg [0] rfl ?_
 refine rp rfl rfl (p_asg rfl rfl) ?_
 refine rz [(0, .p ((fun q : List GValue => AV.lst (q.flatMap GValue.cs) q.length) row0)), (1, .p ((fun q : List GColumn => AV.lst (q.flatMap GColumn.cs) q.length) cols1))] [] rfl rfl rfl ?_
 refine sg [0, 1, 2, 3] rfl ?_
 refine rp rfl rfl (p_move rfl rfl) ?_
 refine rp rfl rfl (p_move rfl rfl) ?_
 refine bindK H fun r'1 h1 H => ?_
 refine rp rfl rfl (p_callp rfl rfl rfl Tryd.func42 rfl rfl (g_kinds_fits_ac h1) ⟨rfl, rfl, trivial⟩) ?_
 refine rp rfl rfl (p_asg rfl rfl) ?_
 refine rz [(4, .i r'1)] [] rfl rfl rfl ?_
 refine AW2_ret ?_
 have hz := some_elim H
 subst hz
 exact ⟨⟨res_tmp (.same _), trivial⟩, trivial⟩

/-! table.keys -/
def g_table_keys_r7 : List (List (Nat × Option Nat)) := [[(4, none)], [(19, some 0)], [(20, some 1)], [(6, none), (21, some 2)], [(21, some 2), (22, some 3)], [(21, some 2), (23, some 4)], [(24, some 5)], [(6, none), (25, some 6)], [(25, some 6), (26, some 7)], [(25, some 6), (27, some 8)], [(25, some 6), (28, some 9)], [(4, none), (25, some 6)], [(25, some 6), (30, some 11)], [(25, some 6), (31, some 12)], [(25, some 6), (32, some 13)]]
def g_table_keys_r7c : List (List Nat) := [[], [0], [0, 1], [0, 1, 2], [0, 1, 2, 3], [0, 1, 2, 3, 4], [0, 1, 2, 3, 4, 5], [0, 1, 2, 3, 4, 5, 6], [0, 1, 2, 3, 4, 5, 6, 7], [0, 1, 2, 3, 4, 5, 6, 7, 8], [0, 1, 2, 3, 4, 5, 6, 7, 8, 9], [0, 1, 2, 3, 4, 5, 6], [0, 1, 2, 3, 4, 5, 6, 11], [0, 1, 2, 3, 4, 5, 6, 11, 12], [0, 1, 2, 3, 4, 5, 6, 11, 12, 13], [0, 1, 2, 3, 4, 5, 6, 7, 8, 9, 10, 11, 12, 13, 14], [0, 1, 2, 3, 4, 5, 6, 7, 8, 9, 10, 11, 12, 13, 14, 15]]
noncomputable def g_table_keys_l1 (d0 : Vector GCell 4) (t8_0 : Int) : Int → Option (Int ⊕ (Int ⊕ Unit))
  | t15_1 => (if t15_1 < (t8_0.toNat : Int) then if 0 ≤ t15_1 ∧ t15_1 < (t8_0.toNat : Int) then ((if ((vrd d0 t8_0.toNat).Full) = true then (if ((vrd d0 t15_1.toNat).Full) = true then if 0 < ((vrd d0 t15_1.toNat).Row).length then if 0 < ((vrd d0 t8_0.toNat).Row).length then some (decide ((lrd ((vrd d0 t15_1.toNat).Row) 0) = (lrd ((vrd d0 t8_0.toNat).Row) 0))) else none else none else some false) else some false)).bind fun g'1 => (if g'1 = true then some (.inr (.inl (8 : Int))) else some (.inl (w64 (t15_1 + (1 : Int))))) else none else some (.inr (.inr ())))
noncomputable def g_table_keys_l0 (d0 : Vector GCell 4) : Int → Option (Int ⊕ (Int ⊕ Unit))
  | t8_0 => (if t8_0 < (4 : Int) then if 0 ≤ t8_0 ∧ t8_0 < (4 : Int) then if 0 ≤ t8_0 ∧ t8_0 ≤ (4 : Int) then (loopO (g_table_keys_l1 d0 t8_0) (0 : Int)).bind fun o'5 => match o'5 with | .inl y'6 => some (.inr (.inl y'6)) | .inr (y'7) => some (.inl (w64 (t8_0 + (1 : Int)))) else none else none else some (.inr (.inr ())))
noncomputable def g_table_keys (d0 : Vector GCell 4) : Option (Int) :=
  (loopO (g_table_keys_l0 d0) (0 : Int)).bind fun o'11 => match o'11 with | .inl y'12 => some y'12 | .inr (y'13) => some (0 : Int)
set_option maxHeartbeats 4000000 in
set_option maxRecDepth 100000 in
theorem g_table_keys_ac {d0 : Vector GCell 4} {r : Int} (H : g_table_keys d0 = some r) : ACp Tryd.prog 44 [(.agg (d0.toList.flatMap GCell.cs))] (AV.int r) := by
 refine ACp_of (AC2_of_body (vs := [.i r]) Tryd.func44 rfl rfl (Nat.le_of_ble_eq_true rfl) rfl ?_) (fun _ => .same _)
 unfold g_table_keys at H
 refine as2 [(0, .g (d0.toList.flatMap GCell.cs))] [] rfl rfl rfl ?_
 refine sg [0, 1] rfl ?_
 refine r_op rfl rfl (MakeD.opD (n_box 1 rfl rfl) rfl rfl rfl rfl) ?_
 refine rp rfl rfl (p_asg rfl rfl) ?_
 refine rz [(1, .q 1 (0))] [(1, .pure (d0.toList.flatMap GCell.cs))] rfl rfl rfl ?_
 refine AW2_seq ?_
 refine sg [0, 1] rfl ?_
 refine rp rfl rfl (u_lda rfl rfl Tryd.underlying43 rfl in_43 rfl (Nat.succ_pos _) (Sub.refl _) (vfm_len (fun x => (GCell.len x)) d0)) ?_
 refine rp rfl rfl (p_move rfl rfl) ?_
 refine rz [(1, .q 1 (0)), (7, .g (d0.toList.flatMap GCell.cs)), (8, .i (0 : Int))] [(1, .pure (d0.toList.flatMap GCell.cs))] rfl rfl rfl ?_
 refine AW2_block ?_
 refine as2 [(1, .q 1 (0)), (7, .g (d0.toList.flatMap GCell.cs)), (8, .i (0 : Int))] [(1, .pure (d0.toList.flatMap GCell.cs))] rfl rfl rfl ?_
 refine bindK H fun o'11 h13 H => ?_
 refine AW2_loopO (fun a'8 : Int => (⟨[(1, .q 1 (0)), (7, .g (d0.toList.flatMap GCell.cs)), (8, .i a'8)], [(1, .pure (d0.toList.flatMap GCell.cs))], 38⟩ : TS)) (fun (o : Int ⊕ Unit) e s' => match o with | .inl y'9 => e = Go.Exit.ret ∧ ResAll Tryd.prog s' [ResultVar.tmp 2] [.i y'9] ∧ HFits s' [] | .inr (y'10) => e = Go.Exit.exit 0 ∧ s' = (⟨[], [], 38⟩ : TS)) h13 rfl (fun t8_0 x hx => ?_) (fun e s' hs => ?_)
 ·clear H
  have H := hx
  clear hx
  unfold g_table_keys_l0 at H
  refine sg [0] rfl ?_
  refine rp rfl rfl (p_bin rfl rfl rfl rfl) ?_
  refine rz [(1, .q 1 (0)), (7, .g (d0.toList.flatMap GCell.cs)), (8, .i t8_0), (9, .b (decide (t8_0 < (4 : Int))))] [(1, .pure (d0.toList.flatMap GCell.cs))] rfl rfl rfl ?_
  refine AW2_seq ?_
  refine AW2_if (p := t8_0 < (4 : Int)) rfl (fun h1 => ?_) (fun h1 => ?_)
  ·replace H := ite_then h1 H
   refine as2 [(1, .q 1 (0)), (7, .g (d0.toList.flatMap GCell.cs)), (8, .i t8_0)] [(1, .pure (d0.toList.flatMap GCell.cs))] rfl rfl rfl ?_
   refine AW2_skip ?_
   refine AW2_seq ?_
   refine AW2_block ?_
   refine sg [0, 1, 2, 3, 4] rfl ?_
   refine rp rfl rfl (p_move rfl rfl) ?_
   refine chkK H fun h2 H => ?_
   refine rp rfl rfl (u_ixaa rfl rfl Tryd.underlying43 in_42 Tryd.underlying42 rfl rfl rfl (ixe h2) (ixn h2) (Sub.vfm (fun x => (GCell.len x)) (ixn h2)) (GCell.len (vrd d0 t8_0.toNat))) ?_
   refine r_op rfl rfl (MakeD.opD (u_alloc 4 rfl in_42 one_42 zc_42) rfl rfl rfl rfl) ?_
   refine rp rfl rfl (p_asg rfl rfl) ?_
   refine r_op rfl rfl (u_st rfl rfl rfl rfl rfl in_42 (GCell.len (vrd d0 t8_0.toNat)) (ne_of_lt (n := 0) (Nat.lt_of_lt_of_eq (by decide) (Eq.symm (GCell.len GCell.zero)))) (Upd.refl ((GCell.len (vrd d0 t8_0.toNat)).trans (GCell.len GCell.zero).symm))) ?_
   refine rz [(1, .q 1 (0)), (3, .i t8_0), (4, .q 4 (0)), (7, .g (d0.toList.flatMap GCell.cs)), (8, .i t8_0)] [(1, .pure (d0.toList.flatMap GCell.cs)), (4, .pure (GCell.cs (vrd d0 t8_0.toNat)))] rfl rfl rfl ?_
   refine sg [0, 1, 2, 3] rfl ?_
   refine rp rfl rfl (p_move rfl rfl) ?_
   refine chkK H fun h3 H => ?_
   refine rp rfl rfl (u_cutah rfl rfl Tryd.underlying43 in_42 rfl rfl (ne_of_lt (n := 0) (Nat.lt_of_lt_of_eq (by decide) (Eq.symm (vfm_len (fun x => (GCell.len x)) d0)))) (Sub.refl _) ((vfm_len (fun x => (GCell.len x)) d0).trans (by decide)) (bT_i h3.1 rfl) (toNat_le h3)) ?_
   refine rp rfl rfl (u_lens rfl Tryd.underlying89 rfl rfl rfl (ne_of_lt (n := 0) (Nat.lt_of_lt_of_eq (by decide) (Eq.symm (vfm_len (fun x => (GCell.len x)) d0))))) ?_
   refine rp rfl rfl (p_move rfl rfl) ?_
   refine rz [(1, .q 1 (0)), (4, .q 4 (0)), (7, .g (d0.toList.flatMap GCell.cs)), (8, .i t8_0), (13, .c (.sl 1 (0 + 0 * 2) t8_0.toNat 2)), (14, .i (t8_0.toNat : Int)), (15, .i (0 : Int))] [(1, .pure (d0.toList.flatMap GCell.cs)), (4, .pure (GCell.cs (vrd d0 t8_0.toNat)))] rfl rfl rfl ?_
   refine AW2_block ?_
   refine as2 [(1, .q 1 (0)), (4, .q 4 (0)), (7, .g (d0.toList.flatMap GCell.cs)), (8, .i t8_0), (13, .c (.sl 1 (0 + 0 * 2) t8_0.toNat 2)), (14, .i (t8_0.toNat : Int)), (15, .i (0 : Int))] [(1, .pure (d0.toList.flatMap GCell.cs)), (4, .pure (GCell.cs (vrd d0 t8_0.toNat)))] rfl rfl rfl ?_
   refine bindK H fun o'5 h12 H => ?_
   refine AW2_loopO (fun a'2 : Int => (⟨[(1, .q 1 (0)), (4, .q 4 (0)), (7, .g (d0.toList.flatMap GCell.cs)), (8, .i t8_0), (13, .c (.sl 1 (0 + 0 * 2) t8_0.toNat 2)), (14, .i (t8_0.toNat : Int)), (15, .i a'2)], [(1, .pure (d0.toList.flatMap GCell.cs)), (4, .pure (GCell.cs (vrd d0 t8_0.toNat)))], 38⟩ : TS)) (fun (o : Int ⊕ Unit) e s' => match o with | .inl y'3 => e = Go.Exit.ret ∧ ResAll Tryd.prog s' [ResultVar.tmp 2] [.i y'3] ∧ HFits s' [] | .inr (y'4) => e = Go.Exit.exit 2 ∧ s' = (⟨[(1, .q 1 (0)), (7, .g (d0.toList.flatMap GCell.cs)), (8, .i t8_0)], [(1, .pure (d0.toList.flatMap GCell.cs))], 38⟩ : TS)) h12 rfl (fun t15_1 x hx => ?_) (fun e s' hs => ?_)
   ·clear H
    have H := hx
    clear hx
    unfold g_table_keys_l1 at H
    refine sg [0] rfl ?_
    refine rp rfl rfl (p_bin rfl rfl rfl rfl) ?_
    refine rz [(1, .q 1 (0)), (4, .q 4 (0)), (7, .g (d0.toList.flatMap GCell.cs)), (8, .i t8_0), (13, .c (.sl 1 (0 + 0 * 2) t8_0.toNat 2)), (14, .i (t8_0.toNat : Int)), (15, .i t15_1), (16, .b (decide (t15_1 < (t8_0.toNat : Int))))] [(1, .pure (d0.toList.flatMap GCell.cs)), (4, .pure (GCell.cs (vrd d0 t8_0.toNat)))] rfl rfl rfl ?_
    refine AW2_seq ?_
    refine AW2_if (p := t15_1 < (t8_0.toNat : Int)) rfl (fun h4 => ?_) (fun h4 => ?_)
    ·replace H := ite_then h4 H
     refine as2 [(1, .q 1 (0)), (4, .q 4 (0)), (7, .g (d0.toList.flatMap GCell.cs)), (8, .i t8_0), (13, .c (.sl 1 (0 + 0 * 2) t8_0.toNat 2)), (14, .i (t8_0.toNat : Int)), (15, .i t15_1)] [(1, .pure (d0.toList.flatMap GCell.cs)), (4, .pure (GCell.cs (vrd d0 t8_0.toNat)))] rfl rfl rfl ?_
     refine AW2_skip ?_
     refine AW2_seq ?_
     refine AW2_block ?_
     refine sg [0, 1, 2, 3] rfl ?_
     refine chkK H fun h5 H => ?_
     refine rp rfl rfl (u_ixs rfl rfl Tryd.underlying89 in_42 rfl rfl (ne_of_lt (n := 0) (Nat.lt_of_lt_of_eq (by decide) (Eq.symm (vfm_len (fun x => (GCell.len x)) d0)))) rfl (ixe h5) (ixn h5)) ?_
     refine rp rfl rfl (u_lda rfl rfl Tryd.underlying42 rfl in_42 rfl (Nat.succ_pos _) ((Sub.refl _).trans (Sub.vfm (fun x => (GCell.len x)) (Nat.lt_of_lt_of_le (ixn h5) (toNat_le h3)))) (GCell.len (vrd d0 t15_1.toNat))) ?_
     refine r_op rfl rfl (MakeD.opD (u_alloc 6 rfl in_42 one_42 zc_42) rfl rfl rfl rfl) ?_
     refine r_op rfl rfl (u_st rfl rfl rfl rfl rfl in_42 (GCell.len (vrd d0 t15_1.toNat)) (ne_of_lt (n := 0) (Nat.lt_of_lt_of_eq (by decide) (Eq.symm (GCell.len GCell.zero)))) (Upd.refl ((GCell.len (vrd d0 t15_1.toNat)).trans (GCell.len GCell.zero).symm))) ?_
     refine rz [(1, .q 1 (0)), (4, .q 4 (0)), (6, .q 6 (0)), (7, .g (d0.toList.flatMap GCell.cs)), (8, .i t8_0), (13, .c (.sl 1 (0 + 0 * 2) t8_0.toNat 2)), (14, .i (t8_0.toNat : Int)), (15, .i t15_1)] [(1, .pure (d0.toList.flatMap GCell.cs)), (4, .pure (GCell.cs (vrd d0 t8_0.toNat))), (6, .pure (GCell.cs (vrd d0 t15_1.toNat)))] rfl rfl rfl ?_
     refine AW2_seq ?_
     refine bindK H fun g'1 h10 H => ?_
     refine AW2_mid (⟨[(1, .q 1 (0)), (4, .q 4 (0)), (7, .g (d0.toList.flatMap GCell.cs)), (8, .i t8_0), (13, .c (.sl 1 (0 + 0 * 2) t8_0.toNat 2)), (14, .i (t8_0.toNat : Int)), (15, .i t15_1), (35, .b g'1)], [(1, .pure (d0.toList.flatMap GCell.cs)), (4, .pure (GCell.cs (vrd d0 t8_0.toNat)))], 38⟩ : TS) ?_ ?_
     ·clear H
      have H := h10
      clear h10
      refine (Classical.em (((vrd d0 t8_0.toNat).Full) = true)).elim (fun h6 => ?_) (fun h6 => ?_)
      ·replace H := ite_then h6 H
       refine (Classical.em (((vrd d0 t15_1.toNat).Full) = true)).elim (fun h7 => ?_) (fun h7 => ?_)
       ·replace H := ite_then h7 H
        refine chkK H fun h8 H => ?_
        refine chkK H fun h9 H => ?_
        have hz := some_elim H
        subst hz
        refine AW2_ghoQ ?_
        refine AW2_draw 15 [15, 16] (fun k => ([.q 4 (0 + 0), .b ((vrd d0 t8_0.toNat).Full), .b ((vrd d0 t8_0.toNat).Full), .q 6 (0 + 0), .b ((vrd d0 t15_1.toNat).Full), .b ((vrd d0 t15_1.toNat).Full), .b ((vrd d0 t15_1.toNat).Full), .q 6 (0 + 1), .p ((fun q : List GValue => AV.lst (q.flatMap GValue.cs) q.length) ((vrd d0 t15_1.toNat).Row)), .p (.rptr (((vrd d0 t15_1.toNat).Row).flatMap GValue.cs) (0 * 4)), .g (GValue.cs (lrd ((vrd d0 t15_1.toNat).Row) 0)), .q 4 (0 + 1), .p ((fun q : List GValue => AV.lst (q.flatMap GValue.cs) q.length) ((vrd d0 t8_0.toNat).Row)), .p (.rptr (((vrd d0 t8_0.toNat).Row).flatMap GValue.cs) (0 * 4)), .g (GValue.cs (lrd ((vrd d0 t8_0.toNat).Row) 0))] : List TV).getD k TV.any) (fun k => g_table_keys_r7.getD k []) [(1, none), (4, none), (7, none), (8, none), (13, none), (14, none), (15, none), (25, some 6), (29, some 10), (33, some 14)] [] (fun k => g_table_keys_r7c.getD k []) mixed (by kernel_rfl) rfl rfl (a_op (g_x rfl (x_p rfl (u_fa rfl rfl Tryd.underlying42 rfl in_4 (Nat.succ_ne_zero _) rfl rfl (ne_of_lt (n := 0) (Nat.lt_of_lt_of_eq (by decide) (Eq.symm (GCell.len (vrd d0 t8_0.toNat)))))) rfl)) (a_op (g_x rfl (x_p rfl (u_ld rfl rfl Tryd.underlying4 rfl rfl ((Sub.refl _).trans (GCell.sub0 (vrd d0 t8_0.toNat)))) rfl)) (a_op (g_x rfl (x_p rfl (p_move rfl rfl) rfl)) (a_op (g_on rfl rfl rfl h6 rfl (x_p rfl (u_fa rfl rfl Tryd.underlying42 rfl in_4 (Nat.succ_ne_zero _) rfl rfl (ne_of_lt (n := 0) (Nat.lt_of_lt_of_eq (by decide) (Eq.symm (GCell.len (vrd d0 t15_1.toNat)))))) rfl)) (a_op (g_on rfl rfl rfl h6 rfl (x_p rfl (u_ld rfl rfl Tryd.underlying4 rfl rfl ((Sub.refl _).trans (GCell.sub0 (vrd d0 t15_1.toNat)))) rfl)) (a_op (g_x rfl (x_p rfl (p_pkt rfl rfl h6 (.same _)) rfl)) (a_op (g_x rfl (x_p rfl (p_move rfl rfl) rfl)) (a_op (g_on rfl rfl rfl h7 rfl (x_p rfl (u_fa rfl rfl Tryd.underlying42 rfl in_38 (Nat.succ_ne_zero _) rfl rfl (ne_of_lt (n := 0) (Nat.lt_of_lt_of_eq (by decide) (Eq.symm (GCell.len (vrd d0 t15_1.toNat)))))) rfl)) (a_op (g_on rfl rfl rfl h7 rfl (x_p rfl (u_ld rfl rfl Tryd.underlying38 rfl rfl ((Sub.refl _).trans (GCell.sub1 (vrd d0 t15_1.toNat)))) rfl)) (a_op (g_on rfl rfl rfl h7 rfl (x_p rfl (u_ixl rfl rfl Tryd.underlying38 in_29 rfl rfl rfl h8 (fne (fun x => (GValue.len x)) (by decide) h8)) rfl)) (a_op (g_on rfl rfl rfl h7 rfl (x_p rfl (u_lda rfl rfl Tryd.underlying29 rfl in_29 rfl (Nat.succ_pos _) (Sub.fm default (fun x => (GValue.len x)) h8) (GValue.len (lrd ((vrd d0 t15_1.toNat).Row) 0))) rfl)) (a_op (g_on rfl rfl rfl h7 rfl (x_p rfl (u_fa rfl rfl Tryd.underlying42 rfl in_38 (Nat.succ_ne_zero _) rfl rfl (ne_of_lt (n := 0) (Nat.lt_of_lt_of_eq (by decide) (Eq.symm (GCell.len (vrd d0 t8_0.toNat)))))) rfl)) (a_op (g_on rfl rfl rfl h7 rfl (x_p rfl (u_ld rfl rfl Tryd.underlying38 rfl rfl ((Sub.refl _).trans (GCell.sub1 (vrd d0 t8_0.toNat)))) rfl)) (a_op (g_on rfl rfl rfl h7 rfl (x_p rfl (u_ixl rfl rfl Tryd.underlying38 in_29 rfl rfl rfl h9 (fne (fun x => (GValue.len x)) (by decide) h9)) rfl)) (a_op (g_on rfl rfl rfl h7 rfl (x_p rfl (u_lda rfl rfl Tryd.underlying29 rfl in_29 rfl (Nat.succ_pos _) (Sub.fm default (fun x => (GValue.len x)) h9) (GValue.len (lrd ((vrd d0 t8_0.toNat).Row) 0))) rfl)) (a_nil)))))))))))))))) ?_
        refine t_on rfl rfl rfl rfl h7 rfl (PureD.opD (p_eqa (a := (lrd ((vrd d0 t15_1.toNat).Row) 0)) (b := (lrd ((vrd d0 t8_0.toNat).Row) 0)) rfl eq_29 rfl (by kernel_rfl) rfl rfl)) ?_
        refine t_op rfl rfl (PureD.opD (p_pkt rfl rfl h7 (.same _))) ?_
        refine t_gho (Gho_st (L := [(1, .q 1 (0)), (4, .q 4 (0)), (7, .g (d0.toList.flatMap GCell.cs)), (8, .i t8_0), (13, .c (.sl 1 (0 + 0 * 2) t8_0.toNat 2)), (14, .i (t8_0.toNat : Int)), (15, .i t15_1), (35, .b (decide ((lrd ((vrd d0 t15_1.toNat).Row) 0) = (lrd ((vrd d0 t8_0.toNat).Row) 0))))]) (H := [(1, .pure (d0.toList.flatMap GCell.cs)), (4, .pure (GCell.cs (vrd d0 t8_0.toNat)))]) (N := 38) rfl ⟨TLes.same _, TLes.same _, TLes.same _, TLes.same _, TLes.same _, TLes.same _, TLes.same _, TLes.same _, trivial⟩ ⟨rfl, rfl, trivial⟩) ?_
        exact rfl
       ·replace H := ite_else h7 H
        have hz := some_elim H
        subst hz
        refine AW2_ghoQ ?_
        refine AW2_draw 15 [15, 16] (fun k => ([.q 4 (0 + 0), .b ((vrd d0 t8_0.toNat).Full), .b ((vrd d0 t8_0.toNat).Full), .q 6 (0 + 0), .b ((vrd d0 t15_1.toNat).Full), .b ((vrd d0 t15_1.toNat).Full), .b ((vrd d0 t15_1.toNat).Full), .p (.tup []), .p (.tup []), .p (.tup []), .p (.tup []), .p (.tup []), .p (.tup []), .p (.tup []), .p (.tup [])] : List TV).getD k TV.any) (fun k => g_table_keys_r7.getD k []) [(1, none), (4, none), (7, none), (8, none), (13, none), (14, none), (15, none), (25, some 6), (29, some 10), (33, some 14)] [] (fun k => g_table_keys_r7c.getD k []) mixed (by kernel_rfl) rfl rfl (a_op (g_x rfl (x_p rfl (u_fa rfl rfl Tryd.underlying42 rfl in_4 (Nat.succ_ne_zero _) rfl rfl (ne_of_lt (n := 0) (Nat.lt_of_lt_of_eq (by decide) (Eq.symm (GCell.len (vrd d0 t8_0.toNat)))))) rfl)) (a_op (g_x rfl (x_p rfl (u_ld rfl rfl Tryd.underlying4 rfl rfl ((Sub.refl _).trans (GCell.sub0 (vrd d0 t8_0.toNat)))) rfl)) (a_op (g_x rfl (x_p rfl (p_move rfl rfl) rfl)) (a_op (g_on rfl rfl rfl h6 rfl (x_p rfl (u_fa rfl rfl Tryd.underlying42 rfl in_4 (Nat.succ_ne_zero _) rfl rfl (ne_of_lt (n := 0) (Nat.lt_of_lt_of_eq (by decide) (Eq.symm (GCell.len (vrd d0 t15_1.toNat)))))) rfl)) (a_op (g_on rfl rfl rfl h6 rfl (x_p rfl (u_ld rfl rfl Tryd.underlying4 rfl rfl ((Sub.refl _).trans (GCell.sub0 (vrd d0 t15_1.toNat)))) rfl)) (a_op (g_x rfl (x_p rfl (p_pkt rfl rfl h6 (.same _)) rfl)) (a_op (g_x rfl (x_p rfl (p_move rfl rfl) rfl)) (a_op (g_off rfl rfl rfl rfl rfl (bfalse h7) rfl rfl) (a_op (g_off rfl rfl rfl rfl rfl (bfalse h7) rfl rfl) (a_op (g_off rfl rfl rfl rfl rfl (bfalse h7) rfl rfl) (a_op (g_off rfl rfl rfl rfl rfl (bfalse h7) rfl rfl) (a_op (g_off rfl rfl rfl rfl rfl (bfalse h7) rfl rfl) (a_op (g_off rfl rfl rfl rfl rfl (bfalse h7) rfl rfl) (a_op (g_off rfl rfl rfl rfl rfl (bfalse h7) rfl rfl) (a_op (g_off rfl rfl rfl rfl rfl (bfalse h7) rfl rfl) (a_nil)))))))))))))))) ?_
        refine t_off rfl rfl rfl rfl (bfalse h7) rfl rfl ?_
        refine t_op rfl rfl (PureD.opD (p_pkf rfl rfl (bfalse h7) (.same _))) ?_
        refine t_gho (Gho_st (L := [(1, .q 1 (0)), (4, .q 4 (0)), (7, .g (d0.toList.flatMap GCell.cs)), (8, .i t8_0), (13, .c (.sl 1 (0 + 0 * 2) t8_0.toNat 2)), (14, .i (t8_0.toNat : Int)), (15, .i t15_1), (35, .b false)]) (H := [(1, .pure (d0.toList.flatMap GCell.cs)), (4, .pure (GCell.cs (vrd d0 t8_0.toNat)))]) (N := 38) rfl ⟨TLes.same _, TLes.same _, TLes.same _, TLes.same _, TLes.same _, TLes.same _, TLes.same _, TLes.same _, trivial⟩ ⟨rfl, rfl, trivial⟩) ?_
        exact rfl
      ·replace H := ite_else h6 H
       have hz := some_elim H
       subst hz
       refine AW2_ghoQ ?_
       refine AW2_draw 15 [15, 16] (fun k => ([.q 4 (0 + 0), .b ((vrd d0 t8_0.toNat).Full), .b ((vrd d0 t8_0.toNat).Full), .p (.tup []), .p (.tup []), .b false, .b false, .p (.tup []), .p (.tup []), .p (.tup []), .p (.tup []), .p (.tup []), .p (.tup []), .p (.tup []), .p (.tup [])] : List TV).getD k TV.any) (fun k => g_table_keys_r7.getD k []) [(1, none), (4, none), (7, none), (8, none), (13, none), (14, none), (15, none), (25, some 6), (29, some 10), (33, some 14)] [] (fun k => g_table_keys_r7c.getD k []) mixed (by kernel_rfl) rfl rfl (a_op (g_x rfl (x_p rfl (u_fa rfl rfl Tryd.underlying42 rfl in_4 (Nat.succ_ne_zero _) rfl rfl (ne_of_lt (n := 0) (Nat.lt_of_lt_of_eq (by decide) (Eq.symm (GCell.len (vrd d0 t8_0.toNat)))))) rfl)) (a_op (g_x rfl (x_p rfl (u_ld rfl rfl Tryd.underlying4 rfl rfl ((Sub.refl _).trans (GCell.sub0 (vrd d0 t8_0.toNat)))) rfl)) (a_op (g_x rfl (x_p rfl (p_move rfl rfl) rfl)) (a_op (g_off rfl rfl rfl rfl rfl (bfalse h6) rfl rfl) (a_op (g_off rfl rfl rfl rfl rfl (bfalse h6) rfl rfl) (a_op (g_x rfl (x_p rfl (p_pkf rfl rfl (bfalse h6) (.same _)) rfl)) (a_op (g_x rfl (x_p rfl (p_move rfl rfl) rfl)) (a_op (g_off rfl rfl rfl rfl rfl (bfalse (by decide)) rfl rfl) (a_op (g_off rfl rfl rfl rfl rfl (bfalse (by decide)) rfl rfl) (a_op (g_off rfl rfl rfl rfl rfl (bfalse (by decide)) rfl rfl) (a_op (g_off rfl rfl rfl rfl rfl (bfalse (by decide)) rfl rfl) (a_op (g_off rfl rfl rfl rfl rfl (bfalse (by decide)) rfl rfl) (a_op (g_off rfl rfl rfl rfl rfl (bfalse (by decide)) rfl rfl) (a_op (g_off rfl rfl rfl rfl rfl (bfalse (by decide)) rfl rfl) (a_op (g_off rfl rfl rfl rfl rfl (bfalse (by decide)) rfl rfl) (a_nil)))))))))))))))) ?_
       refine t_off rfl rfl rfl rfl (bfalse (by decide)) rfl rfl ?_
       refine t_op rfl rfl (PureD.opD (p_pkf rfl rfl (bfalse (by decide)) (.same _))) ?_
       refine t_gho (Gho_st (L := [(1, .q 1 (0)), (4, .q 4 (0)), (7, .g (d0.toList.flatMap GCell.cs)), (8, .i t8_0), (13, .c (.sl 1 (0 + 0 * 2) t8_0.toNat 2)), (14, .i (t8_0.toNat : Int)), (15, .i t15_1), (35, .b false)]) (H := [(1, .pure (d0.toList.flatMap GCell.cs)), (4, .pure (GCell.cs (vrd d0 t8_0.toNat)))]) (N := 38) rfl ⟨TLes.same _, TLes.same _, TLes.same _, TLes.same _, TLes.same _, TLes.same _, TLes.same _, TLes.same _, trivial⟩ ⟨rfl, rfl, trivial⟩) ?_
       exact rfl
     ·refine AW2_cond rfl (fun h11 => ?_) (fun h11 => ?_)
      ·replace H := ite_then h11 H
       refine sg [0] rfl ?_
       refine rp rfl rfl (p_asg rfl rfl) ?_
       refine rz [(2, .i (8 : Int))] [] rfl rfl rfl ?_
       refine AW2_ret ?_
       have hz := some_elim H
       subst hz
       exact ⟨rfl, ⟨res_tmp (.same _), trivial⟩, trivial⟩
      ·replace H := ite_else (ne_true h11) H
       refine as2 [(1, .q 1 (0)), (4, .q 4 (0)), (7, .g (d0.toList.flatMap GCell.cs)), (8, .i t8_0), (13, .c (.sl 1 (0 + 0 * 2) t8_0.toNat 2)), (14, .i (t8_0.toNat : Int)), (15, .i t15_1)] [(1, .pure (d0.toList.flatMap GCell.cs)), (4, .pure (GCell.cs (vrd d0 t8_0.toNat)))] rfl rfl rfl ?_
       refine AW2_skip ?_
       refine AW2_reg [0, 1] rfl ?_
       refine rp rfl rfl (p_bin rfl rfl rfl rfl) ?_
       refine rp rfl rfl (p_move rfl rfl) ?_
       refine rz [(1, .q 1 (0)), (4, .q 4 (0)), (7, .g (d0.toList.flatMap GCell.cs)), (8, .i t8_0), (13, .c (.sl 1 (0 + 0 * 2) t8_0.toNat 2)), (14, .i (t8_0.toNat : Int)), (15, .i (w64 (t15_1 + (1 : Int))))] [(1, .pure (d0.toList.flatMap GCell.cs)), (4, .pure (GCell.cs (vrd d0 t8_0.toNat)))] rfl rfl rfl ?_
       have hz := some_elim H
       subst hz
       exact ⟨rfl, rfl⟩
    ·replace H := ite_else h4 H
     refine as2 [(1, .q 1 (0)), (7, .g (d0.toList.flatMap GCell.cs)), (8, .i t8_0)] [(1, .pure (d0.toList.flatMap GCell.cs))] rfl rfl rfl ?_
     refine AW2_exit ?_
     refine thenQ2_exit ?_
     have hz := some_elim H
     subst hz
     exact ⟨rfl, rfl⟩
   ·rcases o'5 with y'6 | y'7
    ·obtain ⟨rfl, hs⟩ := hs
     refine ⟨by simp, ?_⟩
     have hz := some_elim H
     subst hz
     exact ⟨rfl, hs.1, hs.2⟩
    ·obtain ⟨rfl, rfl⟩ := hs
     refine ⟨by simp, ?_⟩
     refine blockQ2_exit ?_
     refine AW2_reg [0, 1] rfl ?_
     refine rp rfl rfl (p_bin rfl rfl rfl rfl) ?_
     refine rp rfl rfl (p_move rfl rfl) ?_
     refine rz [(1, .q 1 (0)), (7, .g (d0.toList.flatMap GCell.cs)), (8, .i (w64 (t8_0 + (1 : Int))))] [(1, .pure (d0.toList.flatMap GCell.cs))] rfl rfl rfl ?_
     have hz := some_elim H
     subst hz
     exact ⟨rfl, rfl⟩
  ·replace H := ite_else h1 H
   refine as2 [] [] rfl rfl rfl ?_
   refine AW2_exit ?_
   refine thenQ2_exit ?_
   have hz := some_elim H
   subst hz
   exact ⟨rfl, rfl⟩
 ·rcases o'11 with y'12 | y'13
  ·obtain ⟨rfl, hs⟩ := hs
   refine ⟨by simp, ?_⟩
   have hz := some_elim H
   subst hz
   exact ⟨hs.1, hs.2⟩
  ·obtain ⟨rfl, rfl⟩ := hs
   refine ⟨by simp, ?_⟩
   refine blockQ2_exit ?_
   refine sg [0] rfl ?_
   refine rp rfl rfl (p_asg rfl rfl) ?_
   refine rz [(2, .i (0 : Int))] [] rfl rfl rfl ?_
   refine AW2_ret ?_
   have hz := some_elim H
   subst hz
   exact ⟨⟨res_tmp (.same _), trivial⟩, trivial⟩
end Go.Proofs.YtalnmpfjgiecdaaDoor.VM
