/- Functions of the program, as they answer, and that their code comes to these answers. -/
import Derived.Test.YtfekkhinjdmcbaaDoorWt0
namespace Go.Proofs.YtfekkhinjdmcbaaDoor.VM
open Go Go.RowKit

structure GValue where
  Kind : Int
  Int_ : Int
  Bits : UInt64
  Text : List UInt8
deriving DecidableEq, Inhabited
def GValue.zero : GValue := ⟨(0 : Int), (0 : Int), (0 : UInt64), []⟩
def GValue.cs (x : GValue) : List AV := ([(AV.int x.Kind)]) ++ (([(AV.int x.Int_)]) ++ (([(AV.u64 x.Bits)]) ++ ([(AV.txt x.Text)])))
theorem GValue.len (x : GValue) : (GValue.cs x).length = 4 := by
  simp only [GValue.cs, List.length_append]
  rw [show ([(AV.int x.Kind)]).length = 1 from (show ([(AV.int x.Kind)]).length = 1 from rfl), show ([(AV.int x.Int_)]).length = 1 from (show ([(AV.int x.Int_)]).length = 1 from rfl), show ([(AV.u64 x.Bits)]).length = 1 from (show ([(AV.u64 x.Bits)]).length = 1 from rfl), show ([(AV.txt x.Text)]).length = 1 from (show ([(AV.txt x.Text)]).length = 1 from rfl)]
theorem GValue.sub0 (x : GValue) : Sub (GValue.cs x) 0 ([(AV.int x.Kind)]) := Sub.head _ _
abbrev GValue.w0 (x : GValue) (y : Int) : GValue := { x with Kind := y }
theorem GValue.upd0 (x : GValue) (y : Int) : Upd (GValue.cs x) 0 ([(AV.int y)]) (GValue.cs { x with Kind := y }) := Upd.head (show ([(AV.int y)]).length = ([(AV.int x.Kind)]).length from rfl)
theorem GValue.sub1 (x : GValue) : Sub (GValue.cs x) 1 ([(AV.int x.Int_)]) := Sub.skip (k := 1) (show ([(AV.int x.Kind)]).length = 1 from rfl) (Sub.head _ _)
abbrev GValue.w1 (x : GValue) (y : Int) : GValue := { x with Int_ := y }
theorem GValue.upd1 (x : GValue) (y : Int) : Upd (GValue.cs x) 1 ([(AV.int y)]) (GValue.cs { x with Int_ := y }) := Upd.skip (k := 1) (show ([(AV.int x.Kind)]).length = 1 from rfl) (Upd.head (show ([(AV.int y)]).length = ([(AV.int x.Int_)]).length from rfl))
theorem GValue.sub2 (x : GValue) : Sub (GValue.cs x) 2 ([(AV.u64 x.Bits)]) := Sub.skip (k := 1) (show ([(AV.int x.Kind)]).length = 1 from rfl) (Sub.skip (k := 1) (show ([(AV.int x.Int_)]).length = 1 from rfl) (Sub.head _ _))
abbrev GValue.w2 (x : GValue) (y : UInt64) : GValue := { x with Bits := y }
theorem GValue.upd2 (x : GValue) (y : UInt64) : Upd (GValue.cs x) 2 ([(AV.u64 y)]) (GValue.cs { x with Bits := y }) := Upd.skip (k := 1) (show ([(AV.int x.Kind)]).length = 1 from rfl) (Upd.skip (k := 1) (show ([(AV.int x.Int_)]).length = 1 from rfl) (Upd.head (show ([(AV.u64 y)]).length = ([(AV.u64 x.Bits)]).length from rfl)))
theorem GValue.sub3 (x : GValue) : Sub (GValue.cs x) 3 ([(AV.txt x.Text)]) := Sub.skip (k := 1) (show ([(AV.int x.Kind)]).length = 1 from rfl) (Sub.skip (k := 1) (show ([(AV.int x.Int_)]).length = 1 from rfl) (Sub.skip (k := 1) (show ([(AV.u64 x.Bits)]).length = 1 from rfl) (Sub.refl _)))
abbrev GValue.w3 (x : GValue) (y : List UInt8) : GValue := { x with Text := y }
theorem GValue.upd3 (x : GValue) (y : List UInt8) : Upd (GValue.cs x) 3 ([(AV.txt y)]) (GValue.cs { x with Text := y }) := Upd.skip (k := 1) (show ([(AV.int x.Kind)]).length = 1 from rfl) (Upd.skip (k := 1) (show ([(AV.int x.Int_)]).length = 1 from rfl) (Upd.skip (k := 1) (show ([(AV.u64 x.Bits)]).length = 1 from rfl) (Upd.refl (show ([(AV.txt y)]).length = ([(AV.txt x.Text)]).length from rfl))))
theorem GValue.nl (x : GValue) : (GValue.cs x).all noLst1 = true := nlA rfl (nlA rfl (nlA rfl (rfl)))
structure GReply where
  Error : Int
  Count : Int
  Rows : List (List GValue)
deriving DecidableEq, Inhabited
def GReply.zero : GReply := ⟨(0 : Int), (0 : Int), []⟩
def GReply.cs (x : GReply) : List AV := ([(AV.int x.Error)]) ++ (([(AV.int x.Count)]) ++ ([((fun q : List (List GValue) => AV.lst (q.map (fun q : List GValue => AV.lst (q.flatMap GValue.cs) q.length)) q.length) x.Rows)]))
theorem GReply.len (x : GReply) : (GReply.cs x).length = 3 := by
  simp only [GReply.cs, List.length_append]
  rw [show ([(AV.int x.Error)]).length = 1 from (show ([(AV.int x.Error)]).length = 1 from rfl), show ([(AV.int x.Count)]).length = 1 from (show ([(AV.int x.Count)]).length = 1 from rfl), show ([((fun q : List (List GValue) => AV.lst (q.map (fun q : List GValue => AV.lst (q.flatMap GValue.cs) q.length)) q.length) x.Rows)]).length = 1 from (show ([((fun q : List (List GValue) => AV.lst (q.map (fun q : List GValue => AV.lst (q.flatMap GValue.cs) q.length)) q.length) x.Rows)]).length = 1 from rfl)]
theorem GReply.sub0 (x : GReply) : Sub (GReply.cs x) 0 ([(AV.int x.Error)]) := Sub.head _ _
abbrev GReply.w0 (x : GReply) (y : Int) : GReply := { x with Error := y }
theorem GReply.upd0 (x : GReply) (y : Int) : Upd (GReply.cs x) 0 ([(AV.int y)]) (GReply.cs { x with Error := y }) := Upd.head (show ([(AV.int y)]).length = ([(AV.int x.Error)]).length from rfl)
theorem GReply.sub1 (x : GReply) : Sub (GReply.cs x) 1 ([(AV.int x.Count)]) := Sub.skip (k := 1) (show ([(AV.int x.Error)]).length = 1 from rfl) (Sub.head _ _)
abbrev GReply.w1 (x : GReply) (y : Int) : GReply := { x with Count := y }
theorem GReply.upd1 (x : GReply) (y : Int) : Upd (GReply.cs x) 1 ([(AV.int y)]) (GReply.cs { x with Count := y }) := Upd.skip (k := 1) (show ([(AV.int x.Error)]).length = 1 from rfl) (Upd.head (show ([(AV.int y)]).length = ([(AV.int x.Count)]).length from rfl))
theorem GReply.sub2 (x : GReply) : Sub (GReply.cs x) 2 ([((fun q : List (List GValue) => AV.lst (q.map (fun q : List GValue => AV.lst (q.flatMap GValue.cs) q.length)) q.length) x.Rows)]) := Sub.skip (k := 1) (show ([(AV.int x.Error)]).length = 1 from rfl) (Sub.skip (k := 1) (show ([(AV.int x.Count)]).length = 1 from rfl) (Sub.refl _))
abbrev GReply.w2 (x : GReply) (y : List (List GValue)) : GReply := { x with Rows := y }
theorem GReply.upd2 (x : GReply) (y : List (List GValue)) : Upd (GReply.cs x) 2 ([((fun q : List (List GValue) => AV.lst (q.map (fun q : List GValue => AV.lst (q.flatMap GValue.cs) q.length)) q.length) y)]) (GReply.cs { x with Rows := y }) := Upd.skip (k := 1) (show ([(AV.int x.Error)]).length = 1 from rfl) (Upd.skip (k := 1) (show ([(AV.int x.Count)]).length = 1 from rfl) (Upd.refl (show ([((fun q : List (List GValue) => AV.lst (q.map (fun q : List GValue => AV.lst (q.flatMap GValue.cs) q.length)) q.length) y)]).length = ([((fun q : List (List GValue) => AV.lst (q.map (fun q : List GValue => AV.lst (q.flatMap GValue.cs) q.length)) q.length) x.Rows)]).length from rfl)))
theorem in_3 : Info Tryd.prog 3 1 8 (.int .i64 0) := by unfold Info; kernel_rfl
theorem one_3 : (.int .i64 0 : Value).cells.all (·.oneCell') = true := by kernel_rfl
theorem zc_3 : ((.int .i64 0 : Value).cells.toList.map zcell) = [(AV.int (0 : Int))] := by rfl
theorem in_9 : Info Tryd.prog 9 1 16 (.string ⟨#[]⟩) := by unfold Info; kernel_rfl
theorem one_9 : (.string ⟨#[]⟩ : Value).cells.all (·.oneCell') = true := by kernel_rfl
theorem zc_9 : ((.string ⟨#[]⟩ : Value).cells.toList.map zcell) = [(AV.txt [])] := by rfl
theorem in_22 : Info Tryd.prog 22 1 8 (.int .u64 0) := by unfold Info; kernel_rfl
theorem one_22 : (.int .u64 0 : Value).cells.all (·.oneCell') = true := by kernel_rfl
theorem zc_22 : ((.int .u64 0 : Value).cells.toList.map zcell) = [(AV.u64 (0 : UInt64))] := by rfl
theorem in_24 : Info Tryd.prog 24 4 40 (.agg #[.int .i64 0, .int .i64 0, .int .u64 0, .string ⟨#[]⟩]) := by unfold Info; kernel_rfl
theorem one_24 : (.agg #[.int .i64 0, .int .i64 0, .int .u64 0, .string ⟨#[]⟩] : Value).cells.all (·.oneCell') = true := by kernel_rfl
theorem zc_24 : ((.agg #[.int .i64 0, .int .i64 0, .int .u64 0, .string ⟨#[]⟩] : Value).cells.toList.map zcell) = GValue.cs GValue.zero := by rfl
theorem pl_24 : placesOf Tryd.prog 24 = some [(0, 1), (1, 1), (2, 1), (3, 1)] := by kernel_rfl
theorem in_44 : Info Tryd.prog 44 3 40 (.agg #[.int .i64 0, .int .i64 0, .slice none 0 0]) := by unfold Info; kernel_rfl
theorem one_44 : (.agg #[.int .i64 0, .int .i64 0, .slice none 0 0] : Value).cells.all (·.oneCell') = true := by kernel_rfl
theorem zc_44 : ((.agg #[.int .i64 0, .int .i64 0, .slice none 0 0] : Value).cells.toList.map zcell) = GReply.cs GReply.zero := by rfl
theorem pl_44 : placesOf Tryd.prog 44 = some [(0, 1), (1, 1), (2, 1)] := by kernel_rfl
theorem in_25 : Info Tryd.prog 25 1 8 (.int .i64 0) := by unfold Info; kernel_rfl
theorem one_25 : (.int .i64 0 : Value).cells.all (·.oneCell') = true := by kernel_rfl
theorem zc_25 : ((.int .i64 0 : Value).cells.toList.map zcell) = [(AV.int (0 : Int))] := by rfl
theorem in_42 : Info Tryd.prog 42 1 24 (.slice none 0 0) := by unfold Info; kernel_rfl
theorem one_42 : (.slice none 0 0 : Value).cells.all (·.oneCell') = true := by kernel_rfl
theorem zc_42 : ((.slice none 0 0 : Value).cells.toList.map zcell) = [((fun q : List (List GValue) => AV.lst (q.map (fun q : List GValue => AV.lst (q.flatMap GValue.cs) q.length)) q.length) [])] := by rfl
theorem in_32 : Info Tryd.prog 32 1 24 (.slice none 0 0) := by unfold Info; kernel_rfl
theorem one_32 : (.slice none 0 0 : Value).cells.all (·.oneCell') = true := by kernel_rfl
theorem zc_32 : ((.slice none 0 0 : Value).cells.toList.map zcell) = [((fun q : List GValue => AV.lst (q.flatMap GValue.cs) q.length) [])] := by rfl

/-! value.Check -/
noncomputable def g_value_Check (v0 : GValue) : Option (Int) :=
  (if (v0.Kind < (0 : Int)) ∨ (v0.Kind > (4 : Int)) then some (2 : Int) else (if (v0.Text.length : Int) > (40 : Int) then some (1 : Int) else letO (decide ((((v0.Kind ≠ (4 : Int)) ∧ (v0.Text ≠ [])) ∨ ((v0.Kind ≠ (3 : Int)) ∧ (v0.Bits ≠ (0 : UInt64)))) ∨ (((v0.Kind ≠ (2 : Int)) ∧ (v0.Kind ≠ (1 : Int))) ∧ (v0.Int_ ≠ (0 : Int))))) fun t48'1 => (if t48'1 = true then some (3 : Int) else (show Option (Int ⊕ Unit) from (if v0.Kind = (1 : Int) then (if (v0.Int_ ≠ (0 : Int)) ∧ (v0.Int_ ≠ (1 : Int)) then some (.inl (3 : Int)) else some (.inr ())) else (if v0.Kind = (3 : Int) then ((if (fneq v0.Bits v0.Bits) = true then some true else (if (feq v0.Bits (0 : F64)) = true then (g_math_Signbit v0.Bits).bind fun r'4 => some r'4 else some false))).bind fun g'5 => (if g'5 = true then some (.inl (3 : Int)) else some (.inr ())) else (if v0.Kind = (4 : Int) then (g_utf8_ValidString v0.Text).bind fun r'6 => (if (!r'6) = true then some (.inl (3 : Int)) else some (.inr ())) else some (.inr ()))))).bind fun o'8 => match o'8 with | .inl y'7 => some y'7 | .inr j'2 => some (0 : Int))))
set_option maxHeartbeats 4000000 in
set_option maxRecDepth 100000 in
theorem g_value_Check_ac {v0 : GValue} {r : Int} (H : g_value_Check v0 = some r) : ACp Tryd.prog 14 [(.agg (GValue.cs v0))] (AV.int r) := by
 refine ACp_of (AC2_of_body (vs := [.i r]) Tryd.func14 rfl rfl (Nat.le_of_ble_eq_true rfl) rfl ?_) (fun _ => .same _)
 unfold g_value_Check at H
 refine as2 [(0, .g (GValue.cs v0))] [] rfl rfl rfl ?_
 refine sg [0, 1] rfl ?_
 refine r_op rfl rfl (MakeD.opD (n_box 1 rfl rfl) rfl rfl rfl rfl) ?_
 refine rp rfl rfl (p_asg rfl rfl) ?_
 refine rz [(1, .q 1 (0))] [(1, .pure (GValue.cs v0))] rfl rfl rfl ?_
 refine AW2_seq ?_
 refine AW2_seq ?_
 refine AW2_mid (⟨[(1, .q 1 (0)), (11, .b (decide ((v0.Kind < (0 : Int)) ∨ (v0.Kind > (4 : Int)))))], [(1, .pure (GValue.cs v0))], 83⟩ : TS) ?_ ?_
 ·refine AW2_reg [0, 1, 2, 3, 4, 5, 6, 7] rfl ?_
  refine rp rfl rfl (u_fa rfl rfl Tryd.underlying24 rfl in_3 (Nat.succ_ne_zero _) rfl rfl (ne_of_lt (n := 0) (Nat.lt_of_lt_of_eq (by decide) (Eq.symm (GValue.len v0))))) ?_
  refine rp rfl rfl (u_ld rfl rfl Tryd.underlying3 rfl rfl ((Sub.refl _).trans (GValue.sub0 v0))) ?_
  refine rp rfl rfl (p_bin rfl rfl rfl rfl) ?_
  refine rp rfl rfl (p_move rfl rfl) ?_
  refine (Classical.em (v0.Kind < (0 : Int))).elim (fun h1 => ?_) (fun h1 => ?_)
  ·iterate 3 (refine r_off rfl rfl rfl rfl (decide_eq_true h1) rfl rfl ?_)
   refine rp rfl rfl (p_pkt rfl rfl (decide_eq_true h1) (tb (decide_eq_true (p := (v0.Kind < (0 : Int)) ∨ (v0.Kind > (4 : Int))) (Or.inl h1)).symm)) ?_
   refine rs [(1, .q 1 (0)), (11, .b (decide ((v0.Kind < (0 : Int)) ∨ (v0.Kind > (4 : Int)))))] [(1, .pure (GValue.cs v0))] rfl rfl rfl ?_
   exact RunW_nil rfl
  ·refine r_on rfl rfl rfl rfl (decide_eq_false h1) rfl (PureD.opD (u_fa rfl rfl Tryd.underlying24 rfl in_3 (Nat.succ_ne_zero _) rfl rfl (ne_of_lt (n := 0) (Nat.lt_of_lt_of_eq (by decide) (Eq.symm (GValue.len v0)))))) ?_
   refine r_on rfl rfl rfl rfl (decide_eq_false h1) rfl (PureD.opD (u_ld rfl rfl Tryd.underlying3 rfl rfl ((Sub.refl _).trans (GValue.sub0 v0)))) ?_
   refine r_on rfl rfl rfl rfl (decide_eq_false h1) rfl (PureD.opD (p_bin rfl rfl rfl rfl)) ?_
   refine rp rfl rfl (p_pkf rfl rfl (decide_eq_false h1) (tb ((or_l (p := v0.Kind < (0 : Int)) (q := v0.Kind > (4 : Int)) h1)))) ?_
   refine rs [(1, .q 1 (0)), (11, .b (decide ((v0.Kind < (0 : Int)) ∨ (v0.Kind > (4 : Int)))))] [(1, .pure (GValue.cs v0))] rfl rfl rfl ?_
   exact RunW_nil rfl
 ·refine AW2_if (p := (v0.Kind < (0 : Int)) ∨ (v0.Kind > (4 : Int))) rfl (fun h2 => ?_) (fun h2 => ?_)
  ·replace H := ite_then h2 H
   refine sg [0] rfl ?_
   refine rp rfl rfl (p_asg rfl rfl) ?_
   refine rz [(2, .i (2 : Int))] [] rfl rfl rfl ?_
   refine AW2_ret ?_
   have hz := some_elim H
   subst hz
   exact ⟨⟨res_tmp (.same _), trivial⟩, trivial⟩
  ·replace H := ite_else h2 H
   refine as2 [(1, .q 1 (0))] [(1, .pure (GValue.cs v0))] rfl rfl rfl ?_
   refine AW2_skip ?_
   refine AW2_seq ?_
   refine sg [0, 1, 2, 3] rfl ?_
   refine rp rfl rfl (u_fa rfl rfl Tryd.underlying24 rfl in_9 (Nat.succ_ne_zero _) rfl rfl (ne_of_lt (n := 0) (Nat.lt_of_lt_of_eq (by decide) (Eq.symm (GValue.len v0))))) ?_
   refine rp rfl rfl (u_ld rfl rfl Tryd.underlying9 rfl rfl ((Sub.refl _).trans (GValue.sub3 v0))) ?_
   refine rp rfl rfl (p_lent rfl Tryd.underlying9 rfl) ?_
   refine rp rfl rfl (p_bin rfl rfl rfl rfl) ?_
   refine rz [(1, .q 1 (0)), (15, .b (decide ((v0.Text.length : Int) > (40 : Int))))] [(1, .pure (GValue.cs v0))] rfl rfl rfl ?_
   refine AW2_if (p := (v0.Text.length : Int) > (40 : Int)) rfl (fun h3 => ?_) (fun h3 => ?_)
   ·replace H := ite_then h3 H
    refine sg [0] rfl ?_
    refine rp rfl rfl (p_asg rfl rfl) ?_
    refine rz [(2, .i (1 : Int))] [] rfl rfl rfl ?_
    refine AW2_ret ?_
    have hz := some_elim H
    subst hz
    exact ⟨⟨res_tmp (.same _), trivial⟩, trivial⟩
   ·replace H := ite_else h3 H
    refine as2 [(1, .q 1 (0))] [(1, .pure (GValue.cs v0))] rfl rfl rfl ?_
    refine AW2_skip ?_
    refine AW2_seq ?_
    refine AW2_seq ?_
    refine AW2_mid (⟨[(1, .q 1 (0)), (48, .b (decide ((((v0.Kind ≠ (4 : Int)) ∧ (v0.Text ≠ [])) ∨ ((v0.Kind ≠ (3 : Int)) ∧ (v0.Bits ≠ (0 : UInt64)))) ∨ (((v0.Kind ≠ (2 : Int)) ∧ (v0.Kind ≠ (1 : Int))) ∧ (v0.Int_ ≠ (0 : Int))))))], [(1, .pure (GValue.cs v0))], 83⟩ : TS) ?_ ?_
    ·refine AW2_reg [0, 1, 2, 3, 4, 5, 6, 7, 8, 9, 10, 11, 12, 13, 14, 15, 16, 17, 18, 19, 20, 21, 22, 23, 24, 25, 26, 27, 28, 29, 30, 31, 32] rfl ?_
     refine rp rfl rfl (u_fa rfl rfl Tryd.underlying24 rfl in_3 (Nat.succ_ne_zero _) rfl rfl (ne_of_lt (n := 0) (Nat.lt_of_lt_of_eq (by decide) (Eq.symm (GValue.len v0))))) ?_
     refine rp rfl rfl (u_ld rfl rfl Tryd.underlying3 rfl rfl ((Sub.refl _).trans (GValue.sub0 v0))) ?_
     refine rp rfl rfl (p_ine rfl rfl rfl) ?_
     refine rp rfl rfl (p_move rfl rfl) ?_
     refine (Classical.em (v0.Kind ≠ (4 : Int))).elim (fun h4 => ?_) (fun h4 => ?_)
     ·refine r_on rfl rfl rfl rfl (decide_eq_true h4) rfl (PureD.opD (u_fa rfl rfl Tryd.underlying24 rfl in_9 (Nat.succ_ne_zero _) rfl rfl (ne_of_lt (n := 0) (Nat.lt_of_lt_of_eq (by decide) (Eq.symm (GValue.len v0)))))) ?_
      refine r_on rfl rfl rfl rfl (decide_eq_true h4) rfl (PureD.opD (u_ld rfl rfl Tryd.underlying9 rfl rfl ((Sub.refl _).trans (GValue.sub3 v0)))) ?_
      refine r_on rfl rfl rfl rfl (decide_eq_true h4) rfl (PureD.opD (p_sne rfl rfl rfl)) ?_
      refine rp rfl rfl (p_pkt rfl rfl (decide_eq_true h4) (tb ((and_l (p := v0.Kind ≠ (4 : Int)) (q := v0.Text ≠ []) h4)))) ?_
      refine rp rfl rfl (p_move rfl rfl) ?_
      refine (Classical.em (v0.Text ≠ [])).elim (fun h5 => ?_) (fun h5 => ?_)
      ·have qq1 := decide_eq_true (p := (v0.Kind ≠ (4 : Int)) ∧ (v0.Text ≠ [])) ⟨h4, h5⟩
       iterate 4 (refine r_off rfl rfl rfl rfl qq1 rfl rfl ?_)
       iterate 3 (refine r_off2 rfl rfl rfl rfl rfl rfl ?_)
       refine r_off rfl rfl rfl rfl qq1 rfl rfl ?_
       have qq2 := decide_eq_true (p := ((v0.Kind ≠ (4 : Int)) ∧ (v0.Text ≠ [])) ∨ ((v0.Kind ≠ (3 : Int)) ∧ (v0.Bits ≠ (0 : UInt64)))) (Or.inl ⟨h4, h5⟩)
       refine rp rfl rfl (p_pkt rfl rfl qq1 (tb qq2.symm)) ?_
       refine rp rfl rfl (p_move rfl rfl) ?_
       iterate 4 (refine r_off rfl rfl rfl rfl qq2 rfl rfl ?_)
       iterate 3 (refine r_off2 rfl rfl rfl rfl rfl rfl ?_)
       iterate 2 (refine r_off rfl rfl rfl rfl qq2 rfl rfl ?_)
       iterate 3 (refine r_off2 rfl rfl rfl rfl rfl rfl ?_)
       refine r_off rfl rfl rfl rfl qq2 rfl rfl ?_
       refine rp rfl rfl (p_pkt rfl rfl qq2 (tb (decide_eq_true (p := (((v0.Kind ≠ (4 : Int)) ∧ (v0.Text ≠ [])) ∨ ((v0.Kind ≠ (3 : Int)) ∧ (v0.Bits ≠ (0 : UInt64)))) ∨ (((v0.Kind ≠ (2 : Int)) ∧ (v0.Kind ≠ (1 : Int))) ∧ (v0.Int_ ≠ (0 : Int)))) (Or.inl (Or.inl ⟨h4, h5⟩))).symm)) ?_
       refine rs [(1, .q 1 (0)), (48, .b (decide ((((v0.Kind ≠ (4 : Int)) ∧ (v0.Text ≠ [])) ∨ ((v0.Kind ≠ (3 : Int)) ∧ (v0.Bits ≠ (0 : UInt64)))) ∨ (((v0.Kind ≠ (2 : Int)) ∧ (v0.Kind ≠ (1 : Int))) ∧ (v0.Int_ ≠ (0 : Int))))))] [(1, .pure (GValue.cs v0))] rfl rfl rfl ?_
       exact RunW_nil rfl
      ·have qq3 := decide_eq_false (p := (v0.Kind ≠ (4 : Int)) ∧ (v0.Text ≠ [])) (fun h => h5 h.2)
       refine rn rfl rfl rfl rfl qq3 rfl (u_fa rfl rfl Tryd.underlying24 rfl in_3 (Nat.succ_ne_zero _) rfl rfl (ne_of_lt (n := 0) (Nat.lt_of_lt_of_eq (by decide) (Eq.symm (GValue.len v0))))) ?_
       refine rn rfl rfl rfl rfl qq3 rfl (u_ld rfl rfl Tryd.underlying3 rfl rfl ((Sub.refl _).trans (GValue.sub0 v0))) ?_
       refine rn rfl rfl rfl rfl qq3 rfl (p_ine rfl rfl rfl) ?_
       refine rn rfl rfl rfl rfl qq3 rfl (p_move rfl rfl) ?_
       refine (Classical.em (v0.Kind ≠ (3 : Int))).elim (fun h6 => ?_) (fun h6 => ?_)
       ·refine r_on rfl rfl rfl rfl (decide_eq_true h6) rfl (PureD.opD (u_fa rfl rfl Tryd.underlying24 rfl in_22 (Nat.succ_ne_zero _) rfl rfl (ne_of_lt (n := 0) (Nat.lt_of_lt_of_eq (by decide) (Eq.symm (GValue.len v0)))))) ?_
        refine r_on rfl rfl rfl rfl (decide_eq_true h6) rfl (PureD.opD (u_ld rfl rfl Tryd.underlying22 rfl rfl ((Sub.refl _).trans (GValue.sub2 v0)))) ?_
        refine r_on rfl rfl rfl rfl (decide_eq_true h6) rfl (PureD.opD (p_u64ne (a := v0.Bits) (b := (0 : UInt64)) rfl rfl rfl)) ?_
        refine rn rfl rfl rfl rfl qq3 rfl (p_pkt rfl rfl (decide_eq_true h6) (tb ((and_l (p := v0.Kind ≠ (3 : Int)) (q := v0.Bits ≠ (0 : UInt64)) h6)))) ?_
        refine rp rfl rfl (p_pkf rfl rfl qq3 (tb ((or_l (p := (v0.Kind ≠ (4 : Int)) ∧ (v0.Text ≠ [])) (q := (v0.Kind ≠ (3 : Int)) ∧ (v0.Bits ≠ (0 : UInt64))) (fun h => h5 h.2))))) ?_
        refine rp rfl rfl (p_move rfl rfl) ?_
        refine (Classical.em (v0.Bits ≠ (0 : UInt64))).elim (fun h7 => ?_) (fun h7 => ?_)
        ·have qq4 := decide_eq_true (p := ((v0.Kind ≠ (4 : Int)) ∧ (v0.Text ≠ [])) ∨ ((v0.Kind ≠ (3 : Int)) ∧ (v0.Bits ≠ (0 : UInt64)))) (Or.inr ⟨h6, h7⟩)
         iterate 4 (refine r_off rfl rfl rfl rfl qq4 rfl rfl ?_)
         iterate 3 (refine r_off2 rfl rfl rfl rfl rfl rfl ?_)
         iterate 2 (refine r_off rfl rfl rfl rfl qq4 rfl rfl ?_)
         iterate 3 (refine r_off2 rfl rfl rfl rfl rfl rfl ?_)
         refine r_off rfl rfl rfl rfl qq4 rfl rfl ?_
         refine rp rfl rfl (p_pkt rfl rfl qq4 (tb (decide_eq_true (p := (((v0.Kind ≠ (4 : Int)) ∧ (v0.Text ≠ [])) ∨ ((v0.Kind ≠ (3 : Int)) ∧ (v0.Bits ≠ (0 : UInt64)))) ∨ (((v0.Kind ≠ (2 : Int)) ∧ (v0.Kind ≠ (1 : Int))) ∧ (v0.Int_ ≠ (0 : Int)))) (Or.inl (Or.inr ⟨h6, h7⟩))).symm)) ?_
         refine rs [(1, .q 1 (0)), (48, .b (decide ((((v0.Kind ≠ (4 : Int)) ∧ (v0.Text ≠ [])) ∨ ((v0.Kind ≠ (3 : Int)) ∧ (v0.Bits ≠ (0 : UInt64)))) ∨ (((v0.Kind ≠ (2 : Int)) ∧ (v0.Kind ≠ (1 : Int))) ∧ (v0.Int_ ≠ (0 : Int))))))] [(1, .pure (GValue.cs v0))] rfl rfl rfl ?_
         exact RunW_nil rfl
        ·have qq5 := decide_eq_false (p := ((v0.Kind ≠ (4 : Int)) ∧ (v0.Text ≠ [])) ∨ ((v0.Kind ≠ (3 : Int)) ∧ (v0.Bits ≠ (0 : UInt64)))) (not_or.2 ⟨(fun h => h5 h.2), (fun h => h7 h.2)⟩)
         refine rn rfl rfl rfl rfl qq5 rfl (u_fa rfl rfl Tryd.underlying24 rfl in_3 (Nat.succ_ne_zero _) rfl rfl (ne_of_lt (n := 0) (Nat.lt_of_lt_of_eq (by decide) (Eq.symm (GValue.len v0))))) ?_
         refine rn rfl rfl rfl rfl qq5 rfl (u_ld rfl rfl Tryd.underlying3 rfl rfl ((Sub.refl _).trans (GValue.sub0 v0))) ?_
         refine rn rfl rfl rfl rfl qq5 rfl (p_ine rfl rfl rfl) ?_
         refine rn rfl rfl rfl rfl qq5 rfl (p_move rfl rfl) ?_
         refine (Classical.em (v0.Kind ≠ (2 : Int))).elim (fun h8 => ?_) (fun h8 => ?_)
         ·refine r_on rfl rfl rfl rfl (decide_eq_true h8) rfl (PureD.opD (u_fa rfl rfl Tryd.underlying24 rfl in_3 (Nat.succ_ne_zero _) rfl rfl (ne_of_lt (n := 0) (Nat.lt_of_lt_of_eq (by decide) (Eq.symm (GValue.len v0)))))) ?_
          refine r_on rfl rfl rfl rfl (decide_eq_true h8) rfl (PureD.opD (u_ld rfl rfl Tryd.underlying3 rfl rfl ((Sub.refl _).trans (GValue.sub0 v0)))) ?_
          refine r_on rfl rfl rfl rfl (decide_eq_true h8) rfl (PureD.opD (p_ine rfl rfl rfl)) ?_
          refine rn rfl rfl rfl rfl qq5 rfl (p_pkt rfl rfl (decide_eq_true h8) (tb ((and_l (p := v0.Kind ≠ (2 : Int)) (q := v0.Kind ≠ (1 : Int)) h8)))) ?_
          refine rn rfl rfl rfl rfl qq5 rfl (p_move rfl rfl) ?_
          refine (Classical.em (v0.Kind ≠ (1 : Int))).elim (fun h9 => ?_) (fun h9 => ?_)
          ·have qq6 := decide_eq_true (p := (v0.Kind ≠ (2 : Int)) ∧ (v0.Kind ≠ (1 : Int))) ⟨h8, h9⟩
           refine rn rfl rfl rfl rfl qq6 rfl (u_fa rfl rfl Tryd.underlying24 rfl in_3 (Nat.succ_ne_zero _) rfl rfl (ne_of_lt (n := 0) (Nat.lt_of_lt_of_eq (by decide) (Eq.symm (GValue.len v0))))) ?_
           refine rn rfl rfl rfl rfl qq6 rfl (u_ld rfl rfl Tryd.underlying3 rfl rfl ((Sub.refl _).trans (GValue.sub1 v0))) ?_
           refine rn rfl rfl rfl rfl qq6 rfl (p_ine rfl rfl rfl) ?_
           refine rn rfl rfl rfl rfl qq5 rfl (p_pkt rfl rfl qq6 (tb ((and_l (p := (v0.Kind ≠ (2 : Int)) ∧ (v0.Kind ≠ (1 : Int))) (q := v0.Int_ ≠ (0 : Int)) ⟨h8, h9⟩)))) ?_
           refine rp rfl rfl (p_pkf rfl rfl qq5 (tb ((or_l (p := ((v0.Kind ≠ (4 : Int)) ∧ (v0.Text ≠ [])) ∨ ((v0.Kind ≠ (3 : Int)) ∧ (v0.Bits ≠ (0 : UInt64)))) (q := ((v0.Kind ≠ (2 : Int)) ∧ (v0.Kind ≠ (1 : Int))) ∧ (v0.Int_ ≠ (0 : Int))) (not_or.2 ⟨(fun h => h5 h.2), (fun h => h7 h.2)⟩))))) ?_
           refine rs [(1, .q 1 (0)), (48, .b (decide ((((v0.Kind ≠ (4 : Int)) ∧ (v0.Text ≠ [])) ∨ ((v0.Kind ≠ (3 : Int)) ∧ (v0.Bits ≠ (0 : UInt64)))) ∨ (((v0.Kind ≠ (2 : Int)) ∧ (v0.Kind ≠ (1 : Int))) ∧ (v0.Int_ ≠ (0 : Int))))))] [(1, .pure (GValue.cs v0))] rfl rfl rfl ?_
           exact RunW_nil rfl
          ·have qq7 := decide_eq_false (p := (v0.Kind ≠ (2 : Int)) ∧ (v0.Kind ≠ (1 : Int))) (fun h => h9 h.2)
           iterate 3 (refine r_off rfl rfl rfl rfl qq7 rfl rfl ?_)
           refine rn rfl rfl rfl rfl qq5 rfl (p_pkf rfl rfl qq7 (tb (decide_eq_false (p := ((v0.Kind ≠ (2 : Int)) ∧ (v0.Kind ≠ (1 : Int))) ∧ (v0.Int_ ≠ (0 : Int))) (fun x => (fun h => h9 h.2) x.1)).symm)) ?_
           refine rp rfl rfl (p_pkf rfl rfl qq5 (tb ((or_l (p := ((v0.Kind ≠ (4 : Int)) ∧ (v0.Text ≠ [])) ∨ ((v0.Kind ≠ (3 : Int)) ∧ (v0.Bits ≠ (0 : UInt64)))) (q := ((v0.Kind ≠ (2 : Int)) ∧ (v0.Kind ≠ (1 : Int))) ∧ (v0.Int_ ≠ (0 : Int))) (not_or.2 ⟨(fun h => h5 h.2), (fun h => h7 h.2)⟩))))) ?_
           refine rs [(1, .q 1 (0)), (48, .b (decide ((((v0.Kind ≠ (4 : Int)) ∧ (v0.Text ≠ [])) ∨ ((v0.Kind ≠ (3 : Int)) ∧ (v0.Bits ≠ (0 : UInt64)))) ∨ (((v0.Kind ≠ (2 : Int)) ∧ (v0.Kind ≠ (1 : Int))) ∧ (v0.Int_ ≠ (0 : Int))))))] [(1, .pure (GValue.cs v0))] rfl rfl rfl ?_
           exact RunW_nil rfl
         ·iterate 3 (refine r_off rfl rfl rfl rfl (decide_eq_false h8) rfl rfl ?_)
          refine rn rfl rfl rfl rfl qq5 rfl (p_pkf rfl rfl (decide_eq_false h8) (tb (decide_eq_false (p := (v0.Kind ≠ (2 : Int)) ∧ (v0.Kind ≠ (1 : Int))) (fun x => h8 x.1)).symm)) ?_
          refine rn rfl rfl rfl rfl qq5 rfl (p_move rfl rfl) ?_
          have qq8 := decide_eq_false (p := (v0.Kind ≠ (2 : Int)) ∧ (v0.Kind ≠ (1 : Int))) (fun h => h8 h.1)
          iterate 3 (refine r_off rfl rfl rfl rfl qq8 rfl rfl ?_)
          refine rn rfl rfl rfl rfl qq5 rfl (p_pkf rfl rfl qq8 (tb (decide_eq_false (p := ((v0.Kind ≠ (2 : Int)) ∧ (v0.Kind ≠ (1 : Int))) ∧ (v0.Int_ ≠ (0 : Int))) (fun x => (fun h => h8 h.1) x.1)).symm)) ?_
          refine rp rfl rfl (p_pkf rfl rfl qq5 (tb ((or_l (p := ((v0.Kind ≠ (4 : Int)) ∧ (v0.Text ≠ [])) ∨ ((v0.Kind ≠ (3 : Int)) ∧ (v0.Bits ≠ (0 : UInt64)))) (q := ((v0.Kind ≠ (2 : Int)) ∧ (v0.Kind ≠ (1 : Int))) ∧ (v0.Int_ ≠ (0 : Int))) (not_or.2 ⟨(fun h => h5 h.2), (fun h => h7 h.2)⟩))))) ?_
          refine rs [(1, .q 1 (0)), (48, .b (decide ((((v0.Kind ≠ (4 : Int)) ∧ (v0.Text ≠ [])) ∨ ((v0.Kind ≠ (3 : Int)) ∧ (v0.Bits ≠ (0 : UInt64)))) ∨ (((v0.Kind ≠ (2 : Int)) ∧ (v0.Kind ≠ (1 : Int))) ∧ (v0.Int_ ≠ (0 : Int))))))] [(1, .pure (GValue.cs v0))] rfl rfl rfl ?_
          exact RunW_nil rfl
       ·iterate 3 (refine r_off rfl rfl rfl rfl (decide_eq_false h6) rfl rfl ?_)
        refine rn rfl rfl rfl rfl qq3 rfl (p_pkf rfl rfl (decide_eq_false h6) (tb (decide_eq_false (p := (v0.Kind ≠ (3 : Int)) ∧ (v0.Bits ≠ (0 : UInt64))) (fun x => h6 x.1)).symm)) ?_
        refine rp rfl rfl (p_pkf rfl rfl qq3 (tb ((or_l (p := (v0.Kind ≠ (4 : Int)) ∧ (v0.Text ≠ [])) (q := (v0.Kind ≠ (3 : Int)) ∧ (v0.Bits ≠ (0 : UInt64))) (fun h => h5 h.2))))) ?_
        refine rp rfl rfl (p_move rfl rfl) ?_
        have qq9 := decide_eq_false (p := ((v0.Kind ≠ (4 : Int)) ∧ (v0.Text ≠ [])) ∨ ((v0.Kind ≠ (3 : Int)) ∧ (v0.Bits ≠ (0 : UInt64)))) (not_or.2 ⟨(fun h => h5 h.2), (fun h => h6 h.1)⟩)
        refine rn rfl rfl rfl rfl qq9 rfl (u_fa rfl rfl Tryd.underlying24 rfl in_3 (Nat.succ_ne_zero _) rfl rfl (ne_of_lt (n := 0) (Nat.lt_of_lt_of_eq (by decide) (Eq.symm (GValue.len v0))))) ?_
        refine rn rfl rfl rfl rfl qq9 rfl (u_ld rfl rfl Tryd.underlying3 rfl rfl ((Sub.refl _).trans (GValue.sub0 v0))) ?_
        refine rn rfl rfl rfl rfl qq9 rfl (p_ine rfl rfl rfl) ?_
        refine rn rfl rfl rfl rfl qq9 rfl (p_move rfl rfl) ?_
        refine (Classical.em (v0.Kind ≠ (2 : Int))).elim (fun h10 => ?_) (fun h10 => ?_)
        ·refine r_on rfl rfl rfl rfl (decide_eq_true h10) rfl (PureD.opD (u_fa rfl rfl Tryd.underlying24 rfl in_3 (Nat.succ_ne_zero _) rfl rfl (ne_of_lt (n := 0) (Nat.lt_of_lt_of_eq (by decide) (Eq.symm (GValue.len v0)))))) ?_
         refine r_on rfl rfl rfl rfl (decide_eq_true h10) rfl (PureD.opD (u_ld rfl rfl Tryd.underlying3 rfl rfl ((Sub.refl _).trans (GValue.sub0 v0)))) ?_
         refine r_on rfl rfl rfl rfl (decide_eq_true h10) rfl (PureD.opD (p_ine rfl rfl rfl)) ?_
         refine rn rfl rfl rfl rfl qq9 rfl (p_pkt rfl rfl (decide_eq_true h10) (tb ((and_l (p := v0.Kind ≠ (2 : Int)) (q := v0.Kind ≠ (1 : Int)) h10)))) ?_
         refine rn rfl rfl rfl rfl qq9 rfl (p_move rfl rfl) ?_
         refine (Classical.em (v0.Kind ≠ (1 : Int))).elim (fun h11 => ?_) (fun h11 => ?_)
         ·have qq10 := decide_eq_true (p := (v0.Kind ≠ (2 : Int)) ∧ (v0.Kind ≠ (1 : Int))) ⟨h10, h11⟩
          refine rn rfl rfl rfl rfl qq10 rfl (u_fa rfl rfl Tryd.underlying24 rfl in_3 (Nat.succ_ne_zero _) rfl rfl (ne_of_lt (n := 0) (Nat.lt_of_lt_of_eq (by decide) (Eq.symm (GValue.len v0))))) ?_
          refine rn rfl rfl rfl rfl qq10 rfl (u_ld rfl rfl Tryd.underlying3 rfl rfl ((Sub.refl _).trans (GValue.sub1 v0))) ?_
          refine rn rfl rfl rfl rfl qq10 rfl (p_ine rfl rfl rfl) ?_
          refine rn rfl rfl rfl rfl qq9 rfl (p_pkt rfl rfl qq10 (tb ((and_l (p := (v0.Kind ≠ (2 : Int)) ∧ (v0.Kind ≠ (1 : Int))) (q := v0.Int_ ≠ (0 : Int)) ⟨h10, h11⟩)))) ?_
          refine rp rfl rfl (p_pkf rfl rfl qq9 (tb ((or_l (p := ((v0.Kind ≠ (4 : Int)) ∧ (v0.Text ≠ [])) ∨ ((v0.Kind ≠ (3 : Int)) ∧ (v0.Bits ≠ (0 : UInt64)))) (q := ((v0.Kind ≠ (2 : Int)) ∧ (v0.Kind ≠ (1 : Int))) ∧ (v0.Int_ ≠ (0 : Int))) (not_or.2 ⟨(fun h => h5 h.2), (fun h => h6 h.1)⟩))))) ?_
          refine rs [(1, .q 1 (0)), (48, .b (decide ((((v0.Kind ≠ (4 : Int)) ∧ (v0.Text ≠ [])) ∨ ((v0.Kind ≠ (3 : Int)) ∧ (v0.Bits ≠ (0 : UInt64)))) ∨ (((v0.Kind ≠ (2 : Int)) ∧ (v0.Kind ≠ (1 : Int))) ∧ (v0.Int_ ≠ (0 : Int))))))] [(1, .pure (GValue.cs v0))] rfl rfl rfl ?_
          exact RunW_nil rfl
         ·have qq11 := decide_eq_false (p := (v0.Kind ≠ (2 : Int)) ∧ (v0.Kind ≠ (1 : Int))) (fun h => h11 h.2)
          iterate 3 (refine r_off rfl rfl rfl rfl qq11 rfl rfl ?_)
          refine rn rfl rfl rfl rfl qq9 rfl (p_pkf rfl rfl qq11 (tb (decide_eq_false (p := ((v0.Kind ≠ (2 : Int)) ∧ (v0.Kind ≠ (1 : Int))) ∧ (v0.Int_ ≠ (0 : Int))) (fun x => (fun h => h11 h.2) x.1)).symm)) ?_
          refine rp rfl rfl (p_pkf rfl rfl qq9 (tb ((or_l (p := ((v0.Kind ≠ (4 : Int)) ∧ (v0.Text ≠ [])) ∨ ((v0.Kind ≠ (3 : Int)) ∧ (v0.Bits ≠ (0 : UInt64)))) (q := ((v0.Kind ≠ (2 : Int)) ∧ (v0.Kind ≠ (1 : Int))) ∧ (v0.Int_ ≠ (0 : Int))) (not_or.2 ⟨(fun h => h5 h.2), (fun h => h6 h.1)⟩))))) ?_
          refine rs [(1, .q 1 (0)), (48, .b (decide ((((v0.Kind ≠ (4 : Int)) ∧ (v0.Text ≠ [])) ∨ ((v0.Kind ≠ (3 : Int)) ∧ (v0.Bits ≠ (0 : UInt64)))) ∨ (((v0.Kind ≠ (2 : Int)) ∧ (v0.Kind ≠ (1 : Int))) ∧ (v0.Int_ ≠ (0 : Int))))))] [(1, .pure (GValue.cs v0))] rfl rfl rfl ?_
          exact RunW_nil rfl
        ·iterate 3 (refine r_off rfl rfl rfl rfl (decide_eq_false h10) rfl rfl ?_)
         refine rn rfl rfl rfl rfl qq9 rfl (p_pkf rfl rfl (decide_eq_false h10) (tb (decide_eq_false (p := (v0.Kind ≠ (2 : Int)) ∧ (v0.Kind ≠ (1 : Int))) (fun x => h10 x.1)).symm)) ?_
         refine rn rfl rfl rfl rfl qq9 rfl (p_move rfl rfl) ?_
         have qq12 := decide_eq_false (p := (v0.Kind ≠ (2 : Int)) ∧ (v0.Kind ≠ (1 : Int))) (fun h => h10 h.1)
         iterate 3 (refine r_off rfl rfl rfl rfl qq12 rfl rfl ?_)
         refine rn rfl rfl rfl rfl qq9 rfl (p_pkf rfl rfl qq12 (tb (decide_eq_false (p := ((v0.Kind ≠ (2 : Int)) ∧ (v0.Kind ≠ (1 : Int))) ∧ (v0.Int_ ≠ (0 : Int))) (fun x => (fun h => h10 h.1) x.1)).symm)) ?_
         refine rp rfl rfl (p_pkf rfl rfl qq9 (tb ((or_l (p := ((v0.Kind ≠ (4 : Int)) ∧ (v0.Text ≠ [])) ∨ ((v0.Kind ≠ (3 : Int)) ∧ (v0.Bits ≠ (0 : UInt64)))) (q := ((v0.Kind ≠ (2 : Int)) ∧ (v0.Kind ≠ (1 : Int))) ∧ (v0.Int_ ≠ (0 : Int))) (not_or.2 ⟨(fun h => h5 h.2), (fun h => h6 h.1)⟩))))) ?_
         refine rs [(1, .q 1 (0)), (48, .b (decide ((((v0.Kind ≠ (4 : Int)) ∧ (v0.Text ≠ [])) ∨ ((v0.Kind ≠ (3 : Int)) ∧ (v0.Bits ≠ (0 : UInt64)))) ∨ (((v0.Kind ≠ (2 : Int)) ∧ (v0.Kind ≠ (1 : Int))) ∧ (v0.Int_ ≠ (0 : Int))))))] [(1, .pure (GValue.cs v0))] rfl rfl rfl ?_
         exact RunW_nil rfl
     ·iterate 3 (refine r_off rfl rfl rfl rfl (decide_eq_false h4) rfl rfl ?_)
      refine rp rfl rfl (p_pkf rfl rfl (decide_eq_false h4) (tb (decide_eq_false (p := (v0.Kind ≠ (4 : Int)) ∧ (v0.Text ≠ [])) (fun x => h4 x.1)).symm)) ?_
      refine rp rfl rfl (p_move rfl rfl) ?_
      have qq13 := decide_eq_false (p := (v0.Kind ≠ (4 : Int)) ∧ (v0.Text ≠ [])) (fun h => h4 h.1)
      refine rn rfl rfl rfl rfl qq13 rfl (u_fa rfl rfl Tryd.underlying24 rfl in_3 (Nat.succ_ne_zero _) rfl rfl (ne_of_lt (n := 0) (Nat.lt_of_lt_of_eq (by decide) (Eq.symm (GValue.len v0))))) ?_
      refine rn rfl rfl rfl rfl qq13 rfl (u_ld rfl rfl Tryd.underlying3 rfl rfl ((Sub.refl _).trans (GValue.sub0 v0))) ?_
      refine rn rfl rfl rfl rfl qq13 rfl (p_ine rfl rfl rfl) ?_
      refine rn rfl rfl rfl rfl qq13 rfl (p_move rfl rfl) ?_
      refine (Classical.em (v0.Kind ≠ (3 : Int))).elim (fun h12 => ?_) (fun h12 => ?_)
      ·refine r_on rfl rfl rfl rfl (decide_eq_true h12) rfl (PureD.opD (u_fa rfl rfl Tryd.underlying24 rfl in_22 (Nat.succ_ne_zero _) rfl rfl (ne_of_lt (n := 0) (Nat.lt_of_lt_of_eq (by decide) (Eq.symm (GValue.len v0)))))) ?_
       refine r_on rfl rfl rfl rfl (decide_eq_true h12) rfl (PureD.opD (u_ld rfl rfl Tryd.underlying22 rfl rfl ((Sub.refl _).trans (GValue.sub2 v0)))) ?_
       refine r_on rfl rfl rfl rfl (decide_eq_true h12) rfl (PureD.opD (p_u64ne (a := v0.Bits) (b := (0 : UInt64)) rfl rfl rfl)) ?_
       refine rn rfl rfl rfl rfl qq13 rfl (p_pkt rfl rfl (decide_eq_true h12) (tb ((and_l (p := v0.Kind ≠ (3 : Int)) (q := v0.Bits ≠ (0 : UInt64)) h12)))) ?_
       refine rp rfl rfl (p_pkf rfl rfl qq13 (tb ((or_l (p := (v0.Kind ≠ (4 : Int)) ∧ (v0.Text ≠ [])) (q := (v0.Kind ≠ (3 : Int)) ∧ (v0.Bits ≠ (0 : UInt64))) (fun h => h4 h.1))))) ?_
       refine rp rfl rfl (p_move rfl rfl) ?_
       refine (Classical.em (v0.Bits ≠ (0 : UInt64))).elim (fun h13 => ?_) (fun h13 => ?_)
       ·have qq14 := decide_eq_true (p := ((v0.Kind ≠ (4 : Int)) ∧ (v0.Text ≠ [])) ∨ ((v0.Kind ≠ (3 : Int)) ∧ (v0.Bits ≠ (0 : UInt64)))) (Or.inr ⟨h12, h13⟩)
        iterate 4 (refine r_off rfl rfl rfl rfl qq14 rfl rfl ?_)
        iterate 3 (refine r_off2 rfl rfl rfl rfl rfl rfl ?_)
        iterate 2 (refine r_off rfl rfl rfl rfl qq14 rfl rfl ?_)
        iterate 3 (refine r_off2 rfl rfl rfl rfl rfl rfl ?_)
        refine r_off rfl rfl rfl rfl qq14 rfl rfl ?_
        refine rp rfl rfl (p_pkt rfl rfl qq14 (tb (decide_eq_true (p := (((v0.Kind ≠ (4 : Int)) ∧ (v0.Text ≠ [])) ∨ ((v0.Kind ≠ (3 : Int)) ∧ (v0.Bits ≠ (0 : UInt64)))) ∨ (((v0.Kind ≠ (2 : Int)) ∧ (v0.Kind ≠ (1 : Int))) ∧ (v0.Int_ ≠ (0 : Int)))) (Or.inl (Or.inr ⟨h12, h13⟩))).symm)) ?_
        refine rs [(1, .q 1 (0)), (48, .b (decide ((((v0.Kind ≠ (4 : Int)) ∧ (v0.Text ≠ [])) ∨ ((v0.Kind ≠ (3 : Int)) ∧ (v0.Bits ≠ (0 : UInt64)))) ∨ (((v0.Kind ≠ (2 : Int)) ∧ (v0.Kind ≠ (1 : Int))) ∧ (v0.Int_ ≠ (0 : Int))))))] [(1, .pure (GValue.cs v0))] rfl rfl rfl ?_
        exact RunW_nil rfl
       ·have qq15 := decide_eq_false (p := ((v0.Kind ≠ (4 : Int)) ∧ (v0.Text ≠ [])) ∨ ((v0.Kind ≠ (3 : Int)) ∧ (v0.Bits ≠ (0 : UInt64)))) (not_or.2 ⟨(fun h => h4 h.1), (fun h => h13 h.2)⟩)
        refine rn rfl rfl rfl rfl qq15 rfl (u_fa rfl rfl Tryd.underlying24 rfl in_3 (Nat.succ_ne_zero _) rfl rfl (ne_of_lt (n := 0) (Nat.lt_of_lt_of_eq (by decide) (Eq.symm (GValue.len v0))))) ?_
        refine rn rfl rfl rfl rfl qq15 rfl (u_ld rfl rfl Tryd.underlying3 rfl rfl ((Sub.refl _).trans (GValue.sub0 v0))) ?_
        refine rn rfl rfl rfl rfl qq15 rfl (p_ine rfl rfl rfl) ?_
        refine rn rfl rfl rfl rfl qq15 rfl (p_move rfl rfl) ?_
        refine (Classical.em (v0.Kind ≠ (2 : Int))).elim (fun h14 => ?_) (fun h14 => ?_)
        ·refine r_on rfl rfl rfl rfl (decide_eq_true h14) rfl (PureD.opD (u_fa rfl rfl Tryd.underlying24 rfl in_3 (Nat.succ_ne_zero _) rfl rfl (ne_of_lt (n := 0) (Nat.lt_of_lt_of_eq (by decide) (Eq.symm (GValue.len v0)))))) ?_
         refine r_on rfl rfl rfl rfl (decide_eq_true h14) rfl (PureD.opD (u_ld rfl rfl Tryd.underlying3 rfl rfl ((Sub.refl _).trans (GValue.sub0 v0)))) ?_
         refine r_on rfl rfl rfl rfl (decide_eq_true h14) rfl (PureD.opD (p_ine rfl rfl rfl)) ?_
         refine rn rfl rfl rfl rfl qq15 rfl (p_pkt rfl rfl (decide_eq_true h14) (tb ((and_l (p := v0.Kind ≠ (2 : Int)) (q := v0.Kind ≠ (1 : Int)) h14)))) ?_
         refine rn rfl rfl rfl rfl qq15 rfl (p_move rfl rfl) ?_
         refine (Classical.em (v0.Kind ≠ (1 : Int))).elim (fun h15 => ?_) (fun h15 => ?_)
         ·have qq16 := decide_eq_true (p := (v0.Kind ≠ (2 : Int)) ∧ (v0.Kind ≠ (1 : Int))) ⟨h14, h15⟩
          refine rn rfl rfl rfl rfl qq16 rfl (u_fa rfl rfl Tryd.underlying24 rfl in_3 (Nat.succ_ne_zero _) rfl rfl (ne_of_lt (n := 0) (Nat.lt_of_lt_of_eq (by decide) (Eq.symm (GValue.len v0))))) ?_
          refine rn rfl rfl rfl rfl qq16 rfl (u_ld rfl rfl Tryd.underlying3 rfl rfl ((Sub.refl _).trans (GValue.sub1 v0))) ?_
          refine rn rfl rfl rfl rfl qq16 rfl (p_ine rfl rfl rfl) ?_
          refine rn rfl rfl rfl rfl qq15 rfl (p_pkt rfl rfl qq16 (tb ((and_l (p := (v0.Kind ≠ (2 : Int)) ∧ (v0.Kind ≠ (1 : Int))) (q := v0.Int_ ≠ (0 : Int)) ⟨h14, h15⟩)))) ?_
          refine rp rfl rfl (p_pkf rfl rfl qq15 (tb ((or_l (p := ((v0.Kind ≠ (4 : Int)) ∧ (v0.Text ≠ [])) ∨ ((v0.Kind ≠ (3 : Int)) ∧ (v0.Bits ≠ (0 : UInt64)))) (q := ((v0.Kind ≠ (2 : Int)) ∧ (v0.Kind ≠ (1 : Int))) ∧ (v0.Int_ ≠ (0 : Int))) (not_or.2 ⟨(fun h => h4 h.1), (fun h => h13 h.2)⟩))))) ?_
          refine rs [(1, .q 1 (0)), (48, .b (decide ((((v0.Kind ≠ (4 : Int)) ∧ (v0.Text ≠ [])) ∨ ((v0.Kind ≠ (3 : Int)) ∧ (v0.Bits ≠ (0 : UInt64)))) ∨ (((v0.Kind ≠ (2 : Int)) ∧ (v0.Kind ≠ (1 : Int))) ∧ (v0.Int_ ≠ (0 : Int))))))] [(1, .pure (GValue.cs v0))] rfl rfl rfl ?_
          exact RunW_nil rfl
         ·have qq17 := decide_eq_false (p := (v0.Kind ≠ (2 : Int)) ∧ (v0.Kind ≠ (1 : Int))) (fun h => h15 h.2)
          iterate 3 (refine r_off rfl rfl rfl rfl qq17 rfl rfl ?_)
          refine rn rfl rfl rfl rfl qq15 rfl (p_pkf rfl rfl qq17 (tb (decide_eq_false (p := ((v0.Kind ≠ (2 : Int)) ∧ (v0.Kind ≠ (1 : Int))) ∧ (v0.Int_ ≠ (0 : Int))) (fun x => (fun h => h15 h.2) x.1)).symm)) ?_
          refine rp rfl rfl (p_pkf rfl rfl qq15 (tb ((or_l (p := ((v0.Kind ≠ (4 : Int)) ∧ (v0.Text ≠ [])) ∨ ((v0.Kind ≠ (3 : Int)) ∧ (v0.Bits ≠ (0 : UInt64)))) (q := ((v0.Kind ≠ (2 : Int)) ∧ (v0.Kind ≠ (1 : Int))) ∧ (v0.Int_ ≠ (0 : Int))) (not_or.2 ⟨(fun h => h4 h.1), (fun h => h13 h.2)⟩))))) ?_
          refine rs [(1, .q 1 (0)), (48, .b (decide ((((v0.Kind ≠ (4 : Int)) ∧ (v0.Text ≠ [])) ∨ ((v0.Kind ≠ (3 : Int)) ∧ (v0.Bits ≠ (0 : UInt64)))) ∨ (((v0.Kind ≠ (2 : Int)) ∧ (v0.Kind ≠ (1 : Int))) ∧ (v0.Int_ ≠ (0 : Int))))))] [(1, .pure (GValue.cs v0))] rfl rfl rfl ?_
          exact RunW_nil rfl
        ·iterate 3 (refine r_off rfl rfl rfl rfl (decide_eq_false h14) rfl rfl ?_)
         refine rn rfl rfl rfl rfl qq15 rfl (p_pkf rfl rfl (decide_eq_false h14) (tb (decide_eq_false (p := (v0.Kind ≠ (2 : Int)) ∧ (v0.Kind ≠ (1 : Int))) (fun x => h14 x.1)).symm)) ?_
         refine rn rfl rfl rfl rfl qq15 rfl (p_move rfl rfl) ?_
         have qq18 := decide_eq_false (p := (v0.Kind ≠ (2 : Int)) ∧ (v0.Kind ≠ (1 : Int))) (fun h => h14 h.1)
         iterate 3 (refine r_off rfl rfl rfl rfl qq18 rfl rfl ?_)
         refine rn rfl rfl rfl rfl qq15 rfl (p_pkf rfl rfl qq18 (tb (decide_eq_false (p := ((v0.Kind ≠ (2 : Int)) ∧ (v0.Kind ≠ (1 : Int))) ∧ (v0.Int_ ≠ (0 : Int))) (fun x => (fun h => h14 h.1) x.1)).symm)) ?_
         refine rp rfl rfl (p_pkf rfl rfl qq15 (tb ((or_l (p := ((v0.Kind ≠ (4 : Int)) ∧ (v0.Text ≠ [])) ∨ ((v0.Kind ≠ (3 : Int)) ∧ (v0.Bits ≠ (0 : UInt64)))) (q := ((v0.Kind ≠ (2 : Int)) ∧ (v0.Kind ≠ (1 : Int))) ∧ (v0.Int_ ≠ (0 : Int))) (not_or.2 ⟨(fun h => h4 h.1), (fun h => h13 h.2)⟩))))) ?_
         refine rs [(1, .q 1 (0)), (48, .b (decide ((((v0.Kind ≠ (4 : Int)) ∧ (v0.Text ≠ [])) ∨ ((v0.Kind ≠ (3 : Int)) ∧ (v0.Bits ≠ (0 : UInt64)))) ∨ (((v0.Kind ≠ (2 : Int)) ∧ (v0.Kind ≠ (1 : Int))) ∧ (v0.Int_ ≠ (0 : Int))))))] [(1, .pure (GValue.cs v0))] rfl rfl rfl ?_
         exact RunW_nil rfl
      ·iterate 3 (refine r_off rfl rfl rfl rfl (decide_eq_false h12) rfl rfl ?_)
       refine rn rfl rfl rfl rfl qq13 rfl (p_pkf rfl rfl (decide_eq_false h12) (tb (decide_eq_false (p := (v0.Kind ≠ (3 : Int)) ∧ (v0.Bits ≠ (0 : UInt64))) (fun x => h12 x.1)).symm)) ?_
       refine rp rfl rfl (p_pkf rfl rfl qq13 (tb ((or_l (p := (v0.Kind ≠ (4 : Int)) ∧ (v0.Text ≠ [])) (q := (v0.Kind ≠ (3 : Int)) ∧ (v0.Bits ≠ (0 : UInt64))) (fun h => h4 h.1))))) ?_
       refine rp rfl rfl (p_move rfl rfl) ?_
       have qq19 := decide_eq_false (p := ((v0.Kind ≠ (4 : Int)) ∧ (v0.Text ≠ [])) ∨ ((v0.Kind ≠ (3 : Int)) ∧ (v0.Bits ≠ (0 : UInt64)))) (not_or.2 ⟨(fun h => h4 h.1), (fun h => h12 h.1)⟩)
       refine rn rfl rfl rfl rfl qq19 rfl (u_fa rfl rfl Tryd.underlying24 rfl in_3 (Nat.succ_ne_zero _) rfl rfl (ne_of_lt (n := 0) (Nat.lt_of_lt_of_eq (by decide) (Eq.symm (GValue.len v0))))) ?_
       refine rn rfl rfl rfl rfl qq19 rfl (u_ld rfl rfl Tryd.underlying3 rfl rfl ((Sub.refl _).trans (GValue.sub0 v0))) ?_
       refine rn rfl rfl rfl rfl qq19 rfl (p_ine rfl rfl rfl) ?_
       refine rn rfl rfl rfl rfl qq19 rfl (p_move rfl rfl) ?_
       refine (Classical.em (v0.Kind ≠ (2 : Int))).elim (fun h16 => ?_) (fun h16 => ?_)
       ·refine r_on rfl rfl rfl rfl (decide_eq_true h16) rfl (PureD.opD (u_fa rfl rfl Tryd.underlying24 rfl in_3 (Nat.succ_ne_zero _) rfl rfl (ne_of_lt (n := 0) (Nat.lt_of_lt_of_eq (by decide) (Eq.symm (GValue.len v0)))))) ?_
        refine r_on rfl rfl rfl rfl (decide_eq_true h16) rfl (PureD.opD (u_ld rfl rfl Tryd.underlying3 rfl rfl ((Sub.refl _).trans (GValue.sub0 v0)))) ?_
        refine r_on rfl rfl rfl rfl (decide_eq_true h16) rfl (PureD.opD (p_ine rfl rfl rfl)) ?_
        refine rn rfl rfl rfl rfl qq19 rfl (p_pkt rfl rfl (decide_eq_true h16) (tb ((and_l (p := v0.Kind ≠ (2 : Int)) (q := v0.Kind ≠ (1 : Int)) h16)))) ?_
        refine rn rfl rfl rfl rfl qq19 rfl (p_move rfl rfl) ?_
        refine (Classical.em (v0.Kind ≠ (1 : Int))).elim (fun h17 => ?_) (fun h17 => ?_)
        ·have qq20 := decide_eq_true (p := (v0.Kind ≠ (2 : Int)) ∧ (v0.Kind ≠ (1 : Int))) ⟨h16, h17⟩
         refine rn rfl rfl rfl rfl qq20 rfl (u_fa rfl rfl Tryd.underlying24 rfl in_3 (Nat.succ_ne_zero _) rfl rfl (ne_of_lt (n := 0) (Nat.lt_of_lt_of_eq (by decide) (Eq.symm (GValue.len v0))))) ?_
         refine rn rfl rfl rfl rfl qq20 rfl (u_ld rfl rfl Tryd.underlying3 rfl rfl ((Sub.refl _).trans (GValue.sub1 v0))) ?_
         refine rn rfl rfl rfl rfl qq20 rfl (p_ine rfl rfl rfl) ?_
         refine rn rfl rfl rfl rfl qq19 rfl (p_pkt rfl rfl qq20 (tb ((and_l (p := (v0.Kind ≠ (2 : Int)) ∧ (v0.Kind ≠ (1 : Int))) (q := v0.Int_ ≠ (0 : Int)) ⟨h16, h17⟩)))) ?_
         refine rp rfl rfl (p_pkf rfl rfl qq19 (tb ((or_l (p := ((v0.Kind ≠ (4 : Int)) ∧ (v0.Text ≠ [])) ∨ ((v0.Kind ≠ (3 : Int)) ∧ (v0.Bits ≠ (0 : UInt64)))) (q := ((v0.Kind ≠ (2 : Int)) ∧ (v0.Kind ≠ (1 : Int))) ∧ (v0.Int_ ≠ (0 : Int))) (not_or.2 ⟨(fun h => h4 h.1), (fun h => h12 h.1)⟩))))) ?_
         refine rs [(1, .q 1 (0)), (48, .b (decide ((((v0.Kind ≠ (4 : Int)) ∧ (v0.Text ≠ [])) ∨ ((v0.Kind ≠ (3 : Int)) ∧ (v0.Bits ≠ (0 : UInt64)))) ∨ (((v0.Kind ≠ (2 : Int)) ∧ (v0.Kind ≠ (1 : Int))) ∧ (v0.Int_ ≠ (0 : Int))))))] [(1, .pure (GValue.cs v0))] rfl rfl rfl ?_
         exact RunW_nil rfl
        ·have qq21 := decide_eq_false (p := (v0.Kind ≠ (2 : Int)) ∧ (v0.Kind ≠ (1 : Int))) (fun h => h17 h.2)
         iterate 3 (refine r_off rfl rfl rfl rfl qq21 rfl rfl ?_)
         refine rn rfl rfl rfl rfl qq19 rfl (p_pkf rfl rfl qq21 (tb (decide_eq_false (p := ((v0.Kind ≠ (2 : Int)) ∧ (v0.Kind ≠ (1 : Int))) ∧ (v0.Int_ ≠ (0 : Int))) (fun x => (fun h => h17 h.2) x.1)).symm)) ?_
         refine rp rfl rfl (p_pkf rfl rfl qq19 (tb ((or_l (p := ((v0.Kind ≠ (4 : Int)) ∧ (v0.Text ≠ [])) ∨ ((v0.Kind ≠ (3 : Int)) ∧ (v0.Bits ≠ (0 : UInt64)))) (q := ((v0.Kind ≠ (2 : Int)) ∧ (v0.Kind ≠ (1 : Int))) ∧ (v0.Int_ ≠ (0 : Int))) (not_or.2 ⟨(fun h => h4 h.1), (fun h => h12 h.1)⟩))))) ?_
         refine rs [(1, .q 1 (0)), (48, .b (decide ((((v0.Kind ≠ (4 : Int)) ∧ (v0.Text ≠ [])) ∨ ((v0.Kind ≠ (3 : Int)) ∧ (v0.Bits ≠ (0 : UInt64)))) ∨ (((v0.Kind ≠ (2 : Int)) ∧ (v0.Kind ≠ (1 : Int))) ∧ (v0.Int_ ≠ (0 : Int))))))] [(1, .pure (GValue.cs v0))] rfl rfl rfl ?_
         exact RunW_nil rfl
       ·iterate 3 (refine r_off rfl rfl rfl rfl (decide_eq_false h16) rfl rfl ?_)
        refine rn rfl rfl rfl rfl qq19 rfl (p_pkf rfl rfl (decide_eq_false h16) (tb (decide_eq_false (p := (v0.Kind ≠ (2 : Int)) ∧ (v0.Kind ≠ (1 : Int))) (fun x => h16 x.1)).symm)) ?_
        refine rn rfl rfl rfl rfl qq19 rfl (p_move rfl rfl) ?_
        have qq22 := decide_eq_false (p := (v0.Kind ≠ (2 : Int)) ∧ (v0.Kind ≠ (1 : Int))) (fun h => h16 h.1)
        iterate 3 (refine r_off rfl rfl rfl rfl qq22 rfl rfl ?_)
        refine rn rfl rfl rfl rfl qq19 rfl (p_pkf rfl rfl qq22 (tb (decide_eq_false (p := ((v0.Kind ≠ (2 : Int)) ∧ (v0.Kind ≠ (1 : Int))) ∧ (v0.Int_ ≠ (0 : Int))) (fun x => (fun h => h16 h.1) x.1)).symm)) ?_
        refine rp rfl rfl (p_pkf rfl rfl qq19 (tb ((or_l (p := ((v0.Kind ≠ (4 : Int)) ∧ (v0.Text ≠ [])) ∨ ((v0.Kind ≠ (3 : Int)) ∧ (v0.Bits ≠ (0 : UInt64)))) (q := ((v0.Kind ≠ (2 : Int)) ∧ (v0.Kind ≠ (1 : Int))) ∧ (v0.Int_ ≠ (0 : Int))) (not_or.2 ⟨(fun h => h4 h.1), (fun h => h12 h.1)⟩))))) ?_
        refine rs [(1, .q 1 (0)), (48, .b (decide ((((v0.Kind ≠ (4 : Int)) ∧ (v0.Text ≠ [])) ∨ ((v0.Kind ≠ (3 : Int)) ∧ (v0.Bits ≠ (0 : UInt64)))) ∨ (((v0.Kind ≠ (2 : Int)) ∧ (v0.Kind ≠ (1 : Int))) ∧ (v0.Int_ ≠ (0 : Int))))))] [(1, .pure (GValue.cs v0))] rfl rfl rfl ?_
        exact RunW_nil rfl
    ·refine gen1 (fun t48'1 => (⟨[(1, .q 1 (0)), (48, .b t48'1)], [(1, .pure (GValue.cs v0))], 83⟩ : TS)) H ?_
     intro t48'1 H
     refine AW2_cond rfl (fun h18 => ?_) (fun h18 => ?_)
     ·replace H := ite_then h18 H
      refine sg [0] rfl ?_
      refine rp rfl rfl (p_asg rfl rfl) ?_
      refine rz [(2, .i (3 : Int))] [] rfl rfl rfl ?_
      refine AW2_ret ?_
      have hz := some_elim H
      subst hz
      exact ⟨⟨res_tmp (.same _), trivial⟩, trivial⟩
     ·replace H := ite_else (ne_true h18) H
      refine as2 [(1, .q 1 (0))] [(1, .pure (GValue.cs v0))] rfl rfl rfl ?_
      refine AW2_skip ?_
      refine AW2_seq ?_
      refine bindK H fun o'8 h19 H => ?_
      refine AW2_join (fun j'2 : Unit => (⟨[], [], 83⟩ : TS)) (fun r e s' => e = Go.Exit.ret ∧ ResAll Tryd.prog s' [ResultVar.tmp 2] [.i r] ∧ HFits s' []) (x := o'8) ?_ (fun j'2 hy => ?_) (fun y'7 e s' hy hs => ?_)
      ·clear H
       have H := h19
       clear h19
       refine sg [0, 1] rfl ?_
       refine rp rfl rfl (u_fa rfl rfl Tryd.underlying24 rfl in_3 (Nat.succ_ne_zero _) rfl rfl (ne_of_lt (n := 0) (Nat.lt_of_lt_of_eq (by decide) (Eq.symm (GValue.len v0))))) ?_
       refine rp rfl rfl (u_ld rfl rfl Tryd.underlying3 rfl rfl ((Sub.refl _).trans (GValue.sub0 v0))) ?_
       refine rz [(1, .q 1 (0)), (50, .i v0.Kind)] [(1, .pure (GValue.cs v0))] rfl rfl rfl ?_
       refine AW2_block ?_
       refine sg [0, 1] rfl ?_
       refine rp rfl rfl (p_ieq rfl rfl rfl) ?_
       refine rp rfl rfl (p_asg rfl rfl) ?_
       refine rz [(1, .q 1 (0)), (50, .i v0.Kind), (51, .b (decide (v0.Kind = (1 : Int))))] [(1, .pure (GValue.cs v0))] rfl rfl rfl ?_
       refine AW2_if (p := v0.Kind = (1 : Int)) rfl (fun h20 => ?_) (fun h20 => ?_)
       ·replace H := ite_then h20 H
        refine AW2_seq ?_
        refine AW2_mid (⟨[(60, .b (decide ((v0.Int_ ≠ (0 : Int)) ∧ (v0.Int_ ≠ (1 : Int)))))], [], 83⟩ : TS) ?_ ?_
        ·refine AW2_reg [0, 1, 2, 3, 4, 5, 6, 7] rfl ?_
         refine rp rfl rfl (u_fa rfl rfl Tryd.underlying24 rfl in_3 (Nat.succ_ne_zero _) rfl rfl (ne_of_lt (n := 0) (Nat.lt_of_lt_of_eq (by decide) (Eq.symm (GValue.len v0))))) ?_
         refine rp rfl rfl (u_ld rfl rfl Tryd.underlying3 rfl rfl ((Sub.refl _).trans (GValue.sub1 v0))) ?_
         refine rp rfl rfl (p_ine rfl rfl rfl) ?_
         refine rp rfl rfl (p_move rfl rfl) ?_
         refine (Classical.em (v0.Int_ ≠ (0 : Int))).elim (fun h21 => ?_) (fun h21 => ?_)
         ·refine r_on rfl rfl rfl rfl (decide_eq_true h21) rfl (PureD.opD (u_fa rfl rfl Tryd.underlying24 rfl in_3 (Nat.succ_ne_zero _) rfl rfl (ne_of_lt (n := 0) (Nat.lt_of_lt_of_eq (by decide) (Eq.symm (GValue.len v0)))))) ?_
          refine r_on rfl rfl rfl rfl (decide_eq_true h21) rfl (PureD.opD (u_ld rfl rfl Tryd.underlying3 rfl rfl ((Sub.refl _).trans (GValue.sub1 v0)))) ?_
          refine r_on rfl rfl rfl rfl (decide_eq_true h21) rfl (PureD.opD (p_ine rfl rfl rfl)) ?_
          refine rp rfl rfl (p_pkt rfl rfl (decide_eq_true h21) (tb ((and_l (p := v0.Int_ ≠ (0 : Int)) (q := v0.Int_ ≠ (1 : Int)) h21)))) ?_
          refine rs [(60, .b (decide ((v0.Int_ ≠ (0 : Int)) ∧ (v0.Int_ ≠ (1 : Int)))))] [] rfl rfl rfl ?_
          exact RunW_nil rfl
         ·iterate 3 (refine r_off rfl rfl rfl rfl (decide_eq_false h21) rfl rfl ?_)
          refine rp rfl rfl (p_pkf rfl rfl (decide_eq_false h21) (tb (decide_eq_false (p := (v0.Int_ ≠ (0 : Int)) ∧ (v0.Int_ ≠ (1 : Int))) (fun x => h21 x.1)).symm)) ?_
          refine rs [(60, .b (decide ((v0.Int_ ≠ (0 : Int)) ∧ (v0.Int_ ≠ (1 : Int)))))] [] rfl rfl rfl ?_
          exact RunW_nil rfl
        ·refine AW2_if (p := (v0.Int_ ≠ (0 : Int)) ∧ (v0.Int_ ≠ (1 : Int))) rfl (fun h22 => ?_) (fun h22 => ?_)
         ·replace H := ite_then h22 H
          refine sg [0] rfl ?_
          refine rp rfl rfl (p_asg rfl rfl) ?_
          refine rz [(2, .i (3 : Int))] [] rfl rfl rfl ?_
          refine AW2_ret ?_
          have hz := some_elim H
          subst hz
          exact ⟨rfl, ⟨res_tmp (.same _), trivial⟩, trivial⟩
         ·replace H := ite_else h22 H
          refine as2 [] [] rfl rfl rfl ?_
          refine AW2_skip ?_
          have hz := some_elim H
          subst hz
          exact ⟨rfl, rfl⟩
       ·replace H := ite_else h20 H
        refine sg [0, 1] rfl ?_
        refine rp rfl rfl (p_ieq rfl rfl rfl) ?_
        refine rp rfl rfl (p_asg rfl rfl) ?_
        refine rz [(1, .q 1 (0)), (50, .i v0.Kind), (61, .b (decide (v0.Kind = (3 : Int))))] [(1, .pure (GValue.cs v0))] rfl rfl rfl ?_
        refine AW2_if (p := v0.Kind = (3 : Int)) rfl (fun h23 => ?_) (fun h23 => ?_)
        ·replace H := ite_then h23 H
         refine sg [0, 1, 2, 3] rfl ?_
         refine rp rfl rfl (u_fa rfl rfl Tryd.underlying24 rfl in_22 (Nat.succ_ne_zero _) rfl rfl (ne_of_lt (n := 0) (Nat.lt_of_lt_of_eq (by decide) (Eq.symm (GValue.len v0))))) ?_
         refine rp rfl rfl (u_ld rfl rfl Tryd.underlying22 rfl rfl ((Sub.refl _).trans (GValue.sub2 v0))) ?_
         refine rp rfl rfl (p_frombits (a := v0.Bits) rfl rfl rfl Tryd.func38 rfl rfl (by kernel_rfl) (by kernel_rfl) rfl) ?_
         refine rp rfl rfl (p_asg rfl rfl) ?_
         refine rz [(3, .p (AV.f64 v0.Bits))] [] rfl rfl rfl ?_
         refine AW2_seq ?_
         refine bindK H fun g'5 h28 H => ?_
         refine AW2_mid (⟨[(76, .b g'5)], [], 83⟩ : TS) ?_ ?_
         ·clear H
          have H := h28
          clear h28
          refine AW2_reg [0, 1, 2, 3, 4, 5, 6, 7, 8, 9, 10] rfl ?_
          refine rp rfl rfl (p_move rfl rfl) ?_
          refine rp rfl rfl (p_move rfl rfl) ?_
          refine rp rfl rfl (p_fbin (a := v0.Bits) (b := v0.Bits) (v := fneq v0.Bits v0.Bits) rfl rfl rfl rfl) ?_
          refine rp rfl rfl (p_move rfl rfl) ?_
          refine (Classical.em ((fneq v0.Bits v0.Bits) = true)).elim (fun h25 => ?_) (fun h25 => ?_)
          ·replace H := ite_then h25 H
           iterate 3 (refine r_off rfl rfl rfl rfl h25 rfl rfl ?_)
           iterate 2 (refine r_off2 rfl rfl rfl rfl rfl rfl ?_)
           refine r_off rfl rfl rfl rfl h25 rfl rfl ?_
           refine rp rfl rfl (p_pkt rfl rfl h25 (.same _)) ?_
           refine rs [(76, .b true)] [] rfl rfl rfl ?_
           have hz := some_elim H
           subst hz
           exact RunW_nil rfl
          ·replace H := ite_else h25 H
           refine r_on rfl rfl rfl rfl (bfalse h25) rfl (PureD.opD (p_move rfl rfl)) ?_
           refine r_on rfl rfl rfl rfl (bfalse h25) rfl (PureD.opD (p_fbin (a := v0.Bits) (b := (0 : F64)) (v := feq v0.Bits (0 : F64)) rfl rfl rfl rfl)) ?_
           refine r_on rfl rfl rfl rfl (bfalse h25) rfl (PureD.opD (p_move rfl rfl)) ?_
           refine (Classical.em ((feq v0.Bits (0 : F64)) = true)).elim (fun h26 => ?_) (fun h26 => ?_)
           ·replace H := ite_then h26 H
            refine rn rfl rfl rfl rfl h26 rfl (p_move rfl rfl) ?_
            refine bindK H fun r'4 h27 H => ?_
            refine rn rfl rfl rfl rfl h26 rfl (p_callp rfl rfl rfl Tryd.func39 rfl rfl (g_math_Signbit_ac h27) ⟨rfl, trivial⟩) ?_
            refine r_on rfl rfl rfl rfl (bfalse h25) rfl (PureD.opD (p_pkt rfl rfl h26 (.same _))) ?_
            refine rp rfl rfl (p_pkf rfl rfl (bfalse h25) (.same _)) ?_
            refine rs [(76, .b r'4)] [] rfl rfl rfl ?_
            have hz := some_elim H
            subst hz
            exact RunW_nil rfl
           ·replace H := ite_else h26 H
            iterate 2 (refine r_off rfl rfl rfl rfl (bfalse h26) rfl rfl ?_)
            refine r_on rfl rfl rfl rfl (bfalse h25) rfl (PureD.opD (p_pkf rfl rfl (bfalse h26) (.same _))) ?_
            refine rp rfl rfl (p_pkf rfl rfl (bfalse h25) (.same _)) ?_
            refine rs [(76, .b false)] [] rfl rfl rfl ?_
            have hz := some_elim H
            subst hz
            exact RunW_nil rfl
         ·refine AW2_cond rfl (fun h29 => ?_) (fun h29 => ?_)
          ·replace H := ite_then h29 H
           refine sg [0] rfl ?_
           refine rp rfl rfl (p_asg rfl rfl) ?_
           refine rz [(2, .i (3 : Int))] [] rfl rfl rfl ?_
           refine AW2_ret ?_
           have hz := some_elim H
           subst hz
           exact ⟨rfl, ⟨res_tmp (.same _), trivial⟩, trivial⟩
          ·replace H := ite_else (ne_true h29) H
           refine as2 [] [] rfl rfl rfl ?_
           refine AW2_skip ?_
           have hz := some_elim H
           subst hz
           exact ⟨rfl, rfl⟩
        ·replace H := ite_else h23 H
         refine sg [0, 1] rfl ?_
         refine rp rfl rfl (p_ieq rfl rfl rfl) ?_
         refine rp rfl rfl (p_asg rfl rfl) ?_
         refine rz [(1, .q 1 (0)), (77, .b (decide (v0.Kind = (4 : Int))))] [(1, .pure (GValue.cs v0))] rfl rfl rfl ?_
         refine AW2_if (p := v0.Kind = (4 : Int)) rfl (fun h31 => ?_) (fun h31 => ?_)
         ·replace H := ite_then h31 H
          refine sg [0, 1, 2, 3] rfl ?_
          refine rp rfl rfl (u_fa rfl rfl Tryd.underlying24 rfl in_9 (Nat.succ_ne_zero _) rfl rfl (ne_of_lt (n := 0) (Nat.lt_of_lt_of_eq (by decide) (Eq.symm (GValue.len v0))))) ?_
          refine rp rfl rfl (u_ld rfl rfl Tryd.underlying9 rfl rfl ((Sub.refl _).trans (GValue.sub3 v0))) ?_
          refine bindK H fun r'6 h32 H => ?_
          refine rp rfl rfl (p_callp rfl rfl rfl Tryd.func40 rfl rfl (g_utf8_ValidString_ac h32) ⟨rfl, trivial⟩) ?_
          refine rp rfl rfl (p_not rfl rfl) ?_
          refine rz [(82, .b (!r'6))] [] rfl rfl rfl ?_
          refine AW2_cond rfl (fun h33 => ?_) (fun h33 => ?_)
          ·replace H := ite_then h33 H
           refine sg [0] rfl ?_
           refine rp rfl rfl (p_asg rfl rfl) ?_
           refine rz [(2, .i (3 : Int))] [] rfl rfl rfl ?_
           refine AW2_ret ?_
           have hz := some_elim H
           subst hz
           exact ⟨rfl, ⟨res_tmp (.same _), trivial⟩, trivial⟩
          ·replace H := ite_else (ne_true h33) H
           refine as2 [] [] rfl rfl rfl ?_
           refine AW2_skip ?_
           have hz := some_elim H
           subst hz
           exact ⟨rfl, rfl⟩
         ·replace H := ite_else h31 H
          refine as2 [] [] rfl rfl rfl ?_
          refine AW2_skip ?_
          have hz := some_elim H
          subst hz
          exact ⟨rfl, rfl⟩
      ·subst hy
       refine sg [0] rfl ?_
       refine rp rfl rfl (p_asg rfl rfl) ?_
       refine rz [(2, .i (0 : Int))] [] rfl rfl rfl ?_
       refine AW2_ret ?_
       have hz := some_elim H
       subst hz
       exact ⟨⟨res_tmp (.same _), trivial⟩, trivial⟩
      ·subst hy
       obtain ⟨rfl, hs⟩ := hs
       have hz := some_elim H
       subst hz
       exact ⟨hs.1, hs.2⟩

/-! code.Decode$1 -/
def g_code_Decode_1_i0_r4 : List (List (Nat × Option Nat)) := [[(1, none)], [(0, none)], [(12, some 1)], [(11, some 0), (13, some 2)], [(14, some 3)], [(2, none)]]
def g_code_Decode_1_i0_r4c : List (List Nat) := [[], [], [1], [0, 1, 2], [0, 1, 2, 3], [], [0, 1, 2, 3, 4, 5], [0, 1, 2, 3, 4, 5, 6], [0, 1, 2, 3, 4, 5, 6, 7]]
noncomputable def g_code_Decode_1_i0 (t0 : Int) (t1 : List UInt8) (t2 : UInt8) : Option (UInt8 × Bool × Int × (List UInt8) × UInt8) :=
  (if t0 ≥ (t1.length : Int) then some ((0 : UInt8), false, t0, t1, t2) else if 0 ≤ w64 ((w64 (t0 + (1 : Int))) - (1 : Int)) ∧ w64 ((w64 (t0 + (1 : Int))) - (1 : Int)) < (t1.length : Int) then some ((lrd t1 ((w64 ((w64 (t0 + (1 : Int))) - (1 : Int))).toNat)) ^^^ t2, true, w64 (t0 + (1 : Int)), t1, t2) else none)
set_option maxHeartbeats 4000000 in
set_option maxRecDepth 100000 in
theorem g_code_Decode_1_i0_ac2 {t0 : Int} {t1 : List UInt8} {t2 : UInt8} {r : UInt8 × Bool × Int × (List UInt8) × UInt8} (H : g_code_Decode_1_i0 t0 t1 t2 = some r) : AC2 Tryd.prog 53 [.q 2000 0, .q 2001 0, .q 2002 0] [(2000, .pure ([(AV.int t0)])), (2001, .pure ([(AV.bytes t1)])), (2002, .pure ([(AV.b8 t2)]))] (retV [.p (AV.b8 r.1), .b r.2.1]) [(2000, .pure ([(AV.int r.2.2.1)])), (2001, .pure ([(AV.bytes r.2.2.2.1)])), (2002, .pure ([(AV.b8 r.2.2.2.2)]))] := by
 refine AC2_of_body (vs := [.p (AV.b8 r.1), .b r.2.1]) Tryd.func53 rfl rfl (Nat.le_of_ble_eq_true rfl) rfl ?_
 unfold g_code_Decode_1_i0 at H
 refine as2 [(0, .q 2000 (0)), (1, .q 2001 (0)), (2, .q 2002 (0))] [(2000, .pure ([(AV.int t0)])), (2001, .pure ([(AV.bytes t1)])), (2002, .pure ([(AV.b8 t2)]))] rfl rfl rfl ?_
 refine sg [0, 1] rfl ?_
 refine rp rfl rfl (p_asg rfl rfl) ?_
 refine rp rfl rfl (p_asg rfl rfl) ?_
 refine rz [(0, .q 2000 (0)), (1, .q 2001 (0)), (2, .q 2002 (0))] [(2000, .pure ([(AV.int t0)])), (2001, .pure ([(AV.bytes t1)])), (2002, .pure ([(AV.b8 t2)]))] rfl rfl rfl ?_
 refine AW2_seq ?_
 refine sg [0, 1, 2, 3] rfl ?_
 refine rp rfl rfl (u_ld rfl rfl Tryd.underlying3 rfl rfl (Sub.refl _)) ?_
 refine rp rfl rfl (u_ld rfl rfl Tryd.underlying33 rfl rfl (Sub.refl _)) ?_
 refine rp rfl rfl (p_lenl rfl Tryd.underlying33 rfl rfl) ?_
 refine rp rfl rfl (p_bin rfl rfl rfl rfl) ?_
 refine rz [(0, .q 2000 (0)), (1, .q 2001 (0)), (2, .q 2002 (0)), (8, .b (decide (t0 ≥ (t1.length : Int))))] [(2000, .pure ([(AV.int t0)])), (2001, .pure ([(AV.bytes t1)])), (2002, .pure ([(AV.b8 t2)]))] rfl rfl rfl ?_
 refine AW2_if (p := t0 ≥ (t1.length : Int)) rfl (fun h1 => ?_) (fun h1 => ?_)
 ·replace H := ite_then h1 H
  refine sg [0, 1] rfl ?_
  refine rp rfl rfl (p_asg rfl rfl) ?_
  refine rp rfl rfl (p_asg rfl rfl) ?_
  refine rz [(3, .p (AV.b8 (0 : UInt8))), (4, .b false)] [(2000, .pure ([(AV.int t0)])), (2001, .pure ([(AV.bytes t1)])), (2002, .pure ([(AV.b8 t2)]))] rfl rfl rfl ?_
  refine AW2_ret ?_
  have hz := some_elim H
  subst hz
  exact ⟨⟨res_tmp (.same _), res_tmp (.same _), trivial⟩, ⟨rfl, rfl, rfl, trivial⟩⟩
 ·replace H := ite_else h1 H
  refine as2 [(0, .q 2000 (0)), (1, .q 2001 (0)), (2, .q 2002 (0))] [(2000, .pure ([(AV.int t0)])), (2001, .pure ([(AV.bytes t1)])), (2002, .pure ([(AV.b8 t2)]))] rfl rfl rfl ?_
  refine AW2_skip ?_
  refine sg [0, 1, 2] rfl ?_
  refine rp rfl rfl (u_ld rfl rfl Tryd.underlying3 rfl rfl (Sub.refl _)) ?_
  refine rp rfl rfl (p_bin rfl rfl rfl rfl) ?_
  refine r_op rfl rfl (u_st rfl rfl rfl rfl rfl in_3 rfl (List.cons_ne_nil _ _) (Upd.refl (rfl.trans rfl.symm))) ?_
  refine rz [(0, .q 2000 (0)), (1, .q 2001 (0)), (2, .q 2002 (0))] [(2000, .pure ([(AV.int (w64 (t0 + (1 : Int))))])), (2001, .pure ([(AV.bytes t1)])), (2002, .pure ([(AV.b8 t2)]))] rfl rfl rfl ?_
  refine AW2_seq ?_
  refine chkK H fun h2 H => ?_
  refine AW2_ghoQ ?_
  refine AW2_draw 6 [6, 7, 8] (fun k => ([.y t1, .i (w64 (t0 + (1 : Int))), .i (w64 ((w64 (t0 + (1 : Int))) - (1 : Int))), .p (.rptr (bcells t1) (((w64 ((w64 (t0 + (1 : Int))) - (1 : Int))).toNat) * 1)), .p (AV.b8 (lrd t1 ((w64 ((w64 (t0 + (1 : Int))) - (1 : Int))).toNat))), .p (AV.b8 t2)] : List TV).getD k TV.any) (fun k => g_code_Decode_1_i0_r4.getD k []) [(15, some 4), (16, some 5)] [] (fun k => g_code_Decode_1_i0_r4c.getD k []) mixed (by kernel_rfl) rfl rfl (a_op (g_x rfl (x_p rfl (u_ld rfl rfl Tryd.underlying33 rfl rfl (Sub.refl _)) rfl)) (a_op (g_x rfl (x_p rfl (u_ld rfl rfl Tryd.underlying3 rfl rfl (Sub.refl _)) rfl)) (a_op (g_x rfl (x_p rfl (p_bin rfl rfl rfl rfl) rfl)) (a_op (g_x rfl (x_p rfl (u_ixl rfl rfl Tryd.underlying33 in_5 rfl rfl (ixe h2) (ixn h2) (lne (ixn h2))) rfl)) (a_op (g_x rfl (x_p rfl (u_ld rfl rfl Tryd.underlying5 rfl rfl (Sub.map default (ixn h2))) rfl)) (a_op (g_x rfl (x_p rfl (u_ld rfl rfl Tryd.underlying5 rfl rfl (Sub.refl _)) rfl)) (a_nil))))))) ?_
  refine t_op rfl rfl (PureD.opD (p_u8xor (a := (lrd t1 ((w64 ((w64 (t0 + (1 : Int))) - (1 : Int))).toNat))) (b := t2) rfl rfl rfl)) ?_
  refine t_op rfl rfl (PureD.opD (p_asg rfl rfl)) ?_
  refine t_op rfl rfl (PureD.opD (p_asg rfl rfl)) ?_
  refine t_gho (Gho_st (L := [(3, .p (AV.b8 ((lrd t1 ((w64 ((w64 (t0 + (1 : Int))) - (1 : Int))).toNat)) ^^^ t2))), (4, .b true)]) (H := [(2000, .pure ([(AV.int (w64 (t0 + (1 : Int))))])), (2001, .pure ([(AV.bytes t1)])), (2002, .pure ([(AV.b8 t2)]))]) (N := 18) rfl ⟨TLes.same _, TLes.same _, trivial⟩ ⟨rfl, rfl, rfl, trivial⟩) ?_
  refine AW2_ret ?_
  have hz := some_elim H
  subst hz
  exact ⟨⟨res_tmp (.same _), res_tmp (.same _), trivial⟩, ⟨rfl, rfl, rfl, trivial⟩⟩

/-! code.text -/
noncomputable def g_code_text_i0_l0 : (List UInt8) × Int × (List UInt8) × UInt8 → Option (((List UInt8) × Int × (List UInt8) × UInt8) ⊕ (((List UInt8) × Int × Int × (List UInt8) × UInt8) ⊕ ((List UInt8) × Int × (List UInt8) × UInt8)))
  | (s4_0, t2100_0, t2101_0, t2102_0) => (g_code_Decode_1_i0 t2100_0 t2101_0 t2102_0).bind fun r'1 => (if (!r'1.2.1) = true then some (.inr (.inl ([], (4 : Int), r'1.2.2.1, r'1.2.2.2.1, r'1.2.2.2.2))) else (show Option ((((List UInt8) × Int × Int × (List UInt8) × UInt8) ⊕ (Int × (List UInt8) × UInt8)) ⊕ (Int × (List UInt8) × UInt8)) from (if r'1.1 = (0 : UInt8) then (g_code_Decode_1_i0 r'1.2.2.1 r'1.2.2.2.1 r'1.2.2.2.2).bind fun r'5 => (if (!r'5.2.1) = true then some (.inl (.inl ([], (4 : Int), r'5.2.2.1, r'5.2.2.2.1, r'5.2.2.2.2))) else (if r'5.1 = (1 : UInt8) then some (.inl (.inr (r'5.2.2.1, r'5.2.2.2.1, r'5.2.2.2.2))) else (if r'5.1 ≠ (255 : UInt8) then some (.inl (.inl ([], (3 : Int), r'5.2.2.1, r'5.2.2.2.1, r'5.2.2.2.2))) else some (.inr (r'5.2.2.1, r'5.2.2.2.1, r'5.2.2.2.2))))) else some (.inr (r'1.2.2.1, r'1.2.2.2.1, r'1.2.2.2.2)))).bind fun o'8 => match o'8 with | .inl (.inl y'6) => some (.inr (.inl y'6)) | .inl (.inr (y'7)) => some (.inr (.inr (s4_0, y'7.1, y'7.2.1, y'7.2.2))) | .inr j'2 => (if (s4_0.length : Int) = (40 : Int) then some (.inr (.inl ([], (1 : Int), j'2.1, j'2.2.1, j'2.2.2))) else if room (s4_0.length + ([r'1.1] : List UInt8).length) 1 then some (.inl (s4_0 ++ ([r'1.1] : List UInt8), j'2.1, j'2.2.1, j'2.2.2)) else none))
noncomputable def g_code_text_i0 (next0c0 : Int) (next0c1 : List UInt8) (next0c2 : UInt8) : Option ((List UInt8) × Int × Int × (List UInt8) × UInt8) :=
  (loopO (g_code_text_i0_l0) (([] : List UInt8), next0c0, next0c1, next0c2)).bind fun o'13 => match o'13 with | .inl y'14 => some y'14 | .inr (y'15) => (g_utf8_Valid y'15.1).bind fun r'16 => (if (!r'16) = true then some ([], (3 : Int), y'15.2.1, y'15.2.2.1, y'15.2.2.2) else some (y'15.1, (0 : Int), y'15.2.1, y'15.2.2.1, y'15.2.2.2))
set_option maxHeartbeats 4000000 in
set_option maxRecDepth 100000 in
theorem g_code_text_i0_ac2 {next0c0 : Int} {next0c1 : List UInt8} {next0c2 : UInt8} {r : (List UInt8) × Int × Int × (List UInt8) × UInt8} (H : g_code_text_i0 next0c0 next0c1 next0c2 = some r) : AC2 Tryd.prog 75 [.clo 53 [.ptr 2100 0, .ptr 2101 0, .ptr 2102 0]] [(2100, .pure ([(AV.int next0c0)])), (2101, .pure ([(AV.bytes next0c1)])), (2102, .pure ([(AV.b8 next0c2)]))] (retV [.t r.1, .i r.2.1]) [(2100, .pure ([(AV.int r.2.2.1)])), (2101, .pure ([(AV.bytes r.2.2.2.1)])), (2102, .pure ([(AV.b8 r.2.2.2.2)]))] := by
 refine AC2_of_body (vs := [.t r.1, .i r.2.1]) Tryd.func75 rfl rfl (Nat.le_of_ble_eq_true rfl) rfl ?_
 unfold g_code_text_i0 at H
 refine AW2_st [(0, .clo 53 [(.ptr 2100 (0)), (.ptr 2101 (0)), (.ptr 2102 (0))])] [(2100, .pure ([(AV.int next0c0)])), (2101, .pure ([(AV.bytes next0c1)])), (2102, .pure ([(AV.b8 next0c2)]))] rfl ⟨(fun _ => .same _), trivial⟩ ⟨rfl, rfl, rfl, trivial⟩ ?_
 refine sg [0, 1] rfl ?_
 refine rp rfl rfl (p_asg rfl rfl) ?_
 refine rp rfl rfl (p_asg rfl rfl) ?_
 refine RunW_st [(0, .clo 53 [(.ptr 2100 (0)), (.ptr 2101 (0)), (.ptr 2102 (0))])] [(2100, .pure ([(AV.int next0c0)])), (2101, .pure ([(AV.bytes next0c1)])), (2102, .pure ([(AV.b8 next0c2)]))] rfl ⟨(fun _ => .same _), trivial⟩ ⟨rfl, rfl, rfl, trivial⟩ ?_
 refine RunW_nil ?_
 refine sg [0] rfl ?_
 refine rp rfl rfl (p_asgn rfl) ?_
 refine RunW_st [(0, .clo 53 [(.ptr 2100 (0)), (.ptr 2101 (0)), (.ptr 2102 (0))]), (4, .p .nil)] [(2100, .pure ([(AV.int next0c0)])), (2101, .pure ([(AV.bytes next0c1)])), (2102, .pure ([(AV.b8 next0c2)]))] rfl ⟨(fun _ => .same _), TLes.same _, trivial⟩ ⟨rfl, rfl, rfl, trivial⟩ ?_
 refine RunW_nil ?_
 refine AW2_seq ?_
 refine AW2_block ?_
 refine AW2_st [(0, .clo 53 [(.ptr 2100 (0)), (.ptr 2101 (0)), (.ptr 2102 (0))]), (4, .p .nil)] [(2100, .pure ([(AV.int next0c0)])), (2101, .pure ([(AV.bytes next0c1)])), (2102, .pure ([(AV.b8 next0c2)]))] rfl ⟨(fun _ => .same _), TLes.same _, trivial⟩ ⟨rfl, rfl, rfl, trivial⟩ ?_
 refine AW2_gho (Gho_own (d := 4) (b := 4) (z := 1) rfl rfl rfl rfl) ?_
 refine AW2_st [(0, .clo 53 [(.ptr 2100 (0)), (.ptr 2101 (0)), (.ptr 2102 (0))]), (4, .c (.own 4 ([] : List UInt8).length 1))] [(4, .pure (bcells ([] : List UInt8))), (2100, .pure ([(AV.int next0c0)])), (2101, .pure ([(AV.bytes next0c1)])), (2102, .pure ([(AV.b8 next0c2)]))] rfl ⟨(fun _ => .same _), TLes.own rfl, trivial⟩ ⟨rfl, rfl, rfl, rfl, trivial⟩ ?_
 refine bindK H fun o'13 h11 H => ?_
 refine AW2_loopO (fun a'10 : (List UInt8) × Int × (List UInt8) × UInt8 => (⟨[(0, .clo 53 [(.ptr 2100 (0)), (.ptr 2101 (0)), (.ptr 2102 (0))]), (4, .c (.own 4 a'10.1.length 1))], [(4, .pure (bcells a'10.1)), (2100, .pure ([(AV.int a'10.2.1)])), (2101, .pure ([(AV.bytes a'10.2.2.1)])), (2102, .pure ([(AV.b8 a'10.2.2.2)]))], 41⟩ : TS)) (fun (o : ((List UInt8) × Int × Int × (List UInt8) × UInt8) ⊕ ((List UInt8) × Int × (List UInt8) × UInt8)) e s' => match o with | .inl y'11 => e = Go.Exit.ret ∧ ResAll Tryd.prog s' [ResultVar.tmp 2, ResultVar.tmp 3] [.t y'11.1, .i y'11.2.1] ∧ HFits s' [(2100, .pure ([(AV.int y'11.2.2.1)])), (2101, .pure ([(AV.bytes y'11.2.2.2.1)])), (2102, .pure ([(AV.b8 y'11.2.2.2.2)]))] | .inr (y'12) => e = Go.Exit.exit 0 ∧ s' = (⟨[(4, .c (.own 4 y'12.1.length 1))], [(4, .pure (bcells y'12.1)), (2100, .pure ([(AV.int y'12.2.1)])), (2101, .pure ([(AV.bytes y'12.2.2.1)])), (2102, .pure ([(AV.b8 y'12.2.2.2)]))], 41⟩ : TS)) h11 rfl (fun a x hx => ?_) (fun e s' hs => ?_)
 ·clear H
  obtain ⟨s4_0, t2100_0, t2101_0, t2102_0⟩ := a
  have H := hx
  clear hx
  unfold g_code_text_i0_l0 at H
  refine AW2_block ?_
  refine sg [0, 1, 2, 3, 4, 5, 6] rfl ?_
  refine rp rfl rfl (p_move rfl rfl) ?_
  refine bindK H fun r'1 h1 H => ?_
  refine r_op rfl rfl (d_callh [(2000, 2100), (2001, 2101), (2002, 2102)] rfl rfl rfl Tryd.func53 rfl rfl (g_code_Decode_1_i0_ac2 h1) ⟨TLes.same _, TLes.same _, TLes.same _, trivial⟩ ⟨rfl, rfl, rfl, trivial⟩ rfl rfl) ?_
  refine rp rfl rfl (p_move rfl rfl) ?_
  refine rp rfl rfl (p_ext2 rfl rfl rfl rfl) ?_
  refine rp rfl rfl (p_ext2 rfl rfl rfl rfl) ?_
  refine rp rfl rfl (p_asg rfl rfl) ?_
  refine rp rfl rfl (p_asg rfl rfl) ?_
  refine RunW_st [(0, .clo 53 [(.ptr 2100 (0)), (.ptr 2101 (0)), (.ptr 2102 (0))]), (4, .c (.own 4 s4_0.length 1)), (5, .p (AV.b8 r'1.1)), (6, .b r'1.2.1)] [(4, .pure (bcells s4_0)), (2100, .pure ([(AV.int r'1.2.2.1)])), (2101, .pure ([(AV.bytes r'1.2.2.2.1)])), (2102, .pure ([(AV.b8 r'1.2.2.2.2)]))] rfl ⟨(fun _ => .same _), TLes.same _, TLes.same _, TLes.same _, trivial⟩ ⟨rfl, rfl, rfl, rfl, trivial⟩ ?_
  refine RunW_nil ?_
  refine AW2_seq ?_
  refine sg [0, 1] rfl ?_
  refine rp rfl rfl (p_move rfl rfl) ?_
  refine rp rfl rfl (p_not rfl rfl) ?_
  refine RunW_st [(0, .clo 53 [(.ptr 2100 (0)), (.ptr 2101 (0)), (.ptr 2102 (0))]), (4, .c (.own 4 s4_0.length 1)), (5, .p (AV.b8 r'1.1)), (15, .b (!r'1.2.1))] [(4, .pure (bcells s4_0)), (2100, .pure ([(AV.int r'1.2.2.1)])), (2101, .pure ([(AV.bytes r'1.2.2.2.1)])), (2102, .pure ([(AV.b8 r'1.2.2.2.2)]))] rfl ⟨(fun _ => .same _), TLes.same _, TLes.same _, TLes.same _, trivial⟩ ⟨rfl, rfl, rfl, rfl, trivial⟩ ?_
  refine RunW_nil ?_
  refine AW2_cond rfl (fun h2 => ?_) (fun h2 => ?_)
  ·replace H := ite_then h2 H
   refine sg [0, 1] rfl ?_
   refine rp rfl rfl (p_asg rfl rfl) ?_
   refine rp rfl rfl (p_asg rfl rfl) ?_
   refine rz [(2, .t []), (3, .i (4 : Int))] [(2100, .pure ([(AV.int r'1.2.2.1)])), (2101, .pure ([(AV.bytes r'1.2.2.2.1)])), (2102, .pure ([(AV.b8 r'1.2.2.2.2)]))] rfl rfl rfl ?_
   refine AW2_ret ?_
   have hz := some_elim H
   subst hz
   exact ⟨rfl, ⟨res_tmp (.same _), res_tmp (.same _), trivial⟩, ⟨rfl, rfl, rfl, trivial⟩⟩
  ·replace H := ite_else (ne_true h2) H
   refine AW2_st [(0, .clo 53 [(.ptr 2100 (0)), (.ptr 2101 (0)), (.ptr 2102 (0))]), (4, .c (.own 4 s4_0.length 1)), (5, .p (AV.b8 r'1.1))] [(4, .pure (bcells s4_0)), (2100, .pure ([(AV.int r'1.2.2.1)])), (2101, .pure ([(AV.bytes r'1.2.2.2.1)])), (2102, .pure ([(AV.b8 r'1.2.2.2.2)]))] rfl ⟨(fun _ => .same _), TLes.same _, TLes.same _, trivial⟩ ⟨rfl, rfl, rfl, rfl, trivial⟩ ?_
   refine AW2_skip ?_
   refine AW2_seq ?_
   refine bindK H fun o'8 h3 H => ?_
   refine AW2_join (fun j'2 : Int × (List UInt8) × UInt8 => (⟨[(0, .clo 53 [(.ptr 2100 (0)), (.ptr 2101 (0)), (.ptr 2102 (0))]), (4, .c (.own 4 s4_0.length 1)), (5, .p (AV.b8 r'1.1))], [(4, .pure (bcells s4_0)), (2100, .pure ([(AV.int j'2.1)])), (2101, .pure ([(AV.bytes j'2.2.1)])), (2102, .pure ([(AV.b8 j'2.2.2)]))], 41⟩ : TS)) (fun (o : ((List UInt8) × Int × Int × (List UInt8) × UInt8) ⊕ (Int × (List UInt8) × UInt8)) e s' => match o with | .inl y'3 => e = Go.Exit.ret ∧ ResAll Tryd.prog s' [ResultVar.tmp 2, ResultVar.tmp 3] [.t y'3.1, .i y'3.2.1] ∧ HFits s' [(2100, .pure ([(AV.int y'3.2.2.1)])), (2101, .pure ([(AV.bytes y'3.2.2.2.1)])), (2102, .pure ([(AV.b8 y'3.2.2.2.2)]))] | .inr (y'4) => e = Go.Exit.exit 0 ∧ s' = (⟨[(4, .c (.own 4 s4_0.length 1))], [(4, .pure (bcells s4_0)), (2100, .pure ([(AV.int y'4.1)])), (2101, .pure ([(AV.bytes y'4.2.1)])), (2102, .pure ([(AV.b8 y'4.2.2)]))], 41⟩ : TS)) (x := o'8) ?_ (fun j'2 hy => ?_) (fun z'9 e s' hy hs => ?_)
   ·clear H
    have H := h3
    clear h3
    refine sg [0, 1] rfl ?_
    refine rp rfl rfl (p_move rfl rfl) ?_
    refine rp rfl rfl (p_u8eq (a := r'1.1) (b := (0 : UInt8)) rfl rfl rfl) ?_
    refine RunW_st [(0, .clo 53 [(.ptr 2100 (0)), (.ptr 2101 (0)), (.ptr 2102 (0))]), (4, .c (.own 4 s4_0.length 1)), (5, .p (AV.b8 r'1.1)), (17, .b (decide (r'1.1 = (0 : UInt8))))] [(4, .pure (bcells s4_0)), (2100, .pure ([(AV.int r'1.2.2.1)])), (2101, .pure ([(AV.bytes r'1.2.2.2.1)])), (2102, .pure ([(AV.b8 r'1.2.2.2.2)]))] rfl ⟨(fun _ => .same _), TLes.same _, TLes.same _, TLes.same _, trivial⟩ ⟨rfl, rfl, rfl, rfl, trivial⟩ ?_
    refine RunW_nil ?_
    refine AW2_if (p := r'1.1 = (0 : UInt8)) rfl (fun h4 => ?_) (fun h4 => ?_)
    ·replace H := ite_then h4 H
     refine sg [0, 1, 2, 3, 4, 5, 6] rfl ?_
     refine rp rfl rfl (p_move rfl rfl) ?_
     refine bindK H fun r'5 h5 H => ?_
     refine r_op rfl rfl (d_callh [(2000, 2100), (2001, 2101), (2002, 2102)] rfl rfl rfl Tryd.func53 rfl rfl (g_code_Decode_1_i0_ac2 h5) ⟨TLes.same _, TLes.same _, TLes.same _, trivial⟩ ⟨rfl, rfl, rfl, trivial⟩ rfl rfl) ?_
     refine rp rfl rfl (p_move rfl rfl) ?_
     refine rp rfl rfl (p_ext2 rfl rfl rfl rfl) ?_
     refine rp rfl rfl (p_ext2 rfl rfl rfl rfl) ?_
     refine rp rfl rfl (p_asg rfl rfl) ?_
     refine rp rfl rfl (p_asg rfl rfl) ?_
     refine RunW_st [(0, .clo 53 [(.ptr 2100 (0)), (.ptr 2101 (0)), (.ptr 2102 (0))]), (4, .c (.own 4 s4_0.length 1)), (5, .p (AV.b8 r'1.1)), (7, .p (AV.b8 r'5.1)), (8, .b r'5.2.1)] [(4, .pure (bcells s4_0)), (2100, .pure ([(AV.int r'5.2.2.1)])), (2101, .pure ([(AV.bytes r'5.2.2.2.1)])), (2102, .pure ([(AV.b8 r'5.2.2.2.2)]))] rfl ⟨(fun _ => .same _), TLes.same _, TLes.same _, TLes.same _, TLes.same _, trivial⟩ ⟨rfl, rfl, rfl, rfl, trivial⟩ ?_
     refine RunW_nil ?_
     refine AW2_seq ?_
     refine sg [0, 1] rfl ?_
     refine rp rfl rfl (p_move rfl rfl) ?_
     refine rp rfl rfl (p_not rfl rfl) ?_
     refine RunW_st [(0, .clo 53 [(.ptr 2100 (0)), (.ptr 2101 (0)), (.ptr 2102 (0))]), (4, .c (.own 4 s4_0.length 1)), (5, .p (AV.b8 r'1.1)), (7, .p (AV.b8 r'5.1)), (24, .b (!r'5.2.1))] [(4, .pure (bcells s4_0)), (2100, .pure ([(AV.int r'5.2.2.1)])), (2101, .pure ([(AV.bytes r'5.2.2.2.1)])), (2102, .pure ([(AV.b8 r'5.2.2.2.2)]))] rfl ⟨(fun _ => .same _), TLes.same _, TLes.same _, TLes.same _, TLes.same _, trivial⟩ ⟨rfl, rfl, rfl, rfl, trivial⟩ ?_
     refine RunW_nil ?_
     refine AW2_cond rfl (fun h6 => ?_) (fun h6 => ?_)
     ·replace H := ite_then h6 H
      refine sg [0, 1] rfl ?_
      refine rp rfl rfl (p_asg rfl rfl) ?_
      refine rp rfl rfl (p_asg rfl rfl) ?_
      refine rz [(2, .t []), (3, .i (4 : Int))] [(2100, .pure ([(AV.int r'5.2.2.1)])), (2101, .pure ([(AV.bytes r'5.2.2.2.1)])), (2102, .pure ([(AV.b8 r'5.2.2.2.2)]))] rfl rfl rfl ?_
      refine AW2_ret ?_
      have hz := some_elim H
      subst hz
      exact ⟨rfl, ⟨res_tmp (.same _), res_tmp (.same _), trivial⟩, ⟨rfl, rfl, rfl, trivial⟩⟩
     ·replace H := ite_else (ne_true h6) H
      refine AW2_st [(0, .clo 53 [(.ptr 2100 (0)), (.ptr 2101 (0)), (.ptr 2102 (0))]), (4, .c (.own 4 s4_0.length 1)), (5, .p (AV.b8 r'1.1)), (7, .p (AV.b8 r'5.1))] [(4, .pure (bcells s4_0)), (2100, .pure ([(AV.int r'5.2.2.1)])), (2101, .pure ([(AV.bytes r'5.2.2.2.1)])), (2102, .pure ([(AV.b8 r'5.2.2.2.2)]))] rfl ⟨(fun _ => .same _), TLes.same _, TLes.same _, TLes.same _, trivial⟩ ⟨rfl, rfl, rfl, rfl, trivial⟩ ?_
      refine AW2_skip ?_
      refine AW2_seq ?_
      refine sg [0, 1] rfl ?_
      refine rp rfl rfl (p_move rfl rfl) ?_
      refine rp rfl rfl (p_u8eq (a := r'5.1) (b := (1 : UInt8)) rfl rfl rfl) ?_
      refine RunW_st [(0, .clo 53 [(.ptr 2100 (0)), (.ptr 2101 (0)), (.ptr 2102 (0))]), (4, .c (.own 4 s4_0.length 1)), (5, .p (AV.b8 r'1.1)), (7, .p (AV.b8 r'5.1)), (26, .b (decide (r'5.1 = (1 : UInt8))))] [(4, .pure (bcells s4_0)), (2100, .pure ([(AV.int r'5.2.2.1)])), (2101, .pure ([(AV.bytes r'5.2.2.2.1)])), (2102, .pure ([(AV.b8 r'5.2.2.2.2)]))] rfl ⟨(fun _ => .same _), TLes.same _, TLes.same _, TLes.same _, TLes.same _, trivial⟩ ⟨rfl, rfl, rfl, rfl, trivial⟩ ?_
      refine RunW_nil ?_
      refine AW2_if (p := r'5.1 = (1 : UInt8)) rfl (fun h7 => ?_) (fun h7 => ?_)
      ·replace H := ite_then h7 H
       refine as2 [(4, .c (.own 4 s4_0.length 1))] [(4, .pure (bcells s4_0)), (2100, .pure ([(AV.int r'5.2.2.1)])), (2101, .pure ([(AV.bytes r'5.2.2.2.1)])), (2102, .pure ([(AV.b8 r'5.2.2.2.2)]))] rfl rfl rfl ?_
       refine AW2_exit ?_
       refine thenQ2_exit ?_
       have hz := some_elim H
       subst hz
       exact ⟨rfl, rfl⟩
      ·replace H := ite_else h7 H
       refine AW2_st [(0, .clo 53 [(.ptr 2100 (0)), (.ptr 2101 (0)), (.ptr 2102 (0))]), (4, .c (.own 4 s4_0.length 1)), (5, .p (AV.b8 r'1.1)), (7, .p (AV.b8 r'5.1))] [(4, .pure (bcells s4_0)), (2100, .pure ([(AV.int r'5.2.2.1)])), (2101, .pure ([(AV.bytes r'5.2.2.2.1)])), (2102, .pure ([(AV.b8 r'5.2.2.2.2)]))] rfl ⟨(fun _ => .same _), TLes.same _, TLes.same _, TLes.same _, trivial⟩ ⟨rfl, rfl, rfl, rfl, trivial⟩ ?_
       refine AW2_skip ?_
       refine sg [0, 1] rfl ?_
       refine rp rfl rfl (p_move rfl rfl) ?_
       refine rp rfl rfl (p_u8ne (a := r'5.1) (b := (255 : UInt8)) rfl rfl rfl) ?_
       refine RunW_st [(0, .clo 53 [(.ptr 2100 (0)), (.ptr 2101 (0)), (.ptr 2102 (0))]), (4, .c (.own 4 s4_0.length 1)), (5, .p (AV.b8 r'1.1)), (28, .b (decide (r'5.1 ≠ (255 : UInt8))))] [(4, .pure (bcells s4_0)), (2100, .pure ([(AV.int r'5.2.2.1)])), (2101, .pure ([(AV.bytes r'5.2.2.2.1)])), (2102, .pure ([(AV.b8 r'5.2.2.2.2)]))] rfl ⟨(fun _ => .same _), TLes.same _, TLes.same _, TLes.same _, trivial⟩ ⟨rfl, rfl, rfl, rfl, trivial⟩ ?_
       refine RunW_nil ?_
       refine AW2_if (p := r'5.1 ≠ (255 : UInt8)) rfl (fun h8 => ?_) (fun h8 => ?_)
       ·replace H := ite_then h8 H
        refine sg [0, 1] rfl ?_
        refine rp rfl rfl (p_asg rfl rfl) ?_
        refine rp rfl rfl (p_asg rfl rfl) ?_
        refine rz [(2, .t []), (3, .i (3 : Int))] [(2100, .pure ([(AV.int r'5.2.2.1)])), (2101, .pure ([(AV.bytes r'5.2.2.2.1)])), (2102, .pure ([(AV.b8 r'5.2.2.2.2)]))] rfl rfl rfl ?_
        refine AW2_ret ?_
        have hz := some_elim H
        subst hz
        exact ⟨rfl, ⟨res_tmp (.same _), res_tmp (.same _), trivial⟩, ⟨rfl, rfl, rfl, trivial⟩⟩
       ·replace H := ite_else h8 H
        refine AW2_st [(0, .clo 53 [(.ptr 2100 (0)), (.ptr 2101 (0)), (.ptr 2102 (0))]), (4, .c (.own 4 s4_0.length 1)), (5, .p (AV.b8 r'1.1))] [(4, .pure (bcells s4_0)), (2100, .pure ([(AV.int r'5.2.2.1)])), (2101, .pure ([(AV.bytes r'5.2.2.2.1)])), (2102, .pure ([(AV.b8 r'5.2.2.2.2)]))] rfl ⟨(fun _ => .same _), TLes.same _, TLes.same _, trivial⟩ ⟨rfl, rfl, rfl, rfl, trivial⟩ ?_
        refine AW2_skip ?_
        have hz := some_elim H
        subst hz
        exact ⟨rfl, rfl⟩
    ·replace H := ite_else h4 H
     refine AW2_st [(0, .clo 53 [(.ptr 2100 (0)), (.ptr 2101 (0)), (.ptr 2102 (0))]), (4, .c (.own 4 s4_0.length 1)), (5, .p (AV.b8 r'1.1))] [(4, .pure (bcells s4_0)), (2100, .pure ([(AV.int r'1.2.2.1)])), (2101, .pure ([(AV.bytes r'1.2.2.2.1)])), (2102, .pure ([(AV.b8 r'1.2.2.2.2)]))] rfl ⟨(fun _ => .same _), TLes.same _, TLes.same _, trivial⟩ ⟨rfl, rfl, rfl, rfl, trivial⟩ ?_
     refine AW2_skip ?_
     have hz := some_elim H
     subst hz
     exact ⟨rfl, rfl⟩
   ·subst hy
    refine AW2_seq ?_
    refine sg [0, 1, 2] rfl ?_
    refine rp rfl rfl (p_move rfl rfl) ?_
    refine rp rfl rfl (p_leno rfl Tryd.underlying33 rfl rfl rfl (bl s4_0) (by decide)) ?_
    refine rp rfl rfl (p_ieq rfl rfl rfl) ?_
    refine RunW_st [(0, .clo 53 [(.ptr 2100 (0)), (.ptr 2101 (0)), (.ptr 2102 (0))]), (4, .c (.own 4 s4_0.length 1)), (5, .p (AV.b8 r'1.1)), (31, .b (decide ((s4_0.length : Int) = (40 : Int))))] [(4, .pure (bcells s4_0)), (2100, .pure ([(AV.int j'2.1)])), (2101, .pure ([(AV.bytes j'2.2.1)])), (2102, .pure ([(AV.b8 j'2.2.2)]))] rfl ⟨(fun _ => .same _), TLes.same _, TLes.same _, TLes.same _, trivial⟩ ⟨rfl, rfl, rfl, rfl, trivial⟩ ?_
    refine RunW_nil ?_
    refine AW2_if (p := (s4_0.length : Int) = (40 : Int)) rfl (fun h9 => ?_) (fun h9 => ?_)
    ·replace H := ite_then h9 H
     refine sg [0, 1] rfl ?_
     refine rp rfl rfl (p_asg rfl rfl) ?_
     refine rp rfl rfl (p_asg rfl rfl) ?_
     refine rz [(2, .t []), (3, .i (1 : Int))] [(2100, .pure ([(AV.int j'2.1)])), (2101, .pure ([(AV.bytes j'2.2.1)])), (2102, .pure ([(AV.b8 j'2.2.2)]))] rfl rfl rfl ?_
     refine AW2_ret ?_
     have hz := some_elim H
     subst hz
     exact ⟨rfl, ⟨res_tmp (.same _), res_tmp (.same _), trivial⟩, ⟨rfl, rfl, rfl, trivial⟩⟩
    ·replace H := ite_else h9 H
     refine AW2_st [(0, .clo 53 [(.ptr 2100 (0)), (.ptr 2101 (0)), (.ptr 2102 (0))]), (4, .c (.own 4 s4_0.length 1)), (5, .p (AV.b8 r'1.1))] [(4, .pure (bcells s4_0)), (2100, .pure ([(AV.int j'2.1)])), (2101, .pure ([(AV.bytes j'2.2.1)])), (2102, .pure ([(AV.b8 j'2.2.2)]))] rfl ⟨(fun _ => .same _), TLes.same _, TLes.same _, trivial⟩ ⟨rfl, rfl, rfl, rfl, trivial⟩ ?_
     refine AW2_skip ?_
     refine AW2_reg [0, 1, 2, 3, 4] rfl ?_
     refine rp rfl rfl (p_move rfl rfl) ?_
     refine rp rfl rfl (p_move rfl rfl) ?_
     refine r_op rfl rfl (MakeD.opD (u_bs 34 rfl Tryd.underlying33 in_5 rfl one_5 (by decide) (by decide) rfl rfl rfl) rfl rfl rfl rfl) ?_
     refine chkK H fun h10 H => ?_
     refine r_op rfl rfl (u_app [4, 32] rfl rfl rfl rfl Tryd.underlying33 Tryd.underlying33 in_5 rfl rfl rfl (bl s4_0) (by decide) (srcT_o rfl rfl (bl ([r'1.1] : List UInt8)) (by decide)) (bl ([r'1.1] : List UInt8)) h10 (by decide) rfl rfl (bapp s4_0 ([r'1.1] : List UInt8)) (lapp s4_0 ([r'1.1] : List UInt8))) ?_
     refine rp rfl rfl (p_asg rfl rfl) ?_
     refine RunW_st [(0, .clo 53 [(.ptr 2100 (0)), (.ptr 2101 (0)), (.ptr 2102 (0))]), (4, .c (.own 4 (s4_0 ++ ([r'1.1] : List UInt8)).length 1))] [(4, .pure (bcells (s4_0 ++ ([r'1.1] : List UInt8)))), (2100, .pure ([(AV.int j'2.1)])), (2101, .pure ([(AV.bytes j'2.2.1)])), (2102, .pure ([(AV.b8 j'2.2.2)]))] rfl ⟨(fun _ => .same _), TLes.same _, trivial⟩ ⟨rfl, rfl, rfl, rfl, trivial⟩ ?_
     refine RunW_nil ?_
     have hz := some_elim H
     subst hz
     exact ⟨rfl, rfl⟩
   ·subst hy
    rcases z'9 with y'6 | y'7
    ·obtain ⟨rfl, hs⟩ := hs
     have hz := some_elim H
     subst hz
     exact ⟨rfl, hs.1, hs.2⟩
    ·obtain ⟨rfl, rfl⟩ := hs
     refine thenQ2_exit ?_
     refine blockQ2_pass (by decide) ?_
     have hz := some_elim H
     subst hz
     exact ⟨rfl, rfl⟩
 ·rcases o'13 with y'14 | y'15
  ·obtain ⟨rfl, hs⟩ := hs
   refine ⟨by simp, ?_⟩
   have hz := some_elim H
   subst hz
   exact ⟨hs.1, hs.2⟩
  ·obtain ⟨rfl, rfl⟩ := hs
   refine ⟨by simp, ?_⟩
   refine blockQ2_exit ?_
   refine AW2_seq ?_
   refine sg [0, 1, 2] rfl ?_
   refine rp rfl rfl (p_move rfl rfl) ?_
   refine bindK H fun r'16 h12 H => ?_
   refine rp rfl rfl (p_calll rfl rfl rfl Tryd.func87 rfl rfl (g_utf8_Valid_ac h12) rfl ⟨lend_o rfl rfl rfl (bl y'15.1) (by decide), trivial⟩) ?_
   refine rp rfl rfl (p_not rfl rfl) ?_
   refine rz [(4, .c (.own 4 y'15.1.length 1)), (38, .b (!r'16))] [(4, .pure (bcells y'15.1)), (2100, .pure ([(AV.int y'15.2.1)])), (2101, .pure ([(AV.bytes y'15.2.2.1)])), (2102, .pure ([(AV.b8 y'15.2.2.2)]))] rfl rfl rfl ?_
   refine AW2_cond rfl (fun h13 => ?_) (fun h13 => ?_)
   ·replace H := ite_then h13 H
    refine sg [0, 1] rfl ?_
    refine rp rfl rfl (p_asg rfl rfl) ?_
    refine rp rfl rfl (p_asg rfl rfl) ?_
    refine rz [(2, .t []), (3, .i (3 : Int))] [(2100, .pure ([(AV.int y'15.2.1)])), (2101, .pure ([(AV.bytes y'15.2.2.1)])), (2102, .pure ([(AV.b8 y'15.2.2.2)]))] rfl rfl rfl ?_
    refine AW2_ret ?_
    have hz := some_elim H
    subst hz
    exact ⟨⟨res_tmp (.same _), res_tmp (.same _), trivial⟩, ⟨rfl, rfl, rfl, trivial⟩⟩
   ·replace H := ite_else (ne_true h13) H
    refine as2 [(4, .c (.own 4 y'15.1.length 1))] [(4, .pure (bcells y'15.1)), (2100, .pure ([(AV.int y'15.2.1)])), (2101, .pure ([(AV.bytes y'15.2.2.1)])), (2102, .pure ([(AV.b8 y'15.2.2.2)]))] rfl rfl rfl ?_
    refine AW2_skip ?_
    refine sg [0, 1, 2, 3] rfl ?_
    refine rp rfl rfl (p_move rfl rfl) ?_
    refine rp rfl rfl (p_cbo (bs := y'15.1) rfl rfl Tryd.underlying33 Tryd.underlying5 Tryd.underlying9 rfl rfl) ?_
    refine rp rfl rfl (p_asg rfl rfl) ?_
    refine rp rfl rfl (p_asg rfl rfl) ?_
    refine rz [(2, .t y'15.1), (3, .i (0 : Int))] [(2100, .pure ([(AV.int y'15.2.1)])), (2101, .pure ([(AV.bytes y'15.2.2.1)])), (2102, .pure ([(AV.b8 y'15.2.2.2)]))] rfl rfl rfl ?_
    refine AW2_ret ?_
    have hz := some_elim H
    subst hz
    exact ⟨⟨res_tmp (.same _), res_tmp (.same _), trivial⟩, ⟨rfl, rfl, rfl, trivial⟩⟩

/-! code.read -/
noncomputable def g_code_read_i0_l0 : UInt64 × Int × Int × (List UInt8) × UInt8 → Option ((UInt64 × Int × Int × (List UInt8) × UInt8) ⊕ ((GValue × Int × Int × (List UInt8) × UInt8) ⊕ (UInt64 × Int × (List UInt8) × UInt8)))
  | (n9_0, t48_0, t2100_0, t2101_0, t2102_0) => (if t48_0 < (8 : Int) then (g_code_Decode_1_i0 t2100_0 t2101_0 t2102_0).bind fun r'7 => (if (!r'7.2.1) = true then some (.inr (.inl (GValue.zero, (4 : Int), r'7.2.2.1, r'7.2.2.2.1, r'7.2.2.2.2))) else some (.inl ((shl_u64 n9_0 8) ||| r'7.1.toUInt64, w64 (t48_0 + (1 : Int)), r'7.2.2.1, r'7.2.2.2.1, r'7.2.2.2.2))) else some (.inr (.inr (n9_0, t2100_0, t2101_0, t2102_0))))
noncomputable def g_code_read_i0 (next0c0 : Int) (next0c1 : List UInt8) (next0c2 : UInt8) : Option (GValue × Int × Int × (List UInt8) × UInt8) :=
  (g_code_Decode_1_i0 next0c0 next0c1 next0c2).bind fun r'1 => (if (!r'1.2.1) = true then some (GValue.zero, (4 : Int), r'1.2.2.1, r'1.2.2.2.1, r'1.2.2.2.2) else (show Option ((GValue × Int × Int × (List UInt8) × UInt8) ⊕ (GValue × Int × (List UInt8) × UInt8)) from letO (({ GValue.zero with Kind := w64 ((r'1.1.toNat : Int) - (1 : Int)) }).Kind) fun t27'3 => (if t27'3 = (0 : Int) then some (.inl ({ GValue.zero with Kind := w64 ((r'1.1.toNat : Int) - (1 : Int)) }, (0 : Int), r'1.2.2.1, r'1.2.2.2.1, r'1.2.2.2.2)) else (if t27'3 = (1 : Int) then (g_code_Decode_1_i0 r'1.2.2.1 r'1.2.2.2.1 r'1.2.2.2.2).bind fun r'4 => (if (!r'4.2.1) = true then some (.inl (GValue.zero, (4 : Int), r'4.2.2.1, r'4.2.2.2.1, r'4.2.2.2.2)) else letO ({ { GValue.zero with Kind := w64 ((r'1.1.toNat : Int) - (1 : Int)) } with Int_ := (r'4.1.toNat : Int) }) fun v6'5 => some (.inr (v6'5, r'4.2.2.1, r'4.2.2.2.1, r'4.2.2.2.2))) else ((if t27'3 = (2 : Int) then some (decide (t27'3 = (2 : Int))) else some (decide (t27'3 = (3 : Int))))).bind fun j'6 => (if j'6 = true then (loopO (g_code_read_i0_l0) ((0 : UInt64), (0 : Int), r'1.2.2.1, r'1.2.2.2.1, r'1.2.2.2.2)).bind fun o'11 => match o'11 with | .inl y'12 => some (.inl y'12) | .inr (y'13) => (if ({ GValue.zero with Kind := w64 ((r'1.1.toNat : Int) - (1 : Int)) }).Kind = (2 : Int) then letO ({ { GValue.zero with Kind := w64 ((r'1.1.toNat : Int) - (1 : Int)) } with Int_ := w64 ((y'13.1 ^^^ (9223372036854775808 : UInt64)).toNat : Int) }) fun v6'14 => some (.inr (v6'14, y'13.2.1, y'13.2.2.1, y'13.2.2.2)) else (g_code_back y'13.1).bind fun r'15 => letO ({ { GValue.zero with Kind := w64 ((r'1.1.toNat : Int) - (1 : Int)) } with Bits := r'15 }) fun v6'16 => some (.inr (v6'16, y'13.2.1, y'13.2.2.1, y'13.2.2.2))) else (if t27'3 = (4 : Int) then (g_code_text_i0 r'1.2.2.1 r'1.2.2.2.1 r'1.2.2.2.2).bind fun r'17 => (if r'17.2.1 ≠ (0 : Int) then some (.inl (GValue.zero, r'17.2.1, r'17.2.2.1, r'17.2.2.2.1, r'17.2.2.2.2)) else letO ({ { GValue.zero with Kind := w64 ((r'1.1.toNat : Int) - (1 : Int)) } with Text := r'17.1 }) fun v6'18 => some (.inr (v6'18, r'17.2.2.1, r'17.2.2.2.1, r'17.2.2.2.2))) else some (.inl (GValue.zero, (3 : Int), r'1.2.2.1, r'1.2.2.2.1, r'1.2.2.2.2))))))).bind fun o'21 => match o'21 with | .inl y'19 => some y'19 | .inr j'2 => (g_value_Check j'2.1).bind fun r'20 => (if r'20 ≠ (0 : Int) then some (GValue.zero, (3 : Int), j'2.2.1, j'2.2.2.1, j'2.2.2.2) else some (j'2.1, (0 : Int), j'2.2.1, j'2.2.2.1, j'2.2.2.2)))
set_option maxHeartbeats 4000000 in
set_option maxRecDepth 100000 in
theorem g_code_read_i0_ac2 {next0c0 : Int} {next0c1 : List UInt8} {next0c2 : UInt8} {r : GValue × Int × Int × (List UInt8) × UInt8} (H : g_code_read_i0 next0c0 next0c1 next0c2 = some r) : AC2 Tryd.prog 54 [.clo 53 [.ptr 2100 0, .ptr 2101 0, .ptr 2102 0]] [(2100, .pure ([(AV.int next0c0)])), (2101, .pure ([(AV.bytes next0c1)])), (2102, .pure ([(AV.b8 next0c2)]))] (retV [.g (GValue.cs r.1), .i r.2.1]) [(2100, .pure ([(AV.int r.2.2.1)])), (2101, .pure ([(AV.bytes r.2.2.2.1)])), (2102, .pure ([(AV.b8 r.2.2.2.2)]))] := by
 refine AC2_of_body (vs := [.g (GValue.cs r.1), .i r.2.1]) Tryd.func54 rfl rfl (Nat.le_of_ble_eq_true rfl) rfl ?_
 unfold g_code_read_i0 at H
 refine AW2_st [(0, .clo 53 [(.ptr 2100 (0)), (.ptr 2101 (0)), (.ptr 2102 (0))])] [(2100, .pure ([(AV.int next0c0)])), (2101, .pure ([(AV.bytes next0c1)])), (2102, .pure ([(AV.b8 next0c2)]))] rfl ⟨(fun _ => .same _), trivial⟩ ⟨rfl, rfl, rfl, trivial⟩ ?_
 refine sg [0, 1] rfl ?_
 refine r_op rfl rfl (MakeD.opD (u_alloc 2 rfl in_24 one_24 zc_24) rfl rfl rfl rfl) ?_
 refine rp rfl rfl (p_asg rfl rfl) ?_
 refine RunW_st [(0, .clo 53 [(.ptr 2100 (0)), (.ptr 2101 (0)), (.ptr 2102 (0))]), (2, .q 2 (0))] [(2, .pure (GValue.cs GValue.zero)), (2100, .pure ([(AV.int next0c0)])), (2101, .pure ([(AV.bytes next0c1)])), (2102, .pure ([(AV.b8 next0c2)]))] rfl ⟨(fun _ => .same _), TLes.same _, trivial⟩ ⟨rfl, rfl, rfl, rfl, trivial⟩ ?_
 refine RunW_nil ?_
 refine sg [0, 1, 2, 3, 4, 5, 6] rfl ?_
 refine rp rfl rfl (p_move rfl rfl) ?_
 refine bindK H fun r'1 h1 H => ?_
 refine r_op rfl rfl (d_callh [(2000, 2100), (2001, 2101), (2002, 2102)] rfl rfl rfl Tryd.func53 rfl rfl (g_code_Decode_1_i0_ac2 h1) ⟨TLes.same _, TLes.same _, TLes.same _, trivial⟩ ⟨rfl, rfl, rfl, trivial⟩ rfl rfl) ?_
 refine rp rfl rfl (p_move rfl rfl) ?_
 refine rp rfl rfl (p_ext2 rfl rfl rfl rfl) ?_
 refine rp rfl rfl (p_ext2 rfl rfl rfl rfl) ?_
 refine rp rfl rfl (p_asg rfl rfl) ?_
 refine rp rfl rfl (p_asg rfl rfl) ?_
 refine RunW_st [(0, .clo 53 [(.ptr 2100 (0)), (.ptr 2101 (0)), (.ptr 2102 (0))]), (2, .q 2 (0)), (4, .p (AV.b8 r'1.1)), (5, .b r'1.2.1)] [(2, .pure (GValue.cs GValue.zero)), (2100, .pure ([(AV.int r'1.2.2.1)])), (2101, .pure ([(AV.bytes r'1.2.2.2.1)])), (2102, .pure ([(AV.b8 r'1.2.2.2.2)]))] rfl ⟨(fun _ => .same _), TLes.same _, TLes.same _, TLes.same _, trivial⟩ ⟨rfl, rfl, rfl, rfl, trivial⟩ ?_
 refine RunW_nil ?_
 refine AW2_seq ?_
 refine sg [0, 1] rfl ?_
 refine rp rfl rfl (p_move rfl rfl) ?_
 refine rp rfl rfl (p_not rfl rfl) ?_
 refine RunW_st [(0, .clo 53 [(.ptr 2100 (0)), (.ptr 2101 (0)), (.ptr 2102 (0))]), (2, .q 2 (0)), (4, .p (AV.b8 r'1.1)), (20, .b (!r'1.2.1))] [(2, .pure (GValue.cs GValue.zero)), (2100, .pure ([(AV.int r'1.2.2.1)])), (2101, .pure ([(AV.bytes r'1.2.2.2.1)])), (2102, .pure ([(AV.b8 r'1.2.2.2.2)]))] rfl ⟨(fun _ => .same _), TLes.same _, TLes.same _, TLes.same _, trivial⟩ ⟨rfl, rfl, rfl, rfl, trivial⟩ ?_
 refine RunW_nil ?_
 refine AW2_cond rfl (fun h2 => ?_) (fun h2 => ?_)
 ·replace H := ite_then h2 H
  refine sg [0, 1, 2] rfl ?_
  refine rp rfl rfl (u_bld rfl in_24 one_24 zc_24 pl_24 rfl rfl) ?_
  refine r_op rfl rfl (u_st rfl rfl rfl rfl rfl in_24 (GValue.len GValue.zero) (ne_of_lt (n := 0) (Nat.lt_of_lt_of_eq (by decide) (Eq.symm (GValue.len GValue.zero)))) (Upd.refl ((GValue.len GValue.zero).trans (GValue.len GValue.zero).symm))) ?_
  refine rp rfl rfl (p_asg rfl rfl) ?_
  refine rz [(2, .q 2 (0)), (3, .i (4 : Int))] [(2, .pure (GValue.cs GValue.zero)), (2100, .pure ([(AV.int r'1.2.2.1)])), (2101, .pure ([(AV.bytes r'1.2.2.2.1)])), (2102, .pure ([(AV.b8 r'1.2.2.2.2)]))] rfl rfl rfl ?_
  refine AW2_ret ?_
  have hz := some_elim H
  subst hz
  exact ⟨⟨res_cella Tryd.underlying24 rfl in_24.sz rfl (Sub.le (Sub.refl _) (GValue.len GValue.zero)) (by decide) (Sub.take (Sub.refl _) (GValue.len GValue.zero)), res_tmp (.same _), trivial⟩, ⟨rfl, rfl, rfl, trivial⟩⟩
 ·replace H := ite_else (ne_true h2) H
  refine AW2_st [(0, .clo 53 [(.ptr 2100 (0)), (.ptr 2101 (0)), (.ptr 2102 (0))]), (2, .q 2 (0)), (4, .p (AV.b8 r'1.1))] [(2, .pure (GValue.cs GValue.zero)), (2100, .pure ([(AV.int r'1.2.2.1)])), (2101, .pure ([(AV.bytes r'1.2.2.2.1)])), (2102, .pure ([(AV.b8 r'1.2.2.2.2)]))] rfl ⟨(fun _ => .same _), TLes.same _, TLes.same _, trivial⟩ ⟨rfl, rfl, rfl, rfl, trivial⟩ ?_
  refine AW2_skip ?_
  refine sg [0, 1, 2, 3, 4, 5] rfl ?_
  refine rp rfl rfl (p_move rfl rfl) ?_
  refine rp rfl rfl (p_ci rfl Tryd.underlying5 Tryd.underlying3 rfl (wrapu8i r'1.1)) ?_
  refine rp rfl rfl (p_bin rfl rfl rfl rfl) ?_
  refine rp rfl rfl (u_bld rfl in_24 one_24 zc_24 pl_24 rfl (af_cons rfl rfl (GValue.upd0 GValue.zero (w64 ((r'1.1.toNat : Int) - (1 : Int)))) rfl)) ?_
  refine r_op rfl rfl (MakeD.opD (u_alloc 6 rfl in_24 one_24 zc_24) rfl rfl rfl rfl) ?_
  refine r_op rfl rfl (u_st rfl rfl rfl rfl rfl in_24 (GValue.len ((GValue.w0 GValue.zero (w64 ((r'1.1.toNat : Int) - (1 : Int)))))) (ne_of_lt (n := 0) (Nat.lt_of_lt_of_eq (by decide) (Eq.symm (GValue.len GValue.zero)))) (Upd.refl ((GValue.len ((GValue.w0 GValue.zero (w64 ((r'1.1.toNat : Int) - (1 : Int)))))).trans (GValue.len GValue.zero).symm))) ?_
  refine RunW_st [(0, .clo 53 [(.ptr 2100 (0)), (.ptr 2101 (0)), (.ptr 2102 (0))]), (2, .q 2 (0)), (6, .q 6 (0))] [(2, .pure (GValue.cs GValue.zero)), (6, .pure (GValue.cs ((GValue.w0 GValue.zero (w64 ((r'1.1.toNat : Int) - (1 : Int))))))), (2100, .pure ([(AV.int r'1.2.2.1)])), (2101, .pure ([(AV.bytes r'1.2.2.2.1)])), (2102, .pure ([(AV.b8 r'1.2.2.2.2)]))] rfl ⟨(fun _ => .same _), TLes.same _, TLes.same _, trivial⟩ ⟨rfl, rfl, rfl, rfl, rfl, trivial⟩ ?_
  refine RunW_nil ?_
  refine AW2_seq ?_
  refine bindK H fun o'21 h3 H => ?_
  refine AW2_join (fun j'2 : GValue × Int × (List UInt8) × UInt8 => (⟨[(2, .q 2 (0)), (6, .q 6 (0))], [(2, .pure (GValue.cs GValue.zero)), (6, .pure (GValue.cs j'2.1)), (2100, .pure ([(AV.int j'2.2.1)])), (2101, .pure ([(AV.bytes j'2.2.2.1)])), (2102, .pure ([(AV.b8 j'2.2.2.2)]))], 92⟩ : TS)) (fun r e s' => e = Go.Exit.ret ∧ ResAll Tryd.prog s' [ResultVar.cell 2 24, ResultVar.tmp 3] [.g (GValue.cs r.1), .i r.2.1] ∧ HFits s' [(2100, .pure ([(AV.int r.2.2.1)])), (2101, .pure ([(AV.bytes r.2.2.2.1)])), (2102, .pure ([(AV.b8 r.2.2.2.2)]))]) (x := o'21) ?_ (fun j'2 hy => ?_) (fun y'19 e s' hy hs => ?_)
  ·clear H
   have H := h3
   clear h3
   refine sg [0, 1] rfl ?_
   refine rp rfl rfl (u_fa rfl rfl Tryd.underlying24 rfl in_3 (Nat.succ_ne_zero _) rfl rfl (ne_of_lt (n := 0) (Nat.lt_of_lt_of_eq (by decide) (Eq.symm (GValue.len ((GValue.w0 GValue.zero (w64 ((r'1.1.toNat : Int) - (1 : Int)))))))))) ?_
   refine rp rfl rfl (u_ld rfl rfl Tryd.underlying3 rfl rfl ((Sub.refl _).trans (GValue.sub0 ((GValue.w0 GValue.zero (w64 ((r'1.1.toNat : Int) - (1 : Int)))))))) ?_
   refine RunW_st [(0, .clo 53 [(.ptr 2100 (0)), (.ptr 2101 (0)), (.ptr 2102 (0))]), (2, .q 2 (0)), (6, .q 6 (0)), (27, .i (((GValue.w0 GValue.zero (w64 ((r'1.1.toNat : Int) - (1 : Int))))).Kind))] [(2, .pure (GValue.cs GValue.zero)), (6, .pure (GValue.cs ((GValue.w0 GValue.zero (w64 ((r'1.1.toNat : Int) - (1 : Int))))))), (2100, .pure ([(AV.int r'1.2.2.1)])), (2101, .pure ([(AV.bytes r'1.2.2.2.1)])), (2102, .pure ([(AV.b8 r'1.2.2.2.2)]))] rfl ⟨(fun _ => .same _), TLes.same _, TLes.same _, TLes.same _, trivial⟩ ⟨rfl, rfl, rfl, rfl, rfl, trivial⟩ ?_
   refine RunW_nil ?_
   refine gen1 (fun t27'3 => (⟨[(0, .clo 53 [(.ptr 2100 (0)), (.ptr 2101 (0)), (.ptr 2102 (0))]), (2, .q 2 (0)), (6, .q 6 (0)), (27, .i t27'3)], [(2, .pure (GValue.cs GValue.zero)), (6, .pure (GValue.cs ((GValue.w0 GValue.zero (w64 ((r'1.1.toNat : Int) - (1 : Int))))))), (2100, .pure ([(AV.int r'1.2.2.1)])), (2101, .pure ([(AV.bytes r'1.2.2.2.1)])), (2102, .pure ([(AV.b8 r'1.2.2.2.2)]))], 92⟩ : TS)) H ?_
   intro t27'3 H
   refine AW2_block ?_
   refine sg [0, 1] rfl ?_
   refine rp rfl rfl (p_ieq rfl rfl rfl) ?_
   refine rp rfl rfl (p_asg rfl rfl) ?_
   refine RunW_st [(0, .clo 53 [(.ptr 2100 (0)), (.ptr 2101 (0)), (.ptr 2102 (0))]), (2, .q 2 (0)), (6, .q 6 (0)), (27, .i t27'3), (29, .b (decide (t27'3 = (0 : Int))))] [(2, .pure (GValue.cs GValue.zero)), (6, .pure (GValue.cs ((GValue.w0 GValue.zero (w64 ((r'1.1.toNat : Int) - (1 : Int))))))), (2100, .pure ([(AV.int r'1.2.2.1)])), (2101, .pure ([(AV.bytes r'1.2.2.2.1)])), (2102, .pure ([(AV.b8 r'1.2.2.2.2)]))] rfl ⟨(fun _ => .same _), TLes.same _, TLes.same _, TLes.same _, TLes.same _, trivial⟩ ⟨rfl, rfl, rfl, rfl, rfl, trivial⟩ ?_
   refine RunW_nil ?_
   refine AW2_if (p := t27'3 = (0 : Int)) rfl (fun h4 => ?_) (fun h4 => ?_)
   ·replace H := ite_then h4 H
    refine sg [0, 1, 2] rfl ?_
    refine rp rfl rfl (u_lda rfl rfl Tryd.underlying24 rfl in_24 rfl (Nat.succ_pos _) (Sub.refl _) (GValue.len ((GValue.w0 GValue.zero (w64 ((r'1.1.toNat : Int) - (1 : Int))))))) ?_
    refine r_op rfl rfl (u_st rfl rfl rfl rfl rfl in_24 (GValue.len ((GValue.w0 GValue.zero (w64 ((r'1.1.toNat : Int) - (1 : Int)))))) (ne_of_lt (n := 0) (Nat.lt_of_lt_of_eq (by decide) (Eq.symm (GValue.len GValue.zero)))) (Upd.refl ((GValue.len ((GValue.w0 GValue.zero (w64 ((r'1.1.toNat : Int) - (1 : Int)))))).trans (GValue.len GValue.zero).symm))) ?_
    refine rp rfl rfl (p_asg rfl rfl) ?_
    refine rz [(2, .q 2 (0)), (3, .i (0 : Int))] [(2, .pure (GValue.cs ((GValue.w0 GValue.zero (w64 ((r'1.1.toNat : Int) - (1 : Int))))))), (2100, .pure ([(AV.int r'1.2.2.1)])), (2101, .pure ([(AV.bytes r'1.2.2.2.1)])), (2102, .pure ([(AV.b8 r'1.2.2.2.2)]))] rfl rfl rfl ?_
    refine AW2_ret ?_
    have hz := some_elim H
    subst hz
    exact ⟨rfl, ⟨res_cella Tryd.underlying24 rfl in_24.sz rfl (Sub.le (Sub.refl _) (GValue.len ((GValue.w0 GValue.zero (w64 ((r'1.1.toNat : Int) - (1 : Int))))))) (by decide) (Sub.take (Sub.refl _) (GValue.len ((GValue.w0 GValue.zero (w64 ((r'1.1.toNat : Int) - (1 : Int))))))), res_tmp (.same _), trivial⟩, ⟨rfl, rfl, rfl, trivial⟩⟩
   ·replace H := ite_else h4 H
    refine sg [0, 1] rfl ?_
    refine rp rfl rfl (p_ieq rfl rfl rfl) ?_
    refine rp rfl rfl (p_asg rfl rfl) ?_
    refine RunW_st [(0, .clo 53 [(.ptr 2100 (0)), (.ptr 2101 (0)), (.ptr 2102 (0))]), (2, .q 2 (0)), (6, .q 6 (0)), (27, .i t27'3), (32, .b (decide (t27'3 = (1 : Int))))] [(2, .pure (GValue.cs GValue.zero)), (6, .pure (GValue.cs ((GValue.w0 GValue.zero (w64 ((r'1.1.toNat : Int) - (1 : Int))))))), (2100, .pure ([(AV.int r'1.2.2.1)])), (2101, .pure ([(AV.bytes r'1.2.2.2.1)])), (2102, .pure ([(AV.b8 r'1.2.2.2.2)]))] rfl ⟨(fun _ => .same _), TLes.same _, TLes.same _, TLes.same _, TLes.same _, trivial⟩ ⟨rfl, rfl, rfl, rfl, rfl, trivial⟩ ?_
    refine RunW_nil ?_
    refine AW2_if (p := t27'3 = (1 : Int)) rfl (fun h5 => ?_) (fun h5 => ?_)
    ·replace H := ite_then h5 H
     refine sg [0, 1, 2, 3, 4, 5, 6] rfl ?_
     refine rp rfl rfl (p_move rfl rfl) ?_
     refine bindK H fun r'4 h6 H => ?_
     refine r_op rfl rfl (d_callh [(2000, 2100), (2001, 2101), (2002, 2102)] rfl rfl rfl Tryd.func53 rfl rfl (g_code_Decode_1_i0_ac2 h6) ⟨TLes.same _, TLes.same _, TLes.same _, trivial⟩ ⟨rfl, rfl, rfl, trivial⟩ rfl rfl) ?_
     refine rp rfl rfl (p_move rfl rfl) ?_
     refine rp rfl rfl (p_ext2 rfl rfl rfl rfl) ?_
     refine rp rfl rfl (p_ext2 rfl rfl rfl rfl) ?_
     refine rp rfl rfl (p_asg rfl rfl) ?_
     refine rp rfl rfl (p_asg rfl rfl) ?_
     refine rz [(2, .q 2 (0)), (6, .q 6 (0)), (7, .p (AV.b8 r'4.1)), (8, .b r'4.2.1)] [(2, .pure (GValue.cs GValue.zero)), (6, .pure (GValue.cs ((GValue.w0 GValue.zero (w64 ((r'1.1.toNat : Int) - (1 : Int))))))), (2100, .pure ([(AV.int r'4.2.2.1)])), (2101, .pure ([(AV.bytes r'4.2.2.2.1)])), (2102, .pure ([(AV.b8 r'4.2.2.2.2)]))] rfl rfl rfl ?_
     refine AW2_seq ?_
     refine sg [0, 1] rfl ?_
     refine rp rfl rfl (p_move rfl rfl) ?_
     refine rp rfl rfl (p_not rfl rfl) ?_
     refine rz [(2, .q 2 (0)), (6, .q 6 (0)), (7, .p (AV.b8 r'4.1)), (40, .b (!r'4.2.1))] [(2, .pure (GValue.cs GValue.zero)), (6, .pure (GValue.cs ((GValue.w0 GValue.zero (w64 ((r'1.1.toNat : Int) - (1 : Int))))))), (2100, .pure ([(AV.int r'4.2.2.1)])), (2101, .pure ([(AV.bytes r'4.2.2.2.1)])), (2102, .pure ([(AV.b8 r'4.2.2.2.2)]))] rfl rfl rfl ?_
     refine AW2_cond rfl (fun h7 => ?_) (fun h7 => ?_)
     ·replace H := ite_then h7 H
      refine sg [0, 1, 2] rfl ?_
      refine rp rfl rfl (u_bld rfl in_24 one_24 zc_24 pl_24 rfl rfl) ?_
      refine r_op rfl rfl (u_st rfl rfl rfl rfl rfl in_24 (GValue.len GValue.zero) (ne_of_lt (n := 0) (Nat.lt_of_lt_of_eq (by decide) (Eq.symm (GValue.len GValue.zero)))) (Upd.refl ((GValue.len GValue.zero).trans (GValue.len GValue.zero).symm))) ?_
      refine rp rfl rfl (p_asg rfl rfl) ?_
      refine rz [(2, .q 2 (0)), (3, .i (4 : Int))] [(2, .pure (GValue.cs GValue.zero)), (2100, .pure ([(AV.int r'4.2.2.1)])), (2101, .pure ([(AV.bytes r'4.2.2.2.1)])), (2102, .pure ([(AV.b8 r'4.2.2.2.2)]))] rfl rfl rfl ?_
      refine AW2_ret ?_
      have hz := some_elim H
      subst hz
      exact ⟨rfl, ⟨res_cella Tryd.underlying24 rfl in_24.sz rfl (Sub.le (Sub.refl _) (GValue.len GValue.zero)) (by decide) (Sub.take (Sub.refl _) (GValue.len GValue.zero)), res_tmp (.same _), trivial⟩, ⟨rfl, rfl, rfl, trivial⟩⟩
     ·replace H := ite_else (ne_true h7) H
      refine as2 [(2, .q 2 (0)), (6, .q 6 (0)), (7, .p (AV.b8 r'4.1))] [(2, .pure (GValue.cs GValue.zero)), (6, .pure (GValue.cs ((GValue.w0 GValue.zero (w64 ((r'1.1.toNat : Int) - (1 : Int))))))), (2100, .pure ([(AV.int r'4.2.2.1)])), (2101, .pure ([(AV.bytes r'4.2.2.2.1)])), (2102, .pure ([(AV.b8 r'4.2.2.2.2)]))] rfl rfl rfl ?_
      refine AW2_skip ?_
      refine AW2_reg [0, 1, 2, 3] rfl ?_
      refine rp rfl rfl (p_move rfl rfl) ?_
      refine rp rfl rfl (p_ci rfl Tryd.underlying5 Tryd.underlying3 rfl (wrapu8i r'4.1)) ?_
      refine rp rfl rfl (u_fa rfl rfl Tryd.underlying24 rfl in_3 (Nat.succ_ne_zero _) rfl rfl (ne_of_lt (n := 0) (Nat.lt_of_lt_of_eq (by decide) (Eq.symm (GValue.len ((GValue.w0 GValue.zero (w64 ((r'1.1.toNat : Int) - (1 : Int)))))))))) ?_
      refine r_op rfl rfl (u_st rfl rfl rfl rfl rfl in_3 rfl (ne_of_lt (n := 0) (Nat.lt_of_lt_of_eq (by decide) (Eq.symm (GValue.len ((GValue.w0 GValue.zero (w64 ((r'1.1.toNat : Int) - (1 : Int))))))))) (Upd.trans (Sub.refl _) (GValue.upd1 ((GValue.w0 GValue.zero (w64 ((r'1.1.toNat : Int) - (1 : Int))))) (r'4.1.toNat : Int)) (Upd.refl ((GValue.len ((GValue.w1 (GValue.w0 GValue.zero (w64 ((r'1.1.toNat : Int) - (1 : Int)))) (r'4.1.toNat : Int)))).trans (GValue.len ((GValue.w0 GValue.zero (w64 ((r'1.1.toNat : Int) - (1 : Int)))))).symm)))) ?_
      refine rz [(2, .q 2 (0)), (6, .q 6 (0))] [(2, .pure (GValue.cs GValue.zero)), (6, .pure (GValue.cs ((GValue.w1 (GValue.w0 GValue.zero (w64 ((r'1.1.toNat : Int) - (1 : Int)))) (r'4.1.toNat : Int))))), (2100, .pure ([(AV.int r'4.2.2.1)])), (2101, .pure ([(AV.bytes r'4.2.2.2.1)])), (2102, .pure ([(AV.b8 r'4.2.2.2.2)]))] rfl rfl rfl ?_
      refine gen1 (fun v6'5 => (⟨[(2, .q 2 (0)), (6, .q 6 (0))], [(2, .pure (GValue.cs GValue.zero)), (6, .pure (GValue.cs v6'5)), (2100, .pure ([(AV.int r'4.2.2.1)])), (2101, .pure ([(AV.bytes r'4.2.2.2.1)])), (2102, .pure ([(AV.b8 r'4.2.2.2.2)]))], 92⟩ : TS)) H ?_
      intro v6'5 H
      have hz := some_elim H
      subst hz
      exact ⟨rfl, rfl⟩
    ·replace H := ite_else h5 H
     refine AW2_seq ?_
     refine bindK H fun j'6 h8 H => ?_
     refine AW2_mid (⟨[(0, .clo 53 [(.ptr 2100 (0)), (.ptr 2101 (0)), (.ptr 2102 (0))]), (2, .q 2 (0)), (6, .q 6 (0)), (27, .i t27'3), (45, .b j'6)], [(2, .pure (GValue.cs GValue.zero)), (6, .pure (GValue.cs ((GValue.w0 GValue.zero (w64 ((r'1.1.toNat : Int) - (1 : Int))))))), (2100, .pure ([(AV.int r'1.2.2.1)])), (2101, .pure ([(AV.bytes r'1.2.2.2.1)])), (2102, .pure ([(AV.b8 r'1.2.2.2.2)]))], 92⟩ : TS) ?_ ?_
     ·clear H
      have H := h8
      clear h8
      refine sg [0, 1] rfl ?_
      refine rp rfl rfl (p_ieq rfl rfl rfl) ?_
      refine rp rfl rfl (p_asg rfl rfl) ?_
      refine RunW_st [(0, .clo 53 [(.ptr 2100 (0)), (.ptr 2101 (0)), (.ptr 2102 (0))]), (2, .q 2 (0)), (6, .q 6 (0)), (27, .i t27'3), (45, .b (decide (t27'3 = (2 : Int))))] [(2, .pure (GValue.cs GValue.zero)), (6, .pure (GValue.cs ((GValue.w0 GValue.zero (w64 ((r'1.1.toNat : Int) - (1 : Int))))))), (2100, .pure ([(AV.int r'1.2.2.1)])), (2101, .pure ([(AV.bytes r'1.2.2.2.1)])), (2102, .pure ([(AV.b8 r'1.2.2.2.2)]))] rfl ⟨(fun _ => .same _), TLes.same _, TLes.same _, TLes.same _, TLes.same _, trivial⟩ ⟨rfl, rfl, rfl, rfl, rfl, trivial⟩ ?_
      refine RunW_nil ?_
      refine AW2_if (p := t27'3 = (2 : Int)) rfl (fun h9 => ?_) (fun h9 => ?_)
      ·replace H := ite_then h9 H
       refine AW2_skip ?_
       have hz := some_elim H
       subst hz
       exact rfl
      ·replace H := ite_else h9 H
       refine AW2_reg [0, 1] rfl ?_
       refine rp rfl rfl (p_ieq rfl rfl rfl) ?_
       refine rp rfl rfl (p_asg rfl rfl) ?_
       refine RunW_st [(0, .clo 53 [(.ptr 2100 (0)), (.ptr 2101 (0)), (.ptr 2102 (0))]), (2, .q 2 (0)), (6, .q 6 (0)), (27, .i t27'3), (45, .b (decide (t27'3 = (3 : Int))))] [(2, .pure (GValue.cs GValue.zero)), (6, .pure (GValue.cs ((GValue.w0 GValue.zero (w64 ((r'1.1.toNat : Int) - (1 : Int))))))), (2100, .pure ([(AV.int r'1.2.2.1)])), (2101, .pure ([(AV.bytes r'1.2.2.2.1)])), (2102, .pure ([(AV.b8 r'1.2.2.2.2)]))] rfl ⟨(fun _ => .same _), TLes.same _, TLes.same _, TLes.same _, TLes.same _, trivial⟩ ⟨rfl, rfl, rfl, rfl, rfl, trivial⟩ ?_
       refine RunW_nil ?_
       have hz := some_elim H
       subst hz
       exact rfl
     ·refine AW2_cond rfl (fun h10 => ?_) (fun h10 => ?_)
      ·replace H := ite_then h10 H
       refine sg [0] rfl ?_
       refine rp rfl rfl (p_asg rfl rfl) ?_
       refine RunW_st [(0, .clo 53 [(.ptr 2100 (0)), (.ptr 2101 (0)), (.ptr 2102 (0))]), (2, .q 2 (0)), (6, .q 6 (0)), (9, .p (AV.u64 (0 : UInt64)))] [(2, .pure (GValue.cs GValue.zero)), (6, .pure (GValue.cs ((GValue.w0 GValue.zero (w64 ((r'1.1.toNat : Int) - (1 : Int))))))), (2100, .pure ([(AV.int r'1.2.2.1)])), (2101, .pure ([(AV.bytes r'1.2.2.2.1)])), (2102, .pure ([(AV.b8 r'1.2.2.2.2)]))] rfl ⟨(fun _ => .same _), TLes.same _, TLes.same _, TLes.same _, trivial⟩ ⟨rfl, rfl, rfl, rfl, rfl, trivial⟩ ?_
       refine RunW_nil ?_
       refine AW2_seq ?_
       refine sg [0] rfl ?_
       refine rp rfl rfl (p_move rfl rfl) ?_
       refine RunW_st [(0, .clo 53 [(.ptr 2100 (0)), (.ptr 2101 (0)), (.ptr 2102 (0))]), (2, .q 2 (0)), (6, .q 6 (0)), (9, .p (AV.u64 (0 : UInt64))), (48, .i (0 : Int))] [(2, .pure (GValue.cs GValue.zero)), (6, .pure (GValue.cs ((GValue.w0 GValue.zero (w64 ((r'1.1.toNat : Int) - (1 : Int))))))), (2100, .pure ([(AV.int r'1.2.2.1)])), (2101, .pure ([(AV.bytes r'1.2.2.2.1)])), (2102, .pure ([(AV.b8 r'1.2.2.2.2)]))] rfl ⟨(fun _ => .same _), TLes.same _, TLes.same _, TLes.same _, TLes.same _, trivial⟩ ⟨rfl, rfl, rfl, rfl, rfl, trivial⟩ ?_
       refine RunW_nil ?_
       refine AW2_block ?_
       refine AW2_st [(0, .clo 53 [(.ptr 2100 (0)), (.ptr 2101 (0)), (.ptr 2102 (0))]), (2, .q 2 (0)), (6, .q 6 (0)), (9, .p (AV.u64 (0 : UInt64))), (48, .i (0 : Int))] [(2, .pure (GValue.cs GValue.zero)), (6, .pure (GValue.cs ((GValue.w0 GValue.zero (w64 ((r'1.1.toNat : Int) - (1 : Int))))))), (2100, .pure ([(AV.int r'1.2.2.1)])), (2101, .pure ([(AV.bytes r'1.2.2.2.1)])), (2102, .pure ([(AV.b8 r'1.2.2.2.2)]))] rfl ⟨(fun _ => .same _), TLes.same _, TLes.same _, TLes.same _, TLes.same _, trivial⟩ ⟨rfl, rfl, rfl, rfl, rfl, trivial⟩ ?_
       refine bindK H fun o'11 h14 H => ?_
       refine AW2_loopO (fun a'8 : UInt64 × Int × Int × (List UInt8) × UInt8 => (⟨[(0, .clo 53 [(.ptr 2100 (0)), (.ptr 2101 (0)), (.ptr 2102 (0))]), (2, .q 2 (0)), (6, .q 6 (0)), (9, .p (AV.u64 a'8.1)), (48, .i a'8.2.1)], [(2, .pure (GValue.cs GValue.zero)), (6, .pure (GValue.cs ((GValue.w0 GValue.zero (w64 ((r'1.1.toNat : Int) - (1 : Int))))))), (2100, .pure ([(AV.int a'8.2.2.1)])), (2101, .pure ([(AV.bytes a'8.2.2.2.1)])), (2102, .pure ([(AV.b8 a'8.2.2.2.2)]))], 92⟩ : TS)) (fun (o : (GValue × Int × Int × (List UInt8) × UInt8) ⊕ (UInt64 × Int × (List UInt8) × UInt8)) e s' => match o with | .inl y'9 => e = Go.Exit.ret ∧ ResAll Tryd.prog s' [ResultVar.cell 2 24, ResultVar.tmp 3] [.g (GValue.cs y'9.1), .i y'9.2.1] ∧ HFits s' [(2100, .pure ([(AV.int y'9.2.2.1)])), (2101, .pure ([(AV.bytes y'9.2.2.2.1)])), (2102, .pure ([(AV.b8 y'9.2.2.2.2)]))] | .inr (y'10) => e = Go.Exit.exit 1 ∧ s' = (⟨[(2, .q 2 (0)), (6, .q 6 (0)), (9, .p (AV.u64 y'10.1))], [(2, .pure (GValue.cs GValue.zero)), (6, .pure (GValue.cs ((GValue.w0 GValue.zero (w64 ((r'1.1.toNat : Int) - (1 : Int))))))), (2100, .pure ([(AV.int y'10.2.1)])), (2101, .pure ([(AV.bytes y'10.2.2.1)])), (2102, .pure ([(AV.b8 y'10.2.2.2)]))], 92⟩ : TS)) h14 rfl (fun a x hx => ?_) (fun e s' hs => ?_)
       ·clear H
        obtain ⟨n9_0, t48_0, t2100_0, t2101_0, t2102_0⟩ := a
        have H := hx
        clear hx
        unfold g_code_read_i0_l0 at H
        refine sg [0] rfl ?_
        refine rp rfl rfl (p_bin rfl rfl rfl rfl) ?_
        refine RunW_st [(0, .clo 53 [(.ptr 2100 (0)), (.ptr 2101 (0)), (.ptr 2102 (0))]), (2, .q 2 (0)), (6, .q 6 (0)), (9, .p (AV.u64 n9_0)), (48, .i t48_0), (49, .b (decide (t48_0 < (8 : Int))))] [(2, .pure (GValue.cs GValue.zero)), (6, .pure (GValue.cs ((GValue.w0 GValue.zero (w64 ((r'1.1.toNat : Int) - (1 : Int))))))), (2100, .pure ([(AV.int t2100_0)])), (2101, .pure ([(AV.bytes t2101_0)])), (2102, .pure ([(AV.b8 t2102_0)]))] rfl ⟨(fun _ => .same _), TLes.same _, TLes.same _, TLes.same _, TLes.same _, TLes.same _, trivial⟩ ⟨rfl, rfl, rfl, rfl, rfl, trivial⟩ ?_
        refine RunW_nil ?_
        refine AW2_seq ?_
        refine AW2_if (p := t48_0 < (8 : Int)) rfl (fun h11 => ?_) (fun h11 => ?_)
        ·replace H := ite_then h11 H
         refine AW2_st [(0, .clo 53 [(.ptr 2100 (0)), (.ptr 2101 (0)), (.ptr 2102 (0))]), (2, .q 2 (0)), (6, .q 6 (0)), (9, .p (AV.u64 n9_0)), (48, .i t48_0)] [(2, .pure (GValue.cs GValue.zero)), (6, .pure (GValue.cs ((GValue.w0 GValue.zero (w64 ((r'1.1.toNat : Int) - (1 : Int))))))), (2100, .pure ([(AV.int t2100_0)])), (2101, .pure ([(AV.bytes t2101_0)])), (2102, .pure ([(AV.b8 t2102_0)]))] rfl ⟨(fun _ => .same _), TLes.same _, TLes.same _, TLes.same _, TLes.same _, trivial⟩ ⟨rfl, rfl, rfl, rfl, rfl, trivial⟩ ?_
         refine AW2_skip ?_
         refine AW2_seq ?_
         refine AW2_block ?_
         refine sg [0, 1, 2, 3, 4, 5, 6] rfl ?_
         refine rp rfl rfl (p_move rfl rfl) ?_
         refine bindK H fun r'7 h12 H => ?_
         refine r_op rfl rfl (d_callh [(2000, 2100), (2001, 2101), (2002, 2102)] rfl rfl rfl Tryd.func53 rfl rfl (g_code_Decode_1_i0_ac2 h12) ⟨TLes.same _, TLes.same _, TLes.same _, trivial⟩ ⟨rfl, rfl, rfl, trivial⟩ rfl rfl) ?_
         refine rp rfl rfl (p_move rfl rfl) ?_
         refine rp rfl rfl (p_ext2 rfl rfl rfl rfl) ?_
         refine rp rfl rfl (p_ext2 rfl rfl rfl rfl) ?_
         refine rp rfl rfl (p_asg rfl rfl) ?_
         refine rp rfl rfl (p_asg rfl rfl) ?_
         refine RunW_st [(0, .clo 53 [(.ptr 2100 (0)), (.ptr 2101 (0)), (.ptr 2102 (0))]), (2, .q 2 (0)), (6, .q 6 (0)), (9, .p (AV.u64 n9_0)), (10, .p (AV.b8 r'7.1)), (11, .b r'7.2.1), (48, .i t48_0)] [(2, .pure (GValue.cs GValue.zero)), (6, .pure (GValue.cs ((GValue.w0 GValue.zero (w64 ((r'1.1.toNat : Int) - (1 : Int))))))), (2100, .pure ([(AV.int r'7.2.2.1)])), (2101, .pure ([(AV.bytes r'7.2.2.2.1)])), (2102, .pure ([(AV.b8 r'7.2.2.2.2)]))] rfl ⟨(fun _ => .same _), TLes.same _, TLes.same _, TLes.same _, TLes.same _, TLes.same _, TLes.same _, trivial⟩ ⟨rfl, rfl, rfl, rfl, rfl, trivial⟩ ?_
         refine RunW_nil ?_
         refine AW2_seq ?_
         refine sg [0, 1] rfl ?_
         refine rp rfl rfl (p_move rfl rfl) ?_
         refine rp rfl rfl (p_not rfl rfl) ?_
         refine RunW_st [(0, .clo 53 [(.ptr 2100 (0)), (.ptr 2101 (0)), (.ptr 2102 (0))]), (2, .q 2 (0)), (6, .q 6 (0)), (9, .p (AV.u64 n9_0)), (10, .p (AV.b8 r'7.1)), (48, .i t48_0), (56, .b (!r'7.2.1))] [(2, .pure (GValue.cs GValue.zero)), (6, .pure (GValue.cs ((GValue.w0 GValue.zero (w64 ((r'1.1.toNat : Int) - (1 : Int))))))), (2100, .pure ([(AV.int r'7.2.2.1)])), (2101, .pure ([(AV.bytes r'7.2.2.2.1)])), (2102, .pure ([(AV.b8 r'7.2.2.2.2)]))] rfl ⟨(fun _ => .same _), TLes.same _, TLes.same _, TLes.same _, TLes.same _, TLes.same _, TLes.same _, trivial⟩ ⟨rfl, rfl, rfl, rfl, rfl, trivial⟩ ?_
         refine RunW_nil ?_
         refine AW2_cond rfl (fun h13 => ?_) (fun h13 => ?_)
         ·replace H := ite_then h13 H
          refine sg [0, 1, 2] rfl ?_
          refine rp rfl rfl (u_bld rfl in_24 one_24 zc_24 pl_24 rfl rfl) ?_
          refine r_op rfl rfl (u_st rfl rfl rfl rfl rfl in_24 (GValue.len GValue.zero) (ne_of_lt (n := 0) (Nat.lt_of_lt_of_eq (by decide) (Eq.symm (GValue.len GValue.zero)))) (Upd.refl ((GValue.len GValue.zero).trans (GValue.len GValue.zero).symm))) ?_
          refine rp rfl rfl (p_asg rfl rfl) ?_
          refine rz [(2, .q 2 (0)), (3, .i (4 : Int))] [(2, .pure (GValue.cs GValue.zero)), (2100, .pure ([(AV.int r'7.2.2.1)])), (2101, .pure ([(AV.bytes r'7.2.2.2.1)])), (2102, .pure ([(AV.b8 r'7.2.2.2.2)]))] rfl rfl rfl ?_
          refine AW2_ret ?_
          have hz := some_elim H
          subst hz
          exact ⟨rfl, ⟨res_cella Tryd.underlying24 rfl in_24.sz rfl (Sub.le (Sub.refl _) (GValue.len GValue.zero)) (by decide) (Sub.take (Sub.refl _) (GValue.len GValue.zero)), res_tmp (.same _), trivial⟩, ⟨rfl, rfl, rfl, trivial⟩⟩
         ·replace H := ite_else (ne_true h13) H
          refine AW2_st [(0, .clo 53 [(.ptr 2100 (0)), (.ptr 2101 (0)), (.ptr 2102 (0))]), (2, .q 2 (0)), (6, .q 6 (0)), (9, .p (AV.u64 n9_0)), (10, .p (AV.b8 r'7.1)), (48, .i t48_0)] [(2, .pure (GValue.cs GValue.zero)), (6, .pure (GValue.cs ((GValue.w0 GValue.zero (w64 ((r'1.1.toNat : Int) - (1 : Int))))))), (2100, .pure ([(AV.int r'7.2.2.1)])), (2101, .pure ([(AV.bytes r'7.2.2.2.1)])), (2102, .pure ([(AV.b8 r'7.2.2.2.2)]))] rfl ⟨(fun _ => .same _), TLes.same _, TLes.same _, TLes.same _, TLes.same _, TLes.same _, trivial⟩ ⟨rfl, rfl, rfl, rfl, rfl, trivial⟩ ?_
          refine AW2_skip ?_
          refine AW2_reg [0, 1, 2, 3, 4, 5] rfl ?_
          refine rp rfl rfl (p_move rfl rfl) ?_
          refine rp rfl rfl (p_u64shl (n := 8) rfl rfl rfl rfl) ?_
          refine rp rfl rfl (p_move rfl rfl) ?_
          refine rp rfl rfl (p_u8_u64 (a := r'7.1) rfl Tryd.underlying5 Tryd.underlying22 rfl) ?_
          refine rp rfl rfl (p_u64or (a := shl_u64 n9_0 8) (b := r'7.1.toUInt64) rfl rfl rfl) ?_
          refine rp rfl rfl (p_asg rfl rfl) ?_
          refine RunW_st [(0, .clo 53 [(.ptr 2100 (0)), (.ptr 2101 (0)), (.ptr 2102 (0))]), (2, .q 2 (0)), (6, .q 6 (0)), (9, .p (AV.u64 ((shl_u64 n9_0 8) ||| r'7.1.toUInt64))), (48, .i t48_0)] [(2, .pure (GValue.cs GValue.zero)), (6, .pure (GValue.cs ((GValue.w0 GValue.zero (w64 ((r'1.1.toNat : Int) - (1 : Int))))))), (2100, .pure ([(AV.int r'7.2.2.1)])), (2101, .pure ([(AV.bytes r'7.2.2.2.1)])), (2102, .pure ([(AV.b8 r'7.2.2.2.2)]))] rfl ⟨(fun _ => .same _), TLes.same _, TLes.same _, TLes.same _, TLes.same _, trivial⟩ ⟨rfl, rfl, rfl, rfl, rfl, trivial⟩ ?_
          refine RunW_nil ?_
          refine AW2_reg [0, 1] rfl ?_
          refine rp rfl rfl (p_bin rfl rfl rfl rfl) ?_
          refine rp rfl rfl (p_move rfl rfl) ?_
          refine RunW_st [(0, .clo 53 [(.ptr 2100 (0)), (.ptr 2101 (0)), (.ptr 2102 (0))]), (2, .q 2 (0)), (6, .q 6 (0)), (9, .p (AV.u64 ((shl_u64 n9_0 8) ||| r'7.1.toUInt64))), (48, .i (w64 (t48_0 + (1 : Int))))] [(2, .pure (GValue.cs GValue.zero)), (6, .pure (GValue.cs ((GValue.w0 GValue.zero (w64 ((r'1.1.toNat : Int) - (1 : Int))))))), (2100, .pure ([(AV.int r'7.2.2.1)])), (2101, .pure ([(AV.bytes r'7.2.2.2.1)])), (2102, .pure ([(AV.b8 r'7.2.2.2.2)]))] rfl ⟨(fun _ => .same _), TLes.same _, TLes.same _, TLes.same _, TLes.same _, trivial⟩ ⟨rfl, rfl, rfl, rfl, rfl, trivial⟩ ?_
          refine RunW_nil ?_
          have hz := some_elim H
          subst hz
          exact ⟨rfl, rfl⟩
        ·replace H := ite_else h11 H
         refine as2 [(2, .q 2 (0)), (6, .q 6 (0)), (9, .p (AV.u64 n9_0))] [(2, .pure (GValue.cs GValue.zero)), (6, .pure (GValue.cs ((GValue.w0 GValue.zero (w64 ((r'1.1.toNat : Int) - (1 : Int))))))), (2100, .pure ([(AV.int t2100_0)])), (2101, .pure ([(AV.bytes t2101_0)])), (2102, .pure ([(AV.b8 t2102_0)]))] rfl rfl rfl ?_
         refine AW2_exit ?_
         refine thenQ2_exit ?_
         have hz := some_elim H
         subst hz
         exact ⟨rfl, rfl⟩
       ·rcases o'11 with y'12 | y'13
        ·obtain ⟨rfl, hs⟩ := hs
         refine ⟨by simp, ?_⟩
         have hz := some_elim H
         subst hz
         exact ⟨rfl, hs.1, hs.2⟩
        ·obtain ⟨rfl, rfl⟩ := hs
         refine ⟨by simp, ?_⟩
         refine blockQ2_exit ?_
         refine sg [0, 1, 2] rfl ?_
         refine rp rfl rfl (u_fa rfl rfl Tryd.underlying24 rfl in_3 (Nat.succ_ne_zero _) rfl rfl (ne_of_lt (n := 0) (Nat.lt_of_lt_of_eq (by decide) (Eq.symm (GValue.len ((GValue.w0 GValue.zero (w64 ((r'1.1.toNat : Int) - (1 : Int)))))))))) ?_
         refine rp rfl rfl (u_ld rfl rfl Tryd.underlying3 rfl rfl ((Sub.refl _).trans (GValue.sub0 ((GValue.w0 GValue.zero (w64 ((r'1.1.toNat : Int) - (1 : Int)))))))) ?_
         refine rp rfl rfl (p_ieq rfl rfl rfl) ?_
         refine rz [(2, .q 2 (0)), (6, .q 6 (0)), (9, .p (AV.u64 y'13.1)), (66, .b (decide (((GValue.w0 GValue.zero (w64 ((r'1.1.toNat : Int) - (1 : Int))))).Kind = (2 : Int))))] [(2, .pure (GValue.cs GValue.zero)), (6, .pure (GValue.cs ((GValue.w0 GValue.zero (w64 ((r'1.1.toNat : Int) - (1 : Int))))))), (2100, .pure ([(AV.int y'13.2.1)])), (2101, .pure ([(AV.bytes y'13.2.2.1)])), (2102, .pure ([(AV.b8 y'13.2.2.2)]))] rfl rfl rfl ?_
         refine AW2_if (p := ((GValue.w0 GValue.zero (w64 ((r'1.1.toNat : Int) - (1 : Int))))).Kind = (2 : Int)) rfl (fun h15 => ?_) (fun h15 => ?_)
         ·replace H := ite_then h15 H
          refine AW2_reg [0, 1, 2, 3, 4] rfl ?_
          refine rp rfl rfl (p_move rfl rfl) ?_
          refine rp rfl rfl (p_u64xor (a := y'13.1) (b := (9223372036854775808 : UInt64)) rfl rfl rfl) ?_
          refine rp rfl rfl (p_u64_i (a := y'13.1 ^^^ (9223372036854775808 : UInt64)) rfl Tryd.underlying22 Tryd.underlying3 rfl) ?_
          refine rp rfl rfl (u_fa rfl rfl Tryd.underlying24 rfl in_3 (Nat.succ_ne_zero _) rfl rfl (ne_of_lt (n := 0) (Nat.lt_of_lt_of_eq (by decide) (Eq.symm (GValue.len ((GValue.w0 GValue.zero (w64 ((r'1.1.toNat : Int) - (1 : Int)))))))))) ?_
          refine r_op rfl rfl (u_st rfl rfl rfl rfl rfl in_3 rfl (ne_of_lt (n := 0) (Nat.lt_of_lt_of_eq (by decide) (Eq.symm (GValue.len ((GValue.w0 GValue.zero (w64 ((r'1.1.toNat : Int) - (1 : Int))))))))) (Upd.trans (Sub.refl _) (GValue.upd1 ((GValue.w0 GValue.zero (w64 ((r'1.1.toNat : Int) - (1 : Int))))) (w64 ((y'13.1 ^^^ (9223372036854775808 : UInt64)).toNat : Int))) (Upd.refl ((GValue.len ((GValue.w1 (GValue.w0 GValue.zero (w64 ((r'1.1.toNat : Int) - (1 : Int)))) (w64 ((y'13.1 ^^^ (9223372036854775808 : UInt64)).toNat : Int))))).trans (GValue.len ((GValue.w0 GValue.zero (w64 ((r'1.1.toNat : Int) - (1 : Int)))))).symm)))) ?_
          refine rz [(2, .q 2 (0)), (6, .q 6 (0))] [(2, .pure (GValue.cs GValue.zero)), (6, .pure (GValue.cs ((GValue.w1 (GValue.w0 GValue.zero (w64 ((r'1.1.toNat : Int) - (1 : Int)))) (w64 ((y'13.1 ^^^ (9223372036854775808 : UInt64)).toNat : Int)))))), (2100, .pure ([(AV.int y'13.2.1)])), (2101, .pure ([(AV.bytes y'13.2.2.1)])), (2102, .pure ([(AV.b8 y'13.2.2.2)]))] rfl rfl rfl ?_
          refine gen1 (fun v6'14 => (⟨[(2, .q 2 (0)), (6, .q 6 (0))], [(2, .pure (GValue.cs GValue.zero)), (6, .pure (GValue.cs v6'14)), (2100, .pure ([(AV.int y'13.2.1)])), (2101, .pure ([(AV.bytes y'13.2.2.1)])), (2102, .pure ([(AV.b8 y'13.2.2.2)]))], 92⟩ : TS)) H ?_
          intro v6'14 H
          have hz := some_elim H
          subst hz
          exact ⟨rfl, rfl⟩
         ·replace H := ite_else h15 H
          refine AW2_reg [0, 1, 2, 3] rfl ?_
          refine rp rfl rfl (p_move rfl rfl) ?_
          refine bindK H fun r'15 h16 H => ?_
          refine rp rfl rfl (p_callp rfl rfl rfl Tryd.func74 rfl rfl (g_code_back_ac h16) ⟨rfl, trivial⟩) ?_
          refine rp rfl rfl (u_fa rfl rfl Tryd.underlying24 rfl in_22 (Nat.succ_ne_zero _) rfl rfl (ne_of_lt (n := 0) (Nat.lt_of_lt_of_eq (by decide) (Eq.symm (GValue.len ((GValue.w0 GValue.zero (w64 ((r'1.1.toNat : Int) - (1 : Int)))))))))) ?_
          refine r_op rfl rfl (u_st rfl rfl rfl rfl rfl in_22 rfl (ne_of_lt (n := 0) (Nat.lt_of_lt_of_eq (by decide) (Eq.symm (GValue.len ((GValue.w0 GValue.zero (w64 ((r'1.1.toNat : Int) - (1 : Int))))))))) (Upd.trans (Sub.refl _) (GValue.upd2 ((GValue.w0 GValue.zero (w64 ((r'1.1.toNat : Int) - (1 : Int))))) r'15) (Upd.refl ((GValue.len ((GValue.w2 (GValue.w0 GValue.zero (w64 ((r'1.1.toNat : Int) - (1 : Int)))) r'15))).trans (GValue.len ((GValue.w0 GValue.zero (w64 ((r'1.1.toNat : Int) - (1 : Int)))))).symm)))) ?_
          refine rz [(2, .q 2 (0)), (6, .q 6 (0))] [(2, .pure (GValue.cs GValue.zero)), (6, .pure (GValue.cs ((GValue.w2 (GValue.w0 GValue.zero (w64 ((r'1.1.toNat : Int) - (1 : Int)))) r'15)))), (2100, .pure ([(AV.int y'13.2.1)])), (2101, .pure ([(AV.bytes y'13.2.2.1)])), (2102, .pure ([(AV.b8 y'13.2.2.2)]))] rfl rfl rfl ?_
          refine gen1 (fun v6'16 => (⟨[(2, .q 2 (0)), (6, .q 6 (0))], [(2, .pure (GValue.cs GValue.zero)), (6, .pure (GValue.cs v6'16)), (2100, .pure ([(AV.int y'13.2.1)])), (2101, .pure ([(AV.bytes y'13.2.2.1)])), (2102, .pure ([(AV.b8 y'13.2.2.2)]))], 92⟩ : TS)) H ?_
          intro v6'16 H
          have hz := some_elim H
          subst hz
          exact ⟨rfl, rfl⟩
      ·replace H := ite_else (ne_true h10) H
       refine sg [0, 1] rfl ?_
       refine rp rfl rfl (p_ieq rfl rfl rfl) ?_
       refine rp rfl rfl (p_asg rfl rfl) ?_
       refine RunW_st [(0, .clo 53 [(.ptr 2100 (0)), (.ptr 2101 (0)), (.ptr 2102 (0))]), (2, .q 2 (0)), (6, .q 6 (0)), (74, .b (decide (t27'3 = (4 : Int))))] [(2, .pure (GValue.cs GValue.zero)), (6, .pure (GValue.cs ((GValue.w0 GValue.zero (w64 ((r'1.1.toNat : Int) - (1 : Int))))))), (2100, .pure ([(AV.int r'1.2.2.1)])), (2101, .pure ([(AV.bytes r'1.2.2.2.1)])), (2102, .pure ([(AV.b8 r'1.2.2.2.2)]))] rfl ⟨(fun _ => .same _), TLes.same _, TLes.same _, TLes.same _, trivial⟩ ⟨rfl, rfl, rfl, rfl, rfl, trivial⟩ ?_
       refine RunW_nil ?_
       refine AW2_if (p := t27'3 = (4 : Int)) rfl (fun h17 => ?_) (fun h17 => ?_)
       ·replace H := ite_then h17 H
        refine sg [0, 1, 2, 3, 4, 5, 6] rfl ?_
        refine rp rfl rfl (p_move rfl rfl) ?_
        refine bindK H fun r'17 h18 H => ?_
        refine r_op rfl rfl (d_callh [(2100, 2100), (2101, 2101), (2102, 2102)] rfl rfl rfl Tryd.func75 rfl rfl (g_code_text_i0_ac2 h18) ⟨TLes.same _, trivial⟩ ⟨rfl, rfl, rfl, trivial⟩ rfl rfl) ?_
        refine rp rfl rfl (p_move rfl rfl) ?_
        refine rp rfl rfl (p_ext2 rfl rfl rfl rfl) ?_
        refine rp rfl rfl (p_ext2 rfl rfl rfl rfl) ?_
        refine rp rfl rfl (p_asg rfl rfl) ?_
        refine rp rfl rfl (p_asg rfl rfl) ?_
        refine rz [(2, .q 2 (0)), (6, .q 6 (0)), (12, .t r'17.1), (13, .i r'17.2.1)] [(2, .pure (GValue.cs GValue.zero)), (6, .pure (GValue.cs ((GValue.w0 GValue.zero (w64 ((r'1.1.toNat : Int) - (1 : Int))))))), (2100, .pure ([(AV.int r'17.2.2.1)])), (2101, .pure ([(AV.bytes r'17.2.2.2.1)])), (2102, .pure ([(AV.b8 r'17.2.2.2.2)]))] rfl rfl rfl ?_
        refine AW2_seq ?_
        refine sg [0, 1] rfl ?_
        refine rp rfl rfl (p_move rfl rfl) ?_
        refine rp rfl rfl (p_ine rfl rfl rfl) ?_
        refine rz [(2, .q 2 (0)), (6, .q 6 (0)), (12, .t r'17.1), (13, .i r'17.2.1), (82, .b (decide (r'17.2.1 ≠ (0 : Int))))] [(2, .pure (GValue.cs GValue.zero)), (6, .pure (GValue.cs ((GValue.w0 GValue.zero (w64 ((r'1.1.toNat : Int) - (1 : Int))))))), (2100, .pure ([(AV.int r'17.2.2.1)])), (2101, .pure ([(AV.bytes r'17.2.2.2.1)])), (2102, .pure ([(AV.b8 r'17.2.2.2.2)]))] rfl rfl rfl ?_
        refine AW2_if (p := r'17.2.1 ≠ (0 : Int)) rfl (fun h19 => ?_) (fun h19 => ?_)
        ·replace H := ite_then h19 H
         refine sg [0, 1, 2, 3] rfl ?_
         refine rp rfl rfl (u_bld rfl in_24 one_24 zc_24 pl_24 rfl rfl) ?_
         refine rp rfl rfl (p_move rfl rfl) ?_
         refine r_op rfl rfl (u_st rfl rfl rfl rfl rfl in_24 (GValue.len GValue.zero) (ne_of_lt (n := 0) (Nat.lt_of_lt_of_eq (by decide) (Eq.symm (GValue.len GValue.zero)))) (Upd.refl ((GValue.len GValue.zero).trans (GValue.len GValue.zero).symm))) ?_
         refine rp rfl rfl (p_asg rfl rfl) ?_
         refine rz [(2, .q 2 (0)), (3, .i r'17.2.1)] [(2, .pure (GValue.cs GValue.zero)), (2100, .pure ([(AV.int r'17.2.2.1)])), (2101, .pure ([(AV.bytes r'17.2.2.2.1)])), (2102, .pure ([(AV.b8 r'17.2.2.2.2)]))] rfl rfl rfl ?_
         refine AW2_ret ?_
         have hz := some_elim H
         subst hz
         exact ⟨rfl, ⟨res_cella Tryd.underlying24 rfl in_24.sz rfl (Sub.le (Sub.refl _) (GValue.len GValue.zero)) (by decide) (Sub.take (Sub.refl _) (GValue.len GValue.zero)), res_tmp (.same _), trivial⟩, ⟨rfl, rfl, rfl, trivial⟩⟩
        ·replace H := ite_else h19 H
         refine as2 [(2, .q 2 (0)), (6, .q 6 (0)), (12, .t r'17.1)] [(2, .pure (GValue.cs GValue.zero)), (6, .pure (GValue.cs ((GValue.w0 GValue.zero (w64 ((r'1.1.toNat : Int) - (1 : Int))))))), (2100, .pure ([(AV.int r'17.2.2.1)])), (2101, .pure ([(AV.bytes r'17.2.2.2.1)])), (2102, .pure ([(AV.b8 r'17.2.2.2.2)]))] rfl rfl rfl ?_
         refine AW2_skip ?_
         refine AW2_reg [0, 1, 2] rfl ?_
         refine rp rfl rfl (p_move rfl rfl) ?_
         refine rp rfl rfl (u_fa rfl rfl Tryd.underlying24 rfl in_9 (Nat.succ_ne_zero _) rfl rfl (ne_of_lt (n := 0) (Nat.lt_of_lt_of_eq (by decide) (Eq.symm (GValue.len ((GValue.w0 GValue.zero (w64 ((r'1.1.toNat : Int) - (1 : Int)))))))))) ?_
         refine r_op rfl rfl (u_st rfl rfl rfl rfl rfl in_9 rfl (ne_of_lt (n := 0) (Nat.lt_of_lt_of_eq (by decide) (Eq.symm (GValue.len ((GValue.w0 GValue.zero (w64 ((r'1.1.toNat : Int) - (1 : Int))))))))) (Upd.trans (Sub.refl _) (GValue.upd3 ((GValue.w0 GValue.zero (w64 ((r'1.1.toNat : Int) - (1 : Int))))) r'17.1) (Upd.refl ((GValue.len ((GValue.w3 (GValue.w0 GValue.zero (w64 ((r'1.1.toNat : Int) - (1 : Int)))) r'17.1))).trans (GValue.len ((GValue.w0 GValue.zero (w64 ((r'1.1.toNat : Int) - (1 : Int)))))).symm)))) ?_
         refine rz [(2, .q 2 (0)), (6, .q 6 (0))] [(2, .pure (GValue.cs GValue.zero)), (6, .pure (GValue.cs ((GValue.w3 (GValue.w0 GValue.zero (w64 ((r'1.1.toNat : Int) - (1 : Int)))) r'17.1)))), (2100, .pure ([(AV.int r'17.2.2.1)])), (2101, .pure ([(AV.bytes r'17.2.2.2.1)])), (2102, .pure ([(AV.b8 r'17.2.2.2.2)]))] rfl rfl rfl ?_
         refine gen1 (fun v6'18 => (⟨[(2, .q 2 (0)), (6, .q 6 (0))], [(2, .pure (GValue.cs GValue.zero)), (6, .pure (GValue.cs v6'18)), (2100, .pure ([(AV.int r'17.2.2.1)])), (2101, .pure ([(AV.bytes r'17.2.2.2.1)])), (2102, .pure ([(AV.b8 r'17.2.2.2.2)]))], 92⟩ : TS)) H ?_
         intro v6'18 H
         have hz := some_elim H
         subst hz
         exact ⟨rfl, rfl⟩
       ·replace H := ite_else h17 H
        refine sg [0, 1, 2] rfl ?_
        refine rp rfl rfl (u_bld rfl in_24 one_24 zc_24 pl_24 rfl rfl) ?_
        refine r_op rfl rfl (u_st rfl rfl rfl rfl rfl in_24 (GValue.len GValue.zero) (ne_of_lt (n := 0) (Nat.lt_of_lt_of_eq (by decide) (Eq.symm (GValue.len GValue.zero)))) (Upd.refl ((GValue.len GValue.zero).trans (GValue.len GValue.zero).symm))) ?_
        refine rp rfl rfl (p_asg rfl rfl) ?_
        refine rz [(2, .q 2 (0)), (3, .i (3 : Int))] [(2, .pure (GValue.cs GValue.zero)), (2100, .pure ([(AV.int r'1.2.2.1)])), (2101, .pure ([(AV.bytes r'1.2.2.2.1)])), (2102, .pure ([(AV.b8 r'1.2.2.2.2)]))] rfl rfl rfl ?_
        refine AW2_ret ?_
        have hz := some_elim H
        subst hz
        exact ⟨rfl, ⟨res_cella Tryd.underlying24 rfl in_24.sz rfl (Sub.le (Sub.refl _) (GValue.len GValue.zero)) (by decide) (Sub.take (Sub.refl _) (GValue.len GValue.zero)), res_tmp (.same _), trivial⟩, ⟨rfl, rfl, rfl, trivial⟩⟩
  ·subst hy
   refine AW2_seq ?_
   refine sg [0, 1, 2] rfl ?_
   refine rp rfl rfl (u_lda rfl rfl Tryd.underlying24 rfl in_24 rfl (Nat.succ_pos _) (Sub.refl _) (GValue.len j'2.1)) ?_
   refine bindK H fun r'20 h20 H => ?_
   refine rp rfl rfl (p_callp rfl rfl rfl Tryd.func14 rfl rfl (g_value_Check_ac h20) ⟨rfl, trivial⟩) ?_
   refine rp rfl rfl (p_ine rfl rfl rfl) ?_
   refine rz [(2, .q 2 (0)), (6, .q 6 (0)), (89, .b (decide (r'20 ≠ (0 : Int))))] [(2, .pure (GValue.cs GValue.zero)), (6, .pure (GValue.cs j'2.1)), (2100, .pure ([(AV.int j'2.2.1)])), (2101, .pure ([(AV.bytes j'2.2.2.1)])), (2102, .pure ([(AV.b8 j'2.2.2.2)]))] rfl rfl rfl ?_
   refine AW2_if (p := r'20 ≠ (0 : Int)) rfl (fun h21 => ?_) (fun h21 => ?_)
   ·replace H := ite_then h21 H
    refine sg [0, 1, 2] rfl ?_
    refine rp rfl rfl (u_bld rfl in_24 one_24 zc_24 pl_24 rfl rfl) ?_
    refine r_op rfl rfl (u_st rfl rfl rfl rfl rfl in_24 (GValue.len GValue.zero) (ne_of_lt (n := 0) (Nat.lt_of_lt_of_eq (by decide) (Eq.symm (GValue.len GValue.zero)))) (Upd.refl ((GValue.len GValue.zero).trans (GValue.len GValue.zero).symm))) ?_
    refine rp rfl rfl (p_asg rfl rfl) ?_
    refine rz [(2, .q 2 (0)), (3, .i (3 : Int))] [(2, .pure (GValue.cs GValue.zero)), (2100, .pure ([(AV.int j'2.2.1)])), (2101, .pure ([(AV.bytes j'2.2.2.1)])), (2102, .pure ([(AV.b8 j'2.2.2.2)]))] rfl rfl rfl ?_
    refine AW2_ret ?_
    have hz := some_elim H
    subst hz
    exact ⟨⟨res_cella Tryd.underlying24 rfl in_24.sz rfl (Sub.le (Sub.refl _) (GValue.len GValue.zero)) (by decide) (Sub.take (Sub.refl _) (GValue.len GValue.zero)), res_tmp (.same _), trivial⟩, ⟨rfl, rfl, rfl, trivial⟩⟩
   ·replace H := ite_else h21 H
    refine as2 [(2, .q 2 (0)), (6, .q 6 (0))] [(2, .pure (GValue.cs GValue.zero)), (6, .pure (GValue.cs j'2.1)), (2100, .pure ([(AV.int j'2.2.1)])), (2101, .pure ([(AV.bytes j'2.2.2.1)])), (2102, .pure ([(AV.b8 j'2.2.2.2)]))] rfl rfl rfl ?_
    refine AW2_skip ?_
    refine sg [0, 1, 2] rfl ?_
    refine rp rfl rfl (u_lda rfl rfl Tryd.underlying24 rfl in_24 rfl (Nat.succ_pos _) (Sub.refl _) (GValue.len j'2.1)) ?_
    refine r_op rfl rfl (u_st rfl rfl rfl rfl rfl in_24 (GValue.len j'2.1) (ne_of_lt (n := 0) (Nat.lt_of_lt_of_eq (by decide) (Eq.symm (GValue.len GValue.zero)))) (Upd.refl ((GValue.len j'2.1).trans (GValue.len GValue.zero).symm))) ?_
    refine rp rfl rfl (p_asg rfl rfl) ?_
    refine rz [(2, .q 2 (0)), (3, .i (0 : Int))] [(2, .pure (GValue.cs j'2.1)), (2100, .pure ([(AV.int j'2.2.1)])), (2101, .pure ([(AV.bytes j'2.2.2.1)])), (2102, .pure ([(AV.b8 j'2.2.2.2)]))] rfl rfl rfl ?_
    refine AW2_ret ?_
    have hz := some_elim H
    subst hz
    exact ⟨⟨res_cella Tryd.underlying24 rfl in_24.sz rfl (Sub.le (Sub.refl _) (GValue.len j'2.1)) (by decide) (Sub.take (Sub.refl _) (GValue.len j'2.1)), res_tmp (.same _), trivial⟩, ⟨rfl, rfl, rfl, trivial⟩⟩
  ·subst hy
   obtain ⟨rfl, hs⟩ := hs
   have hz := some_elim H
   subst hz
   exact ⟨hs.1, hs.2⟩

/-! code.Decode -/
noncomputable def g_code_Decode_l0 (n1 : Int) (down2 : Int) : Int × (List UInt8) × Int × UInt8 × (List GValue) → Option ((Int × (List UInt8) × Int × UInt8 × (List GValue)) ⊕ (((List GValue) × Int) ⊕ ((List UInt8) × Int × (List GValue))))
  | (t23_0, b3_0, at8_0, flip9_0, out11_0) => (if t23_0 < n1 then (if 0 ≤ t23_0 then (if iand (ishr down2 t23_0.toNat) (1 : Int) = (1 : Int) then some (255 : UInt8) else some (0 : UInt8)) else none).bind fun j'1 => (g_code_read_i0 at8_0 b3_0 j'1).bind fun r'2 => (if r'2.2.1 ≠ (0 : Int) then some (.inr (.inl (([] : List GValue), r'2.2.1))) else if room (out11_0.length + ([r'2.1] : List GValue).length) 40 then some (.inl (w64 (t23_0 + (1 : Int)), r'2.2.2.2.1, r'2.2.2.1, r'2.2.2.2.2, out11_0 ++ ([r'2.1] : List GValue))) else none) else some (.inr (.inr (b3_0, at8_0, out11_0))))
noncomputable def g_code_Decode (b0 : List UInt8) (n1 : Int) (down2 : Int) : Option ((List GValue) × Int) :=
  (if (n1 < (0 : Int)) ∨ (n1 > (5 : Int)) then some (([] : List GValue), (1 : Int)) else (loopO (g_code_Decode_l0 n1 down2) ((0 : Int), b0, (0 : Int), (0 : UInt8), ([] : List GValue))).bind fun o'6 => match o'6 with | .inl y'7 => some y'7 | .inr (y'8) => (if y'8.2.1 ≠ (y'8.1.length : Int) then some (([] : List GValue), (3 : Int)) else some (y'8.2.2, (0 : Int))))
set_option maxHeartbeats 4000000 in
set_option maxRecDepth 100000 in
theorem g_code_Decode_ac2 {b0 : List UInt8} {n1 : Int} {down2 : Int} {r : (List GValue) × Int} (H : g_code_Decode b0 n1 down2 = some r) : AC2 Tryd.prog 24 (pureT [(AV.bytes b0), (AV.int n1), (AV.int down2)]) [] (retV [.c (.own 6 r.1.length 4), .i r.2]) [(6, .pure (r.1.flatMap GValue.cs))] := by
 refine AC2_of_body (vs := [.c (.own 6 r.1.length 4), .i r.2]) Tryd.func24 rfl rfl (Nat.le_of_ble_eq_true rfl) rfl ?_
 unfold g_code_Decode at H
 refine as2 [(0, .y b0), (1, .i n1), (2, .i down2)] [] rfl rfl rfl ?_
 refine sg [0, 1, 2] rfl ?_
 refine r_op rfl rfl (MakeD.opD (n_box 3 rfl rfl) rfl rfl rfl rfl) ?_
 refine rp rfl rfl (p_asgn rfl) ?_
 refine rp rfl rfl (p_asg rfl rfl) ?_
 refine rz [(1, .i n1), (2, .i down2), (3, .q 3 (0))] [(3, .pure ([(AV.bytes b0)]))] rfl rfl rfl ?_
 refine AW2_seq ?_
 refine AW2_seq ?_
 refine AW2_mid (⟨[(1, .i n1), (2, .i down2), (3, .q 3 (0)), (20, .b (decide ((n1 < (0 : Int)) ∨ (n1 > (5 : Int)))))], [(3, .pure ([(AV.bytes b0)]))], 49⟩ : TS) ?_ ?_
 ·refine AW2_reg [0, 1, 2, 3, 4, 5] rfl ?_
  refine rp rfl rfl (p_move rfl rfl) ?_
  refine rp rfl rfl (p_bin rfl rfl rfl rfl) ?_
  refine rp rfl rfl (p_move rfl rfl) ?_
  refine (Classical.em (n1 < (0 : Int))).elim (fun h1 => ?_) (fun h1 => ?_)
  ·refine r_off rfl rfl rfl rfl (decide_eq_true h1) rfl rfl ?_
   refine r_off rfl rfl rfl rfl (decide_eq_true h1) rfl rfl ?_
   refine rp rfl rfl (p_pkt rfl rfl (decide_eq_true h1) (tb (decide_eq_true (p := (n1 < (0 : Int)) ∨ (n1 > (5 : Int))) (Or.inl h1)).symm)) ?_
   refine rs [(1, .i n1), (2, .i down2), (3, .q 3 (0)), (20, .b (decide ((n1 < (0 : Int)) ∨ (n1 > (5 : Int)))))] [(3, .pure ([(AV.bytes b0)]))] rfl rfl rfl ?_
   exact RunW_nil rfl
  ·refine r_on rfl rfl rfl rfl (decide_eq_false h1) rfl (PureD.opD (p_move rfl rfl)) ?_
   refine r_on rfl rfl rfl rfl (decide_eq_false h1) rfl (PureD.opD (p_bin rfl rfl rfl rfl)) ?_
   refine rp rfl rfl (p_pkf rfl rfl (decide_eq_false h1) (tb ((or_l (p := n1 < (0 : Int)) (q := n1 > (5 : Int)) h1)))) ?_
   refine rs [(1, .i n1), (2, .i down2), (3, .q 3 (0)), (20, .b (decide ((n1 < (0 : Int)) ∨ (n1 > (5 : Int)))))] [(3, .pure ([(AV.bytes b0)]))] rfl rfl rfl ?_
   exact RunW_nil rfl
 ·refine AW2_if (p := (n1 < (0 : Int)) ∨ (n1 > (5 : Int))) rfl (fun h2 => ?_) (fun h2 => ?_)
  ·replace H := ite_then h2 H
   refine sg [0, 1] rfl ?_
   refine rp rfl rfl (p_asgn rfl) ?_
   refine rp rfl rfl (p_asg rfl rfl) ?_
   refine rz [(6, .p .nil), (7, .i (1 : Int))] [] rfl rfl rfl ?_
   refine as2 [(6, .p .nil), (7, .i (1 : Int))] [] rfl rfl rfl ?_
   refine AW2_gho (Gho_own (d := 6) (b := 6) (z := 4) rfl rfl rfl rfl) ?_
   refine AW2_st [(6, .c (.own 6 ([] : List GValue).length 4)), (7, .i (1 : Int))] [(6, .pure (([] : List GValue).flatMap GValue.cs))] rfl ⟨TLes.own rfl, TLes.same _, trivial⟩ ⟨rfl, trivial⟩ ?_
   refine AW2_ret ?_
   have hz := some_elim H
   subst hz
   exact ⟨⟨res_tmp (.same _), res_tmp (.same _), trivial⟩, ⟨rfl, trivial⟩⟩
  ·replace H := ite_else h2 H
   refine as2 [(1, .i n1), (2, .i down2), (3, .q 3 (0))] [(3, .pure ([(AV.bytes b0)]))] rfl rfl rfl ?_
   refine AW2_skip ?_
   refine sg [0, 1, 2, 3] rfl ?_
   refine r_op rfl rfl (MakeD.opD (u_alloc 8 rfl in_3 one_3 zc_3) rfl rfl rfl rfl) ?_
   refine r_op rfl rfl (MakeD.opD (u_alloc 9 rfl in_5 one_5 zc_5) rfl rfl rfl rfl) ?_
   refine r_op rfl rfl (u_st rfl rfl rfl rfl rfl in_3 rfl (List.cons_ne_nil _ _) (Upd.refl (rfl.trans rfl.symm))) ?_
   refine r_op rfl rfl (u_st rfl rfl rfl rfl rfl in_5 rfl (List.cons_ne_nil _ _) (Upd.refl (rfl.trans rfl.symm))) ?_
   refine rz [(1, .i n1), (2, .i down2), (3, .q 3 (0)), (8, .q 8 (0)), (9, .q 9 (0))] [(3, .pure ([(AV.bytes b0)])), (8, .pure ([(AV.int (0 : Int))])), (9, .pure ([(AV.b8 (0 : UInt8))]))] rfl rfl rfl ?_
   refine sg [0, 1] rfl ?_
   refine rp rfl rfl (p_mkfn (caps := [(.ptr 8 (0)), (.ptr 3 (0)), (.ptr 9 (0))]) rfl ⟨⟨rfl, rfl⟩, ⟨rfl, rfl⟩, ⟨rfl, rfl⟩, trivial⟩) ?_
   refine rp rfl rfl (p_asg rfl rfl) ?_
   refine RunW_st [(1, .i n1), (2, .i down2), (3, .q 3 (0)), (8, .q 8 (0)), (9, .q 9 (0)), (10, .clo 53 [(.ptr 8 (0)), (.ptr 3 (0)), (.ptr 9 (0))])] [(3, .pure ([(AV.bytes b0)])), (8, .pure ([(AV.int (0 : Int))])), (9, .pure ([(AV.b8 (0 : UInt8))]))] rfl ⟨TLes.same _, TLes.same _, TLes.same _, TLes.same _, TLes.same _, (fun _ => .same _), trivial⟩ ⟨rfl, rfl, rfl, trivial⟩ ?_
   refine RunW_nil ?_
   refine sg [0] rfl ?_
   refine rp rfl rfl (p_asgn rfl) ?_
   refine RunW_st [(1, .i n1), (2, .i down2), (3, .q 3 (0)), (8, .q 8 (0)), (9, .q 9 (0)), (10, .clo 53 [(.ptr 8 (0)), (.ptr 3 (0)), (.ptr 9 (0))]), (11, .p .nil)] [(3, .pure ([(AV.bytes b0)])), (8, .pure ([(AV.int (0 : Int))])), (9, .pure ([(AV.b8 (0 : UInt8))]))] rfl ⟨TLes.same _, TLes.same _, TLes.same _, TLes.same _, TLes.same _, (fun _ => .same _), TLes.same _, trivial⟩ ⟨rfl, rfl, rfl, trivial⟩ ?_
   refine RunW_nil ?_
   refine AW2_seq ?_
   refine sg [0, 1] rfl ?_
   refine rp rfl rfl (p_move rfl rfl) ?_
   refine rp rfl rfl (p_move rfl rfl) ?_
   refine RunW_st [(2, .i down2), (3, .q 3 (0)), (8, .q 8 (0)), (9, .q 9 (0)), (10, .clo 53 [(.ptr 8 (0)), (.ptr 3 (0)), (.ptr 9 (0))]), (11, .p .nil), (22, .i n1), (23, .i (0 : Int))] [(3, .pure ([(AV.bytes b0)])), (8, .pure ([(AV.int (0 : Int))])), (9, .pure ([(AV.b8 (0 : UInt8))]))] rfl ⟨TLes.same _, TLes.same _, TLes.same _, TLes.same _, (fun _ => .same _), TLes.same _, TLes.same _, TLes.same _, trivial⟩ ⟨rfl, rfl, rfl, trivial⟩ ?_
   refine RunW_nil ?_
   refine AW2_block ?_
   refine AW2_st [(2, .i down2), (3, .q 3 (0)), (8, .q 8 (0)), (9, .q 9 (0)), (10, .clo 53 [(.ptr 8 (0)), (.ptr 3 (0)), (.ptr 9 (0))]), (11, .p .nil), (22, .i n1), (23, .i (0 : Int))] [(3, .pure ([(AV.bytes b0)])), (8, .pure ([(AV.int (0 : Int))])), (9, .pure ([(AV.b8 (0 : UInt8))]))] rfl ⟨TLes.same _, TLes.same _, TLes.same _, TLes.same _, (fun _ => .same _), TLes.same _, TLes.same _, TLes.same _, trivial⟩ ⟨rfl, rfl, rfl, trivial⟩ ?_
   refine AW2_gho (Gho_own (d := 11) (b := 11) (z := 4) rfl rfl rfl rfl) ?_
   refine AW2_st [(2, .i down2), (3, .q 3 (0)), (8, .q 8 (0)), (9, .q 9 (0)), (10, .clo 53 [(.ptr 8 (0)), (.ptr 3 (0)), (.ptr 9 (0))]), (11, .c (.own 11 ([] : List GValue).length 4)), (22, .i n1), (23, .i (0 : Int))] [(3, .pure ([(AV.bytes b0)])), (8, .pure ([(AV.int (0 : Int))])), (9, .pure ([(AV.b8 (0 : UInt8))])), (11, .pure (([] : List GValue).flatMap GValue.cs))] rfl ⟨TLes.same _, TLes.same _, TLes.same _, TLes.same _, (fun _ => .same _), TLes.own rfl, TLes.same _, TLes.same _, trivial⟩ ⟨rfl, rfl, rfl, rfl, trivial⟩ ?_
   refine bindK H fun o'6 h10 H => ?_
   refine AW2_loopO (fun a'3 : Int × (List UInt8) × Int × UInt8 × (List GValue) => (⟨[(2, .i down2), (3, .q 3 (0)), (8, .q 8 (0)), (9, .q 9 (0)), (10, .clo 53 [(.ptr 8 (0)), (.ptr 3 (0)), (.ptr 9 (0))]), (11, .c (.own 11 a'3.2.2.2.2.length 4)), (22, .i n1), (23, .i a'3.1)], [(3, .pure ([(AV.bytes a'3.2.1)])), (8, .pure ([(AV.int a'3.2.2.1)])), (9, .pure ([(AV.b8 a'3.2.2.2.1)])), (11, .pure (a'3.2.2.2.2.flatMap GValue.cs))], 49⟩ : TS)) (fun (o : ((List GValue) × Int) ⊕ ((List UInt8) × Int × (List GValue))) e s' => match o with | .inl y'4 => e = Go.Exit.ret ∧ ResAll Tryd.prog s' [ResultVar.tmp 6, ResultVar.tmp 7] [.c (.own 6 y'4.1.length 4), .i y'4.2] ∧ HFits s' [(6, .pure (y'4.1.flatMap GValue.cs))] | .inr (y'5) => e = Go.Exit.exit 0 ∧ s' = (⟨[(3, .q 3 (0)), (8, .q 8 (0)), (11, .c (.own 11 y'5.2.2.length 4))], [(3, .pure ([(AV.bytes y'5.1)])), (8, .pure ([(AV.int y'5.2.1)])), (11, .pure (y'5.2.2.flatMap GValue.cs))], 49⟩ : TS)) h10 rfl (fun a x hx => ?_) (fun e s' hs => ?_)
   ·clear H
    obtain ⟨t23_0, b3_0, at8_0, flip9_0, out11_0⟩ := a
    have H := hx
    clear hx
    unfold g_code_Decode_l0 at H
    refine sg [0] rfl ?_
    refine rp rfl rfl (p_bin rfl rfl rfl rfl) ?_
    refine RunW_st [(2, .i down2), (3, .q 3 (0)), (8, .q 8 (0)), (9, .q 9 (0)), (10, .clo 53 [(.ptr 8 (0)), (.ptr 3 (0)), (.ptr 9 (0))]), (11, .c (.own 11 out11_0.length 4)), (22, .i n1), (23, .i t23_0), (24, .b (decide (t23_0 < n1)))] [(3, .pure ([(AV.bytes b3_0)])), (8, .pure ([(AV.int at8_0)])), (9, .pure ([(AV.b8 flip9_0)])), (11, .pure (out11_0.flatMap GValue.cs))] rfl ⟨TLes.same _, TLes.same _, TLes.same _, TLes.same _, (fun _ => .same _), TLes.same _, TLes.same _, TLes.same _, TLes.same _, trivial⟩ ⟨rfl, rfl, rfl, rfl, trivial⟩ ?_
    refine RunW_nil ?_
    refine AW2_seq ?_
    refine AW2_if (p := t23_0 < n1) rfl (fun h3 => ?_) (fun h3 => ?_)
    ·replace H := ite_then h3 H
     refine AW2_st [(2, .i down2), (3, .q 3 (0)), (8, .q 8 (0)), (9, .q 9 (0)), (10, .clo 53 [(.ptr 8 (0)), (.ptr 3 (0)), (.ptr 9 (0))]), (11, .c (.own 11 out11_0.length 4)), (22, .i n1), (23, .i t23_0)] [(3, .pure ([(AV.bytes b3_0)])), (8, .pure ([(AV.int at8_0)])), (9, .pure ([(AV.b8 flip9_0)])), (11, .pure (out11_0.flatMap GValue.cs))] rfl ⟨TLes.same _, TLes.same _, TLes.same _, TLes.same _, (fun _ => .same _), TLes.same _, TLes.same _, TLes.same _, trivial⟩ ⟨rfl, rfl, rfl, rfl, trivial⟩ ?_
     refine AW2_skip ?_
     refine AW2_seq ?_
     refine AW2_block ?_
     refine sg [0, 1] rfl ?_
     refine rp rfl rfl (p_move rfl rfl) ?_
     refine rp rfl rfl (p_asg rfl rfl) ?_
     refine RunW_st [(2, .i down2), (3, .q 3 (0)), (8, .q 8 (0)), (9, .q 9 (0)), (10, .clo 53 [(.ptr 8 (0)), (.ptr 3 (0)), (.ptr 9 (0))]), (11, .c (.own 11 out11_0.length 4)), (12, .i t23_0), (22, .i n1), (23, .i t23_0)] [(3, .pure ([(AV.bytes b3_0)])), (8, .pure ([(AV.int at8_0)])), (9, .pure ([(AV.b8 flip9_0)])), (11, .pure (out11_0.flatMap GValue.cs))] rfl ⟨TLes.same _, TLes.same _, TLes.same _, TLes.same _, (fun _ => .same _), TLes.same _, TLes.same _, TLes.same _, TLes.same _, trivial⟩ ⟨rfl, rfl, rfl, rfl, trivial⟩ ?_
     refine RunW_nil ?_
     refine sg [0] rfl ?_
     refine r_op rfl rfl (u_st rfl rfl rfl rfl rfl in_5 rfl (List.cons_ne_nil _ _) (Upd.refl (rfl.trans rfl.symm))) ?_
     refine RunW_st [(2, .i down2), (3, .q 3 (0)), (8, .q 8 (0)), (9, .q 9 (0)), (10, .clo 53 [(.ptr 8 (0)), (.ptr 3 (0)), (.ptr 9 (0))]), (11, .c (.own 11 out11_0.length 4)), (12, .i t23_0), (22, .i n1), (23, .i t23_0)] [(3, .pure ([(AV.bytes b3_0)])), (8, .pure ([(AV.int at8_0)])), (9, .pure ([(AV.b8 (0 : UInt8))])), (11, .pure (out11_0.flatMap GValue.cs))] rfl ⟨TLes.same _, TLes.same _, TLes.same _, TLes.same _, (fun _ => .same _), TLes.same _, TLes.same _, TLes.same _, TLes.same _, trivial⟩ ⟨rfl, rfl, rfl, rfl, trivial⟩ ?_
     refine RunW_nil ?_
     refine AW2_seq ?_
     refine bindK H fun j'1 h4 H => ?_
     refine AW2_mid (⟨[(2, .i down2), (3, .q 3 (0)), (8, .q 8 (0)), (9, .q 9 (0)), (10, .clo 53 [(.ptr 8 (0)), (.ptr 3 (0)), (.ptr 9 (0))]), (11, .c (.own 11 out11_0.length 4)), (22, .i n1), (23, .i t23_0)], [(3, .pure ([(AV.bytes b3_0)])), (8, .pure ([(AV.int at8_0)])), (9, .pure ([(AV.b8 j'1)])), (11, .pure (out11_0.flatMap GValue.cs))], 49⟩ : TS) ?_ ?_
     ·clear H
      have H := h4
      clear h4
      refine sg [0, 1, 2, 3, 4] rfl ?_
      refine rp rfl rfl (p_move rfl rfl) ?_
      refine rp rfl rfl (p_move rfl rfl) ?_
      refine chkK H fun h5 H => ?_
      refine rp rfl rfl (p_ishr (n := t23_0.toNat) rfl rfl rfl (Int.toNat_of_nonneg h5).symm) ?_
      refine rp rfl rfl (p_bin rfl rfl rfl rfl) ?_
      refine rp rfl rfl (p_ieq rfl rfl rfl) ?_
      refine RunW_st [(2, .i down2), (3, .q 3 (0)), (8, .q 8 (0)), (9, .q 9 (0)), (10, .clo 53 [(.ptr 8 (0)), (.ptr 3 (0)), (.ptr 9 (0))]), (11, .c (.own 11 out11_0.length 4)), (22, .i n1), (23, .i t23_0), (30, .b (decide (iand (ishr down2 t23_0.toNat) (1 : Int) = (1 : Int))))] [(3, .pure ([(AV.bytes b3_0)])), (8, .pure ([(AV.int at8_0)])), (9, .pure ([(AV.b8 (0 : UInt8))])), (11, .pure (out11_0.flatMap GValue.cs))] rfl ⟨TLes.same _, TLes.same _, TLes.same _, TLes.same _, (fun _ => .same _), TLes.same _, TLes.same _, TLes.same _, TLes.same _, trivial⟩ ⟨rfl, rfl, rfl, rfl, trivial⟩ ?_
      refine RunW_nil ?_
      refine AW2_if (p := iand (ishr down2 t23_0.toNat) (1 : Int) = (1 : Int)) rfl (fun h6 => ?_) (fun h6 => ?_)
      ·replace H := ite_then h6 H
       refine AW2_reg [0] rfl ?_
       refine r_op rfl rfl (u_st rfl rfl rfl rfl rfl in_5 rfl (List.cons_ne_nil _ _) (Upd.refl (rfl.trans rfl.symm))) ?_
       refine RunW_st [(2, .i down2), (3, .q 3 (0)), (8, .q 8 (0)), (9, .q 9 (0)), (10, .clo 53 [(.ptr 8 (0)), (.ptr 3 (0)), (.ptr 9 (0))]), (11, .c (.own 11 out11_0.length 4)), (22, .i n1), (23, .i t23_0)] [(3, .pure ([(AV.bytes b3_0)])), (8, .pure ([(AV.int at8_0)])), (9, .pure ([(AV.b8 (255 : UInt8))])), (11, .pure (out11_0.flatMap GValue.cs))] rfl ⟨TLes.same _, TLes.same _, TLes.same _, TLes.same _, (fun _ => .same _), TLes.same _, TLes.same _, TLes.same _, trivial⟩ ⟨rfl, rfl, rfl, rfl, trivial⟩ ?_
       refine RunW_nil ?_
       have hz := some_elim H
       subst hz
       exact rfl
      ·replace H := ite_else h6 H
       refine AW2_st [(2, .i down2), (3, .q 3 (0)), (8, .q 8 (0)), (9, .q 9 (0)), (10, .clo 53 [(.ptr 8 (0)), (.ptr 3 (0)), (.ptr 9 (0))]), (11, .c (.own 11 out11_0.length 4)), (22, .i n1), (23, .i t23_0)] [(3, .pure ([(AV.bytes b3_0)])), (8, .pure ([(AV.int at8_0)])), (9, .pure ([(AV.b8 (0 : UInt8))])), (11, .pure (out11_0.flatMap GValue.cs))] rfl ⟨TLes.same _, TLes.same _, TLes.same _, TLes.same _, (fun _ => .same _), TLes.same _, TLes.same _, TLes.same _, trivial⟩ ⟨rfl, rfl, rfl, rfl, trivial⟩ ?_
       refine AW2_skip ?_
       have hz := some_elim H
       subst hz
       exact rfl
     ·refine sg [0, 1, 2, 3, 4, 5, 6, 7] rfl ?_
      refine rp rfl rfl (p_move rfl rfl) ?_
      refine bindK H fun r'2 h7 H => ?_
      refine r_op rfl rfl (d_callh [(2100, 8), (2101, 3), (2102, 9)] rfl rfl rfl Tryd.func54 rfl rfl (g_code_read_i0_ac2 h7) ⟨TLes.same _, trivial⟩ ⟨rfl, rfl, rfl, trivial⟩ rfl rfl) ?_
      refine rp rfl rfl (p_move rfl rfl) ?_
      refine rp rfl rfl (p_ext2 rfl rfl rfl rfl) ?_
      refine rp rfl rfl (p_ext2 rfl rfl rfl rfl) ?_
      refine r_op rfl rfl (MakeD.opD (u_alloc 13 rfl in_24 one_24 zc_24) rfl rfl rfl rfl) ?_
      refine r_op rfl rfl (u_st rfl rfl rfl rfl rfl in_24 (GValue.len r'2.1) (ne_of_lt (n := 0) (Nat.lt_of_lt_of_eq (by decide) (Eq.symm (GValue.len GValue.zero)))) (Upd.refl ((GValue.len r'2.1).trans (GValue.len GValue.zero).symm))) ?_
      refine rp rfl rfl (p_asg rfl rfl) ?_
      refine RunW_st [(2, .i down2), (3, .q 3 (0)), (8, .q 8 (0)), (9, .q 9 (0)), (10, .clo 53 [(.ptr 8 (0)), (.ptr 3 (0)), (.ptr 9 (0))]), (11, .c (.own 11 out11_0.length 4)), (13, .q 13 (0)), (14, .i r'2.2.1), (22, .i n1), (23, .i t23_0)] [(3, .pure ([(AV.bytes r'2.2.2.2.1)])), (8, .pure ([(AV.int r'2.2.2.1)])), (9, .pure ([(AV.b8 r'2.2.2.2.2)])), (11, .pure (out11_0.flatMap GValue.cs)), (13, .pure (GValue.cs r'2.1))] rfl ⟨TLes.same _, TLes.same _, TLes.same _, TLes.same _, (fun _ => .same _), TLes.same _, TLes.same _, TLes.same _, TLes.same _, TLes.same _, trivial⟩ ⟨rfl, rfl, rfl, rfl, rfl, trivial⟩ ?_
      refine RunW_nil ?_
      refine AW2_seq ?_
      refine sg [0, 1] rfl ?_
      refine rp rfl rfl (p_move rfl rfl) ?_
      refine rp rfl rfl (p_ine rfl rfl rfl) ?_
      refine RunW_st [(2, .i down2), (3, .q 3 (0)), (8, .q 8 (0)), (9, .q 9 (0)), (10, .clo 53 [(.ptr 8 (0)), (.ptr 3 (0)), (.ptr 9 (0))]), (11, .c (.own 11 out11_0.length 4)), (13, .q 13 (0)), (14, .i r'2.2.1), (22, .i n1), (23, .i t23_0), (37, .b (decide (r'2.2.1 ≠ (0 : Int))))] [(3, .pure ([(AV.bytes r'2.2.2.2.1)])), (8, .pure ([(AV.int r'2.2.2.1)])), (9, .pure ([(AV.b8 r'2.2.2.2.2)])), (11, .pure (out11_0.flatMap GValue.cs)), (13, .pure (GValue.cs r'2.1))] rfl ⟨TLes.same _, TLes.same _, TLes.same _, TLes.same _, (fun _ => .same _), TLes.same _, TLes.same _, TLes.same _, TLes.same _, TLes.same _, TLes.same _, trivial⟩ ⟨rfl, rfl, rfl, rfl, rfl, trivial⟩ ?_
      refine RunW_nil ?_
      refine AW2_if (p := r'2.2.1 ≠ (0 : Int)) rfl (fun h8 => ?_) (fun h8 => ?_)
      ·replace H := ite_then h8 H
       refine sg [0, 1, 2] rfl ?_
       refine rp rfl rfl (p_move rfl rfl) ?_
       refine rp rfl rfl (p_asgn rfl) ?_
       refine rp rfl rfl (p_asg rfl rfl) ?_
       refine rz [(6, .p .nil), (7, .i r'2.2.1)] [] rfl rfl rfl ?_
       refine as2 [(6, .p .nil), (7, .i r'2.2.1)] [] rfl rfl rfl ?_
       refine AW2_gho (Gho_own (d := 6) (b := 6) (z := 4) rfl rfl rfl rfl) ?_
       refine AW2_st [(6, .c (.own 6 ([] : List GValue).length 4)), (7, .i r'2.2.1)] [(6, .pure (([] : List GValue).flatMap GValue.cs))] rfl ⟨TLes.own rfl, TLes.same _, trivial⟩ ⟨rfl, trivial⟩ ?_
       refine AW2_ret ?_
       have hz := some_elim H
       subst hz
       exact ⟨rfl, ⟨res_tmp (.same _), res_tmp (.same _), trivial⟩, ⟨rfl, trivial⟩⟩
      ·replace H := ite_else h8 H
       refine AW2_st [(2, .i down2), (3, .q 3 (0)), (8, .q 8 (0)), (9, .q 9 (0)), (10, .clo 53 [(.ptr 8 (0)), (.ptr 3 (0)), (.ptr 9 (0))]), (11, .c (.own 11 out11_0.length 4)), (13, .q 13 (0)), (22, .i n1), (23, .i t23_0)] [(3, .pure ([(AV.bytes r'2.2.2.2.1)])), (8, .pure ([(AV.int r'2.2.2.1)])), (9, .pure ([(AV.b8 r'2.2.2.2.2)])), (11, .pure (out11_0.flatMap GValue.cs)), (13, .pure (GValue.cs r'2.1))] rfl ⟨TLes.same _, TLes.same _, TLes.same _, TLes.same _, (fun _ => .same _), TLes.same _, TLes.same _, TLes.same _, TLes.same _, trivial⟩ ⟨rfl, rfl, rfl, rfl, rfl, trivial⟩ ?_
       refine AW2_skip ?_
       refine AW2_reg [0, 1, 2, 3, 4] rfl ?_
       refine rp rfl rfl (p_move rfl rfl) ?_
       refine rp rfl rfl (u_lda rfl rfl Tryd.underlying24 rfl in_24 rfl (Nat.succ_pos _) (Sub.refl _) (GValue.len r'2.1)) ?_
       refine r_op rfl rfl (MakeD.opD (u_bs 41 rfl Tryd.underlying32 in_24 rfl one_24 (by decide) (by decide) zc_24 rfl (af_lit (g := GValue.cs) (fun x => (GValue.len x)) (GValue.len GValue.zero) [r'2.1])) rfl rfl rfl rfl) ?_
       refine chkK H fun h9 H => ?_
       refine r_op rfl rfl (u_app [11, 39] rfl rfl rfl rfl Tryd.underlying32 Tryd.underlying32 in_24 rfl rfl rfl (fm_length (fun x => (GValue.len x)) out11_0) (by decide) (srcT_o rfl rfl (fm_length (fun x => (GValue.len x)) ([r'2.1] : List GValue)) (by decide)) (fm_length (fun x => (GValue.len x)) ([r'2.1] : List GValue)) h9 (by decide) rfl rfl (fapp GValue.cs out11_0 ([r'2.1] : List GValue)) (lapp out11_0 ([r'2.1] : List GValue))) ?_
       refine rp rfl rfl (p_asg rfl rfl) ?_
       refine RunW_st [(2, .i down2), (3, .q 3 (0)), (8, .q 8 (0)), (9, .q 9 (0)), (10, .clo 53 [(.ptr 8 (0)), (.ptr 3 (0)), (.ptr 9 (0))]), (11, .c (.own 11 (out11_0 ++ ([r'2.1] : List GValue)).length 4)), (22, .i n1), (23, .i t23_0)] [(3, .pure ([(AV.bytes r'2.2.2.2.1)])), (8, .pure ([(AV.int r'2.2.2.1)])), (9, .pure ([(AV.b8 r'2.2.2.2.2)])), (11, .pure ((out11_0 ++ ([r'2.1] : List GValue)).flatMap GValue.cs))] rfl ⟨TLes.same _, TLes.same _, TLes.same _, TLes.same _, (fun _ => .same _), TLes.same _, TLes.same _, TLes.same _, trivial⟩ ⟨rfl, rfl, rfl, rfl, trivial⟩ ?_
       refine RunW_nil ?_
       refine AW2_reg [0, 1] rfl ?_
       refine rp rfl rfl (p_bin rfl rfl rfl rfl) ?_
       refine rp rfl rfl (p_move rfl rfl) ?_
       refine RunW_st [(2, .i down2), (3, .q 3 (0)), (8, .q 8 (0)), (9, .q 9 (0)), (10, .clo 53 [(.ptr 8 (0)), (.ptr 3 (0)), (.ptr 9 (0))]), (11, .c (.own 11 (out11_0 ++ ([r'2.1] : List GValue)).length 4)), (22, .i n1), (23, .i (w64 (t23_0 + (1 : Int))))] [(3, .pure ([(AV.bytes r'2.2.2.2.1)])), (8, .pure ([(AV.int r'2.2.2.1)])), (9, .pure ([(AV.b8 r'2.2.2.2.2)])), (11, .pure ((out11_0 ++ ([r'2.1] : List GValue)).flatMap GValue.cs))] rfl ⟨TLes.same _, TLes.same _, TLes.same _, TLes.same _, (fun _ => .same _), TLes.same _, TLes.same _, TLes.same _, trivial⟩ ⟨rfl, rfl, rfl, rfl, trivial⟩ ?_
       refine RunW_nil ?_
       have hz := some_elim H
       subst hz
       exact ⟨rfl, rfl⟩
    ·replace H := ite_else h3 H
     refine as2 [(3, .q 3 (0)), (8, .q 8 (0)), (11, .c (.own 11 out11_0.length 4))] [(3, .pure ([(AV.bytes b3_0)])), (8, .pure ([(AV.int at8_0)])), (11, .pure (out11_0.flatMap GValue.cs))] rfl rfl rfl ?_
     refine AW2_exit ?_
     refine thenQ2_exit ?_
     have hz := some_elim H
     subst hz
     exact ⟨rfl, rfl⟩
   ·rcases o'6 with y'7 | y'8
    ·obtain ⟨rfl, hs⟩ := hs
     refine ⟨by simp, ?_⟩
     have hz := some_elim H
     subst hz
     exact ⟨hs.1, hs.2⟩
    ·obtain ⟨rfl, rfl⟩ := hs
     refine ⟨by simp, ?_⟩
     refine blockQ2_exit ?_
     refine AW2_seq ?_
     refine sg [0, 1, 2, 3] rfl ?_
     refine rp rfl rfl (u_ld rfl rfl Tryd.underlying3 rfl rfl (Sub.refl _)) ?_
     refine rp rfl rfl (u_ld rfl rfl Tryd.underlying33 rfl rfl (Sub.refl _)) ?_
     refine rp rfl rfl (p_lenl rfl Tryd.underlying33 rfl rfl) ?_
     refine rp rfl rfl (p_ine rfl rfl rfl) ?_
     refine rz [(11, .c (.own 11 y'8.2.2.length 4)), (47, .b (decide (y'8.2.1 ≠ (y'8.1.length : Int))))] [(11, .pure (y'8.2.2.flatMap GValue.cs))] rfl rfl rfl ?_
     refine AW2_if (p := y'8.2.1 ≠ (y'8.1.length : Int)) rfl (fun h11 => ?_) (fun h11 => ?_)
     ·replace H := ite_then h11 H
      refine sg [0, 1] rfl ?_
      refine rp rfl rfl (p_asgn rfl) ?_
      refine rp rfl rfl (p_asg rfl rfl) ?_
      refine rz [(6, .p .nil), (7, .i (3 : Int))] [] rfl rfl rfl ?_
      refine as2 [(6, .p .nil), (7, .i (3 : Int))] [] rfl rfl rfl ?_
      refine AW2_gho (Gho_own (d := 6) (b := 6) (z := 4) rfl rfl rfl rfl) ?_
      refine AW2_st [(6, .c (.own 6 ([] : List GValue).length 4)), (7, .i (3 : Int))] [(6, .pure (([] : List GValue).flatMap GValue.cs))] rfl ⟨TLes.own rfl, TLes.same _, trivial⟩ ⟨rfl, trivial⟩ ?_
      refine AW2_ret ?_
      have hz := some_elim H
      subst hz
      exact ⟨⟨res_tmp (.same _), res_tmp (.same _), trivial⟩, ⟨rfl, trivial⟩⟩
     ·replace H := ite_else h11 H
      refine as2 [(11, .c (.own 11 y'8.2.2.length 4))] [(11, .pure (y'8.2.2.flatMap GValue.cs))] rfl rfl rfl ?_
      refine AW2_skip ?_
      refine sg [0, 1, 2] rfl ?_
      refine rp rfl rfl (p_move rfl rfl) ?_
      refine rp rfl rfl (p_asg rfl rfl) ?_
      refine rp rfl rfl (p_asg rfl rfl) ?_
      refine rs [(6, .c (.own 11 y'8.2.2.length 4)), (7, .i (0 : Int))] [(11, .pure (y'8.2.2.flatMap GValue.cs))] rfl rfl rfl ?_
      refine RunW_gho (Gho_ren 11 6 rfl rfl rfl rfl rfl) ?_
      refine rz [(6, .c (.own 6 y'8.2.2.length 4)), (7, .i (0 : Int))] [(6, .pure (y'8.2.2.flatMap GValue.cs))] rfl rfl rfl ?_
      refine as2 [(6, .c (.own 6 y'8.2.2.length 4)), (7, .i (0 : Int))] [(6, .pure (y'8.2.2.flatMap GValue.cs))] rfl rfl rfl ?_
      refine AW2_ret ?_
      have hz := some_elim H
      subst hz
      exact ⟨⟨res_tmp (.same _), res_tmp (.same _), trivial⟩, ⟨rfl, trivial⟩⟩
theorem g_code_Decode_ac {b0 : List UInt8} {n1 : Int} {down2 : Int} {r : (List GValue) × Int} (H : g_code_Decode b0 n1 down2 = some r) : ACp Tryd.prog 24 [(AV.bytes b0), (AV.int n1), (AV.int down2)] (.tup [((fun q : List GValue => AV.lst (q.flatMap GValue.cs) q.length) r.1), (AV.int r.2)]) := ACp_pub (g_code_Decode_ac2 H) (fun _ _ hm => lent_tup ⟨lent_own hm rfl (fm_length (fun x => (GValue.len x)) r.1) (by decide), .same _, trivial⟩)

/-! wire.Told -/
def g_wire_Told_r3 : List (List (Nat × Option Nat)) := [[(0, none)], [(14, some 0)], [(15, some 1)], [(16, some 2)], [(0, none)], [(18, some 4)], [(19, some 5)], [(20, some 6)], [(17, some 3), (21, some 7)], []]
def g_wire_Told_r3c : List (List Nat) := [[], [0], [0, 1], [0, 1, 2], [], [4], [4, 5], [4, 5, 6], [0, 1, 2, 3, 4, 5, 6, 7], [], [0, 1, 2, 3, 4, 5, 6, 7, 8, 9]]
def g_wire_Told_r12 : List (List (Nat × Option Nat)) := [[(0, none)], [(49, some 0)], [(50, some 1)], [(51, some 2)], [(0, none)], [(53, some 4)], [(54, some 5)], [(55, some 6)], [(56, some 7)], [(0, none)], [(58, some 9)], [(59, some 10)], [(60, some 11)], [(57, some 8), (61, some 12)], [(52, some 3)]]
def g_wire_Told_r12c : List (List Nat) := [[], [0], [0, 1], [0, 1, 2], [], [4], [4, 5], [4, 5, 6], [4, 5, 6, 7], [], [9], [9, 10], [9, 10, 11], [4, 5, 6, 7, 8, 9, 10, 11, 12], [0, 1, 2, 3], [0, 1, 2, 3, 4, 5, 6, 7, 8, 9, 10, 11, 12, 13, 14]]
noncomputable def g_wire_Told_l0 (b0 : List UInt8) : (List UInt8) × Int × (List (List GValue)) → Option (((List UInt8) × Int × (List (List GValue))) ⊕ ((GReply × Int) ⊕ ((List UInt8) × (List (List GValue)))))
  | (b0_0, t43_0, t1000_0) => (if t43_0 < ((lrd b0 2).toNat : Int) then (if (b0_0.length : Int) < (3 : Int) then some (.inr (.inl (GReply.zero, (4 : Int)))) else if 0 < b0_0.length then if 1 < b0_0.length then if 2 < b0_0.length then if 0 ≤ (3 : Int) ∧ (3 : Int) ≤ (b0_0.length : Int) then (if ((cut b0_0 (3 : Int) (b0_0.length : Int)).length : Int) < ior (ishl ((lrd b0_0 1).toNat : Int) 8) ((lrd b0_0 2).toNat : Int) then some (.inr (.inl (GReply.zero, (4 : Int)))) else if 0 ≤ ior (ishl ((lrd b0_0 1).toNat : Int) 8) ((lrd b0_0 2).toNat : Int) ∧ ior (ishl ((lrd b0_0 1).toNat : Int) 8) ((lrd b0_0 2).toNat : Int) ≤ ((cut b0_0 (3 : Int) (b0_0.length : Int)).length : Int) then (g_code_Decode (cut (cut b0_0 (3 : Int) (b0_0.length : Int)) (0 : Int) (ior (ishl ((lrd b0_0 1).toNat : Int) 8) ((lrd b0_0 2).toNat : Int))) ((lrd b0_0 0).toNat : Int) (0 : Int)).bind fun r'1 => (if r'1.2 ≠ (0 : Int) then some (.inr (.inl (GReply.zero, r'1.2))) else if room (t1000_0.length + ([r'1.1] : List (List GValue)).length) 24 then if 0 ≤ ior (ishl ((lrd b0_0 1).toNat : Int) 8) ((lrd b0_0 2).toNat : Int) ∧ ior (ishl ((lrd b0_0 1).toNat : Int) 8) ((lrd b0_0 2).toNat : Int) ≤ ((cut b0_0 (3 : Int) (b0_0.length : Int)).length : Int) then letO ((cut (cut b0_0 (3 : Int) (b0_0.length : Int)) (ior (ishl ((lrd b0_0 1).toNat : Int) 8) ((lrd b0_0 2).toNat : Int)) ((cut b0_0 (3 : Int) (b0_0.length : Int)).length : Int))) fun b0'2 => some (.inl (b0'2, w64 (t43_0 + (1 : Int)), t1000_0 ++ ([r'1.1] : List (List GValue)))) else none else none) else none) else none else none else none else none) else some (.inr (.inr (b0_0, t1000_0))))
noncomputable def g_wire_Told (b0 : List UInt8) : Option (GReply × Int) :=
  (if (b0.length : Int) < (3 : Int) then some (GReply.zero, (4 : Int)) else if 0 < b0.length then if 1 < b0.length then if 2 < b0.length then (if ((((lrd b0 0).toNat : Int) > (12 : Int)) ∨ (((lrd b0 1).toNat : Int) > (64 : Int))) ∨ (((lrd b0 2).toNat : Int) > (64 : Int)) then some (GReply.zero, (6 : Int)) else if 0 ≤ (3 : Int) ∧ (3 : Int) ≤ (b0.length : Int) then (loopO (g_wire_Told_l0 b0) ((cut b0 (3 : Int) (b0.length : Int)), (0 : Int), ([] : List (List GValue)))).bind fun o'6 => match o'6 with | .inl y'7 => some y'7 | .inr (y'8) => (if (y'8.1.length : Int) > (0 : Int) then some (GReply.zero, (3 : Int)) else letO (({ Error := ((lrd b0 0).toNat : Int), Count := ((lrd b0 1).toNat : Int), Rows := y'8.2 } : GReply)) fun t2'9 => some (t2'9, (0 : Int))) else none) else none else none else none)
set_option maxHeartbeats 4000000 in
set_option maxRecDepth 100000 in
theorem g_wire_Told_ac {b0 : List UInt8} {r : GReply × Int} (H : g_wire_Told b0 = some r) : ACp Tryd.prog 29 [(AV.bytes b0)] (.tup [(.agg (GReply.cs r.1)), (AV.int r.2)]) := by
 refine ACp_of (AC2_of_body (vs := [.g (GReply.cs r.1), .i r.2]) Tryd.func29 rfl rfl (Nat.le_of_ble_eq_true rfl) rfl ?_) (fun _ => .same _)
 unfold g_wire_Told at H
 refine as2 [(0, .y b0)] [] rfl rfl rfl ?_
 refine sg [0, 1] rfl ?_
 refine r_op rfl rfl (MakeD.opD (u_alloc 2 rfl in_44 one_44 zc_44) rfl rfl rfl rfl) ?_
 refine rp rfl rfl (p_asg rfl rfl) ?_
 refine rz [(0, .y b0), (2, .q 2 (0))] [(2, .pure (GReply.cs GReply.zero))] rfl rfl rfl ?_
 refine AW2_seq ?_
 refine sg [0, 1, 2] rfl ?_
 refine rp rfl rfl (p_move rfl rfl) ?_
 refine rp rfl rfl (p_lenl rfl Tryd.underlying33 rfl rfl) ?_
 refine rp rfl rfl (p_bin rfl rfl rfl rfl) ?_
 refine rz [(0, .y b0), (2, .q 2 (0)), (12, .b (decide ((b0.length : Int) < (3 : Int))))] [(2, .pure (GReply.cs GReply.zero))] rfl rfl rfl ?_
 refine AW2_if (p := (b0.length : Int) < (3 : Int)) rfl (fun h1 => ?_) (fun h1 => ?_)
 ·replace H := ite_then h1 H
  refine sg [0, 1, 2] rfl ?_
  refine rp rfl rfl (u_bld rfl in_44 one_44 zc_44 pl_44 rfl rfl) ?_
  refine r_op rfl rfl (u_st rfl rfl rfl rfl rfl in_44 (GReply.len GReply.zero) (ne_of_lt (n := 0) (Nat.lt_of_lt_of_eq (by decide) (Eq.symm (GReply.len GReply.zero)))) (Upd.refl ((GReply.len GReply.zero).trans (GReply.len GReply.zero).symm))) ?_
  refine rp rfl rfl (p_asg rfl rfl) ?_
  refine rz [(2, .q 2 (0)), (3, .i (4 : Int))] [(2, .pure (GReply.cs GReply.zero))] rfl rfl rfl ?_
  refine AW2_ret ?_
  have hz := some_elim H
  subst hz
  exact ⟨⟨res_cella Tryd.underlying44 rfl in_44.sz rfl (Sub.le (Sub.refl _) (GReply.len GReply.zero)) (by decide) (Sub.take (Sub.refl _) (GReply.len GReply.zero)), res_tmp (.same _), trivial⟩, trivial⟩
 ·replace H := ite_else h1 H
  refine as2 [(0, .y b0), (2, .q 2 (0))] [(2, .pure (GReply.cs GReply.zero))] rfl rfl rfl ?_
  refine AW2_skip ?_
  refine AW2_seq ?_
  refine chkK H fun h2 H => ?_
  refine chkK H fun h3 H => ?_
  refine AW2_ghoQ ?_
  refine AW2_draw 10 [10] (fun k => ([.y b0, .p (.rptr (bcells b0) (0 * 1)), .p (AV.b8 (lrd b0 0)), .i ((lrd b0 0).toNat : Int), .y b0, .p (.rptr (bcells b0) (1 * 1)), .p (AV.b8 (lrd b0 1)), .i ((lrd b0 1).toNat : Int), .agg [.p ((AV.int ((lrd b0 0).toNat : Int))), .p ((AV.int ((lrd b0 1).toNat : Int))), .p .nil], .q 4 (0)] : List TV).getD k TV.any) (fun k => g_wire_Told_r3.getD k []) [(0, none), (2, none), (4, some 9), (22, some 8)] [(9, 4, (GReply.cs GReply.zero))] (fun k => g_wire_Told_r3c.getD k []) mixed (by kernel_rfl) rfl rfl (a_op (g_x rfl (x_p rfl (p_move rfl rfl) rfl)) (a_op (g_x rfl (x_p rfl (u_ixl rfl rfl Tryd.underlying33 in_5 rfl rfl rfl h2 (lne h2)) rfl)) (a_op (g_x rfl (x_p rfl (u_ld rfl rfl Tryd.underlying5 rfl rfl (Sub.map default h2)) rfl)) (a_op (g_x rfl (x_p rfl (p_ci rfl Tryd.underlying5 Tryd.underlying25 rfl (wrapu8i (lrd b0 0))) rfl)) (a_op (g_x rfl (x_p rfl (p_move rfl rfl) rfl)) (a_op (g_x rfl (x_p rfl (u_ixl rfl rfl Tryd.underlying33 in_5 rfl rfl rfl h3 (lne h3)) rfl)) (a_op (g_x rfl (x_p rfl (u_ld rfl rfl Tryd.underlying5 rfl rfl (Sub.map default h3)) rfl)) (a_op (g_x rfl (x_p rfl (p_ci rfl Tryd.underlying5 Tryd.underlying3 rfl (wrapu8i (lrd b0 1))) rfl)) (a_op (g_x rfl (x_p rfl (u_bldmn (ps := [(0, [.p ((AV.int ((lrd b0 0).toNat : Int)))]), (1, [.p ((AV.int ((lrd b0 1).toNat : Int)))])]) (cs := [.p ((AV.int ((lrd b0 0).toNat : Int))), .p ((AV.int ((lrd b0 1).toNat : Int))), .p .nil]) rfl in_44 one_44 rfl pl_44 rfl (fun _ => rfl)) rfl)) (a_op (g_x rfl (x_m rfl (u_alloc 4 rfl in_44 one_44 zc_44) rfl rfl)) (a_nil))))))))))) ?_
  refine t_op rfl rfl (OpD_gho (Gho_owna (d := 22) (b := 1000) (z := 1) (i := 2) rfl rfl rfl rfl rfl rfl) (OpD_gho (Gho_st (L := [(0, .y b0), (2, .q 2 (0)), (4, .q 4 (0)), (22, .agg [.p ((AV.int ((lrd b0 0).toNat : Int))), .p ((AV.int ((lrd b0 1).toNat : Int))), .own 1000 0 1])]) (H := [(2, .pure (GReply.cs GReply.zero)), (4, .pure (GReply.cs GReply.zero)), (1000, .pure (([] : List (List GValue)).map (fun q : List GValue => AV.lst (q.flatMap GValue.cs) q.length)))]) (N := 97) rfl ⟨TLes.same _, TLes.same _, TLes.same _, TLes.same _, trivial⟩ ⟨rfl, rfl, rfl, trivial⟩) (d_stm (o := [.p ((AV.int GReply.zero.Error)), .p ((AV.int GReply.zero.Count)), .p (((fun q : List (List GValue) => AV.lst (q.map (fun q : List GValue => AV.lst (q.flatMap GValue.cs) q.length)) q.length) GReply.zero.Rows))]) (xs := [.p ((AV.int ((lrd b0 0).toNat : Int))), .p ((AV.int ((lrd b0 1).toNat : Int))), .own 1000 0 1]) (o' := [.p ((AV.int ((lrd b0 0).toNat : Int))), .p ((AV.int ((lrd b0 1).toNat : Int))), .own 1000 0 1]) rfl rfl rfl rfl (fun _ => rfl) rfl (in_44).sz (Nat.le_of_ble_eq_true rfl) (List.cons_ne_nil _ _) (fun _ => rfl)))) ?_
  refine t_gho (Gho_st (L := [(0, .y b0), (2, .q 2 (0)), (4, .q 4 (0))]) (H := [(2, .pure (GReply.cs GReply.zero)), (4, .mix [.p ((AV.int ((lrd b0 0).toNat : Int))), .p ((AV.int ((lrd b0 1).toNat : Int))), .own 1000 ([] : List (List GValue)).length 1]), (1000, .pure (([] : List (List GValue)).map (fun q : List GValue => AV.lst (q.flatMap GValue.cs) q.length)))]) (N := 97) rfl ⟨TLes.same _, TLes.same _, TLes.same _, trivial⟩ ⟨rfl, (congrArg (fun n'' => some (Blk.mix [.p ((AV.int ((lrd b0 0).toNat : Int))), .p ((AV.int ((lrd b0 1).toNat : Int))), .own 1000 n'' 1])) rfl), rfl, trivial⟩) ?_
  refine sg [0, 1, 2, 3, 4] rfl ?_
  refine rp rfl rfl (p_move rfl rfl) ?_
  refine chkK H fun h4 H => ?_
  refine rp rfl rfl (u_ixl rfl rfl Tryd.underlying33 in_5 rfl rfl rfl h4 (lne h4)) ?_
  refine rp rfl rfl (u_ld rfl rfl Tryd.underlying5 rfl rfl (Sub.map default h4)) ?_
  refine rp rfl rfl (p_ci rfl Tryd.underlying5 Tryd.underlying3 rfl (wrapu8i (lrd b0 2))) ?_
  refine rp rfl rfl (p_asg rfl rfl) ?_
  refine rz [(0, .y b0), (2, .q 2 (0)), (4, .q 4 (0)), (5, .i ((lrd b0 2).toNat : Int))] [(2, .pure (GReply.cs GReply.zero)), (4, .mix [.p ((AV.int ((lrd b0 0).toNat : Int))), .p ((AV.int ((lrd b0 1).toNat : Int))), .own 1000 ([] : List (List GValue)).length 1]), (1000, .pure (([] : List (List GValue)).map (fun q : List GValue => AV.lst (q.flatMap GValue.cs) q.length)))] rfl rfl rfl ?_
  refine AW2_seq ?_
  refine AW2_seq ?_
  refine AW2_mid (⟨[(0, .y b0), (2, .q 2 (0)), (4, .q 4 (0)), (5, .i ((lrd b0 2).toNat : Int)), (38, .b (decide (((((lrd b0 0).toNat : Int) > (12 : Int)) ∨ (((lrd b0 1).toNat : Int) > (64 : Int))) ∨ (((lrd b0 2).toNat : Int) > (64 : Int)))))], [(2, .pure (GReply.cs GReply.zero)), (4, .mix [.p ((AV.int ((lrd b0 0).toNat : Int))), .p ((AV.int ((lrd b0 1).toNat : Int))), .own 1000 ([] : List (List GValue)).length 1]), (1000, .pure (([] : List (List GValue)).map (fun q : List GValue => AV.lst (q.flatMap GValue.cs) q.length)))], 97⟩ : TS) ?_ ?_
  ·refine AW2_reg [0, 1, 2, 3, 4, 5, 6, 7, 8, 9, 10, 11] rfl ?_
   refine rp rfl rfl (p_fa rfl rfl Tryd.underlying44 rfl (in_25).sz (Nat.succ_ne_zero _) rfl rfl (fun _ => List.cons_ne_nil _ _)) ?_
   refine rp rfl rfl (p_ldm rfl rfl Tryd.underlying25 rfl rfl rfl rfl) ?_
   refine rp rfl rfl (p_bin rfl rfl rfl rfl) ?_
   refine rp rfl rfl (p_move rfl rfl) ?_
   refine (Classical.em (((lrd b0 0).toNat : Int) > (12 : Int))).elim (fun h5 => ?_) (fun h5 => ?_)
   ·iterate 3 (refine r_off rfl rfl rfl rfl (decide_eq_true h5) rfl rfl ?_)
    have qq1 := decide_eq_true (p := (((lrd b0 0).toNat : Int) > (12 : Int)) ∨ (((lrd b0 1).toNat : Int) > (64 : Int))) (Or.inl h5)
    refine rp rfl rfl (p_pkt rfl rfl (decide_eq_true h5) (tb qq1.symm)) ?_
    refine rp rfl rfl (p_move rfl rfl) ?_
    iterate 2 (refine r_off rfl rfl rfl rfl qq1 rfl rfl ?_)
    refine rp rfl rfl (p_pkt rfl rfl qq1 (tb (decide_eq_true (p := ((((lrd b0 0).toNat : Int) > (12 : Int)) ∨ (((lrd b0 1).toNat : Int) > (64 : Int))) ∨ (((lrd b0 2).toNat : Int) > (64 : Int))) (Or.inl (Or.inl h5))).symm)) ?_
    refine rs [(0, .y b0), (2, .q 2 (0)), (4, .q 4 (0)), (5, .i ((lrd b0 2).toNat : Int)), (38, .b (decide (((((lrd b0 0).toNat : Int) > (12 : Int)) ∨ (((lrd b0 1).toNat : Int) > (64 : Int))) ∨ (((lrd b0 2).toNat : Int) > (64 : Int)))))] [(2, .pure (GReply.cs GReply.zero)), (4, .mix [.p ((AV.int ((lrd b0 0).toNat : Int))), .p ((AV.int ((lrd b0 1).toNat : Int))), .own 1000 ([] : List (List GValue)).length 1]), (1000, .pure (([] : List (List GValue)).map (fun q : List GValue => AV.lst (q.flatMap GValue.cs) q.length)))] rfl rfl rfl ?_
    exact RunW_nil rfl
   ·refine r_on rfl rfl rfl rfl (decide_eq_false h5) rfl (PureD.opD (p_fa rfl rfl Tryd.underlying44 rfl (in_3).sz (Nat.succ_ne_zero _) rfl rfl (fun _ => List.cons_ne_nil _ _))) ?_
    refine r_on rfl rfl rfl rfl (decide_eq_false h5) rfl (PureD.opD (p_ldm rfl rfl Tryd.underlying3 rfl rfl rfl rfl)) ?_
    refine r_on rfl rfl rfl rfl (decide_eq_false h5) rfl (PureD.opD (p_bin rfl rfl rfl rfl)) ?_
    refine rp rfl rfl (p_pkf rfl rfl (decide_eq_false h5) (tb ((or_l (p := ((lrd b0 0).toNat : Int) > (12 : Int)) (q := ((lrd b0 1).toNat : Int) > (64 : Int)) h5)))) ?_
    refine rp rfl rfl (p_move rfl rfl) ?_
    refine (Classical.em (((lrd b0 1).toNat : Int) > (64 : Int))).elim (fun h6 => ?_) (fun h6 => ?_)
    ·have qq2 := decide_eq_true (p := (((lrd b0 0).toNat : Int) > (12 : Int)) ∨ (((lrd b0 1).toNat : Int) > (64 : Int))) (Or.inr h6)
     iterate 2 (refine r_off rfl rfl rfl rfl qq2 rfl rfl ?_)
     refine rp rfl rfl (p_pkt rfl rfl qq2 (tb (decide_eq_true (p := ((((lrd b0 0).toNat : Int) > (12 : Int)) ∨ (((lrd b0 1).toNat : Int) > (64 : Int))) ∨ (((lrd b0 2).toNat : Int) > (64 : Int))) (Or.inl (Or.inr h6))).symm)) ?_
     refine rs [(0, .y b0), (2, .q 2 (0)), (4, .q 4 (0)), (5, .i ((lrd b0 2).toNat : Int)), (38, .b (decide (((((lrd b0 0).toNat : Int) > (12 : Int)) ∨ (((lrd b0 1).toNat : Int) > (64 : Int))) ∨ (((lrd b0 2).toNat : Int) > (64 : Int)))))] [(2, .pure (GReply.cs GReply.zero)), (4, .mix [.p ((AV.int ((lrd b0 0).toNat : Int))), .p ((AV.int ((lrd b0 1).toNat : Int))), .own 1000 ([] : List (List GValue)).length 1]), (1000, .pure (([] : List (List GValue)).map (fun q : List GValue => AV.lst (q.flatMap GValue.cs) q.length)))] rfl rfl rfl ?_
     exact RunW_nil rfl
    ·have qq3 := decide_eq_false (p := (((lrd b0 0).toNat : Int) > (12 : Int)) ∨ (((lrd b0 1).toNat : Int) > (64 : Int))) (not_or.2 ⟨h5, h6⟩)
     refine rn rfl rfl rfl rfl qq3 rfl (p_move rfl rfl) ?_
     refine rn rfl rfl rfl rfl qq3 rfl (p_bin rfl rfl rfl rfl) ?_
     refine rp rfl rfl (p_pkf rfl rfl qq3 (tb ((or_l (p := (((lrd b0 0).toNat : Int) > (12 : Int)) ∨ (((lrd b0 1).toNat : Int) > (64 : Int))) (q := ((lrd b0 2).toNat : Int) > (64 : Int)) (not_or.2 ⟨h5, h6⟩))))) ?_
     refine rs [(0, .y b0), (2, .q 2 (0)), (4, .q 4 (0)), (5, .i ((lrd b0 2).toNat : Int)), (38, .b (decide (((((lrd b0 0).toNat : Int) > (12 : Int)) ∨ (((lrd b0 1).toNat : Int) > (64 : Int))) ∨ (((lrd b0 2).toNat : Int) > (64 : Int)))))] [(2, .pure (GReply.cs GReply.zero)), (4, .mix [.p ((AV.int ((lrd b0 0).toNat : Int))), .p ((AV.int ((lrd b0 1).toNat : Int))), .own 1000 ([] : List (List GValue)).length 1]), (1000, .pure (([] : List (List GValue)).map (fun q : List GValue => AV.lst (q.flatMap GValue.cs) q.length)))] rfl rfl rfl ?_
     exact RunW_nil rfl
  ·refine AW2_if (p := ((((lrd b0 0).toNat : Int) > (12 : Int)) ∨ (((lrd b0 1).toNat : Int) > (64 : Int))) ∨ (((lrd b0 2).toNat : Int) > (64 : Int))) rfl (fun h7 => ?_) (fun h7 => ?_)
   ·replace H := ite_then h7 H
    refine sg [0, 1, 2] rfl ?_
    refine rp rfl rfl (u_bld rfl in_44 one_44 zc_44 pl_44 rfl rfl) ?_
    refine r_op rfl rfl (u_st rfl rfl rfl rfl rfl in_44 (GReply.len GReply.zero) (ne_of_lt (n := 0) (Nat.lt_of_lt_of_eq (by decide) (Eq.symm (GReply.len GReply.zero)))) (Upd.refl ((GReply.len GReply.zero).trans (GReply.len GReply.zero).symm))) ?_
    refine rp rfl rfl (p_asg rfl rfl) ?_
    refine rz [(2, .q 2 (0)), (3, .i (6 : Int))] [(2, .pure (GReply.cs GReply.zero))] rfl rfl rfl ?_
    refine AW2_ret ?_
    have hz := some_elim H
    subst hz
    exact ⟨⟨res_cella Tryd.underlying44 rfl in_44.sz rfl (Sub.le (Sub.refl _) (GReply.len GReply.zero)) (by decide) (Sub.take (Sub.refl _) (GReply.len GReply.zero)), res_tmp (.same _), trivial⟩, trivial⟩
   ·replace H := ite_else h7 H
    refine as2 [(0, .y b0), (2, .q 2 (0)), (4, .q 4 (0)), (5, .i ((lrd b0 2).toNat : Int))] [(2, .pure (GReply.cs GReply.zero)), (4, .mix [.p ((AV.int ((lrd b0 0).toNat : Int))), .p ((AV.int ((lrd b0 1).toNat : Int))), .own 1000 ([] : List (List GValue)).length 1]), (1000, .pure (([] : List (List GValue)).map (fun q : List GValue => AV.lst (q.flatMap GValue.cs) q.length)))] rfl rfl rfl ?_
    refine AW2_skip ?_
    refine sg [0, 1, 2] rfl ?_
    refine rp rfl rfl (p_move rfl rfl) ?_
    refine chkK H fun h8 H => ?_
    refine rp rfl rfl (u_cutl (g := (fun l => bcells l)) (a := (3 : Int)) (b := (b0.length : Int)) rfl rfl Tryd.underlying33 in_5 rfl (bT_i (show 0 ≤ (3 : Int) ∧ (3 : Int) ≤ (b0.length : Int) ∧ (b0.length : Int) ≤ (b0.length : Int) from ⟨h8.1, h8.2, Int.le_refl _⟩).1 rfl) (bT_len _) (.inl rfl) (show 0 ≤ (3 : Int) ∧ (3 : Int) ≤ (b0.length : Int) ∧ (b0.length : Int) ≤ (b0.length : Int) from ⟨h8.1, h8.2, Int.le_refl _⟩) (g_bytes)) ?_
    refine rp rfl rfl (p_asg rfl rfl) ?_
    refine rz [(0, .y (cut b0 (3 : Int) (b0.length : Int))), (2, .q 2 (0)), (4, .q 4 (0)), (5, .i ((lrd b0 2).toNat : Int))] [(2, .pure (GReply.cs GReply.zero)), (4, .mix [.p ((AV.int ((lrd b0 0).toNat : Int))), .p ((AV.int ((lrd b0 1).toNat : Int))), .own 1000 ([] : List (List GValue)).length 1]), (1000, .pure (([] : List (List GValue)).map (fun q : List GValue => AV.lst (q.flatMap GValue.cs) q.length)))] rfl rfl rfl ?_
    refine AW2_seq ?_
    refine sg [0, 1] rfl ?_
    refine rp rfl rfl (p_move rfl rfl) ?_
    refine rp rfl rfl (p_move rfl rfl) ?_
    refine rz [(0, .y (cut b0 (3 : Int) (b0.length : Int))), (2, .q 2 (0)), (4, .q 4 (0)), (42, .i ((lrd b0 2).toNat : Int)), (43, .i (0 : Int))] [(2, .pure (GReply.cs GReply.zero)), (4, .mix [.p ((AV.int ((lrd b0 0).toNat : Int))), .p ((AV.int ((lrd b0 1).toNat : Int))), .own 1000 ([] : List (List GValue)).length 1]), (1000, .pure (([] : List (List GValue)).map (fun q : List GValue => AV.lst (q.flatMap GValue.cs) q.length)))] rfl rfl rfl ?_
    refine AW2_block ?_
    refine as2 [(0, .y (cut b0 (3 : Int) (b0.length : Int))), (2, .q 2 (0)), (4, .q 4 (0)), (42, .i ((lrd b0 2).toNat : Int)), (43, .i (0 : Int))] [(2, .pure (GReply.cs GReply.zero)), (4, .mix [.p ((AV.int ((lrd b0 0).toNat : Int))), .p ((AV.int ((lrd b0 1).toNat : Int))), .own 1000 ([] : List (List GValue)).length 1]), (1000, .pure (([] : List (List GValue)).map (fun q : List GValue => AV.lst (q.flatMap GValue.cs) q.length)))] rfl rfl rfl ?_
    refine bindK H fun o'6 h21 H => ?_
    refine AW2_loopO (fun a'3 : (List UInt8) × Int × (List (List GValue)) => (⟨[(0, .y a'3.1), (2, .q 2 (0)), (4, .q 4 (0)), (42, .i ((lrd b0 2).toNat : Int)), (43, .i a'3.2.1)], [(2, .pure (GReply.cs GReply.zero)), (4, .mix [.p ((AV.int ((lrd b0 0).toNat : Int))), .p ((AV.int ((lrd b0 1).toNat : Int))), .own 1000 a'3.2.2.length 1]), (1000, .pure (a'3.2.2.map (fun q : List GValue => AV.lst (q.flatMap GValue.cs) q.length)))], 97⟩ : TS)) (fun (o : (GReply × Int) ⊕ ((List UInt8) × (List (List GValue)))) e s' => match o with | .inl y'4 => e = Go.Exit.ret ∧ ResAll Tryd.prog s' [ResultVar.cell 2 44, ResultVar.tmp 3] [.g (GReply.cs y'4.1), .i y'4.2] ∧ HFits s' [] | .inr (y'5) => e = Go.Exit.exit 0 ∧ s' = (⟨[(0, .y y'5.1), (2, .q 2 (0)), (4, .q 4 (0))], [(2, .pure (GReply.cs GReply.zero)), (4, .mix [.p ((AV.int ((lrd b0 0).toNat : Int))), .p ((AV.int ((lrd b0 1).toNat : Int))), .own 1000 y'5.2.length 1]), (1000, .pure (y'5.2.map (fun q : List GValue => AV.lst (q.flatMap GValue.cs) q.length)))], 97⟩ : TS)) h21 rfl (fun a x hx => ?_) (fun e s' hs => ?_)
    ·clear H
     obtain ⟨b0_0, t43_0, t1000_0⟩ := a
     have H := hx
     clear hx
     unfold g_wire_Told_l0 at H
     refine sg [0] rfl ?_
     refine rp rfl rfl (p_bin rfl rfl rfl rfl) ?_
     refine rz [(0, .y b0_0), (2, .q 2 (0)), (4, .q 4 (0)), (42, .i ((lrd b0 2).toNat : Int)), (43, .i t43_0), (44, .b (decide (t43_0 < ((lrd b0 2).toNat : Int))))] [(2, .pure (GReply.cs GReply.zero)), (4, .mix [.p ((AV.int ((lrd b0 0).toNat : Int))), .p ((AV.int ((lrd b0 1).toNat : Int))), .own 1000 t1000_0.length 1]), (1000, .pure (t1000_0.map (fun q : List GValue => AV.lst (q.flatMap GValue.cs) q.length)))] rfl rfl rfl ?_
     refine AW2_seq ?_
     refine AW2_if (p := t43_0 < ((lrd b0 2).toNat : Int)) rfl (fun h9 => ?_) (fun h9 => ?_)
     ·replace H := ite_then h9 H
      refine as2 [(0, .y b0_0), (2, .q 2 (0)), (4, .q 4 (0)), (42, .i ((lrd b0 2).toNat : Int)), (43, .i t43_0)] [(2, .pure (GReply.cs GReply.zero)), (4, .mix [.p ((AV.int ((lrd b0 0).toNat : Int))), .p ((AV.int ((lrd b0 1).toNat : Int))), .own 1000 t1000_0.length 1]), (1000, .pure (t1000_0.map (fun q : List GValue => AV.lst (q.flatMap GValue.cs) q.length)))] rfl rfl rfl ?_
      refine AW2_skip ?_
      refine AW2_seq ?_
      refine AW2_block ?_
      refine AW2_seq ?_
      refine sg [0, 1, 2] rfl ?_
      refine rp rfl rfl (p_move rfl rfl) ?_
      refine rp rfl rfl (p_lenl rfl Tryd.underlying33 rfl rfl) ?_
      refine rp rfl rfl (p_bin rfl rfl rfl rfl) ?_
      refine rz [(0, .y b0_0), (2, .q 2 (0)), (4, .q 4 (0)), (42, .i ((lrd b0 2).toNat : Int)), (43, .i t43_0), (47, .b (decide ((b0_0.length : Int) < (3 : Int))))] [(2, .pure (GReply.cs GReply.zero)), (4, .mix [.p ((AV.int ((lrd b0 0).toNat : Int))), .p ((AV.int ((lrd b0 1).toNat : Int))), .own 1000 t1000_0.length 1]), (1000, .pure (t1000_0.map (fun q : List GValue => AV.lst (q.flatMap GValue.cs) q.length)))] rfl rfl rfl ?_
      refine AW2_if (p := (b0_0.length : Int) < (3 : Int)) rfl (fun h10 => ?_) (fun h10 => ?_)
      ·replace H := ite_then h10 H
       refine sg [0, 1, 2] rfl ?_
       refine rp rfl rfl (u_bld rfl in_44 one_44 zc_44 pl_44 rfl rfl) ?_
       refine r_op rfl rfl (u_st rfl rfl rfl rfl rfl in_44 (GReply.len GReply.zero) (ne_of_lt (n := 0) (Nat.lt_of_lt_of_eq (by decide) (Eq.symm (GReply.len GReply.zero)))) (Upd.refl ((GReply.len GReply.zero).trans (GReply.len GReply.zero).symm))) ?_
       refine rp rfl rfl (p_asg rfl rfl) ?_
       refine rz [(2, .q 2 (0)), (3, .i (4 : Int))] [(2, .pure (GReply.cs GReply.zero))] rfl rfl rfl ?_
       refine AW2_ret ?_
       have hz := some_elim H
       subst hz
       exact ⟨rfl, ⟨res_cella Tryd.underlying44 rfl in_44.sz rfl (Sub.le (Sub.refl _) (GReply.len GReply.zero)) (by decide) (Sub.take (Sub.refl _) (GReply.len GReply.zero)), res_tmp (.same _), trivial⟩, trivial⟩
      ·replace H := ite_else h10 H
       refine as2 [(0, .y b0_0), (2, .q 2 (0)), (4, .q 4 (0)), (42, .i ((lrd b0 2).toNat : Int)), (43, .i t43_0)] [(2, .pure (GReply.cs GReply.zero)), (4, .mix [.p ((AV.int ((lrd b0 0).toNat : Int))), .p ((AV.int ((lrd b0 1).toNat : Int))), .own 1000 t1000_0.length 1]), (1000, .pure (t1000_0.map (fun q : List GValue => AV.lst (q.flatMap GValue.cs) q.length)))] rfl rfl rfl ?_
       refine AW2_skip ?_
       refine AW2_seq ?_
       refine chkK H fun h11 H => ?_
       refine chkK H fun h12 H => ?_
       refine chkK H fun h13 H => ?_
       refine AW2_ghoQ ?_
       refine AW2_draw 15 [15] (fun k => ([.y b0_0, .p (.rptr (bcells b0_0) (0 * 1)), .p (AV.b8 (lrd b0_0 0)), .i ((lrd b0_0 0).toNat : Int), .y b0_0, .p (.rptr (bcells b0_0) (1 * 1)), .p (AV.b8 (lrd b0_0 1)), .i ((lrd b0_0 1).toNat : Int), .i (ishl ((lrd b0_0 1).toNat : Int) 8), .y b0_0, .p (.rptr (bcells b0_0) (2 * 1)), .p (AV.b8 (lrd b0_0 2)), .i ((lrd b0_0 2).toNat : Int), .i (ior (ishl ((lrd b0_0 1).toNat : Int) 8) ((lrd b0_0 2).toNat : Int)), .i ((lrd b0_0 0).toNat : Int)] : List TV).getD k TV.any) (fun k => g_wire_Told_r12.getD k []) [(0, none), (2, none), (4, none), (6, some 14), (42, none), (43, none), (62, some 13)] [] (fun k => g_wire_Told_r12c.getD k []) mixed (by kernel_rfl) rfl rfl (a_op (g_x rfl (x_p rfl (p_move rfl rfl) rfl)) (a_op (g_x rfl (x_p rfl (u_ixl rfl rfl Tryd.underlying33 in_5 rfl rfl rfl h11 (lne h11)) rfl)) (a_op (g_x rfl (x_p rfl (u_ld rfl rfl Tryd.underlying5 rfl rfl (Sub.map default h11)) rfl)) (a_op (g_x rfl (x_p rfl (p_ci rfl Tryd.underlying5 Tryd.underlying3 rfl (wrapu8i (lrd b0_0 0))) rfl)) (a_op (g_x rfl (x_p rfl (p_move rfl rfl) rfl)) (a_op (g_x rfl (x_p rfl (u_ixl rfl rfl Tryd.underlying33 in_5 rfl rfl rfl h12 (lne h12)) rfl)) (a_op (g_x rfl (x_p rfl (u_ld rfl rfl Tryd.underlying5 rfl rfl (Sub.map default h12)) rfl)) (a_op (g_x rfl (x_p rfl (p_ci rfl Tryd.underlying5 Tryd.underlying3 rfl (wrapu8i (lrd b0_0 1))) rfl)) (a_op (g_x rfl (x_p rfl (p_ishl (n := 8) rfl rfl rfl rfl) rfl)) (a_op (g_x rfl (x_p rfl (p_move rfl rfl) rfl)) (a_op (g_x rfl (x_p rfl (u_ixl rfl rfl Tryd.underlying33 in_5 rfl rfl rfl h13 (lne h13)) rfl)) (a_op (g_x rfl (x_p rfl (u_ld rfl rfl Tryd.underlying5 rfl rfl (Sub.map default h13)) rfl)) (a_op (g_x rfl (x_p rfl (p_ci rfl Tryd.underlying5 Tryd.underlying3 rfl (wrapu8i (lrd b0_0 2))) rfl)) (a_op (g_x rfl (x_p rfl (p_bin rfl rfl rfl rfl) rfl)) (a_op (g_x rfl (x_p rfl (p_asg rfl rfl) rfl)) (a_nil)))))))))))))))) ?_
       refine t_op rfl rfl (PureD.opD (p_asg rfl rfl)) ?_
       refine t_gho (Gho_st (L := [(0, .y b0_0), (2, .q 2 (0)), (4, .q 4 (0)), (6, .i ((lrd b0_0 0).toNat : Int)), (7, .i (ior (ishl ((lrd b0_0 1).toNat : Int) 8) ((lrd b0_0 2).toNat : Int))), (42, .i ((lrd b0 2).toNat : Int)), (43, .i t43_0)]) (H := [(2, .pure (GReply.cs GReply.zero)), (4, .mix [.p ((AV.int ((lrd b0 0).toNat : Int))), .p ((AV.int ((lrd b0 1).toNat : Int))), .own 1000 t1000_0.length 1]), (1000, .pure (t1000_0.map (fun q : List GValue => AV.lst (q.flatMap GValue.cs) q.length)))]) (N := 97) rfl ⟨TLes.same _, TLes.same _, TLes.same _, TLes.same _, TLes.same _, TLes.same _, TLes.same _, trivial⟩ ⟨rfl, rfl, rfl, trivial⟩) ?_
       refine sg [0, 1, 2] rfl ?_
       refine rp rfl rfl (p_move rfl rfl) ?_
       refine chkK H fun h14 H => ?_
       refine rp rfl rfl (u_cutl (g := (fun l => bcells l)) (a := (3 : Int)) (b := (b0_0.length : Int)) rfl rfl Tryd.underlying33 in_5 rfl (bT_i (show 0 ≤ (3 : Int) ∧ (3 : Int) ≤ (b0_0.length : Int) ∧ (b0_0.length : Int) ≤ (b0_0.length : Int) from ⟨h14.1, h14.2, Int.le_refl _⟩).1 rfl) (bT_len _) (.inl rfl) (show 0 ≤ (3 : Int) ∧ (3 : Int) ≤ (b0_0.length : Int) ∧ (b0_0.length : Int) ≤ (b0_0.length : Int) from ⟨h14.1, h14.2, Int.le_refl _⟩) (g_bytes)) ?_
       refine rp rfl rfl (p_asg rfl rfl) ?_
       refine rz [(0, .y (cut b0_0 (3 : Int) (b0_0.length : Int))), (2, .q 2 (0)), (4, .q 4 (0)), (6, .i ((lrd b0_0 0).toNat : Int)), (7, .i (ior (ishl ((lrd b0_0 1).toNat : Int) 8) ((lrd b0_0 2).toNat : Int))), (42, .i ((lrd b0 2).toNat : Int)), (43, .i t43_0)] [(2, .pure (GReply.cs GReply.zero)), (4, .mix [.p ((AV.int ((lrd b0 0).toNat : Int))), .p ((AV.int ((lrd b0 1).toNat : Int))), .own 1000 t1000_0.length 1]), (1000, .pure (t1000_0.map (fun q : List GValue => AV.lst (q.flatMap GValue.cs) q.length)))] rfl rfl rfl ?_
       refine AW2_seq ?_
       refine sg [0, 1, 2, 3] rfl ?_
       refine rp rfl rfl (p_move rfl rfl) ?_
       refine rp rfl rfl (p_lenl rfl Tryd.underlying33 rfl rfl) ?_
       refine rp rfl rfl (p_move rfl rfl) ?_
       refine rp rfl rfl (p_bin rfl rfl rfl rfl) ?_
       refine rz [(0, .y (cut b0_0 (3 : Int) (b0_0.length : Int))), (2, .q 2 (0)), (4, .q 4 (0)), (6, .i ((lrd b0_0 0).toNat : Int)), (7, .i (ior (ishl ((lrd b0_0 1).toNat : Int) 8) ((lrd b0_0 2).toNat : Int))), (42, .i ((lrd b0 2).toNat : Int)), (43, .i t43_0), (68, .b (decide (((cut b0_0 (3 : Int) (b0_0.length : Int)).length : Int) < ior (ishl ((lrd b0_0 1).toNat : Int) 8) ((lrd b0_0 2).toNat : Int))))] [(2, .pure (GReply.cs GReply.zero)), (4, .mix [.p ((AV.int ((lrd b0 0).toNat : Int))), .p ((AV.int ((lrd b0 1).toNat : Int))), .own 1000 t1000_0.length 1]), (1000, .pure (t1000_0.map (fun q : List GValue => AV.lst (q.flatMap GValue.cs) q.length)))] rfl rfl rfl ?_
       refine AW2_if (p := ((cut b0_0 (3 : Int) (b0_0.length : Int)).length : Int) < ior (ishl ((lrd b0_0 1).toNat : Int) 8) ((lrd b0_0 2).toNat : Int)) rfl (fun h15 => ?_) (fun h15 => ?_)
       ·replace H := ite_then h15 H
        refine sg [0, 1, 2] rfl ?_
        refine rp rfl rfl (u_bld rfl in_44 one_44 zc_44 pl_44 rfl rfl) ?_
        refine r_op rfl rfl (u_st rfl rfl rfl rfl rfl in_44 (GReply.len GReply.zero) (ne_of_lt (n := 0) (Nat.lt_of_lt_of_eq (by decide) (Eq.symm (GReply.len GReply.zero)))) (Upd.refl ((GReply.len GReply.zero).trans (GReply.len GReply.zero).symm))) ?_
        refine rp rfl rfl (p_asg rfl rfl) ?_
        refine rz [(2, .q 2 (0)), (3, .i (4 : Int))] [(2, .pure (GReply.cs GReply.zero))] rfl rfl rfl ?_
        refine AW2_ret ?_
        have hz := some_elim H
        subst hz
        exact ⟨rfl, ⟨res_cella Tryd.underlying44 rfl in_44.sz rfl (Sub.le (Sub.refl _) (GReply.len GReply.zero)) (by decide) (Sub.take (Sub.refl _) (GReply.len GReply.zero)), res_tmp (.same _), trivial⟩, trivial⟩
       ·replace H := ite_else h15 H
        refine as2 [(0, .y (cut b0_0 (3 : Int) (b0_0.length : Int))), (2, .q 2 (0)), (4, .q 4 (0)), (6, .i ((lrd b0_0 0).toNat : Int)), (7, .i (ior (ishl ((lrd b0_0 1).toNat : Int) 8) ((lrd b0_0 2).toNat : Int))), (42, .i ((lrd b0 2).toNat : Int)), (43, .i t43_0)] [(2, .pure (GReply.cs GReply.zero)), (4, .mix [.p ((AV.int ((lrd b0 0).toNat : Int))), .p ((AV.int ((lrd b0 1).toNat : Int))), .own 1000 t1000_0.length 1]), (1000, .pure (t1000_0.map (fun q : List GValue => AV.lst (q.flatMap GValue.cs) q.length)))] rfl rfl rfl ?_
        refine AW2_skip ?_
        refine sg [0, 1, 2, 3, 4, 5, 6, 7, 8, 9] rfl ?_
        refine rp rfl rfl (p_move rfl rfl) ?_
        refine rp rfl rfl (p_move rfl rfl) ?_
        refine chkK H fun h16 H => ?_
        refine rp rfl rfl (u_cutl (g := (fun l => bcells l)) (a := (0 : Int)) (b := ior (ishl ((lrd b0_0 1).toNat : Int) 8) ((lrd b0_0 2).toNat : Int)) rfl rfl Tryd.underlying33 in_5 rfl bT_zero (bT_i (Int.le_trans (show 0 ≤ (0 : Int) ∧ (0 : Int) ≤ ior (ishl ((lrd b0_0 1).toNat : Int) 8) ((lrd b0_0 2).toNat : Int) ∧ ior (ishl ((lrd b0_0 1).toNat : Int) 8) ((lrd b0_0 2).toNat : Int) ≤ ((cut b0_0 (3 : Int) (b0_0.length : Int)).length : Int) from ⟨Int.le_refl _, h16.1, h16.2⟩).1 (show 0 ≤ (0 : Int) ∧ (0 : Int) ≤ ior (ishl ((lrd b0_0 1).toNat : Int) 8) ((lrd b0_0 2).toNat : Int) ∧ ior (ishl ((lrd b0_0 1).toNat : Int) 8) ((lrd b0_0 2).toNat : Int) ≤ ((cut b0_0 (3 : Int) (b0_0.length : Int)).length : Int) from ⟨Int.le_refl _, h16.1, h16.2⟩).2.1) rfl) (.inl rfl) (show 0 ≤ (0 : Int) ∧ (0 : Int) ≤ ior (ishl ((lrd b0_0 1).toNat : Int) 8) ((lrd b0_0 2).toNat : Int) ∧ ior (ishl ((lrd b0_0 1).toNat : Int) 8) ((lrd b0_0 2).toNat : Int) ≤ ((cut b0_0 (3 : Int) (b0_0.length : Int)).length : Int) from ⟨Int.le_refl _, h16.1, h16.2⟩) (g_bytes)) ?_
        refine rp rfl rfl (p_move rfl rfl) ?_
        refine bindK H fun r'1 h17 H => ?_
        refine rp rfl rfl (p_callp rfl rfl rfl Tryd.func24 rfl rfl (g_code_Decode_ac h17) ⟨rfl, rfl, rfl, trivial⟩) ?_
        refine rp rfl rfl (p_move rfl rfl) ?_
        refine rp rfl rfl (p_ext rfl rfl rfl rfl) ?_
        refine rp rfl rfl (p_ext rfl rfl rfl rfl) ?_
        refine rp rfl rfl (p_asg rfl rfl) ?_
        refine rp rfl rfl (p_asg rfl rfl) ?_
        refine rz [(0, .y (cut b0_0 (3 : Int) (b0_0.length : Int))), (2, .q 2 (0)), (4, .q 4 (0)), (7, .i (ior (ishl ((lrd b0_0 1).toNat : Int) 8) ((lrd b0_0 2).toNat : Int))), (8, .p ((fun q : List GValue => AV.lst (q.flatMap GValue.cs) q.length) r'1.1)), (9, .i r'1.2), (42, .i ((lrd b0 2).toNat : Int)), (43, .i t43_0)] [(2, .pure (GReply.cs GReply.zero)), (4, .mix [.p ((AV.int ((lrd b0 0).toNat : Int))), .p ((AV.int ((lrd b0 1).toNat : Int))), .own 1000 t1000_0.length 1]), (1000, .pure (t1000_0.map (fun q : List GValue => AV.lst (q.flatMap GValue.cs) q.length)))] rfl rfl rfl ?_
        refine AW2_seq ?_
        refine sg [0, 1] rfl ?_
        refine rp rfl rfl (p_move rfl rfl) ?_
        refine rp rfl rfl (p_ine rfl rfl rfl) ?_
        refine rz [(0, .y (cut b0_0 (3 : Int) (b0_0.length : Int))), (2, .q 2 (0)), (4, .q 4 (0)), (7, .i (ior (ishl ((lrd b0_0 1).toNat : Int) 8) ((lrd b0_0 2).toNat : Int))), (8, .p ((fun q : List GValue => AV.lst (q.flatMap GValue.cs) q.length) r'1.1)), (9, .i r'1.2), (42, .i ((lrd b0 2).toNat : Int)), (43, .i t43_0), (79, .b (decide (r'1.2 ≠ (0 : Int))))] [(2, .pure (GReply.cs GReply.zero)), (4, .mix [.p ((AV.int ((lrd b0 0).toNat : Int))), .p ((AV.int ((lrd b0 1).toNat : Int))), .own 1000 t1000_0.length 1]), (1000, .pure (t1000_0.map (fun q : List GValue => AV.lst (q.flatMap GValue.cs) q.length)))] rfl rfl rfl ?_
        refine AW2_if (p := r'1.2 ≠ (0 : Int)) rfl (fun h18 => ?_) (fun h18 => ?_)
        ·replace H := ite_then h18 H
         refine sg [0, 1, 2, 3] rfl ?_
         refine rp rfl rfl (u_bld rfl in_44 one_44 zc_44 pl_44 rfl rfl) ?_
         refine rp rfl rfl (p_move rfl rfl) ?_
         refine r_op rfl rfl (u_st rfl rfl rfl rfl rfl in_44 (GReply.len GReply.zero) (ne_of_lt (n := 0) (Nat.lt_of_lt_of_eq (by decide) (Eq.symm (GReply.len GReply.zero)))) (Upd.refl ((GReply.len GReply.zero).trans (GReply.len GReply.zero).symm))) ?_
         refine rp rfl rfl (p_asg rfl rfl) ?_
         refine rz [(2, .q 2 (0)), (3, .i r'1.2)] [(2, .pure (GReply.cs GReply.zero))] rfl rfl rfl ?_
         refine AW2_ret ?_
         have hz := some_elim H
         subst hz
         exact ⟨rfl, ⟨res_cella Tryd.underlying44 rfl in_44.sz rfl (Sub.le (Sub.refl _) (GReply.len GReply.zero)) (by decide) (Sub.take (Sub.refl _) (GReply.len GReply.zero)), res_tmp (.same _), trivial⟩, trivial⟩
        ·replace H := ite_else h18 H
         refine as2 [(0, .y (cut b0_0 (3 : Int) (b0_0.length : Int))), (2, .q 2 (0)), (4, .q 4 (0)), (7, .i (ior (ishl ((lrd b0_0 1).toNat : Int) 8) ((lrd b0_0 2).toNat : Int))), (8, .p ((fun q : List GValue => AV.lst (q.flatMap GValue.cs) q.length) r'1.1)), (42, .i ((lrd b0 2).toNat : Int)), (43, .i t43_0)] [(2, .pure (GReply.cs GReply.zero)), (4, .mix [.p ((AV.int ((lrd b0 0).toNat : Int))), .p ((AV.int ((lrd b0 1).toNat : Int))), .own 1000 t1000_0.length 1]), (1000, .pure (t1000_0.map (fun q : List GValue => AV.lst (q.flatMap GValue.cs) q.length)))] rfl rfl rfl ?_
         refine AW2_skip ?_
         refine sg [0, 1, 2, 3, 4, 5, 6] rfl ?_
         refine rp rfl rfl (p_fa rfl rfl Tryd.underlying44 rfl (in_42).sz (Nat.succ_ne_zero _) rfl rfl (fun _ => List.cons_ne_nil _ _)) ?_
         refine rp rfl rfl (p_ldm rfl rfl Tryd.underlying42 rfl rfl rfl rfl) ?_
         refine rp rfl rfl (p_move rfl rfl) ?_
         refine r_op rfl rfl (MakeD.opD (u_bs 85 rfl Tryd.underlying42 in_32 rfl one_32 (by decide) (by decide) rfl rfl rfl) rfl rfl rfl rfl) ?_
         refine RunW_st [(0, .y (cut b0_0 (3 : Int) (b0_0.length : Int))), (2, .q 2 (0)), (4, .q 4 (0)), (7, .i (ior (ishl ((lrd b0_0 1).toNat : Int) 8) ((lrd b0_0 2).toNat : Int))), (8, .p ((fun q : List GValue => AV.lst (q.flatMap GValue.cs) q.length) r'1.1)), (42, .i ((lrd b0 2).toNat : Int)), (43, .i t43_0), (82, .q 4 (0 + 2)), (83, .c (.own 1000 t1000_0.length 1)), (84, .p ((fun q : List GValue => AV.lst (q.flatMap GValue.cs) q.length) r'1.1)), (85, .c (.own 85 ([r'1.1] : List (List GValue)).length 1))] [(2, .pure (GReply.cs GReply.zero)), (4, .mix [.p ((AV.int ((lrd b0 0).toNat : Int))), .p ((AV.int ((lrd b0 1).toNat : Int))), .own 1000 t1000_0.length 1]), (85, .pure (([r'1.1] : List (List GValue)).map (fun q : List GValue => AV.lst (q.flatMap GValue.cs) q.length))), (1000, .pure (t1000_0.map (fun q : List GValue => AV.lst (q.flatMap GValue.cs) q.length)))] rfl ⟨TLes.same _, TLes.same _, TLes.same _, TLes.same _, TLes.same _, TLes.same _, TLes.same _, TLes.same _, TLes.same _, TLes.same _, TLes.own rfl, trivial⟩ ⟨rfl, rfl, rfl, rfl, trivial⟩ ?_
         refine RunW_gho (Gho_blk (b := 4) (k := .mix [.p ((AV.int ((lrd b0 0).toNat : Int))), .p ((AV.int ((lrd b0 1).toNat : Int))), .own 1000 t1000_0.length 1]) (k' := .mix [.p ((AV.int ((lrd b0 0).toNat : Int))), .p ((AV.int ((lrd b0 1).toNat : Int))), .p .any]) rfl (AnyL.cles ⟨(.inl rfl), (.inl rfl), (.inr rfl), trivial⟩)) ?_
         refine rs [(0, .y (cut b0_0 (3 : Int) (b0_0.length : Int))), (2, .q 2 (0)), (4, .q 4 (0)), (7, .i (ior (ishl ((lrd b0_0 1).toNat : Int) 8) ((lrd b0_0 2).toNat : Int))), (8, .p ((fun q : List GValue => AV.lst (q.flatMap GValue.cs) q.length) r'1.1)), (42, .i ((lrd b0 2).toNat : Int)), (43, .i t43_0), (82, .q 4 (0 + 2)), (83, .c (.own 1000 t1000_0.length 1)), (84, .p ((fun q : List GValue => AV.lst (q.flatMap GValue.cs) q.length) r'1.1)), (85, .c (.own 85 ([r'1.1] : List (List GValue)).length 1))] [(2, .pure (GReply.cs GReply.zero)), (4, .mix [.p ((AV.int ((lrd b0 0).toNat : Int))), .p ((AV.int ((lrd b0 1).toNat : Int))), .p .any]), (85, .pure (([r'1.1] : List (List GValue)).map (fun q : List GValue => AV.lst (q.flatMap GValue.cs) q.length))), (1000, .pure (t1000_0.map (fun q : List GValue => AV.lst (q.flatMap GValue.cs) q.length)))] rfl rfl rfl ?_
         refine chkK H fun h19 H => ?_
         refine r_op rfl rfl (u_app [83] rfl rfl rfl rfl Tryd.underlying42 Tryd.underlying42 in_32 rfl rfl rfl (ml (fun q : List GValue => AV.lst (q.flatMap GValue.cs) q.length) t1000_0) (by decide) (srcT_o rfl rfl (ml (fun q : List GValue => AV.lst (q.flatMap GValue.cs) q.length) ([r'1.1] : List (List GValue))) (by decide)) (ml (fun q : List GValue => AV.lst (q.flatMap GValue.cs) q.length) ([r'1.1] : List (List GValue))) h19 (by decide) rfl rfl (mapp (fun q : List GValue => AV.lst (q.flatMap GValue.cs) q.length) t1000_0 ([r'1.1] : List (List GValue))) (lapp t1000_0 ([r'1.1] : List (List GValue)))) ?_
         refine rp rfl rfl (p_fa rfl rfl Tryd.underlying44 rfl (in_42).sz (Nat.succ_ne_zero _) rfl rfl (fun _ => List.cons_ne_nil _ _)) ?_
         refine r_op rfl rfl (d_stm (o := [.p ((AV.int ((lrd b0 0).toNat : Int))), .p ((AV.int ((lrd b0 1).toNat : Int))), .p .any]) (xs := [.own 1000 (t1000_0 ++ ([r'1.1] : List (List GValue))).length 1]) (o' := [.p ((AV.int ((lrd b0 0).toNat : Int))), .p ((AV.int ((lrd b0 1).toNat : Int))), .own 1000 (t1000_0 ++ ([r'1.1] : List (List GValue))).length 1]) rfl rfl rfl rfl (fun _ => rfl) rfl (in_42).sz (Nat.le_of_ble_eq_true rfl) (List.cons_ne_nil _ _) (fun _ => rfl)) ?_
         refine rz [(0, .y (cut b0_0 (3 : Int) (b0_0.length : Int))), (2, .q 2 (0)), (4, .q 4 (0)), (7, .i (ior (ishl ((lrd b0_0 1).toNat : Int) 8) ((lrd b0_0 2).toNat : Int))), (42, .i ((lrd b0 2).toNat : Int)), (43, .i t43_0)] [(2, .pure (GReply.cs GReply.zero)), (4, .mix [.p ((AV.int ((lrd b0 0).toNat : Int))), .p ((AV.int ((lrd b0 1).toNat : Int))), .own 1000 (t1000_0 ++ ([r'1.1] : List (List GValue))).length 1]), (1000, .pure ((t1000_0 ++ ([r'1.1] : List (List GValue))).map (fun q : List GValue => AV.lst (q.flatMap GValue.cs) q.length)))] rfl rfl rfl ?_
         refine AW2_reg [0, 1, 2, 3] rfl ?_
         refine rp rfl rfl (p_move rfl rfl) ?_
         refine rp rfl rfl (p_move rfl rfl) ?_
         refine chkK H fun h20 H => ?_
         refine rp rfl rfl (u_cutl (g := (fun l => bcells l)) (a := ior (ishl ((lrd b0_0 1).toNat : Int) 8) ((lrd b0_0 2).toNat : Int)) (b := ((cut b0_0 (3 : Int) (b0_0.length : Int)).length : Int)) rfl rfl Tryd.underlying33 in_5 rfl (bT_i (show 0 ≤ ior (ishl ((lrd b0_0 1).toNat : Int) 8) ((lrd b0_0 2).toNat : Int) ∧ ior (ishl ((lrd b0_0 1).toNat : Int) 8) ((lrd b0_0 2).toNat : Int) ≤ ((cut b0_0 (3 : Int) (b0_0.length : Int)).length : Int) ∧ ((cut b0_0 (3 : Int) (b0_0.length : Int)).length : Int) ≤ ((cut b0_0 (3 : Int) (b0_0.length : Int)).length : Int) from ⟨h20.1, h20.2, Int.le_refl _⟩).1 rfl) (bT_len _) (.inl rfl) (show 0 ≤ ior (ishl ((lrd b0_0 1).toNat : Int) 8) ((lrd b0_0 2).toNat : Int) ∧ ior (ishl ((lrd b0_0 1).toNat : Int) 8) ((lrd b0_0 2).toNat : Int) ≤ ((cut b0_0 (3 : Int) (b0_0.length : Int)).length : Int) ∧ ((cut b0_0 (3 : Int) (b0_0.length : Int)).length : Int) ≤ ((cut b0_0 (3 : Int) (b0_0.length : Int)).length : Int) from ⟨h20.1, h20.2, Int.le_refl _⟩) (g_bytes)) ?_
         refine rp rfl rfl (p_asg rfl rfl) ?_
         refine rz [(0, .y (cut (cut b0_0 (3 : Int) (b0_0.length : Int)) (ior (ishl ((lrd b0_0 1).toNat : Int) 8) ((lrd b0_0 2).toNat : Int)) ((cut b0_0 (3 : Int) (b0_0.length : Int)).length : Int))), (2, .q 2 (0)), (4, .q 4 (0)), (42, .i ((lrd b0 2).toNat : Int)), (43, .i t43_0)] [(2, .pure (GReply.cs GReply.zero)), (4, .mix [.p ((AV.int ((lrd b0 0).toNat : Int))), .p ((AV.int ((lrd b0 1).toNat : Int))), .own 1000 (t1000_0 ++ ([r'1.1] : List (List GValue))).length 1]), (1000, .pure ((t1000_0 ++ ([r'1.1] : List (List GValue))).map (fun q : List GValue => AV.lst (q.flatMap GValue.cs) q.length)))] rfl rfl rfl ?_
         refine gen1 (fun b0'2 => (⟨[(0, .y b0'2), (2, .q 2 (0)), (4, .q 4 (0)), (42, .i ((lrd b0 2).toNat : Int)), (43, .i t43_0)], [(2, .pure (GReply.cs GReply.zero)), (4, .mix [.p ((AV.int ((lrd b0 0).toNat : Int))), .p ((AV.int ((lrd b0 1).toNat : Int))), .own 1000 (t1000_0 ++ ([r'1.1] : List (List GValue))).length 1]), (1000, .pure ((t1000_0 ++ ([r'1.1] : List (List GValue))).map (fun q : List GValue => AV.lst (q.flatMap GValue.cs) q.length)))], 97⟩ : TS)) H ?_
         intro b0'2 H
         refine AW2_reg [0, 1] rfl ?_
         refine rp rfl rfl (p_bin rfl rfl rfl rfl) ?_
         refine rp rfl rfl (p_move rfl rfl) ?_
         refine rz [(0, .y b0'2), (2, .q 2 (0)), (4, .q 4 (0)), (42, .i ((lrd b0 2).toNat : Int)), (43, .i (w64 (t43_0 + (1 : Int))))] [(2, .pure (GReply.cs GReply.zero)), (4, .mix [.p ((AV.int ((lrd b0 0).toNat : Int))), .p ((AV.int ((lrd b0 1).toNat : Int))), .own 1000 (t1000_0 ++ ([r'1.1] : List (List GValue))).length 1]), (1000, .pure ((t1000_0 ++ ([r'1.1] : List (List GValue))).map (fun q : List GValue => AV.lst (q.flatMap GValue.cs) q.length)))] rfl rfl rfl ?_
         have hz := some_elim H
         subst hz
         exact ⟨rfl, rfl⟩
     ·replace H := ite_else h9 H
      refine as2 [(0, .y b0_0), (2, .q 2 (0)), (4, .q 4 (0))] [(2, .pure (GReply.cs GReply.zero)), (4, .mix [.p ((AV.int ((lrd b0 0).toNat : Int))), .p ((AV.int ((lrd b0 1).toNat : Int))), .own 1000 t1000_0.length 1]), (1000, .pure (t1000_0.map (fun q : List GValue => AV.lst (q.flatMap GValue.cs) q.length)))] rfl rfl rfl ?_
      refine AW2_exit ?_
      refine thenQ2_exit ?_
      have hz := some_elim H
      subst hz
      exact ⟨rfl, rfl⟩
    ·rcases o'6 with y'7 | y'8
     ·obtain ⟨rfl, hs⟩ := hs
      refine ⟨by simp, ?_⟩
      have hz := some_elim H
      subst hz
      exact ⟨hs.1, hs.2⟩
     ·obtain ⟨rfl, rfl⟩ := hs
      refine ⟨by simp, ?_⟩
      refine blockQ2_exit ?_
      refine AW2_seq ?_
      refine sg [0, 1, 2] rfl ?_
      refine rp rfl rfl (p_move rfl rfl) ?_
      refine rp rfl rfl (p_lenl rfl Tryd.underlying33 rfl rfl) ?_
      refine rp rfl rfl (p_bin rfl rfl rfl rfl) ?_
      refine rz [(2, .q 2 (0)), (4, .q 4 (0)), (94, .b (decide ((y'8.1.length : Int) > (0 : Int))))] [(2, .pure (GReply.cs GReply.zero)), (4, .mix [.p ((AV.int ((lrd b0 0).toNat : Int))), .p ((AV.int ((lrd b0 1).toNat : Int))), .own 1000 y'8.2.length 1]), (1000, .pure (y'8.2.map (fun q : List GValue => AV.lst (q.flatMap GValue.cs) q.length)))] rfl rfl rfl ?_
      refine AW2_if (p := (y'8.1.length : Int) > (0 : Int)) rfl (fun h22 => ?_) (fun h22 => ?_)
      ·replace H := ite_then h22 H
       refine sg [0, 1, 2] rfl ?_
       refine rp rfl rfl (u_bld rfl in_44 one_44 zc_44 pl_44 rfl rfl) ?_
       refine r_op rfl rfl (u_st rfl rfl rfl rfl rfl in_44 (GReply.len GReply.zero) (ne_of_lt (n := 0) (Nat.lt_of_lt_of_eq (by decide) (Eq.symm (GReply.len GReply.zero)))) (Upd.refl ((GReply.len GReply.zero).trans (GReply.len GReply.zero).symm))) ?_
       refine rp rfl rfl (p_asg rfl rfl) ?_
       refine rz [(2, .q 2 (0)), (3, .i (3 : Int))] [(2, .pure (GReply.cs GReply.zero))] rfl rfl rfl ?_
       refine AW2_ret ?_
       have hz := some_elim H
       subst hz
       exact ⟨⟨res_cella Tryd.underlying44 rfl in_44.sz rfl (Sub.le (Sub.refl _) (GReply.len GReply.zero)) (by decide) (Sub.take (Sub.refl _) (GReply.len GReply.zero)), res_tmp (.same _), trivial⟩, trivial⟩
      ·replace H := ite_else h22 H
       refine as2 [(2, .q 2 (0)), (4, .q 4 (0))] [(2, .pure (GReply.cs GReply.zero)), (4, .mix [.p ((AV.int ((lrd b0 0).toNat : Int))), .p ((AV.int ((lrd b0 1).toNat : Int))), .own 1000 y'8.2.length 1]), (1000, .pure (y'8.2.map (fun q : List GValue => AV.lst (q.flatMap GValue.cs) q.length)))] rfl rfl rfl ?_
       refine AW2_skip ?_
       refine sg [0, 1, 2] rfl ?_
       refine rp rfl rfl (p_ldam rfl rfl Tryd.underlying44 rfl (in_44).sz rfl rfl (Nat.le_of_ble_eq_true rfl) (Nat.succ_pos _) rfl) ?_
       refine rs [(2, .q 2 (0)), (96, .agg [.p ((AV.int ((lrd b0 0).toNat : Int))), .p ((AV.int ((lrd b0 1).toNat : Int))), .own 1000 y'8.2.length 1])] [(2, .pure (GReply.cs GReply.zero)), (1000, .pure (y'8.2.map (fun q : List GValue => AV.lst (q.flatMap GValue.cs) q.length)))] rfl rfl rfl ?_
       refine RunW_gho (Gho_puba (b := 1000) [(96, .agg [.p ((AV.int ((lrd b0 0).toNat : Int))), .p ((AV.int ((lrd b0 1).toNat : Int))), .p (((fun q : List (List GValue) => AV.lst (q.map (fun q : List GValue => AV.lst (q.flatMap GValue.cs) q.length)) q.length) y'8.2))])] ⟨⟨(.inl rfl), (.inl rfl), (.inr (.inl ⟨rfl, rfl⟩)), trivial⟩, trivial⟩ rfl (ml (fun q : List GValue => AV.lst (q.flatMap GValue.cs) q.length) y'8.2) (by decide)) ?_
       refine RunW_st [(2, .q 2 (0)), (96, .g (GReply.cs ({ Error := ((lrd b0 0).toNat : Int), Count := ((lrd b0 1).toNat : Int), Rows := y'8.2 } : GReply)))] [(2, .pure (GReply.cs GReply.zero))] rfl ⟨TLes.same _, (fun _ => .same _), trivial⟩ ⟨rfl, trivial⟩ ?_
       refine r_op rfl rfl (u_st rfl rfl rfl rfl rfl in_44 (GReply.len ({ Error := ((lrd b0 0).toNat : Int), Count := ((lrd b0 1).toNat : Int), Rows := y'8.2 } : GReply)) (ne_of_lt (n := 0) (Nat.lt_of_lt_of_eq (by decide) (Eq.symm (GReply.len GReply.zero)))) (Upd.refl ((GReply.len ({ Error := ((lrd b0 0).toNat : Int), Count := ((lrd b0 1).toNat : Int), Rows := y'8.2 } : GReply)).trans (GReply.len GReply.zero).symm))) ?_
       refine rp rfl rfl (p_asg rfl rfl) ?_
       refine rz [(2, .q 2 (0)), (3, .i (0 : Int))] [(2, .pure (GReply.cs ({ Error := ((lrd b0 0).toNat : Int), Count := ((lrd b0 1).toNat : Int), Rows := y'8.2 } : GReply)))] rfl rfl rfl ?_
       refine gen1 (fun t2'9 => (⟨[(2, .q 2 (0)), (3, .i (0 : Int))], [(2, .pure (GReply.cs t2'9))], 97⟩ : TS)) H ?_
       intro t2'9 H
       refine AW2_ret ?_
       have hz := some_elim H
       subst hz
       exact ⟨⟨res_cella Tryd.underlying44 rfl in_44.sz rfl (Sub.le (Sub.refl _) (GReply.len t2'9)) (by decide) (Sub.take (Sub.refl _) (GReply.len t2'9)), res_tmp (.same _), trivial⟩, trivial⟩
end Go.Proofs.YtfekkhinjdmcbaaDoor.VM
