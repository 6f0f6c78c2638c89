/- Functions of the program, as they answer, and that their code comes to these answers. -/
import Derived.Test.YtcahembojhmpbaaDoorKm1
namespace Go.Proofs.YtcahembojhmpbaaDoor.VM
open Go Go.RowKit

structure Gkinds_sort where
  kind_ : Int
  null_ : Bool
deriving DecidableEq, Inhabited
def Gkinds_sort.zero : Gkinds_sort := ⟨(0 : Int), false⟩
def Gkinds_sort.cs (x : Gkinds_sort) : List AV := ([(AV.int x.kind_)]) ++ ([(AV.bool x.null_)])
theorem Gkinds_sort.len (x : Gkinds_sort) : (Gkinds_sort.cs x).length = 2 := by
  simp only [Gkinds_sort.cs, List.length_append]
  rw [show ([(AV.int x.kind_)]).length = 1 from (show ([(AV.int x.kind_)]).length = 1 from rfl), show ([(AV.bool x.null_)]).length = 1 from (show ([(AV.bool x.null_)]).length = 1 from rfl)]
theorem Gkinds_sort.sub0 (x : Gkinds_sort) : Sub (Gkinds_sort.cs x) 0 ([(AV.int x.kind_)]) := Sub.head _ _
abbrev Gkinds_sort.w0 (x : Gkinds_sort) (y : Int) : Gkinds_sort := { x with kind_ := y }
theorem Gkinds_sort.upd0 (x : Gkinds_sort) (y : Int) : Upd (Gkinds_sort.cs x) 0 ([(AV.int y)]) (Gkinds_sort.cs { x with kind_ := y }) := Upd.head (show ([(AV.int y)]).length = ([(AV.int x.kind_)]).length from rfl)
theorem Gkinds_sort.sub1 (x : Gkinds_sort) : Sub (Gkinds_sort.cs x) 1 ([(AV.bool x.null_)]) := Sub.skip (k := 1) (show ([(AV.int x.kind_)]).length = 1 from rfl) (Sub.refl _)
abbrev Gkinds_sort.w1 (x : Gkinds_sort) (y : Bool) : Gkinds_sort := { x with null_ := y }
theorem Gkinds_sort.upd1 (x : Gkinds_sort) (y : Bool) : Upd (Gkinds_sort.cs x) 1 ([(AV.bool y)]) (Gkinds_sort.cs { x with null_ := y }) := Upd.skip (k := 1) (show ([(AV.int x.kind_)]).length = 1 from rfl) (Upd.refl (show ([(AV.bool y)]).length = ([(AV.bool x.null_)]).length from rfl))
theorem Gkinds_sort.nl (x : Gkinds_sort) : (Gkinds_sort.cs x).all noLst1 = true := nlA rfl (rfl)
theorem in_54 : Info Tryd.prog 54 2 16 (.agg #[.int .i64 0, .bool false]) := by unfold Info; kernel_rfl
theorem one_54 : (.agg #[.int .i64 0, .bool false] : Value).cells.all (·.oneCell') = true := by kernel_rfl
theorem zc_54 : ((.agg #[.int .i64 0, .bool false] : Value).cells.toList.map zcell) = Gkinds_sort.cs Gkinds_sort.zero := by rfl
theorem pl_54 : placesOf Tryd.prog 54 = some [(0, 1), (1, 1)] := by kernel_rfl
theorem in_4 : Info Tryd.prog 4 1 1 (.bool false) := by unfold Info; kernel_rfl
theorem one_4 : (.bool false : Value).cells.all (·.oneCell') = true := by kernel_rfl
theorem zc_4 : ((.bool false : Value).cells.toList.map zcell) = [(AV.bool false)] := by rfl
theorem in_83 : Info Tryd.prog 83 4 32 (.agg #[.int .i64 0, .bool false, .int .i64 0, .bool false]) := by unfold Info; kernel_rfl
theorem one_83 : (.agg #[.int .i64 0, .bool false, .int .i64 0, .bool false] : Value).cells.all (·.oneCell') = true := by kernel_rfl
theorem zc_83 : ((.agg #[.int .i64 0, .bool false, .int .i64 0, .bool false] : Value).cells.toList.map zcell) = ((Vector.replicate 2 Gkinds_sort.zero).toList).flatMap Gkinds_sort.cs := by rfl

/-! kinds.sort).fits -/
noncomputable def g_kinds_sort_fits (s0 : Gkinds_sort) (kind1 : Int) : Option (Bool) :=
  some (decide ((s0.kind_ = kind1) ∨ (s0.kind_ = (0 : Int))))
set_option maxHeartbeats 4000000 in
set_option maxRecDepth 100000 in
theorem g_kinds_sort_fits_ac {s0 : Gkinds_sort} {kind1 : Int} {r : Bool} (H : g_kinds_sort_fits s0 kind1 = some r) : ACp Tryd.prog 70 [(.agg (Gkinds_sort.cs s0)), (AV.int kind1)] (AV.bool r) := by
 refine ACp_of (AC2_of_body (vs := [.b r]) Tryd.func70 rfl rfl (Nat.le_of_ble_eq_true rfl) rfl ?_) (fun _ => .same _)
 unfold g_kinds_sort_fits at H
 refine as2 [(0, .g (Gkinds_sort.cs s0)), (1, .i kind1)] [] rfl rfl rfl ?_
 refine sg [0, 1] rfl ?_
 refine r_op rfl rfl (MakeD.opD (n_box 2 rfl rfl) rfl rfl rfl rfl) ?_
 refine rp rfl rfl (p_asg rfl rfl) ?_
 refine rz [(1, .i kind1), (2, .q 2 (0))] [(2, .pure (Gkinds_sort.cs s0))] rfl rfl rfl ?_
 refine AW2_seq ?_
 refine AW2_mid (⟨[(4, .b (decide ((s0.kind_ = kind1) ∨ (s0.kind_ = (0 : Int)))))], [], 14⟩ : TS) ?_ ?_
 ·refine AW2_reg [0, 1, 2, 3, 4, 5, 6, 7, 8, 9] rfl ?_
  refine rp rfl rfl (u_fa rfl rfl Tryd.underlying54 rfl in_3 (Nat.succ_ne_zero _) rfl rfl (ne_of_lt (n := 0) (Nat.lt_of_lt_of_eq (by decide) (Eq.symm (Gkinds_sort.len s0))))) ?_
  refine rp rfl rfl (u_ld rfl rfl Tryd.underlying3 rfl rfl ((Sub.refl _).trans (Gkinds_sort.sub0 s0))) ?_
  refine rp rfl rfl (p_move rfl rfl) ?_
  refine rp rfl rfl (p_ieq rfl rfl rfl) ?_
  refine rp rfl rfl (p_move rfl rfl) ?_
  refine (Classical.em (s0.kind_ = kind1)).elim (fun h1 => ?_) (fun h1 => ?_)
  ·refine r_off rfl rfl rfl rfl (decide_eq_true h1) rfl rfl ?_
   refine r_off rfl rfl rfl rfl (decide_eq_true h1) rfl rfl ?_
   refine r_off rfl rfl rfl rfl (decide_eq_true h1) rfl rfl ?_
   refine rp rfl rfl (p_pkt rfl rfl (decide_eq_true h1) (tb (decide_eq_true (p := (s0.kind_ = kind1) ∨ (s0.kind_ = (0 : Int))) (Or.inl h1)).symm)) ?_
   refine rp rfl rfl (p_asg rfl rfl) ?_
   refine rs [(4, .b (decide ((s0.kind_ = kind1) ∨ (s0.kind_ = (0 : Int)))))] [] rfl rfl rfl ?_
   exact RunW_nil rfl
  ·refine r_on rfl rfl rfl rfl (decide_eq_false h1) rfl (PureD.opD (u_fa rfl rfl Tryd.underlying54 rfl in_3 (Nat.succ_ne_zero _) rfl rfl (ne_of_lt (n := 0) (Nat.lt_of_lt_of_eq (by decide) (Eq.symm (Gkinds_sort.len s0)))))) ?_
   refine r_on rfl rfl rfl rfl (decide_eq_false h1) rfl (PureD.opD (u_ld rfl rfl Tryd.underlying3 rfl rfl ((Sub.refl _).trans (Gkinds_sort.sub0 s0)))) ?_
   refine r_on rfl rfl rfl rfl (decide_eq_false h1) rfl (PureD.opD (p_ieq rfl rfl rfl)) ?_
   refine rp rfl rfl (p_pkf rfl rfl (decide_eq_false h1) (tb ((or_l (p := s0.kind_ = kind1) (q := s0.kind_ = (0 : Int)) h1)))) ?_
   refine rp rfl rfl (p_asg rfl rfl) ?_
   refine rs [(4, .b (decide ((s0.kind_ = kind1) ∨ (s0.kind_ = (0 : Int)))))] [] rfl rfl rfl ?_
   exact RunW_nil rfl
 ·refine AW2_ret ?_
  have hz := some_elim H
  subst hz
  exact ⟨⟨res_tmp (.same _), trivial⟩, trivial⟩

/-! kinds.sort).with -/
noncomputable def g_kinds_sort_with (s0 : Gkinds_sort) (t1 : Gkinds_sort) : Option (Gkinds_sort) :=
  ((if s0.kind_ = (0 : Int) then some ({ s0 with kind_ := t1.kind_ }) else some s0)).bind fun j'1 => letO ({ j'1 with null_ := (decide ((j'1.null_ = true) ∨ (t1.null_ = true))) }) fun s2'2 => some s2'2
set_option maxHeartbeats 4000000 in
set_option maxRecDepth 100000 in
theorem g_kinds_sort_with_ac {s0 : Gkinds_sort} {t1 : Gkinds_sort} {r : Gkinds_sort} (H : g_kinds_sort_with s0 t1 = some r) : ACp Tryd.prog 71 [(.agg (Gkinds_sort.cs s0)), (.agg (Gkinds_sort.cs t1))] (.agg (Gkinds_sort.cs r)) := by
 refine ACp_of (AC2_of_body (vs := [.g (Gkinds_sort.cs r)]) Tryd.func71 rfl rfl (Nat.le_of_ble_eq_true rfl) rfl ?_) (fun _ => .same _)
 unfold g_kinds_sort_with at H
 refine as2 [(0, .g (Gkinds_sort.cs s0)), (1, .g (Gkinds_sort.cs t1))] [] rfl rfl rfl ?_
 refine sg [0, 1, 2] rfl ?_
 refine r_op rfl rfl (MakeD.opD (n_box 2 rfl rfl) rfl rfl rfl rfl) ?_
 refine r_op rfl rfl (MakeD.opD (n_box 3 rfl rfl) rfl rfl rfl rfl) ?_
 refine r_op rfl rfl (MakeD.opD (u_alloc 4 rfl in_54 one_54 zc_54) rfl rfl rfl rfl) ?_
 refine rz [(2, .q 2 (0)), (3, .q 3 (0)), (4, .q 4 (0))] [(2, .pure (Gkinds_sort.cs s0)), (3, .pure (Gkinds_sort.cs t1)), (4, .pure (Gkinds_sort.cs Gkinds_sort.zero))] rfl rfl rfl ?_
 refine AW2_seq ?_
 refine bindK H fun j'1 h1 H => ?_
 refine AW2_mid (⟨[(2, .q 2 (0)), (3, .q 3 (0)), (4, .q 4 (0))], [(2, .pure (Gkinds_sort.cs j'1)), (3, .pure (Gkinds_sort.cs t1)), (4, .pure (Gkinds_sort.cs Gkinds_sort.zero))], 19⟩ : TS) ?_ ?_
 ·clear H
  have H := h1
  clear h1
  refine sg [0, 1, 2] rfl ?_
  refine rp rfl rfl (u_fa rfl rfl Tryd.underlying54 rfl in_3 (Nat.succ_ne_zero _) rfl rfl (ne_of_lt (n := 0) (Nat.lt_of_lt_of_eq (by decide) (Eq.symm (Gkinds_sort.len s0))))) ?_
  refine rp rfl rfl (u_ld rfl rfl Tryd.underlying3 rfl rfl ((Sub.refl _).trans (Gkinds_sort.sub0 s0))) ?_
  refine rp rfl rfl (p_ieq rfl rfl rfl) ?_
  refine rz [(2, .q 2 (0)), (3, .q 3 (0)), (4, .q 4 (0)), (7, .b (decide (s0.kind_ = (0 : Int))))] [(2, .pure (Gkinds_sort.cs s0)), (3, .pure (Gkinds_sort.cs t1)), (4, .pure (Gkinds_sort.cs Gkinds_sort.zero))] rfl rfl rfl ?_
  refine AW2_if (p := s0.kind_ = (0 : Int)) rfl (fun h2 => ?_) (fun h2 => ?_)
  ·replace H := ite_then h2 H
   refine AW2_reg [0, 1, 2, 3] rfl ?_
   refine rp rfl rfl (u_fa rfl rfl Tryd.underlying54 rfl in_3 (Nat.succ_ne_zero _) rfl rfl (ne_of_lt (n := 0) (Nat.lt_of_lt_of_eq (by decide) (Eq.symm (Gkinds_sort.len t1))))) ?_
   refine rp rfl rfl (u_ld rfl rfl Tryd.underlying3 rfl rfl ((Sub.refl _).trans (Gkinds_sort.sub0 t1))) ?_
   refine rp rfl rfl (u_fa rfl rfl Tryd.underlying54 rfl in_3 (Nat.succ_ne_zero _) rfl rfl (ne_of_lt (n := 0) (Nat.lt_of_lt_of_eq (by decide) (Eq.symm (Gkinds_sort.len s0))))) ?_
   refine r_op rfl rfl (u_st rfl rfl rfl rfl rfl in_3 rfl (ne_of_lt (n := 0) (Nat.lt_of_lt_of_eq (by decide) (Eq.symm (Gkinds_sort.len s0)))) (Upd.trans (Sub.refl _) (Gkinds_sort.upd0 s0 t1.kind_) (Upd.refl ((Gkinds_sort.len ((Gkinds_sort.w0 s0 t1.kind_))).trans (Gkinds_sort.len s0).symm)))) ?_
   refine rz [(2, .q 2 (0)), (3, .q 3 (0)), (4, .q 4 (0))] [(2, .pure (Gkinds_sort.cs ((Gkinds_sort.w0 s0 t1.kind_)))), (3, .pure (Gkinds_sort.cs t1)), (4, .pure (Gkinds_sort.cs Gkinds_sort.zero))] rfl rfl rfl ?_
   have hz := some_elim H
   subst hz
   exact rfl
  ·replace H := ite_else h2 H
   refine as2 [(2, .q 2 (0)), (3, .q 3 (0)), (4, .q 4 (0))] [(2, .pure (Gkinds_sort.cs s0)), (3, .pure (Gkinds_sort.cs t1)), (4, .pure (Gkinds_sort.cs Gkinds_sort.zero))] rfl rfl rfl ?_
   refine AW2_skip ?_
   have hz := some_elim H
   subst hz
   exact rfl
 ·refine AW2_seq ?_
  refine AW2_mid (⟨[(2, .q 2 (0)), (4, .q 4 (0))], [(2, .pure (Gkinds_sort.cs ((Gkinds_sort.w1 j'1 (decide ((j'1.null_ = true) ∨ (t1.null_ = true))))))), (4, .pure (Gkinds_sort.cs Gkinds_sort.zero))], 19⟩ : TS) ?_ ?_
  ·refine AW2_reg [0, 1, 2, 3, 4, 5, 6, 7] rfl ?_
   refine rp rfl rfl (u_fa rfl rfl Tryd.underlying54 rfl in_4 (Nat.succ_ne_zero _) rfl rfl (ne_of_lt (n := 0) (Nat.lt_of_lt_of_eq (by decide) (Eq.symm (Gkinds_sort.len j'1))))) ?_
   refine rp rfl rfl (u_ld rfl rfl Tryd.underlying4 rfl rfl ((Sub.refl _).trans (Gkinds_sort.sub1 j'1))) ?_
   refine rp rfl rfl (p_move rfl rfl) ?_
   refine (Classical.em (j'1.null_ = true)).elim (fun h3 => ?_) (fun h3 => ?_)
   ·refine r_off rfl rfl rfl rfl h3 rfl rfl ?_
    refine r_off rfl rfl rfl rfl h3 rfl rfl ?_
    refine rp rfl rfl (p_pkt rfl rfl h3 (tb (decide_eq_true (p := (j'1.null_ = true) ∨ (t1.null_ = true)) (Or.inl h3)).symm)) ?_
    refine rp rfl rfl (u_fa rfl rfl Tryd.underlying54 rfl in_4 (Nat.succ_ne_zero _) rfl rfl (ne_of_lt (n := 0) (Nat.lt_of_lt_of_eq (by decide) (Eq.symm (Gkinds_sort.len j'1))))) ?_
    refine r_op rfl rfl (u_st rfl rfl rfl rfl rfl in_4 rfl (ne_of_lt (n := 0) (Nat.lt_of_lt_of_eq (by decide) (Eq.symm (Gkinds_sort.len j'1)))) (Upd.trans (Sub.refl _) (Gkinds_sort.upd1 j'1 (decide ((j'1.null_ = true) ∨ (t1.null_ = true)))) (Upd.refl ((Gkinds_sort.len ((Gkinds_sort.w1 j'1 (decide ((j'1.null_ = true) ∨ (t1.null_ = true)))))).trans (Gkinds_sort.len j'1).symm)))) ?_
    refine rs [(2, .q 2 (0)), (4, .q 4 (0))] [(2, .pure (Gkinds_sort.cs ((Gkinds_sort.w1 j'1 (decide ((j'1.null_ = true) ∨ (t1.null_ = true))))))), (4, .pure (Gkinds_sort.cs Gkinds_sort.zero))] rfl rfl rfl ?_
    exact RunW_nil rfl
   ·refine r_on rfl rfl rfl rfl (bfalse h3) rfl (PureD.opD (u_fa rfl rfl Tryd.underlying54 rfl in_4 (Nat.succ_ne_zero _) rfl rfl (ne_of_lt (n := 0) (Nat.lt_of_lt_of_eq (by decide) (Eq.symm (Gkinds_sort.len t1)))))) ?_
    refine r_on rfl rfl rfl rfl (bfalse h3) rfl (PureD.opD (u_ld rfl rfl Tryd.underlying4 rfl rfl ((Sub.refl _).trans (Gkinds_sort.sub1 t1)))) ?_
    refine rp rfl rfl (p_pkf rfl rfl (bfalse h3) (tb ((bdec _).trans (or_l (p := j'1.null_ = true) (q := t1.null_ = true) h3)))) ?_
    refine rp rfl rfl (u_fa rfl rfl Tryd.underlying54 rfl in_4 (Nat.succ_ne_zero _) rfl rfl (ne_of_lt (n := 0) (Nat.lt_of_lt_of_eq (by decide) (Eq.symm (Gkinds_sort.len j'1))))) ?_
    refine r_op rfl rfl (u_st rfl rfl rfl rfl rfl in_4 rfl (ne_of_lt (n := 0) (Nat.lt_of_lt_of_eq (by decide) (Eq.symm (Gkinds_sort.len j'1)))) (Upd.trans (Sub.refl _) (Gkinds_sort.upd1 j'1 (decide ((j'1.null_ = true) ∨ (t1.null_ = true)))) (Upd.refl ((Gkinds_sort.len ((Gkinds_sort.w1 j'1 (decide ((j'1.null_ = true) ∨ (t1.null_ = true)))))).trans (Gkinds_sort.len j'1).symm)))) ?_
    refine rs [(2, .q 2 (0)), (4, .q 4 (0))] [(2, .pure (Gkinds_sort.cs ((Gkinds_sort.w1 j'1 (decide ((j'1.null_ = true) ∨ (t1.null_ = true))))))), (4, .pure (Gkinds_sort.cs Gkinds_sort.zero))] rfl rfl rfl ?_
    exact RunW_nil rfl
  ·refine gen1 (fun s2'2 => (⟨[(2, .q 2 (0)), (4, .q 4 (0))], [(2, .pure (Gkinds_sort.cs s2'2)), (4, .pure (Gkinds_sort.cs Gkinds_sort.zero))], 19⟩ : TS)) H ?_
   intro s2'2 H
   refine sg [0, 1] rfl ?_
   refine rp rfl rfl (u_lda rfl rfl Tryd.underlying54 rfl in_54 rfl (Nat.succ_pos _) (Sub.refl _) (Gkinds_sort.len s2'2)) ?_
   refine r_op rfl rfl (u_st rfl rfl rfl rfl rfl in_54 (Gkinds_sort.len s2'2) (ne_of_lt (n := 0) (Nat.lt_of_lt_of_eq (by decide) (Eq.symm (Gkinds_sort.len Gkinds_sort.zero)))) (Upd.refl ((Gkinds_sort.len s2'2).trans (Gkinds_sort.len Gkinds_sort.zero).symm))) ?_
   refine rz [(4, .q 4 (0))] [(4, .pure (Gkinds_sort.cs s2'2))] rfl rfl rfl ?_
   refine AW2_ret ?_
   have hz := some_elim H
   subst hz
   exact ⟨⟨res_cella Tryd.underlying54 rfl in_54.sz rfl (Sub.le (Sub.refl _) (Gkinds_sort.len s2'2)) (by decide) (Sub.take (Sub.refl _) (Gkinds_sort.len s2'2)), trivial⟩, trivial⟩

/-! kinds.joined$1 -/
noncomputable def g_kinds_joined_1_i0_l0 (kind0 : Int) (t2 : Vector Gkinds_sort 2) (t3 : Int) : Int × Gkinds_sort → Option ((Int × Gkinds_sort) ⊕ ((Gkinds_sort × Int) ⊕ Gkinds_sort))
  | (t16_0, s8_0) => (if t16_0 < ((List.take t3.toNat t2.toList).length : Int) then if 0 ≤ t16_0 ∧ t16_0 < ((List.take t3.toNat t2.toList).length : Int) then (g_kinds_sort_fits (lrd (List.take t3.toNat t2.toList) t16_0.toNat) kind0).bind fun r'1 => (if (!r'1) = true then some (.inr (.inl (Gkinds_sort.zero, (2 : Int)))) else letO ({ s8_0 with null_ := (decide ((s8_0.null_ = true) ∨ (((lrd (List.take t3.toNat t2.toList) t16_0.toNat).null_) = true))) }) fun s8'2 => some (.inl (w64 (t16_0 + (1 : Int)), s8'2))) else none else some (.inr (.inr s8_0)))
noncomputable def g_kinds_joined_1_i0 (kind0 : Int) (gives1 : Int) (t2 : Vector Gkinds_sort 2) (t3 : Int) : Option (Gkinds_sort × Int) :=
  if 0 ≤ t3 ∧ t3 ≤ (2 : Int) then (loopO (g_kinds_joined_1_i0_l0 kind0 t2 t3) ((0 : Int), { Gkinds_sort.zero with kind_ := gives1 })).bind fun o'6 => match o'6 with | .inl y'7 => some y'7 | .inr (y'8) => some (y'8, (0 : Int)) else none
set_option maxHeartbeats 4000000 in
set_option maxRecDepth 100000 in
theorem g_kinds_joined_1_i0_ac {kind0 : Int} {gives1 : Int} {t2 : Vector Gkinds_sort 2} {t3 : Int} {r : Gkinds_sort × Int} (H : g_kinds_joined_1_i0 kind0 gives1 t2 t3 = some r) : ACp Tryd.prog 69 [(AV.int kind0), (AV.int gives1), .rptr (t2.toList.flatMap Gkinds_sort.cs) 0, .rptr ([(AV.int t3)]) 0] (.tup [(.agg (Gkinds_sort.cs r.1)), (AV.int r.2)]) := by
 refine ACp_of (AC2_of_body (vs := [.g (Gkinds_sort.cs r.1), .i r.2]) Tryd.func69 rfl rfl (Nat.le_of_ble_eq_true rfl) rfl ?_) (fun _ => .same _)
 unfold g_kinds_joined_1_i0 at H
 refine as2 [(0, .i kind0), (1, .i gives1), (2, .p (.rptr (t2.toList.flatMap Gkinds_sort.cs) (0))), (3, .p (.rptr ([(AV.int t3)]) (0)))] [] rfl rfl rfl ?_
 refine sg [0, 1] rfl ?_
 refine r_op rfl rfl (MakeD.opD (u_alloc 6 rfl in_54 one_54 zc_54) rfl rfl rfl rfl) ?_
 refine rp rfl rfl (p_asg rfl rfl) ?_
 refine rz [(0, .i kind0), (1, .i gives1), (2, .p (.rptr (t2.toList.flatMap Gkinds_sort.cs) (0))), (3, .p (.rptr ([(AV.int t3)]) (0))), (6, .q 6 (0))] [(6, .pure (Gkinds_sort.cs Gkinds_sort.zero))] rfl rfl rfl ?_
 refine sg [0, 1, 2, 3] rfl ?_
 refine rp rfl rfl (p_move rfl rfl) ?_
 refine rp rfl rfl (u_bld rfl in_54 one_54 zc_54 pl_54 rfl (af_cons rfl rfl (Gkinds_sort.upd0 Gkinds_sort.zero gives1) rfl)) ?_
 refine r_op rfl rfl (MakeD.opD (u_alloc 8 rfl in_54 one_54 zc_54) rfl rfl rfl rfl) ?_
 refine r_op rfl rfl (u_st rfl rfl rfl rfl rfl in_54 (Gkinds_sort.len ((Gkinds_sort.w0 Gkinds_sort.zero gives1))) (ne_of_lt (n := 0) (Nat.lt_of_lt_of_eq (by decide) (Eq.symm (Gkinds_sort.len Gkinds_sort.zero)))) (Upd.refl ((Gkinds_sort.len ((Gkinds_sort.w0 Gkinds_sort.zero gives1))).trans (Gkinds_sort.len Gkinds_sort.zero).symm))) ?_
 refine rz [(0, .i kind0), (2, .p (.rptr (t2.toList.flatMap Gkinds_sort.cs) (0))), (3, .p (.rptr ([(AV.int t3)]) (0))), (6, .q 6 (0)), (8, .q 8 (0))] [(6, .pure (Gkinds_sort.cs Gkinds_sort.zero)), (8, .pure (Gkinds_sort.cs ((Gkinds_sort.w0 Gkinds_sort.zero gives1))))] rfl rfl rfl ?_
 refine AW2_seq ?_
 refine sg [0, 1, 2, 3] rfl ?_
 refine rp rfl rfl (u_ld rfl rfl Tryd.underlying3 rfl rfl (Sub.refl _)) ?_
 refine chkK H fun h1 H => ?_
 refine rp rfl rfl (u_cutar (g := fun l => l.flatMap Gkinds_sort.cs) (l := t2.toList) rfl rfl Tryd.underlying83 in_54 rfl (Sub.refl _) (vlen _) (vfm_len (fun x => (Gkinds_sort.len x)) t2) (bT_i h1.1 rfl) (toNat_le h1) (g_fm (fun x => (Gkinds_sort.len x)))) ?_
 refine rp rfl rfl (p_lenl rfl Tryd.underlying94 rfl rfl) ?_
 refine rp rfl rfl (p_move rfl rfl) ?_
 refine rz [(0, .i kind0), (6, .q 6 (0)), (8, .q 8 (0)), (14, .p ((fun q : List Gkinds_sort => AV.lst (q.flatMap Gkinds_sort.cs) q.length) (List.take t3.toNat t2.toList))), (15, .i ((List.take t3.toNat t2.toList).length : Int)), (16, .i (0 : Int))] [(6, .pure (Gkinds_sort.cs Gkinds_sort.zero)), (8, .pure (Gkinds_sort.cs ((Gkinds_sort.w0 Gkinds_sort.zero gives1))))] rfl rfl rfl ?_
 refine AW2_block ?_
 refine as2 [(0, .i kind0), (6, .q 6 (0)), (8, .q 8 (0)), (14, .p ((fun q : List Gkinds_sort => AV.lst (q.flatMap Gkinds_sort.cs) q.length) (List.take t3.toNat t2.toList))), (15, .i ((List.take t3.toNat t2.toList).length : Int)), (16, .i (0 : Int))] [(6, .pure (Gkinds_sort.cs Gkinds_sort.zero)), (8, .pure (Gkinds_sort.cs ((Gkinds_sort.w0 Gkinds_sort.zero gives1))))] rfl rfl rfl ?_
 refine bindK H fun o'6 h7 H => ?_
 refine AW2_loopO (fun a'3 : Int × Gkinds_sort => (⟨[(0, .i kind0), (6, .q 6 (0)), (8, .q 8 (0)), (14, .p ((fun q : List Gkinds_sort => AV.lst (q.flatMap Gkinds_sort.cs) q.length) (List.take t3.toNat t2.toList))), (15, .i ((List.take t3.toNat t2.toList).length : Int)), (16, .i a'3.1)], [(6, .pure (Gkinds_sort.cs Gkinds_sort.zero)), (8, .pure (Gkinds_sort.cs a'3.2))], 34⟩ : TS)) (fun (o : (Gkinds_sort × Int) ⊕ Gkinds_sort) e s' => match o with | .inl y'4 => e = Go.Exit.ret ∧ ResAll Tryd.prog s' [ResultVar.cell 6 54, ResultVar.tmp 7] [.g (Gkinds_sort.cs y'4.1), .i y'4.2] ∧ HFits s' [] | .inr (y'5) => e = Go.Exit.exit 0 ∧ s' = (⟨[(6, .q 6 (0)), (8, .q 8 (0))], [(6, .pure (Gkinds_sort.cs Gkinds_sort.zero)), (8, .pure (Gkinds_sort.cs y'5))], 34⟩ : TS)) h7 rfl (fun a x hx => ?_) (fun e s' hs => ?_)
 ·clear H
  obtain ⟨t16_0, s8_0⟩ := a
  have H := hx
  clear hx
  unfold g_kinds_joined_1_i0_l0 at H
  refine sg [0] rfl ?_
  refine rp rfl rfl (p_bin rfl rfl rfl rfl) ?_
  refine rz [(0, .i kind0), (6, .q 6 (0)), (8, .q 8 (0)), (14, .p ((fun q : List Gkinds_sort => AV.lst (q.flatMap Gkinds_sort.cs) q.length) (List.take t3.toNat t2.toList))), (15, .i ((List.take t3.toNat t2.toList).length : Int)), (16, .i t16_0), (17, .b (decide (t16_0 < ((List.take t3.toNat t2.toList).length : Int))))] [(6, .pure (Gkinds_sort.cs Gkinds_sort.zero)), (8, .pure (Gkinds_sort.cs s8_0))] rfl rfl rfl ?_
  refine AW2_seq ?_
  refine AW2_if (p := t16_0 < ((List.take t3.toNat t2.toList).length : Int)) rfl (fun h2 => ?_) (fun h2 => ?_)
  ·replace H := ite_then h2 H
   refine as2 [(0, .i kind0), (6, .q 6 (0)), (8, .q 8 (0)), (14, .p ((fun q : List Gkinds_sort => AV.lst (q.flatMap Gkinds_sort.cs) q.length) (List.take t3.toNat t2.toList))), (15, .i ((List.take t3.toNat t2.toList).length : Int)), (16, .i t16_0)] [(6, .pure (Gkinds_sort.cs Gkinds_sort.zero)), (8, .pure (Gkinds_sort.cs s8_0))] rfl rfl rfl ?_
   refine AW2_skip ?_
   refine AW2_seq ?_
   refine AW2_block ?_
   refine sg [0, 1, 2, 3] rfl ?_
   refine chkK H fun h3 H => ?_
   refine rp rfl rfl (u_ixl rfl rfl Tryd.underlying94 in_54 rfl rfl (ixe h3) (ixn h3) (fne (fun x => (Gkinds_sort.len x)) (by decide) (ixn h3))) ?_
   refine rp rfl rfl (u_lda rfl rfl Tryd.underlying54 rfl in_54 rfl (Nat.succ_pos _) (Sub.fm default (fun x => (Gkinds_sort.len x)) (ixn h3)) (Gkinds_sort.len (lrd (List.take t3.toNat t2.toList) t16_0.toNat))) ?_
   refine r_op rfl rfl (MakeD.opD (u_alloc 10 rfl in_54 one_54 zc_54) rfl rfl rfl rfl) ?_
   refine r_op rfl rfl (u_st rfl rfl rfl rfl rfl in_54 (Gkinds_sort.len (lrd (List.take t3.toNat t2.toList) t16_0.toNat)) (ne_of_lt (n := 0) (Nat.lt_of_lt_of_eq (by decide) (Eq.symm (Gkinds_sort.len Gkinds_sort.zero)))) (Upd.refl ((Gkinds_sort.len (lrd (List.take t3.toNat t2.toList) t16_0.toNat)).trans (Gkinds_sort.len Gkinds_sort.zero).symm))) ?_
   refine rz [(0, .i kind0), (6, .q 6 (0)), (8, .q 8 (0)), (10, .q 10 (0)), (14, .p ((fun q : List Gkinds_sort => AV.lst (q.flatMap Gkinds_sort.cs) q.length) (List.take t3.toNat t2.toList))), (15, .i ((List.take t3.toNat t2.toList).length : Int)), (16, .i t16_0)] [(6, .pure (Gkinds_sort.cs Gkinds_sort.zero)), (8, .pure (Gkinds_sort.cs s8_0)), (10, .pure (Gkinds_sort.cs (lrd (List.take t3.toNat t2.toList) t16_0.toNat)))] rfl rfl rfl ?_
   refine AW2_seq ?_
   refine sg [0, 1, 2, 3] rfl ?_
   refine rp rfl rfl (u_lda rfl rfl Tryd.underlying54 rfl in_54 rfl (Nat.succ_pos _) (Sub.refl _) (Gkinds_sort.len (lrd (List.take t3.toNat t2.toList) t16_0.toNat))) ?_
   refine rp rfl rfl (p_move rfl rfl) ?_
   refine bindK H fun r'1 h4 H => ?_
   refine rp rfl rfl (p_callp rfl rfl rfl Tryd.func70 rfl rfl (g_kinds_sort_fits_ac h4) ⟨rfl, rfl, trivial⟩) ?_
   refine rp rfl rfl (p_not rfl rfl) ?_
   refine rz [(0, .i kind0), (6, .q 6 (0)), (8, .q 8 (0)), (10, .q 10 (0)), (14, .p ((fun q : List Gkinds_sort => AV.lst (q.flatMap Gkinds_sort.cs) q.length) (List.take t3.toNat t2.toList))), (15, .i ((List.take t3.toNat t2.toList).length : Int)), (16, .i t16_0), (23, .b (!r'1))] [(6, .pure (Gkinds_sort.cs Gkinds_sort.zero)), (8, .pure (Gkinds_sort.cs s8_0)), (10, .pure (Gkinds_sort.cs (lrd (List.take t3.toNat t2.toList) t16_0.toNat)))] rfl rfl rfl ?_
   refine AW2_cond rfl (fun h5 => ?_) (fun h5 => ?_)
   ·replace H := ite_then h5 H
    refine sg [0, 1, 2] rfl ?_
    refine rp rfl rfl (u_bld rfl in_54 one_54 zc_54 pl_54 rfl rfl) ?_
    refine r_op rfl rfl (u_st rfl rfl rfl rfl rfl in_54 (Gkinds_sort.len Gkinds_sort.zero) (ne_of_lt (n := 0) (Nat.lt_of_lt_of_eq (by decide) (Eq.symm (Gkinds_sort.len Gkinds_sort.zero)))) (Upd.refl ((Gkinds_sort.len Gkinds_sort.zero).trans (Gkinds_sort.len Gkinds_sort.zero).symm))) ?_
    refine rp rfl rfl (p_asg rfl rfl) ?_
    refine rz [(6, .q 6 (0)), (7, .i (2 : Int))] [(6, .pure (Gkinds_sort.cs Gkinds_sort.zero))] rfl rfl rfl ?_
    refine AW2_ret ?_
    have hz := some_elim H
    subst hz
    exact ⟨rfl, ⟨res_cella Tryd.underlying54 rfl in_54.sz rfl (Sub.le (Sub.refl _) (Gkinds_sort.len Gkinds_sort.zero)) (by decide) (Sub.take (Sub.refl _) (Gkinds_sort.len Gkinds_sort.zero)), res_tmp (.same _), trivial⟩, trivial⟩
   ·replace H := ite_else (ne_true h5) H
    refine as2 [(0, .i kind0), (6, .q 6 (0)), (8, .q 8 (0)), (10, .q 10 (0)), (14, .p ((fun q : List Gkinds_sort => AV.lst (q.flatMap Gkinds_sort.cs) q.length) (List.take t3.toNat t2.toList))), (15, .i ((List.take t3.toNat t2.toList).length : Int)), (16, .i t16_0)] [(6, .pure (Gkinds_sort.cs Gkinds_sort.zero)), (8, .pure (Gkinds_sort.cs s8_0)), (10, .pure (Gkinds_sort.cs (lrd (List.take t3.toNat t2.toList) t16_0.toNat)))] rfl rfl rfl ?_
    refine AW2_skip ?_
    refine AW2_mid (⟨[(0, .i kind0), (6, .q 6 (0)), (8, .q 8 (0)), (14, .p ((fun q : List Gkinds_sort => AV.lst (q.flatMap Gkinds_sort.cs) q.length) (List.take t3.toNat t2.toList))), (15, .i ((List.take t3.toNat t2.toList).length : Int)), (16, .i t16_0)], [(6, .pure (Gkinds_sort.cs Gkinds_sort.zero)), (8, .pure (Gkinds_sort.cs ((Gkinds_sort.w1 s8_0 (decide ((s8_0.null_ = true) ∨ (((lrd (List.take t3.toNat t2.toList) t16_0.toNat).null_) = true)))))))], 34⟩ : TS) ?_ ?_
    ·refine AW2_reg [0, 1, 2, 3, 4, 5, 6, 7] rfl ?_
     refine rp rfl rfl (u_fa rfl rfl Tryd.underlying54 rfl in_4 (Nat.succ_ne_zero _) rfl rfl (ne_of_lt (n := 0) (Nat.lt_of_lt_of_eq (by decide) (Eq.symm (Gkinds_sort.len s8_0))))) ?_
     refine rp rfl rfl (u_ld rfl rfl Tryd.underlying4 rfl rfl ((Sub.refl _).trans (Gkinds_sort.sub1 s8_0))) ?_
     refine rp rfl rfl (p_move rfl rfl) ?_
     refine (Classical.em (s8_0.null_ = true)).elim (fun h6 => ?_) (fun h6 => ?_)
     ·refine r_off rfl rfl rfl rfl h6 rfl rfl ?_
      refine r_off rfl rfl rfl rfl h6 rfl rfl ?_
      refine rp rfl rfl (p_pkt rfl rfl h6 (tb (decide_eq_true (p := (s8_0.null_ = true) ∨ (((lrd (List.take t3.toNat t2.toList) t16_0.toNat).null_) = true)) (Or.inl h6)).symm)) ?_
      refine rp rfl rfl (u_fa rfl rfl Tryd.underlying54 rfl in_4 (Nat.succ_ne_zero _) rfl rfl (ne_of_lt (n := 0) (Nat.lt_of_lt_of_eq (by decide) (Eq.symm (Gkinds_sort.len s8_0))))) ?_
      refine r_op rfl rfl (u_st rfl rfl rfl rfl rfl in_4 rfl (ne_of_lt (n := 0) (Nat.lt_of_lt_of_eq (by decide) (Eq.symm (Gkinds_sort.len s8_0)))) (Upd.trans (Sub.refl _) (Gkinds_sort.upd1 s8_0 (decide ((s8_0.null_ = true) ∨ (((lrd (List.take t3.toNat t2.toList) t16_0.toNat).null_) = true)))) (Upd.refl ((Gkinds_sort.len ((Gkinds_sort.w1 s8_0 (decide ((s8_0.null_ = true) ∨ (((lrd (List.take t3.toNat t2.toList) t16_0.toNat).null_) = true)))))).trans (Gkinds_sort.len s8_0).symm)))) ?_
      refine rs [(0, .i kind0), (6, .q 6 (0)), (8, .q 8 (0)), (14, .p ((fun q : List Gkinds_sort => AV.lst (q.flatMap Gkinds_sort.cs) q.length) (List.take t3.toNat t2.toList))), (15, .i ((List.take t3.toNat t2.toList).length : Int)), (16, .i t16_0)] [(6, .pure (Gkinds_sort.cs Gkinds_sort.zero)), (8, .pure (Gkinds_sort.cs ((Gkinds_sort.w1 s8_0 (decide ((s8_0.null_ = true) ∨ (((lrd (List.take t3.toNat t2.toList) t16_0.toNat).null_) = true)))))))] rfl rfl rfl ?_
      exact RunW_nil rfl
     ·refine r_on rfl rfl rfl rfl (bfalse h6) rfl (PureD.opD (u_fa rfl rfl Tryd.underlying54 rfl in_4 (Nat.succ_ne_zero _) rfl rfl (ne_of_lt (n := 0) (Nat.lt_of_lt_of_eq (by decide) (Eq.symm (Gkinds_sort.len (lrd (List.take t3.toNat t2.toList) t16_0.toNat))))))) ?_
      refine r_on rfl rfl rfl rfl (bfalse h6) rfl (PureD.opD (u_ld rfl rfl Tryd.underlying4 rfl rfl ((Sub.refl _).trans (Gkinds_sort.sub1 (lrd (List.take t3.toNat t2.toList) t16_0.toNat))))) ?_
      refine rp rfl rfl (p_pkf rfl rfl (bfalse h6) (tb ((bdec _).trans (or_l (p := s8_0.null_ = true) (q := ((lrd (List.take t3.toNat t2.toList) t16_0.toNat).null_) = true) h6)))) ?_
      refine rp rfl rfl (u_fa rfl rfl Tryd.underlying54 rfl in_4 (Nat.succ_ne_zero _) rfl rfl (ne_of_lt (n := 0) (Nat.lt_of_lt_of_eq (by decide) (Eq.symm (Gkinds_sort.len s8_0))))) ?_
      refine r_op rfl rfl (u_st rfl rfl rfl rfl rfl in_4 rfl (ne_of_lt (n := 0) (Nat.lt_of_lt_of_eq (by decide) (Eq.symm (Gkinds_sort.len s8_0)))) (Upd.trans (Sub.refl _) (Gkinds_sort.upd1 s8_0 (decide ((s8_0.null_ = true) ∨ (((lrd (List.take t3.toNat t2.toList) t16_0.toNat).null_) = true)))) (Upd.refl ((Gkinds_sort.len ((Gkinds_sort.w1 s8_0 (decide ((s8_0.null_ = true) ∨ (((lrd (List.take t3.toNat t2.toList) t16_0.toNat).null_) = true)))))).trans (Gkinds_sort.len s8_0).symm)))) ?_
      refine rs [(0, .i kind0), (6, .q 6 (0)), (8, .q 8 (0)), (14, .p ((fun q : List Gkinds_sort => AV.lst (q.flatMap Gkinds_sort.cs) q.length) (List.take t3.toNat t2.toList))), (15, .i ((List.take t3.toNat t2.toList).length : Int)), (16, .i t16_0)] [(6, .pure (Gkinds_sort.cs Gkinds_sort.zero)), (8, .pure (Gkinds_sort.cs ((Gkinds_sort.w1 s8_0 (decide ((s8_0.null_ = true) ∨ (((lrd (List.take t3.toNat t2.toList) t16_0.toNat).null_) = true)))))))] rfl rfl rfl ?_
      exact RunW_nil rfl
    ·refine gen1 (fun s8'2 => (⟨[(0, .i kind0), (6, .q 6 (0)), (8, .q 8 (0)), (14, .p ((fun q : List Gkinds_sort => AV.lst (q.flatMap Gkinds_sort.cs) q.length) (List.take t3.toNat t2.toList))), (15, .i ((List.take t3.toNat t2.toList).length : Int)), (16, .i t16_0)], [(6, .pure (Gkinds_sort.cs Gkinds_sort.zero)), (8, .pure (Gkinds_sort.cs s8'2))], 34⟩ : TS)) H ?_
     intro s8'2 H
     refine AW2_reg [0, 1] rfl ?_
     refine rp rfl rfl (p_bin rfl rfl rfl rfl) ?_
     refine rp rfl rfl (p_move rfl rfl) ?_
     refine rz [(0, .i kind0), (6, .q 6 (0)), (8, .q 8 (0)), (14, .p ((fun q : List Gkinds_sort => AV.lst (q.flatMap Gkinds_sort.cs) q.length) (List.take t3.toNat t2.toList))), (15, .i ((List.take t3.toNat t2.toList).length : Int)), (16, .i (w64 (t16_0 + (1 : Int))))] [(6, .pure (Gkinds_sort.cs Gkinds_sort.zero)), (8, .pure (Gkinds_sort.cs s8'2))] rfl rfl rfl ?_
     have hz := some_elim H
     subst hz
     exact ⟨rfl, rfl⟩
  ·replace H := ite_else h2 H
   refine as2 [(6, .q 6 (0)), (8, .q 8 (0))] [(6, .pure (Gkinds_sort.cs Gkinds_sort.zero)), (8, .pure (Gkinds_sort.cs s8_0))] rfl rfl rfl ?_
   refine AW2_exit ?_
   refine thenQ2_exit ?_
   have hz := some_elim H
   subst hz
   exact ⟨rfl, rfl⟩
 ·rcases o'6 with y'7 | y'8
  ·obtain ⟨rfl, hs⟩ := hs
   refine ⟨by simp, ?_⟩
   have hz := some_elim H
   subst hz
   exact ⟨hs.1, hs.2⟩
  ·obtain ⟨rfl, rfl⟩ := hs
   refine ⟨by simp, ?_⟩
   refine blockQ2_exit ?_
   refine sg [0, 1, 2] rfl ?_
   refine rp rfl rfl (u_lda rfl rfl Tryd.underlying54 rfl in_54 rfl (Nat.succ_pos _) (Sub.refl _) (Gkinds_sort.len y'8)) ?_
   refine r_op rfl rfl (u_st rfl rfl rfl rfl rfl in_54 (Gkinds_sort.len y'8) (ne_of_lt (n := 0) (Nat.lt_of_lt_of_eq (by decide) (Eq.symm (Gkinds_sort.len Gkinds_sort.zero)))) (Upd.refl ((Gkinds_sort.len y'8).trans (Gkinds_sort.len Gkinds_sort.zero).symm))) ?_
   refine rp rfl rfl (p_asg rfl rfl) ?_
   refine rz [(6, .q 6 (0)), (7, .i (0 : Int))] [(6, .pure (Gkinds_sort.cs y'8))] rfl rfl rfl ?_
   refine AW2_ret ?_
   have hz := some_elim H
   subst hz
   exact ⟨⟨res_cella Tryd.underlying54 rfl in_54.sz rfl (Sub.le (Sub.refl _) (Gkinds_sort.len y'8)) (by decide) (Sub.take (Sub.refl _) (Gkinds_sort.len y'8)), res_tmp (.same _), trivial⟩, trivial⟩

/-! kinds.joined -/
noncomputable def g_kinds_joined (op0 : Int) (n1 : Int) (l2 : Vector Gkinds_sort 2) : Option (Gkinds_sort × Int) :=
  ((if op0 = (3 : Int) then some (decide (op0 = (3 : Int))) else (if op0 = (5 : Int) then some (decide (op0 = (5 : Int))) else (if op0 = (6 : Int) then some (decide (op0 = (6 : Int))) else (if op0 = (7 : Int) then some (decide (op0 = (7 : Int))) else some (decide (op0 = (8 : Int)))))))).bind fun j'1 => (if j'1 = true then (g_kinds_joined_1_i0 (2 : Int) (2 : Int) l2 n1).bind fun r'2 => some (r'2.1, r'2.2) else ((if op0 = (4 : Int) then some (decide (op0 = (4 : Int))) else (if op0 = (15 : Int) then some (decide (op0 = (15 : Int))) else some (decide (op0 = (16 : Int)))))).bind fun j'3 => (if j'3 = true then (g_kinds_joined_1_i0 (1 : Int) (1 : Int) l2 n1).bind fun r'4 => some (r'4.1, r'4.2) else (if op0 = (18 : Int) then (g_kinds_joined_1_i0 (4 : Int) (2 : Int) l2 n1).bind fun r'5 => some (r'5.1, r'5.2) else (if op0 = (19 : Int) then (g_kinds_joined_1_i0 (4 : Int) (4 : Int) l2 n1).bind fun r'6 => some (r'6.1, r'6.2) else (if op0 = (17 : Int) then some ({ { Gkinds_sort.zero with kind_ := (1 : Int) } with null_ := false }, (0 : Int)) else (g_kinds_sort_with (vrd l2 0) (vrd l2 1)).bind fun r'7 => ((g_kinds_sort_fits (vrd l2 0) r'7.kind_).bind fun r'10 => (if (!r'10) = true then some true else (g_kinds_sort_fits (vrd l2 1) r'7.kind_).bind fun r'11 => some (!r'11))).bind fun g'12 => (if g'12 = true then some (Gkinds_sort.zero, (2 : Int)) else (if op0 = (20 : Int) then letO ({ { Gkinds_sort.zero with kind_ := r'7.kind_ } with null_ := (decide ((((vrd l2 0).null_) = true) ∧ (((vrd l2 1).null_) = true))) }) fun t6'13 => some (t6'13, (0 : Int)) else letO ({ { Gkinds_sort.zero with kind_ := (1 : Int) } with null_ := r'7.null_ }) fun t6'14 => some (t6'14, (0 : Int)))))))))
set_option maxHeartbeats 4000000 in
set_option maxRecDepth 100000 in
theorem g_kinds_joined_ac {op0 : Int} {n1 : Int} {l2 : Vector Gkinds_sort 2} {r : Gkinds_sort × Int} (H : g_kinds_joined op0 n1 l2 = some r) : ACp Tryd.prog 46 [(AV.int op0), (AV.int n1), (.agg (l2.toList.flatMap Gkinds_sort.cs))] (.tup [(.agg (Gkinds_sort.cs r.1)), (AV.int r.2)]) := by
 refine ACp_of (AC2_of_body (vs := [.g (Gkinds_sort.cs r.1), .i r.2]) Tryd.func46 rfl rfl (Nat.le_of_ble_eq_true rfl) rfl ?_) (fun _ => .same _)
 unfold g_kinds_joined at H
 refine as2 [(0, .i op0), (1, .i n1), (2, .g (l2.toList.flatMap Gkinds_sort.cs))] [] rfl rfl rfl ?_
 refine sg [0, 1, 2, 3] rfl ?_
 refine r_op rfl rfl (MakeD.opD (n_box 4 rfl rfl) rfl rfl rfl rfl) ?_
 refine r_op rfl rfl (MakeD.opD (n_box 5 rfl rfl) rfl rfl rfl rfl) ?_
 refine r_op rfl rfl (MakeD.opD (u_alloc 6 rfl in_54 one_54 zc_54) rfl rfl rfl rfl) ?_
 refine rp rfl rfl (p_asg rfl rfl) ?_
 refine rz [(0, .i op0), (4, .q 4 (0)), (5, .q 5 (0)), (6, .q 6 (0))] [(4, .pure ([(AV.int n1)])), (5, .pure (l2.toList.flatMap Gkinds_sort.cs)), (6, .pure (Gkinds_sort.cs Gkinds_sort.zero))] rfl rfl rfl ?_
 refine sg [0, 1] rfl ?_
 refine rp rfl rfl (p_mkfn (caps := [(.ptr 5 (0)), (.ptr 4 (0))]) rfl ⟨⟨rfl, rfl⟩, ⟨rfl, rfl⟩, trivial⟩) ?_
 refine rp rfl rfl (p_asg rfl rfl) ?_
 refine RunW_st [(0, .i op0), (5, .q 5 (0)), (6, .q 6 (0)), (8, .clo 69 [(.ptr 5 (0)), (.ptr 4 (0))])] [(4, .pure ([(AV.int n1)])), (5, .pure (l2.toList.flatMap Gkinds_sort.cs)), (6, .pure (Gkinds_sort.cs Gkinds_sort.zero))] rfl ⟨TLes.same _, TLes.same _, TLes.same _, (fun _ => .same _), trivial⟩ ⟨rfl, rfl, rfl, trivial⟩ ?_
 refine RunW_nil ?_
 refine AW2_seq ?_
 refine sg [0] rfl ?_
 refine rp rfl rfl (p_move rfl rfl) ?_
 refine RunW_st [(0, .i op0), (5, .q 5 (0)), (6, .q 6 (0)), (8, .clo 69 [(.ptr 5 (0)), (.ptr 4 (0))]), (11, .i op0)] [(4, .pure ([(AV.int n1)])), (5, .pure (l2.toList.flatMap Gkinds_sort.cs)), (6, .pure (Gkinds_sort.cs Gkinds_sort.zero))] rfl ⟨TLes.same _, TLes.same _, TLes.same _, (fun _ => .same _), TLes.same _, trivial⟩ ⟨rfl, rfl, rfl, trivial⟩ ?_
 refine RunW_nil ?_
 refine AW2_block ?_
 refine AW2_seq ?_
 refine bindK H fun j'1 h1 H => ?_
 refine AW2_mid (⟨[(0, .i op0), (5, .q 5 (0)), (6, .q 6 (0)), (8, .clo 69 [(.ptr 5 (0)), (.ptr 4 (0))]), (11, .i op0), (12, .b j'1)], [(4, .pure ([(AV.int n1)])), (5, .pure (l2.toList.flatMap Gkinds_sort.cs)), (6, .pure (Gkinds_sort.cs Gkinds_sort.zero))], 81⟩ : TS) ?_ ?_
 ·clear H
  have H := h1
  clear h1
  refine sg [0, 1] rfl ?_
  refine rp rfl rfl (p_ieq rfl rfl rfl) ?_
  refine rp rfl rfl (p_asg rfl rfl) ?_
  refine RunW_st [(0, .i op0), (5, .q 5 (0)), (6, .q 6 (0)), (8, .clo 69 [(.ptr 5 (0)), (.ptr 4 (0))]), (11, .i op0), (12, .b (decide (op0 = (3 : Int))))] [(4, .pure ([(AV.int n1)])), (5, .pure (l2.toList.flatMap Gkinds_sort.cs)), (6, .pure (Gkinds_sort.cs Gkinds_sort.zero))] rfl ⟨TLes.same _, TLes.same _, TLes.same _, (fun _ => .same _), TLes.same _, TLes.same _, trivial⟩ ⟨rfl, rfl, rfl, trivial⟩ ?_
  refine RunW_nil ?_
  refine AW2_if (p := op0 = (3 : Int)) rfl (fun h2 => ?_) (fun h2 => ?_)
  ·replace H := ite_then h2 H
   refine AW2_skip ?_
   have hz := some_elim H
   subst hz
   exact rfl
  ·replace H := ite_else h2 H
   refine sg [0, 1] rfl ?_
   refine rp rfl rfl (p_ieq rfl rfl rfl) ?_
   refine rp rfl rfl (p_asg rfl rfl) ?_
   refine RunW_st [(0, .i op0), (5, .q 5 (0)), (6, .q 6 (0)), (8, .clo 69 [(.ptr 5 (0)), (.ptr 4 (0))]), (11, .i op0), (12, .b (decide (op0 = (5 : Int))))] [(4, .pure ([(AV.int n1)])), (5, .pure (l2.toList.flatMap Gkinds_sort.cs)), (6, .pure (Gkinds_sort.cs Gkinds_sort.zero))] rfl ⟨TLes.same _, TLes.same _, TLes.same _, (fun _ => .same _), TLes.same _, TLes.same _, trivial⟩ ⟨rfl, rfl, rfl, trivial⟩ ?_
   refine RunW_nil ?_
   refine AW2_if (p := op0 = (5 : Int)) rfl (fun h3 => ?_) (fun h3 => ?_)
   ·replace H := ite_then h3 H
    refine AW2_skip ?_
    have hz := some_elim H
    subst hz
    exact rfl
   ·replace H := ite_else h3 H
    refine sg [0, 1] rfl ?_
    refine rp rfl rfl (p_ieq rfl rfl rfl) ?_
    refine rp rfl rfl (p_asg rfl rfl) ?_
    refine RunW_st [(0, .i op0), (5, .q 5 (0)), (6, .q 6 (0)), (8, .clo 69 [(.ptr 5 (0)), (.ptr 4 (0))]), (11, .i op0), (12, .b (decide (op0 = (6 : Int))))] [(4, .pure ([(AV.int n1)])), (5, .pure (l2.toList.flatMap Gkinds_sort.cs)), (6, .pure (Gkinds_sort.cs Gkinds_sort.zero))] rfl ⟨TLes.same _, TLes.same _, TLes.same _, (fun _ => .same _), TLes.same _, TLes.same _, trivial⟩ ⟨rfl, rfl, rfl, trivial⟩ ?_
    refine RunW_nil ?_
    refine AW2_if (p := op0 = (6 : Int)) rfl (fun h4 => ?_) (fun h4 => ?_)
    ·replace H := ite_then h4 H
     refine AW2_skip ?_
     have hz := some_elim H
     subst hz
     exact rfl
    ·replace H := ite_else h4 H
     refine sg [0, 1] rfl ?_
     refine rp rfl rfl (p_ieq rfl rfl rfl) ?_
     refine rp rfl rfl (p_asg rfl rfl) ?_
     refine RunW_st [(0, .i op0), (5, .q 5 (0)), (6, .q 6 (0)), (8, .clo 69 [(.ptr 5 (0)), (.ptr 4 (0))]), (11, .i op0), (12, .b (decide (op0 = (7 : Int))))] [(4, .pure ([(AV.int n1)])), (5, .pure (l2.toList.flatMap Gkinds_sort.cs)), (6, .pure (Gkinds_sort.cs Gkinds_sort.zero))] rfl ⟨TLes.same _, TLes.same _, TLes.same _, (fun _ => .same _), TLes.same _, TLes.same _, trivial⟩ ⟨rfl, rfl, rfl, trivial⟩ ?_
     refine RunW_nil ?_
     refine AW2_if (p := op0 = (7 : Int)) rfl (fun h5 => ?_) (fun h5 => ?_)
     ·replace H := ite_then h5 H
      refine AW2_skip ?_
      have hz := some_elim H
      subst hz
      exact rfl
     ·replace H := ite_else h5 H
      refine AW2_reg [0, 1] rfl ?_
      refine rp rfl rfl (p_ieq rfl rfl rfl) ?_
      refine rp rfl rfl (p_asg rfl rfl) ?_
      refine RunW_st [(0, .i op0), (5, .q 5 (0)), (6, .q 6 (0)), (8, .clo 69 [(.ptr 5 (0)), (.ptr 4 (0))]), (11, .i op0), (12, .b (decide (op0 = (8 : Int))))] [(4, .pure ([(AV.int n1)])), (5, .pure (l2.toList.flatMap Gkinds_sort.cs)), (6, .pure (Gkinds_sort.cs Gkinds_sort.zero))] rfl ⟨TLes.same _, TLes.same _, TLes.same _, (fun _ => .same _), TLes.same _, TLes.same _, trivial⟩ ⟨rfl, rfl, rfl, trivial⟩ ?_
      refine RunW_nil ?_
      have hz := some_elim H
      subst hz
      exact rfl
 ·refine AW2_cond rfl (fun h6 => ?_) (fun h6 => ?_)
  ·replace H := ite_then h6 H
   refine sg [0, 1, 2, 3, 4, 5] rfl ?_
   refine rp rfl rfl (p_move rfl rfl) ?_
   refine bindK H fun r'2 h7 H => ?_
   refine rp rfl rfl (p_callc rfl rfl rfl Tryd.func69 rfl rfl (g_kinds_joined_1_i0_ac h7) (nlT (Gkinds_sort.nl r'2.1) (nlT rfl rfl)) ⟨lend_p rfl, lend_p rfl, lendc_ptr rfl (ne_of_lt (n := 0) (Nat.lt_of_lt_of_eq (by decide) (Eq.symm (vfm_len (fun x => (Gkinds_sort.len x)) l2)))), lendc_ptr rfl (List.cons_ne_nil _ _), trivial⟩) ?_
   refine rp rfl rfl (p_ext rfl rfl rfl rfl) ?_
   refine rp rfl rfl (p_ext rfl rfl rfl rfl) ?_
   refine r_op rfl rfl (u_st rfl rfl rfl rfl rfl in_54 (Gkinds_sort.len r'2.1) (ne_of_lt (n := 0) (Nat.lt_of_lt_of_eq (by decide) (Eq.symm (Gkinds_sort.len Gkinds_sort.zero)))) (Upd.refl ((Gkinds_sort.len r'2.1).trans (Gkinds_sort.len Gkinds_sort.zero).symm))) ?_
   refine rp rfl rfl (p_asg rfl rfl) ?_
   refine rz [(6, .q 6 (0)), (7, .i r'2.2)] [(6, .pure (Gkinds_sort.cs r'2.1))] rfl rfl rfl ?_
   refine AW2_ret ?_
   have hz := some_elim H
   subst hz
   exact ⟨⟨res_cella Tryd.underlying54 rfl in_54.sz rfl (Sub.le (Sub.refl _) (Gkinds_sort.len r'2.1)) (by decide) (Sub.take (Sub.refl _) (Gkinds_sort.len r'2.1)), res_tmp (.same _), trivial⟩, trivial⟩
  ·replace H := ite_else (ne_true h6) H
   refine AW2_seq ?_
   refine bindK H fun j'3 h8 H => ?_
   refine AW2_mid (⟨[(0, .i op0), (5, .q 5 (0)), (6, .q 6 (0)), (8, .clo 69 [(.ptr 5 (0)), (.ptr 4 (0))]), (11, .i op0), (22, .b j'3)], [(4, .pure ([(AV.int n1)])), (5, .pure (l2.toList.flatMap Gkinds_sort.cs)), (6, .pure (Gkinds_sort.cs Gkinds_sort.zero))], 81⟩ : TS) ?_ ?_
   ·clear H
    have H := h8
    clear h8
    refine sg [0, 1] rfl ?_
    refine rp rfl rfl (p_ieq rfl rfl rfl) ?_
    refine rp rfl rfl (p_asg rfl rfl) ?_
    refine RunW_st [(0, .i op0), (5, .q 5 (0)), (6, .q 6 (0)), (8, .clo 69 [(.ptr 5 (0)), (.ptr 4 (0))]), (11, .i op0), (22, .b (decide (op0 = (4 : Int))))] [(4, .pure ([(AV.int n1)])), (5, .pure (l2.toList.flatMap Gkinds_sort.cs)), (6, .pure (Gkinds_sort.cs Gkinds_sort.zero))] rfl ⟨TLes.same _, TLes.same _, TLes.same _, (fun _ => .same _), TLes.same _, TLes.same _, trivial⟩ ⟨rfl, rfl, rfl, trivial⟩ ?_
    refine RunW_nil ?_
    refine AW2_if (p := op0 = (4 : Int)) rfl (fun h9 => ?_) (fun h9 => ?_)
    ·replace H := ite_then h9 H
     refine AW2_skip ?_
     have hz := some_elim H
     subst hz
     exact rfl
    ·replace H := ite_else h9 H
     refine sg [0, 1] rfl ?_
     refine rp rfl rfl (p_ieq rfl rfl rfl) ?_
     refine rp rfl rfl (p_asg rfl rfl) ?_
     refine RunW_st [(0, .i op0), (5, .q 5 (0)), (6, .q 6 (0)), (8, .clo 69 [(.ptr 5 (0)), (.ptr 4 (0))]), (11, .i op0), (22, .b (decide (op0 = (15 : Int))))] [(4, .pure ([(AV.int n1)])), (5, .pure (l2.toList.flatMap Gkinds_sort.cs)), (6, .pure (Gkinds_sort.cs Gkinds_sort.zero))] rfl ⟨TLes.same _, TLes.same _, TLes.same _, (fun _ => .same _), TLes.same _, TLes.same _, trivial⟩ ⟨rfl, rfl, rfl, trivial⟩ ?_
     refine RunW_nil ?_
     refine AW2_if (p := op0 = (15 : Int)) rfl (fun h10 => ?_) (fun h10 => ?_)
     ·replace H := ite_then h10 H
      refine AW2_skip ?_
      have hz := some_elim H
      subst hz
      exact rfl
     ·replace H := ite_else h10 H
      refine AW2_reg [0, 1] rfl ?_
      refine rp rfl rfl (p_ieq rfl rfl rfl) ?_
      refine rp rfl rfl (p_asg rfl rfl) ?_
      refine RunW_st [(0, .i op0), (5, .q 5 (0)), (6, .q 6 (0)), (8, .clo 69 [(.ptr 5 (0)), (.ptr 4 (0))]), (11, .i op0), (22, .b (decide (op0 = (16 : Int))))] [(4, .pure ([(AV.int n1)])), (5, .pure (l2.toList.flatMap Gkinds_sort.cs)), (6, .pure (Gkinds_sort.cs Gkinds_sort.zero))] rfl ⟨TLes.same _, TLes.same _, TLes.same _, (fun _ => .same _), TLes.same _, TLes.same _, trivial⟩ ⟨rfl, rfl, rfl, trivial⟩ ?_
      refine RunW_nil ?_
      have hz := some_elim H
      subst hz
      exact rfl
   ·refine AW2_cond rfl (fun h11 => ?_) (fun h11 => ?_)
    ·replace H := ite_then h11 H
     refine sg [0, 1, 2, 3, 4, 5] rfl ?_
     refine rp rfl rfl (p_move rfl rfl) ?_
     refine bindK H fun r'4 h12 H => ?_
     refine rp rfl rfl (p_callc rfl rfl rfl Tryd.func69 rfl rfl (g_kinds_joined_1_i0_ac h12) (nlT (Gkinds_sort.nl r'4.1) (nlT rfl rfl)) ⟨lend_p rfl, lend_p rfl, lendc_ptr rfl (ne_of_lt (n := 0) (Nat.lt_of_lt_of_eq (by decide) (Eq.symm (vfm_len (fun x => (Gkinds_sort.len x)) l2)))), lendc_ptr rfl (List.cons_ne_nil _ _), trivial⟩) ?_
     refine rp rfl rfl (p_ext rfl rfl rfl rfl) ?_
     refine rp rfl rfl (p_ext rfl rfl rfl rfl) ?_
     refine r_op rfl rfl (u_st rfl rfl rfl rfl rfl in_54 (Gkinds_sort.len r'4.1) (ne_of_lt (n := 0) (Nat.lt_of_lt_of_eq (by decide) (Eq.symm (Gkinds_sort.len Gkinds_sort.zero)))) (Upd.refl ((Gkinds_sort.len r'4.1).trans (Gkinds_sort.len Gkinds_sort.zero).symm))) ?_
     refine rp rfl rfl (p_asg rfl rfl) ?_
     refine rz [(6, .q 6 (0)), (7, .i r'4.2)] [(6, .pure (Gkinds_sort.cs r'4.1))] rfl rfl rfl ?_
     refine AW2_ret ?_
     have hz := some_elim H
     subst hz
     exact ⟨⟨res_cella Tryd.underlying54 rfl in_54.sz rfl (Sub.le (Sub.refl _) (Gkinds_sort.len r'4.1)) (by decide) (Sub.take (Sub.refl _) (Gkinds_sort.len r'4.1)), res_tmp (.same _), trivial⟩, trivial⟩
    ·replace H := ite_else (ne_true h11) H
     refine sg [0, 1] rfl ?_
     refine rp rfl rfl (p_ieq rfl rfl rfl) ?_
     refine rp rfl rfl (p_asg rfl rfl) ?_
     refine RunW_st [(0, .i op0), (5, .q 5 (0)), (6, .q 6 (0)), (8, .clo 69 [(.ptr 5 (0)), (.ptr 4 (0))]), (11, .i op0), (30, .b (decide (op0 = (18 : Int))))] [(4, .pure ([(AV.int n1)])), (5, .pure (l2.toList.flatMap Gkinds_sort.cs)), (6, .pure (Gkinds_sort.cs Gkinds_sort.zero))] rfl ⟨TLes.same _, TLes.same _, TLes.same _, (fun _ => .same _), TLes.same _, TLes.same _, trivial⟩ ⟨rfl, rfl, rfl, trivial⟩ ?_
     refine RunW_nil ?_
     refine AW2_if (p := op0 = (18 : Int)) rfl (fun h13 => ?_) (fun h13 => ?_)
     ·replace H := ite_then h13 H
      refine sg [0, 1, 2, 3, 4, 5] rfl ?_
      refine rp rfl rfl (p_move rfl rfl) ?_
      refine bindK H fun r'5 h14 H => ?_
      refine rp rfl rfl (p_callc rfl rfl rfl Tryd.func69 rfl rfl (g_kinds_joined_1_i0_ac h14) (nlT (Gkinds_sort.nl r'5.1) (nlT rfl rfl)) ⟨lend_p rfl, lend_p rfl, lendc_ptr rfl (ne_of_lt (n := 0) (Nat.lt_of_lt_of_eq (by decide) (Eq.symm (vfm_len (fun x => (Gkinds_sort.len x)) l2)))), lendc_ptr rfl (List.cons_ne_nil _ _), trivial⟩) ?_
      refine rp rfl rfl (p_ext rfl rfl rfl rfl) ?_
      refine rp rfl rfl (p_ext rfl rfl rfl rfl) ?_
      refine r_op rfl rfl (u_st rfl rfl rfl rfl rfl in_54 (Gkinds_sort.len r'5.1) (ne_of_lt (n := 0) (Nat.lt_of_lt_of_eq (by decide) (Eq.symm (Gkinds_sort.len Gkinds_sort.zero)))) (Upd.refl ((Gkinds_sort.len r'5.1).trans (Gkinds_sort.len Gkinds_sort.zero).symm))) ?_
      refine rp rfl rfl (p_asg rfl rfl) ?_
      refine rz [(6, .q 6 (0)), (7, .i r'5.2)] [(6, .pure (Gkinds_sort.cs r'5.1))] rfl rfl rfl ?_
      refine AW2_ret ?_
      have hz := some_elim H
      subst hz
      exact ⟨⟨res_cella Tryd.underlying54 rfl in_54.sz rfl (Sub.le (Sub.refl _) (Gkinds_sort.len r'5.1)) (by decide) (Sub.take (Sub.refl _) (Gkinds_sort.len r'5.1)), res_tmp (.same _), trivial⟩, trivial⟩
     ·replace H := ite_else h13 H
      refine sg [0, 1] rfl ?_
      refine rp rfl rfl (p_ieq rfl rfl rfl) ?_
      refine rp rfl rfl (p_asg rfl rfl) ?_
      refine RunW_st [(0, .i op0), (5, .q 5 (0)), (6, .q 6 (0)), (8, .clo 69 [(.ptr 5 (0)), (.ptr 4 (0))]), (11, .i op0), (36, .b (decide (op0 = (19 : Int))))] [(4, .pure ([(AV.int n1)])), (5, .pure (l2.toList.flatMap Gkinds_sort.cs)), (6, .pure (Gkinds_sort.cs Gkinds_sort.zero))] rfl ⟨TLes.same _, TLes.same _, TLes.same _, (fun _ => .same _), TLes.same _, TLes.same _, trivial⟩ ⟨rfl, rfl, rfl, trivial⟩ ?_
      refine RunW_nil ?_
      refine AW2_if (p := op0 = (19 : Int)) rfl (fun h15 => ?_) (fun h15 => ?_)
      ·replace H := ite_then h15 H
       refine sg [0, 1, 2, 3, 4, 5] rfl ?_
       refine rp rfl rfl (p_move rfl rfl) ?_
       refine bindK H fun r'6 h16 H => ?_
       refine rp rfl rfl (p_callc rfl rfl rfl Tryd.func69 rfl rfl (g_kinds_joined_1_i0_ac h16) (nlT (Gkinds_sort.nl r'6.1) (nlT rfl rfl)) ⟨lend_p rfl, lend_p rfl, lendc_ptr rfl (ne_of_lt (n := 0) (Nat.lt_of_lt_of_eq (by decide) (Eq.symm (vfm_len (fun x => (Gkinds_sort.len x)) l2)))), lendc_ptr rfl (List.cons_ne_nil _ _), trivial⟩) ?_
       refine rp rfl rfl (p_ext rfl rfl rfl rfl) ?_
       refine rp rfl rfl (p_ext rfl rfl rfl rfl) ?_
       refine r_op rfl rfl (u_st rfl rfl rfl rfl rfl in_54 (Gkinds_sort.len r'6.1) (ne_of_lt (n := 0) (Nat.lt_of_lt_of_eq (by decide) (Eq.symm (Gkinds_sort.len Gkinds_sort.zero)))) (Upd.refl ((Gkinds_sort.len r'6.1).trans (Gkinds_sort.len Gkinds_sort.zero).symm))) ?_
       refine rp rfl rfl (p_asg rfl rfl) ?_
       refine rz [(6, .q 6 (0)), (7, .i r'6.2)] [(6, .pure (Gkinds_sort.cs r'6.1))] rfl rfl rfl ?_
       refine AW2_ret ?_
       have hz := some_elim H
       subst hz
       exact ⟨⟨res_cella Tryd.underlying54 rfl in_54.sz rfl (Sub.le (Sub.refl _) (Gkinds_sort.len r'6.1)) (by decide) (Sub.take (Sub.refl _) (Gkinds_sort.len r'6.1)), res_tmp (.same _), trivial⟩, trivial⟩
      ·replace H := ite_else h15 H
       refine sg [0, 1] rfl ?_
       refine rp rfl rfl (p_ieq rfl rfl rfl) ?_
       refine rp rfl rfl (p_asg rfl rfl) ?_
       refine rz [(0, .i op0), (5, .q 5 (0)), (6, .q 6 (0)), (42, .b (decide (op0 = (17 : Int))))] [(5, .pure (l2.toList.flatMap Gkinds_sort.cs)), (6, .pure (Gkinds_sort.cs Gkinds_sort.zero))] rfl rfl rfl ?_
       refine AW2_if (p := op0 = (17 : Int)) rfl (fun h17 => ?_) (fun h17 => ?_)
       ·replace H := ite_then h17 H
        refine sg [0, 1, 2] rfl ?_
        refine rp rfl rfl (u_bld rfl in_54 one_54 zc_54 pl_54 rfl (af_cons rfl rfl (Gkinds_sort.upd0 Gkinds_sort.zero (1 : Int)) (af_cons rfl rfl (Gkinds_sort.upd1 ((Gkinds_sort.w0 Gkinds_sort.zero (1 : Int))) false) rfl))) ?_
        refine r_op rfl rfl (u_st rfl rfl rfl rfl rfl in_54 (Gkinds_sort.len ((Gkinds_sort.w1 (Gkinds_sort.w0 Gkinds_sort.zero (1 : Int)) false))) (ne_of_lt (n := 0) (Nat.lt_of_lt_of_eq (by decide) (Eq.symm (Gkinds_sort.len Gkinds_sort.zero)))) (Upd.refl ((Gkinds_sort.len ((Gkinds_sort.w1 (Gkinds_sort.w0 Gkinds_sort.zero (1 : Int)) false))).trans (Gkinds_sort.len Gkinds_sort.zero).symm))) ?_
        refine rp rfl rfl (p_asg rfl rfl) ?_
        refine rz [(6, .q 6 (0)), (7, .i (0 : Int))] [(6, .pure (Gkinds_sort.cs ((Gkinds_sort.w1 (Gkinds_sort.w0 Gkinds_sort.zero (1 : Int)) false))))] rfl rfl rfl ?_
        refine AW2_ret ?_
        have hz := some_elim H
        subst hz
        exact ⟨⟨res_cella Tryd.underlying54 rfl in_54.sz rfl (Sub.le (Sub.refl _) (Gkinds_sort.len ((Gkinds_sort.w1 (Gkinds_sort.w0 Gkinds_sort.zero (1 : Int)) false)))) (by decide) (Sub.take (Sub.refl _) (Gkinds_sort.len ((Gkinds_sort.w1 (Gkinds_sort.w0 Gkinds_sort.zero (1 : Int)) false)))), res_tmp (.same _), trivial⟩, trivial⟩
       ·replace H := ite_else h17 H
        refine as2 [(0, .i op0), (5, .q 5 (0)), (6, .q 6 (0))] [(5, .pure (l2.toList.flatMap Gkinds_sort.cs)), (6, .pure (Gkinds_sort.cs Gkinds_sort.zero))] rfl rfl rfl ?_
        refine AW2_skip ?_
        refine sg [0, 1, 2, 3, 4, 5, 6] rfl ?_
        refine rp rfl rfl (u_ixp rfl rfl Tryd.underlying83 in_54 rfl rfl (ne_of_lt (n := 0) (Nat.lt_of_lt_of_eq (by decide) (Eq.symm (vfm_len (fun x => (Gkinds_sort.len x)) l2)))) rfl rfl (by decide)) ?_
        refine rp rfl rfl (u_lda rfl rfl Tryd.underlying54 rfl in_54 rfl (Nat.succ_pos _) ((Sub.refl _).trans (Sub.vfm (fun x => (Gkinds_sort.len x)) (by decide))) (Gkinds_sort.len (vrd l2 0))) ?_
        refine rp rfl rfl (u_ixp rfl rfl Tryd.underlying83 in_54 rfl rfl (ne_of_lt (n := 0) (Nat.lt_of_lt_of_eq (by decide) (Eq.symm (vfm_len (fun x => (Gkinds_sort.len x)) l2)))) rfl rfl (by decide)) ?_
        refine rp rfl rfl (u_lda rfl rfl Tryd.underlying54 rfl in_54 rfl (Nat.succ_pos _) ((Sub.refl _).trans (Sub.vfm (fun x => (Gkinds_sort.len x)) (by decide))) (Gkinds_sort.len (vrd l2 1))) ?_
        refine bindK H fun r'7 h18 H => ?_
        refine rp rfl rfl (p_callp rfl rfl rfl Tryd.func71 rfl rfl (g_kinds_sort_with_ac h18) ⟨rfl, rfl, trivial⟩) ?_
        refine r_op rfl rfl (MakeD.opD (u_alloc 9 rfl in_54 one_54 zc_54) rfl rfl rfl rfl) ?_
        refine r_op rfl rfl (u_st rfl rfl rfl rfl rfl in_54 (Gkinds_sort.len r'7) (ne_of_lt (n := 0) (Nat.lt_of_lt_of_eq (by decide) (Eq.symm (Gkinds_sort.len Gkinds_sort.zero)))) (Upd.refl ((Gkinds_sort.len r'7).trans (Gkinds_sort.len Gkinds_sort.zero).symm))) ?_
        refine rz [(0, .i op0), (5, .q 5 (0)), (6, .q 6 (0)), (9, .q 9 (0))] [(5, .pure (l2.toList.flatMap Gkinds_sort.cs)), (6, .pure (Gkinds_sort.cs Gkinds_sort.zero)), (9, .pure (Gkinds_sort.cs r'7))] rfl rfl rfl ?_
        refine AW2_seq ?_
        refine AW2_seq ?_
        refine bindK H fun g'12 h24 H => ?_
        refine AW2_mid (⟨[(0, .i op0), (5, .q 5 (0)), (6, .q 6 (0)), (9, .q 9 (0)), (63, .b g'12)], [(5, .pure (l2.toList.flatMap Gkinds_sort.cs)), (6, .pure (Gkinds_sort.cs Gkinds_sort.zero)), (9, .pure (Gkinds_sort.cs r'7))], 81⟩ : TS) ?_ ?_
        ·clear H
         have H := h24
         clear h24
         refine AW2_reg [0, 1, 2, 3, 4, 5, 6, 7, 8, 9, 10, 11, 12, 13] rfl ?_
         refine rp rfl rfl (u_ixp rfl rfl Tryd.underlying83 in_54 rfl rfl (ne_of_lt (n := 0) (Nat.lt_of_lt_of_eq (by decide) (Eq.symm (vfm_len (fun x => (Gkinds_sort.len x)) l2)))) rfl rfl (by decide)) ?_
         refine rp rfl rfl (u_lda rfl rfl Tryd.underlying54 rfl in_54 rfl (Nat.succ_pos _) ((Sub.refl _).trans (Sub.vfm (fun x => (Gkinds_sort.len x)) (by decide))) (Gkinds_sort.len (vrd l2 0))) ?_
         refine rp rfl rfl (u_fa rfl rfl Tryd.underlying54 rfl in_3 (Nat.succ_ne_zero _) rfl rfl (ne_of_lt (n := 0) (Nat.lt_of_lt_of_eq (by decide) (Eq.symm (Gkinds_sort.len r'7))))) ?_
         refine rp rfl rfl (u_ld rfl rfl Tryd.underlying3 rfl rfl ((Sub.refl _).trans (Gkinds_sort.sub0 r'7))) ?_
         refine bindK H fun r'10 h21 H => ?_
         refine rp rfl rfl (p_callp rfl rfl rfl Tryd.func70 rfl rfl (g_kinds_sort_fits_ac h21) ⟨rfl, rfl, trivial⟩) ?_
         refine rp rfl rfl (p_not rfl rfl) ?_
         refine rp rfl rfl (p_move rfl rfl) ?_
         refine (Classical.em ((!r'10) = true)).elim (fun h22 => ?_) (fun h22 => ?_)
         ·replace H := ite_then h22 H
          refine r_off rfl rfl rfl rfl h22 rfl rfl ?_
          refine r_off rfl rfl rfl rfl h22 rfl rfl ?_
          refine r_off rfl rfl rfl rfl h22 rfl rfl ?_
          refine r_off rfl rfl rfl rfl h22 rfl rfl ?_
          refine r_off rfl rfl rfl rfl h22 rfl rfl ?_
          refine r_off rfl rfl rfl rfl h22 rfl rfl ?_
          refine rp rfl rfl (p_pkt rfl rfl h22 (.same _)) ?_
          refine rs [(0, .i op0), (5, .q 5 (0)), (6, .q 6 (0)), (9, .q 9 (0)), (63, .b true)] [(5, .pure (l2.toList.flatMap Gkinds_sort.cs)), (6, .pure (Gkinds_sort.cs Gkinds_sort.zero)), (9, .pure (Gkinds_sort.cs r'7))] rfl rfl rfl ?_
          have hz := some_elim H
          subst hz
          exact RunW_nil rfl
         ·replace H := ite_else h22 H
          refine r_on rfl rfl rfl rfl (bfalse h22) rfl (PureD.opD (u_ixp rfl rfl Tryd.underlying83 in_54 rfl rfl (ne_of_lt (n := 0) (Nat.lt_of_lt_of_eq (by decide) (Eq.symm (vfm_len (fun x => (Gkinds_sort.len x)) l2)))) rfl rfl (by decide))) ?_
          refine r_on rfl rfl rfl rfl (bfalse h22) rfl (PureD.opD (u_lda rfl rfl Tryd.underlying54 rfl in_54 rfl (Nat.succ_pos _) ((Sub.refl _).trans (Sub.vfm (fun x => (Gkinds_sort.len x)) (by decide))) (Gkinds_sort.len (vrd l2 1)))) ?_
          refine r_on rfl rfl rfl rfl (bfalse h22) rfl (PureD.opD (u_fa rfl rfl Tryd.underlying54 rfl in_3 (Nat.succ_ne_zero _) rfl rfl (ne_of_lt (n := 0) (Nat.lt_of_lt_of_eq (by decide) (Eq.symm (Gkinds_sort.len r'7)))))) ?_
          refine r_on rfl rfl rfl rfl (bfalse h22) rfl (PureD.opD (u_ld rfl rfl Tryd.underlying3 rfl rfl ((Sub.refl _).trans (Gkinds_sort.sub0 r'7)))) ?_
          refine bindK H fun r'11 h23 H => ?_
          refine r_on rfl rfl rfl rfl (bfalse h22) rfl (PureD.opD (p_callp rfl rfl rfl Tryd.func70 rfl rfl (g_kinds_sort_fits_ac h23) ⟨rfl, rfl, trivial⟩)) ?_
          refine r_on rfl rfl rfl rfl (bfalse h22) rfl (PureD.opD (p_not rfl rfl)) ?_
          refine rp rfl rfl (p_pkf rfl rfl (bfalse h22) (.same _)) ?_
          refine rs [(0, .i op0), (5, .q 5 (0)), (6, .q 6 (0)), (9, .q 9 (0)), (63, .b (!r'11))] [(5, .pure (l2.toList.flatMap Gkinds_sort.cs)), (6, .pure (Gkinds_sort.cs Gkinds_sort.zero)), (9, .pure (Gkinds_sort.cs r'7))] rfl rfl rfl ?_
          have hz := some_elim H
          subst hz
          exact RunW_nil rfl
        ·refine AW2_cond rfl (fun h25 => ?_) (fun h25 => ?_)
         ·replace H := ite_then h25 H
          refine sg [0, 1, 2] rfl ?_
          refine rp rfl rfl (u_bld rfl in_54 one_54 zc_54 pl_54 rfl rfl) ?_
          refine r_op rfl rfl (u_st rfl rfl rfl rfl rfl in_54 (Gkinds_sort.len Gkinds_sort.zero) (ne_of_lt (n := 0) (Nat.lt_of_lt_of_eq (by decide) (Eq.symm (Gkinds_sort.len Gkinds_sort.zero)))) (Upd.refl ((Gkinds_sort.len Gkinds_sort.zero).trans (Gkinds_sort.len Gkinds_sort.zero).symm))) ?_
          refine rp rfl rfl (p_asg rfl rfl) ?_
          refine rz [(6, .q 6 (0)), (7, .i (2 : Int))] [(6, .pure (Gkinds_sort.cs Gkinds_sort.zero))] rfl rfl rfl ?_
          refine AW2_ret ?_
          have hz := some_elim H
          subst hz
          exact ⟨⟨res_cella Tryd.underlying54 rfl in_54.sz rfl (Sub.le (Sub.refl _) (Gkinds_sort.len Gkinds_sort.zero)) (by decide) (Sub.take (Sub.refl _) (Gkinds_sort.len Gkinds_sort.zero)), res_tmp (.same _), trivial⟩, trivial⟩
         ·replace H := ite_else (ne_true h25) H
          refine as2 [(0, .i op0), (5, .q 5 (0)), (6, .q 6 (0)), (9, .q 9 (0))] [(5, .pure (l2.toList.flatMap Gkinds_sort.cs)), (6, .pure (Gkinds_sort.cs Gkinds_sort.zero)), (9, .pure (Gkinds_sort.cs r'7))] rfl rfl rfl ?_
          refine AW2_skip ?_
          refine AW2_seq ?_
          refine sg [0, 1] rfl ?_
          refine rp rfl rfl (p_move rfl rfl) ?_
          refine rp rfl rfl (p_ieq rfl rfl rfl) ?_
          refine rz [(5, .q 5 (0)), (6, .q 6 (0)), (9, .q 9 (0)), (66, .b (decide (op0 = (20 : Int))))] [(5, .pure (l2.toList.flatMap Gkinds_sort.cs)), (6, .pure (Gkinds_sort.cs Gkinds_sort.zero)), (9, .pure (Gkinds_sort.cs r'7))] rfl rfl rfl ?_
          refine AW2_if (p := op0 = (20 : Int)) rfl (fun h26 => ?_) (fun h26 => ?_)
          ·replace H := ite_then h26 H
           refine AW2_seq ?_
           refine AW2_mid (⟨[(6, .q 6 (0)), (7, .i (0 : Int))], [(6, .pure (Gkinds_sort.cs ((Gkinds_sort.w1 (Gkinds_sort.w0 Gkinds_sort.zero r'7.kind_) (decide ((((vrd l2 0).null_) = true) ∧ (((vrd l2 1).null_) = true)))))))], 81⟩ : TS) ?_ ?_
           ·refine AW2_reg [0, 1, 2, 3, 4, 5, 6, 7, 8, 9, 10, 11, 12] rfl ?_
            refine rp rfl rfl (u_fa rfl rfl Tryd.underlying54 rfl in_3 (Nat.succ_ne_zero _) rfl rfl (ne_of_lt (n := 0) (Nat.lt_of_lt_of_eq (by decide) (Eq.symm (Gkinds_sort.len r'7))))) ?_
            refine rp rfl rfl (u_ld rfl rfl Tryd.underlying3 rfl rfl ((Sub.refl _).trans (Gkinds_sort.sub0 r'7))) ?_
            refine rp rfl rfl (u_ixp rfl rfl Tryd.underlying83 in_54 rfl rfl (ne_of_lt (n := 0) (Nat.lt_of_lt_of_eq (by decide) (Eq.symm (vfm_len (fun x => (Gkinds_sort.len x)) l2)))) rfl rfl (by decide)) ?_
            refine rp rfl rfl (u_fa rfl rfl Tryd.underlying54 rfl in_4 (Nat.succ_ne_zero _) rfl rfl (ne_of_lt (n := 0) (Nat.lt_of_lt_of_eq (by decide) (Eq.symm (vfm_len (fun x => (Gkinds_sort.len x)) l2))))) ?_
            refine rp rfl rfl (u_ld rfl rfl Tryd.underlying4 rfl rfl (((Sub.refl _).trans (Sub.vfm (fun x => (Gkinds_sort.len x)) (by decide))).trans (Gkinds_sort.sub1 (vrd l2 0)))) ?_
            refine rp rfl rfl (p_move rfl rfl) ?_
            refine (Classical.em (((vrd l2 0).null_) = true)).elim (fun h27 => ?_) (fun h27 => ?_)
            ·refine rn rfl rfl rfl rfl h27 rfl (u_ixp rfl rfl Tryd.underlying83 in_54 rfl rfl (ne_of_lt (n := 0) (Nat.lt_of_lt_of_eq (by decide) (Eq.symm (vfm_len (fun x => (Gkinds_sort.len x)) l2)))) rfl rfl (by decide)) ?_
             refine rn rfl rfl rfl rfl h27 rfl (u_fa rfl rfl Tryd.underlying54 rfl in_4 (Nat.succ_ne_zero _) rfl rfl (ne_of_lt (n := 0) (Nat.lt_of_lt_of_eq (by decide) (Eq.symm (vfm_len (fun x => (Gkinds_sort.len x)) l2))))) ?_
             refine rn rfl rfl rfl rfl h27 rfl (u_ld rfl rfl Tryd.underlying4 rfl rfl (((Sub.refl _).trans (Sub.vfm (fun x => (Gkinds_sort.len x)) (by decide))).trans (Gkinds_sort.sub1 (vrd l2 1)))) ?_
             refine rp rfl rfl (p_pkt rfl rfl h27 (tb ((bdec _).trans (and_l (p := ((vrd l2 0).null_) = true) (q := ((vrd l2 1).null_) = true) h27)))) ?_
             refine rp rfl rfl (u_bld rfl in_54 one_54 zc_54 pl_54 rfl (af_cons rfl rfl (Gkinds_sort.upd0 Gkinds_sort.zero r'7.kind_) (af_cons rfl rfl (Gkinds_sort.upd1 ((Gkinds_sort.w0 Gkinds_sort.zero r'7.kind_)) (decide ((((vrd l2 0).null_) = true) ∧ (((vrd l2 1).null_) = true)))) rfl))) ?_
             refine r_op rfl rfl (u_st rfl rfl rfl rfl rfl in_54 (Gkinds_sort.len ((Gkinds_sort.w1 (Gkinds_sort.w0 Gkinds_sort.zero r'7.kind_) (decide ((((vrd l2 0).null_) = true) ∧ (((vrd l2 1).null_) = true)))))) (ne_of_lt (n := 0) (Nat.lt_of_lt_of_eq (by decide) (Eq.symm (Gkinds_sort.len Gkinds_sort.zero)))) (Upd.refl ((Gkinds_sort.len ((Gkinds_sort.w1 (Gkinds_sort.w0 Gkinds_sort.zero r'7.kind_) (decide ((((vrd l2 0).null_) = true) ∧ (((vrd l2 1).null_) = true)))))).trans (Gkinds_sort.len Gkinds_sort.zero).symm))) ?_
             refine rp rfl rfl (p_asg rfl rfl) ?_
             refine rs [(6, .q 6 (0)), (7, .i (0 : Int))] [(6, .pure (Gkinds_sort.cs ((Gkinds_sort.w1 (Gkinds_sort.w0 Gkinds_sort.zero r'7.kind_) (decide ((((vrd l2 0).null_) = true) ∧ (((vrd l2 1).null_) = true)))))))] rfl rfl rfl ?_
             exact RunW_nil rfl
            ·refine r_off rfl rfl rfl rfl (bfalse h27) rfl rfl ?_
             refine r_off rfl rfl rfl rfl (bfalse h27) rfl rfl ?_
             refine r_off rfl rfl rfl rfl (bfalse h27) rfl rfl ?_
             refine rp rfl rfl (p_pkf rfl rfl (bfalse h27) (tb (decide_eq_false (p := (((vrd l2 0).null_) = true) ∧ (((vrd l2 1).null_) = true)) (fun x => h27 x.1)).symm)) ?_
             refine rp rfl rfl (u_bld rfl in_54 one_54 zc_54 pl_54 rfl (af_cons rfl rfl (Gkinds_sort.upd0 Gkinds_sort.zero r'7.kind_) (af_cons rfl rfl (Gkinds_sort.upd1 ((Gkinds_sort.w0 Gkinds_sort.zero r'7.kind_)) (decide ((((vrd l2 0).null_) = true) ∧ (((vrd l2 1).null_) = true)))) rfl))) ?_
             refine r_op rfl rfl (u_st rfl rfl rfl rfl rfl in_54 (Gkinds_sort.len ((Gkinds_sort.w1 (Gkinds_sort.w0 Gkinds_sort.zero r'7.kind_) (decide ((((vrd l2 0).null_) = true) ∧ (((vrd l2 1).null_) = true)))))) (ne_of_lt (n := 0) (Nat.lt_of_lt_of_eq (by decide) (Eq.symm (Gkinds_sort.len Gkinds_sort.zero)))) (Upd.refl ((Gkinds_sort.len ((Gkinds_sort.w1 (Gkinds_sort.w0 Gkinds_sort.zero r'7.kind_) (decide ((((vrd l2 0).null_) = true) ∧ (((vrd l2 1).null_) = true)))))).trans (Gkinds_sort.len Gkinds_sort.zero).symm))) ?_
             refine rp rfl rfl (p_asg rfl rfl) ?_
             refine rs [(6, .q 6 (0)), (7, .i (0 : Int))] [(6, .pure (Gkinds_sort.cs ((Gkinds_sort.w1 (Gkinds_sort.w0 Gkinds_sort.zero r'7.kind_) (decide ((((vrd l2 0).null_) = true) ∧ (((vrd l2 1).null_) = true)))))))] rfl rfl rfl ?_
             exact RunW_nil rfl
           ·refine gen1 (fun t6'13 => (⟨[(6, .q 6 (0)), (7, .i (0 : Int))], [(6, .pure (Gkinds_sort.cs t6'13))], 81⟩ : TS)) H ?_
            intro t6'13 H
            refine AW2_ret ?_
            have hz := some_elim H
            subst hz
            exact ⟨⟨res_cella Tryd.underlying54 rfl in_54.sz rfl (Sub.le (Sub.refl _) (Gkinds_sort.len t6'13)) (by decide) (Sub.take (Sub.refl _) (Gkinds_sort.len t6'13)), res_tmp (.same _), trivial⟩, trivial⟩
          ·replace H := ite_else h26 H
           refine as2 [(6, .q 6 (0)), (9, .q 9 (0))] [(6, .pure (Gkinds_sort.cs Gkinds_sort.zero)), (9, .pure (Gkinds_sort.cs r'7))] rfl rfl rfl ?_
           refine AW2_skip ?_
           refine sg [0, 1, 2, 3, 4] rfl ?_
           refine rp rfl rfl (u_fa rfl rfl Tryd.underlying54 rfl in_4 (Nat.succ_ne_zero _) rfl rfl (ne_of_lt (n := 0) (Nat.lt_of_lt_of_eq (by decide) (Eq.symm (Gkinds_sort.len r'7))))) ?_
           refine rp rfl rfl (u_ld rfl rfl Tryd.underlying4 rfl rfl ((Sub.refl _).trans (Gkinds_sort.sub1 r'7))) ?_
           refine rp rfl rfl (u_bld rfl in_54 one_54 zc_54 pl_54 rfl (af_cons rfl rfl (Gkinds_sort.upd0 Gkinds_sort.zero (1 : Int)) (af_cons rfl rfl (Gkinds_sort.upd1 ((Gkinds_sort.w0 Gkinds_sort.zero (1 : Int))) r'7.null_) rfl))) ?_
           refine r_op rfl rfl (u_st rfl rfl rfl rfl rfl in_54 (Gkinds_sort.len ((Gkinds_sort.w1 (Gkinds_sort.w0 Gkinds_sort.zero (1 : Int)) r'7.null_))) (ne_of_lt (n := 0) (Nat.lt_of_lt_of_eq (by decide) (Eq.symm (Gkinds_sort.len Gkinds_sort.zero)))) (Upd.refl ((Gkinds_sort.len ((Gkinds_sort.w1 (Gkinds_sort.w0 Gkinds_sort.zero (1 : Int)) r'7.null_))).trans (Gkinds_sort.len Gkinds_sort.zero).symm))) ?_
           refine rp rfl rfl (p_asg rfl rfl) ?_
           refine rz [(6, .q 6 (0)), (7, .i (0 : Int))] [(6, .pure (Gkinds_sort.cs ((Gkinds_sort.w1 (Gkinds_sort.w0 Gkinds_sort.zero (1 : Int)) r'7.null_))))] rfl rfl rfl ?_
           refine gen1 (fun t6'14 => (⟨[(6, .q 6 (0)), (7, .i (0 : Int))], [(6, .pure (Gkinds_sort.cs t6'14))], 81⟩ : TS)) H ?_
           intro t6'14 H
           refine AW2_ret ?_
           have hz := some_elim H
           subst hz
           exact ⟨⟨res_cella Tryd.underlying54 rfl in_54.sz rfl (Sub.le (Sub.refl _) (Gkinds_sort.len t6'14)) (by decide) (Sub.take (Sub.refl _) (Gkinds_sort.len t6'14)), res_tmp (.same _), trivial⟩, trivial⟩

/-! kinds.of -/
noncomputable def g_kinds_of_l0 (e0 : GExpr) (cols1 : List GColumn) : Int → Option (Int ⊕ ((Gkinds_sort × Int) ⊕ Unit))
  | t29_0 => (if t29_0 < (cols1.length : Int) then if 0 ≤ t29_0 ∧ t29_0 < (cols1.length : Int) then (if (lrd cols1 t29_0.toNat).Name = e0.Name then letO ({ { Gkinds_sort.zero with kind_ := (lrd cols1 t29_0.toNat).Kind } with null_ := (lrd cols1 t29_0.toNat).Null }) fun t4'2 => some (.inr (.inl (t4'2, (0 : Int)))) else some (.inl (w64 (t29_0 + (1 : Int))))) else none else some (.inr (.inr ())))
noncomputable def g_kinds_of_l1 (e0 : GExpr) (cols1 : List GColumn) (R' : GExpr → (List GColumn) → Option (Gkinds_sort × Int)) : Int × (Vector Gkinds_sort 2) → Option ((Int × (Vector Gkinds_sort 2)) ⊕ ((Gkinds_sort × Int) ⊕ ((Vector Gkinds_sort 2))))
  | (t48_1, l8_1) => (if t48_1 < (e0.Args.length : Int) then if 0 ≤ t48_1 ∧ t48_1 < (e0.Args.length : Int) then (R' (lrd e0.Args t48_1.toNat) cols1).bind fun r'9 => (if r'9.2 ≠ (0 : Int) then some (.inr (.inl (Gkinds_sort.zero, r'9.2))) else if 0 ≤ t48_1 ∧ t48_1 < (2 : Int) then some (.inl (w64 (t48_1 + (1 : Int)), (vwr l8_1 t48_1.toNat r'9.1))) else none) else none else some (.inr (.inr l8_1)))
noncomputable def g_kinds_of_b (R' : GExpr → (List GColumn) → Option (Gkinds_sort × Int)) (e0 : GExpr) (cols1 : List GColumn) : Option (Gkinds_sort × Int) :=
  (if e0.Op = (1 : Int) then letO ({ { Gkinds_sort.zero with kind_ := e0.Value.Kind } with null_ := (decide (e0.Value.Kind = (0 : Int))) }) fun t4'1 => some (t4'1, (0 : Int)) else (if e0.Op = (2 : Int) then (loopO (g_kinds_of_l0 e0 cols1) (0 : Int)).bind fun o'6 => match o'6 with | .inl y'7 => some y'7 | .inr (y'8) => some (Gkinds_sort.zero, (5 : Int)) else (loopO (g_kinds_of_l1 e0 cols1 R') ((0 : Int), (Vector.replicate 2 Gkinds_sort.zero))).bind fun o'13 => match o'13 with | .inl y'14 => some y'14 | .inr (y'15) => (g_kinds_joined e0.Op (e0.Args.length : Int) y'15).bind fun r'16 => some (r'16.1, r'16.2)))
noncomputable def g_kinds_of : Nat → GExpr → (List GColumn) → Option (Gkinds_sort × Int)
  | 0, _, _ => none
  | fu + 1, e0, cols1 => g_kinds_of_b (g_kinds_of fu) e0 cols1
set_option maxHeartbeats 4000000 in
set_option maxRecDepth 100000 in
theorem g_kinds_of_ac0 {R' : GExpr → (List GColumn) → Option (Gkinds_sort × Int)} (hR : ∀ {e0 : GExpr} {cols1 : List GColumn} {r : Gkinds_sort × Int}, R' e0 cols1 = some r → ACp Tryd.prog 20 [(.agg (GExpr.cs e0)), ((fun q : List GColumn => AV.lst (q.flatMap GColumn.cs) q.length) cols1)] (.tup [(.agg (Gkinds_sort.cs r.1)), (AV.int r.2)])) {e0 : GExpr} {cols1 : List GColumn} {r : Gkinds_sort × Int} (H : g_kinds_of_b R' e0 cols1 = some r) : ACp Tryd.prog 20 [(.agg (GExpr.cs e0)), ((fun q : List GColumn => AV.lst (q.flatMap GColumn.cs) q.length) cols1)] (.tup [(.agg (Gkinds_sort.cs r.1)), (AV.int r.2)]) := by
 refine ACp_of (AC2_of_body (vs := [.g (Gkinds_sort.cs r.1), .i r.2]) Tryd.func20 rfl rfl (Nat.le_of_ble_eq_true rfl) rfl ?_) (fun _ => .same _)
 unfold g_kinds_of_b at H
 refine as2 [(0, .g (GExpr.cs e0)), (1, .p ((fun q : List GColumn => AV.lst (q.flatMap GColumn.cs) q.length) cols1))] [] rfl rfl rfl ?_
 refine sg [0, 1, 2] rfl ?_
 refine r_op rfl rfl (MakeD.opD (n_box 2 rfl rfl) rfl rfl rfl rfl) ?_
 refine r_op rfl rfl (MakeD.opD (u_alloc 4 rfl in_54 one_54 zc_54) rfl rfl rfl rfl) ?_
 refine rp rfl rfl (p_asg rfl rfl) ?_
 refine rz [(1, .p ((fun q : List GColumn => AV.lst (q.flatMap GColumn.cs) q.length) cols1)), (2, .q 2 (0)), (4, .q 4 (0))] [(2, .pure (GExpr.cs e0)), (4, .pure (Gkinds_sort.cs Gkinds_sort.zero))] rfl rfl rfl ?_
 refine AW2_seq ?_
 refine sg [0, 1] rfl ?_
 refine rp rfl rfl (u_fa rfl rfl Tryd.underlying27 rfl in_3 (Nat.succ_ne_zero _) rfl rfl (ne_of_lt (n := 0) (Nat.lt_of_lt_of_eq (by decide) (Eq.symm (GExpr.len e0))))) ?_
 refine rp rfl rfl (u_ld rfl rfl Tryd.underlying3 rfl rfl ((Sub.refl _).trans (GExpr.sub0 e0))) ?_
 refine rz [(1, .p ((fun q : List GColumn => AV.lst (q.flatMap GColumn.cs) q.length) cols1)), (2, .q 2 (0)), (4, .q 4 (0)), (14, .i e0.Op)] [(2, .pure (GExpr.cs e0)), (4, .pure (Gkinds_sort.cs Gkinds_sort.zero))] rfl rfl rfl ?_
 refine AW2_block ?_
 refine sg [0, 1] rfl ?_
 refine rp rfl rfl (p_ieq rfl rfl rfl) ?_
 refine rp rfl rfl (p_asg rfl rfl) ?_
 refine rz [(1, .p ((fun q : List GColumn => AV.lst (q.flatMap GColumn.cs) q.length) cols1)), (2, .q 2 (0)), (4, .q 4 (0)), (14, .i e0.Op), (15, .b (decide (e0.Op = (1 : Int))))] [(2, .pure (GExpr.cs e0)), (4, .pure (Gkinds_sort.cs Gkinds_sort.zero))] rfl rfl rfl ?_
 refine AW2_if (p := e0.Op = (1 : Int)) rfl (fun h1 => ?_) (fun h1 => ?_)
 ·replace H := ite_then h1 H
  refine sg [0, 1, 2, 3, 4, 5, 6, 7, 8, 9] rfl ?_
  refine rp rfl rfl (u_fa rfl rfl Tryd.underlying27 rfl in_24 (Nat.succ_ne_zero _) rfl rfl (ne_of_lt (n := 0) (Nat.lt_of_lt_of_eq (by decide) (Eq.symm (GExpr.len e0))))) ?_
  refine rp rfl rfl (u_fa rfl rfl Tryd.underlying24 rfl in_3 (Nat.succ_ne_zero _) rfl rfl (ne_of_lt (n := 0) (Nat.lt_of_lt_of_eq (by decide) (Eq.symm (GExpr.len e0))))) ?_
  refine rp rfl rfl (u_ld rfl rfl Tryd.underlying3 rfl rfl (((Sub.refl _).trans (GExpr.sub1 e0)).trans (GValue.sub0 e0.Value))) ?_
  refine rp rfl rfl (u_fa rfl rfl Tryd.underlying27 rfl in_24 (Nat.succ_ne_zero _) rfl rfl (ne_of_lt (n := 0) (Nat.lt_of_lt_of_eq (by decide) (Eq.symm (GExpr.len e0))))) ?_
  refine rp rfl rfl (u_fa rfl rfl Tryd.underlying24 rfl in_3 (Nat.succ_ne_zero _) rfl rfl (ne_of_lt (n := 0) (Nat.lt_of_lt_of_eq (by decide) (Eq.symm (GExpr.len e0))))) ?_
  refine rp rfl rfl (u_ld rfl rfl Tryd.underlying3 rfl rfl (((Sub.refl _).trans (GExpr.sub1 e0)).trans (GValue.sub0 e0.Value))) ?_
  refine rp rfl rfl (p_ieq rfl rfl rfl) ?_
  refine rp rfl rfl (u_bld rfl in_54 one_54 zc_54 pl_54 rfl (af_cons rfl rfl (Gkinds_sort.upd0 Gkinds_sort.zero e0.Value.Kind) (af_cons rfl rfl (Gkinds_sort.upd1 ((Gkinds_sort.w0 Gkinds_sort.zero e0.Value.Kind)) (decide (e0.Value.Kind = (0 : Int)))) rfl))) ?_
  refine r_op rfl rfl (u_st rfl rfl rfl rfl rfl in_54 (Gkinds_sort.len ((Gkinds_sort.w1 (Gkinds_sort.w0 Gkinds_sort.zero e0.Value.Kind) (decide (e0.Value.Kind = (0 : Int)))))) (ne_of_lt (n := 0) (Nat.lt_of_lt_of_eq (by decide) (Eq.symm (Gkinds_sort.len Gkinds_sort.zero)))) (Upd.refl ((Gkinds_sort.len ((Gkinds_sort.w1 (Gkinds_sort.w0 Gkinds_sort.zero e0.Value.Kind) (decide (e0.Value.Kind = (0 : Int)))))).trans (Gkinds_sort.len Gkinds_sort.zero).symm))) ?_
  refine rp rfl rfl (p_asg rfl rfl) ?_
  refine rz [(4, .q 4 (0)), (5, .i (0 : Int))] [(4, .pure (Gkinds_sort.cs ((Gkinds_sort.w1 (Gkinds_sort.w0 Gkinds_sort.zero e0.Value.Kind) (decide (e0.Value.Kind = (0 : Int)))))))] rfl rfl rfl ?_
  refine gen1 (fun t4'1 => (⟨[(4, .q 4 (0)), (5, .i (0 : Int))], [(4, .pure (Gkinds_sort.cs t4'1))], 76⟩ : TS)) H ?_
  intro t4'1 H
  refine AW2_ret ?_
  have hz := some_elim H
  subst hz
  exact ⟨⟨res_cella Tryd.underlying54 rfl in_54.sz rfl (Sub.le (Sub.refl _) (Gkinds_sort.len t4'1)) (by decide) (Sub.take (Sub.refl _) (Gkinds_sort.len t4'1)), res_tmp (.same _), trivial⟩, trivial⟩
 ·replace H := ite_else h1 H
  refine sg [0, 1] rfl ?_
  refine rp rfl rfl (p_ieq rfl rfl rfl) ?_
  refine rp rfl rfl (p_asg rfl rfl) ?_
  refine rz [(1, .p ((fun q : List GColumn => AV.lst (q.flatMap GColumn.cs) q.length) cols1)), (2, .q 2 (0)), (4, .q 4 (0)), (25, .b (decide (e0.Op = (2 : Int))))] [(2, .pure (GExpr.cs e0)), (4, .pure (Gkinds_sort.cs Gkinds_sort.zero))] rfl rfl rfl ?_
  refine AW2_if (p := e0.Op = (2 : Int)) rfl (fun h2 => ?_) (fun h2 => ?_)
  ·replace H := ite_then h2 H
   refine AW2_seq ?_
   refine sg [0, 1, 2] rfl ?_
   refine rp rfl rfl (p_move rfl rfl) ?_
   refine rp rfl rfl (p_lenl rfl Tryd.underlying28 rfl rfl) ?_
   refine rp rfl rfl (p_move rfl rfl) ?_
   refine rz [(2, .q 2 (0)), (4, .q 4 (0)), (27, .p ((fun q : List GColumn => AV.lst (q.flatMap GColumn.cs) q.length) cols1)), (28, .i (cols1.length : Int)), (29, .i (0 : Int))] [(2, .pure (GExpr.cs e0)), (4, .pure (Gkinds_sort.cs Gkinds_sort.zero))] rfl rfl rfl ?_
   refine AW2_block ?_
   refine as2 [(2, .q 2 (0)), (4, .q 4 (0)), (27, .p ((fun q : List GColumn => AV.lst (q.flatMap GColumn.cs) q.length) cols1)), (28, .i (cols1.length : Int)), (29, .i (0 : Int))] [(2, .pure (GExpr.cs e0)), (4, .pure (Gkinds_sort.cs Gkinds_sort.zero))] rfl rfl rfl ?_
   refine bindK H fun o'6 h6 H => ?_
   refine AW2_loopO (fun a'3 : Int => (⟨[(2, .q 2 (0)), (4, .q 4 (0)), (27, .p ((fun q : List GColumn => AV.lst (q.flatMap GColumn.cs) q.length) cols1)), (28, .i (cols1.length : Int)), (29, .i a'3)], [(2, .pure (GExpr.cs e0)), (4, .pure (Gkinds_sort.cs Gkinds_sort.zero))], 76⟩ : TS)) (fun (o : (Gkinds_sort × Int) ⊕ Unit) e s' => match o with | .inl y'4 => e = Go.Exit.ret ∧ ResAll Tryd.prog s' [ResultVar.cell 4 54, ResultVar.tmp 5] [.g (Gkinds_sort.cs y'4.1), .i y'4.2] ∧ HFits s' [] | .inr (y'5) => e = Go.Exit.exit 1 ∧ s' = (⟨[(4, .q 4 (0))], [(4, .pure (Gkinds_sort.cs Gkinds_sort.zero))], 76⟩ : TS)) h6 rfl (fun t29_0 x hx => ?_) (fun e s' hs => ?_)
   ·clear H
    have H := hx
    clear hx
    unfold g_kinds_of_l0 at H
    refine sg [0] rfl ?_
    refine rp rfl rfl (p_bin rfl rfl rfl rfl) ?_
    refine rz [(2, .q 2 (0)), (4, .q 4 (0)), (27, .p ((fun q : List GColumn => AV.lst (q.flatMap GColumn.cs) q.length) cols1)), (28, .i (cols1.length : Int)), (29, .i t29_0), (30, .b (decide (t29_0 < (cols1.length : Int))))] [(2, .pure (GExpr.cs e0)), (4, .pure (Gkinds_sort.cs Gkinds_sort.zero))] rfl rfl rfl ?_
    refine AW2_seq ?_
    refine AW2_if (p := t29_0 < (cols1.length : Int)) rfl (fun h3 => ?_) (fun h3 => ?_)
    ·replace H := ite_then h3 H
     refine as2 [(2, .q 2 (0)), (4, .q 4 (0)), (27, .p ((fun q : List GColumn => AV.lst (q.flatMap GColumn.cs) q.length) cols1)), (28, .i (cols1.length : Int)), (29, .i t29_0)] [(2, .pure (GExpr.cs e0)), (4, .pure (Gkinds_sort.cs Gkinds_sort.zero))] rfl rfl rfl ?_
     refine AW2_skip ?_
     refine AW2_seq ?_
     refine AW2_block ?_
     refine sg [0, 1, 2, 3] rfl ?_
     refine chkK H fun h4 H => ?_
     refine rp rfl rfl (u_ixl rfl rfl Tryd.underlying28 in_59 rfl rfl (ixe h4) (ixn h4) (fne (fun x => (GColumn.len x)) (by decide) (ixn h4))) ?_
     refine rp rfl rfl (u_lda rfl rfl Tryd.underlying59 rfl in_59 rfl (Nat.succ_pos _) (Sub.fm default (fun x => (GColumn.len x)) (ixn h4)) (GColumn.len (lrd cols1 t29_0.toNat))) ?_
     refine r_op rfl rfl (MakeD.opD (u_alloc 7 rfl in_59 one_59 zc_59) rfl rfl rfl rfl) ?_
     refine r_op rfl rfl (u_st rfl rfl rfl rfl rfl in_59 (GColumn.len (lrd cols1 t29_0.toNat)) (ne_of_lt (n := 0) (Nat.lt_of_lt_of_eq (by decide) (Eq.symm (GColumn.len GColumn.zero)))) (Upd.refl ((GColumn.len (lrd cols1 t29_0.toNat)).trans (GColumn.len GColumn.zero).symm))) ?_
     refine rz [(2, .q 2 (0)), (4, .q 4 (0)), (7, .q 7 (0)), (27, .p ((fun q : List GColumn => AV.lst (q.flatMap GColumn.cs) q.length) cols1)), (28, .i (cols1.length : Int)), (29, .i t29_0)] [(2, .pure (GExpr.cs e0)), (4, .pure (Gkinds_sort.cs Gkinds_sort.zero)), (7, .pure (GColumn.cs (lrd cols1 t29_0.toNat)))] rfl rfl rfl ?_
     refine sg [0, 1, 2, 3, 4] rfl ?_
     refine rp rfl rfl (u_fa rfl rfl Tryd.underlying59 rfl in_9 (Nat.succ_ne_zero _) rfl rfl (ne_of_lt (n := 0) (Nat.lt_of_lt_of_eq (by decide) (Eq.symm (GColumn.len (lrd cols1 t29_0.toNat)))))) ?_
     refine rp rfl rfl (u_ld rfl rfl Tryd.underlying9 rfl rfl ((Sub.refl _).trans (GColumn.sub0 (lrd cols1 t29_0.toNat)))) ?_
     refine rp rfl rfl (u_fa rfl rfl Tryd.underlying27 rfl in_9 (Nat.succ_ne_zero _) rfl rfl (ne_of_lt (n := 0) (Nat.lt_of_lt_of_eq (by decide) (Eq.symm (GExpr.len e0))))) ?_
     refine rp rfl rfl (u_ld rfl rfl Tryd.underlying9 rfl rfl ((Sub.refl _).trans (GExpr.sub2 e0))) ?_
     refine rp rfl rfl (p_seq rfl rfl rfl) ?_
     refine rz [(2, .q 2 (0)), (4, .q 4 (0)), (7, .q 7 (0)), (27, .p ((fun q : List GColumn => AV.lst (q.flatMap GColumn.cs) q.length) cols1)), (28, .i (cols1.length : Int)), (29, .i t29_0), (37, .b (decide ((lrd cols1 t29_0.toNat).Name = e0.Name)))] [(2, .pure (GExpr.cs e0)), (4, .pure (Gkinds_sort.cs Gkinds_sort.zero)), (7, .pure (GColumn.cs (lrd cols1 t29_0.toNat)))] rfl rfl rfl ?_
     refine AW2_if (p := (lrd cols1 t29_0.toNat).Name = e0.Name) rfl (fun h5 => ?_) (fun h5 => ?_)
     ·replace H := ite_then h5 H
      refine sg [0, 1, 2, 3, 4, 5, 6] rfl ?_
      refine rp rfl rfl (u_fa rfl rfl Tryd.underlying59 rfl in_3 (Nat.succ_ne_zero _) rfl rfl (ne_of_lt (n := 0) (Nat.lt_of_lt_of_eq (by decide) (Eq.symm (GColumn.len (lrd cols1 t29_0.toNat)))))) ?_
      refine rp rfl rfl (u_ld rfl rfl Tryd.underlying3 rfl rfl ((Sub.refl _).trans (GColumn.sub1 (lrd cols1 t29_0.toNat)))) ?_
      refine rp rfl rfl (u_fa rfl rfl Tryd.underlying59 rfl in_4 (Nat.succ_ne_zero _) rfl rfl (ne_of_lt (n := 0) (Nat.lt_of_lt_of_eq (by decide) (Eq.symm (GColumn.len (lrd cols1 t29_0.toNat)))))) ?_
      refine rp rfl rfl (u_ld rfl rfl Tryd.underlying4 rfl rfl ((Sub.refl _).trans (GColumn.sub2 (lrd cols1 t29_0.toNat)))) ?_
      refine rp rfl rfl (u_bld rfl in_54 one_54 zc_54 pl_54 rfl (af_cons rfl rfl (Gkinds_sort.upd0 Gkinds_sort.zero ((lrd cols1 t29_0.toNat).Kind)) (af_cons rfl rfl (Gkinds_sort.upd1 ((Gkinds_sort.w0 Gkinds_sort.zero ((lrd cols1 t29_0.toNat).Kind))) ((lrd cols1 t29_0.toNat).Null)) rfl))) ?_
      refine r_op rfl rfl (u_st rfl rfl rfl rfl rfl in_54 (Gkinds_sort.len ((Gkinds_sort.w1 (Gkinds_sort.w0 Gkinds_sort.zero ((lrd cols1 t29_0.toNat).Kind)) ((lrd cols1 t29_0.toNat).Null)))) (ne_of_lt (n := 0) (Nat.lt_of_lt_of_eq (by decide) (Eq.symm (Gkinds_sort.len Gkinds_sort.zero)))) (Upd.refl ((Gkinds_sort.len ((Gkinds_sort.w1 (Gkinds_sort.w0 Gkinds_sort.zero ((lrd cols1 t29_0.toNat).Kind)) ((lrd cols1 t29_0.toNat).Null)))).trans (Gkinds_sort.len Gkinds_sort.zero).symm))) ?_
      refine rp rfl rfl (p_asg rfl rfl) ?_
      refine rz [(4, .q 4 (0)), (5, .i (0 : Int))] [(4, .pure (Gkinds_sort.cs ((Gkinds_sort.w1 (Gkinds_sort.w0 Gkinds_sort.zero ((lrd cols1 t29_0.toNat).Kind)) ((lrd cols1 t29_0.toNat).Null)))))] rfl rfl rfl ?_
      refine gen1 (fun t4'2 => (⟨[(4, .q 4 (0)), (5, .i (0 : Int))], [(4, .pure (Gkinds_sort.cs t4'2))], 76⟩ : TS)) H ?_
      intro t4'2 H
      refine AW2_ret ?_
      have hz := some_elim H
      subst hz
      exact ⟨rfl, ⟨res_cella Tryd.underlying54 rfl in_54.sz rfl (Sub.le (Sub.refl _) (Gkinds_sort.len t4'2)) (by decide) (Sub.take (Sub.refl _) (Gkinds_sort.len t4'2)), res_tmp (.same _), trivial⟩, trivial⟩
     ·replace H := ite_else h5 H
      refine as2 [(2, .q 2 (0)), (4, .q 4 (0)), (27, .p ((fun q : List GColumn => AV.lst (q.flatMap GColumn.cs) q.length) cols1)), (28, .i (cols1.length : Int)), (29, .i t29_0)] [(2, .pure (GExpr.cs e0)), (4, .pure (Gkinds_sort.cs Gkinds_sort.zero))] rfl rfl rfl ?_
      refine AW2_skip ?_
      refine AW2_reg [0, 1] rfl ?_
      refine rp rfl rfl (p_bin rfl rfl rfl rfl) ?_
      refine rp rfl rfl (p_move rfl rfl) ?_
      refine rz [(2, .q 2 (0)), (4, .q 4 (0)), (27, .p ((fun q : List GColumn => AV.lst (q.flatMap GColumn.cs) q.length) cols1)), (28, .i (cols1.length : Int)), (29, .i (w64 (t29_0 + (1 : Int))))] [(2, .pure (GExpr.cs e0)), (4, .pure (Gkinds_sort.cs Gkinds_sort.zero))] rfl rfl rfl ?_
      have hz := some_elim H
      subst hz
      exact ⟨rfl, rfl⟩
    ·replace H := ite_else h3 H
     refine as2 [(4, .q 4 (0))] [(4, .pure (Gkinds_sort.cs Gkinds_sort.zero))] rfl rfl rfl ?_
     refine AW2_exit ?_
     refine thenQ2_exit ?_
     have hz := some_elim H
     subst hz
     exact ⟨rfl, rfl⟩
   ·rcases o'6 with y'7 | y'8
    ·obtain ⟨rfl, hs⟩ := hs
     refine ⟨by simp, ?_⟩
     have hz := some_elim H
     subst hz
     exact ⟨hs.1, hs.2⟩
    ·obtain ⟨rfl, rfl⟩ := hs
     refine ⟨by simp, ?_⟩
     refine blockQ2_exit ?_
     refine sg [0, 1, 2] rfl ?_
     refine rp rfl rfl (u_bld rfl in_54 one_54 zc_54 pl_54 rfl rfl) ?_
     refine r_op rfl rfl (u_st rfl rfl rfl rfl rfl in_54 (Gkinds_sort.len Gkinds_sort.zero) (ne_of_lt (n := 0) (Nat.lt_of_lt_of_eq (by decide) (Eq.symm (Gkinds_sort.len Gkinds_sort.zero)))) (Upd.refl ((Gkinds_sort.len Gkinds_sort.zero).trans (Gkinds_sort.len Gkinds_sort.zero).symm))) ?_
     refine rp rfl rfl (p_asg rfl rfl) ?_
     refine rz [(4, .q 4 (0)), (5, .i (5 : Int))] [(4, .pure (Gkinds_sort.cs Gkinds_sort.zero))] rfl rfl rfl ?_
     refine AW2_ret ?_
     have hz := some_elim H
     subst hz
     exact ⟨⟨res_cella Tryd.underlying54 rfl in_54.sz rfl (Sub.le (Sub.refl _) (Gkinds_sort.len Gkinds_sort.zero)) (by decide) (Sub.take (Sub.refl _) (Gkinds_sort.len Gkinds_sort.zero)), res_tmp (.same _), trivial⟩, trivial⟩
  ·replace H := ite_else h2 H
   refine as2 [(1, .p ((fun q : List GColumn => AV.lst (q.flatMap GColumn.cs) q.length) cols1)), (2, .q 2 (0)), (4, .q 4 (0))] [(2, .pure (GExpr.cs e0)), (4, .pure (Gkinds_sort.cs Gkinds_sort.zero))] rfl rfl rfl ?_
   refine AW2_skip ?_
   refine sg [0] rfl ?_
   refine r_op rfl rfl (MakeD.opD (u_alloc 8 rfl in_83 one_83 zc_83) rfl rfl rfl rfl) ?_
   refine rz [(1, .p ((fun q : List GColumn => AV.lst (q.flatMap GColumn.cs) q.length) cols1)), (2, .q 2 (0)), (4, .q 4 (0)), (8, .q 8 (0))] [(2, .pure (GExpr.cs e0)), (4, .pure (Gkinds_sort.cs Gkinds_sort.zero)), (8, .pure (((Vector.replicate 2 Gkinds_sort.zero).toList).flatMap Gkinds_sort.cs))] rfl rfl rfl ?_
   refine AW2_seq ?_
   refine sg [0, 1, 2, 3] rfl ?_
   refine rp rfl rfl (u_fa rfl rfl Tryd.underlying27 rfl in_25 (Nat.succ_ne_zero _) rfl rfl (ne_of_lt (n := 0) (Nat.lt_of_lt_of_eq (by decide) (Eq.symm (GExpr.len e0))))) ?_
   refine rp rfl rfl (u_ld rfl rfl Tryd.underlying25 rfl rfl ((Sub.refl _).trans (GExpr.sub3 e0))) ?_
   refine rp rfl rfl (p_lenl rfl Tryd.underlying25 rfl rfl) ?_
   refine rp rfl rfl (p_move rfl rfl) ?_
   refine rz [(1, .p ((fun q : List GColumn => AV.lst (q.flatMap GColumn.cs) q.length) cols1)), (2, .q 2 (0)), (4, .q 4 (0)), (8, .q 8 (0)), (46, .p ((fun q : List GExpr => AV.lst (q.flatMap GExpr.cs) q.length) e0.Args)), (47, .i (e0.Args.length : Int)), (48, .i (0 : Int))] [(2, .pure (GExpr.cs e0)), (4, .pure (Gkinds_sort.cs Gkinds_sort.zero)), (8, .pure (((Vector.replicate 2 Gkinds_sort.zero).toList).flatMap Gkinds_sort.cs))] rfl rfl rfl ?_
   refine AW2_block ?_
   refine as2 [(1, .p ((fun q : List GColumn => AV.lst (q.flatMap GColumn.cs) q.length) cols1)), (2, .q 2 (0)), (4, .q 4 (0)), (8, .q 8 (0)), (46, .p ((fun q : List GExpr => AV.lst (q.flatMap GExpr.cs) q.length) e0.Args)), (47, .i (e0.Args.length : Int)), (48, .i (0 : Int))] [(2, .pure (GExpr.cs e0)), (4, .pure (Gkinds_sort.cs Gkinds_sort.zero)), (8, .pure (((Vector.replicate 2 Gkinds_sort.zero).toList).flatMap Gkinds_sort.cs))] rfl rfl rfl ?_
   refine bindK H fun o'13 h12 H => ?_
   refine AW2_loopO (fun a'10 : Int × (Vector Gkinds_sort 2) => (⟨[(1, .p ((fun q : List GColumn => AV.lst (q.flatMap GColumn.cs) q.length) cols1)), (2, .q 2 (0)), (4, .q 4 (0)), (8, .q 8 (0)), (46, .p ((fun q : List GExpr => AV.lst (q.flatMap GExpr.cs) q.length) e0.Args)), (47, .i (e0.Args.length : Int)), (48, .i a'10.1)], [(2, .pure (GExpr.cs e0)), (4, .pure (Gkinds_sort.cs Gkinds_sort.zero)), (8, .pure (a'10.2.toList.flatMap Gkinds_sort.cs))], 76⟩ : TS)) (fun (o : (Gkinds_sort × Int) ⊕ ((Vector Gkinds_sort 2))) e s' => match o with | .inl y'11 => e = Go.Exit.ret ∧ ResAll Tryd.prog s' [ResultVar.cell 4 54, ResultVar.tmp 5] [.g (Gkinds_sort.cs y'11.1), .i y'11.2] ∧ HFits s' [] | .inr (y'12) => e = Go.Exit.exit 3 ∧ s' = (⟨[(2, .q 2 (0)), (4, .q 4 (0)), (8, .q 8 (0))], [(2, .pure (GExpr.cs e0)), (4, .pure (Gkinds_sort.cs Gkinds_sort.zero)), (8, .pure (y'12.toList.flatMap Gkinds_sort.cs))], 76⟩ : TS)) h12 rfl (fun a x hx => ?_) (fun e s' hs => ?_)
   ·clear H
    obtain ⟨t48_1, l8_1⟩ := a
    have H := hx
    clear hx
    unfold g_kinds_of_l1 at H
    refine sg [0] rfl ?_
    refine rp rfl rfl (p_bin rfl rfl rfl rfl) ?_
    refine rz [(1, .p ((fun q : List GColumn => AV.lst (q.flatMap GColumn.cs) q.length) cols1)), (2, .q 2 (0)), (4, .q 4 (0)), (8, .q 8 (0)), (46, .p ((fun q : List GExpr => AV.lst (q.flatMap GExpr.cs) q.length) e0.Args)), (47, .i (e0.Args.length : Int)), (48, .i t48_1), (49, .b (decide (t48_1 < (e0.Args.length : Int))))] [(2, .pure (GExpr.cs e0)), (4, .pure (Gkinds_sort.cs Gkinds_sort.zero)), (8, .pure (l8_1.toList.flatMap Gkinds_sort.cs))] rfl rfl rfl ?_
    refine AW2_seq ?_
    refine AW2_if (p := t48_1 < (e0.Args.length : Int)) rfl (fun h7 => ?_) (fun h7 => ?_)
    ·replace H := ite_then h7 H
     refine as2 [(1, .p ((fun q : List GColumn => AV.lst (q.flatMap GColumn.cs) q.length) cols1)), (2, .q 2 (0)), (4, .q 4 (0)), (8, .q 8 (0)), (46, .p ((fun q : List GExpr => AV.lst (q.flatMap GExpr.cs) q.length) e0.Args)), (47, .i (e0.Args.length : Int)), (48, .i t48_1)] [(2, .pure (GExpr.cs e0)), (4, .pure (Gkinds_sort.cs Gkinds_sort.zero)), (8, .pure (l8_1.toList.flatMap Gkinds_sort.cs))] rfl rfl rfl ?_
     refine AW2_skip ?_
     refine AW2_seq ?_
     refine AW2_block ?_
     refine sg [0, 1, 2, 3, 4, 5] rfl ?_
     refine rp rfl rfl (p_move rfl rfl) ?_
     refine chkK H fun h8 H => ?_
     refine rp rfl rfl (u_ixl rfl rfl Tryd.underlying25 in_27 rfl rfl (ixe h8) (ixn h8) (fne (fun x => (GExpr.len x)) (by decide) (ixn h8))) ?_
     refine rp rfl rfl (u_lda rfl rfl Tryd.underlying27 rfl in_27 rfl (Nat.succ_pos _) (Sub.fm default (fun x => (GExpr.len x)) (ixn h8)) (GExpr.len (lrd e0.Args t48_1.toNat))) ?_
     refine r_op rfl rfl (MakeD.opD (u_alloc 10 rfl in_27 one_27 zc_27) rfl rfl rfl rfl) ?_
     refine rp rfl rfl (p_asg rfl rfl) ?_
     refine r_op rfl rfl (u_st rfl rfl rfl rfl rfl in_27 (GExpr.len (lrd e0.Args t48_1.toNat)) (ne_of_lt (n := 0) (Nat.lt_of_lt_of_eq (by decide) (Eq.symm (GExpr.len GExpr.zero)))) (Upd.refl ((GExpr.len (lrd e0.Args t48_1.toNat)).trans (GExpr.len GExpr.zero).symm))) ?_
     refine rz [(1, .p ((fun q : List GColumn => AV.lst (q.flatMap GColumn.cs) q.length) cols1)), (2, .q 2 (0)), (4, .q 4 (0)), (8, .q 8 (0)), (9, .i t48_1), (10, .q 10 (0)), (46, .p ((fun q : List GExpr => AV.lst (q.flatMap GExpr.cs) q.length) e0.Args)), (47, .i (e0.Args.length : Int)), (48, .i t48_1)] [(2, .pure (GExpr.cs e0)), (4, .pure (Gkinds_sort.cs Gkinds_sort.zero)), (8, .pure (l8_1.toList.flatMap Gkinds_sort.cs)), (10, .pure (GExpr.cs (lrd e0.Args t48_1.toNat)))] rfl rfl rfl ?_
     refine sg [0, 1, 2, 3, 4, 5, 6, 7, 8] rfl ?_
     refine rp rfl rfl (u_lda rfl rfl Tryd.underlying27 rfl in_27 rfl (Nat.succ_pos _) (Sub.refl _) (GExpr.len (lrd e0.Args t48_1.toNat))) ?_
     refine rp rfl rfl (p_move rfl rfl) ?_
     refine bindK H fun r'9 h9 H => ?_
     refine rp rfl rfl (p_callp rfl rfl rfl Tryd.func20 rfl rfl (hR h9) ⟨rfl, rfl, trivial⟩) ?_
     refine rp rfl rfl (p_move rfl rfl) ?_
     refine rp rfl rfl (p_ext rfl rfl rfl rfl) ?_
     refine rp rfl rfl (p_ext rfl rfl rfl rfl) ?_
     refine r_op rfl rfl (MakeD.opD (u_alloc 11 rfl in_54 one_54 zc_54) rfl rfl rfl rfl) ?_
     refine r_op rfl rfl (u_st rfl rfl rfl rfl rfl in_54 (Gkinds_sort.len r'9.1) (ne_of_lt (n := 0) (Nat.lt_of_lt_of_eq (by decide) (Eq.symm (Gkinds_sort.len Gkinds_sort.zero)))) (Upd.refl ((Gkinds_sort.len r'9.1).trans (Gkinds_sort.len Gkinds_sort.zero).symm))) ?_
     refine rp rfl rfl (p_asg rfl rfl) ?_
     refine rz [(1, .p ((fun q : List GColumn => AV.lst (q.flatMap GColumn.cs) q.length) cols1)), (2, .q 2 (0)), (4, .q 4 (0)), (8, .q 8 (0)), (9, .i t48_1), (11, .q 11 (0)), (12, .i r'9.2), (46, .p ((fun q : List GExpr => AV.lst (q.flatMap GExpr.cs) q.length) e0.Args)), (47, .i (e0.Args.length : Int)), (48, .i t48_1)] [(2, .pure (GExpr.cs e0)), (4, .pure (Gkinds_sort.cs Gkinds_sort.zero)), (8, .pure (l8_1.toList.flatMap Gkinds_sort.cs)), (11, .pure (Gkinds_sort.cs r'9.1))] rfl rfl rfl ?_
     refine AW2_seq ?_
     refine sg [0, 1] rfl ?_
     refine rp rfl rfl (p_move rfl rfl) ?_
     refine rp rfl rfl (p_ine rfl rfl rfl) ?_
     refine rz [(1, .p ((fun q : List GColumn => AV.lst (q.flatMap GColumn.cs) q.length) cols1)), (2, .q 2 (0)), (4, .q 4 (0)), (8, .q 8 (0)), (9, .i t48_1), (11, .q 11 (0)), (12, .i r'9.2), (46, .p ((fun q : List GExpr => AV.lst (q.flatMap GExpr.cs) q.length) e0.Args)), (47, .i (e0.Args.length : Int)), (48, .i t48_1), (60, .b (decide (r'9.2 ≠ (0 : Int))))] [(2, .pure (GExpr.cs e0)), (4, .pure (Gkinds_sort.cs Gkinds_sort.zero)), (8, .pure (l8_1.toList.flatMap Gkinds_sort.cs)), (11, .pure (Gkinds_sort.cs r'9.1))] rfl rfl rfl ?_
     refine AW2_if (p := r'9.2 ≠ (0 : Int)) rfl (fun h10 => ?_) (fun h10 => ?_)
     ·replace H := ite_then h10 H
      refine sg [0, 1, 2, 3] rfl ?_
      refine rp rfl rfl (u_bld rfl in_54 one_54 zc_54 pl_54 rfl rfl) ?_
      refine rp rfl rfl (p_move rfl rfl) ?_
      refine r_op rfl rfl (u_st rfl rfl rfl rfl rfl in_54 (Gkinds_sort.len Gkinds_sort.zero) (ne_of_lt (n := 0) (Nat.lt_of_lt_of_eq (by decide) (Eq.symm (Gkinds_sort.len Gkinds_sort.zero)))) (Upd.refl ((Gkinds_sort.len Gkinds_sort.zero).trans (Gkinds_sort.len Gkinds_sort.zero).symm))) ?_
      refine rp rfl rfl (p_asg rfl rfl) ?_
      refine rz [(4, .q 4 (0)), (5, .i r'9.2)] [(4, .pure (Gkinds_sort.cs Gkinds_sort.zero))] rfl rfl rfl ?_
      refine AW2_ret ?_
      have hz := some_elim H
      subst hz
      exact ⟨rfl, ⟨res_cella Tryd.underlying54 rfl in_54.sz rfl (Sub.le (Sub.refl _) (Gkinds_sort.len Gkinds_sort.zero)) (by decide) (Sub.take (Sub.refl _) (Gkinds_sort.len Gkinds_sort.zero)), res_tmp (.same _), trivial⟩, trivial⟩
     ·replace H := ite_else h10 H
      refine as2 [(1, .p ((fun q : List GColumn => AV.lst (q.flatMap GColumn.cs) q.length) cols1)), (2, .q 2 (0)), (4, .q 4 (0)), (8, .q 8 (0)), (9, .i t48_1), (11, .q 11 (0)), (46, .p ((fun q : List GExpr => AV.lst (q.flatMap GExpr.cs) q.length) e0.Args)), (47, .i (e0.Args.length : Int)), (48, .i t48_1)] [(2, .pure (GExpr.cs e0)), (4, .pure (Gkinds_sort.cs Gkinds_sort.zero)), (8, .pure (l8_1.toList.flatMap Gkinds_sort.cs)), (11, .pure (Gkinds_sort.cs r'9.1))] rfl rfl rfl ?_
      refine AW2_skip ?_
      refine AW2_reg [0, 1, 2, 3] rfl ?_
      refine rp rfl rfl (p_move rfl rfl) ?_
      refine rp rfl rfl (u_lda rfl rfl Tryd.underlying54 rfl in_54 rfl (Nat.succ_pos _) (Sub.refl _) (Gkinds_sort.len r'9.1)) ?_
      refine chkK H fun h11 H => ?_
      refine rp rfl rfl (u_ixp rfl rfl Tryd.underlying83 in_54 rfl rfl (ne_of_lt (n := 0) (Nat.lt_of_lt_of_eq (by decide) (Eq.symm (vfm_len (fun x => (Gkinds_sort.len x)) l8_1)))) rfl (ixe h11) (ixn h11)) ?_
      refine r_op rfl rfl (u_st rfl rfl rfl rfl rfl in_54 (Gkinds_sort.len r'9.1) (ne_of_lt (n := 0) (Nat.lt_of_lt_of_eq (by decide) (Eq.symm (vfm_len (fun x => (Gkinds_sort.len x)) l8_1)))) (Upd.trans (Sub.refl _) (Upd.vfm (fun x => (Gkinds_sort.len x)) (ixn h11)) (Upd.refl ((vfm_len (fun x => (Gkinds_sort.len x)) (vwr l8_1 t48_1.toNat r'9.1)).trans (vfm_len (fun x => (Gkinds_sort.len x)) l8_1).symm)))) ?_
      refine rz [(1, .p ((fun q : List GColumn => AV.lst (q.flatMap GColumn.cs) q.length) cols1)), (2, .q 2 (0)), (4, .q 4 (0)), (8, .q 8 (0)), (46, .p ((fun q : List GExpr => AV.lst (q.flatMap GExpr.cs) q.length) e0.Args)), (47, .i (e0.Args.length : Int)), (48, .i t48_1)] [(2, .pure (GExpr.cs e0)), (4, .pure (Gkinds_sort.cs Gkinds_sort.zero)), (8, .pure (((vwr l8_1 t48_1.toNat r'9.1).toList).flatMap Gkinds_sort.cs))] rfl rfl rfl ?_
      refine AW2_reg [0, 1] rfl ?_
      refine rp rfl rfl (p_bin rfl rfl rfl rfl) ?_
      refine rp rfl rfl (p_move rfl rfl) ?_
      refine rz [(1, .p ((fun q : List GColumn => AV.lst (q.flatMap GColumn.cs) q.length) cols1)), (2, .q 2 (0)), (4, .q 4 (0)), (8, .q 8 (0)), (46, .p ((fun q : List GExpr => AV.lst (q.flatMap GExpr.cs) q.length) e0.Args)), (47, .i (e0.Args.length : Int)), (48, .i (w64 (t48_1 + (1 : Int))))] [(2, .pure (GExpr.cs e0)), (4, .pure (Gkinds_sort.cs Gkinds_sort.zero)), (8, .pure (((vwr l8_1 t48_1.toNat r'9.1).toList).flatMap Gkinds_sort.cs))] rfl rfl rfl ?_
      have hz := some_elim H
      subst hz
      exact ⟨rfl, rfl⟩
    ·replace H := ite_else h7 H
     refine as2 [(2, .q 2 (0)), (4, .q 4 (0)), (8, .q 8 (0))] [(2, .pure (GExpr.cs e0)), (4, .pure (Gkinds_sort.cs Gkinds_sort.zero)), (8, .pure (l8_1.toList.flatMap Gkinds_sort.cs))] rfl rfl rfl ?_
     refine AW2_exit ?_
     refine thenQ2_exit ?_
     have hz := some_elim H
     subst hz
     exact ⟨rfl, rfl⟩
   ·rcases o'13 with y'14 | y'15
    ·obtain ⟨rfl, hs⟩ := hs
     refine ⟨by simp, ?_⟩
     have hz := some_elim H
     subst hz
     exact ⟨hs.1, hs.2⟩
    ·obtain ⟨rfl, rfl⟩ := hs
     refine ⟨by simp, ?_⟩
     refine blockQ2_exit ?_
     refine sg [0, 1, 2, 3, 4, 5, 6, 7, 8, 9, 10] rfl ?_
     refine rp rfl rfl (u_fa rfl rfl Tryd.underlying27 rfl in_3 (Nat.succ_ne_zero _) rfl rfl (ne_of_lt (n := 0) (Nat.lt_of_lt_of_eq (by decide) (Eq.symm (GExpr.len e0))))) ?_
     refine rp rfl rfl (u_ld rfl rfl Tryd.underlying3 rfl rfl ((Sub.refl _).trans (GExpr.sub0 e0))) ?_
     refine rp rfl rfl (u_fa rfl rfl Tryd.underlying27 rfl in_25 (Nat.succ_ne_zero _) rfl rfl (ne_of_lt (n := 0) (Nat.lt_of_lt_of_eq (by decide) (Eq.symm (GExpr.len e0))))) ?_
     refine rp rfl rfl (u_ld rfl rfl Tryd.underlying25 rfl rfl ((Sub.refl _).trans (GExpr.sub3 e0))) ?_
     refine rp rfl rfl (p_lenl rfl Tryd.underlying25 rfl rfl) ?_
     refine rp rfl rfl (u_lda rfl rfl Tryd.underlying83 rfl in_83 rfl (Nat.succ_pos _) (Sub.refl _) (vfm_len (fun x => (Gkinds_sort.len x)) y'15)) ?_
     refine bindK H fun r'16 h13 H => ?_
     refine rp rfl rfl (p_callp rfl rfl rfl Tryd.func46 rfl rfl (g_kinds_joined_ac h13) ⟨rfl, rfl, rfl, trivial⟩) ?_
     refine rp rfl rfl (p_ext rfl rfl rfl rfl) ?_
     refine rp rfl rfl (p_ext rfl rfl rfl rfl) ?_
     refine r_op rfl rfl (u_st rfl rfl rfl rfl rfl in_54 (Gkinds_sort.len r'16.1) (ne_of_lt (n := 0) (Nat.lt_of_lt_of_eq (by decide) (Eq.symm (Gkinds_sort.len Gkinds_sort.zero)))) (Upd.refl ((Gkinds_sort.len r'16.1).trans (Gkinds_sort.len Gkinds_sort.zero).symm))) ?_
     refine rp rfl rfl (p_asg rfl rfl) ?_
     refine rz [(4, .q 4 (0)), (5, .i r'16.2)] [(4, .pure (Gkinds_sort.cs r'16.1))] rfl rfl rfl ?_
     refine AW2_ret ?_
     have hz := some_elim H
     subst hz
     exact ⟨⟨res_cella Tryd.underlying54 rfl in_54.sz rfl (Sub.le (Sub.refl _) (Gkinds_sort.len r'16.1)) (by decide) (Sub.take (Sub.refl _) (Gkinds_sort.len r'16.1)), res_tmp (.same _), trivial⟩, trivial⟩
theorem g_kinds_of_acN : ∀ (fu : Nat) {e0 : GExpr} {cols1 : List GColumn} {r : Gkinds_sort × Int}, g_kinds_of fu e0 cols1 = some r → ACp Tryd.prog 20 [(.agg (GExpr.cs e0)), ((fun q : List GColumn => AV.lst (q.flatMap GColumn.cs) q.length) cols1)] (.tup [(.agg (Gkinds_sort.cs r.1)), (AV.int r.2)])
 | 0, _, _, _, H => (by cases H)
 | fu + 1, _, _, _, H => g_kinds_of_ac0 (g_kinds_of_acN fu) H
theorem g_kinds_of_ac {e0 : GExpr} {cols1 : List GColumn} {r : Gkinds_sort × Int} (H : g_kinds_of 100000 e0 cols1 = some r) : ACp Tryd.prog 20 [(.agg (GExpr.cs e0)), ((fun q : List GColumn => AV.lst (q.flatMap GColumn.cs) q.length) cols1)] (.tup [(.agg (Gkinds_sort.cs r.1)), (AV.int r.2)]) := g_kinds_of_acN 100000 H

/-! kinds.Of -/
def g_kinds_Of_r10 : List (List (Nat × Option Nat)) := [[(9, none)], [(29, some 0)], [(9, none)], [(31, some 2)], [(30, some 1)]]
def g_kinds_Of_r10c : List (List Nat) := [[], [0], [], [2], [0, 1], [0, 1, 2, 3, 4], [0, 1, 2, 3, 4, 5]]
noncomputable def g_kinds_Of (e0 : GExpr) (cols1 : List GColumn) : Option (Int × Bool × Int) :=
  (g_expr_Check e0).bind fun r'1 => (if r'1 ≠ (0 : Int) then some ((0 : Int), false, r'1) else (g_kinds_Columns cols1).bind fun r'2 => (if r'2 ≠ (0 : Int) then some ((0 : Int), false, r'2) else (g_kinds_of 100000 e0 cols1).bind fun r'3 => (if r'3.2 ≠ (0 : Int) then some ((0 : Int), false, r'3.2) else some (r'3.1.kind_, r'3.1.null_, (0 : Int)))))
set_option maxHeartbeats 4000000 in
set_option maxRecDepth 100000 in
theorem g_kinds_Of_ac {e0 : GExpr} {cols1 : List GColumn} {r : Int × Bool × Int} (H : g_kinds_Of e0 cols1 = some r) : ACp Tryd.prog 8 [(.agg (GExpr.cs e0)), ((fun q : List GColumn => AV.lst (q.flatMap GColumn.cs) q.length) cols1)] (.tup [(AV.int r.1), (AV.bool r.2.1), (AV.int r.2.2)]) := by
 refine ACp_of (AC2_of_body (vs := [.i r.1, .b r.2.1, .i r.2.2]) Tryd.func8 rfl rfl (Nat.le_of_ble_eq_true rfl) rfl ?_) (fun _ => .same _)
 unfold g_kinds_Of at H
 refine as2 [(0, .g (GExpr.cs e0)), (1, .p ((fun q : List GColumn => AV.lst (q.flatMap GColumn.cs) q.length) cols1))] [] rfl rfl rfl ?_
 refine sg [0, 1, 2, 3] rfl ?_
 refine r_op rfl rfl (MakeD.opD (n_box 2 rfl rfl) rfl rfl rfl rfl) ?_
 refine rp rfl rfl (p_asg rfl rfl) ?_
 refine rp rfl rfl (p_asg rfl rfl) ?_
 refine rp rfl rfl (p_asg rfl rfl) ?_
 refine rz [(1, .p ((fun q : List GColumn => AV.lst (q.flatMap GColumn.cs) q.length) cols1)), (2, .q 2 (0))] [(2, .pure (GExpr.cs e0))] rfl rfl rfl ?_
 refine AW2_seq ?_
 refine sg [0, 1, 2] rfl ?_
 refine rp rfl rfl (u_lda rfl rfl Tryd.underlying27 rfl in_27 rfl (Nat.succ_pos _) (Sub.refl _) (GExpr.len e0)) ?_
 refine bindK H fun r'1 h1 H => ?_
 refine rp rfl rfl (p_callp rfl rfl rfl Tryd.func18 rfl rfl (g_expr_Check_ac h1) ⟨rfl, trivial⟩) ?_
 refine rp rfl rfl (p_asg rfl rfl) ?_
 refine rz [(1, .p ((fun q : List GColumn => AV.lst (q.flatMap GColumn.cs) q.length) cols1)), (2, .q 2 (0)), (7, .i r'1)] [(2, .pure (GExpr.cs e0))] rfl rfl rfl ?_
 refine sg [0, 1] rfl ?_
 refine rp rfl rfl (p_move rfl rfl) ?_
 refine rp rfl rfl (p_ine rfl rfl rfl) ?_
 refine rz [(1, .p ((fun q : List GColumn => AV.lst (q.flatMap GColumn.cs) q.length) cols1)), (2, .q 2 (0)), (7, .i r'1), (13, .b (decide (r'1 ≠ (0 : Int))))] [(2, .pure (GExpr.cs e0))] rfl rfl rfl ?_
 refine AW2_if (p := r'1 ≠ (0 : Int)) rfl (fun h2 => ?_) (fun h2 => ?_)
 ·replace H := ite_then h2 H
  refine sg [0, 1, 2, 3] rfl ?_
  refine rp rfl rfl (p_move rfl rfl) ?_
  refine rp rfl rfl (p_asg rfl rfl) ?_
  refine rp rfl rfl (p_asg rfl rfl) ?_
  refine rp rfl rfl (p_asg rfl rfl) ?_
  refine rz [(4, .i (0 : Int)), (5, .b false), (6, .i r'1)] [] rfl rfl rfl ?_
  refine AW2_ret ?_
  have hz := some_elim H
  subst hz
  exact ⟨⟨res_tmp (.same _), res_tmp (.same _), res_tmp (.same _), trivial⟩, trivial⟩
 ·replace H := ite_else h2 H
  refine as2 [(1, .p ((fun q : List GColumn => AV.lst (q.flatMap GColumn.cs) q.length) cols1)), (2, .q 2 (0))] [(2, .pure (GExpr.cs e0))] rfl rfl rfl ?_
  refine AW2_skip ?_
  refine AW2_seq ?_
  refine sg [0, 1, 2] rfl ?_
  refine rp rfl rfl (p_move rfl rfl) ?_
  refine bindK H fun r'2 h3 H => ?_
  refine rp rfl rfl (p_callp rfl rfl rfl Tryd.func19 rfl rfl (g_kinds_Columns_ac h3) ⟨rfl, trivial⟩) ?_
  refine rp rfl rfl (p_asg rfl rfl) ?_
  refine rz [(1, .p ((fun q : List GColumn => AV.lst (q.flatMap GColumn.cs) q.length) cols1)), (2, .q 2 (0)), (8, .i r'2)] [(2, .pure (GExpr.cs e0))] rfl rfl rfl ?_
  refine sg [0, 1] rfl ?_
  refine rp rfl rfl (p_move rfl rfl) ?_
  refine rp rfl rfl (p_ine rfl rfl rfl) ?_
  refine rz [(1, .p ((fun q : List GColumn => AV.lst (q.flatMap GColumn.cs) q.length) cols1)), (2, .q 2 (0)), (8, .i r'2), (18, .b (decide (r'2 ≠ (0 : Int))))] [(2, .pure (GExpr.cs e0))] rfl rfl rfl ?_
  refine AW2_if (p := r'2 ≠ (0 : Int)) rfl (fun h4 => ?_) (fun h4 => ?_)
  ·replace H := ite_then h4 H
   refine sg [0, 1, 2, 3] rfl ?_
   refine rp rfl rfl (p_move rfl rfl) ?_
   refine rp rfl rfl (p_asg rfl rfl) ?_
   refine rp rfl rfl (p_asg rfl rfl) ?_
   refine rp rfl rfl (p_asg rfl rfl) ?_
   refine rz [(4, .i (0 : Int)), (5, .b false), (6, .i r'2)] [] rfl rfl rfl ?_
   refine AW2_ret ?_
   have hz := some_elim H
   subst hz
   exact ⟨⟨res_tmp (.same _), res_tmp (.same _), res_tmp (.same _), trivial⟩, trivial⟩
  ·replace H := ite_else h4 H
   refine as2 [(1, .p ((fun q : List GColumn => AV.lst (q.flatMap GColumn.cs) q.length) cols1)), (2, .q 2 (0))] [(2, .pure (GExpr.cs e0))] rfl rfl rfl ?_
   refine AW2_skip ?_
   refine sg [0, 1, 2, 3, 4, 5, 6, 7, 8] rfl ?_
   refine rp rfl rfl (u_lda rfl rfl Tryd.underlying27 rfl in_27 rfl (Nat.succ_pos _) (Sub.refl _) (GExpr.len e0)) ?_
   refine rp rfl rfl (p_move rfl rfl) ?_
   refine bindK H fun r'3 h5 H => ?_
   refine rp rfl rfl (p_callp rfl rfl rfl Tryd.func20 rfl rfl (g_kinds_of_ac h5) ⟨rfl, rfl, trivial⟩) ?_
   refine rp rfl rfl (p_move rfl rfl) ?_
   refine rp rfl rfl (p_ext rfl rfl rfl rfl) ?_
   refine rp rfl rfl (p_ext rfl rfl rfl rfl) ?_
   refine r_op rfl rfl (MakeD.opD (u_alloc 9 rfl in_54 one_54 zc_54) rfl rfl rfl rfl) ?_
   refine r_op rfl rfl (u_st rfl rfl rfl rfl rfl in_54 (Gkinds_sort.len r'3.1) (ne_of_lt (n := 0) (Nat.lt_of_lt_of_eq (by decide) (Eq.symm (Gkinds_sort.len Gkinds_sort.zero)))) (Upd.refl ((Gkinds_sort.len r'3.1).trans (Gkinds_sort.len Gkinds_sort.zero).symm))) ?_
   refine rp rfl rfl (p_asg rfl rfl) ?_
   refine rz [(6, .i r'3.2), (9, .q 9 (0))] [(9, .pure (Gkinds_sort.cs r'3.1))] rfl rfl rfl ?_
   refine AW2_seq ?_
   refine sg [0, 1] rfl ?_
   refine rp rfl rfl (p_move rfl rfl) ?_
   refine rp rfl rfl (p_ine rfl rfl rfl) ?_
   refine rz [(6, .i r'3.2), (9, .q 9 (0)), (27, .b (decide (r'3.2 ≠ (0 : Int))))] [(9, .pure (Gkinds_sort.cs r'3.1))] rfl rfl rfl ?_
   refine AW2_if (p := r'3.2 ≠ (0 : Int)) rfl (fun h6 => ?_) (fun h6 => ?_)
   ·replace H := ite_then h6 H
    refine sg [0, 1, 2, 3] rfl ?_
    refine rp rfl rfl (p_move rfl rfl) ?_
    refine rp rfl rfl (p_asg rfl rfl) ?_
    refine rp rfl rfl (p_asg rfl rfl) ?_
    refine rp rfl rfl (p_asg rfl rfl) ?_
    refine rz [(4, .i (0 : Int)), (5, .b false), (6, .i r'3.2)] [] rfl rfl rfl ?_
    refine AW2_ret ?_
    have hz := some_elim H
    subst hz
    exact ⟨⟨res_tmp (.same _), res_tmp (.same _), res_tmp (.same _), trivial⟩, trivial⟩
   ·replace H := ite_else h6 H
    refine as2 [(9, .q 9 (0))] [(9, .pure (Gkinds_sort.cs r'3.1))] rfl rfl rfl ?_
    refine AW2_skip ?_
    refine AW2_seq ?_
    refine AW2_ghoQ ?_
    refine AW2_draw 5 [5, 6] (fun k => ([.q 9 (0 + 0), .i r'3.1.kind_, .q 9 (0 + 1), .b r'3.1.null_, .i r'3.1.kind_] : List TV).getD k TV.any) (fun k => g_kinds_Of_r10.getD k []) [(4, some 4), (32, some 3)] [] (fun k => g_kinds_Of_r10c.getD k []) mixed (by kernel_rfl) rfl rfl (a_op (g_x rfl (x_p rfl (u_fa rfl rfl Tryd.underlying54 rfl in_3 (Nat.succ_ne_zero _) rfl rfl (ne_of_lt (n := 0) (Nat.lt_of_lt_of_eq (by decide) (Eq.symm (Gkinds_sort.len r'3.1))))) rfl)) (a_op (g_x rfl (x_p rfl (u_ld rfl rfl Tryd.underlying3 rfl rfl ((Sub.refl _).trans (Gkinds_sort.sub0 r'3.1))) rfl)) (a_op (g_x rfl (x_p rfl (u_fa rfl rfl Tryd.underlying54 rfl in_4 (Nat.succ_ne_zero _) rfl rfl (ne_of_lt (n := 0) (Nat.lt_of_lt_of_eq (by decide) (Eq.symm (Gkinds_sort.len r'3.1))))) rfl)) (a_op (g_x rfl (x_p rfl (u_ld rfl rfl Tryd.underlying4 rfl rfl ((Sub.refl _).trans (Gkinds_sort.sub1 r'3.1))) rfl)) (a_op (g_x rfl (x_p rfl (p_asg rfl rfl) rfl)) (a_nil)))))) ?_
    refine t_op rfl rfl (PureD.opD (p_asg rfl rfl)) ?_
    refine t_op rfl rfl (PureD.opD (p_asg rfl rfl)) ?_
    refine t_gho (Gho_st (L := [(4, .i r'3.1.kind_), (5, .b r'3.1.null_), (6, .i (0 : Int))]) (H := []) (N := 33) rfl ⟨TLes.same _, TLes.same _, TLes.same _, trivial⟩ trivial) ?_
    refine AW2_ret ?_
    have hz := some_elim H
    subst hz
    exact ⟨⟨res_tmp (.same _), res_tmp (.same _), res_tmp (.same _), trivial⟩, trivial⟩

/-! chirographref.within -/
noncomputable def g_ref_within_l1 (row3_0 : List GExpr) : Int × (List GExpr) → Option ((Int × (List GExpr)) ⊕ (Bool ⊕ ((List GExpr))))
  | (t28_1, next6_1) => (if t28_1 < (row3_0.length : Int) then if 0 ≤ t28_1 ∧ t28_1 < (row3_0.length : Int) then (if (((lrd row3_0 t28_1.toNat).Args).length : Int) > (40 : Int) then some (.inr (.inl false)) else if room (next6_1.length + ((lrd row3_0 t28_1.toNat).Args).length) 88 then (if ((next6_1 ++ ((lrd row3_0 t28_1.toNat).Args)).length : Int) > (40 : Int) then some (.inr (.inl false)) else some (.inl (w64 (t28_1 + (1 : Int)), next6_1 ++ ((lrd row3_0 t28_1.toNat).Args)))) else none) else none else some (.inr (.inr next6_1)))
noncomputable def g_ref_within_l0 : Int × Int × (List GExpr) → Option ((Int × Int × (List GExpr)) ⊕ (Bool ⊕ Unit))
  | (all4_0, deep5_0, row3_0) => (if (row3_0.length : Int) > (0 : Int) then (if (deep5_0 > (7 : Int)) ∨ (w64 (all4_0 + (row3_0.length : Int)) > (40 : Int)) then some (.inr (.inl false)) else (loopO (g_ref_within_l1 row3_0) ((0 : Int), ([] : List GExpr))).bind fun o'4 => match o'4 with | .inl y'5 => some (.inr (.inl y'5)) | .inr (y'6) => some (.inl (w64 (all4_0 + (row3_0.length : Int)), w64 (deep5_0 + (1 : Int)), y'6))) else some (.inr (.inr ())))
noncomputable def g_ref_within (e0 : GExpr) : Option (Bool) :=
  (loopO (g_ref_within_l0) ((0 : Int), (1 : Int), ([e0] : List GExpr))).bind fun o'10 => match o'10 with | .inl y'11 => some y'11 | .inr (y'12) => some true
set_option maxHeartbeats 4000000 in
set_option maxRecDepth 100000 in
theorem g_ref_within_ac {e0 : GExpr} {r : Bool} (H : g_ref_within e0 = some r) : ACp Tryd.prog 33 [(.agg (GExpr.cs e0))] (AV.bool r) := by
 refine ACp_of (AC2_of_body (vs := [.b r]) Tryd.func33 rfl rfl (Nat.le_of_ble_eq_true rfl) rfl ?_) (fun _ => .same _)
 unfold g_ref_within at H
 refine as2 [(0, .g (GExpr.cs e0))] [] rfl rfl rfl ?_
 refine sg [0, 1] rfl ?_
 refine r_op rfl rfl (MakeD.opD (n_box 1 rfl rfl) rfl rfl rfl rfl) ?_
 refine rp rfl rfl (p_asg rfl rfl) ?_
 refine rz [(1, .q 1 (0))] [(1, .pure (GExpr.cs e0))] rfl rfl rfl ?_
 refine sg [0, 1, 2] rfl ?_
 refine rp rfl rfl (u_lda rfl rfl Tryd.underlying27 rfl in_27 rfl (Nat.succ_pos _) (Sub.refl _) (GExpr.len e0)) ?_
 refine r_op rfl rfl (MakeD.opD (u_bs 10 rfl Tryd.underlying25 in_27 rfl one_27 (by decide) (by decide) zc_27 rfl (af_lit (g := GExpr.cs) (fun x => (GExpr.len x)) (GExpr.len GExpr.zero) [e0])) rfl rfl rfl rfl) ?_
 refine rp rfl rfl (p_asg rfl rfl) ?_
 refine RunW_st [(3, .c (.own 10 ([e0] : List GExpr).length 7))] [(10, .pure (([e0] : List GExpr).flatMap GExpr.cs))] rfl ⟨TLes.own rfl, trivial⟩ ⟨rfl, trivial⟩ ?_
 refine RunW_gho (Gho_ren 10 3 rfl rfl rfl rfl rfl) ?_
 refine rz [(3, .c (.own 3 ([e0] : List GExpr).length 7))] [(3, .pure (([e0] : List GExpr).flatMap GExpr.cs))] rfl rfl rfl ?_
 refine sg [0] rfl ?_
 refine rp rfl rfl (p_asg rfl rfl) ?_
 refine rz [(3, .c (.own 3 ([e0] : List GExpr).length 7)), (4, .i (0 : Int))] [(3, .pure (([e0] : List GExpr).flatMap GExpr.cs))] rfl rfl rfl ?_
 refine AW2_seq ?_
 refine sg [0] rfl ?_
 refine rp rfl rfl (p_asg rfl rfl) ?_
 refine rz [(3, .c (.own 3 ([e0] : List GExpr).length 7)), (4, .i (0 : Int)), (5, .i (1 : Int))] [(3, .pure (([e0] : List GExpr).flatMap GExpr.cs))] rfl rfl rfl ?_
 refine AW2_block ?_
 refine as2 [(3, .c (.own 3 ([e0] : List GExpr).length 7)), (4, .i (0 : Int)), (5, .i (1 : Int))] [(3, .pure (([e0] : List GExpr).flatMap GExpr.cs))] rfl rfl rfl ?_
 refine bindK H fun o'10 h10 H => ?_
 refine AW2_loopO (fun a'7 : Int × Int × (List GExpr) => (⟨[(3, .c (.own 3 a'7.2.2.length 7)), (4, .i a'7.1), (5, .i a'7.2.1)], [(3, .pure (a'7.2.2.flatMap GExpr.cs))], 45⟩ : TS)) (fun (o : Bool ⊕ Unit) e s' => match o with | .inl y'8 => e = Go.Exit.ret ∧ ResAll Tryd.prog s' [ResultVar.tmp 2] [.b y'8] ∧ HFits s' [] | .inr (y'9) => e = Go.Exit.exit 0 ∧ s' = (⟨[], [], 45⟩ : TS)) h10 rfl (fun a x hx => ?_) (fun e s' hs => ?_)
 ·clear H
  obtain ⟨all4_0, deep5_0, row3_0⟩ := a
  have H := hx
  clear hx
  unfold g_ref_within_l0 at H
  refine AW2_seq ?_
  refine sg [0, 1, 2] rfl ?_
  refine rp rfl rfl (p_move rfl rfl) ?_
  refine rp rfl rfl (p_leno rfl Tryd.underlying25 rfl rfl rfl (fm_length (fun x => (GExpr.len x)) row3_0) (by decide)) ?_
  refine rp rfl rfl (p_bin rfl rfl rfl rfl) ?_
  refine rz [(3, .c (.own 3 row3_0.length 7)), (4, .i all4_0), (5, .i deep5_0), (13, .b (decide ((row3_0.length : Int) > (0 : Int))))] [(3, .pure (row3_0.flatMap GExpr.cs))] rfl rfl rfl ?_
  refine AW2_if (p := (row3_0.length : Int) > (0 : Int)) rfl (fun h1 => ?_) (fun h1 => ?_)
  ·replace H := ite_then h1 H
   refine as2 [(3, .c (.own 3 row3_0.length 7)), (4, .i all4_0), (5, .i deep5_0)] [(3, .pure (row3_0.flatMap GExpr.cs))] rfl rfl rfl ?_
   refine AW2_skip ?_
   refine AW2_seq ?_
   refine AW2_block ?_
   refine sg [0, 1, 2, 3, 4] rfl ?_
   refine rp rfl rfl (p_move rfl rfl) ?_
   refine rp rfl rfl (p_move rfl rfl) ?_
   refine rp rfl rfl (p_leno rfl Tryd.underlying25 rfl rfl rfl (fm_length (fun x => (GExpr.len x)) row3_0) (by decide)) ?_
   refine rp rfl rfl (p_bin rfl rfl rfl rfl) ?_
   refine rp rfl rfl (p_asg rfl rfl) ?_
   refine rz [(3, .c (.own 3 row3_0.length 7)), (4, .i (w64 (all4_0 + (row3_0.length : Int)))), (5, .i deep5_0)] [(3, .pure (row3_0.flatMap GExpr.cs))] rfl rfl rfl ?_
   refine AW2_seq ?_
   refine AW2_seq ?_
   refine AW2_mid (⟨[(3, .c (.own 3 row3_0.length 7)), (4, .i (w64 (all4_0 + (row3_0.length : Int)))), (5, .i deep5_0), (25, .b (decide ((deep5_0 > (7 : Int)) ∨ (w64 (all4_0 + (row3_0.length : Int)) > (40 : Int)))))], [(3, .pure (row3_0.flatMap GExpr.cs))], 45⟩ : TS) ?_ ?_
   ·refine AW2_reg [0, 1, 2, 3, 4, 5] rfl ?_
    refine rp rfl rfl (p_move rfl rfl) ?_
    refine rp rfl rfl (p_bin rfl rfl rfl rfl) ?_
    refine rp rfl rfl (p_move rfl rfl) ?_
    refine (Classical.em (deep5_0 > (7 : Int))).elim (fun h2 => ?_) (fun h2 => ?_)
    ·refine r_off rfl rfl rfl rfl (decide_eq_true h2) rfl rfl ?_
     refine r_off rfl rfl rfl rfl (decide_eq_true h2) rfl rfl ?_
     refine rp rfl rfl (p_pkt rfl rfl (decide_eq_true h2) (tb (decide_eq_true (p := (deep5_0 > (7 : Int)) ∨ (w64 (all4_0 + (row3_0.length : Int)) > (40 : Int))) (Or.inl h2)).symm)) ?_
     refine rs [(3, .c (.own 3 row3_0.length 7)), (4, .i (w64 (all4_0 + (row3_0.length : Int)))), (5, .i deep5_0), (25, .b (decide ((deep5_0 > (7 : Int)) ∨ (w64 (all4_0 + (row3_0.length : Int)) > (40 : Int)))))] [(3, .pure (row3_0.flatMap GExpr.cs))] rfl rfl rfl ?_
     exact RunW_nil rfl
    ·refine r_on rfl rfl rfl rfl (decide_eq_false h2) rfl (PureD.opD (p_move rfl rfl)) ?_
     refine r_on rfl rfl rfl rfl (decide_eq_false h2) rfl (PureD.opD (p_bin rfl rfl rfl rfl)) ?_
     refine rp rfl rfl (p_pkf rfl rfl (decide_eq_false h2) (tb ((or_l (p := deep5_0 > (7 : Int)) (q := w64 (all4_0 + (row3_0.length : Int)) > (40 : Int)) h2)))) ?_
     refine rs [(3, .c (.own 3 row3_0.length 7)), (4, .i (w64 (all4_0 + (row3_0.length : Int)))), (5, .i deep5_0), (25, .b (decide ((deep5_0 > (7 : Int)) ∨ (w64 (all4_0 + (row3_0.length : Int)) > (40 : Int)))))] [(3, .pure (row3_0.flatMap GExpr.cs))] rfl rfl rfl ?_
     exact RunW_nil rfl
   ·refine AW2_if (p := (deep5_0 > (7 : Int)) ∨ (w64 (all4_0 + (row3_0.length : Int)) > (40 : Int))) rfl (fun h3 => ?_) (fun h3 => ?_)
    ·replace H := ite_then h3 H
     refine sg [0] rfl ?_
     refine rp rfl rfl (p_asg rfl rfl) ?_
     refine rz [(2, .b false)] [] rfl rfl rfl ?_
     refine AW2_ret ?_
     have hz := some_elim H
     subst hz
     exact ⟨rfl, ⟨res_tmp (.same _), trivial⟩, trivial⟩
    ·replace H := ite_else h3 H
     refine as2 [(3, .c (.own 3 row3_0.length 7)), (4, .i (w64 (all4_0 + (row3_0.length : Int)))), (5, .i deep5_0)] [(3, .pure (row3_0.flatMap GExpr.cs))] rfl rfl rfl ?_
     refine AW2_skip ?_
     refine sg [0] rfl ?_
     refine rp rfl rfl (p_asgn rfl) ?_
     refine rz [(3, .c (.own 3 row3_0.length 7)), (4, .i (w64 (all4_0 + (row3_0.length : Int)))), (5, .i deep5_0), (6, .p .nil)] [(3, .pure (row3_0.flatMap GExpr.cs))] rfl rfl rfl ?_
     refine AW2_seq ?_
     refine sg [0, 1, 2] rfl ?_
     refine rp rfl rfl (p_move rfl rfl) ?_
     refine rp rfl rfl (p_leno rfl Tryd.underlying25 rfl rfl rfl (fm_length (fun x => (GExpr.len x)) row3_0) (by decide)) ?_
     refine rp rfl rfl (p_move rfl rfl) ?_
     refine rs [(4, .i (w64 (all4_0 + (row3_0.length : Int)))), (5, .i deep5_0), (6, .p .nil), (26, .c (.own 3 row3_0.length 7)), (27, .i (row3_0.length : Int)), (28, .i (0 : Int))] [(3, .pure (row3_0.flatMap GExpr.cs))] rfl rfl rfl ?_
     refine RunW_gho (Gho_ren 3 26 rfl rfl rfl rfl rfl) ?_
     refine rz [(4, .i (w64 (all4_0 + (row3_0.length : Int)))), (5, .i deep5_0), (6, .p .nil), (26, .c (.own 26 row3_0.length 7)), (27, .i (row3_0.length : Int)), (28, .i (0 : Int))] [(26, .pure (row3_0.flatMap GExpr.cs))] rfl rfl rfl ?_
     refine AW2_block ?_
     refine as2 [(4, .i (w64 (all4_0 + (row3_0.length : Int)))), (5, .i deep5_0), (6, .p .nil), (26, .c (.own 26 row3_0.length 7)), (27, .i (row3_0.length : Int)), (28, .i (0 : Int))] [(26, .pure (row3_0.flatMap GExpr.cs))] rfl rfl rfl ?_
     refine AW2_gho (Gho_own (d := 6) (b := 6) (z := 7) rfl rfl rfl rfl) ?_
     refine AW2_st [(4, .i (w64 (all4_0 + (row3_0.length : Int)))), (5, .i deep5_0), (6, .c (.own 6 ([] : List GExpr).length 7)), (26, .c (.own 26 row3_0.length 7)), (27, .i (row3_0.length : Int)), (28, .i (0 : Int))] [(6, .pure (([] : List GExpr).flatMap GExpr.cs)), (26, .pure (row3_0.flatMap GExpr.cs))] rfl ⟨TLes.same _, TLes.same _, TLes.own rfl, TLes.same _, TLes.same _, TLes.same _, trivial⟩ ⟨rfl, rfl, trivial⟩ ?_
     refine bindK H fun o'4 h9 H => ?_
     refine AW2_loopO (fun a'1 : Int × (List GExpr) => (⟨[(4, .i (w64 (all4_0 + (row3_0.length : Int)))), (5, .i deep5_0), (6, .c (.own 6 a'1.2.length 7)), (26, .c (.own 26 row3_0.length 7)), (27, .i (row3_0.length : Int)), (28, .i a'1.1)], [(6, .pure (a'1.2.flatMap GExpr.cs)), (26, .pure (row3_0.flatMap GExpr.cs))], 45⟩ : TS)) (fun (o : Bool ⊕ ((List GExpr))) e s' => match o with | .inl y'2 => e = Go.Exit.ret ∧ ResAll Tryd.prog s' [ResultVar.tmp 2] [.b y'2] ∧ HFits s' [] | .inr (y'3) => e = Go.Exit.exit 2 ∧ s' = (⟨[(4, .i (w64 (all4_0 + (row3_0.length : Int)))), (5, .i deep5_0), (6, .c (.own 6 y'3.length 7))], [(6, .pure (y'3.flatMap GExpr.cs))], 45⟩ : TS)) h9 rfl (fun a x hx => ?_) (fun e s' hs => ?_)
     ·clear H
      obtain ⟨t28_1, next6_1⟩ := a
      have H := hx
      clear hx
      unfold g_ref_within_l1 at H
      refine sg [0] rfl ?_
      refine rp rfl rfl (p_bin rfl rfl rfl rfl) ?_
      refine rz [(4, .i (w64 (all4_0 + (row3_0.length : Int)))), (5, .i deep5_0), (6, .c (.own 6 next6_1.length 7)), (26, .c (.own 26 row3_0.length 7)), (27, .i (row3_0.length : Int)), (28, .i t28_1), (29, .b (decide (t28_1 < (row3_0.length : Int))))] [(6, .pure (next6_1.flatMap GExpr.cs)), (26, .pure (row3_0.flatMap GExpr.cs))] rfl rfl rfl ?_
      refine AW2_seq ?_
      refine AW2_if (p := t28_1 < (row3_0.length : Int)) rfl (fun h4 => ?_) (fun h4 => ?_)
      ·replace H := ite_then h4 H
       refine as2 [(4, .i (w64 (all4_0 + (row3_0.length : Int)))), (5, .i deep5_0), (6, .c (.own 6 next6_1.length 7)), (26, .c (.own 26 row3_0.length 7)), (27, .i (row3_0.length : Int)), (28, .i t28_1)] [(6, .pure (next6_1.flatMap GExpr.cs)), (26, .pure (row3_0.flatMap GExpr.cs))] rfl rfl rfl ?_
       refine AW2_skip ?_
       refine AW2_seq ?_
       refine AW2_block ?_
       refine sg [0, 1, 2, 3] rfl ?_
       refine chkK H fun h5 H => ?_
       refine rp rfl rfl (u_ixo rfl rfl Tryd.underlying25 in_27 rfl rfl (fne (fun x => (GExpr.len x)) (by decide) (ixn h5)) rfl (ixe h5) (ixn h5)) ?_
       refine rp rfl rfl (u_lda rfl rfl Tryd.underlying27 rfl in_27 rfl (Nat.succ_pos _) ((Sub.refl _).trans (Sub.fm default (fun x => (GExpr.len x)) (ixn h5))) (GExpr.len (lrd row3_0 t28_1.toNat))) ?_
       refine r_op rfl rfl (MakeD.opD (u_alloc 8 rfl in_27 one_27 zc_27) rfl rfl rfl rfl) ?_
       refine r_op rfl rfl (u_st rfl rfl rfl rfl rfl in_27 (GExpr.len (lrd row3_0 t28_1.toNat)) (ne_of_lt (n := 0) (Nat.lt_of_lt_of_eq (by decide) (Eq.symm (GExpr.len GExpr.zero)))) (Upd.refl ((GExpr.len (lrd row3_0 t28_1.toNat)).trans (GExpr.len GExpr.zero).symm))) ?_
       refine rz [(4, .i (w64 (all4_0 + (row3_0.length : Int)))), (5, .i deep5_0), (6, .c (.own 6 next6_1.length 7)), (8, .q 8 (0)), (26, .c (.own 26 row3_0.length 7)), (27, .i (row3_0.length : Int)), (28, .i t28_1)] [(6, .pure (next6_1.flatMap GExpr.cs)), (8, .pure (GExpr.cs (lrd row3_0 t28_1.toNat))), (26, .pure (row3_0.flatMap GExpr.cs))] rfl rfl rfl ?_
       refine AW2_seq ?_
       refine sg [0, 1, 2, 3] rfl ?_
       refine rp rfl rfl (u_fa rfl rfl Tryd.underlying27 rfl in_25 (Nat.succ_ne_zero _) rfl rfl (ne_of_lt (n := 0) (Nat.lt_of_lt_of_eq (by decide) (Eq.symm (GExpr.len (lrd row3_0 t28_1.toNat)))))) ?_
       refine rp rfl rfl (u_ld rfl rfl Tryd.underlying25 rfl rfl ((Sub.refl _).trans (GExpr.sub3 (lrd row3_0 t28_1.toNat)))) ?_
       refine rp rfl rfl (p_lenl rfl Tryd.underlying25 rfl rfl) ?_
       refine rp rfl rfl (p_bin rfl rfl rfl rfl) ?_
       refine rz [(4, .i (w64 (all4_0 + (row3_0.length : Int)))), (5, .i deep5_0), (6, .c (.own 6 next6_1.length 7)), (8, .q 8 (0)), (26, .c (.own 26 row3_0.length 7)), (27, .i (row3_0.length : Int)), (28, .i t28_1), (35, .b (decide ((((lrd row3_0 t28_1.toNat).Args).length : Int) > (40 : Int))))] [(6, .pure (next6_1.flatMap GExpr.cs)), (8, .pure (GExpr.cs (lrd row3_0 t28_1.toNat))), (26, .pure (row3_0.flatMap GExpr.cs))] rfl rfl rfl ?_
       refine AW2_if (p := (((lrd row3_0 t28_1.toNat).Args).length : Int) > (40 : Int)) rfl (fun h6 => ?_) (fun h6 => ?_)
       ·replace H := ite_then h6 H
        refine sg [0] rfl ?_
        refine rp rfl rfl (p_asg rfl rfl) ?_
        refine rz [(2, .b false)] [] rfl rfl rfl ?_
        refine AW2_ret ?_
        have hz := some_elim H
        subst hz
        exact ⟨rfl, ⟨res_tmp (.same _), trivial⟩, trivial⟩
       ·replace H := ite_else h6 H
        refine as2 [(4, .i (w64 (all4_0 + (row3_0.length : Int)))), (5, .i deep5_0), (6, .c (.own 6 next6_1.length 7)), (8, .q 8 (0)), (26, .c (.own 26 row3_0.length 7)), (27, .i (row3_0.length : Int)), (28, .i t28_1)] [(6, .pure (next6_1.flatMap GExpr.cs)), (8, .pure (GExpr.cs (lrd row3_0 t28_1.toNat))), (26, .pure (row3_0.flatMap GExpr.cs))] rfl rfl rfl ?_
        refine AW2_skip ?_
        refine sg [0, 1, 2, 3, 4] rfl ?_
        refine rp rfl rfl (p_move rfl rfl) ?_
        refine rp rfl rfl (u_fa rfl rfl Tryd.underlying27 rfl in_25 (Nat.succ_ne_zero _) rfl rfl (ne_of_lt (n := 0) (Nat.lt_of_lt_of_eq (by decide) (Eq.symm (GExpr.len (lrd row3_0 t28_1.toNat)))))) ?_
        refine rp rfl rfl (u_ld rfl rfl Tryd.underlying25 rfl rfl ((Sub.refl _).trans (GExpr.sub3 (lrd row3_0 t28_1.toNat)))) ?_
        refine chkK H fun h7 H => ?_
        refine r_op rfl rfl (u_app [6, 36] rfl rfl rfl rfl Tryd.underlying25 Tryd.underlying25 in_27 rfl rfl rfl (fm_length (fun x => (GExpr.len x)) next6_1) (by decide) rfl (fm_length (fun x => (GExpr.len x)) ((lrd row3_0 t28_1.toNat).Args)) h7 (by decide) rfl rfl (fapp GExpr.cs next6_1 ((lrd row3_0 t28_1.toNat).Args)) (lapp next6_1 ((lrd row3_0 t28_1.toNat).Args))) ?_
        refine rp rfl rfl (p_asg rfl rfl) ?_
        refine rz [(4, .i (w64 (all4_0 + (row3_0.length : Int)))), (5, .i deep5_0), (6, .c (.own 6 (next6_1 ++ ((lrd row3_0 t28_1.toNat).Args)).length 7)), (26, .c (.own 26 row3_0.length 7)), (27, .i (row3_0.length : Int)), (28, .i t28_1)] [(6, .pure ((next6_1 ++ ((lrd row3_0 t28_1.toNat).Args)).flatMap GExpr.cs)), (26, .pure (row3_0.flatMap GExpr.cs))] rfl rfl rfl ?_
        refine sg [0, 1, 2] rfl ?_
        refine rp rfl rfl (p_move rfl rfl) ?_
        refine rp rfl rfl (p_leno rfl Tryd.underlying25 rfl rfl rfl (fm_length (fun x => (GExpr.len x)) (next6_1 ++ ((lrd row3_0 t28_1.toNat).Args))) (by decide)) ?_
        refine rp rfl rfl (p_bin rfl rfl rfl rfl) ?_
        refine rz [(4, .i (w64 (all4_0 + (row3_0.length : Int)))), (5, .i deep5_0), (6, .c (.own 6 (next6_1 ++ ((lrd row3_0 t28_1.toNat).Args)).length 7)), (26, .c (.own 26 row3_0.length 7)), (27, .i (row3_0.length : Int)), (28, .i t28_1), (42, .b (decide (((next6_1 ++ ((lrd row3_0 t28_1.toNat).Args)).length : Int) > (40 : Int))))] [(6, .pure ((next6_1 ++ ((lrd row3_0 t28_1.toNat).Args)).flatMap GExpr.cs)), (26, .pure (row3_0.flatMap GExpr.cs))] rfl rfl rfl ?_
        refine AW2_if (p := ((next6_1 ++ ((lrd row3_0 t28_1.toNat).Args)).length : Int) > (40 : Int)) rfl (fun h8 => ?_) (fun h8 => ?_)
        ·replace H := ite_then h8 H
         refine sg [0] rfl ?_
         refine rp rfl rfl (p_asg rfl rfl) ?_
         refine rz [(2, .b false)] [] rfl rfl rfl ?_
         refine AW2_ret ?_
         have hz := some_elim H
         subst hz
         exact ⟨rfl, ⟨res_tmp (.same _), trivial⟩, trivial⟩
        ·replace H := ite_else h8 H
         refine as2 [(4, .i (w64 (all4_0 + (row3_0.length : Int)))), (5, .i deep5_0), (6, .c (.own 6 (next6_1 ++ ((lrd row3_0 t28_1.toNat).Args)).length 7)), (26, .c (.own 26 row3_0.length 7)), (27, .i (row3_0.length : Int)), (28, .i t28_1)] [(6, .pure ((next6_1 ++ ((lrd row3_0 t28_1.toNat).Args)).flatMap GExpr.cs)), (26, .pure (row3_0.flatMap GExpr.cs))] rfl rfl rfl ?_
         refine AW2_skip ?_
         refine AW2_reg [0, 1] rfl ?_
         refine rp rfl rfl (p_bin rfl rfl rfl rfl) ?_
         refine rp rfl rfl (p_move rfl rfl) ?_
         refine rz [(4, .i (w64 (all4_0 + (row3_0.length : Int)))), (5, .i deep5_0), (6, .c (.own 6 (next6_1 ++ ((lrd row3_0 t28_1.toNat).Args)).length 7)), (26, .c (.own 26 row3_0.length 7)), (27, .i (row3_0.length : Int)), (28, .i (w64 (t28_1 + (1 : Int))))] [(6, .pure ((next6_1 ++ ((lrd row3_0 t28_1.toNat).Args)).flatMap GExpr.cs)), (26, .pure (row3_0.flatMap GExpr.cs))] rfl rfl rfl ?_
         have hz := some_elim H
         subst hz
         exact ⟨rfl, rfl⟩
      ·replace H := ite_else h4 H
       refine as2 [(4, .i (w64 (all4_0 + (row3_0.length : Int)))), (5, .i deep5_0), (6, .c (.own 6 next6_1.length 7))] [(6, .pure (next6_1.flatMap GExpr.cs))] rfl rfl rfl ?_
       refine AW2_exit ?_
       refine thenQ2_exit ?_
       have hz := some_elim H
       subst hz
       exact ⟨rfl, rfl⟩
     ·rcases o'4 with y'5 | y'6
      ·obtain ⟨rfl, hs⟩ := hs
       refine ⟨by simp, ?_⟩
       have hz := some_elim H
       subst hz
       exact ⟨rfl, hs.1, hs.2⟩
      ·obtain ⟨rfl, rfl⟩ := hs
       refine ⟨by simp, ?_⟩
       refine blockQ2_exit ?_
       refine AW2_reg [0, 1] rfl ?_
       refine rp rfl rfl (p_move rfl rfl) ?_
       refine rp rfl rfl (p_asg rfl rfl) ?_
       refine rs [(3, .c (.own 6 y'6.length 7)), (4, .i (w64 (all4_0 + (row3_0.length : Int)))), (5, .i deep5_0)] [(6, .pure (y'6.flatMap GExpr.cs))] rfl rfl rfl ?_
       refine RunW_gho (Gho_ren 6 3 rfl rfl rfl rfl rfl) ?_
       refine rz [(3, .c (.own 3 y'6.length 7)), (4, .i (w64 (all4_0 + (row3_0.length : Int)))), (5, .i deep5_0)] [(3, .pure (y'6.flatMap GExpr.cs))] rfl rfl rfl ?_
       refine AW2_reg [0, 1, 2] rfl ?_
       refine rp rfl rfl (p_move rfl rfl) ?_
       refine rp rfl rfl (p_bin rfl rfl rfl rfl) ?_
       refine rp rfl rfl (p_asg rfl rfl) ?_
       refine rz [(3, .c (.own 3 y'6.length 7)), (4, .i (w64 (all4_0 + (row3_0.length : Int)))), (5, .i (w64 (deep5_0 + (1 : Int))))] [(3, .pure (y'6.flatMap GExpr.cs))] rfl rfl rfl ?_
       have hz := some_elim H
       subst hz
       exact ⟨rfl, rfl⟩
  ·replace H := ite_else h1 H
   refine as2 [] [] rfl rfl rfl ?_
   refine AW2_exit ?_
   refine thenQ2_exit ?_
   have hz := some_elim H
   subst hz
   exact ⟨rfl, rfl⟩
 ·rcases o'10 with y'11 | y'12
  ·obtain ⟨rfl, hs⟩ := hs
   refine ⟨by simp, ?_⟩
   have hz := some_elim H
   subst hz
   exact ⟨hs.1, hs.2⟩
  ·obtain ⟨rfl, rfl⟩ := hs
   refine ⟨by simp, ?_⟩
   refine blockQ2_exit ?_
   refine sg [0] rfl ?_
   refine rp rfl rfl (p_asg rfl rfl) ?_
   refine rz [(2, .b true)] [] rfl rfl rfl ?_
   refine AW2_ret ?_
   have hz := some_elim H
   subst hz
   exact ⟨⟨res_tmp (.same _), trivial⟩, trivial⟩

/-! chirographref.badReal -/
noncomputable def g_ref_badReal (b0 : UInt64) : Option (Bool) :=
  some (decide ((b0 = (9223372036854775808 : UInt64)) ∨ ((18437736874454810624 : UInt64) < shl_u64 b0 1)))
set_option maxHeartbeats 4000000 in
set_option maxRecDepth 100000 in
theorem g_ref_badReal_ac {b0 : UInt64} {r : Bool} (H : g_ref_badReal b0 = some r) : ACp Tryd.prog 58 [(AV.u64 b0)] (AV.bool r) := by
 refine ACp_of (AC2_of_body (vs := [.b r]) Tryd.func58 rfl rfl (Nat.le_of_ble_eq_true rfl) rfl ?_) (fun _ => .same _)
 unfold g_ref_badReal at H
 refine as2 [(0, .p (AV.u64 b0))] [] rfl rfl rfl ?_
 refine sg [0] rfl ?_
 refine rp rfl rfl (p_asg rfl rfl) ?_
 refine rz [(0, .p (AV.u64 b0))] [] rfl rfl rfl ?_
 refine AW2_seq ?_
 refine AW2_mid (⟨[(2, .b (decide ((b0 = (9223372036854775808 : UInt64)) ∨ ((18437736874454810624 : UInt64) < shl_u64 b0 1))))], [], 10⟩ : TS) ?_ ?_
 ·refine AW2_reg [0, 1, 2, 3, 4, 5, 6, 7] rfl ?_
  refine rp rfl rfl (p_move rfl rfl) ?_
  refine rp rfl rfl (p_u64eq (a := b0) (b := (9223372036854775808 : UInt64)) rfl rfl rfl) ?_
  refine rp rfl rfl (p_move rfl rfl) ?_
  refine (Classical.em (b0 = (9223372036854775808 : UInt64))).elim (fun h1 => ?_) (fun h1 => ?_)
  ·refine r_off rfl rfl rfl rfl (decide_eq_true h1) rfl rfl ?_
   refine r_off rfl rfl rfl rfl (decide_eq_true h1) rfl rfl ?_
   refine r_off rfl rfl rfl rfl (decide_eq_true h1) rfl rfl ?_
   refine rp rfl rfl (p_pkt rfl rfl (decide_eq_true h1) (tb (decide_eq_true (p := (b0 = (9223372036854775808 : UInt64)) ∨ ((18437736874454810624 : UInt64) < shl_u64 b0 1)) (Or.inl h1)).symm)) ?_
   refine rp rfl rfl (p_asg rfl rfl) ?_
   refine rs [(2, .b (decide ((b0 = (9223372036854775808 : UInt64)) ∨ ((18437736874454810624 : UInt64) < shl_u64 b0 1))))] [] rfl rfl rfl ?_
   exact RunW_nil rfl
  ·refine r_on rfl rfl rfl rfl (decide_eq_false h1) rfl (PureD.opD (p_move rfl rfl)) ?_
   refine r_on rfl rfl rfl rfl (decide_eq_false h1) rfl (PureD.opD (p_u64shl (n := 1) rfl rfl rfl rfl)) ?_
   refine r_on rfl rfl rfl rfl (decide_eq_false h1) rfl (PureD.opD (p_u64gt (a := shl_u64 b0 1) (b := (18437736874454810624 : UInt64)) rfl rfl rfl)) ?_
   refine rp rfl rfl (p_pkf rfl rfl (decide_eq_false h1) (tb ((or_l (p := b0 = (9223372036854775808 : UInt64)) (q := (18437736874454810624 : UInt64) < shl_u64 b0 1) h1)))) ?_
   refine rp rfl rfl (p_asg rfl rfl) ?_
   refine rs [(2, .b (decide ((b0 = (9223372036854775808 : UInt64)) ∨ ((18437736874454810624 : UInt64) < shl_u64 b0 1))))] [] rfl rfl rfl ?_
   exact RunW_nil rfl
 ·refine AW2_ret ?_
  have hz := some_elim H
  subst hz
  exact ⟨⟨res_tmp (.same _), trivial⟩, trivial⟩

/-! chirographref.ValueFault -/
noncomputable def g_ref_ValueFault (v0 : GValue) : Option (Int) :=
  (show Option (Int ⊕ GValue) from (if v0.Kind = (0 : Int) then some (.inr ({ GValue.zero with Kind := v0.Kind })) else ((if v0.Kind = (1 : Int) then some (decide (v0.Kind = (1 : Int))) else some (decide (v0.Kind = (2 : Int))))).bind fun j'2 => (if j'2 = true then some (.inr ({ { GValue.zero with Kind := v0.Kind } with Int_ := v0.Int_ })) else (if v0.Kind = (3 : Int) then some (.inr ({ { GValue.zero with Kind := v0.Kind } with Bits := v0.Bits })) else (if v0.Kind = (4 : Int) then some (.inr ({ { GValue.zero with Kind := v0.Kind } with Text := v0.Text })) else some (.inl (2 : Int))))))).bind fun o'12 => match o'12 with | .inl y'3 => some y'3 | .inr j'1 => (if (v0.Text.length : Int) > (40 : Int) then some (1 : Int) else ((if v0 ≠ j'1 then some true else (if v0.Kind = (1 : Int) then (if (1 : UInt64) < UInt64.ofInt v0.Int_ then some true else (if v0.Kind = (3 : Int) then (g_ref_badReal v0.Bits).bind fun r'5 => (if r'5 = true then some true else (g_utf8_ValidString v0.Text).bind fun r'6 => some (!r'6)) else (g_utf8_ValidString v0.Text).bind fun r'7 => some (!r'7))) else (if v0.Kind = (3 : Int) then (g_ref_badReal v0.Bits).bind fun r'8 => (if r'8 = true then some true else (g_utf8_ValidString v0.Text).bind fun r'9 => some (!r'9)) else (g_utf8_ValidString v0.Text).bind fun r'10 => some (!r'10))))).bind fun g'11 => (if g'11 = true then some (3 : Int) else some (0 : Int)))
set_option maxHeartbeats 4000000 in
set_option maxRecDepth 100000 in
theorem g_ref_ValueFault_ac {v0 : GValue} {r : Int} (H : g_ref_ValueFault v0 = some r) : ACp Tryd.prog 35 [(.agg (GValue.cs v0))] (AV.int r) := by
 refine ACp_of (AC2_of_body (vs := [.i r]) Tryd.func35 rfl rfl (Nat.le_of_ble_eq_true rfl) rfl ?_) (fun _ => .same _)
 unfold g_ref_ValueFault at H
 refine as2 [(0, .g (GValue.cs v0))] [] rfl rfl rfl ?_
 refine sg [0, 1] rfl ?_
 refine r_op rfl rfl (MakeD.opD (n_box 1 rfl rfl) rfl rfl rfl rfl) ?_
 refine rp rfl rfl (p_asg rfl rfl) ?_
 refine rz [(1, .q 1 (0))] [(1, .pure (GValue.cs v0))] rfl rfl rfl ?_
 refine sg [0, 1, 2, 3, 4] rfl ?_
 refine rp rfl rfl (u_fa rfl rfl Tryd.underlying24 rfl in_3 (Nat.succ_ne_zero _) rfl rfl (ne_of_lt (n := 0) (Nat.lt_of_lt_of_eq (by decide) (Eq.symm (GValue.len v0))))) ?_
 refine rp rfl rfl (u_ld rfl rfl Tryd.underlying3 rfl rfl ((Sub.refl _).trans (GValue.sub0 v0))) ?_
 refine rp rfl rfl (u_bld rfl in_24 one_24 zc_24 pl_24 rfl (af_cons rfl rfl (GValue.upd0 GValue.zero v0.Kind) rfl)) ?_
 refine r_op rfl rfl (MakeD.opD (u_alloc 3 rfl in_24 one_24 zc_24) rfl rfl rfl rfl) ?_
 refine r_op rfl rfl (u_st rfl rfl rfl rfl rfl in_24 (GValue.len ((GValue.w0 GValue.zero v0.Kind))) (ne_of_lt (n := 0) (Nat.lt_of_lt_of_eq (by decide) (Eq.symm (GValue.len GValue.zero)))) (Upd.refl ((GValue.len ((GValue.w0 GValue.zero v0.Kind))).trans (GValue.len GValue.zero).symm))) ?_
 refine rz [(1, .q 1 (0)), (3, .q 3 (0))] [(1, .pure (GValue.cs v0)), (3, .pure (GValue.cs ((GValue.w0 GValue.zero v0.Kind))))] rfl rfl rfl ?_
 refine AW2_seq ?_
 refine bindK H fun o'12 h1 H => ?_
 refine AW2_join (fun j'1 : GValue => (⟨[(1, .q 1 (0)), (3, .q 3 (0))], [(1, .pure (GValue.cs v0)), (3, .pure (GValue.cs j'1))], 61⟩ : TS)) (fun r e s' => e = Go.Exit.ret ∧ ResAll Tryd.prog s' [ResultVar.tmp 2] [.i r] ∧ HFits s' []) (x := o'12) ?_ (fun j'1 hy => ?_) (fun y'3 e s' hy hs => ?_)
 ·clear H
  have H := h1
  clear h1
  refine sg [0, 1] rfl ?_
  refine rp rfl rfl (u_fa rfl rfl Tryd.underlying24 rfl in_3 (Nat.succ_ne_zero _) rfl rfl (ne_of_lt (n := 0) (Nat.lt_of_lt_of_eq (by decide) (Eq.symm (GValue.len v0))))) ?_
  refine rp rfl rfl (u_ld rfl rfl Tryd.underlying3 rfl rfl ((Sub.refl _).trans (GValue.sub0 v0))) ?_
  refine rz [(1, .q 1 (0)), (3, .q 3 (0)), (8, .i v0.Kind)] [(1, .pure (GValue.cs v0)), (3, .pure (GValue.cs ((GValue.w0 GValue.zero v0.Kind))))] rfl rfl rfl ?_
  refine AW2_block ?_
  refine sg [0, 1] rfl ?_
  refine rp rfl rfl (p_ieq rfl rfl rfl) ?_
  refine rp rfl rfl (p_asg rfl rfl) ?_
  refine rz [(1, .q 1 (0)), (3, .q 3 (0)), (8, .i v0.Kind), (9, .b (decide (v0.Kind = (0 : Int))))] [(1, .pure (GValue.cs v0)), (3, .pure (GValue.cs ((GValue.w0 GValue.zero v0.Kind))))] rfl rfl rfl ?_
  refine AW2_if (p := v0.Kind = (0 : Int)) rfl (fun h2 => ?_) (fun h2 => ?_)
  ·replace H := ite_then h2 H
   refine as2 [(1, .q 1 (0)), (3, .q 3 (0))] [(1, .pure (GValue.cs v0)), (3, .pure (GValue.cs ((GValue.w0 GValue.zero v0.Kind))))] rfl rfl rfl ?_
   refine AW2_skip ?_
   have hz := some_elim H
   subst hz
   exact ⟨rfl, rfl⟩
  ·replace H := ite_else h2 H
   refine AW2_seq ?_
   refine bindK H fun j'2 h3 H => ?_
   refine AW2_mid (⟨[(1, .q 1 (0)), (3, .q 3 (0)), (8, .i v0.Kind), (11, .b j'2)], [(1, .pure (GValue.cs v0)), (3, .pure (GValue.cs ((GValue.w0 GValue.zero v0.Kind))))], 61⟩ : TS) ?_ ?_
   ·clear H
    have H := h3
    clear h3
    refine sg [0, 1] rfl ?_
    refine rp rfl rfl (p_ieq rfl rfl rfl) ?_
    refine rp rfl rfl (p_asg rfl rfl) ?_
    refine rz [(1, .q 1 (0)), (3, .q 3 (0)), (8, .i v0.Kind), (11, .b (decide (v0.Kind = (1 : Int))))] [(1, .pure (GValue.cs v0)), (3, .pure (GValue.cs ((GValue.w0 GValue.zero v0.Kind))))] rfl rfl rfl ?_
    refine AW2_if (p := v0.Kind = (1 : Int)) rfl (fun h4 => ?_) (fun h4 => ?_)
    ·replace H := ite_then h4 H
     refine AW2_skip ?_
     have hz := some_elim H
     subst hz
     exact rfl
    ·replace H := ite_else h4 H
     refine AW2_reg [0, 1] rfl ?_
     refine rp rfl rfl (p_ieq rfl rfl rfl) ?_
     refine rp rfl rfl (p_asg rfl rfl) ?_
     refine rz [(1, .q 1 (0)), (3, .q 3 (0)), (8, .i v0.Kind), (11, .b (decide (v0.Kind = (2 : Int))))] [(1, .pure (GValue.cs v0)), (3, .pure (GValue.cs ((GValue.w0 GValue.zero v0.Kind))))] rfl rfl rfl ?_
     have hz := some_elim H
     subst hz
     exact rfl
   ·refine AW2_cond rfl (fun h5 => ?_) (fun h5 => ?_)
    ·replace H := ite_then h5 H
     refine AW2_reg [0, 1, 2, 3] rfl ?_
     refine rp rfl rfl (u_fa rfl rfl Tryd.underlying24 rfl in_3 (Nat.succ_ne_zero _) rfl rfl (ne_of_lt (n := 0) (Nat.lt_of_lt_of_eq (by decide) (Eq.symm (GValue.len v0))))) ?_
     refine rp rfl rfl (u_ld rfl rfl Tryd.underlying3 rfl rfl ((Sub.refl _).trans (GValue.sub1 v0))) ?_
     refine rp rfl rfl (u_fa rfl rfl Tryd.underlying24 rfl in_3 (Nat.succ_ne_zero _) rfl rfl (ne_of_lt (n := 0) (Nat.lt_of_lt_of_eq (by decide) (Eq.symm (GValue.len ((GValue.w0 GValue.zero v0.Kind))))))) ?_
     refine r_op rfl rfl (u_st rfl rfl rfl rfl rfl in_3 rfl (ne_of_lt (n := 0) (Nat.lt_of_lt_of_eq (by decide) (Eq.symm (GValue.len ((GValue.w0 GValue.zero v0.Kind)))))) (Upd.trans (Sub.refl _) (GValue.upd1 ((GValue.w0 GValue.zero v0.Kind)) v0.Int_) (Upd.refl ((GValue.len ((GValue.w1 (GValue.w0 GValue.zero v0.Kind) v0.Int_))).trans (GValue.len ((GValue.w0 GValue.zero v0.Kind))).symm)))) ?_
     refine rz [(1, .q 1 (0)), (3, .q 3 (0))] [(1, .pure (GValue.cs v0)), (3, .pure (GValue.cs ((GValue.w1 (GValue.w0 GValue.zero v0.Kind) v0.Int_))))] rfl rfl rfl ?_
     have hz := some_elim H
     subst hz
     exact ⟨rfl, rfl⟩
    ·replace H := ite_else (ne_true h5) H
     refine sg [0, 1] rfl ?_
     refine rp rfl rfl (p_ieq rfl rfl rfl) ?_
     refine rp rfl rfl (p_asg rfl rfl) ?_
     refine rz [(1, .q 1 (0)), (3, .q 3 (0)), (8, .i v0.Kind), (17, .b (decide (v0.Kind = (3 : Int))))] [(1, .pure (GValue.cs v0)), (3, .pure (GValue.cs ((GValue.w0 GValue.zero v0.Kind))))] rfl rfl rfl ?_
     refine AW2_if (p := v0.Kind = (3 : Int)) rfl (fun h6 => ?_) (fun h6 => ?_)
     ·replace H := ite_then h6 H
      refine AW2_reg [0, 1, 2, 3] rfl ?_
      refine rp rfl rfl (u_fa rfl rfl Tryd.underlying24 rfl in_22 (Nat.succ_ne_zero _) rfl rfl (ne_of_lt (n := 0) (Nat.lt_of_lt_of_eq (by decide) (Eq.symm (GValue.len v0))))) ?_
      refine rp rfl rfl (u_ld rfl rfl Tryd.underlying22 rfl rfl ((Sub.refl _).trans (GValue.sub2 v0))) ?_
      refine rp rfl rfl (u_fa rfl rfl Tryd.underlying24 rfl in_22 (Nat.succ_ne_zero _) rfl rfl (ne_of_lt (n := 0) (Nat.lt_of_lt_of_eq (by decide) (Eq.symm (GValue.len ((GValue.w0 GValue.zero v0.Kind))))))) ?_
      refine r_op rfl rfl (u_st rfl rfl rfl rfl rfl in_22 rfl (ne_of_lt (n := 0) (Nat.lt_of_lt_of_eq (by decide) (Eq.symm (GValue.len ((GValue.w0 GValue.zero v0.Kind)))))) (Upd.trans (Sub.refl _) (GValue.upd2 ((GValue.w0 GValue.zero v0.Kind)) v0.Bits) (Upd.refl ((GValue.len ((GValue.w2 (GValue.w0 GValue.zero v0.Kind) v0.Bits))).trans (GValue.len ((GValue.w0 GValue.zero v0.Kind))).symm)))) ?_
      refine rz [(1, .q 1 (0)), (3, .q 3 (0))] [(1, .pure (GValue.cs v0)), (3, .pure (GValue.cs ((GValue.w2 (GValue.w0 GValue.zero v0.Kind) v0.Bits))))] rfl rfl rfl ?_
      have hz := some_elim H
      subst hz
      exact ⟨rfl, rfl⟩
     ·replace H := ite_else h6 H
      refine sg [0, 1] rfl ?_
      refine rp rfl rfl (p_ieq rfl rfl rfl) ?_
      refine rp rfl rfl (p_asg rfl rfl) ?_
      refine rz [(1, .q 1 (0)), (3, .q 3 (0)), (22, .b (decide (v0.Kind = (4 : Int))))] [(1, .pure (GValue.cs v0)), (3, .pure (GValue.cs ((GValue.w0 GValue.zero v0.Kind))))] rfl rfl rfl ?_
      refine AW2_if (p := v0.Kind = (4 : Int)) rfl (fun h7 => ?_) (fun h7 => ?_)
      ·replace H := ite_then h7 H
       refine AW2_reg [0, 1, 2, 3] rfl ?_
       refine rp rfl rfl (u_fa rfl rfl Tryd.underlying24 rfl in_9 (Nat.succ_ne_zero _) rfl rfl (ne_of_lt (n := 0) (Nat.lt_of_lt_of_eq (by decide) (Eq.symm (GValue.len v0))))) ?_
       refine rp rfl rfl (u_ld rfl rfl Tryd.underlying9 rfl rfl ((Sub.refl _).trans (GValue.sub3 v0))) ?_
       refine rp rfl rfl (u_fa rfl rfl Tryd.underlying24 rfl in_9 (Nat.succ_ne_zero _) rfl rfl (ne_of_lt (n := 0) (Nat.lt_of_lt_of_eq (by decide) (Eq.symm (GValue.len ((GValue.w0 GValue.zero v0.Kind))))))) ?_
       refine r_op rfl rfl (u_st rfl rfl rfl rfl rfl in_9 rfl (ne_of_lt (n := 0) (Nat.lt_of_lt_of_eq (by decide) (Eq.symm (GValue.len ((GValue.w0 GValue.zero v0.Kind)))))) (Upd.trans (Sub.refl _) (GValue.upd3 ((GValue.w0 GValue.zero v0.Kind)) v0.Text) (Upd.refl ((GValue.len ((GValue.w3 (GValue.w0 GValue.zero v0.Kind) v0.Text))).trans (GValue.len ((GValue.w0 GValue.zero v0.Kind))).symm)))) ?_
       refine rz [(1, .q 1 (0)), (3, .q 3 (0))] [(1, .pure (GValue.cs v0)), (3, .pure (GValue.cs ((GValue.w3 (GValue.w0 GValue.zero v0.Kind) v0.Text))))] rfl rfl rfl ?_
       have hz := some_elim H
       subst hz
       exact ⟨rfl, rfl⟩
      ·replace H := ite_else h7 H
       refine sg [0] rfl ?_
       refine rp rfl rfl (p_asg rfl rfl) ?_
       refine rz [(2, .i (2 : Int))] [] rfl rfl rfl ?_
       refine AW2_ret ?_
       have hz := some_elim H
       subst hz
       exact ⟨rfl, ⟨res_tmp (.same _), trivial⟩, trivial⟩
 ·subst hy
  refine AW2_seq ?_
  refine sg [0, 1, 2, 3] rfl ?_
  refine rp rfl rfl (u_fa rfl rfl Tryd.underlying24 rfl in_9 (Nat.succ_ne_zero _) rfl rfl (ne_of_lt (n := 0) (Nat.lt_of_lt_of_eq (by decide) (Eq.symm (GValue.len v0))))) ?_
  refine rp rfl rfl (u_ld rfl rfl Tryd.underlying9 rfl rfl ((Sub.refl _).trans (GValue.sub3 v0))) ?_
  refine rp rfl rfl (p_lent rfl Tryd.underlying9 rfl) ?_
  refine rp rfl rfl (p_bin rfl rfl rfl rfl) ?_
  refine rz [(1, .q 1 (0)), (3, .q 3 (0)), (30, .b (decide ((v0.Text.length : Int) > (40 : Int))))] [(1, .pure (GValue.cs v0)), (3, .pure (GValue.cs j'1))] rfl rfl rfl ?_
  refine AW2_if (p := (v0.Text.length : Int) > (40 : Int)) rfl (fun h8 => ?_) (fun h8 => ?_)
  ·replace H := ite_then h8 H
   refine sg [0] rfl ?_
   refine rp rfl rfl (p_asg rfl rfl) ?_
   refine rz [(2, .i (1 : Int))] [] rfl rfl rfl ?_
   refine AW2_ret ?_
   have hz := some_elim H
   subst hz
   exact ⟨⟨res_tmp (.same _), trivial⟩, trivial⟩
  ·replace H := ite_else h8 H
   refine as2 [(1, .q 1 (0)), (3, .q 3 (0))] [(1, .pure (GValue.cs v0)), (3, .pure (GValue.cs j'1))] rfl rfl rfl ?_
   refine AW2_skip ?_
   refine AW2_seq ?_
   refine AW2_seq ?_
   refine bindK H fun g'11 h23 H => ?_
   refine AW2_mid (⟨[(60, .b g'11)], [], 61⟩ : TS) ?_ ?_
   ·clear H
    have H := h23
    clear h23
    refine AW2_reg [0, 1, 2, 3, 4, 5, 6, 7, 8, 9, 10, 11, 12, 13, 14, 15, 16, 17, 18, 19, 20, 21, 22, 23, 24, 25, 26, 27, 28, 29] rfl ?_
    refine rp rfl rfl (u_lda rfl rfl Tryd.underlying24 rfl in_24 rfl (Nat.succ_pos _) (Sub.refl _) (GValue.len v0)) ?_
    refine rp rfl rfl (u_lda rfl rfl Tryd.underlying24 rfl in_24 rfl (Nat.succ_pos _) (Sub.refl _) (GValue.len j'1)) ?_
    refine rp rfl rfl (p_nea (a := v0) (b := j'1) rfl eq_24 rfl (by kernel_rfl) rfl rfl) ?_
    refine rp rfl rfl (p_move rfl rfl) ?_
    refine (Classical.em (v0 ≠ j'1)).elim (fun h10 => ?_) (fun h10 => ?_)
    ·replace H := ite_then h10 H
     refine r_off rfl rfl rfl rfl (decide_eq_true h10) rfl rfl ?_
     refine r_off rfl rfl rfl rfl (decide_eq_true h10) rfl rfl ?_
     refine r_off rfl rfl rfl rfl (decide_eq_true h10) rfl rfl ?_
     refine r_off rfl rfl rfl rfl (decide_eq_true h10) rfl rfl ?_
     refine r_off2 rfl rfl rfl rfl rfl rfl ?_
     refine r_off2 rfl rfl rfl rfl rfl rfl ?_
     refine r_off2 rfl rfl rfl rfl rfl rfl ?_
     refine r_off2 rfl rfl rfl rfl rfl rfl ?_
     refine r_off rfl rfl rfl rfl (decide_eq_true h10) rfl rfl ?_
     refine rp rfl rfl (p_pkt rfl rfl (decide_eq_true h10) (.same _)) ?_
     refine rp rfl rfl (p_move rfl rfl) ?_
     refine r_off rfl rfl rfl rfl rfl rfl rfl ?_
     refine r_off rfl rfl rfl rfl rfl rfl rfl ?_
     refine r_off rfl rfl rfl rfl rfl rfl rfl ?_
     refine r_off rfl rfl rfl rfl rfl rfl rfl ?_
     refine r_off2 rfl rfl rfl rfl rfl rfl ?_
     refine r_off2 rfl rfl rfl rfl rfl rfl ?_
     refine r_off2 rfl rfl rfl rfl rfl rfl ?_
     refine r_off rfl rfl rfl rfl rfl rfl rfl ?_
     refine rp rfl rfl (p_pkt rfl rfl rfl (.same _)) ?_
     refine rp rfl rfl (p_move rfl rfl) ?_
     refine r_off rfl rfl rfl rfl rfl rfl rfl ?_
     refine r_off rfl rfl rfl rfl rfl rfl rfl ?_
     refine r_off rfl rfl rfl rfl rfl rfl rfl ?_
     refine r_off rfl rfl rfl rfl rfl rfl rfl ?_
     refine rp rfl rfl (p_pkt rfl rfl rfl (.same _)) ?_
     refine rs [(60, .b true)] [] rfl rfl rfl ?_
     have hz := some_elim H
     subst hz
     exact RunW_nil rfl
    ·replace H := ite_else h10 H
     refine r_on rfl rfl rfl rfl (decide_eq_false h10) rfl (PureD.opD (u_fa rfl rfl Tryd.underlying24 rfl in_3 (Nat.succ_ne_zero _) rfl rfl (ne_of_lt (n := 0) (Nat.lt_of_lt_of_eq (by decide) (Eq.symm (GValue.len v0)))))) ?_
     refine r_on rfl rfl rfl rfl (decide_eq_false h10) rfl (PureD.opD (u_ld rfl rfl Tryd.underlying3 rfl rfl ((Sub.refl _).trans (GValue.sub0 v0)))) ?_
     refine r_on rfl rfl rfl rfl (decide_eq_false h10) rfl (PureD.opD (p_ieq rfl rfl rfl)) ?_
     refine r_on rfl rfl rfl rfl (decide_eq_false h10) rfl (PureD.opD (p_move rfl rfl)) ?_
     refine (Classical.em (v0.Kind = (1 : Int))).elim (fun h11 => ?_) (fun h11 => ?_)
     ·replace H := ite_then h11 H
      refine r_on rfl rfl rfl rfl (decide_eq_true h11) rfl (PureD.opD (u_fa rfl rfl Tryd.underlying24 rfl in_3 (Nat.succ_ne_zero _) rfl rfl (ne_of_lt (n := 0) (Nat.lt_of_lt_of_eq (by decide) (Eq.symm (GValue.len v0)))))) ?_
      refine r_on rfl rfl rfl rfl (decide_eq_true h11) rfl (PureD.opD (u_ld rfl rfl Tryd.underlying3 rfl rfl ((Sub.refl _).trans (GValue.sub1 v0)))) ?_
      refine r_on rfl rfl rfl rfl (decide_eq_true h11) rfl (PureD.opD (p_i_u64 rfl Tryd.underlying3 Tryd.underlying88 rfl)) ?_
      refine r_on rfl rfl rfl rfl (decide_eq_true h11) rfl (PureD.opD (p_u64gt (a := UInt64.ofInt v0.Int_) (b := (1 : UInt64)) rfl rfl rfl)) ?_
      refine r_on rfl rfl rfl rfl (decide_eq_false h10) rfl (PureD.opD (p_pkt rfl rfl (decide_eq_true h11) (.same _))) ?_
      refine rp rfl rfl (p_pkf rfl rfl (decide_eq_false h10) (.same _)) ?_
      refine rp rfl rfl (p_move rfl rfl) ?_
      refine (Classical.em ((1 : UInt64) < UInt64.ofInt v0.Int_)).elim (fun h12 => ?_) (fun h12 => ?_)
      ·replace H := ite_then h12 H
       refine r_off rfl rfl rfl rfl (decide_eq_true h12) rfl rfl ?_
       refine r_off rfl rfl rfl rfl (decide_eq_true h12) rfl rfl ?_
       refine r_off rfl rfl rfl rfl (decide_eq_true h12) rfl rfl ?_
       refine r_off rfl rfl rfl rfl (decide_eq_true h12) rfl rfl ?_
       refine r_off2 rfl rfl rfl rfl rfl rfl ?_
       refine r_off2 rfl rfl rfl rfl rfl rfl ?_
       refine r_off2 rfl rfl rfl rfl rfl rfl ?_
       refine r_off rfl rfl rfl rfl (decide_eq_true h12) rfl rfl ?_
       refine rp rfl rfl (p_pkt rfl rfl (decide_eq_true h12) (.same _)) ?_
       refine rp rfl rfl (p_move rfl rfl) ?_
       refine r_off rfl rfl rfl rfl rfl rfl rfl ?_
       refine r_off rfl rfl rfl rfl rfl rfl rfl ?_
       refine r_off rfl rfl rfl rfl rfl rfl rfl ?_
       refine r_off rfl rfl rfl rfl rfl rfl rfl ?_
       refine rp rfl rfl (p_pkt rfl rfl rfl (.same _)) ?_
       refine rs [(60, .b true)] [] rfl rfl rfl ?_
       have hz := some_elim H
       subst hz
       exact RunW_nil rfl
      ·replace H := ite_else h12 H
       refine r_on rfl rfl rfl rfl (decide_eq_false h12) rfl (PureD.opD (u_fa rfl rfl Tryd.underlying24 rfl in_3 (Nat.succ_ne_zero _) rfl rfl (ne_of_lt (n := 0) (Nat.lt_of_lt_of_eq (by decide) (Eq.symm (GValue.len v0)))))) ?_
       refine r_on rfl rfl rfl rfl (decide_eq_false h12) rfl (PureD.opD (u_ld rfl rfl Tryd.underlying3 rfl rfl ((Sub.refl _).trans (GValue.sub0 v0)))) ?_
       refine r_on rfl rfl rfl rfl (decide_eq_false h12) rfl (PureD.opD (p_ieq rfl rfl rfl)) ?_
       refine r_on rfl rfl rfl rfl (decide_eq_false h12) rfl (PureD.opD (p_move rfl rfl)) ?_
       refine (Classical.em (v0.Kind = (3 : Int))).elim (fun h13 => ?_) (fun h13 => ?_)
       ·replace H := ite_then h13 H
        refine r_on rfl rfl rfl rfl (decide_eq_true h13) rfl (PureD.opD (u_fa rfl rfl Tryd.underlying24 rfl in_22 (Nat.succ_ne_zero _) rfl rfl (ne_of_lt (n := 0) (Nat.lt_of_lt_of_eq (by decide) (Eq.symm (GValue.len v0)))))) ?_
        refine r_on rfl rfl rfl rfl (decide_eq_true h13) rfl (PureD.opD (u_ld rfl rfl Tryd.underlying22 rfl rfl ((Sub.refl _).trans (GValue.sub2 v0)))) ?_
        refine bindK H fun r'5 h14 H => ?_
        refine r_on rfl rfl rfl rfl (decide_eq_true h13) rfl (PureD.opD (p_callp rfl rfl rfl Tryd.func58 rfl rfl (g_ref_badReal_ac h14) ⟨rfl, trivial⟩)) ?_
        refine r_on rfl rfl rfl rfl (decide_eq_false h12) rfl (PureD.opD (p_pkt rfl rfl (decide_eq_true h13) (.same _))) ?_
        refine rp rfl rfl (p_pkf rfl rfl (decide_eq_false h12) (.same _)) ?_
        refine rp rfl rfl (p_move rfl rfl) ?_
        refine (Classical.em (r'5 = true)).elim (fun h15 => ?_) (fun h15 => ?_)
        ·replace H := ite_then h15 H
         refine r_off rfl rfl rfl rfl h15 rfl rfl ?_
         refine r_off rfl rfl rfl rfl h15 rfl rfl ?_
         refine r_off rfl rfl rfl rfl h15 rfl rfl ?_
         refine r_off rfl rfl rfl rfl h15 rfl rfl ?_
         refine rp rfl rfl (p_pkt rfl rfl h15 (.same _)) ?_
         refine rs [(60, .b true)] [] rfl rfl rfl ?_
         have hz := some_elim H
         subst hz
         exact RunW_nil rfl
        ·replace H := ite_else h15 H
         refine r_on rfl rfl rfl rfl (bfalse h15) rfl (PureD.opD (u_fa rfl rfl Tryd.underlying24 rfl in_9 (Nat.succ_ne_zero _) rfl rfl (ne_of_lt (n := 0) (Nat.lt_of_lt_of_eq (by decide) (Eq.symm (GValue.len v0)))))) ?_
         refine r_on rfl rfl rfl rfl (bfalse h15) rfl (PureD.opD (u_ld rfl rfl Tryd.underlying9 rfl rfl ((Sub.refl _).trans (GValue.sub3 v0)))) ?_
         refine bindK H fun r'6 h16 H => ?_
         refine r_on rfl rfl rfl rfl (bfalse h15) rfl (PureD.opD (p_callp rfl rfl rfl Tryd.func59 rfl rfl (g_utf8_ValidString_ac h16) ⟨rfl, trivial⟩)) ?_
         refine r_on rfl rfl rfl rfl (bfalse h15) rfl (PureD.opD (p_not rfl rfl)) ?_
         refine rp rfl rfl (p_pkf rfl rfl (bfalse h15) (.same _)) ?_
         refine rs [(60, .b (!r'6))] [] rfl rfl rfl ?_
         have hz := some_elim H
         subst hz
         exact RunW_nil rfl
       ·replace H := ite_else h13 H
        refine r_off rfl rfl rfl rfl (decide_eq_false h13) rfl rfl ?_
        refine r_off rfl rfl rfl rfl (decide_eq_false h13) rfl rfl ?_
        refine r_off rfl rfl rfl rfl (decide_eq_false h13) rfl rfl ?_
        refine r_on rfl rfl rfl rfl (decide_eq_false h12) rfl (PureD.opD (p_pkf rfl rfl (decide_eq_false h13) (.same _))) ?_
        refine rp rfl rfl (p_pkf rfl rfl (decide_eq_false h12) (.same _)) ?_
        refine rp rfl rfl (p_move rfl rfl) ?_
        refine r_on rfl rfl rfl rfl (bfalse (by decide)) rfl (PureD.opD (u_fa rfl rfl Tryd.underlying24 rfl in_9 (Nat.succ_ne_zero _) rfl rfl (ne_of_lt (n := 0) (Nat.lt_of_lt_of_eq (by decide) (Eq.symm (GValue.len v0)))))) ?_
        refine r_on rfl rfl rfl rfl (bfalse (by decide)) rfl (PureD.opD (u_ld rfl rfl Tryd.underlying9 rfl rfl ((Sub.refl _).trans (GValue.sub3 v0)))) ?_
        refine bindK H fun r'7 h17 H => ?_
        refine r_on rfl rfl rfl rfl (bfalse (by decide)) rfl (PureD.opD (p_callp rfl rfl rfl Tryd.func59 rfl rfl (g_utf8_ValidString_ac h17) ⟨rfl, trivial⟩)) ?_
        refine r_on rfl rfl rfl rfl (bfalse (by decide)) rfl (PureD.opD (p_not rfl rfl)) ?_
        refine rp rfl rfl (p_pkf rfl rfl (bfalse (by decide)) (.same _)) ?_
        refine rs [(60, .b (!r'7))] [] rfl rfl rfl ?_
        have hz := some_elim H
        subst hz
        exact RunW_nil rfl
     ·replace H := ite_else h11 H
      refine r_off rfl rfl rfl rfl (decide_eq_false h11) rfl rfl ?_
      refine r_off rfl rfl rfl rfl (decide_eq_false h11) rfl rfl ?_
      refine r_off rfl rfl rfl rfl (decide_eq_false h11) rfl rfl ?_
      refine r_off rfl rfl rfl rfl (decide_eq_false h11) rfl rfl ?_
      refine r_on rfl rfl rfl rfl (decide_eq_false h10) rfl (PureD.opD (p_pkf rfl rfl (decide_eq_false h11) (.same _))) ?_
      refine rp rfl rfl (p_pkf rfl rfl (decide_eq_false h10) (.same _)) ?_
      refine rp rfl rfl (p_move rfl rfl) ?_
      refine r_on rfl rfl rfl rfl (bfalse (by decide)) rfl (PureD.opD (u_fa rfl rfl Tryd.underlying24 rfl in_3 (Nat.succ_ne_zero _) rfl rfl (ne_of_lt (n := 0) (Nat.lt_of_lt_of_eq (by decide) (Eq.symm (GValue.len v0)))))) ?_
      refine r_on rfl rfl rfl rfl (bfalse (by decide)) rfl (PureD.opD (u_ld rfl rfl Tryd.underlying3 rfl rfl ((Sub.refl _).trans (GValue.sub0 v0)))) ?_
      refine r_on rfl rfl rfl rfl (bfalse (by decide)) rfl (PureD.opD (p_ieq rfl rfl rfl)) ?_
      refine r_on rfl rfl rfl rfl (bfalse (by decide)) rfl (PureD.opD (p_move rfl rfl)) ?_
      refine (Classical.em (v0.Kind = (3 : Int))).elim (fun h18 => ?_) (fun h18 => ?_)
      ·replace H := ite_then h18 H
       refine r_on rfl rfl rfl rfl (decide_eq_true h18) rfl (PureD.opD (u_fa rfl rfl Tryd.underlying24 rfl in_22 (Nat.succ_ne_zero _) rfl rfl (ne_of_lt (n := 0) (Nat.lt_of_lt_of_eq (by decide) (Eq.symm (GValue.len v0)))))) ?_
       refine r_on rfl rfl rfl rfl (decide_eq_true h18) rfl (PureD.opD (u_ld rfl rfl Tryd.underlying22 rfl rfl ((Sub.refl _).trans (GValue.sub2 v0)))) ?_
       refine bindK H fun r'8 h19 H => ?_
       refine r_on rfl rfl rfl rfl (decide_eq_true h18) rfl (PureD.opD (p_callp rfl rfl rfl Tryd.func58 rfl rfl (g_ref_badReal_ac h19) ⟨rfl, trivial⟩)) ?_
       refine r_on rfl rfl rfl rfl (bfalse (by decide)) rfl (PureD.opD (p_pkt rfl rfl (decide_eq_true h18) (.same _))) ?_
       refine rp rfl rfl (p_pkf rfl rfl (bfalse (by decide)) (.same _)) ?_
       refine rp rfl rfl (p_move rfl rfl) ?_
       refine (Classical.em (r'8 = true)).elim (fun h20 => ?_) (fun h20 => ?_)
       ·replace H := ite_then h20 H
        refine r_off rfl rfl rfl rfl h20 rfl rfl ?_
        refine r_off rfl rfl rfl rfl h20 rfl rfl ?_
        refine r_off rfl rfl rfl rfl h20 rfl rfl ?_
        refine r_off rfl rfl rfl rfl h20 rfl rfl ?_
        refine rp rfl rfl (p_pkt rfl rfl h20 (.same _)) ?_
        refine rs [(60, .b true)] [] rfl rfl rfl ?_
        have hz := some_elim H
        subst hz
        exact RunW_nil rfl
       ·replace H := ite_else h20 H
        refine r_on rfl rfl rfl rfl (bfalse h20) rfl (PureD.opD (u_fa rfl rfl Tryd.underlying24 rfl in_9 (Nat.succ_ne_zero _) rfl rfl (ne_of_lt (n := 0) (Nat.lt_of_lt_of_eq (by decide) (Eq.symm (GValue.len v0)))))) ?_
        refine r_on rfl rfl rfl rfl (bfalse h20) rfl (PureD.opD (u_ld rfl rfl Tryd.underlying9 rfl rfl ((Sub.refl _).trans (GValue.sub3 v0)))) ?_
        refine bindK H fun r'9 h21 H => ?_
        refine r_on rfl rfl rfl rfl (bfalse h20) rfl (PureD.opD (p_callp rfl rfl rfl Tryd.func59 rfl rfl (g_utf8_ValidString_ac h21) ⟨rfl, trivial⟩)) ?_
        refine r_on rfl rfl rfl rfl (bfalse h20) rfl (PureD.opD (p_not rfl rfl)) ?_
        refine rp rfl rfl (p_pkf rfl rfl (bfalse h20) (.same _)) ?_
        refine rs [(60, .b (!r'9))] [] rfl rfl rfl ?_
        have hz := some_elim H
        subst hz
        exact RunW_nil rfl
      ·replace H := ite_else h18 H
       refine r_off rfl rfl rfl rfl (decide_eq_false h18) rfl rfl ?_
       refine r_off rfl rfl rfl rfl (decide_eq_false h18) rfl rfl ?_
       refine r_off rfl rfl rfl rfl (decide_eq_false h18) rfl rfl ?_
       refine r_on rfl rfl rfl rfl (bfalse (by decide)) rfl (PureD.opD (p_pkf rfl rfl (decide_eq_false h18) (.same _))) ?_
       refine rp rfl rfl (p_pkf rfl rfl (bfalse (by decide)) (.same _)) ?_
       refine rp rfl rfl (p_move rfl rfl) ?_
       refine r_on rfl rfl rfl rfl (bfalse (by decide)) rfl (PureD.opD (u_fa rfl rfl Tryd.underlying24 rfl in_9 (Nat.succ_ne_zero _) rfl rfl (ne_of_lt (n := 0) (Nat.lt_of_lt_of_eq (by decide) (Eq.symm (GValue.len v0)))))) ?_
       refine r_on rfl rfl rfl rfl (bfalse (by decide)) rfl (PureD.opD (u_ld rfl rfl Tryd.underlying9 rfl rfl ((Sub.refl _).trans (GValue.sub3 v0)))) ?_
       refine bindK H fun r'10 h22 H => ?_
       refine r_on rfl rfl rfl rfl (bfalse (by decide)) rfl (PureD.opD (p_callp rfl rfl rfl Tryd.func59 rfl rfl (g_utf8_ValidString_ac h22) ⟨rfl, trivial⟩)) ?_
       refine r_on rfl rfl rfl rfl (bfalse (by decide)) rfl (PureD.opD (p_not rfl rfl)) ?_
       refine rp rfl rfl (p_pkf rfl rfl (bfalse (by decide)) (.same _)) ?_
       refine rs [(60, .b (!r'10))] [] rfl rfl rfl ?_
       have hz := some_elim H
       subst hz
       exact RunW_nil rfl
   ·refine AW2_cond rfl (fun h24 => ?_) (fun h24 => ?_)
    ·replace H := ite_then h24 H
     refine sg [0] rfl ?_
     refine rp rfl rfl (p_asg rfl rfl) ?_
     refine rz [(2, .i (3 : Int))] [] rfl rfl rfl ?_
     refine AW2_ret ?_
     have hz := some_elim H
     subst hz
     exact ⟨⟨res_tmp (.same _), trivial⟩, trivial⟩
    ·replace H := ite_else (ne_true h24) H
     refine as2 [] [] rfl rfl rfl ?_
     refine AW2_skip ?_
     refine sg [0] rfl ?_
     refine rp rfl rfl (p_asg rfl rfl) ?_
     refine rz [(2, .i (0 : Int))] [] rfl rfl rfl ?_
     refine AW2_ret ?_
     have hz := some_elim H
     subst hz
     exact ⟨⟨res_tmp (.same _), trivial⟩, trivial⟩
 ·subst hy
  obtain ⟨rfl, hs⟩ := hs
  have hz := some_elim H
  subst hz
  exact ⟨hs.1, hs.2⟩

/-! chirographref.among -/
noncomputable def g_ref_among_l0 (c0 : UInt8) (l1 : List UInt8) : Int → Option (Int ⊕ (Bool ⊕ Unit))
  | i5_0 => (if i5_0 < (l1.length : Int) then if 0 ≤ i5_0 ∧ i5_0 < (l1.length : Int) then (if (lrd l1 i5_0.toNat) = c0 then some (.inr (.inl true)) else some (.inl (w64 (i5_0 + (1 : Int))))) else none else some (.inr (.inr ())))
noncomputable def g_ref_among (c0 : UInt8) (l1 : List UInt8) : Option (Bool) :=
  (loopO (g_ref_among_l0 c0 l1) (0 : Int)).bind fun o'4 => match o'4 with | .inl y'5 => some y'5 | .inr (y'6) => some false
set_option maxHeartbeats 4000000 in
set_option maxRecDepth 100000 in
theorem g_ref_among_ac {c0 : UInt8} {l1 : List UInt8} {r : Bool} (H : g_ref_among c0 l1 = some r) : ACp Tryd.prog 72 [(AV.b8 c0), (AV.txt l1)] (AV.bool r) := by
 refine ACp_of (AC2_of_body (vs := [.b r]) Tryd.func72 rfl rfl (Nat.le_of_ble_eq_true rfl) rfl ?_) (fun _ => .same _)
 unfold g_ref_among at H
 refine as2 [(0, .p (AV.b8 c0)), (1, .t l1)] [] rfl rfl rfl ?_
 refine sg [0] rfl ?_
 refine rp rfl rfl (p_asg rfl rfl) ?_
 refine rz [(0, .p (AV.b8 c0)), (1, .t l1)] [] rfl rfl rfl ?_
 refine AW2_seq ?_
 refine sg [0] rfl ?_
 refine rp rfl rfl (p_asg rfl rfl) ?_
 refine rz [(0, .p (AV.b8 c0)), (1, .t l1), (5, .i (0 : Int))] [] rfl rfl rfl ?_
 refine AW2_block ?_
 refine as2 [(0, .p (AV.b8 c0)), (1, .t l1), (5, .i (0 : Int))] [] rfl rfl rfl ?_
 refine bindK H fun o'4 h4 H => ?_
 refine AW2_loopO (fun a'1 : Int => (⟨[(0, .p (AV.b8 c0)), (1, .t l1), (5, .i a'1)], [], 17⟩ : TS)) (fun (o : Bool ⊕ Unit) e s' => match o with | .inl y'2 => e = Go.Exit.ret ∧ ResAll Tryd.prog s' [ResultVar.tmp 4] [.b y'2] ∧ HFits s' [] | .inr (y'3) => e = Go.Exit.exit 0 ∧ s' = (⟨[], [], 17⟩ : TS)) h4 rfl (fun i5_0 x hx => ?_) (fun e s' hs => ?_)
 ·clear H
  have H := hx
  clear hx
  unfold g_ref_among_l0 at H
  refine AW2_seq ?_
  refine sg [0, 1, 2, 3] rfl ?_
  refine rp rfl rfl (p_move rfl rfl) ?_
  refine rp rfl rfl (p_move rfl rfl) ?_
  refine rp rfl rfl (p_lent rfl Tryd.underlying9 rfl) ?_
  refine rp rfl rfl (p_bin rfl rfl rfl rfl) ?_
  refine rz [(0, .p (AV.b8 c0)), (1, .t l1), (5, .i i5_0), (9, .b (decide (i5_0 < (l1.length : Int))))] [] rfl rfl rfl ?_
  refine AW2_if (p := i5_0 < (l1.length : Int)) rfl (fun h1 => ?_) (fun h1 => ?_)
  ·replace H := ite_then h1 H
   refine as2 [(0, .p (AV.b8 c0)), (1, .t l1), (5, .i i5_0)] [] rfl rfl rfl ?_
   refine AW2_skip ?_
   refine AW2_seq ?_
   refine AW2_block ?_
   refine sg [0, 1, 2, 3, 4] rfl ?_
   refine rp rfl rfl (p_move rfl rfl) ?_
   refine rp rfl rfl (p_move rfl rfl) ?_
   refine chkK H fun h2 H => ?_
   refine rp rfl rfl (p_ixt rfl Tryd.underlying9 rfl rfl (ixe h2) (lrd_get (ixn h2))) ?_
   refine rp rfl rfl (p_move rfl rfl) ?_
   refine rp rfl rfl (p_u8eq (a := (lrd l1 i5_0.toNat)) (b := c0) rfl rfl rfl) ?_
   refine rz [(0, .p (AV.b8 c0)), (1, .t l1), (5, .i i5_0), (16, .b (decide ((lrd l1 i5_0.toNat) = c0)))] [] rfl rfl rfl ?_
   refine AW2_if (p := (lrd l1 i5_0.toNat) = c0) rfl (fun h3 => ?_) (fun h3 => ?_)
   ·replace H := ite_then h3 H
    refine sg [0] rfl ?_
    refine rp rfl rfl (p_asg rfl rfl) ?_
    refine rz [(4, .b true)] [] rfl rfl rfl ?_
    refine AW2_ret ?_
    have hz := some_elim H
    subst hz
    exact ⟨rfl, ⟨res_tmp (.same _), trivial⟩, trivial⟩
   ·replace H := ite_else h3 H
    refine as2 [(0, .p (AV.b8 c0)), (1, .t l1), (5, .i i5_0)] [] rfl rfl rfl ?_
    refine AW2_skip ?_
    refine AW2_reg [0, 1, 2] rfl ?_
    refine rp rfl rfl (p_move rfl rfl) ?_
    refine rp rfl rfl (p_bin rfl rfl rfl rfl) ?_
    refine rp rfl rfl (p_asg rfl rfl) ?_
    refine rz [(0, .p (AV.b8 c0)), (1, .t l1), (5, .i (w64 (i5_0 + (1 : Int))))] [] rfl rfl rfl ?_
    have hz := some_elim H
    subst hz
    exact ⟨rfl, rfl⟩
  ·replace H := ite_else h1 H
   refine as2 [] [] rfl rfl rfl ?_
   refine AW2_exit ?_
   refine thenQ2_exit ?_
   have hz := some_elim H
   subst hz
   exact ⟨rfl, rfl⟩
 ·rcases o'4 with y'5 | y'6
  ·obtain ⟨rfl, hs⟩ := hs
   refine ⟨by simp, ?_⟩
   have hz := some_elim H
   subst hz
   exact ⟨hs.1, hs.2⟩
  ·obtain ⟨rfl, rfl⟩ := hs
   refine ⟨by simp, ?_⟩
   refine blockQ2_exit ?_
   refine sg [0] rfl ?_
   refine rp rfl rfl (p_asg rfl rfl) ?_
   refine rz [(4, .b false)] [] rfl rfl rfl ?_
   refine AW2_ret ?_
   have hz := some_elim H
   subst hz
   exact ⟨⟨res_tmp (.same _), trivial⟩, trivial⟩
end Go.Proofs.YtcahembojhmpbaaDoor.VM
