/- Functions of the program, as they answer, and that their code comes to these answers. -/
import Derived.Test.YtoepdjccgngpdaaDoorGs6
namespace Go.Proofs.YtoepdjccgngpdaaDoor.VM
open Go Go.RowKit

theorem eq_23 : EqT Tryd.prog 23 2 (fun x : Vector UInt8 32 => .agg (bcells x.toList)) := eqt_arr1 Tryd.underlying23 in_5 (by kernel_rfl) Tryd.underlying5 rfl (eqt_b8 Tryd.underlying5)
set_option maxRecDepth 100000 in
theorem ty_5 {d : Nat} {cs : List AV} (h : Typed Tryd.prog (d + 1) 5 cs) : ∃ x : UInt8, cs = [(AV.b8 x)] ∧ okA x := ty_u8 Tryd.underlying5 h
set_option maxRecDepth 100000 in
theorem ty_22 {d : Nat} {cs : List AV} (h : Typed Tryd.prog (d + 2) 22 cs) : ∃ x : List UInt8, cs = [(AV.bytes x)] ∧ (okL 1 okA) x := ty_slice (f := AV.b8) Tryd.underlying22 (bytes_of in_5) (fun _ hx => ty_5 hx) h

/-! chirographref.Summed -/
noncomputable def g_ref_Summed (b0 : List UInt8) : Option ((Vector UInt8 32)) :=
  (g_ref_Begun).bind fun r'1 => (g_ref_Added r'1 b0).bind fun r'2 => (g_ref_ended r'2.1).bind fun r'3 => some r'3
set_option maxHeartbeats 4000000 in
set_option maxRecDepth 100000 in
theorem g_ref_Summed_ac {b0 : List UInt8} {r : (Vector UInt8 32)} (H : g_ref_Summed b0 = some r) : ACp Tryd.prog 13 [(AV.bytes b0)] (.agg (bcells r.toList)) := by
  refine ACp_of (AC2_of_body (vs := [.c (.p (.agg (bcells r.toList)))]) Tryd.func13 rfl rfl (Nat.le_of_ble_eq_true rfl) rfl ?_) (fun _ => .same _)
  unfold g_ref_Summed at H
  refine AW2_st [(0, .c (.p (AV.bytes b0)))] [] rfl ⟨TLes.same _, trivial⟩ trivial ?_
  refine AW2_seq ?_
  refine AW2_reg [0] rfl ?_
  refine r_op rfl rfl (MakeD.opD (u_alloc 2 rfl in_23 one_23 zc_23) rfl rfl rfl rfl) ?_
  refine RunW_st [(0, .c (.p (AV.bytes b0))), (2, .c (.ptr 2 (0)))] [(2, .pure (bcells ((Vector.replicate 32 (0 : UInt8)).toList)))] rfl ⟨TLes.same _, TLes.same _, trivial⟩ ⟨rfl, trivial⟩ ?_
  refine RunW_nil ?_
  refine AW2_seq ?_
  refine AW2_reg [0, 1, 2, 3, 4, 5, 6, 7, 8] rfl ?_
  refine bindK H fun r'1 h1 H => ?_
  refine r_op rfl rfl (PureD.opD (p_callp rfl rfl rfl Tryd.func17 rfl rfl (g_ref_Begun_ac h1) trivial)) ?_
  refine r_op rfl rfl (PureD.opD (p_move rfl rfl)) ?_
  refine bindK H fun r'2 h2 H => ?_
  refine r_op rfl rfl (PureD.opD (p_callp rfl rfl rfl Tryd.func15 rfl rfl (g_ref_Added_ac h2) ⟨rfl, rfl, trivial⟩)) ?_
  refine r_op rfl rfl (PureD.opD (p_move rfl rfl)) ?_
  refine r_op rfl rfl (PureD.opD (p_ext rfl rfl rfl rfl)) ?_
  refine r_op rfl rfl (PureD.opD (p_ext rfl rfl rfl rfl)) ?_
  refine r_op rfl rfl (MakeD.opD (u_alloc 3 rfl in_30 one_30 zc_30) rfl rfl rfl rfl) ?_
  refine r_op rfl rfl (u_st rfl rfl rfl rfl rfl in_30 (GStream.len r'2.1) (ne_of_lt (n := 0) (Nat.lt_of_lt_of_eq (by decide) (Eq.symm (GStream.len GStream.zero)))) (Upd.refl ((GStream.len r'2.1).trans (GStream.len GStream.zero).symm))) ?_
  refine r_op rfl rfl (PureD.opD (p_asg rfl rfl)) ?_
  refine RunW_st [(2, .c (.ptr 2 (0))), (3, .c (.ptr 3 (0)))] [(2, .pure (bcells ((Vector.replicate 32 (0 : UInt8)).toList))), (3, .pure (GStream.cs r'2.1))] rfl ⟨TLes.same _, TLes.same _, trivial⟩ ⟨rfl, rfl, trivial⟩ ?_
  refine RunW_nil ?_
  refine AW2_seq ?_
  refine AW2_reg [0, 1, 2] rfl ?_
  refine r_op rfl rfl (PureD.opD (u_lda rfl rfl Tryd.underlying30 rfl in_30 rfl (Nat.succ_pos _) (Sub.refl _) (GStream.len r'2.1))) ?_
  refine bindK H fun r'3 h3 H => ?_
  refine r_op rfl rfl (PureD.opD (p_callp rfl rfl rfl Tryd.func35 rfl rfl (g_ref_ended_ac h3) ⟨rfl, trivial⟩)) ?_
  refine r_op rfl rfl (u_st rfl rfl rfl rfl rfl in_23 ((bcells_length _).trans (vlen r'3)) (ne_of_lt (n := 0) (Nat.lt_of_lt_of_eq (by decide) (Eq.symm ((bcells_length _).trans (vlen (Vector.replicate 32 (0 : UInt8))))))) (Upd.refl (((bcells_length _).trans (vlen r'3)).trans ((bcells_length _).trans (vlen (Vector.replicate 32 (0 : UInt8)))).symm))) ?_
  refine RunW_st [(2, .c (.ptr 2 (0)))] [(2, .pure (bcells r'3.toList))] rfl ⟨TLes.same _, trivial⟩ ⟨rfl, trivial⟩ ?_
  refine RunW_nil ?_
  refine AW2_ret ?_
  have hz := some_elim H
  subst hz
  exact ⟨⟨res_cella Tryd.underlying23 rfl in_23.sz rfl (Sub.le (Sub.refl _) ((bcells_length _).trans (vlen r'3))) (by decide) (Sub.take (Sub.refl _) ((bcells_length _).trans (vlen r'3))), trivial⟩, trivial⟩

/-! chirographlaw.SumSums -/
noncomputable def g_law_SumSums (l0 : List UInt8) : Option (Bool) :=
  (g_sum_Sum l0).bind fun r'1 => (g_ref_Summed l0).bind fun r'2 => some (decide (r'1 = r'2))
set_option maxHeartbeats 4000000 in
set_option maxRecDepth 100000 in
theorem g_law_SumSums_ac {l0 : List UInt8} {r : Bool} (H : g_law_SumSums l0 = some r) : ACp Tryd.prog 3 [(AV.bytes l0)] (AV.bool r) := by
  refine ACp_of (AC2_of_body (vs := [.c (.p (AV.bool r))]) Tryd.func3 rfl rfl (Nat.le_of_ble_eq_true rfl) rfl ?_) (fun _ => .same _)
  unfold g_law_SumSums at H
  refine AW2_st [(0, .c (.p (AV.bytes l0)))] [] rfl ⟨TLes.same _, trivial⟩ trivial ?_
  refine AW2_seq ?_
  refine AW2_reg [0] rfl ?_
  refine r_op rfl rfl (PureD.opD (p_asg rfl rfl)) ?_
  refine RunW_st [(0, .c (.p (AV.bytes l0)))] [] rfl ⟨TLes.same _, trivial⟩ trivial ?_
  refine RunW_nil ?_
  refine AW2_seq ?_
  refine AW2_reg [0, 1, 2, 3] rfl ?_
  refine r_op rfl rfl (PureD.opD (p_move rfl rfl)) ?_
  refine bindK H fun r'1 h1 H => ?_
  refine r_op rfl rfl (PureD.opD (p_callp rfl rfl rfl Tryd.func12 rfl rfl (g_sum_Sum_ac h1) ⟨rfl, trivial⟩)) ?_
  refine r_op rfl rfl (MakeD.opD (u_alloc 3 rfl in_23 one_23 zc_23) rfl rfl rfl rfl) ?_
  refine r_op rfl rfl (u_st rfl rfl rfl rfl rfl in_23 ((bcells_length _).trans (vlen r'1)) (ne_of_lt (n := 0) (Nat.lt_of_lt_of_eq (by decide) (Eq.symm ((bcells_length _).trans (vlen (Vector.replicate 32 (0 : UInt8))))))) (Upd.refl (((bcells_length _).trans (vlen r'1)).trans ((bcells_length _).trans (vlen (Vector.replicate 32 (0 : UInt8)))).symm))) ?_
  refine RunW_st [(0, .c (.p (AV.bytes l0))), (3, .c (.ptr 3 (0)))] [(3, .pure (bcells r'1.toList))] rfl ⟨TLes.same _, TLes.same _, trivial⟩ ⟨rfl, trivial⟩ ?_
  refine RunW_nil ?_
  refine AW2_seq ?_
  refine AW2_reg [0, 1, 2, 3] rfl ?_
  refine r_op rfl rfl (PureD.opD (p_move rfl rfl)) ?_
  refine bindK H fun r'2 h2 H => ?_
  refine r_op rfl rfl (PureD.opD (p_callp rfl rfl rfl Tryd.func13 rfl rfl (g_ref_Summed_ac h2) ⟨rfl, trivial⟩)) ?_
  refine r_op rfl rfl (MakeD.opD (u_alloc 4 rfl in_23 one_23 zc_23) rfl rfl rfl rfl) ?_
  refine r_op rfl rfl (u_st rfl rfl rfl rfl rfl in_23 ((bcells_length _).trans (vlen r'2)) (ne_of_lt (n := 0) (Nat.lt_of_lt_of_eq (by decide) (Eq.symm ((bcells_length _).trans (vlen (Vector.replicate 32 (0 : UInt8))))))) (Upd.refl (((bcells_length _).trans (vlen r'2)).trans ((bcells_length _).trans (vlen (Vector.replicate 32 (0 : UInt8)))).symm))) ?_
  refine RunW_st [(3, .c (.ptr 3 (0))), (4, .c (.ptr 4 (0)))] [(3, .pure (bcells r'1.toList)), (4, .pure (bcells r'2.toList))] rfl ⟨TLes.same _, TLes.same _, trivial⟩ ⟨rfl, rfl, trivial⟩ ?_
  refine RunW_nil ?_
  refine AW2_seq ?_
  refine AW2_reg [0, 1, 2, 3] rfl ?_
  refine r_op rfl rfl (PureD.opD (u_lda rfl rfl Tryd.underlying23 rfl in_23 rfl (Nat.succ_pos _) (Sub.refl _) ((bcells_length _).trans (vlen r'1)))) ?_
  refine r_op rfl rfl (PureD.opD (u_lda rfl rfl Tryd.underlying23 rfl in_23 rfl (Nat.succ_pos _) (Sub.refl _) ((bcells_length _).trans (vlen r'2)))) ?_
  refine r_op rfl rfl (PureD.opD (p_eqa (a := r'1) (b := r'2) rfl eq_23 rfl (by kernel_rfl) rfl rfl)) ?_
  refine r_op rfl rfl (PureD.opD (p_asg rfl rfl)) ?_
  refine RunW_st [(2, .c (.p (.bool (decide (r'1 = r'2)))))] [] rfl ⟨TLes.same _, trivial⟩ trivial ?_
  refine RunW_nil ?_
  refine AW2_ret ?_
  have hz := some_elim H
  subst hz
  exact ⟨⟨res_tmp (.same _), trivial⟩, trivial⟩

/-! sum.check -/
noncomputable def g_sum_check_l0 (s0 : GStream) : Int → Option (Int ⊕ (Int ⊕ Unit))
  | i3_0 => (if i3_0 < (64 : Int) then if 0 ≤ i3_0 ∧ i3_0 < (64 : Int) then (if (vrd s0.Held i3_0.toNat) ≠ (0 : UInt8) then some (.inr (.inl (11 : Int))) else some (.inl (w64 (i3_0 + (1 : Int))))) else none else some (.inr (.inr ())))
noncomputable def g_sum_check (s0 : GStream) : Option (Int) :=
  (if ((s0.Len < (0 : Int)) ∨ (s0.Len > (1152921504606846976 : Int))) ∨ (s0.N ≠ s0.Len.tmod (64 : Int)) then some (11 : Int) else (loopO (g_sum_check_l0 s0) s0.N).bind fun o'4 => match o'4 with | .inl y'5 => some y'5 | .inr (y'6) => some (0 : Int))
set_option maxHeartbeats 4000000 in
set_option maxRecDepth 100000 in
theorem g_sum_check_ac {s0 : GStream} {r : Int} (H : g_sum_check s0 = some r) : ACp Tryd.prog 36 [(.agg (GStream.cs s0))] (AV.int r) := by
  refine ACp_of (AC2_of_body (vs := [.c (.p (AV.int r))]) Tryd.func36 rfl rfl (Nat.le_of_ble_eq_true rfl) rfl ?_) (fun _ => .same _)
  unfold g_sum_check at H
  refine AW2_st [(0, .c (.p (.agg (GStream.cs s0))))] [] rfl ⟨TLes.same _, trivial⟩ trivial ?_
  refine AW2_seq ?_
  refine AW2_reg [0, 1] rfl ?_
  refine r_op rfl rfl (MakeD.opD (n_box 1 rfl rfl) rfl rfl rfl rfl) ?_
  refine r_op rfl rfl (PureD.opD (p_asg rfl rfl)) ?_
  refine RunW_st [(1, .c (.ptr 1 (0)))] [(1, .pure (GStream.cs s0))] rfl ⟨TLes.same _, trivial⟩ ⟨rfl, trivial⟩ ?_
  refine RunW_nil ?_
  refine AW2_seq ?_
  refine AW2_seq ?_
  refine AW2_mid (⟨[(1, .c (.ptr 1 (0))), (19, .c (.p (.bool (decide (((s0.Len < (0 : Int)) ∨ (s0.Len > (1152921504606846976 : Int))) ∨ (s0.N ≠ s0.Len.tmod (64 : Int)))))))], [(1, .pure (GStream.cs s0))], 31⟩ : TS) ?_ ?_
  · refine AW2_reg [0, 1, 2, 3, 4, 5, 6, 7, 8, 9, 10, 11, 12, 13, 14, 15] rfl ?_
    refine r_op rfl rfl (PureD.opD (u_fa rfl rfl Tryd.underlying30 rfl in_3 (Nat.succ_ne_zero _) rfl rfl (ne_of_lt (n := 0) (Nat.lt_of_lt_of_eq (by decide) (Eq.symm (GStream.len s0)))))) ?_
    refine r_op rfl rfl (PureD.opD (u_ld rfl rfl Tryd.underlying3 rfl rfl ((Sub.refl _).trans (GStream.sub3 s0)))) ?_
    refine r_op rfl rfl (PureD.opD (p_bin rfl rfl rfl rfl)) ?_
    refine r_op rfl rfl (PureD.opD (p_move rfl rfl)) ?_
    refine (Classical.em (s0.Len < (0 : Int))).elim (fun h1 => ?_) (fun h1 => ?_)
    · refine r_off rfl rfl rfl rfl (decide_eq_true (p := s0.Len < (0 : Int)) h1) rfl rfl ?_
      refine r_off rfl rfl rfl rfl (decide_eq_true (p := s0.Len < (0 : Int)) h1) rfl rfl ?_
      refine r_off rfl rfl rfl rfl (decide_eq_true (p := s0.Len < (0 : Int)) h1) rfl rfl ?_
      refine r_op rfl rfl (PureD.opD (p_pkt rfl rfl (decide_eq_true (p := s0.Len < (0 : Int)) h1) (tb (decide_eq_true (p := (s0.Len < (0 : Int)) ∨ (s0.Len > (1152921504606846976 : Int))) (Or.inl h1)).symm))) ?_
      refine r_op rfl rfl (PureD.opD (p_move rfl rfl)) ?_
      refine r_off rfl rfl rfl rfl (decide_eq_true (p := (s0.Len < (0 : Int)) ∨ (s0.Len > (1152921504606846976 : Int))) (Or.inl h1)) rfl rfl ?_
      refine r_off rfl rfl rfl rfl (decide_eq_true (p := (s0.Len < (0 : Int)) ∨ (s0.Len > (1152921504606846976 : Int))) (Or.inl h1)) rfl rfl ?_
      refine r_off rfl rfl rfl rfl (decide_eq_true (p := (s0.Len < (0 : Int)) ∨ (s0.Len > (1152921504606846976 : Int))) (Or.inl h1)) rfl rfl ?_
      refine r_off rfl rfl rfl rfl (decide_eq_true (p := (s0.Len < (0 : Int)) ∨ (s0.Len > (1152921504606846976 : Int))) (Or.inl h1)) rfl rfl ?_
      refine r_off rfl rfl rfl rfl (decide_eq_true (p := (s0.Len < (0 : Int)) ∨ (s0.Len > (1152921504606846976 : Int))) (Or.inl h1)) rfl rfl ?_
      refine r_off rfl rfl rfl rfl (decide_eq_true (p := (s0.Len < (0 : Int)) ∨ (s0.Len > (1152921504606846976 : Int))) (Or.inl h1)) rfl rfl ?_
      refine r_op rfl rfl (PureD.opD (p_pkt rfl rfl (decide_eq_true (p := (s0.Len < (0 : Int)) ∨ (s0.Len > (1152921504606846976 : Int))) (Or.inl h1)) (tb (decide_eq_true (p := ((s0.Len < (0 : Int)) ∨ (s0.Len > (1152921504606846976 : Int))) ∨ (s0.N ≠ s0.Len.tmod (64 : Int))) (Or.inl (Or.inl h1))).symm))) ?_
      refine RunW_st [(1, .c (.ptr 1 (0))), (19, .c (.p (.bool (decide (((s0.Len < (0 : Int)) ∨ (s0.Len > (1152921504606846976 : Int))) ∨ (s0.N ≠ s0.Len.tmod (64 : Int)))))))] [(1, .pure (GStream.cs s0))] rfl ⟨TLes.same _, TLes.same _, trivial⟩ ⟨rfl, trivial⟩ ?_
      exact RunW_nil rfl
    · refine r_on rfl rfl rfl rfl (decide_eq_false (p := s0.Len < (0 : Int)) h1) rfl (PureD.opD (u_fa rfl rfl Tryd.underlying30 rfl in_3 (Nat.succ_ne_zero _) rfl rfl (ne_of_lt (n := 0) (Nat.lt_of_lt_of_eq (by decide) (Eq.symm (GStream.len s0)))))) ?_
      refine r_on rfl rfl rfl rfl (decide_eq_false (p := s0.Len < (0 : Int)) h1) rfl (PureD.opD (u_ld rfl rfl Tryd.underlying3 rfl rfl ((Sub.refl _).trans (GStream.sub3 s0)))) ?_
      refine r_on rfl rfl rfl rfl (decide_eq_false (p := s0.Len < (0 : Int)) h1) rfl (PureD.opD (p_bin rfl rfl rfl rfl)) ?_
      refine r_op rfl rfl (PureD.opD (p_pkf rfl rfl (decide_eq_false (p := s0.Len < (0 : Int)) h1) (tb ((or_l (p := s0.Len < (0 : Int)) (q := s0.Len > (1152921504606846976 : Int)) h1))))) ?_
      refine r_op rfl rfl (PureD.opD (p_move rfl rfl)) ?_
      refine (Classical.em (s0.Len > (1152921504606846976 : Int))).elim (fun h2 => ?_) (fun h2 => ?_)
      · refine r_off rfl rfl rfl rfl (decide_eq_true (p := (s0.Len < (0 : Int)) ∨ (s0.Len > (1152921504606846976 : Int))) (Or.inr h2)) rfl rfl ?_
        refine r_off rfl rfl rfl rfl (decide_eq_true (p := (s0.Len < (0 : Int)) ∨ (s0.Len > (1152921504606846976 : Int))) (Or.inr h2)) rfl rfl ?_
        refine r_off rfl rfl rfl rfl (decide_eq_true (p := (s0.Len < (0 : Int)) ∨ (s0.Len > (1152921504606846976 : Int))) (Or.inr h2)) rfl rfl ?_
        refine r_off rfl rfl rfl rfl (decide_eq_true (p := (s0.Len < (0 : Int)) ∨ (s0.Len > (1152921504606846976 : Int))) (Or.inr h2)) rfl rfl ?_
        refine r_off rfl rfl rfl rfl (decide_eq_true (p := (s0.Len < (0 : Int)) ∨ (s0.Len > (1152921504606846976 : Int))) (Or.inr h2)) rfl rfl ?_
        refine r_off rfl rfl rfl rfl (decide_eq_true (p := (s0.Len < (0 : Int)) ∨ (s0.Len > (1152921504606846976 : Int))) (Or.inr h2)) rfl rfl ?_
        refine r_op rfl rfl (PureD.opD (p_pkt rfl rfl (decide_eq_true (p := (s0.Len < (0 : Int)) ∨ (s0.Len > (1152921504606846976 : Int))) (Or.inr h2)) (tb (decide_eq_true (p := ((s0.Len < (0 : Int)) ∨ (s0.Len > (1152921504606846976 : Int))) ∨ (s0.N ≠ s0.Len.tmod (64 : Int))) (Or.inl (Or.inr h2))).symm))) ?_
        refine RunW_st [(1, .c (.ptr 1 (0))), (19, .c (.p (.bool (decide (((s0.Len < (0 : Int)) ∨ (s0.Len > (1152921504606846976 : Int))) ∨ (s0.N ≠ s0.Len.tmod (64 : Int)))))))] [(1, .pure (GStream.cs s0))] rfl ⟨TLes.same _, TLes.same _, trivial⟩ ⟨rfl, trivial⟩ ?_
        exact RunW_nil rfl
      · refine r_on rfl rfl rfl rfl (decide_eq_false (p := (s0.Len < (0 : Int)) ∨ (s0.Len > (1152921504606846976 : Int))) (not_or.2 ⟨h1, h2⟩)) rfl (PureD.opD (u_fa rfl rfl Tryd.underlying30 rfl in_3 (Nat.succ_ne_zero _) rfl rfl (ne_of_lt (n := 0) (Nat.lt_of_lt_of_eq (by decide) (Eq.symm (GStream.len s0)))))) ?_
        refine r_on rfl rfl rfl rfl (decide_eq_false (p := (s0.Len < (0 : Int)) ∨ (s0.Len > (1152921504606846976 : Int))) (not_or.2 ⟨h1, h2⟩)) rfl (PureD.opD (u_ld rfl rfl Tryd.underlying3 rfl rfl ((Sub.refl _).trans (GStream.sub2 s0)))) ?_
        refine r_on rfl rfl rfl rfl (decide_eq_false (p := (s0.Len < (0 : Int)) ∨ (s0.Len > (1152921504606846976 : Int))) (not_or.2 ⟨h1, h2⟩)) rfl (PureD.opD (u_fa rfl rfl Tryd.underlying30 rfl in_3 (Nat.succ_ne_zero _) rfl rfl (ne_of_lt (n := 0) (Nat.lt_of_lt_of_eq (by decide) (Eq.symm (GStream.len s0)))))) ?_
        refine r_on rfl rfl rfl rfl (decide_eq_false (p := (s0.Len < (0 : Int)) ∨ (s0.Len > (1152921504606846976 : Int))) (not_or.2 ⟨h1, h2⟩)) rfl (PureD.opD (u_ld rfl rfl Tryd.underlying3 rfl rfl ((Sub.refl _).trans (GStream.sub3 s0)))) ?_
        refine r_on rfl rfl rfl rfl (decide_eq_false (p := (s0.Len < (0 : Int)) ∨ (s0.Len > (1152921504606846976 : Int))) (not_or.2 ⟨h1, h2⟩)) rfl (PureD.opD (p_irem rfl rfl rfl (by decide))) ?_
        refine r_on rfl rfl rfl rfl (decide_eq_false (p := (s0.Len < (0 : Int)) ∨ (s0.Len > (1152921504606846976 : Int))) (not_or.2 ⟨h1, h2⟩)) rfl (PureD.opD (p_ine rfl rfl rfl)) ?_
        refine r_op rfl rfl (PureD.opD (p_pkf rfl rfl (decide_eq_false (p := (s0.Len < (0 : Int)) ∨ (s0.Len > (1152921504606846976 : Int))) (not_or.2 ⟨h1, h2⟩)) (tb ((or_l (p := (s0.Len < (0 : Int)) ∨ (s0.Len > (1152921504606846976 : Int))) (q := s0.N ≠ s0.Len.tmod (64 : Int)) (not_or.2 ⟨h1, h2⟩)))))) ?_
        refine RunW_st [(1, .c (.ptr 1 (0))), (19, .c (.p (.bool (decide (((s0.Len < (0 : Int)) ∨ (s0.Len > (1152921504606846976 : Int))) ∨ (s0.N ≠ s0.Len.tmod (64 : Int)))))))] [(1, .pure (GStream.cs s0))] rfl ⟨TLes.same _, TLes.same _, trivial⟩ ⟨rfl, trivial⟩ ?_
        exact RunW_nil rfl
  · refine AW2_if (p := ((s0.Len < (0 : Int)) ∨ (s0.Len > (1152921504606846976 : Int))) ∨ (s0.N ≠ s0.Len.tmod (64 : Int))) rfl (fun h3 => ?_) (fun h3 => ?_)
    · replace H := ite_then h3 H
      refine AW2_seq ?_
      refine AW2_reg [0] rfl ?_
      refine r_op rfl rfl (PureD.opD (p_asg rfl rfl)) ?_
      refine RunW_st [(2, .c (.p (AV.int (11 : Int))))] [] rfl ⟨TLes.same _, trivial⟩ trivial ?_
      refine RunW_nil ?_
      refine AW2_ret ?_
      have hz := some_elim H
      subst hz
      exact ⟨⟨res_tmp (.same _), trivial⟩, trivial⟩
    · replace H := ite_else h3 H
      refine AW2_st [(1, .c (.ptr 1 (0)))] [(1, .pure (GStream.cs s0))] rfl ⟨TLes.same _, trivial⟩ ⟨rfl, trivial⟩ ?_
      refine AW2_skip ?_
      refine AW2_seq ?_
      refine AW2_seq ?_
      refine AW2_reg [0, 1, 2] rfl ?_
      refine r_op rfl rfl (PureD.opD (u_fa rfl rfl Tryd.underlying30 rfl in_3 (Nat.succ_ne_zero _) rfl rfl (ne_of_lt (n := 0) (Nat.lt_of_lt_of_eq (by decide) (Eq.symm (GStream.len s0)))))) ?_
      refine r_op rfl rfl (PureD.opD (u_ld rfl rfl Tryd.underlying3 rfl rfl ((Sub.refl _).trans (GStream.sub2 s0)))) ?_
      refine r_op rfl rfl (PureD.opD (p_asg rfl rfl)) ?_
      refine RunW_st [(1, .c (.ptr 1 (0))), (3, .c (.p (AV.int s0.N)))] [(1, .pure (GStream.cs s0))] rfl ⟨TLes.same _, TLes.same _, trivial⟩ ⟨rfl, trivial⟩ ?_
      refine RunW_nil ?_
      refine AW2_block ?_
      refine AW2_st [(1, .c (.ptr 1 (0))), (3, .c (.p (AV.int s0.N)))] [(1, .pure (GStream.cs s0))] rfl ⟨TLes.same _, TLes.same _, trivial⟩ ⟨rfl, trivial⟩ ?_
      refine bindK H fun o'4 h7 H => ?_
      refine AW2_loopO (fun a'1 : Int => (⟨[(1, .c (.ptr 1 (0))), (3, .c (.p (AV.int a'1)))], [(1, .pure (GStream.cs s0))], 31⟩ : TS)) (fun (o : Int ⊕ Unit) e s' => match o with | .inl y'2 => e = Go.Exit.ret ∧ ResAll Tryd.prog s' [ResultVar.tmp 2] [.c (.p (AV.int y'2))] ∧ HFits s' [] | .inr (y'3) => e = Go.Exit.exit 0 ∧ s' = (⟨[], [], 31⟩ : TS)) h7 rfl (fun i3_0 x hx => ?_) (fun e s' hs => ?_)
      · clear H
        have H := hx
        clear hx
        unfold g_sum_check_l0 at H
        refine AW2_seq ?_
        refine AW2_seq ?_
        refine AW2_reg [0, 1] rfl ?_
        refine r_op rfl rfl (PureD.opD (p_move rfl rfl)) ?_
        refine r_op rfl rfl (PureD.opD (p_bin rfl rfl rfl rfl)) ?_
        refine RunW_st [(1, .c (.ptr 1 (0))), (3, .c (.p (AV.int i3_0))), (23, .c (.p (.bool (decide (i3_0 < (64 : Int))))))] [(1, .pure (GStream.cs s0))] rfl ⟨TLes.same _, TLes.same _, TLes.same _, trivial⟩ ⟨rfl, trivial⟩ ?_
        refine RunW_nil ?_
        refine AW2_if (p := i3_0 < (64 : Int)) rfl (fun h4 => ?_) (fun h4 => ?_)
        · replace H := ite_then h4 H
          refine AW2_st [(1, .c (.ptr 1 (0))), (3, .c (.p (AV.int i3_0)))] [(1, .pure (GStream.cs s0))] rfl ⟨TLes.same _, TLes.same _, trivial⟩ ⟨rfl, trivial⟩ ?_
          refine AW2_skip ?_
          refine AW2_seq ?_
          refine AW2_block ?_
          refine AW2_seq ?_
          refine AW2_reg [0, 1, 2, 3, 4] rfl ?_
          refine r_op rfl rfl (PureD.opD (p_move rfl rfl)) ?_
          refine r_op rfl rfl (PureD.opD (u_fa rfl rfl Tryd.underlying30 rfl in_28 (Nat.succ_ne_zero _) rfl rfl (ne_of_lt (n := 0) (Nat.lt_of_lt_of_eq (by decide) (Eq.symm (GStream.len s0)))))) ?_
          refine chkK H fun h5 H => ?_
          refine r_op rfl rfl (PureD.opD (u_ixp rfl rfl Tryd.underlying28 in_5 rfl rfl (ne_of_lt (n := 0) (Nat.lt_of_lt_of_eq (by decide) (Eq.symm (GStream.len s0)))) rfl (ixe h5) (ixn h5))) ?_
          refine r_op rfl rfl (PureD.opD (u_ld rfl rfl Tryd.underlying5 rfl rfl (((Sub.refl _).trans (GStream.sub1 s0)).trans (Sub.vmap (ixn h5))))) ?_
          refine r_op rfl rfl (PureD.opD (p_u8ne (a := (vrd s0.Held i3_0.toNat)) (b := (0 : UInt8)) rfl rfl rfl)) ?_
          refine RunW_st [(1, .c (.ptr 1 (0))), (3, .c (.p (AV.int i3_0))), (30, .c (.p (.bool (decide ((vrd s0.Held i3_0.toNat) ≠ (0 : UInt8))))))] [(1, .pure (GStream.cs s0))] rfl ⟨TLes.same _, TLes.same _, TLes.same _, trivial⟩ ⟨rfl, trivial⟩ ?_
          refine RunW_nil ?_
          refine AW2_if (p := (vrd s0.Held i3_0.toNat) ≠ (0 : UInt8)) rfl (fun h6 => ?_) (fun h6 => ?_)
          · replace H := ite_then h6 H
            refine AW2_seq ?_
            refine AW2_reg [0] rfl ?_
            refine r_op rfl rfl (PureD.opD (p_asg rfl rfl)) ?_
            refine RunW_st [(2, .c (.p (AV.int (11 : Int))))] [] rfl ⟨TLes.same _, trivial⟩ trivial ?_
            refine RunW_nil ?_
            refine AW2_ret ?_
            have hz := some_elim H
            subst hz
            exact ⟨rfl, ⟨res_tmp (.same _), trivial⟩, trivial⟩
          · replace H := ite_else h6 H
            refine AW2_st [(1, .c (.ptr 1 (0))), (3, .c (.p (AV.int i3_0)))] [(1, .pure (GStream.cs s0))] rfl ⟨TLes.same _, TLes.same _, trivial⟩ ⟨rfl, trivial⟩ ?_
            refine AW2_skip ?_
            refine AW2_reg [0, 1, 2] rfl ?_
            refine r_op rfl rfl (PureD.opD (p_move rfl rfl)) ?_
            refine r_op rfl rfl (PureD.opD (p_bin rfl rfl rfl rfl)) ?_
            refine r_op rfl rfl (PureD.opD (p_asg rfl rfl)) ?_
            refine RunW_st [(1, .c (.ptr 1 (0))), (3, .c (.p (AV.int (w64 (i3_0 + (1 : Int))))))] [(1, .pure (GStream.cs s0))] rfl ⟨TLes.same _, TLes.same _, trivial⟩ ⟨rfl, trivial⟩ ?_
            refine RunW_nil ?_
            have hz := some_elim H
            subst hz
            exact ⟨rfl, rfl⟩
        · replace H := ite_else h4 H
          refine AW2_st [] [] rfl trivial trivial ?_
          refine AW2_exit ?_
          refine thenQ2_exit ?_
          have hz := some_elim H
          subst hz
          exact ⟨rfl, rfl⟩
      · rcases o'4 with y'5 | y'6
        · obtain ⟨rfl, hs⟩ := hs
          refine ⟨by simp, ?_⟩
          have hz := some_elim H
          subst hz
          exact ⟨hs.1, hs.2⟩
        · obtain ⟨rfl, rfl⟩ := hs
          refine ⟨by simp, ?_⟩
          refine blockQ2_exit ?_
          refine AW2_seq ?_
          refine AW2_reg [0] rfl ?_
          refine r_op rfl rfl (PureD.opD (p_asg rfl rfl)) ?_
          refine RunW_st [(2, .c (.p (AV.int (0 : Int))))] [] rfl ⟨TLes.same _, trivial⟩ trivial ?_
          refine RunW_nil ?_
          refine AW2_ret ?_
          have hz := some_elim H
          subst hz
          exact ⟨⟨res_tmp (.same _), trivial⟩, trivial⟩

/-! sum.Add -/
noncomputable def g_sum_Add (s0 : GStream) (b1 : List UInt8) : Option (GStream × Int) :=
  (g_sum_check s0).bind fun r'1 => (if r'1 ≠ (0 : Int) then some (GStream.zero, r'1) else (if (b1.length : Int) > w64 ((1152921504606846976 : Int) - s0.Len) then some (GStream.zero, (1 : Int)) else (g_sum_feed s0 b1).bind fun r'2 => some (r'2, (0 : Int))))
set_option maxHeartbeats 4000000 in
set_option maxRecDepth 100000 in
theorem g_sum_Add_ac {s0 : GStream} {b1 : List UInt8} {r : GStream × Int} (H : g_sum_Add s0 b1 = some r) : ACp Tryd.prog 14 [(.agg (GStream.cs s0)), (AV.bytes b1)] (.tup [(.agg (GStream.cs r.1)), (AV.int r.2)]) := by
  refine ACp_of (AC2_of_body (vs := [.c (.p (.agg (GStream.cs r.1))), .c (.p (AV.int r.2))]) Tryd.func14 rfl rfl (Nat.le_of_ble_eq_true rfl) rfl ?_) (fun _ => .same _)
  unfold g_sum_Add at H
  refine AW2_st [(0, .c (.p (.agg (GStream.cs s0)))), (1, .c (.p (AV.bytes b1)))] [] rfl ⟨TLes.same _, TLes.same _, trivial⟩ trivial ?_
  refine AW2_seq ?_
  refine AW2_reg [0, 1, 2] rfl ?_
  refine r_op rfl rfl (MakeD.opD (n_box 2 rfl rfl) rfl rfl rfl rfl) ?_
  refine r_op rfl rfl (MakeD.opD (u_alloc 4 rfl in_30 one_30 zc_30) rfl rfl rfl rfl) ?_
  refine r_op rfl rfl (PureD.opD (p_asg rfl rfl)) ?_
  refine RunW_st [(1, .c (.p (AV.bytes b1))), (2, .c (.ptr 2 (0))), (4, .c (.ptr 4 (0)))] [(2, .pure (GStream.cs s0)), (4, .pure (GStream.cs GStream.zero))] rfl ⟨TLes.same _, TLes.same _, TLes.same _, trivial⟩ ⟨rfl, rfl, trivial⟩ ?_
  refine RunW_nil ?_
  refine AW2_seq ?_
  refine AW2_seq ?_
  refine AW2_reg [0, 1, 2] rfl ?_
  refine r_op rfl rfl (PureD.opD (u_lda rfl rfl Tryd.underlying30 rfl in_30 rfl (Nat.succ_pos _) (Sub.refl _) (GStream.len s0))) ?_
  refine bindK H fun r'1 h1 H => ?_
  refine r_op rfl rfl (PureD.opD (p_callp rfl rfl rfl Tryd.func36 rfl rfl (g_sum_check_ac h1) ⟨rfl, trivial⟩)) ?_
  refine r_op rfl rfl (PureD.opD (p_asg rfl rfl)) ?_
  refine RunW_st [(1, .c (.p (AV.bytes b1))), (2, .c (.ptr 2 (0))), (4, .c (.ptr 4 (0))), (6, .c (.p (AV.int r'1)))] [(2, .pure (GStream.cs s0)), (4, .pure (GStream.cs GStream.zero))] rfl ⟨TLes.same _, TLes.same _, TLes.same _, TLes.same _, trivial⟩ ⟨rfl, rfl, trivial⟩ ?_
  refine RunW_nil ?_
  refine AW2_seq ?_
  refine AW2_reg [0, 1] rfl ?_
  refine r_op rfl rfl (PureD.opD (p_move rfl rfl)) ?_
  refine r_op rfl rfl (PureD.opD (p_ine rfl rfl rfl)) ?_
  refine RunW_st [(1, .c (.p (AV.bytes b1))), (2, .c (.ptr 2 (0))), (4, .c (.ptr 4 (0))), (6, .c (.p (AV.int r'1))), (10, .c (.p (.bool (decide (r'1 ≠ (0 : Int))))))] [(2, .pure (GStream.cs s0)), (4, .pure (GStream.cs GStream.zero))] rfl ⟨TLes.same _, TLes.same _, TLes.same _, TLes.same _, TLes.same _, trivial⟩ ⟨rfl, rfl, trivial⟩ ?_
  refine RunW_nil ?_
  refine AW2_if (p := r'1 ≠ (0 : Int)) rfl (fun h2 => ?_) (fun h2 => ?_)
  · replace H := ite_then h2 H
    refine AW2_seq ?_
    refine AW2_reg [0, 1, 2, 3] rfl ?_
    refine r_op rfl rfl (PureD.opD (u_bld rfl in_30 one_30 zc_30 pl_30 rfl rfl)) ?_
    refine r_op rfl rfl (PureD.opD (p_move rfl rfl)) ?_
    refine r_op rfl rfl (u_st rfl rfl rfl rfl rfl in_30 (GStream.len GStream.zero) (ne_of_lt (n := 0) (Nat.lt_of_lt_of_eq (by decide) (Eq.symm (GStream.len GStream.zero)))) (Upd.refl ((GStream.len GStream.zero).trans (GStream.len GStream.zero).symm))) ?_
    refine r_op rfl rfl (PureD.opD (p_asg rfl rfl)) ?_
    refine RunW_st [(4, .c (.ptr 4 (0))), (5, .c (.p (AV.int r'1)))] [(4, .pure (GStream.cs GStream.zero))] rfl ⟨TLes.same _, TLes.same _, trivial⟩ ⟨rfl, trivial⟩ ?_
    refine RunW_nil ?_
    refine AW2_ret ?_
    have hz := some_elim H
    subst hz
    exact ⟨⟨res_cella Tryd.underlying30 rfl in_30.sz rfl (Sub.le (Sub.refl _) (GStream.len GStream.zero)) (by decide) (Sub.take (Sub.refl _) (GStream.len GStream.zero)), res_tmp (.same _), trivial⟩, trivial⟩
  · replace H := ite_else h2 H
    refine AW2_st [(1, .c (.p (AV.bytes b1))), (2, .c (.ptr 2 (0))), (4, .c (.ptr 4 (0)))] [(2, .pure (GStream.cs s0)), (4, .pure (GStream.cs GStream.zero))] rfl ⟨TLes.same _, TLes.same _, TLes.same _, trivial⟩ ⟨rfl, rfl, trivial⟩ ?_
    refine AW2_skip ?_
    refine AW2_seq ?_
    refine AW2_seq ?_
    refine AW2_reg [0, 1, 2, 3, 4, 5] rfl ?_
    refine r_op rfl rfl (PureD.opD (p_move rfl rfl)) ?_
    refine r_op rfl rfl (PureD.opD (p_lenl rfl Tryd.underlying22 rfl rfl)) ?_
    refine r_op rfl rfl (PureD.opD (u_fa rfl rfl Tryd.underlying30 rfl in_3 (Nat.succ_ne_zero _) rfl rfl (ne_of_lt (n := 0) (Nat.lt_of_lt_of_eq (by decide) (Eq.symm (GStream.len s0)))))) ?_
    refine r_op rfl rfl (PureD.opD (u_ld rfl rfl Tryd.underlying3 rfl rfl ((Sub.refl _).trans (GStream.sub3 s0)))) ?_
    refine r_op rfl rfl (PureD.opD (p_bin rfl rfl rfl rfl)) ?_
    refine r_op rfl rfl (PureD.opD (p_bin rfl rfl rfl rfl)) ?_
    refine RunW_st [(1, .c (.p (AV.bytes b1))), (2, .c (.ptr 2 (0))), (4, .c (.ptr 4 (0))), (18, .c (.p (.bool (decide ((b1.length : Int) > w64 ((1152921504606846976 : Int) - s0.Len))))))] [(2, .pure (GStream.cs s0)), (4, .pure (GStream.cs GStream.zero))] rfl ⟨TLes.same _, TLes.same _, TLes.same _, TLes.same _, trivial⟩ ⟨rfl, rfl, trivial⟩ ?_
    refine RunW_nil ?_
    refine AW2_if (p := (b1.length : Int) > w64 ((1152921504606846976 : Int) - s0.Len)) rfl (fun h3 => ?_) (fun h3 => ?_)
    · replace H := ite_then h3 H
      refine AW2_seq ?_
      refine AW2_reg [0, 1, 2] rfl ?_
      refine r_op rfl rfl (PureD.opD (u_bld rfl in_30 one_30 zc_30 pl_30 rfl rfl)) ?_
      refine r_op rfl rfl (u_st rfl rfl rfl rfl rfl in_30 (GStream.len GStream.zero) (ne_of_lt (n := 0) (Nat.lt_of_lt_of_eq (by decide) (Eq.symm (GStream.len GStream.zero)))) (Upd.refl ((GStream.len GStream.zero).trans (GStream.len GStream.zero).symm))) ?_
      refine r_op rfl rfl (PureD.opD (p_asg rfl rfl)) ?_
      refine RunW_st [(4, .c (.ptr 4 (0))), (5, .c (.p (AV.int (1 : Int))))] [(4, .pure (GStream.cs GStream.zero))] rfl ⟨TLes.same _, TLes.same _, trivial⟩ ⟨rfl, trivial⟩ ?_
      refine RunW_nil ?_
      refine AW2_ret ?_
      have hz := some_elim H
      subst hz
      exact ⟨⟨res_cella Tryd.underlying30 rfl in_30.sz rfl (Sub.le (Sub.refl _) (GStream.len GStream.zero)) (by decide) (Sub.take (Sub.refl _) (GStream.len GStream.zero)), res_tmp (.same _), trivial⟩, trivial⟩
    · replace H := ite_else h3 H
      refine AW2_st [(1, .c (.p (AV.bytes b1))), (2, .c (.ptr 2 (0))), (4, .c (.ptr 4 (0)))] [(2, .pure (GStream.cs s0)), (4, .pure (GStream.cs GStream.zero))] rfl ⟨TLes.same _, TLes.same _, TLes.same _, trivial⟩ ⟨rfl, rfl, trivial⟩ ?_
      refine AW2_skip ?_
      refine AW2_seq ?_
      refine AW2_reg [0, 1, 2, 3, 4] rfl ?_
      refine r_op rfl rfl (PureD.opD (u_lda rfl rfl Tryd.underlying30 rfl in_30 rfl (Nat.succ_pos _) (Sub.refl _) (GStream.len s0))) ?_
      refine r_op rfl rfl (PureD.opD (p_move rfl rfl)) ?_
      refine bindK H fun r'2 h4 H => ?_
      refine r_op rfl rfl (PureD.opD (p_callp rfl rfl rfl Tryd.func34 rfl rfl (g_sum_feed_ac h4) ⟨rfl, rfl, trivial⟩)) ?_
      refine r_op rfl rfl (u_st rfl rfl rfl rfl rfl in_30 (GStream.len r'2) (ne_of_lt (n := 0) (Nat.lt_of_lt_of_eq (by decide) (Eq.symm (GStream.len GStream.zero)))) (Upd.refl ((GStream.len r'2).trans (GStream.len GStream.zero).symm))) ?_
      refine r_op rfl rfl (PureD.opD (p_asg rfl rfl)) ?_
      refine RunW_st [(4, .c (.ptr 4 (0))), (5, .c (.p (AV.int (0 : Int))))] [(4, .pure (GStream.cs r'2))] rfl ⟨TLes.same _, TLes.same _, trivial⟩ ⟨rfl, trivial⟩ ?_
      refine RunW_nil ?_
      refine AW2_ret ?_
      have hz := some_elim H
      subst hz
      exact ⟨⟨res_cella Tryd.underlying30 rfl in_30.sz rfl (Sub.le (Sub.refl _) (GStream.len r'2)) (by decide) (Sub.take (Sub.refl _) (GStream.len r'2)), res_tmp (.same _), trivial⟩, trivial⟩
end Go.Proofs.YtoepdjccgngpdaaDoor.VM
