/- Functions of the program, as they answer, and that their code comes to these answers. -/
import Derived.Test.YtoepdjccgngpdaaDoorGs3
namespace Go.Proofs.YtoepdjccgngpdaaDoor.VM
open Go Go.RowKit

theorem eq_23 : EqT Tryd.prog 23 2 (fun x : Vector UInt8 32 => .agg (bcells x.toList)) := eqt_arr1 Tryd.underlying23 in_5 (by kernel_rfl) Tryd.underlying5 rfl (eqt_b8 Tryd.underlying5)
theorem eq_27 : EqT Tryd.prog 27 2 (fun x : Vector UInt32 8 => .agg (x.toList.map AV.u32)) := eqt_arr1 Tryd.underlying27 in_26 (by kernel_rfl) Tryd.underlying26 rfl (eqt_u32 Tryd.underlying26)
theorem eq_28 : EqT Tryd.prog 28 2 (fun x : Vector UInt8 64 => .agg (bcells x.toList)) := eqt_arr1 Tryd.underlying28 in_5 (by kernel_rfl) Tryd.underlying5 rfl (eqt_b8 Tryd.underlying5)
theorem eq_30 : EqT Tryd.prog 30 3 (fun x : GStream => .agg (GStream.cs x)) :=
  eqt_struct [fun a b => a.H = b.H, fun a b => a.Held = b.Held, fun a b => a.N = b.N, fun a b => a.Len = b.Len] Tryd.underlying30 (by kernel_rfl) ⟨(FieldEq.more (fe_agg (g := fun y : Vector UInt32 8 => y.toList.map AV.u32) (by decide) Tryd.underlying27 rfl in_27 eq_27 (fun a => GStream.sub0 a) (fun x => (vmap_len (f := AV.u32) x))) (by decide : 2 ≤ 2)), (FieldEq.more (fe_agg (g := fun y : Vector UInt8 64 => bcells y.toList) (by decide) Tryd.underlying28 rfl in_28 eq_28 (fun a => GStream.sub1 a) (fun x => ((bcells_length _).trans (vlen x)))) (by decide : 2 ≤ 2)), (FieldEq.more (fe_one (by decide) Tryd.underlying3 rfl (eqt_int Tryd.underlying3) (fun a => GStream.sub2 a)) (by decide : 1 ≤ 2)), (FieldEq.more (fe_one (by decide) Tryd.underlying3 rfl (eqt_int Tryd.underlying3) (fun a => GStream.sub3 a)) (by decide : 1 ≤ 2)), trivial⟩ (fun a b => by
    cases a; cases b
    simp)
set_option maxRecDepth 100000 in
theorem ty_5 {d : Nat} {cs : List AV} (h : Typed Tryd.prog (d + 1) 5 cs) : ∃ x : UInt8, cs = [(AV.b8 x)] ∧ okA x := ty_u8 Tryd.underlying5 h
set_option maxRecDepth 100000 in
theorem ty_22 {d : Nat} {cs : List AV} (h : Typed Tryd.prog (d + 2) 22 cs) : ∃ x : List UInt8, cs = [(AV.bytes x)] ∧ (okL 1 okA) x := ty_slice (f := AV.b8) Tryd.underlying22 (bytes_of in_5) (fun _ hx => ty_5 hx) h
set_option maxRecDepth 100000 in
theorem ty_26 {d : Nat} {cs : List AV} (h : Typed Tryd.prog (d + 1) 26 cs) : ∃ x : UInt32, cs = [(AV.u32 x)] ∧ okA x := ty_u32 Tryd.underlying26 h
set_option maxRecDepth 100000 in
theorem ty_27 {d : Nat} {cs : List AV} (h : Typed Tryd.prog (d + 2) 27 cs) : ∃ x : Vector UInt32 8, cs = x.toList.map AV.u32 ∧ (okV okA) x := ty_array (f := AV.u32) Tryd.underlying27 (fun _ hx => ty_26 hx) h
set_option maxRecDepth 100000 in
theorem ty_28 {d : Nat} {cs : List AV} (h : Typed Tryd.prog (d + 2) 28 cs) : ∃ x : Vector UInt8 64, cs = bcells x.toList ∧ (okV okA) x := ty_array (f := AV.b8) Tryd.underlying28 (fun _ hx => ty_5 hx) h
set_option maxRecDepth 100000 in
theorem ty_3 {d : Nat} {cs : List AV} (h : Typed Tryd.prog (d + 1) 3 cs) : ∃ x : Int, cs = [(AV.int x)] ∧ okI x := ty_int Tryd.underlying3 h
def GStream.ok (x : GStream) : Prop := (okV okA) x.H ∧ (okV okA) x.Held ∧ okI x.N ∧ okI x.Len
set_option maxRecDepth 100000 in
theorem ty_30 {d : Nat} {cs : List AV} (h : Typed Tryd.prog (d + 3) 30 cs) : ∃ x : GStream, cs = GStream.cs x ∧ GStream.ok x := by
  obtain ⟨es, rfl, hl, hf⟩ := ty_struct Tryd.underlying30 h
  match es, hl, hf with
  | [e0, e1, e2, e3], _, hf =>
    obtain ⟨x0, h0, q0⟩ := ty_27 (hf 0 _ e0 rfl rfl)
    obtain ⟨x1, h1, q1⟩ := ty_28 (hf 1 _ e1 rfl rfl)
    obtain ⟨x2, h2, q2⟩ := ty_3 (hf 2 _ e2 rfl rfl)
    obtain ⟨x3, h3, q3⟩ := ty_3 (hf 3 _ e3 rfl rfl)
    refine ⟨⟨x0, x1, x2, x3⟩, ?_, ⟨q0, q1, q2, q3⟩⟩
    rw [h0, h1, h2, h3]
    simp only [List.flatten_cons, List.flatten_nil, List.append_nil, GStream.cs]

/-! chirographlaw.SumSums -/
noncomputable def g_law_SumSums (l0 : List UInt8) : Option (Bool) :=
  (g_sum_Sum l0).bind fun r'1 => (g_ref_Summed l0).bind fun r'2 => some (decide (r'1 = r'2))
set_option maxHeartbeats 4000000 in
set_option maxRecDepth 100000 in
theorem g_law_SumSums_ac {l0 : List UInt8} {r : Bool} (H : g_law_SumSums l0 = some r) : ACp Tryd.prog 3 [(AV.bytes l0)] (AV.bool r) := by
  refine ACp_of (AC2_of_body (vs := [.c (.p (AV.bool r))]) Tryd.func3 rfl rfl (Nat.le_of_ble_eq_true rfl) rfl ?_) (fun _ => .same _)
  unfold g_law_SumSums at H
  refine AW2_st [(0, .c (.p (AV.bytes l0)))] [] rfl ⟨TLes.same _, trivial⟩ trivial ?_
  refine AW2_seq ?_
  refine AW2_reg [0] rfl ?_
  refine r_op rfl rfl (PureD.opD (p_asg rfl rfl)) ?_
  refine RunW_st [(0, .c (.p (AV.bytes l0)))] [] rfl ⟨TLes.same _, trivial⟩ trivial ?_
  refine RunW_nil ?_
  refine AW2_seq ?_
  refine AW2_reg [0, 1, 2, 3] rfl ?_
  refine r_op rfl rfl (PureD.opD (p_move rfl rfl)) ?_
  refine bindK H fun r'1 h1 H => ?_
  refine r_op rfl rfl (PureD.opD (p_callp rfl rfl rfl Tryd.func12 rfl rfl (g_sum_Sum_ac h1) ⟨rfl, trivial⟩)) ?_
  refine r_op rfl rfl (MakeD.opD (u_alloc 3 rfl in_23 one_23 zc_23) rfl rfl rfl rfl) ?_
  refine r_op rfl rfl (u_st rfl rfl rfl rfl rfl in_23 ((bcells_length _).trans (vlen r'1)) (ne_of_lt (n := 0) (Nat.lt_of_lt_of_eq (by decide) (Eq.symm ((bcells_length _).trans (vlen (Vector.replicate 32 (0 : UInt8))))))) (Upd.refl (((bcells_length _).trans (vlen r'1)).trans ((bcells_length _).trans (vlen (Vector.replicate 32 (0 : UInt8)))).symm))) ?_
  refine RunW_st [(0, .c (.p (AV.bytes l0))), (3, .c (.ptr 3 (0)))] [(3, .pure (bcells r'1.toList))] rfl ⟨TLes.same _, TLes.same _, trivial⟩ ⟨rfl, trivial⟩ ?_
  refine RunW_nil ?_
  refine AW2_seq ?_
  refine AW2_reg [0, 1, 2, 3] rfl ?_
  refine r_op rfl rfl (PureD.opD (p_move rfl rfl)) ?_
  refine bindK H fun r'2 h2 H => ?_
  refine r_op rfl rfl (PureD.opD (p_callp rfl rfl rfl Tryd.func13 rfl rfl (g_ref_Summed_ac h2) ⟨rfl, trivial⟩)) ?_
  refine r_op rfl rfl (MakeD.opD (u_alloc 4 rfl in_23 one_23 zc_23) rfl rfl rfl rfl) ?_
  refine r_op rfl rfl (u_st rfl rfl rfl rfl rfl in_23 ((bcells_length _).trans (vlen r'2)) (ne_of_lt (n := 0) (Nat.lt_of_lt_of_eq (by decide) (Eq.symm ((bcells_length _).trans (vlen (Vector.replicate 32 (0 : UInt8))))))) (Upd.refl (((bcells_length _).trans (vlen r'2)).trans ((bcells_length _).trans (vlen (Vector.replicate 32 (0 : UInt8)))).symm))) ?_
  refine RunW_st [(3, .c (.ptr 3 (0))), (4, .c (.ptr 4 (0)))] [(3, .pure (bcells r'1.toList)), (4, .pure (bcells r'2.toList))] rfl ⟨TLes.same _, TLes.same _, trivial⟩ ⟨rfl, rfl, trivial⟩ ?_
  refine RunW_nil ?_
  refine AW2_seq ?_
  refine AW2_reg [0, 1, 2, 3] rfl ?_
  refine r_op rfl rfl (PureD.opD (u_lda rfl rfl Tryd.underlying23 rfl in_23 rfl (Nat.succ_pos _) (Sub.refl _) ((bcells_length _).trans (vlen r'1)))) ?_
  refine r_op rfl rfl (PureD.opD (u_lda rfl rfl Tryd.underlying23 rfl in_23 rfl (Nat.succ_pos _) (Sub.refl _) ((bcells_length _).trans (vlen r'2)))) ?_
  refine r_op rfl rfl (PureD.opD (p_eqa (a := r'1) (b := r'2) rfl eq_23 rfl (by kernel_rfl) rfl rfl)) ?_
  refine r_op rfl rfl (PureD.opD (p_asg rfl rfl)) ?_
  refine RunW_st [(2, .c (.p (.bool (decide (r'1 = r'2)))))] [] rfl ⟨TLes.same _, trivial⟩ trivial ?_
  refine RunW_nil ?_
  refine AW2_ret ?_
  have hz := some_elim H
  subst hz
  exact ⟨⟨res_tmp (.same _), trivial⟩, trivial⟩

/-! sum.check -/
noncomputable def g_sum_check_l0 (s0 : GStream) : Int → Option (Int ⊕ (Int ⊕ Unit))
  | i3_0 => (if i3_0 < (64 : Int) then if 0 ≤ i3_0 ∧ i3_0 < (64 : Int) then (if (vrd s0.Held i3_0.toNat) ≠ (0 : UInt8) then some (.inr (.inl (11 : Int))) else some (.inl (w64 (i3_0 + (1 : Int))))) else none else some (.inr (.inr ())))
noncomputable def g_sum_check (s0 : GStream) : Option (Int) :=
  (if ((s0.Len < (0 : Int)) ∨ (s0.Len > (1152921504606846976 : Int))) ∨ (s0.N ≠ s0.Len.tmod (64 : Int)) then some (11 : Int) else (loopO (g_sum_check_l0 s0) s0.N).bind fun o'4 => match o'4 with | .inl y'5 => some y'5 | .inr (y'6) => some (0 : Int))
set_option maxHeartbeats 4000000 in
set_option maxRecDepth 100000 in
theorem g_sum_check_ac {s0 : GStream} {r : Int} (H : g_sum_check s0 = some r) : ACp Tryd.prog 36 [(.agg (GStream.cs s0))] (AV.int r) := by
  refine ACp_of (AC2_of_body (vs := [.c (.p (AV.int r))]) Tryd.func36 rfl rfl (Nat.le_of_ble_eq_true rfl) rfl ?_) (fun _ => .same _)
  unfold g_sum_check at H
  refine AW2_st [(0, .c (.p (.agg (GStream.cs s0))))] [] rfl ⟨TLes.same _, trivial⟩ trivial ?_
  refine AW2_seq ?_
  refine AW2_reg [0, 1] rfl ?_
  refine r_op rfl rfl (MakeD.opD (n_box 1 rfl rfl) rfl rfl rfl rfl) ?_
  refine r_op rfl rfl (PureD.opD (p_asg rfl rfl)) ?_
  refine RunW_st [(1, .c (.ptr 1 (0)))] [(1, .pure (GStream.cs s0))] rfl ⟨TLes.same _, trivial⟩ ⟨rfl, trivial⟩ ?_
  refine RunW_nil ?_
  refine AW2_seq ?_
  refine AW2_seq ?_
  refine AW2_mid (⟨[(1, .c (.ptr 1 (0))), (19, .c (.p (.bool (decide (((s0.Len < (0 : Int)) ∨ (s0.Len > (1152921504606846976 : Int))) ∨ (s0.N ≠ s0.Len.tmod (64 : Int)))))))], [(1, .pure (GStream.cs s0))], 31⟩ : TS) ?_ ?_
  · refine AW2_reg [0, 1, 2, 3, 4, 5, 6, 7, 8, 9, 10, 11, 12, 13, 14, 15] rfl ?_
    refine r_op rfl rfl (PureD.opD (u_fa rfl rfl Tryd.underlying30 rfl in_3 (Nat.succ_ne_zero _) rfl rfl (ne_of_lt (n := 0) (Nat.lt_of_lt_of_eq (by decide) (Eq.symm (GStream.len s0)))))) ?_
    refine r_op rfl rfl (PureD.opD (u_ld rfl rfl Tryd.underlying3 rfl rfl ((Sub.refl _).trans (GStream.sub3 s0)))) ?_
    refine r_op rfl rfl (PureD.opD (p_bin rfl rfl rfl rfl)) ?_
    refine r_op rfl rfl (PureD.opD (p_move rfl rfl)) ?_
    refine (Classical.em (s0.Len < (0 : Int))).elim (fun h1 => ?_) (fun h1 => ?_)
    · refine r_off rfl rfl rfl rfl (decide_eq_true (p := s0.Len < (0 : Int)) h1) rfl rfl ?_
      refine r_off rfl rfl rfl rfl (decide_eq_true (p := s0.Len < (0 : Int)) h1) rfl rfl ?_
      refine r_off rfl rfl rfl rfl (decide_eq_true (p := s0.Len < (0 : Int)) h1) rfl rfl ?_
      refine r_op rfl rfl (PureD.opD (p_pkt rfl rfl (decide_eq_true (p := s0.Len < (0 : Int)) h1) (tb (decide_eq_true (p := (s0.Len < (0 : Int)) ∨ (s0.Len > (1152921504606846976 : Int))) (Or.inl h1)).symm))) ?_
      refine r_op rfl rfl (PureD.opD (p_move rfl rfl)) ?_
      refine r_off rfl rfl rfl rfl (decide_eq_true (p := (s0.Len < (0 : Int)) ∨ (s0.Len > (1152921504606846976 : Int))) (Or.inl h1)) rfl rfl ?_
      refine r_off rfl rfl rfl rfl (decide_eq_true (p := (s0.Len < (0 : Int)) ∨ (s0.Len > (1152921504606846976 : Int))) (Or.inl h1)) rfl rfl ?_
      refine r_off rfl rfl rfl rfl (decide_eq_true (p := (s0.Len < (0 : Int)) ∨ (s0.Len > (1152921504606846976 : Int))) (Or.inl h1)) rfl rfl ?_
      refine r_off rfl rfl rfl rfl (decide_eq_true (p := (s0.Len < (0 : Int)) ∨ (s0.Len > (1152921504606846976 : Int))) (Or.inl h1)) rfl rfl ?_
      refine r_off rfl rfl rfl rfl (decide_eq_true (p := (s0.Len < (0 : Int)) ∨ (s0.Len > (1152921504606846976 : Int))) (Or.inl h1)) rfl rfl ?_
      refine r_off rfl rfl rfl rfl (decide_eq_true (p := (s0.Len < (0 : Int)) ∨ (s0.Len > (1152921504606846976 : Int))) (Or.inl h1)) rfl rfl ?_
      refine r_op rfl rfl (PureD.opD (p_pkt rfl rfl (decide_eq_true (p := (s0.Len < (0 : Int)) ∨ (s0.Len > (1152921504606846976 : Int))) (Or.inl h1)) (tb (decide_eq_true (p := ((s0.Len < (0 : Int)) ∨ (s0.Len > (1152921504606846976 : Int))) ∨ (s0.N ≠ s0.Len.tmod (64 : Int))) (Or.inl (Or.inl h1))).symm))) ?_
      refine RunW_st [(1, .c (.ptr 1 (0))), (19, .c (.p (.bool (decide (((s0.Len < (0 : Int)) ∨ (s0.Len > (1152921504606846976 : Int))) ∨ (s0.N ≠ s0.Len.tmod (64 : Int)))))))] [(1, .pure (GStream.cs s0))] rfl ⟨TLes.same _, TLes.same _, trivial⟩ ⟨rfl, trivial⟩ ?_
      exact RunW_nil rfl
    · refine r_on rfl rfl rfl rfl (decide_eq_false (p := s0.Len < (0 : Int)) h1) rfl (PureD.opD (u_fa rfl rfl Tryd.underlying30 rfl in_3 (Nat.succ_ne_zero _) rfl rfl (ne_of_lt (n := 0) (Nat.lt_of_lt_of_eq (by decide) (Eq.symm (GStream.len s0)))))) ?_
      refine r_on rfl rfl rfl rfl (decide_eq_false (p := s0.Len < (0 : Int)) h1) rfl (PureD.opD (u_ld rfl rfl Tryd.underlying3 rfl rfl ((Sub.refl _).trans (GStream.sub3 s0)))) ?_
      refine r_on rfl rfl rfl rfl (decide_eq_false (p := s0.Len < (0 : Int)) h1) rfl (PureD.opD (p_bin rfl rfl rfl rfl)) ?_
      refine r_op rfl rfl (PureD.opD (p_pkf rfl rfl (decide_eq_false (p := s0.Len < (0 : Int)) h1) (tb ((or_l (p := s0.Len < (0 : Int)) (q := s0.Len > (1152921504606846976 : Int)) h1))))) ?_
      refine r_op rfl rfl (PureD.opD (p_move rfl rfl)) ?_
      refine (Classical.em (s0.Len > (1152921504606846976 : Int))).elim (fun h2 => ?_) (fun h2 => ?_)
      · refine r_off rfl rfl rfl rfl (decide_eq_true (p := (s0.Len < (0 : Int)) ∨ (s0.Len > (1152921504606846976 : Int))) (Or.inr h2)) rfl rfl ?_
        refine r_off rfl rfl rfl rfl (decide_eq_true (p := (s0.Len < (0 : Int)) ∨ (s0.Len > (1152921504606846976 : Int))) (Or.inr h2)) rfl rfl ?_
        refine r_off rfl rfl rfl rfl (decide_eq_true (p := (s0.Len < (0 : Int)) ∨ (s0.Len > (1152921504606846976 : Int))) (Or.inr h2)) rfl rfl ?_
        refine r_off rfl rfl rfl rfl (decide_eq_true (p := (s0.Len < (0 : Int)) ∨ (s0.Len > (1152921504606846976 : Int))) (Or.inr h2)) rfl rfl ?_
        refine r_off rfl rfl rfl rfl (decide_eq_true (p := (s0.Len < (0 : Int)) ∨ (s0.Len > (1152921504606846976 : Int))) (Or.inr h2)) rfl rfl ?_
        refine r_off rfl rfl rfl rfl (decide_eq_true (p := (s0.Len < (0 : Int)) ∨ (s0.Len > (1152921504606846976 : Int))) (Or.inr h2)) rfl rfl ?_
        refine r_op rfl rfl (PureD.opD (p_pkt rfl rfl (decide_eq_true (p := (s0.Len < (0 : Int)) ∨ (s0.Len > (1152921504606846976 : Int))) (Or.inr h2)) (tb (decide_eq_true (p := ((s0.Len < (0 : Int)) ∨ (s0.Len > (1152921504606846976 : Int))) ∨ (s0.N ≠ s0.Len.tmod (64 : Int))) (Or.inl (Or.inr h2))).symm))) ?_
        refine RunW_st [(1, .c (.ptr 1 (0))), (19, .c (.p (.bool (decide (((s0.Len < (0 : Int)) ∨ (s0.Len > (1152921504606846976 : Int))) ∨ (s0.N ≠ s0.Len.tmod (64 : Int)))))))] [(1, .pure (GStream.cs s0))] rfl ⟨TLes.same _, TLes.same _, trivial⟩ ⟨rfl, trivial⟩ ?_
        exact RunW_nil rfl
      · refine r_on rfl rfl rfl rfl (decide_eq_false (p := (s0.Len < (0 : Int)) ∨ (s0.Len > (1152921504606846976 : Int))) (not_or.2 ⟨h1, h2⟩)) rfl (PureD.opD (u_fa rfl rfl Tryd.underlying30 rfl in_3 (Nat.succ_ne_zero _) rfl rfl (ne_of_lt (n := 0) (Nat.lt_of_lt_of_eq (by decide) (Eq.symm (GStream.len s0)))))) ?_
        refine r_on rfl rfl rfl rfl (decide_eq_false (p := (s0.Len < (0 : Int)) ∨ (s0.Len > (1152921504606846976 : Int))) (not_or.2 ⟨h1, h2⟩)) rfl (PureD.opD (u_ld rfl rfl Tryd.underlying3 rfl rfl ((Sub.refl _).trans (GStream.sub2 s0)))) ?_
        refine r_on rfl rfl rfl rfl (decide_eq_false (p := (s0.Len < (0 : Int)) ∨ (s0.Len > (1152921504606846976 : Int))) (not_or.2 ⟨h1, h2⟩)) rfl (PureD.opD (u_fa rfl rfl Tryd.underlying30 rfl in_3 (Nat.succ_ne_zero _) rfl rfl (ne_of_lt (n := 0) (Nat.lt_of_lt_of_eq (by decide) (Eq.symm (GStream.len s0)))))) ?_
        refine r_on rfl rfl rfl rfl (decide_eq_false (p := (s0.Len < (0 : Int)) ∨ (s0.Len > (1152921504606846976 : Int))) (not_or.2 ⟨h1, h2⟩)) rfl (PureD.opD (u_ld rfl rfl Tryd.underlying3 rfl rfl ((Sub.refl _).trans (GStream.sub3 s0)))) ?_
        refine r_on rfl rfl rfl rfl (decide_eq_false (p := (s0.Len < (0 : Int)) ∨ (s0.Len > (1152921504606846976 : Int))) (not_or.2 ⟨h1, h2⟩)) rfl (PureD.opD (p_irem rfl rfl rfl (by decide))) ?_
        refine r_on rfl rfl rfl rfl (decide_eq_false (p := (s0.Len < (0 : Int)) ∨ (s0.Len > (1152921504606846976 : Int))) (not_or.2 ⟨h1, h2⟩)) rfl (PureD.opD (p_ine rfl rfl rfl)) ?_
        refine r_op rfl rfl (PureD.opD (p_pkf rfl rfl (decide_eq_false (p := (s0.Len < (0 : Int)) ∨ (s0.Len > (1152921504606846976 : Int))) (not_or.2 ⟨h1, h2⟩)) (tb ((or_l (p := (s0.Len < (0 : Int)) ∨ (s0.Len > (1152921504606846976 : Int))) (q := s0.N ≠ s0.Len.tmod (64 : Int)) (not_or.2 ⟨h1, h2⟩)))))) ?_
        refine RunW_st [(1, .c (.ptr 1 (0))), (19, .c (.p (.bool (decide (((s0.Len < (0 : Int)) ∨ (s0.Len > (1152921504606846976 : Int))) ∨ (s0.N ≠ s0.Len.tmod (64 : Int)))))))] [(1, .pure (GStream.cs s0))] rfl ⟨TLes.same _, TLes.same _, trivial⟩ ⟨rfl, trivial⟩ ?_
        exact RunW_nil rfl
  · refine AW2_if (p := ((s0.Len < (0 : Int)) ∨ (s0.Len > (1152921504606846976 : Int))) ∨ (s0.N ≠ s0.Len.tmod (64 : Int))) rfl (fun h3 => ?_) (fun h3 => ?_)
    · replace H := ite_then h3 H
      refine AW2_seq ?_
      refine AW2_reg [0] rfl ?_
      refine r_op rfl rfl (PureD.opD (p_asg rfl rfl)) ?_
      refine RunW_st [(2, .c (.p (AV.int (11 : Int))))] [] rfl ⟨TLes.same _, trivial⟩ trivial ?_
      refine RunW_nil ?_
      refine AW2_ret ?_
      have hz := some_elim H
      subst hz
      exact ⟨⟨res_tmp (.same _), trivial⟩, trivial⟩
    · replace H := ite_else h3 H
      refine AW2_st [(1, .c (.ptr 1 (0)))] [(1, .pure (GStream.cs s0))] rfl ⟨TLes.same _, trivial⟩ ⟨rfl, trivial⟩ ?_
      refine AW2_skip ?_
      refine AW2_seq ?_
      refine AW2_seq ?_
      refine AW2_reg [0, 1, 2] rfl ?_
      refine r_op rfl rfl (PureD.opD (u_fa rfl rfl Tryd.underlying30 rfl in_3 (Nat.succ_ne_zero _) rfl rfl (ne_of_lt (n := 0) (Nat.lt_of_lt_of_eq (by decide) (Eq.symm (GStream.len s0)))))) ?_
      refine r_op rfl rfl (PureD.opD (u_ld rfl rfl Tryd.underlying3 rfl rfl ((Sub.refl _).trans (GStream.sub2 s0)))) ?_
      refine r_op rfl rfl (PureD.opD (p_asg rfl rfl)) ?_
      refine RunW_st [(1, .c (.ptr 1 (0))), (3, .c (.p (AV.int s0.N)))] [(1, .pure (GStream.cs s0))] rfl ⟨TLes.same _, TLes.same _, trivial⟩ ⟨rfl, trivial⟩ ?_
      refine RunW_nil ?_
      refine AW2_block ?_
      refine AW2_st [(1, .c (.ptr 1 (0))), (3, .c (.p (AV.int s0.N)))] [(1, .pure (GStream.cs s0))] rfl ⟨TLes.same _, TLes.same _, trivial⟩ ⟨rfl, trivial⟩ ?_
      refine bindK H fun o'4 h7 H => ?_
      refine AW2_loopO (fun a'1 : Int => (⟨[(1, .c (.ptr 1 (0))), (3, .c (.p (AV.int a'1)))], [(1, .pure (GStream.cs s0))], 31⟩ : TS)) (fun (o : Int ⊕ Unit) e s' => match o with | .inl y'2 => e = Go.Exit.ret ∧ ResAll Tryd.prog s' [ResultVar.tmp 2] [.c (.p (AV.int y'2))] ∧ HFits s' [] | .inr (y'3) => e = Go.Exit.exit 0 ∧ s' = (⟨[], [], 31⟩ : TS)) h7 rfl (fun i3_0 x hx => ?_) (fun e s' hs => ?_)
      · clear H
        have H := hx
        clear hx
        unfold g_sum_check_l0 at H
        refine AW2_seq ?_
        refine AW2_seq ?_
        refine AW2_reg [0, 1] rfl ?_
        refine r_op rfl rfl (PureD.opD (p_move rfl rfl)) ?_
        refine r_op rfl rfl (PureD.opD (p_bin rfl rfl rfl rfl)) ?_
        refine RunW_st [(1, .c (.ptr 1 (0))), (3, .c (.p (AV.int i3_0))), (23, .c (.p (.bool (decide (i3_0 < (64 : Int))))))] [(1, .pure (GStream.cs s0))] rfl ⟨TLes.same _, TLes.same _, TLes.same _, trivial⟩ ⟨rfl, trivial⟩ ?_
        refine RunW_nil ?_
        refine AW2_if (p := i3_0 < (64 : Int)) rfl (fun h4 => ?_) (fun h4 => ?_)
        · replace H := ite_then h4 H
          refine AW2_st [(1, .c (.ptr 1 (0))), (3, .c (.p (AV.int i3_0)))] [(1, .pure (GStream.cs s0))] rfl ⟨TLes.same _, TLes.same _, trivial⟩ ⟨rfl, trivial⟩ ?_
          refine AW2_skip ?_
          refine AW2_seq ?_
          refine AW2_block ?_
          refine AW2_seq ?_
          refine AW2_reg [0, 1, 2, 3, 4] rfl ?_
          refine r_op rfl rfl (PureD.opD (p_move rfl rfl)) ?_
          refine r_op rfl rfl (PureD.opD (u_fa rfl rfl Tryd.underlying30 rfl in_28 (Nat.succ_ne_zero _) rfl rfl (ne_of_lt (n := 0) (Nat.lt_of_lt_of_eq (by decide) (Eq.symm (GStream.len s0)))))) ?_
          refine chkK H fun h5 H => ?_
          refine r_op rfl rfl (PureD.opD (u_ixp rfl rfl Tryd.underlying28 in_5 rfl rfl (ne_of_lt (n := 0) (Nat.lt_of_lt_of_eq (by decide) (Eq.symm (GStream.len s0)))) rfl (ixe h5) (ixn h5))) ?_
          refine r_op rfl rfl (PureD.opD (u_ld rfl rfl Tryd.underlying5 rfl rfl (((Sub.refl _).trans (GStream.sub1 s0)).trans (Sub.vmap (ixn h5))))) ?_
          refine r_op rfl rfl (PureD.opD (p_u8ne (a := (vrd s0.Held i3_0.toNat)) (b := (0 : UInt8)) rfl rfl rfl)) ?_
          refine RunW_st [(1, .c (.ptr 1 (0))), (3, .c (.p (AV.int i3_0))), (30, .c (.p (.bool (decide ((vrd s0.Held i3_0.toNat) ≠ (0 : UInt8))))))] [(1, .pure (GStream.cs s0))] rfl ⟨TLes.same _, TLes.same _, TLes.same _, trivial⟩ ⟨rfl, trivial⟩ ?_
          refine RunW_nil ?_
          refine AW2_if (p := (vrd s0.Held i3_0.toNat) ≠ (0 : UInt8)) rfl (fun h6 => ?_) (fun h6 => ?_)
          · replace H := ite_then h6 H
            refine AW2_seq ?_
            refine AW2_reg [0] rfl ?_
            refine r_op rfl rfl (PureD.opD (p_asg rfl rfl)) ?_
            refine RunW_st [(2, .c (.p (AV.int (11 : Int))))] [] rfl ⟨TLes.same _, trivial⟩ trivial ?_
            refine RunW_nil ?_
            refine AW2_ret ?_
            have hz := some_elim H
            subst hz
            exact ⟨rfl, ⟨res_tmp (.same _), trivial⟩, trivial⟩
          · replace H := ite_else h6 H
            refine AW2_st [(1, .c (.ptr 1 (0))), (3, .c (.p (AV.int i3_0)))] [(1, .pure (GStream.cs s0))] rfl ⟨TLes.same _, TLes.same _, trivial⟩ ⟨rfl, trivial⟩ ?_
            refine AW2_skip ?_
            refine AW2_reg [0, 1, 2] rfl ?_
            refine r_op rfl rfl (PureD.opD (p_move rfl rfl)) ?_
            refine r_op rfl rfl (PureD.opD (p_bin rfl rfl rfl rfl)) ?_
            refine r_op rfl rfl (PureD.opD (p_asg rfl rfl)) ?_
            refine RunW_st [(1, .c (.ptr 1 (0))), (3, .c (.p (AV.int (w64 (i3_0 + (1 : Int))))))] [(1, .pure (GStream.cs s0))] rfl ⟨TLes.same _, TLes.same _, trivial⟩ ⟨rfl, trivial⟩ ?_
            refine RunW_nil ?_
            have hz := some_elim H
            subst hz
            exact ⟨rfl, rfl⟩
        · replace H := ite_else h4 H
          refine AW2_st [] [] rfl trivial trivial ?_
          refine AW2_exit ?_
          refine thenQ2_exit ?_
          have hz := some_elim H
          subst hz
          exact ⟨rfl, rfl⟩
      · rcases o'4 with y'5 | y'6
        · obtain ⟨rfl, hs⟩ := hs
          refine ⟨by simp, ?_⟩
          have hz := some_elim H
          subst hz
          exact ⟨hs.1, hs.2⟩
        · obtain ⟨rfl, rfl⟩ := hs
          refine ⟨by simp, ?_⟩
          refine blockQ2_exit ?_
          refine AW2_seq ?_
          refine AW2_reg [0] rfl ?_
          refine r_op rfl rfl (PureD.opD (p_asg rfl rfl)) ?_
          refine RunW_st [(2, .c (.p (AV.int (0 : Int))))] [] rfl ⟨TLes.same _, trivial⟩ trivial ?_
          refine RunW_nil ?_
          refine AW2_ret ?_
          have hz := some_elim H
          subst hz
          exact ⟨⟨res_tmp (.same _), trivial⟩, trivial⟩

/-! sum.Add -/
noncomputable def g_sum_Add (s0 : GStream) (b1 : List UInt8) : Option (GStream × Int) :=
  (g_sum_check s0).bind fun r'1 => (if r'1 ≠ (0 : Int) then some (GStream.zero, r'1) else (if (b1.length : Int) > w64 ((1152921504606846976 : Int) - s0.Len) then some (GStream.zero, (1 : Int)) else (g_sum_feed s0 b1).bind fun r'2 => some (r'2, (0 : Int))))
set_option maxHeartbeats 4000000 in
set_option maxRecDepth 100000 in
theorem g_sum_Add_ac {s0 : GStream} {b1 : List UInt8} {r : GStream × Int} (H : g_sum_Add s0 b1 = some r) : ACp Tryd.prog 14 [(.agg (GStream.cs s0)), (AV.bytes b1)] (.tup [(.agg (GStream.cs r.1)), (AV.int r.2)]) := by
  refine ACp_of (AC2_of_body (vs := [.c (.p (.agg (GStream.cs r.1))), .c (.p (AV.int r.2))]) Tryd.func14 rfl rfl (Nat.le_of_ble_eq_true rfl) rfl ?_) (fun _ => .same _)
  unfold g_sum_Add at H
  refine AW2_st [(0, .c (.p (.agg (GStream.cs s0)))), (1, .c (.p (AV.bytes b1)))] [] rfl ⟨TLes.same _, TLes.same _, trivial⟩ trivial ?_
  refine AW2_seq ?_
  refine AW2_reg [0, 1, 2] rfl ?_
  refine r_op rfl rfl (MakeD.opD (n_box 2 rfl rfl) rfl rfl rfl rfl) ?_
  refine r_op rfl rfl (MakeD.opD (u_alloc 4 rfl in_30 one_30 zc_30) rfl rfl rfl rfl) ?_
  refine r_op rfl rfl (PureD.opD (p_asg rfl rfl)) ?_
  refine RunW_st [(1, .c (.p (AV.bytes b1))), (2, .c (.ptr 2 (0))), (4, .c (.ptr 4 (0)))] [(2, .pure (GStream.cs s0)), (4, .pure (GStream.cs GStream.zero))] rfl ⟨TLes.same _, TLes.same _, TLes.same _, trivial⟩ ⟨rfl, rfl, trivial⟩ ?_
  refine RunW_nil ?_
  refine AW2_seq ?_
  refine AW2_seq ?_
  refine AW2_reg [0, 1, 2] rfl ?_
  refine r_op rfl rfl (PureD.opD (u_lda rfl rfl Tryd.underlying30 rfl in_30 rfl (Nat.succ_pos _) (Sub.refl _) (GStream.len s0))) ?_
  refine bindK H fun r'1 h1 H => ?_
  refine r_op rfl rfl (PureD.opD (p_callp rfl rfl rfl Tryd.func36 rfl rfl (g_sum_check_ac h1) ⟨rfl, trivial⟩)) ?_
  refine r_op rfl rfl (PureD.opD (p_asg rfl rfl)) ?_
  refine RunW_st [(1, .c (.p (AV.bytes b1))), (2, .c (.ptr 2 (0))), (4, .c (.ptr 4 (0))), (6, .c (.p (AV.int r'1)))] [(2, .pure (GStream.cs s0)), (4, .pure (GStream.cs GStream.zero))] rfl ⟨TLes.same _, TLes.same _, TLes.same _, TLes.same _, trivial⟩ ⟨rfl, rfl, trivial⟩ ?_
  refine RunW_nil ?_
  refine AW2_seq ?_
  refine AW2_reg [0, 1] rfl ?_
  refine r_op rfl rfl (PureD.opD (p_move rfl rfl)) ?_
  refine r_op rfl rfl (PureD.opD (p_ine rfl rfl rfl)) ?_
  refine RunW_st [(1, .c (.p (AV.bytes b1))), (2, .c (.ptr 2 (0))), (4, .c (.ptr 4 (0))), (6, .c (.p (AV.int r'1))), (10, .c (.p (.bool (decide (r'1 ≠ (0 : Int))))))] [(2, .pure (GStream.cs s0)), (4, .pure (GStream.cs GStream.zero))] rfl ⟨TLes.same _, TLes.same _, TLes.same _, TLes.same _, TLes.same _, trivial⟩ ⟨rfl, rfl, trivial⟩ ?_
  refine RunW_nil ?_
  refine AW2_if (p := r'1 ≠ (0 : Int)) rfl (fun h2 => ?_) (fun h2 => ?_)
  · replace H := ite_then h2 H
    refine AW2_seq ?_
    refine AW2_reg [0, 1, 2, 3] rfl ?_
    refine r_op rfl rfl (PureD.opD (u_bld rfl in_30 one_30 zc_30 pl_30 rfl rfl)) ?_
    refine r_op rfl rfl (PureD.opD (p_move rfl rfl)) ?_
    refine r_op rfl rfl (u_st rfl rfl rfl rfl rfl in_30 (GStream.len GStream.zero) (ne_of_lt (n := 0) (Nat.lt_of_lt_of_eq (by decide) (Eq.symm (GStream.len GStream.zero)))) (Upd.refl ((GStream.len GStream.zero).trans (GStream.len GStream.zero).symm))) ?_
    refine r_op rfl rfl (PureD.opD (p_asg rfl rfl)) ?_
    refine RunW_st [(4, .c (.ptr 4 (0))), (5, .c (.p (AV.int r'1)))] [(4, .pure (GStream.cs GStream.zero))] rfl ⟨TLes.same _, TLes.same _, trivial⟩ ⟨rfl, trivial⟩ ?_
    refine RunW_nil ?_
    refine AW2_ret ?_
    have hz := some_elim H
    subst hz
    exact ⟨⟨res_cella Tryd.underlying30 rfl in_30.sz rfl (Sub.le (Sub.refl _) (GStream.len GStream.zero)) (by decide) (Sub.take (Sub.refl _) (GStream.len GStream.zero)), res_tmp (.same _), trivial⟩, trivial⟩
  · replace H := ite_else h2 H
    refine AW2_st [(1, .c (.p (AV.bytes b1))), (2, .c (.ptr 2 (0))), (4, .c (.ptr 4 (0)))] [(2, .pure (GStream.cs s0)), (4, .pure (GStream.cs GStream.zero))] rfl ⟨TLes.same _, TLes.same _, TLes.same _, trivial⟩ ⟨rfl, rfl, trivial⟩ ?_
    refine AW2_skip ?_
    refine AW2_seq ?_
    refine AW2_seq ?_
    refine AW2_reg [0, 1, 2, 3, 4, 5] rfl ?_
    refine r_op rfl rfl (PureD.opD (p_move rfl rfl)) ?_
    refine r_op rfl rfl (PureD.opD (p_lenl rfl Tryd.underlying22 rfl rfl)) ?_
    refine r_op rfl rfl (PureD.opD (u_fa rfl rfl Tryd.underlying30 rfl in_3 (Nat.succ_ne_zero _) rfl rfl (ne_of_lt (n := 0) (Nat.lt_of_lt_of_eq (by decide) (Eq.symm (GStream.len s0)))))) ?_
    refine r_op rfl rfl (PureD.opD (u_ld rfl rfl Tryd.underlying3 rfl rfl ((Sub.refl _).trans (GStream.sub3 s0)))) ?_
    refine r_op rfl rfl (PureD.opD (p_bin rfl rfl rfl rfl)) ?_
    refine r_op rfl rfl (PureD.opD (p_bin rfl rfl rfl rfl)) ?_
    refine RunW_st [(1, .c (.p (AV.bytes b1))), (2, .c (.ptr 2 (0))), (4, .c (.ptr 4 (0))), (18, .c (.p (.bool (decide ((b1.length : Int) > w64 ((1152921504606846976 : Int) - s0.Len))))))] [(2, .pure (GStream.cs s0)), (4, .pure (GStream.cs GStream.zero))] rfl ⟨TLes.same _, TLes.same _, TLes.same _, TLes.same _, trivial⟩ ⟨rfl, rfl, trivial⟩ ?_
    refine RunW_nil ?_
    refine AW2_if (p := (b1.length : Int) > w64 ((1152921504606846976 : Int) - s0.Len)) rfl (fun h3 => ?_) (fun h3 => ?_)
    · replace H := ite_then h3 H
      refine AW2_seq ?_
      refine AW2_reg [0, 1, 2] rfl ?_
      refine r_op rfl rfl (PureD.opD (u_bld rfl in_30 one_30 zc_30 pl_30 rfl rfl)) ?_
      refine r_op rfl rfl (u_st rfl rfl rfl rfl rfl in_30 (GStream.len GStream.zero) (ne_of_lt (n := 0) (Nat.lt_of_lt_of_eq (by decide) (Eq.symm (GStream.len GStream.zero)))) (Upd.refl ((GStream.len GStream.zero).trans (GStream.len GStream.zero).symm))) ?_
      refine r_op rfl rfl (PureD.opD (p_asg rfl rfl)) ?_
      refine RunW_st [(4, .c (.ptr 4 (0))), (5, .c (.p (AV.int (1 : Int))))] [(4, .pure (GStream.cs GStream.zero))] rfl ⟨TLes.same _, TLes.same _, trivial⟩ ⟨rfl, trivial⟩ ?_
      refine RunW_nil ?_
      refine AW2_ret ?_
      have hz := some_elim H
      subst hz
      exact ⟨⟨res_cella Tryd.underlying30 rfl in_30.sz rfl (Sub.le (Sub.refl _) (GStream.len GStream.zero)) (by decide) (Sub.take (Sub.refl _) (GStream.len GStream.zero)), res_tmp (.same _), trivial⟩, trivial⟩
    · replace H := ite_else h3 H
      refine AW2_st [(1, .c (.p (AV.bytes b1))), (2, .c (.ptr 2 (0))), (4, .c (.ptr 4 (0)))] [(2, .pure (GStream.cs s0)), (4, .pure (GStream.cs GStream.zero))] rfl ⟨TLes.same _, TLes.same _, TLes.same _, trivial⟩ ⟨rfl, rfl, trivial⟩ ?_
      refine AW2_skip ?_
      refine AW2_seq ?_
      refine AW2_reg [0, 1, 2, 3, 4] rfl ?_
      refine r_op rfl rfl (PureD.opD (u_lda rfl rfl Tryd.underlying30 rfl in_30 rfl (Nat.succ_pos _) (Sub.refl _) (GStream.len s0))) ?_
      refine r_op rfl rfl (PureD.opD (p_move rfl rfl)) ?_
      refine bindK H fun r'2 h4 H => ?_
      refine r_op rfl rfl (PureD.opD (p_callp rfl rfl rfl Tryd.func34 rfl rfl (g_sum_feed_ac h4) ⟨rfl, rfl, trivial⟩)) ?_
      refine r_op rfl rfl (u_st rfl rfl rfl rfl rfl in_30 (GStream.len r'2) (ne_of_lt (n := 0) (Nat.lt_of_lt_of_eq (by decide) (Eq.symm (GStream.len GStream.zero)))) (Upd.refl ((GStream.len r'2).trans (GStream.len GStream.zero).symm))) ?_
      refine r_op rfl rfl (PureD.opD (p_asg rfl rfl)) ?_
      refine RunW_st [(4, .c (.ptr 4 (0))), (5, .c (.p (AV.int (0 : Int))))] [(4, .pure (GStream.cs r'2))] rfl ⟨TLes.same _, TLes.same _, trivial⟩ ⟨rfl, trivial⟩ ?_
      refine RunW_nil ?_
      refine AW2_ret ?_
      have hz := some_elim H
      subst hz
      exact ⟨⟨res_cella Tryd.underlying30 rfl in_30.sz rfl (Sub.le (Sub.refl _) (GStream.len r'2)) (by decide) (Sub.take (Sub.refl _) (GStream.len r'2)), res_tmp (.same _), trivial⟩, trivial⟩

/-! chirographlaw.SumAdds -/
noncomputable def g_law_SumAdds (s0 : GStream) (l1 : List UInt8) : Option (Bool) :=
  (g_sum_Add s0 l1).bind fun r'1 => (g_ref_Added s0 l1).bind fun r'2 => ((if r'1.2 = r'2.2 then (if r'1.1 = r'2.1 then (g_sum_Begin).bind fun r'4 => (g_ref_Begun).bind fun r'5 => some (decide (r'4 = r'5)) else some false) else some false)).bind fun g'6 => some g'6
set_option maxHeartbeats 4000000 in
set_option maxRecDepth 100000 in
theorem g_law_SumAdds_ac {s0 : GStream} {l1 : List UInt8} {r : Bool} (H : g_law_SumAdds s0 l1 = some r) : ACp Tryd.prog 4 [(.agg (GStream.cs s0)), (AV.bytes l1)] (AV.bool r) := by
  refine ACp_of (AC2_of_body (vs := [.c (.p (AV.bool r))]) Tryd.func4 rfl rfl (Nat.le_of_ble_eq_true rfl) rfl ?_) (fun _ => .same _)
  unfold g_law_SumAdds at H
  refine AW2_st [(0, .c (.p (.agg (GStream.cs s0)))), (1, .c (.p (AV.bytes l1)))] [] rfl ⟨TLes.same _, TLes.same _, trivial⟩ trivial ?_
  refine AW2_seq ?_
  refine AW2_reg [0, 1] rfl ?_
  refine r_op rfl rfl (MakeD.opD (n_box 2 rfl rfl) rfl rfl rfl rfl) ?_
  refine r_op rfl rfl (PureD.opD (p_asg rfl rfl)) ?_
  refine RunW_st [(1, .c (.p (AV.bytes l1))), (2, .c (.ptr 2 (0)))] [(2, .pure (GStream.cs s0))] rfl ⟨TLes.same _, TLes.same _, trivial⟩ ⟨rfl, trivial⟩ ?_
  refine RunW_nil ?_
  refine AW2_seq ?_
  refine AW2_reg [0, 1, 2, 3, 4, 5, 6, 7, 8] rfl ?_
  refine r_op rfl rfl (PureD.opD (u_lda rfl rfl Tryd.underlying30 rfl in_30 rfl (Nat.succ_pos _) (Sub.refl _) (GStream.len s0))) ?_
  refine r_op rfl rfl (PureD.opD (p_move rfl rfl)) ?_
  refine bindK H fun r'1 h1 H => ?_
  refine r_op rfl rfl (PureD.opD (p_callp rfl rfl rfl Tryd.func14 rfl rfl (g_sum_Add_ac h1) ⟨rfl, rfl, trivial⟩)) ?_
  refine r_op rfl rfl (PureD.opD (p_move rfl rfl)) ?_
  refine r_op rfl rfl (PureD.opD (p_ext rfl rfl rfl rfl)) ?_
  refine r_op rfl rfl (PureD.opD (p_ext rfl rfl rfl rfl)) ?_
  refine r_op rfl rfl (MakeD.opD (u_alloc 5 rfl in_30 one_30 zc_30) rfl rfl rfl rfl) ?_
  refine r_op rfl rfl (u_st rfl rfl rfl rfl rfl in_30 (GStream.len r'1.1) (ne_of_lt (n := 0) (Nat.lt_of_lt_of_eq (by decide) (Eq.symm (GStream.len GStream.zero)))) (Upd.refl ((GStream.len r'1.1).trans (GStream.len GStream.zero).symm))) ?_
  refine r_op rfl rfl (PureD.opD (p_asg rfl rfl)) ?_
  refine RunW_st [(1, .c (.p (AV.bytes l1))), (2, .c (.ptr 2 (0))), (5, .c (.ptr 5 (0))), (6, .c (.p (AV.int r'1.2)))] [(2, .pure (GStream.cs s0)), (5, .pure (GStream.cs r'1.1))] rfl ⟨TLes.same _, TLes.same _, TLes.same _, TLes.same _, trivial⟩ ⟨rfl, rfl, trivial⟩ ?_
  refine RunW_nil ?_
  refine AW2_seq ?_
  refine AW2_reg [0, 1, 2, 3, 4, 5, 6, 7, 8] rfl ?_
  refine r_op rfl rfl (PureD.opD (u_lda rfl rfl Tryd.underlying30 rfl in_30 rfl (Nat.succ_pos _) (Sub.refl _) (GStream.len s0))) ?_
  refine r_op rfl rfl (PureD.opD (p_move rfl rfl)) ?_
  refine bindK H fun r'2 h2 H => ?_
  refine r_op rfl rfl (PureD.opD (p_callp rfl rfl rfl Tryd.func15 rfl rfl (g_ref_Added_ac h2) ⟨rfl, rfl, trivial⟩)) ?_
  refine r_op rfl rfl (PureD.opD (p_move rfl rfl)) ?_
  refine r_op rfl rfl (PureD.opD (p_ext rfl rfl rfl rfl)) ?_
  refine r_op rfl rfl (PureD.opD (p_ext rfl rfl rfl rfl)) ?_
  refine r_op rfl rfl (MakeD.opD (u_alloc 7 rfl in_30 one_30 zc_30) rfl rfl rfl rfl) ?_
  refine r_op rfl rfl (u_st rfl rfl rfl rfl rfl in_30 (GStream.len r'2.1) (ne_of_lt (n := 0) (Nat.lt_of_lt_of_eq (by decide) (Eq.symm (GStream.len GStream.zero)))) (Upd.refl ((GStream.len r'2.1).trans (GStream.len GStream.zero).symm))) ?_
  refine r_op rfl rfl (PureD.opD (p_asg rfl rfl)) ?_
  refine RunW_st [(5, .c (.ptr 5 (0))), (6, .c (.p (AV.int r'1.2))), (7, .c (.ptr 7 (0))), (8, .c (.p (AV.int r'2.2)))] [(5, .pure (GStream.cs r'1.1)), (7, .pure (GStream.cs r'2.1))] rfl ⟨TLes.same _, TLes.same _, TLes.same _, TLes.same _, trivial⟩ ⟨rfl, rfl, trivial⟩ ?_
  refine RunW_nil ?_
  refine AW2_seq ?_
  refine bindK H fun g'6 h8 H => ?_
  refine AW2_mid (⟨[(4, .c (.p (AV.bool g'6)))], [], 34⟩ : TS) ?_ ?_
  · clear H
    have H := h8
    clear h8
    refine AW2_reg [0, 1, 2, 3, 4, 5, 6, 7, 8, 9, 10, 11, 12, 13] rfl ?_
    refine r_op rfl rfl (PureD.opD (p_move rfl rfl)) ?_
    refine r_op rfl rfl (PureD.opD (p_move rfl rfl)) ?_
    refine r_op rfl rfl (PureD.opD (p_ieq rfl rfl rfl)) ?_
    refine r_op rfl rfl (PureD.opD (p_move rfl rfl)) ?_
    refine (Classical.em (r'1.2 = r'2.2)).elim (fun h4 => ?_) (fun h4 => ?_)
    · replace H := ite_then h4 H
      refine r_on rfl rfl rfl rfl (decide_eq_true (p := r'1.2 = r'2.2) h4) rfl (PureD.opD (u_lda rfl rfl Tryd.underlying30 rfl in_30 rfl (Nat.succ_pos _) (Sub.refl _) (GStream.len r'1.1))) ?_
      refine r_on rfl rfl rfl rfl (decide_eq_true (p := r'1.2 = r'2.2) h4) rfl (PureD.opD (u_lda rfl rfl Tryd.underlying30 rfl in_30 rfl (Nat.succ_pos _) (Sub.refl _) (GStream.len r'2.1))) ?_
      refine r_on rfl rfl rfl rfl (decide_eq_true (p := r'1.2 = r'2.2) h4) rfl (PureD.opD (p_eqa (a := r'1.1) (b := r'2.1) rfl eq_30 rfl (by kernel_rfl) rfl rfl)) ?_
      refine r_op rfl rfl (PureD.opD (p_pkt rfl rfl (decide_eq_true (p := r'1.2 = r'2.2) h4) (.same _))) ?_
      refine r_op rfl rfl (PureD.opD (p_move rfl rfl)) ?_
      refine (Classical.em (r'1.1 = r'2.1)).elim (fun h5 => ?_) (fun h5 => ?_)
      · replace H := ite_then h5 H
        refine bindK H fun r'4 h6 H => ?_
        refine r_on rfl rfl rfl rfl (decide_eq_true (p := r'1.1 = r'2.1) h5) rfl (PureD.opD (p_callp rfl rfl rfl Tryd.func16 rfl rfl (g_sum_Begin_ac h6) trivial)) ?_
        refine bindK H fun r'5 h7 H => ?_
        refine r_on rfl rfl rfl rfl (decide_eq_true (p := r'1.1 = r'2.1) h5) rfl (PureD.opD (p_callp rfl rfl rfl Tryd.func17 rfl rfl (g_ref_Begun_ac h7) trivial)) ?_
        refine r_on rfl rfl rfl rfl (decide_eq_true (p := r'1.1 = r'2.1) h5) rfl (PureD.opD (p_eqa (a := r'4) (b := r'5) rfl eq_30 rfl (by kernel_rfl) rfl rfl)) ?_
        refine r_op rfl rfl (PureD.opD (p_pkt rfl rfl (decide_eq_true (p := r'1.1 = r'2.1) h5) (.same _))) ?_
        refine r_op rfl rfl (PureD.opD (p_asg rfl rfl)) ?_
        refine RunW_st [(4, .c (.p (.bool (decide (r'4 = r'5)))))] [] rfl ⟨TLes.same _, trivial⟩ trivial ?_
        have hz := some_elim H
        subst hz
        exact RunW_nil rfl
      · replace H := ite_else h5 H
        refine r_off rfl rfl rfl rfl (decide_eq_false (p := r'1.1 = r'2.1) h5) rfl rfl ?_
        refine r_off rfl rfl rfl rfl (decide_eq_false (p := r'1.1 = r'2.1) h5) rfl rfl ?_
        refine r_off rfl rfl rfl rfl (decide_eq_false (p := r'1.1 = r'2.1) h5) rfl rfl ?_
        refine r_op rfl rfl (PureD.opD (p_pkf rfl rfl (decide_eq_false (p := r'1.1 = r'2.1) h5) (.same _))) ?_
        refine r_op rfl rfl (PureD.opD (p_asg rfl rfl)) ?_
        refine RunW_st [(4, .c (.p (AV.bool false)))] [] rfl ⟨TLes.same _, trivial⟩ trivial ?_
        have hz := some_elim H
        subst hz
        exact RunW_nil rfl
    · replace H := ite_else h4 H
      refine r_off rfl rfl rfl rfl (decide_eq_false (p := r'1.2 = r'2.2) h4) rfl rfl ?_
      refine r_off rfl rfl rfl rfl (decide_eq_false (p := r'1.2 = r'2.2) h4) rfl rfl ?_
      refine r_off rfl rfl rfl rfl (decide_eq_false (p := r'1.2 = r'2.2) h4) rfl rfl ?_
      refine r_op rfl rfl (PureD.opD (p_pkf rfl rfl (decide_eq_false (p := r'1.2 = r'2.2) h4) (.same _))) ?_
      refine r_op rfl rfl (PureD.opD (p_move rfl rfl)) ?_
      refine r_off rfl rfl rfl rfl (bfalse (by decide)) rfl rfl ?_
      refine r_off rfl rfl rfl rfl (bfalse (by decide)) rfl rfl ?_
      refine r_off rfl rfl rfl rfl (bfalse (by decide)) rfl rfl ?_
      refine r_op rfl rfl (PureD.opD (p_pkf rfl rfl (bfalse (by decide)) (.same _))) ?_
      refine r_op rfl rfl (PureD.opD (p_asg rfl rfl)) ?_
      refine RunW_st [(4, .c (.p (AV.bool false)))] [] rfl ⟨TLes.same _, trivial⟩ trivial ?_
      have hz := some_elim H
      subst hz
      exact RunW_nil rfl
  · refine AW2_ret ?_
    have hz := some_elim H
    subst hz
    exact ⟨⟨res_tmp (.same _), trivial⟩, trivial⟩

/-! sum.End -/
noncomputable def g_sum_End (s0 : GStream) : Option ((Vector UInt8 32) × Int) :=
  (g_sum_check s0).bind fun r'1 => (if r'1 ≠ (0 : Int) then some ((Vector.replicate 32 (0 : UInt8)), r'1) else (g_sum_end s0).bind fun r'2 => some (r'2, (0 : Int)))
set_option maxHeartbeats 4000000 in
set_option maxRecDepth 100000 in
theorem g_sum_End_ac {s0 : GStream} {r : (Vector UInt8 32) × Int} (H : g_sum_End s0 = some r) : ACp Tryd.prog 18 [(.agg (GStream.cs s0))] (.tup [(.agg (bcells r.1.toList)), (AV.int r.2)]) := by
  refine ACp_of (AC2_of_body (vs := [.c (.p (.agg (bcells r.1.toList))), .c (.p (AV.int r.2))]) Tryd.func18 rfl rfl (Nat.le_of_ble_eq_true rfl) rfl ?_) (fun _ => .same _)
  unfold g_sum_End at H
  refine AW2_st [(0, .c (.p (.agg (GStream.cs s0))))] [] rfl ⟨TLes.same _, trivial⟩ trivial ?_
  refine AW2_seq ?_
  refine AW2_reg [0, 1, 2] rfl ?_
  refine r_op rfl rfl (MakeD.opD (n_box 1 rfl rfl) rfl rfl rfl rfl) ?_
  refine r_op rfl rfl (MakeD.opD (u_alloc 2 rfl in_23 one_23 zc_23) rfl rfl rfl rfl) ?_
  refine r_op rfl rfl (PureD.opD (p_asg rfl rfl)) ?_
  refine RunW_st [(1, .c (.ptr 1 (0))), (2, .c (.ptr 2 (0)))] [(1, .pure (GStream.cs s0)), (2, .pure (bcells ((Vector.replicate 32 (0 : UInt8)).toList)))] rfl ⟨TLes.same _, TLes.same _, trivial⟩ ⟨rfl, rfl, trivial⟩ ?_
  refine RunW_nil ?_
  refine AW2_seq ?_
  refine AW2_seq ?_
  refine AW2_reg [0, 1, 2] rfl ?_
  refine r_op rfl rfl (PureD.opD (u_lda rfl rfl Tryd.underlying30 rfl in_30 rfl (Nat.succ_pos _) (Sub.refl _) (GStream.len s0))) ?_
  refine bindK H fun r'1 h1 H => ?_
  refine r_op rfl rfl (PureD.opD (p_callp rfl rfl rfl Tryd.func36 rfl rfl (g_sum_check_ac h1) ⟨rfl, trivial⟩)) ?_
  refine r_op rfl rfl (PureD.opD (p_asg rfl rfl)) ?_
  refine RunW_st [(1, .c (.ptr 1 (0))), (2, .c (.ptr 2 (0))), (4, .c (.p (AV.int r'1)))] [(1, .pure (GStream.cs s0)), (2, .pure (bcells ((Vector.replicate 32 (0 : UInt8)).toList)))] rfl ⟨TLes.same _, TLes.same _, TLes.same _, trivial⟩ ⟨rfl, rfl, trivial⟩ ?_
  refine RunW_nil ?_
  refine AW2_seq ?_
  refine AW2_reg [0, 1] rfl ?_
  refine r_op rfl rfl (PureD.opD (p_move rfl rfl)) ?_
  refine r_op rfl rfl (PureD.opD (p_ine rfl rfl rfl)) ?_
  refine RunW_st [(1, .c (.ptr 1 (0))), (2, .c (.ptr 2 (0))), (4, .c (.p (AV.int r'1))), (8, .c (.p (.bool (decide (r'1 ≠ (0 : Int))))))] [(1, .pure (GStream.cs s0)), (2, .pure (bcells ((Vector.replicate 32 (0 : UInt8)).toList)))] rfl ⟨TLes.same _, TLes.same _, TLes.same _, TLes.same _, trivial⟩ ⟨rfl, rfl, trivial⟩ ?_
  refine RunW_nil ?_
  refine AW2_if (p := r'1 ≠ (0 : Int)) rfl (fun h2 => ?_) (fun h2 => ?_)
  · replace H := ite_then h2 H
    refine AW2_seq ?_
    refine AW2_reg [0, 1, 2, 3] rfl ?_
    refine r_op rfl rfl (PureD.opD (u_blda rfl in_23 one_23 zc_23 Tryd.underlying23 in_5 rfl rfl)) ?_
    refine r_op rfl rfl (PureD.opD (p_move rfl rfl)) ?_
    refine r_op rfl rfl (u_st rfl rfl rfl rfl rfl in_23 ((bcells_length _).trans (vlen (Vector.replicate 32 (0 : UInt8)))) (ne_of_lt (n := 0) (Nat.lt_of_lt_of_eq (by decide) (Eq.symm ((bcells_length _).trans (vlen (Vector.replicate 32 (0 : UInt8))))))) (Upd.refl (((bcells_length _).trans (vlen (Vector.replicate 32 (0 : UInt8)))).trans ((bcells_length _).trans (vlen (Vector.replicate 32 (0 : UInt8)))).symm))) ?_
    refine r_op rfl rfl (PureD.opD (p_asg rfl rfl)) ?_
    refine RunW_st [(2, .c (.ptr 2 (0))), (3, .c (.p (AV.int r'1)))] [(2, .pure (bcells ((Vector.replicate 32 (0 : UInt8)).toList)))] rfl ⟨TLes.same _, TLes.same _, trivial⟩ ⟨rfl, trivial⟩ ?_
    refine RunW_nil ?_
    refine AW2_ret ?_
    have hz := some_elim H
    subst hz
    exact ⟨⟨res_cella Tryd.underlying23 rfl in_23.sz rfl (Sub.le (Sub.refl _) ((bcells_length _).trans (vlen (Vector.replicate 32 (0 : UInt8))))) (by decide) (Sub.take (Sub.refl _) ((bcells_length _).trans (vlen (Vector.replicate 32 (0 : UInt8))))), res_tmp (.same _), trivial⟩, trivial⟩
  · replace H := ite_else h2 H
    refine AW2_st [(1, .c (.ptr 1 (0))), (2, .c (.ptr 2 (0)))] [(1, .pure (GStream.cs s0)), (2, .pure (bcells ((Vector.replicate 32 (0 : UInt8)).toList)))] rfl ⟨TLes.same _, TLes.same _, trivial⟩ ⟨rfl, rfl, trivial⟩ ?_
    refine AW2_skip ?_
    refine AW2_seq ?_
    refine AW2_reg [0, 1, 2, 3] rfl ?_
    refine r_op rfl rfl (PureD.opD (u_lda rfl rfl Tryd.underlying30 rfl in_30 rfl (Nat.succ_pos _) (Sub.refl _) (GStream.len s0))) ?_
    refine bindK H fun r'2 h3 H => ?_
    refine r_op rfl rfl (PureD.opD (p_callp rfl rfl rfl Tryd.func33 rfl rfl (g_sum_end_ac h3) ⟨rfl, trivial⟩)) ?_
    refine r_op rfl rfl (u_st rfl rfl rfl rfl rfl in_23 ((bcells_length _).trans (vlen r'2)) (ne_of_lt (n := 0) (Nat.lt_of_lt_of_eq (by decide) (Eq.symm ((bcells_length _).trans (vlen (Vector.replicate 32 (0 : UInt8))))))) (Upd.refl (((bcells_length _).trans (vlen r'2)).trans ((bcells_length _).trans (vlen (Vector.replicate 32 (0 : UInt8)))).symm))) ?_
    refine r_op rfl rfl (PureD.opD (p_asg rfl rfl)) ?_
    refine RunW_st [(2, .c (.ptr 2 (0))), (3, .c (.p (AV.int (0 : Int))))] [(2, .pure (bcells r'2.toList))] rfl ⟨TLes.same _, TLes.same _, trivial⟩ ⟨rfl, trivial⟩ ?_
    refine RunW_nil ?_
    refine AW2_ret ?_
    have hz := some_elim H
    subst hz
    exact ⟨⟨res_cella Tryd.underlying23 rfl in_23.sz rfl (Sub.le (Sub.refl _) ((bcells_length _).trans (vlen r'2))) (by decide) (Sub.take (Sub.refl _) ((bcells_length _).trans (vlen r'2))), res_tmp (.same _), trivial⟩, trivial⟩

/-! chirographref.Ended -/
noncomputable def g_ref_Ended (s0 : GStream) : Option ((Vector UInt8 32) × Int) :=
  (g_ref_badStream s0).bind fun r'1 => (if r'1 = true then some ((Vector.replicate 32 (0 : UInt8)), (11 : Int)) else (g_ref_ended s0).bind fun r'2 => some (r'2, (0 : Int)))
set_option maxHeartbeats 4000000 in
set_option maxRecDepth 100000 in
theorem g_ref_Ended_ac {s0 : GStream} {r : (Vector UInt8 32) × Int} (H : g_ref_Ended s0 = some r) : ACp Tryd.prog 19 [(.agg (GStream.cs s0))] (.tup [(.agg (bcells r.1.toList)), (AV.int r.2)]) := by
  refine ACp_of (AC2_of_body (vs := [.c (.p (.agg (bcells r.1.toList))), .c (.p (AV.int r.2))]) Tryd.func19 rfl rfl (Nat.le_of_ble_eq_true rfl) rfl ?_) (fun _ => .same _)
  unfold g_ref_Ended at H
  refine AW2_st [(0, .c (.p (.agg (GStream.cs s0))))] [] rfl ⟨TLes.same _, trivial⟩ trivial ?_
  refine AW2_seq ?_
  refine AW2_reg [0, 1, 2] rfl ?_
  refine r_op rfl rfl (MakeD.opD (n_box 1 rfl rfl) rfl rfl rfl rfl) ?_
  refine r_op rfl rfl (MakeD.opD (u_alloc 2 rfl in_23 one_23 zc_23) rfl rfl rfl rfl) ?_
  refine r_op rfl rfl (PureD.opD (p_asg rfl rfl)) ?_
  refine RunW_st [(1, .c (.ptr 1 (0))), (2, .c (.ptr 2 (0)))] [(1, .pure (GStream.cs s0)), (2, .pure (bcells ((Vector.replicate 32 (0 : UInt8)).toList)))] rfl ⟨TLes.same _, TLes.same _, trivial⟩ ⟨rfl, rfl, trivial⟩ ?_
  refine RunW_nil ?_
  refine AW2_seq ?_
  refine AW2_seq ?_
  refine AW2_reg [0, 1] rfl ?_
  refine r_op rfl rfl (PureD.opD (u_lda rfl rfl Tryd.underlying30 rfl in_30 rfl (Nat.succ_pos _) (Sub.refl _) (GStream.len s0))) ?_
  refine bindK H fun r'1 h1 H => ?_
  refine r_op rfl rfl (PureD.opD (p_callp rfl rfl rfl Tryd.func37 rfl rfl (g_ref_badStream_ac h1) ⟨rfl, trivial⟩)) ?_
  refine RunW_st [(1, .c (.ptr 1 (0))), (2, .c (.ptr 2 (0))), (5, .c (.p (AV.bool r'1)))] [(1, .pure (GStream.cs s0)), (2, .pure (bcells ((Vector.replicate 32 (0 : UInt8)).toList)))] rfl ⟨TLes.same _, TLes.same _, TLes.same _, trivial⟩ ⟨rfl, rfl, trivial⟩ ?_
  refine RunW_nil ?_
  refine AW2_cond rfl (fun h2 => ?_) (fun h2 => ?_)
  · replace H := ite_then h2 H
    refine AW2_seq ?_
    refine AW2_reg [0, 1, 2] rfl ?_
    refine r_op rfl rfl (PureD.opD (u_blda rfl in_23 one_23 zc_23 Tryd.underlying23 in_5 rfl rfl)) ?_
    refine r_op rfl rfl (u_st rfl rfl rfl rfl rfl in_23 ((bcells_length _).trans (vlen (Vector.replicate 32 (0 : UInt8)))) (ne_of_lt (n := 0) (Nat.lt_of_lt_of_eq (by decide) (Eq.symm ((bcells_length _).trans (vlen (Vector.replicate 32 (0 : UInt8))))))) (Upd.refl (((bcells_length _).trans (vlen (Vector.replicate 32 (0 : UInt8)))).trans ((bcells_length _).trans (vlen (Vector.replicate 32 (0 : UInt8)))).symm))) ?_
    refine r_op rfl rfl (PureD.opD (p_asg rfl rfl)) ?_
    refine RunW_st [(2, .c (.ptr 2 (0))), (3, .c (.p (AV.int (11 : Int))))] [(2, .pure (bcells ((Vector.replicate 32 (0 : UInt8)).toList)))] rfl ⟨TLes.same _, TLes.same _, trivial⟩ ⟨rfl, trivial⟩ ?_
    refine RunW_nil ?_
    refine AW2_ret ?_
    have hz := some_elim H
    subst hz
    exact ⟨⟨res_cella Tryd.underlying23 rfl in_23.sz rfl (Sub.le (Sub.refl _) ((bcells_length _).trans (vlen (Vector.replicate 32 (0 : UInt8))))) (by decide) (Sub.take (Sub.refl _) ((bcells_length _).trans (vlen (Vector.replicate 32 (0 : UInt8))))), res_tmp (.same _), trivial⟩, trivial⟩
  · replace H := ite_else (ne_true h2) H
    refine AW2_st [(1, .c (.ptr 1 (0))), (2, .c (.ptr 2 (0)))] [(1, .pure (GStream.cs s0)), (2, .pure (bcells ((Vector.replicate 32 (0 : UInt8)).toList)))] rfl ⟨TLes.same _, TLes.same _, trivial⟩ ⟨rfl, rfl, trivial⟩ ?_
    refine AW2_skip ?_
    refine AW2_seq ?_
    refine AW2_reg [0, 1, 2, 3] rfl ?_
    refine r_op rfl rfl (PureD.opD (u_lda rfl rfl Tryd.underlying30 rfl in_30 rfl (Nat.succ_pos _) (Sub.refl _) (GStream.len s0))) ?_
    refine bindK H fun r'2 h3 H => ?_
    refine r_op rfl rfl (PureD.opD (p_callp rfl rfl rfl Tryd.func35 rfl rfl (g_ref_ended_ac h3) ⟨rfl, trivial⟩)) ?_
    refine r_op rfl rfl (u_st rfl rfl rfl rfl rfl in_23 ((bcells_length _).trans (vlen r'2)) (ne_of_lt (n := 0) (Nat.lt_of_lt_of_eq (by decide) (Eq.symm ((bcells_length _).trans (vlen (Vector.replicate 32 (0 : UInt8))))))) (Upd.refl (((bcells_length _).trans (vlen r'2)).trans ((bcells_length _).trans (vlen (Vector.replicate 32 (0 : UInt8)))).symm))) ?_
    refine r_op rfl rfl (PureD.opD (p_asg rfl rfl)) ?_
    refine RunW_st [(2, .c (.ptr 2 (0))), (3, .c (.p (AV.int (0 : Int))))] [(2, .pure (bcells r'2.toList))] rfl ⟨TLes.same _, TLes.same _, trivial⟩ ⟨rfl, trivial⟩ ?_
    refine RunW_nil ?_
    refine AW2_ret ?_
    have hz := some_elim H
    subst hz
    exact ⟨⟨res_cella Tryd.underlying23 rfl in_23.sz rfl (Sub.le (Sub.refl _) ((bcells_length _).trans (vlen r'2))) (by decide) (Sub.take (Sub.refl _) ((bcells_length _).trans (vlen r'2))), res_tmp (.same _), trivial⟩, trivial⟩

/-! chirographlaw.SumEnds -/
noncomputable def g_law_SumEnds (s0 : GStream) : Option (Bool) :=
  (g_sum_End s0).bind fun r'1 => (g_ref_Ended s0).bind fun r'2 => some (decide ((r'1.2 = r'2.2) ∧ (r'1.1 = r'2.1)))
set_option maxHeartbeats 4000000 in
set_option maxRecDepth 100000 in
theorem g_law_SumEnds_ac {s0 : GStream} {r : Bool} (H : g_law_SumEnds s0 = some r) : ACp Tryd.prog 5 [(.agg (GStream.cs s0))] (AV.bool r) := by
  refine ACp_of (AC2_of_body (vs := [.c (.p (AV.bool r))]) Tryd.func5 rfl rfl (Nat.le_of_ble_eq_true rfl) rfl ?_) (fun _ => .same _)
  unfold g_law_SumEnds at H
  refine AW2_st [(0, .c (.p (.agg (GStream.cs s0))))] [] rfl ⟨TLes.same _, trivial⟩ trivial ?_
  refine AW2_seq ?_
  refine AW2_reg [0, 1] rfl ?_
  refine r_op rfl rfl (MakeD.opD (n_box 1 rfl rfl) rfl rfl rfl rfl) ?_
  refine r_op rfl rfl (PureD.opD (p_asg rfl rfl)) ?_
  refine RunW_st [(1, .c (.ptr 1 (0)))] [(1, .pure (GStream.cs s0))] rfl ⟨TLes.same _, trivial⟩ ⟨rfl, trivial⟩ ?_
  refine RunW_nil ?_
  refine AW2_seq ?_
  refine AW2_reg [0, 1, 2, 3, 4, 5, 6, 7] rfl ?_
  refine r_op rfl rfl (PureD.opD (u_lda rfl rfl Tryd.underlying30 rfl in_30 rfl (Nat.succ_pos _) (Sub.refl _) (GStream.len s0))) ?_
  refine bindK H fun r'1 h1 H => ?_
  refine r_op rfl rfl (PureD.opD (p_callp rfl rfl rfl Tryd.func18 rfl rfl (g_sum_End_ac h1) ⟨rfl, trivial⟩)) ?_
  refine r_op rfl rfl (PureD.opD (p_move rfl rfl)) ?_
  refine r_op rfl rfl (PureD.opD (p_ext rfl rfl rfl rfl)) ?_
  refine r_op rfl rfl (PureD.opD (p_ext rfl rfl rfl rfl)) ?_
  refine r_op rfl rfl (MakeD.opD (u_alloc 3 rfl in_23 one_23 zc_23) rfl rfl rfl rfl) ?_
  refine r_op rfl rfl (u_st rfl rfl rfl rfl rfl in_23 ((bcells_length _).trans (vlen r'1.1)) (ne_of_lt (n := 0) (Nat.lt_of_lt_of_eq (by decide) (Eq.symm ((bcells_length _).trans (vlen (Vector.replicate 32 (0 : UInt8))))))) (Upd.refl (((bcells_length _).trans (vlen r'1.1)).trans ((bcells_length _).trans (vlen (Vector.replicate 32 (0 : UInt8)))).symm))) ?_
  refine r_op rfl rfl (PureD.opD (p_asg rfl rfl)) ?_
  refine RunW_st [(1, .c (.ptr 1 (0))), (3, .c (.ptr 3 (0))), (4, .c (.p (AV.int r'1.2)))] [(1, .pure (GStream.cs s0)), (3, .pure (bcells r'1.1.toList))] rfl ⟨TLes.same _, TLes.same _, TLes.same _, trivial⟩ ⟨rfl, rfl, trivial⟩ ?_
  refine RunW_nil ?_
  refine AW2_seq ?_
  refine AW2_reg [0, 1, 2, 3, 4, 5, 6, 7] rfl ?_
  refine r_op rfl rfl (PureD.opD (u_lda rfl rfl Tryd.underlying30 rfl in_30 rfl (Nat.succ_pos _) (Sub.refl _) (GStream.len s0))) ?_
  refine bindK H fun r'2 h2 H => ?_
  refine r_op rfl rfl (PureD.opD (p_callp rfl rfl rfl Tryd.func19 rfl rfl (g_ref_Ended_ac h2) ⟨rfl, trivial⟩)) ?_
  refine r_op rfl rfl (PureD.opD (p_move rfl rfl)) ?_
  refine r_op rfl rfl (PureD.opD (p_ext rfl rfl rfl rfl)) ?_
  refine r_op rfl rfl (PureD.opD (p_ext rfl rfl rfl rfl)) ?_
  refine r_op rfl rfl (MakeD.opD (u_alloc 5 rfl in_23 one_23 zc_23) rfl rfl rfl rfl) ?_
  refine r_op rfl rfl (u_st rfl rfl rfl rfl rfl in_23 ((bcells_length _).trans (vlen r'2.1)) (ne_of_lt (n := 0) (Nat.lt_of_lt_of_eq (by decide) (Eq.symm ((bcells_length _).trans (vlen (Vector.replicate 32 (0 : UInt8))))))) (Upd.refl (((bcells_length _).trans (vlen r'2.1)).trans ((bcells_length _).trans (vlen (Vector.replicate 32 (0 : UInt8)))).symm))) ?_
  refine r_op rfl rfl (PureD.opD (p_asg rfl rfl)) ?_
  refine RunW_st [(3, .c (.ptr 3 (0))), (4, .c (.p (AV.int r'1.2))), (5, .c (.ptr 5 (0))), (6, .c (.p (AV.int r'2.2)))] [(3, .pure (bcells r'1.1.toList)), (5, .pure (bcells r'2.1.toList))] rfl ⟨TLes.same _, TLes.same _, TLes.same _, TLes.same _, trivial⟩ ⟨rfl, rfl, trivial⟩ ?_
  refine RunW_nil ?_
  refine AW2_seq ?_
  refine AW2_mid (⟨[(2, .c (.p (.bool (decide ((r'1.2 = r'2.2) ∧ (r'1.1 = r'2.1))))))], [], 25⟩ : TS) ?_ ?_
  · refine AW2_reg [0, 1, 2, 3, 4, 5, 6, 7, 8] rfl ?_
    refine r_op rfl rfl (PureD.opD (p_move rfl rfl)) ?_
    refine r_op rfl rfl (PureD.opD (p_move rfl rfl)) ?_
    refine r_op rfl rfl (PureD.opD (p_ieq rfl rfl rfl)) ?_
    refine r_op rfl rfl (PureD.opD (p_move rfl rfl)) ?_
    refine (Classical.em (r'1.2 = r'2.2)).elim (fun h3 => ?_) (fun h3 => ?_)
    · refine r_on rfl rfl rfl rfl (decide_eq_true (p := r'1.2 = r'2.2) h3) rfl (PureD.opD (u_lda rfl rfl Tryd.underlying23 rfl in_23 rfl (Nat.succ_pos _) (Sub.refl _) ((bcells_length _).trans (vlen r'1.1)))) ?_
      refine r_on rfl rfl rfl rfl (decide_eq_true (p := r'1.2 = r'2.2) h3) rfl (PureD.opD (u_lda rfl rfl Tryd.underlying23 rfl in_23 rfl (Nat.succ_pos _) (Sub.refl _) ((bcells_length _).trans (vlen r'2.1)))) ?_
      refine r_on rfl rfl rfl rfl (decide_eq_true (p := r'1.2 = r'2.2) h3) rfl (PureD.opD (p_eqa (a := r'1.1) (b := r'2.1) rfl eq_23 rfl (by kernel_rfl) rfl rfl)) ?_
      refine r_op rfl rfl (PureD.opD (p_pkt rfl rfl (decide_eq_true (p := r'1.2 = r'2.2) h3) (tb ((and_l (p := r'1.2 = r'2.2) (q := r'1.1 = r'2.1) h3))))) ?_
      refine r_op rfl rfl (PureD.opD (p_asg rfl rfl)) ?_
      refine RunW_st [(2, .c (.p (.bool (decide ((r'1.2 = r'2.2) ∧ (r'1.1 = r'2.1))))))] [] rfl ⟨TLes.same _, trivial⟩ trivial ?_
      exact RunW_nil rfl
    · refine r_off rfl rfl rfl rfl (decide_eq_false (p := r'1.2 = r'2.2) h3) rfl rfl ?_
      refine r_off rfl rfl rfl rfl (decide_eq_false (p := r'1.2 = r'2.2) h3) rfl rfl ?_
      refine r_off rfl rfl rfl rfl (decide_eq_false (p := r'1.2 = r'2.2) h3) rfl rfl ?_
      refine r_op rfl rfl (PureD.opD (p_pkf rfl rfl (decide_eq_false (p := r'1.2 = r'2.2) h3) (tb (decide_eq_false (p := (r'1.2 = r'2.2) ∧ (r'1.1 = r'2.1)) (fun x => h3 x.1)).symm))) ?_
      refine r_op rfl rfl (PureD.opD (p_asg rfl rfl)) ?_
      refine RunW_st [(2, .c (.p (.bool (decide ((r'1.2 = r'2.2) ∧ (r'1.1 = r'2.1))))))] [] rfl ⟨TLes.same _, trivial⟩ trivial ?_
      exact RunW_nil rfl
  · refine AW2_ret ?_
    have hz := some_elim H
    subst hz
    exact ⟨⟨res_tmp (.same _), trivial⟩, trivial⟩

/-! sum.Mac -/
noncomputable def g_sum_Mac_l0 (j'1 : (Vector UInt8 64)) : Int × (Vector UInt8 64) × (Vector UInt8 64) → Option ((Int × (Vector UInt8 64) × (Vector UInt8 64)) ⊕ (((Vector UInt8 64) × (Vector UInt8 64))))
  | (t22_0, in7_0, out8_0) => (if t22_0 < (64 : Int) then if 0 ≤ t22_0 ∧ t22_0 < (64 : Int) then if 0 ≤ t22_0 ∧ t22_0 < (64 : Int) then if 0 ≤ t22_0 ∧ t22_0 < (64 : Int) then if 0 ≤ t22_0 ∧ t22_0 < (64 : Int) then some (.inl (w64 (t22_0 + (1 : Int)), (vwr in7_0 t22_0.toNat ((vrd j'1 t22_0.toNat) ^^^ (54 : UInt8))), (vwr out8_0 t22_0.toNat ((vrd j'1 t22_0.toNat) ^^^ (92 : UInt8))))) else none else none else none else none else some (.inr (in7_0, out8_0)))
noncomputable def g_sum_Mac (key0 : List UInt8) (b1 : List UInt8) : Option ((Vector UInt8 32)) :=
  ((if (key0.length : Int) > (64 : Int) then (g_sum_Sum key0).bind fun r'2 => some (vcopy (Vector.replicate 64 (0 : UInt8)) r'2.toList) else some (vcopy (Vector.replicate 64 (0 : UInt8)) key0))).bind fun j'1 => (loopO (g_sum_Mac_l0 j'1) ((0 : Int), (Vector.replicate 64 (0 : UInt8)), (Vector.replicate 64 (0 : UInt8)))).bind fun y'6 => (g_sum_Begin).bind fun r'7 => (g_sum_feed r'7 y'6.1.toList).bind fun r'8 => (g_sum_feed r'8 b1).bind fun r'9 => (g_sum_end r'9).bind fun r'10 => (g_sum_Begin).bind fun r'11 => (g_sum_feed r'11 y'6.2.toList).bind fun r'12 => (g_sum_feed r'12 r'10.toList).bind fun r'13 => (g_sum_end r'13).bind fun r'14 => some r'14
set_option maxHeartbeats 4000000 in
set_option maxRecDepth 100000 in
theorem g_sum_Mac_ac {key0 : List UInt8} {b1 : List UInt8} {r : (Vector UInt8 32)} (H : g_sum_Mac key0 b1 = some r) : ACp Tryd.prog 20 [(AV.bytes key0), (AV.bytes b1)] (.agg (bcells r.toList)) := by
  refine ACp_of (AC2_of_body (vs := [.c (.p (.agg (bcells r.toList)))]) Tryd.func20 rfl rfl (Nat.le_of_ble_eq_true rfl) rfl ?_) (fun _ => .same _)
  unfold g_sum_Mac at H
  refine AW2_st [(0, .c (.p (AV.bytes key0))), (1, .c (.p (AV.bytes b1)))] [] rfl ⟨TLes.same _, TLes.same _, trivial⟩ trivial ?_
  refine AW2_seq ?_
  refine AW2_reg [0] rfl ?_
  refine r_op rfl rfl (MakeD.opD (u_alloc 4 rfl in_23 one_23 zc_23) rfl rfl rfl rfl) ?_
  refine RunW_st [(0, .c (.p (AV.bytes key0))), (1, .c (.p (AV.bytes b1))), (4, .c (.ptr 4 (0)))] [(4, .pure (bcells ((Vector.replicate 32 (0 : UInt8)).toList)))] rfl ⟨TLes.same _, TLes.same _, TLes.same _, trivial⟩ ⟨rfl, trivial⟩ ?_
  refine RunW_nil ?_
  refine AW2_seq ?_
  refine AW2_reg [0] rfl ?_
  refine r_op rfl rfl (MakeD.opD (u_alloc 5 rfl in_28 one_28 zc_28) rfl rfl rfl rfl) ?_
  refine RunW_st [(0, .c (.p (AV.bytes key0))), (1, .c (.p (AV.bytes b1))), (4, .c (.ptr 4 (0))), (5, .c (.ptr 5 (0)))] [(4, .pure (bcells ((Vector.replicate 32 (0 : UInt8)).toList))), (5, .pure (bcells ((Vector.replicate 64 (0 : UInt8)).toList)))] rfl ⟨TLes.same _, TLes.same _, TLes.same _, TLes.same _, trivial⟩ ⟨rfl, rfl, trivial⟩ ?_
  refine RunW_nil ?_
  refine AW2_seq ?_
  refine bindK H fun j'1 h1 H => ?_
  refine AW2_mid (⟨[(1, .c (.p (AV.bytes b1))), (4, .c (.ptr 4 (0))), (5, .c (.ptr 5 (0)))], [(4, .pure (bcells ((Vector.replicate 32 (0 : UInt8)).toList))), (5, .pure (bcells j'1.toList))], 50⟩ : TS) ?_ ?_
  · clear H
    have H := h1
    clear h1
    refine AW2_seq ?_
    refine AW2_reg [0, 1, 2] rfl ?_
    refine r_op rfl rfl (PureD.opD (p_move rfl rfl)) ?_
    refine r_op rfl rfl (PureD.opD (p_lenl rfl Tryd.underlying22 rfl rfl)) ?_
    refine r_op rfl rfl (PureD.opD (p_bin rfl rfl rfl rfl)) ?_
    refine RunW_st [(0, .c (.p (AV.bytes key0))), (1, .c (.p (AV.bytes b1))), (4, .c (.ptr 4 (0))), (5, .c (.ptr 5 (0))), (13, .c (.p (.bool (decide ((key0.length : Int) > (64 : Int))))))] [(4, .pure (bcells ((Vector.replicate 32 (0 : UInt8)).toList))), (5, .pure (bcells ((Vector.replicate 64 (0 : UInt8)).toList)))] rfl ⟨TLes.same _, TLes.same _, TLes.same _, TLes.same _, TLes.same _, trivial⟩ ⟨rfl, rfl, trivial⟩ ?_
    refine RunW_nil ?_
    refine AW2_if (p := (key0.length : Int) > (64 : Int)) rfl (fun h2 => ?_) (fun h2 => ?_)
    · replace H := ite_then h2 H
      refine AW2_seq ?_
      refine AW2_reg [0, 1, 2, 3] rfl ?_
      refine r_op rfl rfl (PureD.opD (p_move rfl rfl)) ?_
      refine bindK H fun r'2 h3 H => ?_
      refine r_op rfl rfl (PureD.opD (p_callp rfl rfl rfl Tryd.func12 rfl rfl (g_sum_Sum_ac h3) ⟨rfl, trivial⟩)) ?_
      refine r_op rfl rfl (MakeD.opD (u_alloc 6 rfl in_23 one_23 zc_23) rfl rfl rfl rfl) ?_
      refine r_op rfl rfl (u_st rfl rfl rfl rfl rfl in_23 ((bcells_length _).trans (vlen r'2)) (ne_of_lt (n := 0) (Nat.lt_of_lt_of_eq (by decide) (Eq.symm ((bcells_length _).trans (vlen (Vector.replicate 32 (0 : UInt8))))))) (Upd.refl (((bcells_length _).trans (vlen r'2)).trans ((bcells_length _).trans (vlen (Vector.replicate 32 (0 : UInt8)))).symm))) ?_
      refine RunW_st [(1, .c (.p (AV.bytes b1))), (4, .c (.ptr 4 (0))), (5, .c (.ptr 5 (0))), (6, .c (.ptr 6 (0)))] [(4, .pure (bcells ((Vector.replicate 32 (0 : UInt8)).toList))), (5, .pure (bcells ((Vector.replicate 64 (0 : UInt8)).toList))), (6, .pure (bcells r'2.toList))] rfl ⟨TLes.same _, TLes.same _, TLes.same _, TLes.same _, trivial⟩ ⟨rfl, rfl, rfl, trivial⟩ ?_
      refine RunW_nil ?_
      refine AW2_ghoQ ?_
      refine AW2_draw 2 [2] (fun k => ([.c (.sl 5 (0 + 0 * 1) 64 1), .c (.sl 6 (0 + 0 * 1) 32 1)] : List TV).getD k TV.any) (fun k => ([[(5, none)], [(6, none)]] : List (List (Nat × Option Nat))).getD k []) [(1, none), (4, none), (5, none), (16, some 0), (17, some 1)] [] (fun k => ([[], [], [0, 1]] : List (List Nat)).getD k []) mixed (by kernel_rfl) rfl rfl (a_op (g_x rfl (x_p rfl (u_cuta rfl rfl Tryd.underlying28 in_5 rfl rfl (ne_of_lt (n := 0) (Nat.lt_of_lt_of_eq (by decide) (Eq.symm ((bcells_length _).trans (vlen (Vector.replicate 64 (0 : UInt8))))))) (Sub.refl _) (((bcells_length _).trans (vlen (Vector.replicate 64 (0 : UInt8)))).trans (by decide))) rfl)) (a_op (g_x rfl (x_p rfl (u_cuta rfl rfl Tryd.underlying23 in_5 rfl rfl (ne_of_lt (n := 0) (Nat.lt_of_lt_of_eq (by decide) (Eq.symm ((bcells_length _).trans (vlen r'2))))) (Sub.refl _) (((bcells_length _).trans (vlen r'2)).trans (by decide))) rfl)) (a_nil))) ?_
      refine t_op rfl rfl (d_copy (k := (min r'2.toList.length 64)) rfl rfl rfl Tryd.underlying22 Tryd.underlying22 in_5 rfl rfl (ne_of_lt (n := 0) (Nat.lt_of_lt_of_eq (by decide) (Eq.symm ((bcells_length _).trans (vlen (Vector.replicate 64 (0 : UInt8))))))) (Nat.le_of_eq (Eq.symm ((bcells_length _).trans (vlen (Vector.replicate 64 (0 : UInt8)))))) (src_sll rfl rfl (ne_of_lt (n := 0) (Nat.lt_of_lt_of_eq (by decide) (Eq.symm ((bcells_length _).trans (vlen r'2))))) (Sub.refl _) (((bcells_length _).trans (vlen r'2)).trans (by decide)) (vlen _)) (bl r'2.toList) rfl (Upd.vcopy rfl)) ?_
      refine t_gho (Gho_st (L := [(1, .c (.p (AV.bytes b1))), (4, .c (.ptr 4 (0))), (5, .c (.ptr 5 (0)))]) (H := [(4, .pure (bcells ((Vector.replicate 32 (0 : UInt8)).toList))), (5, .pure (bcells ((vcopy (Vector.replicate 64 (0 : UInt8)) r'2.toList).toList)))]) rfl ⟨TLes.same _, TLes.same _, TLes.same _, trivial⟩ ⟨rfl, rfl, trivial⟩) ?_
      have hz := some_elim H
      subst hz
      exact rfl
    · replace H := ite_else h2 H
      refine AW2_reg [0, 1, 2] rfl ?_
      refine r_op rfl rfl (PureD.opD (u_cuta rfl rfl Tryd.underlying28 in_5 rfl rfl (ne_of_lt (n := 0) (Nat.lt_of_lt_of_eq (by decide) (Eq.symm ((bcells_length _).trans (vlen (Vector.replicate 64 (0 : UInt8))))))) (Sub.refl _) (((bcells_length _).trans (vlen (Vector.replicate 64 (0 : UInt8)))).trans (by decide)))) ?_
      refine r_op rfl rfl (PureD.opD (p_move rfl rfl)) ?_
      refine r_op rfl rfl (d_copy (k := (min key0.length 64)) rfl rfl rfl Tryd.underlying22 Tryd.underlying22 in_5 rfl rfl (ne_of_lt (n := 0) (Nat.lt_of_lt_of_eq (by decide) (Eq.symm ((bcells_length _).trans (vlen (Vector.replicate 64 (0 : UInt8))))))) (Nat.le_of_eq (Eq.symm ((bcells_length _).trans (vlen (Vector.replicate 64 (0 : UInt8)))))) rfl (bl key0) rfl (Upd.vcopy rfl)) ?_
      refine RunW_st [(1, .c (.p (AV.bytes b1))), (4, .c (.ptr 4 (0))), (5, .c (.ptr 5 (0)))] [(4, .pure (bcells ((Vector.replicate 32 (0 : UInt8)).toList))), (5, .pure (bcells ((vcopy (Vector.replicate 64 (0 : UInt8)) key0).toList)))] rfl ⟨TLes.same _, TLes.same _, TLes.same _, trivial⟩ ⟨rfl, rfl, trivial⟩ ?_
      refine RunW_nil ?_
      have hz := some_elim H
      subst hz
      exact rfl
  · refine AW2_seq ?_
    refine AW2_reg [0, 1] rfl ?_
    refine r_op rfl rfl (MakeD.opD (u_alloc 7 rfl in_28 one_28 zc_28) rfl rfl rfl rfl) ?_
    refine r_op rfl rfl (MakeD.opD (u_alloc 8 rfl in_28 one_28 zc_28) rfl rfl rfl rfl) ?_
    refine RunW_st [(1, .c (.p (AV.bytes b1))), (4, .c (.ptr 4 (0))), (5, .c (.ptr 5 (0))), (7, .c (.ptr 7 (0))), (8, .c (.ptr 8 (0)))] [(4, .pure (bcells ((Vector.replicate 32 (0 : UInt8)).toList))), (5, .pure (bcells j'1.toList)), (7, .pure (bcells ((Vector.replicate 64 (0 : UInt8)).toList))), (8, .pure (bcells ((Vector.replicate 64 (0 : UInt8)).toList)))] rfl ⟨TLes.same _, TLes.same _, TLes.same _, TLes.same _, TLes.same _, trivial⟩ ⟨rfl, rfl, rfl, rfl, trivial⟩ ?_
    refine RunW_nil ?_
    refine AW2_seq ?_
    refine AW2_seq ?_
    refine AW2_reg [0] rfl ?_
    refine r_op rfl rfl (PureD.opD (p_move rfl rfl)) ?_
    refine RunW_st [(1, .c (.p (AV.bytes b1))), (4, .c (.ptr 4 (0))), (5, .c (.ptr 5 (0))), (7, .c (.ptr 7 (0))), (8, .c (.ptr 8 (0))), (22, .c (.p (AV.int (0 : Int))))] [(4, .pure (bcells ((Vector.replicate 32 (0 : UInt8)).toList))), (5, .pure (bcells j'1.toList)), (7, .pure (bcells ((Vector.replicate 64 (0 : UInt8)).toList))), (8, .pure (bcells ((Vector.replicate 64 (0 : UInt8)).toList)))] rfl ⟨TLes.same _, TLes.same _, TLes.same _, TLes.same _, TLes.same _, TLes.same _, trivial⟩ ⟨rfl, rfl, rfl, rfl, trivial⟩ ?_
    refine RunW_nil ?_
    refine AW2_block ?_
    refine AW2_st [(1, .c (.p (AV.bytes b1))), (4, .c (.ptr 4 (0))), (5, .c (.ptr 5 (0))), (7, .c (.ptr 7 (0))), (8, .c (.ptr 8 (0))), (22, .c (.p (AV.int (0 : Int))))] [(4, .pure (bcells ((Vector.replicate 32 (0 : UInt8)).toList))), (5, .pure (bcells j'1.toList)), (7, .pure (bcells ((Vector.replicate 64 (0 : UInt8)).toList))), (8, .pure (bcells ((Vector.replicate 64 (0 : UInt8)).toList)))] rfl ⟨TLes.same _, TLes.same _, TLes.same _, TLes.same _, TLes.same _, TLes.same _, trivial⟩ ⟨rfl, rfl, rfl, rfl, trivial⟩ ?_
    refine bindK H fun y'6 h9 H => ?_
    refine AW2_loopO (fun a'3 : Int × (Vector UInt8 64) × (Vector UInt8 64) => (⟨[(1, .c (.p (AV.bytes b1))), (4, .c (.ptr 4 (0))), (5, .c (.ptr 5 (0))), (7, .c (.ptr 7 (0))), (8, .c (.ptr 8 (0))), (22, .c (.p (AV.int a'3.1)))], [(4, .pure (bcells ((Vector.replicate 32 (0 : UInt8)).toList))), (5, .pure (bcells j'1.toList)), (7, .pure (bcells a'3.2.1.toList)), (8, .pure (bcells a'3.2.2.toList))], 50⟩ : TS)) (fun (y'4 : ((Vector UInt8 64) × (Vector UInt8 64))) e s' => e = Go.Exit.exit 0 ∧ s' = (⟨[(1, .c (.p (AV.bytes b1))), (4, .c (.ptr 4 (0))), (7, .c (.ptr 7 (0))), (8, .c (.ptr 8 (0)))], [(4, .pure (bcells ((Vector.replicate 32 (0 : UInt8)).toList))), (7, .pure (bcells y'4.1.toList)), (8, .pure (bcells y'4.2.toList))], 50⟩ : TS)) h9 rfl (fun a x hx => ?_) (fun e s' hs => ?_)
    · clear H
      obtain ⟨t22_0, in7_0, out8_0⟩ := a
      have H := hx
      clear hx
      unfold g_sum_Mac_l0 at H
      refine AW2_seq ?_
      refine AW2_reg [0] rfl ?_
      refine r_op rfl rfl (PureD.opD (p_bin rfl rfl rfl rfl)) ?_
      refine RunW_st [(1, .c (.p (AV.bytes b1))), (4, .c (.ptr 4 (0))), (5, .c (.ptr 5 (0))), (7, .c (.ptr 7 (0))), (8, .c (.ptr 8 (0))), (22, .c (.p (AV.int t22_0))), (23, .c (.p (.bool (decide (t22_0 < (64 : Int))))))] [(4, .pure (bcells ((Vector.replicate 32 (0 : UInt8)).toList))), (5, .pure (bcells j'1.toList)), (7, .pure (bcells in7_0.toList)), (8, .pure (bcells out8_0.toList))] rfl ⟨TLes.same _, TLes.same _, TLes.same _, TLes.same _, TLes.same _, TLes.same _, TLes.same _, trivial⟩ ⟨rfl, rfl, rfl, rfl, trivial⟩ ?_
      refine RunW_nil ?_
      refine AW2_seq ?_
      refine AW2_if (p := t22_0 < (64 : Int)) rfl (fun h4 => ?_) (fun h4 => ?_)
      · replace H := ite_then h4 H
        refine AW2_st [(1, .c (.p (AV.bytes b1))), (4, .c (.ptr 4 (0))), (5, .c (.ptr 5 (0))), (7, .c (.ptr 7 (0))), (8, .c (.ptr 8 (0))), (22, .c (.p (AV.int t22_0)))] [(4, .pure (bcells ((Vector.replicate 32 (0 : UInt8)).toList))), (5, .pure (bcells j'1.toList)), (7, .pure (bcells in7_0.toList)), (8, .pure (bcells out8_0.toList))] rfl ⟨TLes.same _, TLes.same _, TLes.same _, TLes.same _, TLes.same _, TLes.same _, trivial⟩ ⟨rfl, rfl, rfl, rfl, trivial⟩ ?_
        refine AW2_skip ?_
        refine AW2_seq ?_
        refine AW2_block ?_
        refine AW2_seq ?_
        refine AW2_reg [0, 1] rfl ?_
        refine r_op rfl rfl (PureD.opD (p_move rfl rfl)) ?_
        refine r_op rfl rfl (PureD.opD (p_asg rfl rfl)) ?_
        refine RunW_st [(1, .c (.p (AV.bytes b1))), (4, .c (.ptr 4 (0))), (5, .c (.ptr 5 (0))), (7, .c (.ptr 7 (0))), (8, .c (.ptr 8 (0))), (9, .c (.p (AV.int t22_0))), (22, .c (.p (AV.int t22_0)))] [(4, .pure (bcells ((Vector.replicate 32 (0 : UInt8)).toList))), (5, .pure (bcells j'1.toList)), (7, .pure (bcells in7_0.toList)), (8, .pure (bcells out8_0.toList))] rfl ⟨TLes.same _, TLes.same _, TLes.same _, TLes.same _, TLes.same _, TLes.same _, TLes.same _, trivial⟩ ⟨rfl, rfl, rfl, rfl, trivial⟩ ?_
        refine RunW_nil ?_
        refine chkK H fun h5 H => ?_
        refine chkK H fun h6 H => ?_
        refine chkK H fun h7 H => ?_
        refine chkK H fun h8 H => ?_
        refine AW2_ghoQ ?_
        refine AW2_drawU 12 [12, 13] (fun k => ([.c (.p (AV.int t22_0)), .c (.p (AV.int t22_0)), .c (.p (AV.int t22_0)), .c (.ptr 5 (0 + t22_0.toNat * 1)), .c (.p (AV.b8 (vrd j'1 t22_0.toNat))), .c (.p (AV.b8 ((vrd j'1 t22_0.toNat) ^^^ (54 : UInt8)))), .c (.p (AV.int t22_0)), .c (.ptr 5 (0 + t22_0.toNat * 1)), .c (.p (AV.b8 (vrd j'1 t22_0.toNat))), .c (.p (AV.b8 ((vrd j'1 t22_0.toNat) ^^^ (92 : UInt8)))), .c (.ptr 7 (0 + t22_0.toNat * 1)), .c (.p (.tup []))] : List TV).getD k TV.any) (fun k => ([[(9, none)], [(9, none)], [(9, none)], [(5, none), (27, some 2)], [(28, some 3)], [(29, some 4)], [(9, none)], [(5, none), (31, some 6)], [(32, some 7)], [(33, some 8)], [(7, none), (25, some 0)], [(30, some 5), (35, some 10)]] : List (List (Nat × Option Nat))).getD k []) [(1, none), (4, none), (5, none), (7, none), (8, none), (22, none), (26, some 1), (34, some 9)] [] [(11, 7, .pure (bcells ((vwr in7_0 t22_0.toNat ((vrd j'1 t22_0.toNat) ^^^ (54 : UInt8))).toList)))] [] (fun k => ([[], [], [], [(5, false)], [(5, false)], [], [], [(5, false)], [(5, false)], [], [(7, false)], [(7, false)]] : List (List (Nat × Bool))).getD k []) (fun k => ([[], [], [], [2], [2, 3], [2, 3, 4], [], [6], [6, 7], [6, 7, 8], [0, 2, 3, 4, 5, 6, 7, 8], [0, 2, 3, 4, 5, 6, 7, 8, 10], [0, 1, 2, 3, 4, 5, 6, 7, 8, 9, 10, 11], [0, 1, 2, 3, 4, 5, 6, 7, 8, 9, 10, 11, 12]] : List (List Nat)).getD k []) mixed (by kernel_rfl) rfl rfl rfl (a_op (gu_x rfl (y_p rfl rfl (p_move rfl rfl) rfl)) (a_op (gu_x rfl (y_p rfl rfl (p_move rfl rfl) rfl)) (a_op (gu_x rfl (y_p rfl rfl (p_move rfl rfl) rfl)) (a_op (gu_x rfl (y_p rfl rfl (u_ixp rfl rfl Tryd.underlying28 in_5 rfl rfl (ne_of_lt (n := 0) (Nat.lt_of_lt_of_eq (by decide) (Eq.symm ((bcells_length _).trans (vlen j'1))))) rfl (ixe h5) (ixn h5)) rfl)) (a_op (gu_x rfl (y_p rfl rfl (u_ld rfl rfl Tryd.underlying5 rfl rfl ((Sub.refl _).trans (Sub.vmap (ixn h5)))) rfl)) (a_op (gu_x rfl (y_p rfl rfl (p_u8xor (a := (vrd j'1 t22_0.toNat)) (b := (54 : UInt8)) rfl rfl rfl) rfl)) (a_op (gu_x rfl (y_p rfl rfl (p_move rfl rfl) rfl)) (a_op (gu_x rfl (y_p rfl rfl (u_ixp rfl rfl Tryd.underlying28 in_5 rfl rfl (ne_of_lt (n := 0) (Nat.lt_of_lt_of_eq (by decide) (Eq.symm ((bcells_length _).trans (vlen j'1))))) rfl (ixe h6) (ixn h6)) rfl)) (a_op (gu_x rfl (y_p rfl rfl (u_ld rfl rfl Tryd.underlying5 rfl rfl ((Sub.refl _).trans (Sub.vmap (ixn h6)))) rfl)) (a_op (gu_x rfl (y_p rfl rfl (p_u8xor (a := (vrd j'1 t22_0.toNat)) (b := (92 : UInt8)) rfl rfl rfl) rfl)) (a_op (gu_x rfl (y_p rfl rfl (u_ixp rfl rfl Tryd.underlying28 in_5 rfl rfl (ne_of_lt (n := 0) (Nat.lt_of_lt_of_eq (by decide) (Eq.symm ((bcells_length _).trans (vlen in7_0))))) rfl (ixe h7) (ixn h7)) rfl)) (a_op (gu_x rfl (y_u rfl rfl rfl rfl (UpdD_st rfl rfl rfl rfl rfl in_5 rfl (ne_of_lt (n := 0) (Nat.lt_of_lt_of_eq (by decide) (Eq.symm ((bcells_length _).trans (vlen in7_0))))) (Upd.trans (Sub.refl _) (Upd.vmap (ixn h7)) (Upd.refl (((bcells_length _).trans (vlen (vwr in7_0 t22_0.toNat ((vrd j'1 t22_0.toNat) ^^^ (54 : UInt8))))).trans ((bcells_length _).trans (vlen in7_0)).symm)))) rfl rfl)) (a_nil))))))))))))) ?_
        refine t_op rfl rfl (PureD.opD (u_ixp rfl rfl Tryd.underlying28 in_5 rfl rfl (ne_of_lt (n := 0) (Nat.lt_of_lt_of_eq (by decide) (Eq.symm ((bcells_length _).trans (vlen out8_0))))) rfl (ixe h8) (ixn h8))) ?_
        refine t_op rfl rfl (u_st rfl rfl rfl rfl rfl in_5 rfl (ne_of_lt (n := 0) (Nat.lt_of_lt_of_eq (by decide) (Eq.symm ((bcells_length _).trans (vlen out8_0))))) (Upd.trans (Sub.refl _) (Upd.vmap (ixn h8)) (Upd.refl (((bcells_length _).trans (vlen (vwr out8_0 t22_0.toNat ((vrd j'1 t22_0.toNat) ^^^ (92 : UInt8))))).trans ((bcells_length _).trans (vlen out8_0)).symm)))) ?_
        refine t_gho (Gho_st (L := [(1, .c (.p (AV.bytes b1))), (4, .c (.ptr 4 (0))), (5, .c (.ptr 5 (0))), (7, .c (.ptr 7 (0))), (8, .c (.ptr 8 (0))), (22, .c (.p (AV.int t22_0)))]) (H := [(4, .pure (bcells ((Vector.replicate 32 (0 : UInt8)).toList))), (5, .pure (bcells j'1.toList)), (7, .pure (bcells ((vwr in7_0 t22_0.toNat ((vrd j'1 t22_0.toNat) ^^^ (54 : UInt8))).toList))), (8, .pure (bcells ((vwr out8_0 t22_0.toNat ((vrd j'1 t22_0.toNat) ^^^ (92 : UInt8))).toList)))]) rfl ⟨TLes.same _, TLes.same _, TLes.same _, TLes.same _, TLes.same _, TLes.same _, trivial⟩ ⟨rfl, rfl, rfl, rfl, trivial⟩) ?_
        refine AW2_reg [0, 1] rfl ?_
        refine r_op rfl rfl (PureD.opD (p_bin rfl rfl rfl rfl)) ?_
        refine r_op rfl rfl (PureD.opD (p_move rfl rfl)) ?_
        refine RunW_st [(1, .c (.p (AV.bytes b1))), (4, .c (.ptr 4 (0))), (5, .c (.ptr 5 (0))), (7, .c (.ptr 7 (0))), (8, .c (.ptr 8 (0))), (22, .c (.p (AV.int (w64 (t22_0 + (1 : Int))))))] [(4, .pure (bcells ((Vector.replicate 32 (0 : UInt8)).toList))), (5, .pure (bcells j'1.toList)), (7, .pure (bcells ((vwr in7_0 t22_0.toNat ((vrd j'1 t22_0.toNat) ^^^ (54 : UInt8))).toList))), (8, .pure (bcells ((vwr out8_0 t22_0.toNat ((vrd j'1 t22_0.toNat) ^^^ (92 : UInt8))).toList)))] rfl ⟨TLes.same _, TLes.same _, TLes.same _, TLes.same _, TLes.same _, TLes.same _, trivial⟩ ⟨rfl, rfl, rfl, rfl, trivial⟩ ?_
        refine RunW_nil ?_
        have hz := some_elim H
        subst hz
        exact ⟨rfl, rfl⟩
      · replace H := ite_else h4 H
        refine AW2_st [(1, .c (.p (AV.bytes b1))), (4, .c (.ptr 4 (0))), (7, .c (.ptr 7 (0))), (8, .c (.ptr 8 (0)))] [(4, .pure (bcells ((Vector.replicate 32 (0 : UInt8)).toList))), (7, .pure (bcells in7_0.toList)), (8, .pure (bcells out8_0.toList))] rfl ⟨TLes.same _, TLes.same _, TLes.same _, TLes.same _, trivial⟩ ⟨rfl, rfl, rfl, trivial⟩ ?_
        refine AW2_exit ?_
        refine thenQ2_exit ?_
        have hz := some_elim H
        subst hz
        exact ⟨rfl, rfl⟩
    · obtain ⟨rfl, rfl⟩ := hs
      refine ⟨by simp, ?_⟩
      refine blockQ2_exit ?_
      refine AW2_seq ?_
      refine bindK H fun r'7 h10 H => ?_
      refine bindK H fun r'8 h11 H => ?_
      refine bindK H fun r'9 h12 H => ?_
      refine bindK H fun r'10 h13 H => ?_
      refine AW2_ghoQ ?_
      refine AW2_draw 7 [7] (fun k => ([.c (.p (.agg (GStream.cs r'7))), .c (.sl 7 (0 + 0 * 1) 64 1), .c (.p (.agg (GStream.cs r'8))), .c (.p (AV.bytes b1)), .c (.p (.agg (GStream.cs r'9))), .c (.p (.agg (bcells r'10.toList))), .c (.ptr 10 (0))] : List TV).getD k TV.any) (fun k => ([[], [(7, none)], [(38, some 0), (39, some 1)], [(1, none)], [(40, some 2), (41, some 3)], [(42, some 4)], []] : List (List (Nat × Option Nat))).getD k []) [(4, none), (8, none), (10, some 6), (43, some 5)] [(6, 10, (bcells ((Vector.replicate 32 (0 : UInt8)).toList)))] (fun k => ([[], [], [0, 1], [], [0, 1, 2, 3], [0, 1, 2, 3, 4], [], [0, 1, 2, 3, 4, 5, 6]] : List (List Nat)).getD k []) mixed (by kernel_rfl) rfl rfl (a_op (g_x rfl (x_p rfl (p_callp rfl rfl rfl Tryd.func16 rfl rfl (g_sum_Begin_ac h10) trivial) rfl)) (a_op (g_x rfl (x_p rfl (u_cuta rfl rfl Tryd.underlying28 in_5 rfl rfl (ne_of_lt (n := 0) (Nat.lt_of_lt_of_eq (by decide) (Eq.symm ((bcells_length _).trans (vlen y'6.1))))) (Sub.refl _) (((bcells_length _).trans (vlen y'6.1)).trans (by decide))) rfl)) (a_op (g_x rfl (x_p rfl (p_calll rfl rfl rfl Tryd.func34 rfl rfl (g_sum_feed_ac h11) (GStream.nl r'8) ⟨lend_p rfl, lend_sll rfl rfl rfl (ne_of_lt (n := 0) (Nat.lt_of_lt_of_eq (by decide) (Eq.symm ((bcells_length _).trans (vlen y'6.1))))) (Sub.refl _) (((bcells_length _).trans (vlen y'6.1)).trans (by decide)) (vlen _), trivial⟩) rfl)) (a_op (g_x rfl (x_p rfl (p_move rfl rfl) rfl)) (a_op (g_x rfl (x_p rfl (p_callp rfl rfl rfl Tryd.func34 rfl rfl (g_sum_feed_ac h12) ⟨rfl, rfl, trivial⟩) rfl)) (a_op (g_x rfl (x_p rfl (p_callp rfl rfl rfl Tryd.func33 rfl rfl (g_sum_end_ac h13) ⟨rfl, trivial⟩) rfl)) (a_op (g_x rfl (x_m rfl (u_alloc 10 rfl in_23 one_23 zc_23) rfl rfl)) (a_nil)))))))) ?_
      refine t_op rfl rfl (u_st rfl rfl rfl rfl rfl in_23 ((bcells_length _).trans (vlen r'10)) (ne_of_lt (n := 0) (Nat.lt_of_lt_of_eq (by decide) (Eq.symm ((bcells_length _).trans (vlen (Vector.replicate 32 (0 : UInt8))))))) (Upd.refl (((bcells_length _).trans (vlen r'10)).trans ((bcells_length _).trans (vlen (Vector.replicate 32 (0 : UInt8)))).symm))) ?_
      refine t_gho (Gho_st (L := [(4, .c (.ptr 4 (0))), (8, .c (.ptr 8 (0))), (10, .c (.ptr 10 (0)))]) (H := [(4, .pure (bcells ((Vector.replicate 32 (0 : UInt8)).toList))), (8, .pure (bcells y'6.2.toList)), (10, .pure (bcells r'10.toList))]) rfl ⟨TLes.same _, TLes.same _, TLes.same _, trivial⟩ ⟨rfl, rfl, rfl, trivial⟩) ?_
      refine AW2_seq ?_
      refine bindK H fun r'11 h14 H => ?_
      refine bindK H fun r'12 h15 H => ?_
      refine bindK H fun r'13 h16 H => ?_
      refine bindK H fun r'14 h17 H => ?_
      refine AW2_ghoQ ?_
      refine AW2_draw 4 [4, 5, 6] (fun k => ([.c (.p (.agg (GStream.cs r'11))), .c (.sl 8 (0 + 0 * 1) 64 1), .c (.p (.agg (GStream.cs r'12))), .c (.sl 10 (0 + 0 * 1) 32 1)] : List TV).getD k TV.any) (fun k => ([[], [(8, none)], [(44, some 0), (45, some 1)], [(10, none)]] : List (List (Nat × Option Nat))).getD k []) [(4, none), (46, some 2), (47, some 3)] [] (fun k => ([[], [], [0, 1], [], [0, 1, 2, 3], [0, 1, 2, 3, 4], [0, 1, 2, 3, 4, 5]] : List (List Nat)).getD k []) mixed (by kernel_rfl) rfl rfl (a_op (g_x rfl (x_p rfl (p_callp rfl rfl rfl Tryd.func16 rfl rfl (g_sum_Begin_ac h14) trivial) rfl)) (a_op (g_x rfl (x_p rfl (u_cuta rfl rfl Tryd.underlying28 in_5 rfl rfl (ne_of_lt (n := 0) (Nat.lt_of_lt_of_eq (by decide) (Eq.symm ((bcells_length _).trans (vlen y'6.2))))) (Sub.refl _) (((bcells_length _).trans (vlen y'6.2)).trans (by decide))) rfl)) (a_op (g_x rfl (x_p rfl (p_calll rfl rfl rfl Tryd.func34 rfl rfl (g_sum_feed_ac h15) (GStream.nl r'12) ⟨lend_p rfl, lend_sll rfl rfl rfl (ne_of_lt (n := 0) (Nat.lt_of_lt_of_eq (by decide) (Eq.symm ((bcells_length _).trans (vlen y'6.2))))) (Sub.refl _) (((bcells_length _).trans (vlen y'6.2)).trans (by decide)) (vlen _), trivial⟩) rfl)) (a_op (g_x rfl (x_p rfl (u_cuta rfl rfl Tryd.underlying23 in_5 rfl rfl (ne_of_lt (n := 0) (Nat.lt_of_lt_of_eq (by decide) (Eq.symm ((bcells_length _).trans (vlen r'10))))) (Sub.refl _) (((bcells_length _).trans (vlen r'10)).trans (by decide))) rfl)) (a_nil))))) ?_
      refine t_op rfl rfl (PureD.opD (p_calll rfl rfl rfl Tryd.func34 rfl rfl (g_sum_feed_ac h16) (GStream.nl r'13) ⟨lend_p rfl, lend_sll rfl rfl rfl (ne_of_lt (n := 0) (Nat.lt_of_lt_of_eq (by decide) (Eq.symm ((bcells_length _).trans (vlen r'10))))) (Sub.refl _) (((bcells_length _).trans (vlen r'10)).trans (by decide)) (vlen _), trivial⟩)) ?_
      refine t_op rfl rfl (PureD.opD (p_callp rfl rfl rfl Tryd.func33 rfl rfl (g_sum_end_ac h17) ⟨rfl, trivial⟩)) ?_
      refine t_op rfl rfl (u_st rfl rfl rfl rfl rfl in_23 ((bcells_length _).trans (vlen r'14)) (ne_of_lt (n := 0) (Nat.lt_of_lt_of_eq (by decide) (Eq.symm ((bcells_length _).trans (vlen (Vector.replicate 32 (0 : UInt8))))))) (Upd.refl (((bcells_length _).trans (vlen r'14)).trans ((bcells_length _).trans (vlen (Vector.replicate 32 (0 : UInt8)))).symm))) ?_
      refine t_gho (Gho_st (L := [(4, .c (.ptr 4 (0)))]) (H := [(4, .pure (bcells r'14.toList))]) rfl ⟨TLes.same _, trivial⟩ ⟨rfl, trivial⟩) ?_
      refine AW2_ret ?_
      have hz := some_elim H
      subst hz
      exact ⟨⟨res_cella Tryd.underlying23 rfl in_23.sz rfl (Sub.le (Sub.refl _) ((bcells_length _).trans (vlen r'14))) (by decide) (Sub.take (Sub.refl _) ((bcells_length _).trans (vlen r'14))), trivial⟩, trivial⟩
end Go.Proofs.YtoepdjccgngpdaaDoor.VM
