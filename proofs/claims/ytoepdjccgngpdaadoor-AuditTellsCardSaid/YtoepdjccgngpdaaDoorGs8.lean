/- Functions of the program, as they answer, and that their code comes to these answers. -/
import Derived.Test.YtoepdjccgngpdaaDoorGs7
namespace Go.Proofs.YtoepdjccgngpdaaDoor.VM
open Go Go.RowKit

theorem in_9 : Info Tryd.prog 9 1 16 (.string ⟨#[]⟩) := by unfold Info; kernel_rfl
theorem one_9 : (.string ⟨#[]⟩ : Value).cells.all (·.oneCell') = true := by kernel_rfl
theorem zc_9 : ((.string ⟨#[]⟩ : Value).cells.toList.map zcell) = [(AV.txt [])] := by rfl
theorem eq_27 : EqT Tryd.prog 27 2 (fun x : Vector UInt32 8 => .agg (x.toList.map AV.u32)) := eqt_arr1 Tryd.underlying27 in_26 (by kernel_rfl) Tryd.underlying26 rfl (eqt_u32 Tryd.underlying26)
theorem eq_28 : EqT Tryd.prog 28 2 (fun x : Vector UInt8 64 => .agg (bcells x.toList)) := eqt_arr1 Tryd.underlying28 in_5 (by kernel_rfl) Tryd.underlying5 rfl (eqt_b8 Tryd.underlying5)
theorem eq_30 : EqT Tryd.prog 30 3 (fun x : GStream => .agg (GStream.cs x)) :=
  eqt_struct [fun a b => a.H = b.H, fun a b => a.Held = b.Held, fun a b => a.N = b.N, fun a b => a.Len = b.Len] Tryd.underlying30 (by kernel_rfl) ⟨(FieldEq.more (fe_agg (g := fun y : Vector UInt32 8 => y.toList.map AV.u32) (by decide) Tryd.underlying27 rfl in_27 eq_27 (fun a => GStream.sub0 a) (fun x => (vmap_len (f := AV.u32) x))) (by decide : 2 ≤ 2)), (FieldEq.more (fe_agg (g := fun y : Vector UInt8 64 => bcells y.toList) (by decide) Tryd.underlying28 rfl in_28 eq_28 (fun a => GStream.sub1 a) (fun x => ((bcells_length _).trans (vlen x)))) (by decide : 2 ≤ 2)), (FieldEq.more (fe_one (by decide) Tryd.underlying3 rfl (eqt_int Tryd.underlying3) (fun a => GStream.sub2 a)) (by decide : 1 ≤ 2)), (FieldEq.more (fe_one (by decide) Tryd.underlying3 rfl (eqt_int Tryd.underlying3) (fun a => GStream.sub3 a)) (by decide : 1 ≤ 2)), trivial⟩ (fun a b => by
    cases a; cases b
    simp)
set_option maxRecDepth 100000 in
theorem ty_26 {d : Nat} {cs : List AV} (h : Typed Tryd.prog (d + 1) 26 cs) : ∃ x : UInt32, cs = [(AV.u32 x)] ∧ okA x := ty_u32 Tryd.underlying26 h
set_option maxRecDepth 100000 in
theorem ty_27 {d : Nat} {cs : List AV} (h : Typed Tryd.prog (d + 2) 27 cs) : ∃ x : Vector UInt32 8, cs = x.toList.map AV.u32 ∧ (okV okA) x := ty_array (f := AV.u32) Tryd.underlying27 (fun _ hx => ty_26 hx) h
set_option maxRecDepth 100000 in
theorem ty_28 {d : Nat} {cs : List AV} (h : Typed Tryd.prog (d + 2) 28 cs) : ∃ x : Vector UInt8 64, cs = bcells x.toList ∧ (okV okA) x := ty_array (f := AV.b8) Tryd.underlying28 (fun _ hx => ty_5 hx) h
set_option maxRecDepth 100000 in
theorem ty_3 {d : Nat} {cs : List AV} (h : Typed Tryd.prog (d + 1) 3 cs) : ∃ x : Int, cs = [(AV.int x)] ∧ okI x := ty_int Tryd.underlying3 h
def GStream.ok (x : GStream) : Prop := (okV okA) x.H ∧ (okV okA) x.Held ∧ okI x.N ∧ okI x.Len
set_option maxRecDepth 100000 in
theorem ty_30 {d : Nat} {cs : List AV} (h : Typed Tryd.prog (d + 3) 30 cs) : ∃ x : GStream, cs = GStream.cs x ∧ GStream.ok x := by
  obtain ⟨es, rfl, hl, hf⟩ := ty_struct Tryd.underlying30 h
  match es, hl, hf with
  | [e0, e1, e2, e3], _, hf =>
    obtain ⟨x0, h0, q0⟩ := ty_27 (hf 0 _ e0 rfl rfl)
    obtain ⟨x1, h1, q1⟩ := ty_28 (hf 1 _ e1 rfl rfl)
    obtain ⟨x2, h2, q2⟩ := ty_3 (hf 2 _ e2 rfl rfl)
    obtain ⟨x3, h3, q3⟩ := ty_3 (hf 3 _ e3 rfl rfl)
    refine ⟨⟨x0, x1, x2, x3⟩, ?_, ⟨q0, q1, q2, q3⟩⟩
    rw [h0, h1, h2, h3]
    simp only [List.flatten_cons, List.flatten_nil, List.append_nil, GStream.cs]

/-! chirographlaw.SumAdds -/
noncomputable def g_law_SumAdds (s0 : GStream) (l1 : List UInt8) : Option (Bool) :=
  (g_sum_Add s0 l1).bind fun r'1 => (g_ref_Added s0 l1).bind fun r'2 => ((if r'1.2 = r'2.2 then (if r'1.1 = r'2.1 then (g_sum_Begin).bind fun r'4 => (g_ref_Begun).bind fun r'5 => some (decide (r'4 = r'5)) else some false) else some false)).bind fun g'6 => some g'6
set_option maxHeartbeats 4000000 in
set_option maxRecDepth 100000 in
theorem g_law_SumAdds_ac {s0 : GStream} {l1 : List UInt8} {r : Bool} (H : g_law_SumAdds s0 l1 = some r) : ACp Tryd.prog 4 [(.agg (GStream.cs s0)), (AV.bytes l1)] (AV.bool r) := by
  refine ACp_of (AC2_of_body (vs := [.c (.p (AV.bool r))]) Tryd.func4 rfl rfl (Nat.le_of_ble_eq_true rfl) rfl ?_) (fun _ => .same _)
  unfold g_law_SumAdds at H
  refine AW2_st [(0, .c (.p (.agg (GStream.cs s0)))), (1, .c (.p (AV.bytes l1)))] [] rfl ⟨TLes.same _, TLes.same _, trivial⟩ trivial ?_
  refine AW2_seq ?_
  refine AW2_reg [0, 1] rfl ?_
  refine r_op rfl rfl (MakeD.opD (n_box 2 rfl rfl) rfl rfl rfl rfl) ?_
  refine r_op rfl rfl (PureD.opD (p_asg rfl rfl)) ?_
  refine RunW_st [(1, .c (.p (AV.bytes l1))), (2, .c (.ptr 2 (0)))] [(2, .pure (GStream.cs s0))] rfl ⟨TLes.same _, TLes.same _, trivial⟩ ⟨rfl, trivial⟩ ?_
  refine RunW_nil ?_
  refine AW2_seq ?_
  refine AW2_reg [0, 1, 2, 3, 4, 5, 6, 7, 8] rfl ?_
  refine r_op rfl rfl (PureD.opD (u_lda rfl rfl Tryd.underlying30 rfl in_30 rfl (Nat.succ_pos _) (Sub.refl _) (GStream.len s0))) ?_
  refine r_op rfl rfl (PureD.opD (p_move rfl rfl)) ?_
  refine bindK H fun r'1 h1 H => ?_
  refine r_op rfl rfl (PureD.opD (p_callp rfl rfl rfl Tryd.func14 rfl rfl (g_sum_Add_ac h1) ⟨rfl, rfl, trivial⟩)) ?_
  refine r_op rfl rfl (PureD.opD (p_move rfl rfl)) ?_
  refine r_op rfl rfl (PureD.opD (p_ext rfl rfl rfl rfl)) ?_
  refine r_op rfl rfl (PureD.opD (p_ext rfl rfl rfl rfl)) ?_
  refine r_op rfl rfl (MakeD.opD (u_alloc 5 rfl in_30 one_30 zc_30) rfl rfl rfl rfl) ?_
  refine r_op rfl rfl (u_st rfl rfl rfl rfl rfl in_30 (GStream.len r'1.1) (ne_of_lt (n := 0) (Nat.lt_of_lt_of_eq (by decide) (Eq.symm (GStream.len GStream.zero)))) (Upd.refl ((GStream.len r'1.1).trans (GStream.len GStream.zero).symm))) ?_
  refine r_op rfl rfl (PureD.opD (p_asg rfl rfl)) ?_
  refine RunW_st [(1, .c (.p (AV.bytes l1))), (2, .c (.ptr 2 (0))), (5, .c (.ptr 5 (0))), (6, .c (.p (AV.int r'1.2)))] [(2, .pure (GStream.cs s0)), (5, .pure (GStream.cs r'1.1))] rfl ⟨TLes.same _, TLes.same _, TLes.same _, TLes.same _, trivial⟩ ⟨rfl, rfl, trivial⟩ ?_
  refine RunW_nil ?_
  refine AW2_seq ?_
  refine AW2_reg [0, 1, 2, 3, 4, 5, 6, 7, 8] rfl ?_
  refine r_op rfl rfl (PureD.opD (u_lda rfl rfl Tryd.underlying30 rfl in_30 rfl (Nat.succ_pos _) (Sub.refl _) (GStream.len s0))) ?_
  refine r_op rfl rfl (PureD.opD (p_move rfl rfl)) ?_
  refine bindK H fun r'2 h2 H => ?_
  refine r_op rfl rfl (PureD.opD (p_callp rfl rfl rfl Tryd.func15 rfl rfl (g_ref_Added_ac h2) ⟨rfl, rfl, trivial⟩)) ?_
  refine r_op rfl rfl (PureD.opD (p_move rfl rfl)) ?_
  refine r_op rfl rfl (PureD.opD (p_ext rfl rfl rfl rfl)) ?_
  refine r_op rfl rfl (PureD.opD (p_ext rfl rfl rfl rfl)) ?_
  refine r_op rfl rfl (MakeD.opD (u_alloc 7 rfl in_30 one_30 zc_30) rfl rfl rfl rfl) ?_
  refine r_op rfl rfl (u_st rfl rfl rfl rfl rfl in_30 (GStream.len r'2.1) (ne_of_lt (n := 0) (Nat.lt_of_lt_of_eq (by decide) (Eq.symm (GStream.len GStream.zero)))) (Upd.refl ((GStream.len r'2.1).trans (GStream.len GStream.zero).symm))) ?_
  refine r_op rfl rfl (PureD.opD (p_asg rfl rfl)) ?_
  refine RunW_st [(5, .c (.ptr 5 (0))), (6, .c (.p (AV.int r'1.2))), (7, .c (.ptr 7 (0))), (8, .c (.p (AV.int r'2.2)))] [(5, .pure (GStream.cs r'1.1)), (7, .pure (GStream.cs r'2.1))] rfl ⟨TLes.same _, TLes.same _, TLes.same _, TLes.same _, trivial⟩ ⟨rfl, rfl, trivial⟩ ?_
  refine RunW_nil ?_
  refine AW2_seq ?_
  refine bindK H fun g'6 h8 H => ?_
  refine AW2_mid (⟨[(4, .c (.p (AV.bool g'6)))], [], 34⟩ : TS) ?_ ?_
  · clear H
    have H := h8
    clear h8
    refine AW2_reg [0, 1, 2, 3, 4, 5, 6, 7, 8, 9, 10, 11, 12, 13] rfl ?_
    refine r_op rfl rfl (PureD.opD (p_move rfl rfl)) ?_
    refine r_op rfl rfl (PureD.opD (p_move rfl rfl)) ?_
    refine r_op rfl rfl (PureD.opD (p_ieq rfl rfl rfl)) ?_
    refine r_op rfl rfl (PureD.opD (p_move rfl rfl)) ?_
    refine (Classical.em (r'1.2 = r'2.2)).elim (fun h4 => ?_) (fun h4 => ?_)
    · replace H := ite_then h4 H
      refine r_on rfl rfl rfl rfl (decide_eq_true (p := r'1.2 = r'2.2) h4) rfl (PureD.opD (u_lda rfl rfl Tryd.underlying30 rfl in_30 rfl (Nat.succ_pos _) (Sub.refl _) (GStream.len r'1.1))) ?_
      refine r_on rfl rfl rfl rfl (decide_eq_true (p := r'1.2 = r'2.2) h4) rfl (PureD.opD (u_lda rfl rfl Tryd.underlying30 rfl in_30 rfl (Nat.succ_pos _) (Sub.refl _) (GStream.len r'2.1))) ?_
      refine r_on rfl rfl rfl rfl (decide_eq_true (p := r'1.2 = r'2.2) h4) rfl (PureD.opD (p_eqa (a := r'1.1) (b := r'2.1) rfl eq_30 rfl (by kernel_rfl) rfl rfl)) ?_
      refine r_op rfl rfl (PureD.opD (p_pkt rfl rfl (decide_eq_true (p := r'1.2 = r'2.2) h4) (.same _))) ?_
      refine r_op rfl rfl (PureD.opD (p_move rfl rfl)) ?_
      refine (Classical.em (r'1.1 = r'2.1)).elim (fun h5 => ?_) (fun h5 => ?_)
      · replace H := ite_then h5 H
        refine bindK H fun r'4 h6 H => ?_
        refine r_on rfl rfl rfl rfl (decide_eq_true (p := r'1.1 = r'2.1) h5) rfl (PureD.opD (p_callp rfl rfl rfl Tryd.func16 rfl rfl (g_sum_Begin_ac h6) trivial)) ?_
        refine bindK H fun r'5 h7 H => ?_
        refine r_on rfl rfl rfl rfl (decide_eq_true (p := r'1.1 = r'2.1) h5) rfl (PureD.opD (p_callp rfl rfl rfl Tryd.func17 rfl rfl (g_ref_Begun_ac h7) trivial)) ?_
        refine r_on rfl rfl rfl rfl (decide_eq_true (p := r'1.1 = r'2.1) h5) rfl (PureD.opD (p_eqa (a := r'4) (b := r'5) rfl eq_30 rfl (by kernel_rfl) rfl rfl)) ?_
        refine r_op rfl rfl (PureD.opD (p_pkt rfl rfl (decide_eq_true (p := r'1.1 = r'2.1) h5) (.same _))) ?_
        refine r_op rfl rfl (PureD.opD (p_asg rfl rfl)) ?_
        refine RunW_st [(4, .c (.p (.bool (decide (r'4 = r'5)))))] [] rfl ⟨TLes.same _, trivial⟩ trivial ?_
        have hz := some_elim H
        subst hz
        exact RunW_nil rfl
      · replace H := ite_else h5 H
        refine r_off rfl rfl rfl rfl (decide_eq_false (p := r'1.1 = r'2.1) h5) rfl rfl ?_
        refine r_off rfl rfl rfl rfl (decide_eq_false (p := r'1.1 = r'2.1) h5) rfl rfl ?_
        refine r_off rfl rfl rfl rfl (decide_eq_false (p := r'1.1 = r'2.1) h5) rfl rfl ?_
        refine r_op rfl rfl (PureD.opD (p_pkf rfl rfl (decide_eq_false (p := r'1.1 = r'2.1) h5) (.same _))) ?_
        refine r_op rfl rfl (PureD.opD (p_asg rfl rfl)) ?_
        refine RunW_st [(4, .c (.p (AV.bool false)))] [] rfl ⟨TLes.same _, trivial⟩ trivial ?_
        have hz := some_elim H
        subst hz
        exact RunW_nil rfl
    · replace H := ite_else h4 H
      refine r_off rfl rfl rfl rfl (decide_eq_false (p := r'1.2 = r'2.2) h4) rfl rfl ?_
      refine r_off rfl rfl rfl rfl (decide_eq_false (p := r'1.2 = r'2.2) h4) rfl rfl ?_
      refine r_off rfl rfl rfl rfl (decide_eq_false (p := r'1.2 = r'2.2) h4) rfl rfl ?_
      refine r_op rfl rfl (PureD.opD (p_pkf rfl rfl (decide_eq_false (p := r'1.2 = r'2.2) h4) (.same _))) ?_
      refine r_op rfl rfl (PureD.opD (p_move rfl rfl)) ?_
      refine r_off rfl rfl rfl rfl (bfalse (by decide)) rfl rfl ?_
      refine r_off rfl rfl rfl rfl (bfalse (by decide)) rfl rfl ?_
      refine r_off rfl rfl rfl rfl (bfalse (by decide)) rfl rfl ?_
      refine r_op rfl rfl (PureD.opD (p_pkf rfl rfl (bfalse (by decide)) (.same _))) ?_
      refine r_op rfl rfl (PureD.opD (p_asg rfl rfl)) ?_
      refine RunW_st [(4, .c (.p (AV.bool false)))] [] rfl ⟨TLes.same _, trivial⟩ trivial ?_
      have hz := some_elim H
      subst hz
      exact RunW_nil rfl
  · refine AW2_ret ?_
    have hz := some_elim H
    subst hz
    exact ⟨⟨res_tmp (.same _), trivial⟩, trivial⟩

/-! sum.End -/
noncomputable def g_sum_End (s0 : GStream) : Option ((Vector UInt8 32) × Int) :=
  (g_sum_check s0).bind fun r'1 => (if r'1 ≠ (0 : Int) then some ((Vector.replicate 32 (0 : UInt8)), r'1) else (g_sum_end s0).bind fun r'2 => some (r'2, (0 : Int)))
set_option maxHeartbeats 4000000 in
set_option maxRecDepth 100000 in
theorem g_sum_End_ac {s0 : GStream} {r : (Vector UInt8 32) × Int} (H : g_sum_End s0 = some r) : ACp Tryd.prog 18 [(.agg (GStream.cs s0))] (.tup [(.agg (bcells r.1.toList)), (AV.int r.2)]) := by
  refine ACp_of (AC2_of_body (vs := [.c (.p (.agg (bcells r.1.toList))), .c (.p (AV.int r.2))]) Tryd.func18 rfl rfl (Nat.le_of_ble_eq_true rfl) rfl ?_) (fun _ => .same _)
  unfold g_sum_End at H
  refine AW2_st [(0, .c (.p (.agg (GStream.cs s0))))] [] rfl ⟨TLes.same _, trivial⟩ trivial ?_
  refine AW2_seq ?_
  refine AW2_reg [0, 1, 2] rfl ?_
  refine r_op rfl rfl (MakeD.opD (n_box 1 rfl rfl) rfl rfl rfl rfl) ?_
  refine r_op rfl rfl (MakeD.opD (u_alloc 2 rfl in_23 one_23 zc_23) rfl rfl rfl rfl) ?_
  refine r_op rfl rfl (PureD.opD (p_asg rfl rfl)) ?_
  refine RunW_st [(1, .c (.ptr 1 (0))), (2, .c (.ptr 2 (0)))] [(1, .pure (GStream.cs s0)), (2, .pure (bcells ((Vector.replicate 32 (0 : UInt8)).toList)))] rfl ⟨TLes.same _, TLes.same _, trivial⟩ ⟨rfl, rfl, trivial⟩ ?_
  refine RunW_nil ?_
  refine AW2_seq ?_
  refine AW2_seq ?_
  refine AW2_reg [0, 1, 2] rfl ?_
  refine r_op rfl rfl (PureD.opD (u_lda rfl rfl Tryd.underlying30 rfl in_30 rfl (Nat.succ_pos _) (Sub.refl _) (GStream.len s0))) ?_
  refine bindK H fun r'1 h1 H => ?_
  refine r_op rfl rfl (PureD.opD (p_callp rfl rfl rfl Tryd.func36 rfl rfl (g_sum_check_ac h1) ⟨rfl, trivial⟩)) ?_
  refine r_op rfl rfl (PureD.opD (p_asg rfl rfl)) ?_
  refine RunW_st [(1, .c (.ptr 1 (0))), (2, .c (.ptr 2 (0))), (4, .c (.p (AV.int r'1)))] [(1, .pure (GStream.cs s0)), (2, .pure (bcells ((Vector.replicate 32 (0 : UInt8)).toList)))] rfl ⟨TLes.same _, TLes.same _, TLes.same _, trivial⟩ ⟨rfl, rfl, trivial⟩ ?_
  refine RunW_nil ?_
  refine AW2_seq ?_
  refine AW2_reg [0, 1] rfl ?_
  refine r_op rfl rfl (PureD.opD (p_move rfl rfl)) ?_
  refine r_op rfl rfl (PureD.opD (p_ine rfl rfl rfl)) ?_
  refine RunW_st [(1, .c (.ptr 1 (0))), (2, .c (.ptr 2 (0))), (4, .c (.p (AV.int r'1))), (8, .c (.p (.bool (decide (r'1 ≠ (0 : Int))))))] [(1, .pure (GStream.cs s0)), (2, .pure (bcells ((Vector.replicate 32 (0 : UInt8)).toList)))] rfl ⟨TLes.same _, TLes.same _, TLes.same _, TLes.same _, trivial⟩ ⟨rfl, rfl, trivial⟩ ?_
  refine RunW_nil ?_
  refine AW2_if (p := r'1 ≠ (0 : Int)) rfl (fun h2 => ?_) (fun h2 => ?_)
  · replace H := ite_then h2 H
    refine AW2_seq ?_
    refine AW2_reg [0, 1, 2, 3] rfl ?_
    refine r_op rfl rfl (PureD.opD (u_blda rfl in_23 one_23 zc_23 Tryd.underlying23 in_5 rfl rfl)) ?_
    refine r_op rfl rfl (PureD.opD (p_move rfl rfl)) ?_
    refine r_op rfl rfl (u_st rfl rfl rfl rfl rfl in_23 ((bcells_length _).trans (vlen (Vector.replicate 32 (0 : UInt8)))) (ne_of_lt (n := 0) (Nat.lt_of_lt_of_eq (by decide) (Eq.symm ((bcells_length _).trans (vlen (Vector.replicate 32 (0 : UInt8))))))) (Upd.refl (((bcells_length _).trans (vlen (Vector.replicate 32 (0 : UInt8)))).trans ((bcells_length _).trans (vlen (Vector.replicate 32 (0 : UInt8)))).symm))) ?_
    refine r_op rfl rfl (PureD.opD (p_asg rfl rfl)) ?_
    refine RunW_st [(2, .c (.ptr 2 (0))), (3, .c (.p (AV.int r'1)))] [(2, .pure (bcells ((Vector.replicate 32 (0 : UInt8)).toList)))] rfl ⟨TLes.same _, TLes.same _, trivial⟩ ⟨rfl, trivial⟩ ?_
    refine RunW_nil ?_
    refine AW2_ret ?_
    have hz := some_elim H
    subst hz
    exact ⟨⟨res_cella Tryd.underlying23 rfl in_23.sz rfl (Sub.le (Sub.refl _) ((bcells_length _).trans (vlen (Vector.replicate 32 (0 : UInt8))))) (by decide) (Sub.take (Sub.refl _) ((bcells_length _).trans (vlen (Vector.replicate 32 (0 : UInt8))))), res_tmp (.same _), trivial⟩, trivial⟩
  · replace H := ite_else h2 H
    refine AW2_st [(1, .c (.ptr 1 (0))), (2, .c (.ptr 2 (0)))] [(1, .pure (GStream.cs s0)), (2, .pure (bcells ((Vector.replicate 32 (0 : UInt8)).toList)))] rfl ⟨TLes.same _, TLes.same _, trivial⟩ ⟨rfl, rfl, trivial⟩ ?_
    refine AW2_skip ?_
    refine AW2_seq ?_
    refine AW2_reg [0, 1, 2, 3] rfl ?_
    refine r_op rfl rfl (PureD.opD (u_lda rfl rfl Tryd.underlying30 rfl in_30 rfl (Nat.succ_pos _) (Sub.refl _) (GStream.len s0))) ?_
    refine bindK H fun r'2 h3 H => ?_
    refine r_op rfl rfl (PureD.opD (p_callp rfl rfl rfl Tryd.func33 rfl rfl (g_sum_end_ac h3) ⟨rfl, trivial⟩)) ?_
    refine r_op rfl rfl (u_st rfl rfl rfl rfl rfl in_23 ((bcells_length _).trans (vlen r'2)) (ne_of_lt (n := 0) (Nat.lt_of_lt_of_eq (by decide) (Eq.symm ((bcells_length _).trans (vlen (Vector.replicate 32 (0 : UInt8))))))) (Upd.refl (((bcells_length _).trans (vlen r'2)).trans ((bcells_length _).trans (vlen (Vector.replicate 32 (0 : UInt8)))).symm))) ?_
    refine r_op rfl rfl (PureD.opD (p_asg rfl rfl)) ?_
    refine RunW_st [(2, .c (.ptr 2 (0))), (3, .c (.p (AV.int (0 : Int))))] [(2, .pure (bcells r'2.toList))] rfl ⟨TLes.same _, TLes.same _, trivial⟩ ⟨rfl, trivial⟩ ?_
    refine RunW_nil ?_
    refine AW2_ret ?_
    have hz := some_elim H
    subst hz
    exact ⟨⟨res_cella Tryd.underlying23 rfl in_23.sz rfl (Sub.le (Sub.refl _) ((bcells_length _).trans (vlen r'2))) (by decide) (Sub.take (Sub.refl _) ((bcells_length _).trans (vlen r'2))), res_tmp (.same _), trivial⟩, trivial⟩

/-! chirographref.Ended -/
noncomputable def g_ref_Ended (s0 : GStream) : Option ((Vector UInt8 32) × Int) :=
  (g_ref_badStream s0).bind fun r'1 => (if r'1 = true then some ((Vector.replicate 32 (0 : UInt8)), (11 : Int)) else (g_ref_ended s0).bind fun r'2 => some (r'2, (0 : Int)))
set_option maxHeartbeats 4000000 in
set_option maxRecDepth 100000 in
theorem g_ref_Ended_ac {s0 : GStream} {r : (Vector UInt8 32) × Int} (H : g_ref_Ended s0 = some r) : ACp Tryd.prog 19 [(.agg (GStream.cs s0))] (.tup [(.agg (bcells r.1.toList)), (AV.int r.2)]) := by
  refine ACp_of (AC2_of_body (vs := [.c (.p (.agg (bcells r.1.toList))), .c (.p (AV.int r.2))]) Tryd.func19 rfl rfl (Nat.le_of_ble_eq_true rfl) rfl ?_) (fun _ => .same _)
  unfold g_ref_Ended at H
  refine AW2_st [(0, .c (.p (.agg (GStream.cs s0))))] [] rfl ⟨TLes.same _, trivial⟩ trivial ?_
  refine AW2_seq ?_
  refine AW2_reg [0, 1, 2] rfl ?_
  refine r_op rfl rfl (MakeD.opD (n_box 1 rfl rfl) rfl rfl rfl rfl) ?_
  refine r_op rfl rfl (MakeD.opD (u_alloc 2 rfl in_23 one_23 zc_23) rfl rfl rfl rfl) ?_
  refine r_op rfl rfl (PureD.opD (p_asg rfl rfl)) ?_
  refine RunW_st [(1, .c (.ptr 1 (0))), (2, .c (.ptr 2 (0)))] [(1, .pure (GStream.cs s0)), (2, .pure (bcells ((Vector.replicate 32 (0 : UInt8)).toList)))] rfl ⟨TLes.same _, TLes.same _, trivial⟩ ⟨rfl, rfl, trivial⟩ ?_
  refine RunW_nil ?_
  refine AW2_seq ?_
  refine AW2_seq ?_
  refine AW2_reg [0, 1] rfl ?_
  refine r_op rfl rfl (PureD.opD (u_lda rfl rfl Tryd.underlying30 rfl in_30 rfl (Nat.succ_pos _) (Sub.refl _) (GStream.len s0))) ?_
  refine bindK H fun r'1 h1 H => ?_
  refine r_op rfl rfl (PureD.opD (p_callp rfl rfl rfl Tryd.func37 rfl rfl (g_ref_badStream_ac h1) ⟨rfl, trivial⟩)) ?_
  refine RunW_st [(1, .c (.ptr 1 (0))), (2, .c (.ptr 2 (0))), (5, .c (.p (AV.bool r'1)))] [(1, .pure (GStream.cs s0)), (2, .pure (bcells ((Vector.replicate 32 (0 : UInt8)).toList)))] rfl ⟨TLes.same _, TLes.same _, TLes.same _, trivial⟩ ⟨rfl, rfl, trivial⟩ ?_
  refine RunW_nil ?_
  refine AW2_cond rfl (fun h2 => ?_) (fun h2 => ?_)
  · replace H := ite_then h2 H
    refine AW2_seq ?_
    refine AW2_reg [0, 1, 2] rfl ?_
    refine r_op rfl rfl (PureD.opD (u_blda rfl in_23 one_23 zc_23 Tryd.underlying23 in_5 rfl rfl)) ?_
    refine r_op rfl rfl (u_st rfl rfl rfl rfl rfl in_23 ((bcells_length _).trans (vlen (Vector.replicate 32 (0 : UInt8)))) (ne_of_lt (n := 0) (Nat.lt_of_lt_of_eq (by decide) (Eq.symm ((bcells_length _).trans (vlen (Vector.replicate 32 (0 : UInt8))))))) (Upd.refl (((bcells_length _).trans (vlen (Vector.replicate 32 (0 : UInt8)))).trans ((bcells_length _).trans (vlen (Vector.replicate 32 (0 : UInt8)))).symm))) ?_
    refine r_op rfl rfl (PureD.opD (p_asg rfl rfl)) ?_
    refine RunW_st [(2, .c (.ptr 2 (0))), (3, .c (.p (AV.int (11 : Int))))] [(2, .pure (bcells ((Vector.replicate 32 (0 : UInt8)).toList)))] rfl ⟨TLes.same _, TLes.same _, trivial⟩ ⟨rfl, trivial⟩ ?_
    refine RunW_nil ?_
    refine AW2_ret ?_
    have hz := some_elim H
    subst hz
    exact ⟨⟨res_cella Tryd.underlying23 rfl in_23.sz rfl (Sub.le (Sub.refl _) ((bcells_length _).trans (vlen (Vector.replicate 32 (0 : UInt8))))) (by decide) (Sub.take (Sub.refl _) ((bcells_length _).trans (vlen (Vector.replicate 32 (0 : UInt8))))), res_tmp (.same _), trivial⟩, trivial⟩
  · replace H := ite_else (ne_true h2) H
    refine AW2_st [(1, .c (.ptr 1 (0))), (2, .c (.ptr 2 (0)))] [(1, .pure (GStream.cs s0)), (2, .pure (bcells ((Vector.replicate 32 (0 : UInt8)).toList)))] rfl ⟨TLes.same _, TLes.same _, trivial⟩ ⟨rfl, rfl, trivial⟩ ?_
    refine AW2_skip ?_
    refine AW2_seq ?_
    refine AW2_reg [0, 1, 2, 3] rfl ?_
    refine r_op rfl rfl (PureD.opD (u_lda rfl rfl Tryd.underlying30 rfl in_30 rfl (Nat.succ_pos _) (Sub.refl _) (GStream.len s0))) ?_
    refine bindK H fun r'2 h3 H => ?_
    refine r_op rfl rfl (PureD.opD (p_callp rfl rfl rfl Tryd.func35 rfl rfl (g_ref_ended_ac h3) ⟨rfl, trivial⟩)) ?_
    refine r_op rfl rfl (u_st rfl rfl rfl rfl rfl in_23 ((bcells_length _).trans (vlen r'2)) (ne_of_lt (n := 0) (Nat.lt_of_lt_of_eq (by decide) (Eq.symm ((bcells_length _).trans (vlen (Vector.replicate 32 (0 : UInt8))))))) (Upd.refl (((bcells_length _).trans (vlen r'2)).trans ((bcells_length _).trans (vlen (Vector.replicate 32 (0 : UInt8)))).symm))) ?_
    refine r_op rfl rfl (PureD.opD (p_asg rfl rfl)) ?_
    refine RunW_st [(2, .c (.ptr 2 (0))), (3, .c (.p (AV.int (0 : Int))))] [(2, .pure (bcells r'2.toList))] rfl ⟨TLes.same _, TLes.same _, trivial⟩ ⟨rfl, trivial⟩ ?_
    refine RunW_nil ?_
    refine AW2_ret ?_
    have hz := some_elim H
    subst hz
    exact ⟨⟨res_cella Tryd.underlying23 rfl in_23.sz rfl (Sub.le (Sub.refl _) ((bcells_length _).trans (vlen r'2))) (by decide) (Sub.take (Sub.refl _) ((bcells_length _).trans (vlen r'2))), res_tmp (.same _), trivial⟩, trivial⟩

/-! chirographlaw.SumEnds -/
noncomputable def g_law_SumEnds (s0 : GStream) : Option (Bool) :=
  (g_sum_End s0).bind fun r'1 => (g_ref_Ended s0).bind fun r'2 => some (decide ((r'1.2 = r'2.2) ∧ (r'1.1 = r'2.1)))
set_option maxHeartbeats 4000000 in
set_option maxRecDepth 100000 in
theorem g_law_SumEnds_ac {s0 : GStream} {r : Bool} (H : g_law_SumEnds s0 = some r) : ACp Tryd.prog 5 [(.agg (GStream.cs s0))] (AV.bool r) := by
  refine ACp_of (AC2_of_body (vs := [.c (.p (AV.bool r))]) Tryd.func5 rfl rfl (Nat.le_of_ble_eq_true rfl) rfl ?_) (fun _ => .same _)
  unfold g_law_SumEnds at H
  refine AW2_st [(0, .c (.p (.agg (GStream.cs s0))))] [] rfl ⟨TLes.same _, trivial⟩ trivial ?_
  refine AW2_seq ?_
  refine AW2_reg [0, 1] rfl ?_
  refine r_op rfl rfl (MakeD.opD (n_box 1 rfl rfl) rfl rfl rfl rfl) ?_
  refine r_op rfl rfl (PureD.opD (p_asg rfl rfl)) ?_
  refine RunW_st [(1, .c (.ptr 1 (0)))] [(1, .pure (GStream.cs s0))] rfl ⟨TLes.same _, trivial⟩ ⟨rfl, trivial⟩ ?_
  refine RunW_nil ?_
  refine AW2_seq ?_
  refine AW2_reg [0, 1, 2, 3, 4, 5, 6, 7] rfl ?_
  refine r_op rfl rfl (PureD.opD (u_lda rfl rfl Tryd.underlying30 rfl in_30 rfl (Nat.succ_pos _) (Sub.refl _) (GStream.len s0))) ?_
  refine bindK H fun r'1 h1 H => ?_
  refine r_op rfl rfl (PureD.opD (p_callp rfl rfl rfl Tryd.func18 rfl rfl (g_sum_End_ac h1) ⟨rfl, trivial⟩)) ?_
  refine r_op rfl rfl (PureD.opD (p_move rfl rfl)) ?_
  refine r_op rfl rfl (PureD.opD (p_ext rfl rfl rfl rfl)) ?_
  refine r_op rfl rfl (PureD.opD (p_ext rfl rfl rfl rfl)) ?_
  refine r_op rfl rfl (MakeD.opD (u_alloc 3 rfl in_23 one_23 zc_23) rfl rfl rfl rfl) ?_
  refine r_op rfl rfl (u_st rfl rfl rfl rfl rfl in_23 ((bcells_length _).trans (vlen r'1.1)) (ne_of_lt (n := 0) (Nat.lt_of_lt_of_eq (by decide) (Eq.symm ((bcells_length _).trans (vlen (Vector.replicate 32 (0 : UInt8))))))) (Upd.refl (((bcells_length _).trans (vlen r'1.1)).trans ((bcells_length _).trans (vlen (Vector.replicate 32 (0 : UInt8)))).symm))) ?_
  refine r_op rfl rfl (PureD.opD (p_asg rfl rfl)) ?_
  refine RunW_st [(1, .c (.ptr 1 (0))), (3, .c (.ptr 3 (0))), (4, .c (.p (AV.int r'1.2)))] [(1, .pure (GStream.cs s0)), (3, .pure (bcells r'1.1.toList))] rfl ⟨TLes.same _, TLes.same _, TLes.same _, trivial⟩ ⟨rfl, rfl, trivial⟩ ?_
  refine RunW_nil ?_
  refine AW2_seq ?_
  refine AW2_reg [0, 1, 2, 3, 4, 5, 6, 7] rfl ?_
  refine r_op rfl rfl (PureD.opD (u_lda rfl rfl Tryd.underlying30 rfl in_30 rfl (Nat.succ_pos _) (Sub.refl _) (GStream.len s0))) ?_
  refine bindK H fun r'2 h2 H => ?_
  refine r_op rfl rfl (PureD.opD (p_callp rfl rfl rfl Tryd.func19 rfl rfl (g_ref_Ended_ac h2) ⟨rfl, trivial⟩)) ?_
  refine r_op rfl rfl (PureD.opD (p_move rfl rfl)) ?_
  refine r_op rfl rfl (PureD.opD (p_ext rfl rfl rfl rfl)) ?_
  refine r_op rfl rfl (PureD.opD (p_ext rfl rfl rfl rfl)) ?_
  refine r_op rfl rfl (MakeD.opD (u_alloc 5 rfl in_23 one_23 zc_23) rfl rfl rfl rfl) ?_
  refine r_op rfl rfl (u_st rfl rfl rfl rfl rfl in_23 ((bcells_length _).trans (vlen r'2.1)) (ne_of_lt (n := 0) (Nat.lt_of_lt_of_eq (by decide) (Eq.symm ((bcells_length _).trans (vlen (Vector.replicate 32 (0 : UInt8))))))) (Upd.refl (((bcells_length _).trans (vlen r'2.1)).trans ((bcells_length _).trans (vlen (Vector.replicate 32 (0 : UInt8)))).symm))) ?_
  refine r_op rfl rfl (PureD.opD (p_asg rfl rfl)) ?_
  refine RunW_st [(3, .c (.ptr 3 (0))), (4, .c (.p (AV.int r'1.2))), (5, .c (.ptr 5 (0))), (6, .c (.p (AV.int r'2.2)))] [(3, .pure (bcells r'1.1.toList)), (5, .pure (bcells r'2.1.toList))] rfl ⟨TLes.same _, TLes.same _, TLes.same _, TLes.same _, trivial⟩ ⟨rfl, rfl, trivial⟩ ?_
  refine RunW_nil ?_
  refine AW2_seq ?_
  refine AW2_mid (⟨[(2, .c (.p (.bool (decide ((r'1.2 = r'2.2) ∧ (r'1.1 = r'2.1))))))], [], 25⟩ : TS) ?_ ?_
  · refine AW2_reg [0, 1, 2, 3, 4, 5, 6, 7, 8] rfl ?_
    refine r_op rfl rfl (PureD.opD (p_move rfl rfl)) ?_
    refine r_op rfl rfl (PureD.opD (p_move rfl rfl)) ?_
    refine r_op rfl rfl (PureD.opD (p_ieq rfl rfl rfl)) ?_
    refine r_op rfl rfl (PureD.opD (p_move rfl rfl)) ?_
    refine (Classical.em (r'1.2 = r'2.2)).elim (fun h3 => ?_) (fun h3 => ?_)
    · refine r_on rfl rfl rfl rfl (decide_eq_true (p := r'1.2 = r'2.2) h3) rfl (PureD.opD (u_lda rfl rfl Tryd.underlying23 rfl in_23 rfl (Nat.succ_pos _) (Sub.refl _) ((bcells_length _).trans (vlen r'1.1)))) ?_
      refine r_on rfl rfl rfl rfl (decide_eq_true (p := r'1.2 = r'2.2) h3) rfl (PureD.opD (u_lda rfl rfl Tryd.underlying23 rfl in_23 rfl (Nat.succ_pos _) (Sub.refl _) ((bcells_length _).trans (vlen r'2.1)))) ?_
      refine r_on rfl rfl rfl rfl (decide_eq_true (p := r'1.2 = r'2.2) h3) rfl (PureD.opD (p_eqa (a := r'1.1) (b := r'2.1) rfl eq_23 rfl (by kernel_rfl) rfl rfl)) ?_
      refine r_op rfl rfl (PureD.opD (p_pkt rfl rfl (decide_eq_true (p := r'1.2 = r'2.2) h3) (tb ((and_l (p := r'1.2 = r'2.2) (q := r'1.1 = r'2.1) h3))))) ?_
      refine r_op rfl rfl (PureD.opD (p_asg rfl rfl)) ?_
      refine RunW_st [(2, .c (.p (.bool (decide ((r'1.2 = r'2.2) ∧ (r'1.1 = r'2.1))))))] [] rfl ⟨TLes.same _, trivial⟩ trivial ?_
      exact RunW_nil rfl
    · refine r_off rfl rfl rfl rfl (decide_eq_false (p := r'1.2 = r'2.2) h3) rfl rfl ?_
      refine r_off rfl rfl rfl rfl (decide_eq_false (p := r'1.2 = r'2.2) h3) rfl rfl ?_
      refine r_off rfl rfl rfl rfl (decide_eq_false (p := r'1.2 = r'2.2) h3) rfl rfl ?_
      refine r_op rfl rfl (PureD.opD (p_pkf rfl rfl (decide_eq_false (p := r'1.2 = r'2.2) h3) (tb (decide_eq_false (p := (r'1.2 = r'2.2) ∧ (r'1.1 = r'2.1)) (fun x => h3 x.1)).symm))) ?_
      refine r_op rfl rfl (PureD.opD (p_asg rfl rfl)) ?_
      refine RunW_st [(2, .c (.p (.bool (decide ((r'1.2 = r'2.2) ∧ (r'1.1 = r'2.1))))))] [] rfl ⟨TLes.same _, trivial⟩ trivial ?_
      exact RunW_nil rfl
  · refine AW2_ret ?_
    have hz := some_elim H
    subst hz
    exact ⟨⟨res_tmp (.same _), trivial⟩, trivial⟩

/-! oracle.four -/
noncomputable def g_oracle_four (n0 : Int) : Option ((List UInt8)) :=
  letO (([UInt8.ofInt (ishr n0 24), UInt8.ofInt (ishr n0 16), UInt8.ofInt (ishr n0 8), UInt8.ofInt n0] : List UInt8)) fun t2'1 => some t2'1
set_option maxHeartbeats 4000000 in
set_option maxRecDepth 100000 in
theorem g_oracle_four_ac {n0 : Int} {r : (List UInt8)} (H : g_oracle_four n0 = some r) : ACp Tryd.prog 52 [(AV.int n0)] (AV.bytes r) := by
  refine ACp_of (AC2_of_body (vs := [.c (.p (AV.bytes r))]) Tryd.func52 rfl rfl (Nat.le_of_ble_eq_true rfl) rfl ?_) (fun _ => .same _)
  unfold g_oracle_four at H
  refine AW2_st [(0, .c (.p (AV.int n0)))] [] rfl ⟨TLes.same _, trivial⟩ trivial ?_
  refine AW2_seq ?_
  refine AW2_reg [0] rfl ?_
  refine r_op rfl rfl (PureD.opD (p_asgn rfl)) ?_
  refine RunW_st [(0, .c (.p (AV.int n0)))] [] rfl ⟨TLes.same _, trivial⟩ trivial ?_
  refine RunW_nil ?_
  refine AW2_seq ?_
  refine AW2_reg [0, 1, 2, 3, 4, 5, 6, 7, 8, 9, 10, 11, 12] rfl ?_
  refine r_op rfl rfl (PureD.opD (p_move rfl rfl)) ?_
  refine r_op rfl rfl (PureD.opD (p_ishr (n := 24) rfl rfl rfl rfl)) ?_
  refine r_op rfl rfl (PureD.opD (p_i_u8 rfl Tryd.underlying3 Tryd.underlying5 rfl)) ?_
  refine r_op rfl rfl (PureD.opD (p_move rfl rfl)) ?_
  refine r_op rfl rfl (PureD.opD (p_ishr (n := 16) rfl rfl rfl rfl)) ?_
  refine r_op rfl rfl (PureD.opD (p_i_u8 rfl Tryd.underlying3 Tryd.underlying5 rfl)) ?_
  refine r_op rfl rfl (PureD.opD (p_move rfl rfl)) ?_
  refine r_op rfl rfl (PureD.opD (p_ishr (n := 8) rfl rfl rfl rfl)) ?_
  refine r_op rfl rfl (PureD.opD (p_i_u8 rfl Tryd.underlying3 Tryd.underlying5 rfl)) ?_
  refine r_op rfl rfl (PureD.opD (p_move rfl rfl)) ?_
  refine r_op rfl rfl (PureD.opD (p_i_u8 rfl Tryd.underlying3 Tryd.underlying5 rfl)) ?_
  refine r_op rfl rfl (MakeD.opD (u_bs 14 rfl Tryd.underlying22 in_5 rfl one_5 (by decide) (by decide) rfl rfl rfl) rfl rfl rfl rfl) ?_
  refine r_op rfl rfl (PureD.opD (p_asg rfl rfl)) ?_
  refine RunW_st [(2, .c (.own 14 ([UInt8.ofInt (ishr n0 24), UInt8.ofInt (ishr n0 16), UInt8.ofInt (ishr n0 8), UInt8.ofInt n0] : List UInt8).length 1))] [(14, .pure (bcells ([UInt8.ofInt (ishr n0 24), UInt8.ofInt (ishr n0 16), UInt8.ofInt (ishr n0 8), UInt8.ofInt n0] : List UInt8)))] rfl ⟨TLes.own rfl, trivial⟩ ⟨rfl, trivial⟩ ?_
  refine RunW_gho (Gho_ren 14 2 rfl rfl rfl rfl rfl) ?_
  refine RunW_st [(2, .c (.own 2 ([UInt8.ofInt (ishr n0 24), UInt8.ofInt (ishr n0 16), UInt8.ofInt (ishr n0 8), UInt8.ofInt n0] : List UInt8).length 1))] [(2, .pure (bcells ([UInt8.ofInt (ishr n0 24), UInt8.ofInt (ishr n0 16), UInt8.ofInt (ishr n0 8), UInt8.ofInt n0] : List UInt8)))] rfl ⟨TLes.same _, trivial⟩ ⟨rfl, trivial⟩ ?_
  refine RunW_nil ?_
  refine gen1 (fun t2'1 => (⟨[(2, .c (.own 2 t2'1.length 1))], [(2, .pure (bcells t2'1))], 15⟩ : TS)) H ?_
  intro t2'1 H
  refine AW2_gho (Gho_pubs [2] ⟨rfl, trivial⟩ rfl (bl t2'1) (by decide)) ?_
  refine AW2_ret ?_
  have hz := some_elim H
  subst hz
  exact ⟨⟨res_tmp (.same _), trivial⟩, trivial⟩
end Go.Proofs.YtoepdjccgngpdaaDoor.VM
