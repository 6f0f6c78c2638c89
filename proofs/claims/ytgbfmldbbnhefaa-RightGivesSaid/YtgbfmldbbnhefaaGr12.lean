/- Functions of the program, as they answer, and that their code comes to these answers. -/
import Derived.Test.YtgbfmldbbnhefaaGr11
namespace Go.Proofs.Ytgbfmldbbnhefaa.VM
open Go Go.RowKit



/-! chirographlaw.RightGives -/
noncomputable def g_law_RightGives (l0 : List GGrant) (x1 : GGrant) : Option (Bool) :=
  (g_right_Give l0 x1).bind fun r'1 => (g_ref_Given l0 x1).bind fun r'2 => ((if r'1.2 = r'2.2 then (g_law_sameGrants r'1.1 r'2.1).bind fun r'4 => some r'4 else some false)).bind fun g'5 => some g'5
set_option maxHeartbeats 4000000 in
set_option maxRecDepth 100000 in
theorem g_law_RightGives_ac {l0 : List GGrant} {x1 : GGrant} {r : Bool} (H : g_law_RightGives l0 x1 = some r) : ACp Try.prog 7 [((fun q : List GGrant => AV.lst (q.flatMap GGrant.cs) q.length) l0), (.agg (GGrant.cs x1))] (AV.bool r) := by
  refine ACp_of (AC2_of_body (vs := [.c (.p (AV.bool r))]) Try.func7 rfl rfl (Nat.le_of_ble_eq_true rfl) rfl ?_) (fun _ => .same _)
  unfold g_law_RightGives at H
  refine AW2_st [(0, .c (.p ((fun q : List GGrant => AV.lst (q.flatMap GGrant.cs) q.length) l0))), (1, .c (.p (.agg (GGrant.cs x1))))] [] rfl ⟨TLes.same _, TLes.same _, trivial⟩ trivial ?_
  refine AW2_seq ?_
  refine AW2_reg [0, 1] rfl ?_
  refine r_op rfl rfl (MakeD.opD (n_box 3 rfl rfl) rfl rfl rfl rfl) ?_
  refine r_op rfl rfl (PureD.opD (p_asg rfl rfl)) ?_
  refine RunW_st [(0, .c (.p ((fun q : List GGrant => AV.lst (q.flatMap GGrant.cs) q.length) l0))), (3, .c (.ptr 3 (0)))] [(3, .pure (GGrant.cs x1))] rfl ⟨TLes.same _, TLes.same _, trivial⟩ ⟨rfl, trivial⟩ ?_
  refine RunW_nil ?_
  refine AW2_seq ?_
  refine AW2_reg [0, 1, 2, 3, 4, 5, 6, 7] rfl ?_
  refine r_op rfl rfl (PureD.opD (p_move rfl rfl)) ?_
  refine r_op rfl rfl (PureD.opD (u_lda rfl rfl Try.underlying27 rfl in_27 rfl (Nat.succ_pos _) (Sub.refl _) (GGrant.len x1))) ?_
  refine bindK H fun r'1 h1 H => ?_
  refine r_op rfl rfl (PureD.opD (p_callp rfl rfl rfl Try.func17 rfl rfl (g_right_Give_ac h1) ⟨rfl, rfl, trivial⟩)) ?_
  refine r_op rfl rfl (PureD.opD (p_move rfl rfl)) ?_
  refine r_op rfl rfl (PureD.opD (p_ext rfl rfl rfl rfl)) ?_
  refine r_op rfl rfl (PureD.opD (p_ext rfl rfl rfl rfl)) ?_
  refine r_op rfl rfl (PureD.opD (p_asg rfl rfl)) ?_
  refine r_op rfl rfl (PureD.opD (p_asg rfl rfl)) ?_
  refine RunW_st [(0, .c (.p ((fun q : List GGrant => AV.lst (q.flatMap GGrant.cs) q.length) l0))), (3, .c (.ptr 3 (0))), (5, .c (.p ((fun q : List GGrant => AV.lst (q.flatMap GGrant.cs) q.length) r'1.1))), (6, .c (.p (AV.int r'1.2)))] [(3, .pure (GGrant.cs x1))] rfl ⟨TLes.same _, TLes.same _, TLes.same _, TLes.same _, trivial⟩ ⟨rfl, trivial⟩ ?_
  refine RunW_nil ?_
  refine AW2_seq ?_
  refine AW2_reg [0, 1, 2, 3, 4, 5, 6, 7] rfl ?_
  refine r_op rfl rfl (PureD.opD (p_move rfl rfl)) ?_
  refine r_op rfl rfl (PureD.opD (u_lda rfl rfl Try.underlying27 rfl in_27 rfl (Nat.succ_pos _) (Sub.refl _) (GGrant.len x1))) ?_
  refine bindK H fun r'2 h2 H => ?_
  refine r_op rfl rfl (PureD.opD (p_callp rfl rfl rfl Try.func18 rfl rfl (g_ref_Given_ac h2) ⟨rfl, rfl, trivial⟩)) ?_
  refine r_op rfl rfl (PureD.opD (p_move rfl rfl)) ?_
  refine r_op rfl rfl (PureD.opD (p_ext rfl rfl rfl rfl)) ?_
  refine r_op rfl rfl (PureD.opD (p_ext rfl rfl rfl rfl)) ?_
  refine r_op rfl rfl (PureD.opD (p_asg rfl rfl)) ?_
  refine r_op rfl rfl (PureD.opD (p_asg rfl rfl)) ?_
  refine RunW_st [(5, .c (.p ((fun q : List GGrant => AV.lst (q.flatMap GGrant.cs) q.length) r'1.1))), (6, .c (.p (AV.int r'1.2))), (7, .c (.p ((fun q : List GGrant => AV.lst (q.flatMap GGrant.cs) q.length) r'2.1))), (8, .c (.p (AV.int r'2.2)))] [] rfl ⟨TLes.same _, TLes.same _, TLes.same _, TLes.same _, trivial⟩ trivial ?_
  refine RunW_nil ?_
  refine AW2_seq ?_
  refine bindK H fun g'5 h6 H => ?_
  refine AW2_mid (⟨[(4, .c (.p (AV.bool g'5)))], [], 29⟩ : TS) ?_ ?_
  · clear H
    have H := h6
    clear h6
    refine AW2_reg [0, 1, 2, 3, 4, 5, 6, 7, 8] rfl ?_
    refine r_op rfl rfl (PureD.opD (p_move rfl rfl)) ?_
    refine r_op rfl rfl (PureD.opD (p_move rfl rfl)) ?_
    refine r_op rfl rfl (PureD.opD (p_ieq rfl rfl rfl)) ?_
    refine r_op rfl rfl (PureD.opD (p_move rfl rfl)) ?_
    refine (Classical.em (r'1.2 = r'2.2)).elim (fun h4 => ?_) (fun h4 => ?_)
    · replace H := ite_then h4 H
      refine r_on rfl rfl rfl rfl (decide_eq_true (p := r'1.2 = r'2.2) h4) rfl (PureD.opD (p_move rfl rfl)) ?_
      refine r_on rfl rfl rfl rfl (decide_eq_true (p := r'1.2 = r'2.2) h4) rfl (PureD.opD (p_move rfl rfl)) ?_
      refine bindK H fun r'4 h5 H => ?_
      refine r_on rfl rfl rfl rfl (decide_eq_true (p := r'1.2 = r'2.2) h4) rfl (PureD.opD (p_callp rfl rfl rfl Try.func12 rfl rfl (g_law_sameGrants_ac h5) ⟨rfl, rfl, trivial⟩)) ?_
      refine r_op rfl rfl (PureD.opD (p_pkt rfl rfl (decide_eq_true (p := r'1.2 = r'2.2) h4) (.same _))) ?_
      refine r_op rfl rfl (PureD.opD (p_asg rfl rfl)) ?_
      refine RunW_st [(4, .c (.p (AV.bool r'4)))] [] rfl ⟨TLes.same _, trivial⟩ trivial ?_
      have hz := some_elim H
      subst hz
      exact RunW_nil rfl
    · replace H := ite_else h4 H
      refine r_off rfl rfl rfl rfl (decide_eq_false (p := r'1.2 = r'2.2) h4) rfl rfl ?_
      refine r_off rfl rfl rfl rfl (decide_eq_false (p := r'1.2 = r'2.2) h4) rfl rfl ?_
      refine r_off rfl rfl rfl rfl (decide_eq_false (p := r'1.2 = r'2.2) h4) rfl rfl ?_
      refine r_op rfl rfl (PureD.opD (p_pkf rfl rfl (decide_eq_false (p := r'1.2 = r'2.2) h4) (.same _))) ?_
      refine r_op rfl rfl (PureD.opD (p_asg rfl rfl)) ?_
      refine RunW_st [(4, .c (.p (AV.bool false)))] [] rfl ⟨TLes.same _, trivial⟩ trivial ?_
      have hz := some_elim H
      subst hz
      exact RunW_nil rfl
  · refine AW2_ret ?_
    have hz := some_elim H
    subst hz
    exact ⟨⟨res_tmp (.same _), trivial⟩, trivial⟩
end Go.Proofs.Ytgbfmldbbnhefaa.VM
