/- Functions of the program, as they answer, and that their code comes to these answers. -/
import Derived.Test.YtgbfmldbbnhefaaGr9
namespace Go.Proofs.Ytgbfmldbbnhefaa.VM
open Go Go.RowKit



/-! right.May -/
noncomputable def g_right_May (l0 : List GGrant) (user1 : Int) (object2 : Int) (right3 : Int) : Option (Bool × Int) :=
  (g_right_asked l0 user1 object2 right3).bind fun r'1 => (if r'1 ≠ (0 : Int) then some (false, r'1) else (g_right_may l0 user1 object2 right3).bind fun r'2 => some (r'2, (0 : Int)))
set_option maxHeartbeats 4000000 in
set_option maxRecDepth 100000 in
theorem g_right_May_ac {l0 : List GGrant} {user1 : Int} {object2 : Int} {right3 : Int} {r : Bool × Int} (H : g_right_May l0 user1 object2 right3 = some r) : ACp Try.prog 15 [((fun q : List GGrant => AV.lst (q.flatMap GGrant.cs) q.length) l0), (AV.int user1), (AV.int object2), (AV.int right3)] (.tup [(AV.bool r.1), (AV.int r.2)]) := by
  refine ACp_of (AC2_of_body (vs := [.c (.p (AV.bool r.1)), .c (.p (AV.int r.2))]) Try.func15 rfl rfl (Nat.le_of_ble_eq_true rfl) rfl ?_) (fun _ => .same _)
  unfold g_right_May at H
  refine AW2_st [(0, .c (.p ((fun q : List GGrant => AV.lst (q.flatMap GGrant.cs) q.length) l0))), (1, .c (.p (AV.int user1))), (2, .c (.p (AV.int object2))), (3, .c (.p (AV.int right3)))] [] rfl ⟨TLes.same _, TLes.same _, TLes.same _, TLes.same _, trivial⟩ trivial ?_
  refine AW2_seq ?_
  refine AW2_reg [0, 1] rfl ?_
  refine r_op rfl rfl (PureD.opD (p_asg rfl rfl)) ?_
  refine r_op rfl rfl (PureD.opD (p_asg rfl rfl)) ?_
  refine RunW_st [(0, .c (.p ((fun q : List GGrant => AV.lst (q.flatMap GGrant.cs) q.length) l0))), (1, .c (.p (AV.int user1))), (2, .c (.p (AV.int object2))), (3, .c (.p (AV.int right3)))] [] rfl ⟨TLes.same _, TLes.same _, TLes.same _, TLes.same _, trivial⟩ trivial ?_
  refine RunW_nil ?_
  refine AW2_seq ?_
  refine AW2_seq ?_
  refine AW2_reg [0, 1, 2, 3, 4, 5] rfl ?_
  refine r_op rfl rfl (PureD.opD (p_move rfl rfl)) ?_
  refine r_op rfl rfl (PureD.opD (p_move rfl rfl)) ?_
  refine r_op rfl rfl (PureD.opD (p_move rfl rfl)) ?_
  refine r_op rfl rfl (PureD.opD (p_move rfl rfl)) ?_
  refine bindK H fun r'1 h1 H => ?_
  refine r_op rfl rfl (PureD.opD (p_callp rfl rfl rfl Try.func26 rfl rfl (g_right_asked_ac h1) ⟨rfl, rfl, rfl, rfl, trivial⟩)) ?_
  refine r_op rfl rfl (PureD.opD (p_asg rfl rfl)) ?_
  refine RunW_st [(0, .c (.p ((fun q : List GGrant => AV.lst (q.flatMap GGrant.cs) q.length) l0))), (1, .c (.p (AV.int user1))), (2, .c (.p (AV.int object2))), (3, .c (.p (AV.int right3))), (10, .c (.p (AV.int r'1)))] [] rfl ⟨TLes.same _, TLes.same _, TLes.same _, TLes.same _, TLes.same _, trivial⟩ trivial ?_
  refine RunW_nil ?_
  refine AW2_seq ?_
  refine AW2_reg [0, 1] rfl ?_
  refine r_op rfl rfl (PureD.opD (p_move rfl rfl)) ?_
  refine r_op rfl rfl (PureD.opD (p_ine rfl rfl rfl)) ?_
  refine RunW_st [(0, .c (.p ((fun q : List GGrant => AV.lst (q.flatMap GGrant.cs) q.length) l0))), (1, .c (.p (AV.int user1))), (2, .c (.p (AV.int object2))), (3, .c (.p (AV.int right3))), (10, .c (.p (AV.int r'1))), (17, .c (.p (.bool (decide (r'1 ≠ (0 : Int))))))] [] rfl ⟨TLes.same _, TLes.same _, TLes.same _, TLes.same _, TLes.same _, TLes.same _, trivial⟩ trivial ?_
  refine RunW_nil ?_
  refine AW2_if (p := r'1 ≠ (0 : Int)) rfl (fun h2 => ?_) (fun h2 => ?_)
  · replace H := ite_then h2 H
    refine AW2_seq ?_
    refine AW2_reg [0, 1, 2] rfl ?_
    refine r_op rfl rfl (PureD.opD (p_move rfl rfl)) ?_
    refine r_op rfl rfl (PureD.opD (p_asg rfl rfl)) ?_
    refine r_op rfl rfl (PureD.opD (p_asg rfl rfl)) ?_
    refine RunW_st [(8, .c (.p (AV.bool false))), (9, .c (.p (AV.int r'1)))] [] rfl ⟨TLes.same _, TLes.same _, trivial⟩ trivial ?_
    refine RunW_nil ?_
    refine AW2_ret ?_
    have hz := some_elim H
    subst hz
    exact ⟨⟨res_tmp (.same _), res_tmp (.same _), trivial⟩, trivial⟩
  · replace H := ite_else h2 H
    refine AW2_st [(0, .c (.p ((fun q : List GGrant => AV.lst (q.flatMap GGrant.cs) q.length) l0))), (1, .c (.p (AV.int user1))), (2, .c (.p (AV.int object2))), (3, .c (.p (AV.int right3)))] [] rfl ⟨TLes.same _, TLes.same _, TLes.same _, TLes.same _, trivial⟩ trivial ?_
    refine AW2_skip ?_
    refine AW2_seq ?_
    refine AW2_reg [0, 1, 2, 3, 4, 5, 6] rfl ?_
    refine r_op rfl rfl (PureD.opD (p_move rfl rfl)) ?_
    refine r_op rfl rfl (PureD.opD (p_move rfl rfl)) ?_
    refine r_op rfl rfl (PureD.opD (p_move rfl rfl)) ?_
    refine r_op rfl rfl (PureD.opD (p_move rfl rfl)) ?_
    refine bindK H fun r'2 h3 H => ?_
    refine r_op rfl rfl (PureD.opD (p_callp rfl rfl rfl Try.func30 rfl rfl (g_right_may_ac h3) ⟨rfl, rfl, rfl, rfl, trivial⟩)) ?_
    refine r_op rfl rfl (PureD.opD (p_asg rfl rfl)) ?_
    refine r_op rfl rfl (PureD.opD (p_asg rfl rfl)) ?_
    refine RunW_st [(8, .c (.p (AV.bool r'2))), (9, .c (.p (AV.int (0 : Int))))] [] rfl ⟨TLes.same _, TLes.same _, trivial⟩ trivial ?_
    refine RunW_nil ?_
    refine AW2_ret ?_
    have hz := some_elim H
    subst hz
    exact ⟨⟨res_tmp (.same _), res_tmp (.same _), trivial⟩, trivial⟩

/-! chirographref.MayOf -/
noncomputable def g_ref_MayOf (l0 : List GGrant) (user1 : Int) (object2 : Int) (right3 : Int) : Option (Bool × Int) :=
  (g_ref_rightFault l0 user1 object2 right3).bind fun r'1 => (if r'1 ≠ (0 : Int) then some (false, r'1) else (g_ref_Reached l0 user1 object2 right3).bind fun r'2 => some (r'2, (0 : Int)))
set_option maxHeartbeats 4000000 in
set_option maxRecDepth 100000 in
theorem g_ref_MayOf_ac {l0 : List GGrant} {user1 : Int} {object2 : Int} {right3 : Int} {r : Bool × Int} (H : g_ref_MayOf l0 user1 object2 right3 = some r) : ACp Try.prog 16 [((fun q : List GGrant => AV.lst (q.flatMap GGrant.cs) q.length) l0), (AV.int user1), (AV.int object2), (AV.int right3)] (.tup [(AV.bool r.1), (AV.int r.2)]) := by
  refine ACp_of (AC2_of_body (vs := [.c (.p (AV.bool r.1)), .c (.p (AV.int r.2))]) Try.func16 rfl rfl (Nat.le_of_ble_eq_true rfl) rfl ?_) (fun _ => .same _)
  unfold g_ref_MayOf at H
  refine AW2_st [(0, .c (.p ((fun q : List GGrant => AV.lst (q.flatMap GGrant.cs) q.length) l0))), (1, .c (.p (AV.int user1))), (2, .c (.p (AV.int object2))), (3, .c (.p (AV.int right3)))] [] rfl ⟨TLes.same _, TLes.same _, TLes.same _, TLes.same _, trivial⟩ trivial ?_
  refine AW2_seq ?_
  refine AW2_reg [0, 1] rfl ?_
  refine r_op rfl rfl (PureD.opD (p_asg rfl rfl)) ?_
  refine r_op rfl rfl (PureD.opD (p_asg rfl rfl)) ?_
  refine RunW_st [(0, .c (.p ((fun q : List GGrant => AV.lst (q.flatMap GGrant.cs) q.length) l0))), (1, .c (.p (AV.int user1))), (2, .c (.p (AV.int object2))), (3, .c (.p (AV.int right3)))] [] rfl ⟨TLes.same _, TLes.same _, TLes.same _, TLes.same _, trivial⟩ trivial ?_
  refine RunW_nil ?_
  refine AW2_seq ?_
  refine AW2_seq ?_
  refine AW2_reg [0, 1, 2, 3, 4, 5] rfl ?_
  refine r_op rfl rfl (PureD.opD (p_move rfl rfl)) ?_
  refine r_op rfl rfl (PureD.opD (p_move rfl rfl)) ?_
  refine r_op rfl rfl (PureD.opD (p_move rfl rfl)) ?_
  refine r_op rfl rfl (PureD.opD (p_move rfl rfl)) ?_
  refine bindK H fun r'1 h1 H => ?_
  refine r_op rfl rfl (PureD.opD (p_callp rfl rfl rfl Try.func28 rfl rfl (g_ref_rightFault_ac h1) ⟨rfl, rfl, rfl, rfl, trivial⟩)) ?_
  refine r_op rfl rfl (PureD.opD (p_asg rfl rfl)) ?_
  refine RunW_st [(0, .c (.p ((fun q : List GGrant => AV.lst (q.flatMap GGrant.cs) q.length) l0))), (1, .c (.p (AV.int user1))), (2, .c (.p (AV.int object2))), (3, .c (.p (AV.int right3))), (10, .c (.p (AV.int r'1)))] [] rfl ⟨TLes.same _, TLes.same _, TLes.same _, TLes.same _, TLes.same _, trivial⟩ trivial ?_
  refine RunW_nil ?_
  refine AW2_seq ?_
  refine AW2_reg [0, 1] rfl ?_
  refine r_op rfl rfl (PureD.opD (p_move rfl rfl)) ?_
  refine r_op rfl rfl (PureD.opD (p_ine rfl rfl rfl)) ?_
  refine RunW_st [(0, .c (.p ((fun q : List GGrant => AV.lst (q.flatMap GGrant.cs) q.length) l0))), (1, .c (.p (AV.int user1))), (2, .c (.p (AV.int object2))), (3, .c (.p (AV.int right3))), (10, .c (.p (AV.int r'1))), (17, .c (.p (.bool (decide (r'1 ≠ (0 : Int))))))] [] rfl ⟨TLes.same _, TLes.same _, TLes.same _, TLes.same _, TLes.same _, TLes.same _, trivial⟩ trivial ?_
  refine RunW_nil ?_
  refine AW2_if (p := r'1 ≠ (0 : Int)) rfl (fun h2 => ?_) (fun h2 => ?_)
  · replace H := ite_then h2 H
    refine AW2_seq ?_
    refine AW2_reg [0, 1, 2] rfl ?_
    refine r_op rfl rfl (PureD.opD (p_move rfl rfl)) ?_
    refine r_op rfl rfl (PureD.opD (p_asg rfl rfl)) ?_
    refine r_op rfl rfl (PureD.opD (p_asg rfl rfl)) ?_
    refine RunW_st [(8, .c (.p (AV.bool false))), (9, .c (.p (AV.int r'1)))] [] rfl ⟨TLes.same _, TLes.same _, trivial⟩ trivial ?_
    refine RunW_nil ?_
    refine AW2_ret ?_
    have hz := some_elim H
    subst hz
    exact ⟨⟨res_tmp (.same _), res_tmp (.same _), trivial⟩, trivial⟩
  · replace H := ite_else h2 H
    refine AW2_st [(0, .c (.p ((fun q : List GGrant => AV.lst (q.flatMap GGrant.cs) q.length) l0))), (1, .c (.p (AV.int user1))), (2, .c (.p (AV.int object2))), (3, .c (.p (AV.int right3)))] [] rfl ⟨TLes.same _, TLes.same _, TLes.same _, TLes.same _, trivial⟩ trivial ?_
    refine AW2_skip ?_
    refine AW2_seq ?_
    refine AW2_reg [0, 1, 2, 3, 4, 5, 6] rfl ?_
    refine r_op rfl rfl (PureD.opD (p_move rfl rfl)) ?_
    refine r_op rfl rfl (PureD.opD (p_move rfl rfl)) ?_
    refine r_op rfl rfl (PureD.opD (p_move rfl rfl)) ?_
    refine r_op rfl rfl (PureD.opD (p_move rfl rfl)) ?_
    refine bindK H fun r'2 h3 H => ?_
    refine r_op rfl rfl (PureD.opD (p_callp rfl rfl rfl Try.func31 rfl rfl (g_ref_Reached_ac h3) ⟨rfl, rfl, rfl, rfl, trivial⟩)) ?_
    refine r_op rfl rfl (PureD.opD (p_asg rfl rfl)) ?_
    refine r_op rfl rfl (PureD.opD (p_asg rfl rfl)) ?_
    refine RunW_st [(8, .c (.p (AV.bool r'2))), (9, .c (.p (AV.int (0 : Int))))] [] rfl ⟨TLes.same _, TLes.same _, trivial⟩ trivial ?_
    refine RunW_nil ?_
    refine AW2_ret ?_
    have hz := some_elim H
    subst hz
    exact ⟨⟨res_tmp (.same _), res_tmp (.same _), trivial⟩, trivial⟩

/-! chirographlaw.RightMay -/
noncomputable def g_law_RightMay (l0 : List GGrant) (user1 : Int) (object2 : Int) (which3 : Int) : Option (Bool) :=
  (g_right_May l0 user1 object2 which3).bind fun r'1 => (g_ref_MayOf l0 user1 object2 which3).bind fun r'2 => some (decide ((r'1.2 = r'2.2) ∧ (r'1.1 = r'2.1)))
set_option maxHeartbeats 4000000 in
set_option maxRecDepth 100000 in
theorem g_law_RightMay_ac {l0 : List GGrant} {user1 : Int} {object2 : Int} {which3 : Int} {r : Bool} (H : g_law_RightMay l0 user1 object2 which3 = some r) : ACp Try.prog 6 [((fun q : List GGrant => AV.lst (q.flatMap GGrant.cs) q.length) l0), (AV.int user1), (AV.int object2), (AV.int which3)] (AV.bool r) := by
  refine ACp_of (AC2_of_body (vs := [.c (.p (AV.bool r))]) Try.func6 rfl rfl (Nat.le_of_ble_eq_true rfl) rfl ?_) (fun _ => .same _)
  unfold g_law_RightMay at H
  refine AW2_st [(0, .c (.p ((fun q : List GGrant => AV.lst (q.flatMap GGrant.cs) q.length) l0))), (1, .c (.p (AV.int user1))), (2, .c (.p (AV.int object2))), (3, .c (.p (AV.int which3)))] [] rfl ⟨TLes.same _, TLes.same _, TLes.same _, TLes.same _, trivial⟩ trivial ?_
  refine AW2_seq ?_
  refine AW2_reg [0] rfl ?_
  refine r_op rfl rfl (PureD.opD (p_asg rfl rfl)) ?_
  refine RunW_st [(0, .c (.p ((fun q : List GGrant => AV.lst (q.flatMap GGrant.cs) q.length) l0))), (1, .c (.p (AV.int user1))), (2, .c (.p (AV.int object2))), (3, .c (.p (AV.int which3)))] [] rfl ⟨TLes.same _, TLes.same _, TLes.same _, TLes.same _, trivial⟩ trivial ?_
  refine RunW_nil ?_
  refine AW2_seq ?_
  refine AW2_reg [0, 1, 2, 3, 4, 5, 6, 7, 8, 9] rfl ?_
  refine r_op rfl rfl (PureD.opD (p_move rfl rfl)) ?_
  refine r_op rfl rfl (PureD.opD (p_move rfl rfl)) ?_
  refine r_op rfl rfl (PureD.opD (p_move rfl rfl)) ?_
  refine r_op rfl rfl (PureD.opD (p_move rfl rfl)) ?_
  refine bindK H fun r'1 h1 H => ?_
  refine r_op rfl rfl (PureD.opD (p_callp rfl rfl rfl Try.func15 rfl rfl (g_right_May_ac h1) ⟨rfl, rfl, rfl, rfl, trivial⟩)) ?_
  refine r_op rfl rfl (PureD.opD (p_move rfl rfl)) ?_
  refine r_op rfl rfl (PureD.opD (p_ext rfl rfl rfl rfl)) ?_
  refine r_op rfl rfl (PureD.opD (p_ext rfl rfl rfl rfl)) ?_
  refine r_op rfl rfl (PureD.opD (p_asg rfl rfl)) ?_
  refine r_op rfl rfl (PureD.opD (p_asg rfl rfl)) ?_
  refine RunW_st [(0, .c (.p ((fun q : List GGrant => AV.lst (q.flatMap GGrant.cs) q.length) l0))), (1, .c (.p (AV.int user1))), (2, .c (.p (AV.int object2))), (3, .c (.p (AV.int which3))), (9, .c (.p (AV.bool r'1.1))), (10, .c (.p (AV.int r'1.2)))] [] rfl ⟨TLes.same _, TLes.same _, TLes.same _, TLes.same _, TLes.same _, TLes.same _, trivial⟩ trivial ?_
  refine RunW_nil ?_
  refine AW2_seq ?_
  refine AW2_reg [0, 1, 2, 3, 4, 5, 6, 7, 8, 9] rfl ?_
  refine r_op rfl rfl (PureD.opD (p_move rfl rfl)) ?_
  refine r_op rfl rfl (PureD.opD (p_move rfl rfl)) ?_
  refine r_op rfl rfl (PureD.opD (p_move rfl rfl)) ?_
  refine r_op rfl rfl (PureD.opD (p_move rfl rfl)) ?_
  refine bindK H fun r'2 h2 H => ?_
  refine r_op rfl rfl (PureD.opD (p_callp rfl rfl rfl Try.func16 rfl rfl (g_ref_MayOf_ac h2) ⟨rfl, rfl, rfl, rfl, trivial⟩)) ?_
  refine r_op rfl rfl (PureD.opD (p_move rfl rfl)) ?_
  refine r_op rfl rfl (PureD.opD (p_ext rfl rfl rfl rfl)) ?_
  refine r_op rfl rfl (PureD.opD (p_ext rfl rfl rfl rfl)) ?_
  refine r_op rfl rfl (PureD.opD (p_asg rfl rfl)) ?_
  refine r_op rfl rfl (PureD.opD (p_asg rfl rfl)) ?_
  refine RunW_st [(9, .c (.p (AV.bool r'1.1))), (10, .c (.p (AV.int r'1.2))), (11, .c (.p (AV.bool r'2.1))), (12, .c (.p (AV.int r'2.2)))] [] rfl ⟨TLes.same _, TLes.same _, TLes.same _, TLes.same _, trivial⟩ trivial ?_
  refine RunW_nil ?_
  refine AW2_seq ?_
  refine AW2_mid (⟨[(8, .c (.p (.bool (decide ((r'1.2 = r'2.2) ∧ (r'1.1 = r'2.1))))))], [], 37⟩ : TS) ?_ ?_
  · refine AW2_reg [0, 1, 2, 3, 4, 5, 6, 7, 8] rfl ?_
    refine r_op rfl rfl (PureD.opD (p_move rfl rfl)) ?_
    refine r_op rfl rfl (PureD.opD (p_move rfl rfl)) ?_
    refine r_op rfl rfl (PureD.opD (p_ieq rfl rfl rfl)) ?_
    refine r_op rfl rfl (PureD.opD (p_move rfl rfl)) ?_
    refine (Classical.em (r'1.2 = r'2.2)).elim (fun h3 => ?_) (fun h3 => ?_)
    · refine r_on rfl rfl rfl rfl (decide_eq_true (p := r'1.2 = r'2.2) h3) rfl (PureD.opD (p_move rfl rfl)) ?_
      refine r_on rfl rfl rfl rfl (decide_eq_true (p := r'1.2 = r'2.2) h3) rfl (PureD.opD (p_move rfl rfl)) ?_
      refine r_on rfl rfl rfl rfl (decide_eq_true (p := r'1.2 = r'2.2) h3) rfl (PureD.opD (p_beqp rfl Try.underlying4 rfl rfl)) ?_
      refine r_op rfl rfl (PureD.opD (p_pkt rfl rfl (decide_eq_true (p := r'1.2 = r'2.2) h3) (tb ((and_l (p := r'1.2 = r'2.2) (q := r'1.1 = r'2.1) h3))))) ?_
      refine r_op rfl rfl (PureD.opD (p_asg rfl rfl)) ?_
      refine RunW_st [(8, .c (.p (.bool (decide ((r'1.2 = r'2.2) ∧ (r'1.1 = r'2.1))))))] [] rfl ⟨TLes.same _, trivial⟩ trivial ?_
      exact RunW_nil rfl
    · refine r_off rfl rfl rfl rfl (decide_eq_false (p := r'1.2 = r'2.2) h3) rfl rfl ?_
      refine r_off rfl rfl rfl rfl (decide_eq_false (p := r'1.2 = r'2.2) h3) rfl rfl ?_
      refine r_off rfl rfl rfl rfl (decide_eq_false (p := r'1.2 = r'2.2) h3) rfl rfl ?_
      refine r_op rfl rfl (PureD.opD (p_pkf rfl rfl (decide_eq_false (p := r'1.2 = r'2.2) h3) (tb (decide_eq_false (p := (r'1.2 = r'2.2) ∧ (r'1.1 = r'2.1)) (fun x => h3 x.1)).symm))) ?_
      refine r_op rfl rfl (PureD.opD (p_asg rfl rfl)) ?_
      refine RunW_st [(8, .c (.p (.bool (decide ((r'1.2 = r'2.2) ∧ (r'1.1 = r'2.1))))))] [] rfl ⟨TLes.same _, trivial⟩ trivial ?_
      exact RunW_nil rfl
  · refine AW2_ret ?_
    have hz := some_elim H
    subst hz
    exact ⟨⟨res_tmp (.same _), trivial⟩, trivial⟩

/-! right.Give -/
noncomputable def g_right_Give_l0 (l0 : List GGrant) : Bool × Int × GGrant × (List GGrant) → Option ((Bool × Int × GGrant × (List GGrant)) ⊕ ((Bool × GGrant × (List GGrant))))
  | (in9_0, t33_0, g3_0, out8_0) => (if t33_0 < (l0.length : Int) then (if 0 ≤ t33_0 ∧ t33_0 < (l0.length : Int) then (g_right_placed (lrd l0 t33_0.toNat)).bind fun r'5 => (g_right_placed g3_0).bind fun r'6 => (if r'5 = r'6 then letO ({ g3_0 with Option := (decide ((g3_0.Option = true) ∨ (((lrd l0 t33_0.toNat).Option) = true))) }) fun g3'7 => some (in9_0, g3'7, out8_0) else (((if (!in9_0) = true then (g_right_placed g3_0).bind fun r'9 => (g_right_placed (lrd l0 t33_0.toNat)).bind fun r'10 => (g_right_place_before r'9 r'10).bind fun r'11 => some r'11 else some false)).bind fun g'12 => (if g'12 = true then if room (out8_0.length + ([g3_0] : List GGrant).length) 40 then some (true, out8_0 ++ ([g3_0] : List GGrant)) else none else some (in9_0, out8_0))).bind fun j'8 => if room (j'8.2.length + ([(lrd l0 t33_0.toNat)] : List GGrant).length) 40 then some (j'8.1, g3_0, j'8.2 ++ ([(lrd l0 t33_0.toNat)] : List GGrant)) else none) else none).bind fun j'4 => some (.inl (j'4.1, w64 (t33_0 + (1 : Int)), j'4.2.1, j'4.2.2)) else some (.inr (in9_0, g3_0, out8_0)))
noncomputable def g_right_Give (l0 : List GGrant) (g1 : GGrant) : Option ((List GGrant) × Int) :=
  (g_right_Check l0).bind fun r'1 => (if r'1 ≠ (0 : Int) then some ([], r'1) else (g_right_bounds g1).bind fun r'2 => (if r'2 ≠ (0 : Int) then some ([], r'2) else (g_right_may l0 g1.From g1.Object g1.Right).bind fun r'3 => (if (!r'3) = true then some ([], (5 : Int)) else (loopO (g_right_Give_l0 l0) (false, (0 : Int), g1, ([] : List GGrant))).bind fun y'16 => ((if (!y'16.1) = true then if room (y'16.2.2.length + ([y'16.2.1] : List GGrant).length) 40 then some (y'16.2.2 ++ ([y'16.2.1] : List GGrant)) else none else some y'16.2.2)).bind fun j'17 => some (j'17, (0 : Int)))))
set_option maxHeartbeats 4000000 in
set_option maxRecDepth 100000 in
theorem g_right_Give_ac {l0 : List GGrant} {g1 : GGrant} {r : (List GGrant) × Int} (H : g_right_Give l0 g1 = some r) : ACp Try.prog 17 [((fun q : List GGrant => AV.lst (q.flatMap GGrant.cs) q.length) l0), (.agg (GGrant.cs g1))] (.tup [((fun q : List GGrant => AV.lst (q.flatMap GGrant.cs) q.length) r.1), (AV.int r.2)]) := by
  refine ACp_of (AC2_of_body (vs := [.c (.p ((fun q : List GGrant => AV.lst (q.flatMap GGrant.cs) q.length) r.1)), .c (.p (AV.int r.2))]) Try.func17 rfl rfl (Nat.le_of_ble_eq_true rfl) rfl ?_) (fun _ => .same _)
  unfold g_right_Give at H
  refine AW2_st [(0, .c (.p ((fun q : List GGrant => AV.lst (q.flatMap GGrant.cs) q.length) l0))), (1, .c (.p (.agg (GGrant.cs g1))))] [] rfl ⟨TLes.same _, TLes.same _, trivial⟩ trivial ?_
  refine AW2_seq ?_
  refine AW2_reg [0, 1, 2] rfl ?_
  refine r_op rfl rfl (MakeD.opD (n_box 3 rfl rfl) rfl rfl rfl rfl) ?_
  refine r_op rfl rfl (PureD.opD (p_asgn rfl)) ?_
  refine r_op rfl rfl (PureD.opD (p_asg rfl rfl)) ?_
  refine RunW_st [(0, .c (.p ((fun q : List GGrant => AV.lst (q.flatMap GGrant.cs) q.length) l0))), (3, .c (.ptr 3 (0)))] [(3, .pure (GGrant.cs g1))] rfl ⟨TLes.same _, TLes.same _, trivial⟩ ⟨rfl, trivial⟩ ?_
  refine RunW_nil ?_
  refine AW2_seq ?_
  refine AW2_seq ?_
  refine AW2_reg [0, 1, 2] rfl ?_
  refine r_op rfl rfl (PureD.opD (p_move rfl rfl)) ?_
  refine bindK H fun r'1 h1 H => ?_
  refine r_op rfl rfl (PureD.opD (p_callp rfl rfl rfl Try.func8 rfl rfl (g_right_Check_ac h1) ⟨rfl, trivial⟩)) ?_
  refine r_op rfl rfl (PureD.opD (p_asg rfl rfl)) ?_
  refine RunW_st [(0, .c (.p ((fun q : List GGrant => AV.lst (q.flatMap GGrant.cs) q.length) l0))), (3, .c (.ptr 3 (0))), (6, .c (.p (AV.int r'1)))] [(3, .pure (GGrant.cs g1))] rfl ⟨TLes.same _, TLes.same _, TLes.same _, trivial⟩ ⟨rfl, trivial⟩ ?_
  refine RunW_nil ?_
  refine AW2_seq ?_
  refine AW2_reg [0, 1] rfl ?_
  refine r_op rfl rfl (PureD.opD (p_move rfl rfl)) ?_
  refine r_op rfl rfl (PureD.opD (p_ine rfl rfl rfl)) ?_
  refine RunW_st [(0, .c (.p ((fun q : List GGrant => AV.lst (q.flatMap GGrant.cs) q.length) l0))), (3, .c (.ptr 3 (0))), (6, .c (.p (AV.int r'1))), (15, .c (.p (.bool (decide (r'1 ≠ (0 : Int))))))] [(3, .pure (GGrant.cs g1))] rfl ⟨TLes.same _, TLes.same _, TLes.same _, TLes.same _, trivial⟩ ⟨rfl, trivial⟩ ?_
  refine RunW_nil ?_
  refine AW2_if (p := r'1 ≠ (0 : Int)) rfl (fun h2 => ?_) (fun h2 => ?_)
  · replace H := ite_then h2 H
    refine AW2_seq ?_
    refine AW2_reg [0, 1, 2] rfl ?_
    refine r_op rfl rfl (PureD.opD (p_move rfl rfl)) ?_
    refine r_op rfl rfl (PureD.opD (p_asgn rfl)) ?_
    refine r_op rfl rfl (PureD.opD (p_asg rfl rfl)) ?_
    refine RunW_st [(4, .c (.p .nil)), (5, .c (.p (AV.int r'1)))] [] rfl ⟨TLes.same _, TLes.same _, trivial⟩ trivial ?_
    refine RunW_nil ?_
    refine AW2_ret ?_
    have hz := some_elim H
    subst hz
    exact ⟨⟨res_tmp TLes.nil0, res_tmp (.same _), trivial⟩, trivial⟩
  · replace H := ite_else h2 H
    refine AW2_st [(0, .c (.p ((fun q : List GGrant => AV.lst (q.flatMap GGrant.cs) q.length) l0))), (3, .c (.ptr 3 (0)))] [(3, .pure (GGrant.cs g1))] rfl ⟨TLes.same _, TLes.same _, trivial⟩ ⟨rfl, trivial⟩ ?_
    refine AW2_skip ?_
    refine AW2_seq ?_
    refine AW2_seq ?_
    refine AW2_reg [0, 1, 2] rfl ?_
    refine r_op rfl rfl (PureD.opD (u_lda rfl rfl Try.underlying27 rfl in_27 rfl (Nat.succ_pos _) (Sub.refl _) (GGrant.len g1))) ?_
    refine bindK H fun r'2 h3 H => ?_
    refine r_op rfl rfl (PureD.opD (p_callp rfl rfl rfl Try.func19 rfl rfl (g_right_bounds_ac h3) ⟨rfl, trivial⟩)) ?_
    refine r_op rfl rfl (PureD.opD (p_asg rfl rfl)) ?_
    refine RunW_st [(0, .c (.p ((fun q : List GGrant => AV.lst (q.flatMap GGrant.cs) q.length) l0))), (3, .c (.ptr 3 (0))), (7, .c (.p (AV.int r'2)))] [(3, .pure (GGrant.cs g1))] rfl ⟨TLes.same _, TLes.same _, TLes.same _, trivial⟩ ⟨rfl, trivial⟩ ?_
    refine RunW_nil ?_
    refine AW2_seq ?_
    refine AW2_reg [0, 1] rfl ?_
    refine r_op rfl rfl (PureD.opD (p_move rfl rfl)) ?_
    refine r_op rfl rfl (PureD.opD (p_ine rfl rfl rfl)) ?_
    refine RunW_st [(0, .c (.p ((fun q : List GGrant => AV.lst (q.flatMap GGrant.cs) q.length) l0))), (3, .c (.ptr 3 (0))), (7, .c (.p (AV.int r'2))), (20, .c (.p (.bool (decide (r'2 ≠ (0 : Int))))))] [(3, .pure (GGrant.cs g1))] rfl ⟨TLes.same _, TLes.same _, TLes.same _, TLes.same _, trivial⟩ ⟨rfl, trivial⟩ ?_
    refine RunW_nil ?_
    refine AW2_if (p := r'2 ≠ (0 : Int)) rfl (fun h4 => ?_) (fun h4 => ?_)
    · replace H := ite_then h4 H
      refine AW2_seq ?_
      refine AW2_reg [0, 1, 2] rfl ?_
      refine r_op rfl rfl (PureD.opD (p_move rfl rfl)) ?_
      refine r_op rfl rfl (PureD.opD (p_asgn rfl)) ?_
      refine r_op rfl rfl (PureD.opD (p_asg rfl rfl)) ?_
      refine RunW_st [(4, .c (.p .nil)), (5, .c (.p (AV.int r'2)))] [] rfl ⟨TLes.same _, TLes.same _, trivial⟩ trivial ?_
      refine RunW_nil ?_
      refine AW2_ret ?_
      have hz := some_elim H
      subst hz
      exact ⟨⟨res_tmp TLes.nil0, res_tmp (.same _), trivial⟩, trivial⟩
    · replace H := ite_else h4 H
      refine AW2_st [(0, .c (.p ((fun q : List GGrant => AV.lst (q.flatMap GGrant.cs) q.length) l0))), (3, .c (.ptr 3 (0)))] [(3, .pure (GGrant.cs g1))] rfl ⟨TLes.same _, TLes.same _, trivial⟩ ⟨rfl, trivial⟩ ?_
      refine AW2_skip ?_
      refine AW2_seq ?_
      refine AW2_seq ?_
      refine AW2_reg [0, 1, 2, 3, 4, 5, 6, 7, 8] rfl ?_
      refine r_op rfl rfl (PureD.opD (p_move rfl rfl)) ?_
      refine r_op rfl rfl (PureD.opD (u_fa rfl rfl Try.underlying27 rfl in_3 (Nat.succ_ne_zero _) rfl rfl (ne_of_lt (n := 0) (Nat.lt_of_lt_of_eq (by decide) (Eq.symm (GGrant.len g1)))))) ?_
      refine r_op rfl rfl (PureD.opD (u_ld rfl rfl Try.underlying3 rfl rfl ((Sub.refl _).trans (GGrant.sub0 g1)))) ?_
      refine r_op rfl rfl (PureD.opD (u_fa rfl rfl Try.underlying27 rfl in_3 (Nat.succ_ne_zero _) rfl rfl (ne_of_lt (n := 0) (Nat.lt_of_lt_of_eq (by decide) (Eq.symm (GGrant.len g1)))))) ?_
      refine r_op rfl rfl (PureD.opD (u_ld rfl rfl Try.underlying3 rfl rfl ((Sub.refl _).trans (GGrant.sub2 g1)))) ?_
      refine r_op rfl rfl (PureD.opD (u_fa rfl rfl Try.underlying27 rfl in_3 (Nat.succ_ne_zero _) rfl rfl (ne_of_lt (n := 0) (Nat.lt_of_lt_of_eq (by decide) (Eq.symm (GGrant.len g1)))))) ?_
      refine r_op rfl rfl (PureD.opD (u_ld rfl rfl Try.underlying3 rfl rfl ((Sub.refl _).trans (GGrant.sub3 g1)))) ?_
      refine bindK H fun r'3 h5 H => ?_
      refine r_op rfl rfl (PureD.opD (p_callp rfl rfl rfl Try.func30 rfl rfl (g_right_may_ac h5) ⟨rfl, rfl, rfl, rfl, trivial⟩)) ?_
      refine r_op rfl rfl (PureD.opD (p_not rfl rfl)) ?_
      refine RunW_st [(0, .c (.p ((fun q : List GGrant => AV.lst (q.flatMap GGrant.cs) q.length) l0))), (3, .c (.ptr 3 (0))), (30, .c (.p (AV.bool (!r'3))))] [(3, .pure (GGrant.cs g1))] rfl ⟨TLes.same _, TLes.same _, TLes.same _, trivial⟩ ⟨rfl, trivial⟩ ?_
      refine RunW_nil ?_
      refine AW2_cond rfl (fun h6 => ?_) (fun h6 => ?_)
      · replace H := ite_then h6 H
        refine AW2_seq ?_
        refine AW2_reg [0, 1] rfl ?_
        refine r_op rfl rfl (PureD.opD (p_asgn rfl)) ?_
        refine r_op rfl rfl (PureD.opD (p_asg rfl rfl)) ?_
        refine RunW_st [(4, .c (.p .nil)), (5, .c (.p (AV.int (5 : Int))))] [] rfl ⟨TLes.same _, TLes.same _, trivial⟩ trivial ?_
        refine RunW_nil ?_
        refine AW2_ret ?_
        have hz := some_elim H
        subst hz
        exact ⟨⟨res_tmp TLes.nil0, res_tmp (.same _), trivial⟩, trivial⟩
      · replace H := ite_else (ne_true h6) H
        refine AW2_st [(0, .c (.p ((fun q : List GGrant => AV.lst (q.flatMap GGrant.cs) q.length) l0))), (3, .c (.ptr 3 (0)))] [(3, .pure (GGrant.cs g1))] rfl ⟨TLes.same _, TLes.same _, trivial⟩ ⟨rfl, trivial⟩ ?_
        refine AW2_skip ?_
        refine AW2_seq ?_
        refine AW2_reg [0] rfl ?_
        refine r_op rfl rfl (PureD.opD (p_asgn rfl)) ?_
        refine RunW_st [(0, .c (.p ((fun q : List GGrant => AV.lst (q.flatMap GGrant.cs) q.length) l0))), (3, .c (.ptr 3 (0))), (8, .c (.p .nil))] [(3, .pure (GGrant.cs g1))] rfl ⟨TLes.same _, TLes.same _, TLes.same _, trivial⟩ ⟨rfl, trivial⟩ ?_
        refine RunW_nil ?_
        refine AW2_seq ?_
        refine AW2_reg [0] rfl ?_
        refine r_op rfl rfl (PureD.opD (p_asg rfl rfl)) ?_
        refine RunW_st [(0, .c (.p ((fun q : List GGrant => AV.lst (q.flatMap GGrant.cs) q.length) l0))), (3, .c (.ptr 3 (0))), (8, .c (.p .nil)), (9, .c (.p (AV.bool false)))] [(3, .pure (GGrant.cs g1))] rfl ⟨TLes.same _, TLes.same _, TLes.same _, TLes.same _, trivial⟩ ⟨rfl, trivial⟩ ?_
        refine RunW_nil ?_
        refine AW2_seq ?_
        refine AW2_seq ?_
        refine AW2_reg [0, 1, 2] rfl ?_
        refine r_op rfl rfl (PureD.opD (p_move rfl rfl)) ?_
        refine r_op rfl rfl (PureD.opD (p_lenl rfl Try.underlying22 rfl rfl)) ?_
        refine r_op rfl rfl (PureD.opD (p_move rfl rfl)) ?_
        refine RunW_st [(3, .c (.ptr 3 (0))), (8, .c (.p .nil)), (9, .c (.p (AV.bool false))), (31, .c (.p ((fun q : List GGrant => AV.lst (q.flatMap GGrant.cs) q.length) l0))), (32, .c (.p (AV.int (l0.length : Int)))), (33, .c (.p (AV.int (0 : Int))))] [(3, .pure (GGrant.cs g1))] rfl ⟨TLes.same _, TLes.same _, TLes.same _, TLes.same _, TLes.same _, TLes.same _, trivial⟩ ⟨rfl, trivial⟩ ?_
        refine RunW_nil ?_
        refine AW2_block ?_
        refine AW2_st [(3, .c (.ptr 3 (0))), (8, .c (.p .nil)), (9, .c (.p (AV.bool false))), (31, .c (.p ((fun q : List GGrant => AV.lst (q.flatMap GGrant.cs) q.length) l0))), (32, .c (.p (AV.int (l0.length : Int)))), (33, .c (.p (AV.int (0 : Int))))] [(3, .pure (GGrant.cs g1))] rfl ⟨TLes.same _, TLes.same _, TLes.same _, TLes.same _, TLes.same _, TLes.same _, trivial⟩ ⟨rfl, trivial⟩ ?_
        refine AW2_gho (Gho_own (d := 8) (b := 8) (z := 5) rfl rfl rfl rfl) ?_
        refine AW2_st [(3, .c (.ptr 3 (0))), (8, .c (.own 8 ([] : List GGrant).length 5)), (9, .c (.p (AV.bool false))), (31, .c (.p ((fun q : List GGrant => AV.lst (q.flatMap GGrant.cs) q.length) l0))), (32, .c (.p (AV.int (l0.length : Int)))), (33, .c (.p (AV.int (0 : Int))))] [(3, .pure (GGrant.cs g1)), (8, .pure (([] : List GGrant).flatMap GGrant.cs))] rfl ⟨TLes.same _, TLes.own rfl, TLes.same _, TLes.same _, TLes.same _, TLes.same _, trivial⟩ ⟨rfl, rfl, trivial⟩ ?_
        refine bindK H fun y'16 h23 H => ?_
        refine AW2_loopO (fun a'13 : Bool × Int × GGrant × (List GGrant) => (⟨[(3, .c (.ptr 3 (0))), (8, .c (.own 8 a'13.2.2.2.length 5)), (9, .c (.p (AV.bool a'13.1))), (31, .c (.p ((fun q : List GGrant => AV.lst (q.flatMap GGrant.cs) q.length) l0))), (32, .c (.p (AV.int (l0.length : Int)))), (33, .c (.p (AV.int a'13.2.1)))], [(3, .pure (GGrant.cs a'13.2.2.1)), (8, .pure (a'13.2.2.2.flatMap GGrant.cs))], 74⟩ : TS)) (fun (y'14 : (Bool × GGrant × (List GGrant))) e s' => e = Go.Exit.exit 0 ∧ s' = (⟨[(3, .c (.ptr 3 (0))), (8, .c (.own 8 y'14.2.2.length 5)), (9, .c (.p (AV.bool y'14.1)))], [(3, .pure (GGrant.cs y'14.2.1)), (8, .pure (y'14.2.2.flatMap GGrant.cs))], 74⟩ : TS)) h23 rfl (fun a x hx => ?_) (fun e s' hs => ?_)
        · clear H
          obtain ⟨in9_0, t33_0, g3_0, out8_0⟩ := a
          have H := hx
          clear hx
          unfold g_right_Give_l0 at H
          refine AW2_seq ?_
          refine AW2_reg [0] rfl ?_
          refine r_op rfl rfl (PureD.opD (p_bin rfl rfl rfl rfl)) ?_
          refine RunW_st [(3, .c (.ptr 3 (0))), (8, .c (.own 8 out8_0.length 5)), (9, .c (.p (AV.bool in9_0))), (31, .c (.p ((fun q : List GGrant => AV.lst (q.flatMap GGrant.cs) q.length) l0))), (32, .c (.p (AV.int (l0.length : Int)))), (33, .c (.p (AV.int t33_0))), (34, .c (.p (.bool (decide (t33_0 < (l0.length : Int))))))] [(3, .pure (GGrant.cs g3_0)), (8, .pure (out8_0.flatMap GGrant.cs))] rfl ⟨TLes.same _, TLes.same _, TLes.same _, TLes.same _, TLes.same _, TLes.same _, TLes.same _, trivial⟩ ⟨rfl, rfl, trivial⟩ ?_
          refine RunW_nil ?_
          refine AW2_seq ?_
          refine AW2_if (p := t33_0 < (l0.length : Int)) rfl (fun h7 => ?_) (fun h7 => ?_)
          · replace H := ite_then h7 H
            refine AW2_st [(3, .c (.ptr 3 (0))), (8, .c (.own 8 out8_0.length 5)), (9, .c (.p (AV.bool in9_0))), (31, .c (.p ((fun q : List GGrant => AV.lst (q.flatMap GGrant.cs) q.length) l0))), (32, .c (.p (AV.int (l0.length : Int)))), (33, .c (.p (AV.int t33_0)))] [(3, .pure (GGrant.cs g3_0)), (8, .pure (out8_0.flatMap GGrant.cs))] rfl ⟨TLes.same _, TLes.same _, TLes.same _, TLes.same _, TLes.same _, TLes.same _, trivial⟩ ⟨rfl, rfl, trivial⟩ ?_
            refine AW2_skip ?_
            refine AW2_seq ?_
            refine bindK H fun j'4 h8 H => ?_
            refine AW2_mid (⟨[(3, .c (.ptr 3 (0))), (8, .c (.own 8 j'4.2.2.length 5)), (9, .c (.p (AV.bool j'4.1))), (31, .c (.p ((fun q : List GGrant => AV.lst (q.flatMap GGrant.cs) q.length) l0))), (32, .c (.p (AV.int (l0.length : Int)))), (33, .c (.p (AV.int t33_0)))], [(3, .pure (GGrant.cs j'4.2.1)), (8, .pure (j'4.2.2.flatMap GGrant.cs))], 74⟩ : TS) ?_ ?_
            · clear H
              have H := h8
              clear h8
              refine AW2_block ?_
              refine AW2_seq ?_
              refine AW2_reg [0, 1, 2, 3] rfl ?_
              refine chkK H fun h9 H => ?_
              refine r_op rfl rfl (PureD.opD (u_ixl rfl rfl Try.underlying22 in_27 rfl rfl (ixe h9) (ixn h9) (fne (fun x => (GGrant.len x)) (by decide) (ixn h9)))) ?_
              refine r_op rfl rfl (PureD.opD (u_lda rfl rfl Try.underlying27 rfl in_27 rfl (Nat.succ_pos _) (Sub.fm default (fun x => (GGrant.len x)) (ixn h9)) (GGrant.len (lrd l0 t33_0.toNat)))) ?_
              refine r_op rfl rfl (MakeD.opD (u_alloc 11 rfl in_27 one_27 zc_27) rfl rfl rfl rfl) ?_
              refine r_op rfl rfl (u_st rfl rfl rfl rfl rfl in_27 (GGrant.len (lrd l0 t33_0.toNat)) (ne_of_lt (n := 0) (Nat.lt_of_lt_of_eq (by decide) (Eq.symm (GGrant.len GGrant.zero)))) (Upd.refl ((GGrant.len (lrd l0 t33_0.toNat)).trans (GGrant.len GGrant.zero).symm))) ?_
              refine RunW_st [(3, .c (.ptr 3 (0))), (8, .c (.own 8 out8_0.length 5)), (9, .c (.p (AV.bool in9_0))), (11, .c (.ptr 11 (0))), (31, .c (.p ((fun q : List GGrant => AV.lst (q.flatMap GGrant.cs) q.length) l0))), (32, .c (.p (AV.int (l0.length : Int)))), (33, .c (.p (AV.int t33_0)))] [(3, .pure (GGrant.cs g3_0)), (8, .pure (out8_0.flatMap GGrant.cs)), (11, .pure (GGrant.cs (lrd l0 t33_0.toNat)))] rfl ⟨TLes.same _, TLes.same _, TLes.same _, TLes.same _, TLes.same _, TLes.same _, TLes.same _, trivial⟩ ⟨rfl, rfl, rfl, trivial⟩ ?_
              refine RunW_nil ?_
              refine AW2_seq ?_
              refine AW2_seq ?_
              refine bindK H fun r'5 h10 H => ?_
              refine bindK H fun r'6 h11 H => ?_
              refine AW2_ghoQ ?_
              refine AW2_draw 3 [3, 4] (fun k => ([.c (.p (.agg (GGrant.cs (lrd l0 t33_0.toNat)))), .c (.p (.agg (Gright_place.cs r'5))), .c (.p (.agg (GGrant.cs g3_0)))] : List TV).getD k TV.any) (fun k => ([[(11, none)], [(37, some 0)], [(3, none)]] : List (List (Nat × Option Nat))).getD k []) [(3, none), (8, none), (9, none), (11, none), (31, none), (32, none), (33, none), (38, some 1), (39, some 2)] [] (fun k => ([[], [0], [], [0, 1, 2], [0, 1, 2, 3]] : List (List Nat)).getD k []) mixed (by kernel_rfl) rfl rfl (a_op (g_x rfl (x_p rfl (u_lda rfl rfl Try.underlying27 rfl in_27 rfl (Nat.succ_pos _) (Sub.refl _) (GGrant.len (lrd l0 t33_0.toNat))) rfl)) (a_op (g_x rfl (x_p rfl (p_callp rfl rfl rfl Try.func20 rfl rfl (g_right_placed_ac h10) ⟨rfl, trivial⟩) rfl)) (a_op (g_x rfl (x_p rfl (u_lda rfl rfl Try.underlying27 rfl in_27 rfl (Nat.succ_pos _) (Sub.refl _) (GGrant.len g3_0)) rfl)) (a_nil)))) ?_
              refine t_op rfl rfl (PureD.opD (p_callp rfl rfl rfl Try.func20 rfl rfl (g_right_placed_ac h11) ⟨rfl, trivial⟩)) ?_
              refine t_op rfl rfl (PureD.opD (p_eqa (a := r'5) (b := r'6) rfl eq_37 rfl (by kernel_rfl) rfl rfl)) ?_
              refine t_gho (Gho_st (L := [(3, .c (.ptr 3 (0))), (8, .c (.own 8 out8_0.length 5)), (9, .c (.p (AV.bool in9_0))), (11, .c (.ptr 11 (0))), (31, .c (.p ((fun q : List GGrant => AV.lst (q.flatMap GGrant.cs) q.length) l0))), (32, .c (.p (AV.int (l0.length : Int)))), (33, .c (.p (AV.int t33_0))), (41, .c (.p (.bool (decide (r'5 = r'6)))))]) (H := [(3, .pure (GGrant.cs g3_0)), (8, .pure (out8_0.flatMap GGrant.cs)), (11, .pure (GGrant.cs (lrd l0 t33_0.toNat)))]) rfl ⟨TLes.same _, TLes.same _, TLes.same _, TLes.same _, TLes.same _, TLes.same _, TLes.same _, TLes.same _, trivial⟩ ⟨rfl, rfl, rfl, trivial⟩) ?_
              refine AW2_if (p := r'5 = r'6) rfl (fun h12 => ?_) (fun h12 => ?_)
              · replace H := ite_then h12 H
                refine AW2_seq ?_
                refine AW2_mid (⟨[(3, .c (.ptr 3 (0))), (8, .c (.own 8 out8_0.length 5)), (9, .c (.p (AV.bool in9_0))), (31, .c (.p ((fun q : List GGrant => AV.lst (q.flatMap GGrant.cs) q.length) l0))), (32, .c (.p (AV.int (l0.length : Int)))), (33, .c (.p (AV.int t33_0)))], [(3, .pure (GGrant.cs ({ g3_0 with Option := (decide ((g3_0.Option = true) ∨ (((lrd l0 t33_0.toNat).Option) = true))) }))), (8, .pure (out8_0.flatMap GGrant.cs))], 74⟩ : TS) ?_ ?_
                · refine AW2_reg [0, 1, 2, 3, 4, 5, 6, 7] rfl ?_
                  refine r_op rfl rfl (PureD.opD (u_fa rfl rfl Try.underlying27 rfl in_4 (Nat.succ_ne_zero _) rfl rfl (ne_of_lt (n := 0) (Nat.lt_of_lt_of_eq (by decide) (Eq.symm (GGrant.len g3_0)))))) ?_
                  refine r_op rfl rfl (PureD.opD (u_ld rfl rfl Try.underlying4 rfl rfl ((Sub.refl _).trans (GGrant.sub4 g3_0)))) ?_
                  refine r_op rfl rfl (PureD.opD (p_move rfl rfl)) ?_
                  refine (Classical.em (g3_0.Option = true)).elim (fun h13 => ?_) (fun h13 => ?_)
                  · refine r_off rfl rfl rfl rfl h13 rfl rfl ?_
                    refine r_off rfl rfl rfl rfl h13 rfl rfl ?_
                    refine r_op rfl rfl (PureD.opD (p_pkt rfl rfl h13 (tb (decide_eq_true (p := (g3_0.Option = true) ∨ (((lrd l0 t33_0.toNat).Option) = true)) (Or.inl h13)).symm))) ?_
                    refine r_op rfl rfl (PureD.opD (u_fa rfl rfl Try.underlying27 rfl in_4 (Nat.succ_ne_zero _) rfl rfl (ne_of_lt (n := 0) (Nat.lt_of_lt_of_eq (by decide) (Eq.symm (GGrant.len g3_0)))))) ?_
                    refine r_op rfl rfl (u_st rfl rfl rfl rfl rfl in_4 rfl (ne_of_lt (n := 0) (Nat.lt_of_lt_of_eq (by decide) (Eq.symm (GGrant.len g3_0)))) (Upd.trans (Sub.refl _) (GGrant.upd4 g3_0 (decide ((g3_0.Option = true) ∨ (((lrd l0 t33_0.toNat).Option) = true)))) (Upd.refl ((GGrant.len ({ g3_0 with Option := (decide ((g3_0.Option = true) ∨ (((lrd l0 t33_0.toNat).Option) = true))) })).trans (GGrant.len g3_0).symm)))) ?_
                    refine RunW_st [(3, .c (.ptr 3 (0))), (8, .c (.own 8 out8_0.length 5)), (9, .c (.p (AV.bool in9_0))), (31, .c (.p ((fun q : List GGrant => AV.lst (q.flatMap GGrant.cs) q.length) l0))), (32, .c (.p (AV.int (l0.length : Int)))), (33, .c (.p (AV.int t33_0)))] [(3, .pure (GGrant.cs ({ g3_0 with Option := (decide ((g3_0.Option = true) ∨ (((lrd l0 t33_0.toNat).Option) = true))) }))), (8, .pure (out8_0.flatMap GGrant.cs))] rfl ⟨TLes.same _, TLes.same _, TLes.same _, TLes.same _, TLes.same _, TLes.same _, trivial⟩ ⟨rfl, rfl, trivial⟩ ?_
                    exact RunW_nil rfl
                  · refine r_on rfl rfl rfl rfl (bfalse h13) rfl (PureD.opD (u_fa rfl rfl Try.underlying27 rfl in_4 (Nat.succ_ne_zero _) rfl rfl (ne_of_lt (n := 0) (Nat.lt_of_lt_of_eq (by decide) (Eq.symm (GGrant.len (lrd l0 t33_0.toNat))))))) ?_
                    refine r_on rfl rfl rfl rfl (bfalse h13) rfl (PureD.opD (u_ld rfl rfl Try.underlying4 rfl rfl ((Sub.refl _).trans (GGrant.sub4 (lrd l0 t33_0.toNat))))) ?_
                    refine r_op rfl rfl (PureD.opD (p_pkf rfl rfl (bfalse h13) (tb ((bdec _).trans (or_l (p := g3_0.Option = true) (q := ((lrd l0 t33_0.toNat).Option) = true) h13))))) ?_
                    refine r_op rfl rfl (PureD.opD (u_fa rfl rfl Try.underlying27 rfl in_4 (Nat.succ_ne_zero _) rfl rfl (ne_of_lt (n := 0) (Nat.lt_of_lt_of_eq (by decide) (Eq.symm (GGrant.len g3_0)))))) ?_
                    refine r_op rfl rfl (u_st rfl rfl rfl rfl rfl in_4 rfl (ne_of_lt (n := 0) (Nat.lt_of_lt_of_eq (by decide) (Eq.symm (GGrant.len g3_0)))) (Upd.trans (Sub.refl _) (GGrant.upd4 g3_0 (decide ((g3_0.Option = true) ∨ (((lrd l0 t33_0.toNat).Option) = true)))) (Upd.refl ((GGrant.len ({ g3_0 with Option := (decide ((g3_0.Option = true) ∨ (((lrd l0 t33_0.toNat).Option) = true))) })).trans (GGrant.len g3_0).symm)))) ?_
                    refine RunW_st [(3, .c (.ptr 3 (0))), (8, .c (.own 8 out8_0.length 5)), (9, .c (.p (AV.bool in9_0))), (31, .c (.p ((fun q : List GGrant => AV.lst (q.flatMap GGrant.cs) q.length) l0))), (32, .c (.p (AV.int (l0.length : Int)))), (33, .c (.p (AV.int t33_0)))] [(3, .pure (GGrant.cs ({ g3_0 with Option := (decide ((g3_0.Option = true) ∨ (((lrd l0 t33_0.toNat).Option) = true))) }))), (8, .pure (out8_0.flatMap GGrant.cs))] rfl ⟨TLes.same _, TLes.same _, TLes.same _, TLes.same _, TLes.same _, TLes.same _, trivial⟩ ⟨rfl, rfl, trivial⟩ ?_
                    exact RunW_nil rfl
                · refine gen1 (fun g3'7 => (⟨[(3, .c (.ptr 3 (0))), (8, .c (.own 8 out8_0.length 5)), (9, .c (.p (AV.bool in9_0))), (31, .c (.p ((fun q : List GGrant => AV.lst (q.flatMap GGrant.cs) q.length) l0))), (32, .c (.p (AV.int (l0.length : Int)))), (33, .c (.p (AV.int t33_0)))], [(3, .pure (GGrant.cs g3'7)), (8, .pure (out8_0.flatMap GGrant.cs))], 74⟩ : TS)) H ?_
                  intro g3'7 H
                  refine AW2_st [(3, .c (.ptr 3 (0))), (8, .c (.own 8 out8_0.length 5)), (9, .c (.p (AV.bool in9_0))), (31, .c (.p ((fun q : List GGrant => AV.lst (q.flatMap GGrant.cs) q.length) l0))), (32, .c (.p (AV.int (l0.length : Int)))), (33, .c (.p (AV.int t33_0)))] [(3, .pure (GGrant.cs g3'7)), (8, .pure (out8_0.flatMap GGrant.cs))] rfl ⟨TLes.same _, TLes.same _, TLes.same _, TLes.same _, TLes.same _, TLes.same _, trivial⟩ ⟨rfl, rfl, trivial⟩ ?_
                  refine AW2_exit ?_
                  refine thenQ2_exit ?_
                  refine blockQ2_exit ?_
                  have hz := some_elim H
                  subst hz
                  exact rfl
              · replace H := ite_else h12 H
                refine AW2_st [(3, .c (.ptr 3 (0))), (8, .c (.own 8 out8_0.length 5)), (9, .c (.p (AV.bool in9_0))), (11, .c (.ptr 11 (0))), (31, .c (.p ((fun q : List GGrant => AV.lst (q.flatMap GGrant.cs) q.length) l0))), (32, .c (.p (AV.int (l0.length : Int)))), (33, .c (.p (AV.int t33_0)))] [(3, .pure (GGrant.cs g3_0)), (8, .pure (out8_0.flatMap GGrant.cs)), (11, .pure (GGrant.cs (lrd l0 t33_0.toNat)))] rfl ⟨TLes.same _, TLes.same _, TLes.same _, TLes.same _, TLes.same _, TLes.same _, TLes.same _, trivial⟩ ⟨rfl, rfl, rfl, trivial⟩ ?_
                refine AW2_skip ?_
                refine AW2_seq ?_
                refine bindK H fun j'8 h14 H => ?_
                refine AW2_mid (⟨[(3, .c (.ptr 3 (0))), (8, .c (.own 8 j'8.2.length 5)), (9, .c (.p (AV.bool j'8.1))), (11, .c (.ptr 11 (0))), (31, .c (.p ((fun q : List GGrant => AV.lst (q.flatMap GGrant.cs) q.length) l0))), (32, .c (.p (AV.int (l0.length : Int)))), (33, .c (.p (AV.int t33_0)))], [(3, .pure (GGrant.cs g3_0)), (8, .pure (j'8.2.flatMap GGrant.cs)), (11, .pure (GGrant.cs (lrd l0 t33_0.toNat)))], 74⟩ : TS) ?_ ?_
                · clear H
                  have H := h14
                  clear h14
                  refine AW2_seq ?_
                  refine bindK H fun g'12 h19 H => ?_
                  refine AW2_mid (⟨[(3, .c (.ptr 3 (0))), (8, .c (.own 8 out8_0.length 5)), (9, .c (.p (AV.bool in9_0))), (11, .c (.ptr 11 (0))), (31, .c (.p ((fun q : List GGrant => AV.lst (q.flatMap GGrant.cs) q.length) l0))), (32, .c (.p (AV.int (l0.length : Int)))), (33, .c (.p (AV.int t33_0))), (57, .c (.p (AV.bool g'12)))], [(3, .pure (GGrant.cs g3_0)), (8, .pure (out8_0.flatMap GGrant.cs)), (11, .pure (GGrant.cs (lrd l0 t33_0.toNat)))], 74⟩ : TS) ?_ ?_
                  · clear H
                    have H := h19
                    clear h19
                    refine (Classical.em ((!in9_0) = true)).elim (fun h15 => ?_) (fun h15 => ?_)
                    · replace H := ite_then h15 H
                      refine bindK H fun r'9 h16 H => ?_
                      refine bindK H fun r'10 h17 H => ?_
                      refine bindK H fun r'11 h18 H => ?_
                      have hz := some_elim H
                      subst hz
                      refine AW2_ghoQ ?_
                      refine AW2_draw 6 [6, 7, 8] (fun k => ([.c (.p (AV.bool in9_0)), .c (.p (AV.bool (!in9_0))), .c (.p (AV.bool (!in9_0))), .c (.p (.agg (GGrant.cs g3_0))), .c (.p (.agg (Gright_place.cs r'9))), .c (.p (.agg (GGrant.cs (lrd l0 t33_0.toNat))))] : List TV).getD k TV.any) (fun k => ([[(9, none)], [(49, some 0)], [(50, some 1)], [(3, none), (51, some 2)], [(51, some 2), (52, some 3)], [(11, none), (51, some 2)]] : List (List (Nat × Option Nat))).getD k []) [(3, none), (8, none), (9, none), (11, none), (31, none), (32, none), (33, none), (51, some 2), (53, some 4), (54, some 5)] [] (fun k => ([[], [0], [0, 1], [0, 1, 2], [0, 1, 2, 3], [0, 1, 2], [0, 1, 2, 3, 4, 5], [0, 1, 2, 3, 4, 5, 6], [0, 1, 2, 3, 4, 5, 6, 7]] : List (List Nat)).getD k []) mixed (by kernel_rfl) rfl rfl (a_op (g_x rfl (x_p rfl (p_move rfl rfl) rfl)) (a_op (g_x rfl (x_p rfl (p_not rfl rfl) rfl)) (a_op (g_x rfl (x_p rfl (p_move rfl rfl) rfl)) (a_op (g_on rfl rfl rfl h15 rfl (x_p rfl (u_lda rfl rfl Try.underlying27 rfl in_27 rfl (Nat.succ_pos _) (Sub.refl _) (GGrant.len g3_0)) rfl)) (a_op (g_on rfl rfl rfl h15 rfl (x_p rfl (p_callp rfl rfl rfl Try.func20 rfl rfl (g_right_placed_ac h16) ⟨rfl, trivial⟩) rfl)) (a_op (g_on rfl rfl rfl h15 rfl (x_p rfl (u_lda rfl rfl Try.underlying27 rfl in_27 rfl (Nat.succ_pos _) (Sub.refl _) (GGrant.len (lrd l0 t33_0.toNat))) rfl)) (a_nil))))))) ?_
                      refine t_on rfl rfl rfl rfl h15 rfl (PureD.opD (p_callp rfl rfl rfl Try.func20 rfl rfl (g_right_placed_ac h17) ⟨rfl, trivial⟩)) ?_
                      refine t_on rfl rfl rfl rfl h15 rfl (PureD.opD (p_callp rfl rfl rfl Try.func21 rfl rfl (g_right_place_before_ac h18) ⟨rfl, rfl, trivial⟩)) ?_
                      refine t_op rfl rfl (PureD.opD (p_pkt rfl rfl h15 (.same _))) ?_
                      exact t_gho (Gho_st (L := [(3, .c (.ptr 3 (0))), (8, .c (.own 8 out8_0.length 5)), (9, .c (.p (AV.bool in9_0))), (11, .c (.ptr 11 (0))), (31, .c (.p ((fun q : List GGrant => AV.lst (q.flatMap GGrant.cs) q.length) l0))), (32, .c (.p (AV.int (l0.length : Int)))), (33, .c (.p (AV.int t33_0))), (57, .c (.p (AV.bool r'11)))]) (H := [(3, .pure (GGrant.cs g3_0)), (8, .pure (out8_0.flatMap GGrant.cs)), (11, .pure (GGrant.cs (lrd l0 t33_0.toNat)))]) rfl ⟨TLes.same _, TLes.same _, TLes.same _, TLes.same _, TLes.same _, TLes.same _, TLes.same _, TLes.same _, trivial⟩ ⟨rfl, rfl, rfl, trivial⟩) rfl
                    · replace H := ite_else h15 H
                      have hz := some_elim H
                      subst hz
                      refine AW2_ghoQ ?_
                      refine AW2_draw 6 [6, 7, 8] (fun k => ([.c (.p (AV.bool in9_0)), .c (.p (AV.bool (!in9_0))), .c (.p (AV.bool (!in9_0))), .c (.p (.tup [])), .c (.p (.tup [])), .c (.p (.tup []))] : List TV).getD k TV.any) (fun k => ([[(9, none)], [(49, some 0)], [(50, some 1)], [(3, none), (51, some 2)], [(51, some 2), (52, some 3)], [(11, none), (51, some 2)]] : List (List (Nat × Option Nat))).getD k []) [(3, none), (8, none), (9, none), (11, none), (31, none), (32, none), (33, none), (51, some 2), (53, some 4), (54, some 5)] [] (fun k => ([[], [0], [0, 1], [0, 1, 2], [0, 1, 2, 3], [0, 1, 2], [0, 1, 2, 3, 4, 5], [0, 1, 2, 3, 4, 5, 6], [0, 1, 2, 3, 4, 5, 6, 7]] : List (List Nat)).getD k []) mixed (by kernel_rfl) rfl rfl (a_op (g_x rfl (x_p rfl (p_move rfl rfl) rfl)) (a_op (g_x rfl (x_p rfl (p_not rfl rfl) rfl)) (a_op (g_x rfl (x_p rfl (p_move rfl rfl) rfl)) (a_op (g_off rfl rfl rfl rfl rfl (bfalse h15) rfl rfl) (a_op (g_off rfl rfl rfl rfl rfl (bfalse h15) rfl rfl) (a_op (g_off rfl rfl rfl rfl rfl (bfalse h15) rfl rfl) (a_nil))))))) ?_
                      refine t_off rfl rfl rfl rfl (bfalse h15) rfl rfl ?_
                      refine t_off rfl rfl rfl rfl (bfalse h15) rfl rfl ?_
                      refine t_op rfl rfl (PureD.opD (p_pkf rfl rfl (bfalse h15) (.same _))) ?_
                      exact t_gho (Gho_st (L := [(3, .c (.ptr 3 (0))), (8, .c (.own 8 out8_0.length 5)), (9, .c (.p (AV.bool in9_0))), (11, .c (.ptr 11 (0))), (31, .c (.p ((fun q : List GGrant => AV.lst (q.flatMap GGrant.cs) q.length) l0))), (32, .c (.p (AV.int (l0.length : Int)))), (33, .c (.p (AV.int t33_0))), (57, .c (.p (AV.bool false)))]) (H := [(3, .pure (GGrant.cs g3_0)), (8, .pure (out8_0.flatMap GGrant.cs)), (11, .pure (GGrant.cs (lrd l0 t33_0.toNat)))]) rfl ⟨TLes.same _, TLes.same _, TLes.same _, TLes.same _, TLes.same _, TLes.same _, TLes.same _, TLes.same _, trivial⟩ ⟨rfl, rfl, rfl, trivial⟩) rfl
                  · refine AW2_cond rfl (fun h20 => ?_) (fun h20 => ?_)
                    · replace H := ite_then h20 H
                      refine AW2_reg [0, 1, 2, 3, 4, 5] rfl ?_
                      refine r_op rfl rfl (PureD.opD (p_move rfl rfl)) ?_
                      refine r_op rfl rfl (PureD.opD (u_lda rfl rfl Try.underlying27 rfl in_27 rfl (Nat.succ_pos _) (Sub.refl _) (GGrant.len g3_0))) ?_
                      refine r_op rfl rfl (MakeD.opD (u_bs 60 rfl Try.underlying22 in_27 rfl one_27 (by decide) (by decide) rfl rfl rfl) rfl rfl rfl rfl) ?_
                      refine chkK H fun h21 H => ?_
                      refine r_op rfl rfl (u_app [8, 58] rfl rfl rfl rfl Try.underlying22 Try.underlying22 in_27 rfl rfl rfl (fm_length (fun x => (GGrant.len x)) out8_0) (by decide) (srcT_o rfl rfl (fm_length (fun x => (GGrant.len x)) ([g3_0] : List GGrant)) (by decide)) (fm_length (fun x => (GGrant.len x)) ([g3_0] : List GGrant)) h21 (by decide) rfl rfl (fapp GGrant.cs out8_0 ([g3_0] : List GGrant)) (lapp out8_0 ([g3_0] : List GGrant))) ?_
                      refine r_op rfl rfl (PureD.opD (p_asg rfl rfl)) ?_
                      refine r_op rfl rfl (PureD.opD (p_asg rfl rfl)) ?_
                      refine RunW_st [(3, .c (.ptr 3 (0))), (8, .c (.own 8 (out8_0 ++ ([g3_0] : List GGrant)).length 5)), (9, .c (.p (AV.bool true))), (11, .c (.ptr 11 (0))), (31, .c (.p ((fun q : List GGrant => AV.lst (q.flatMap GGrant.cs) q.length) l0))), (32, .c (.p (AV.int (l0.length : Int)))), (33, .c (.p (AV.int t33_0)))] [(3, .pure (GGrant.cs g3_0)), (8, .pure ((out8_0 ++ ([g3_0] : List GGrant)).flatMap GGrant.cs)), (11, .pure (GGrant.cs (lrd l0 t33_0.toNat)))] rfl ⟨TLes.same _, TLes.same _, TLes.same _, TLes.same _, TLes.same _, TLes.same _, TLes.same _, trivial⟩ ⟨rfl, rfl, rfl, trivial⟩ ?_
                      refine RunW_nil ?_
                      have hz := some_elim H
                      subst hz
                      exact rfl
                    · replace H := ite_else (ne_true h20) H
                      refine AW2_st [(3, .c (.ptr 3 (0))), (8, .c (.own 8 out8_0.length 5)), (9, .c (.p (AV.bool in9_0))), (11, .c (.ptr 11 (0))), (31, .c (.p ((fun q : List GGrant => AV.lst (q.flatMap GGrant.cs) q.length) l0))), (32, .c (.p (AV.int (l0.length : Int)))), (33, .c (.p (AV.int t33_0)))] [(3, .pure (GGrant.cs g3_0)), (8, .pure (out8_0.flatMap GGrant.cs)), (11, .pure (GGrant.cs (lrd l0 t33_0.toNat)))] rfl ⟨TLes.same _, TLes.same _, TLes.same _, TLes.same _, TLes.same _, TLes.same _, TLes.same _, trivial⟩ ⟨rfl, rfl, rfl, trivial⟩ ?_
                      refine AW2_skip ?_
                      have hz := some_elim H
                      subst hz
                      exact rfl
                · refine AW2_reg [0, 1, 2, 3, 4] rfl ?_
                  refine r_op rfl rfl (PureD.opD (p_move rfl rfl)) ?_
                  refine r_op rfl rfl (PureD.opD (u_lda rfl rfl Try.underlying27 rfl in_27 rfl (Nat.succ_pos _) (Sub.refl _) (GGrant.len (lrd l0 t33_0.toNat)))) ?_
                  refine r_op rfl rfl (MakeD.opD (u_bs 64 rfl Try.underlying22 in_27 rfl one_27 (by decide) (by decide) rfl rfl rfl) rfl rfl rfl rfl) ?_
                  refine chkK H fun h22 H => ?_
                  refine r_op rfl rfl (u_app [8, 62] rfl rfl rfl rfl Try.underlying22 Try.underlying22 in_27 rfl rfl rfl (fm_length (fun x => (GGrant.len x)) j'8.2) (by decide) (srcT_o rfl rfl (fm_length (fun x => (GGrant.len x)) ([(lrd l0 t33_0.toNat)] : List GGrant)) (by decide)) (fm_length (fun x => (GGrant.len x)) ([(lrd l0 t33_0.toNat)] : List GGrant)) h22 (by decide) rfl rfl (fapp GGrant.cs j'8.2 ([(lrd l0 t33_0.toNat)] : List GGrant)) (lapp j'8.2 ([(lrd l0 t33_0.toNat)] : List GGrant))) ?_
                  refine r_op rfl rfl (PureD.opD (p_asg rfl rfl)) ?_
                  refine RunW_st [(3, .c (.ptr 3 (0))), (8, .c (.own 8 (j'8.2 ++ ([(lrd l0 t33_0.toNat)] : List GGrant)).length 5)), (9, .c (.p (AV.bool j'8.1))), (31, .c (.p ((fun q : List GGrant => AV.lst (q.flatMap GGrant.cs) q.length) l0))), (32, .c (.p (AV.int (l0.length : Int)))), (33, .c (.p (AV.int t33_0)))] [(3, .pure (GGrant.cs g3_0)), (8, .pure ((j'8.2 ++ ([(lrd l0 t33_0.toNat)] : List GGrant)).flatMap GGrant.cs))] rfl ⟨TLes.same _, TLes.same _, TLes.same _, TLes.same _, TLes.same _, TLes.same _, trivial⟩ ⟨rfl, rfl, trivial⟩ ?_
                  refine RunW_nil ?_
                  have hz := some_elim H
                  subst hz
                  exact rfl
            · refine AW2_reg [0, 1] rfl ?_
              refine r_op rfl rfl (PureD.opD (p_bin rfl rfl rfl rfl)) ?_
              refine r_op rfl rfl (PureD.opD (p_move rfl rfl)) ?_
              refine RunW_st [(3, .c (.ptr 3 (0))), (8, .c (.own 8 j'4.2.2.length 5)), (9, .c (.p (AV.bool j'4.1))), (31, .c (.p ((fun q : List GGrant => AV.lst (q.flatMap GGrant.cs) q.length) l0))), (32, .c (.p (AV.int (l0.length : Int)))), (33, .c (.p (AV.int (w64 (t33_0 + (1 : Int))))))] [(3, .pure (GGrant.cs j'4.2.1)), (8, .pure (j'4.2.2.flatMap GGrant.cs))] rfl ⟨TLes.same _, TLes.same _, TLes.same _, TLes.same _, TLes.same _, TLes.same _, trivial⟩ ⟨rfl, rfl, trivial⟩ ?_
              refine RunW_nil ?_
              have hz := some_elim H
              subst hz
              exact ⟨rfl, rfl⟩
          · replace H := ite_else h7 H
            refine AW2_st [(3, .c (.ptr 3 (0))), (8, .c (.own 8 out8_0.length 5)), (9, .c (.p (AV.bool in9_0)))] [(3, .pure (GGrant.cs g3_0)), (8, .pure (out8_0.flatMap GGrant.cs))] rfl ⟨TLes.same _, TLes.same _, TLes.same _, trivial⟩ ⟨rfl, rfl, trivial⟩ ?_
            refine AW2_exit ?_
            refine thenQ2_exit ?_
            have hz := some_elim H
            subst hz
            exact ⟨rfl, rfl⟩
        · obtain ⟨rfl, rfl⟩ := hs
          refine ⟨by simp, ?_⟩
          refine blockQ2_exit ?_
          refine AW2_seq ?_
          refine bindK H fun j'17 h24 H => ?_
          refine AW2_mid (⟨[(8, .c (.own 8 j'17.length 5))], [(8, .pure (j'17.flatMap GGrant.cs))], 74⟩ : TS) ?_ ?_
          · clear H
            have H := h24
            clear h24
            refine AW2_seq ?_
            refine AW2_reg [0, 1] rfl ?_
            refine r_op rfl rfl (PureD.opD (p_move rfl rfl)) ?_
            refine r_op rfl rfl (PureD.opD (p_not rfl rfl)) ?_
            refine RunW_st [(3, .c (.ptr 3 (0))), (8, .c (.own 8 y'16.2.2.length 5)), (68, .c (.p (AV.bool (!y'16.1))))] [(3, .pure (GGrant.cs y'16.2.1)), (8, .pure (y'16.2.2.flatMap GGrant.cs))] rfl ⟨TLes.same _, TLes.same _, TLes.same _, trivial⟩ ⟨rfl, rfl, trivial⟩ ?_
            refine RunW_nil ?_
            refine AW2_cond rfl (fun h25 => ?_) (fun h25 => ?_)
            · replace H := ite_then h25 H
              refine AW2_reg [0, 1, 2, 3, 4] rfl ?_
              refine r_op rfl rfl (PureD.opD (p_move rfl rfl)) ?_
              refine r_op rfl rfl (PureD.opD (u_lda rfl rfl Try.underlying27 rfl in_27 rfl (Nat.succ_pos _) (Sub.refl _) (GGrant.len y'16.2.1))) ?_
              refine r_op rfl rfl (MakeD.opD (u_bs 71 rfl Try.underlying22 in_27 rfl one_27 (by decide) (by decide) rfl rfl rfl) rfl rfl rfl rfl) ?_
              refine chkK H fun h26 H => ?_
              refine r_op rfl rfl (u_app [8, 69] rfl rfl rfl rfl Try.underlying22 Try.underlying22 in_27 rfl rfl rfl (fm_length (fun x => (GGrant.len x)) y'16.2.2) (by decide) (srcT_o rfl rfl (fm_length (fun x => (GGrant.len x)) ([y'16.2.1] : List GGrant)) (by decide)) (fm_length (fun x => (GGrant.len x)) ([y'16.2.1] : List GGrant)) h26 (by decide) rfl rfl (fapp GGrant.cs y'16.2.2 ([y'16.2.1] : List GGrant)) (lapp y'16.2.2 ([y'16.2.1] : List GGrant))) ?_
              refine r_op rfl rfl (PureD.opD (p_asg rfl rfl)) ?_
              refine RunW_st [(8, .c (.own 8 (y'16.2.2 ++ ([y'16.2.1] : List GGrant)).length 5))] [(8, .pure ((y'16.2.2 ++ ([y'16.2.1] : List GGrant)).flatMap GGrant.cs))] rfl ⟨TLes.same _, trivial⟩ ⟨rfl, trivial⟩ ?_
              refine RunW_nil ?_
              have hz := some_elim H
              subst hz
              exact rfl
            · replace H := ite_else (ne_true h25) H
              refine AW2_st [(8, .c (.own 8 y'16.2.2.length 5))] [(8, .pure (y'16.2.2.flatMap GGrant.cs))] rfl ⟨TLes.same _, trivial⟩ ⟨rfl, trivial⟩ ?_
              refine AW2_skip ?_
              have hz := some_elim H
              subst hz
              exact rfl
          · refine AW2_seq ?_
            refine AW2_reg [0, 1, 2] rfl ?_
            refine r_op rfl rfl (PureD.opD (p_move rfl rfl)) ?_
            refine r_op rfl rfl (PureD.opD (p_asg rfl rfl)) ?_
            refine r_op rfl rfl (PureD.opD (p_asg rfl rfl)) ?_
            refine RunW_st [(4, .c (.own 8 j'17.length 5)), (5, .c (.p (AV.int (0 : Int))))] [(8, .pure (j'17.flatMap GGrant.cs))] rfl ⟨TLes.same _, TLes.same _, trivial⟩ ⟨rfl, trivial⟩ ?_
            refine RunW_gho (Gho_ren 8 4 rfl rfl rfl rfl rfl) ?_
            refine RunW_st [(4, .c (.own 4 j'17.length 5)), (5, .c (.p (AV.int (0 : Int))))] [(4, .pure (j'17.flatMap GGrant.cs))] rfl ⟨TLes.same _, TLes.same _, trivial⟩ ⟨rfl, trivial⟩ ?_
            refine RunW_nil ?_
            refine AW2_gho (Gho_pubs [4] ⟨rfl, trivial⟩ rfl (fm_length (fun x => (GGrant.len x)) j'17) (by decide)) ?_
            refine AW2_ret ?_
            have hz := some_elim H
            subst hz
            exact ⟨⟨res_tmp (.same _), res_tmp (.same _), trivial⟩, trivial⟩
end Go.Proofs.Ytgbfmldbbnhefaa.VM
