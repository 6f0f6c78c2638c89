/- Functions of the program, as they answer, and that their code comes to these answers. -/
import Derived.Test.YtgbfmldbbnhefaaGr8
namespace Go.Proofs.Ytgbfmldbbnhefaa.VM
open Go Go.RowKit



/-! chirographlaw.RightHas -/
noncomputable def g_law_RightHas (l0 : List GGrant) (user1 : Int) (object2 : Int) (which3 : Int) : Option (Bool) :=
  (g_right_Has l0 user1 object2 which3).bind fun r'1 => (g_ref_HasOf l0 user1 object2 which3).bind fun r'2 => some (decide ((r'1.2 = r'2.2) ∧ (r'1.1 = r'2.1)))
set_option maxHeartbeats 4000000 in
set_option maxRecDepth 100000 in
theorem g_law_RightHas_ac {l0 : List GGrant} {user1 : Int} {object2 : Int} {which3 : Int} {r : Bool} (H : g_law_RightHas l0 user1 object2 which3 = some r) : ACp Try.prog 5 [((fun q : List GGrant => AV.lst (q.flatMap GGrant.cs) q.length) l0), (AV.int user1), (AV.int object2), (AV.int which3)] (AV.bool r) := by
  refine ACp_of (AC2_of_body (vs := [.c (.p (AV.bool r))]) Try.func5 rfl rfl (Nat.le_of_ble_eq_true rfl) rfl ?_) (fun _ => .same _)
  unfold g_law_RightHas at H
  refine AW2_st [(0, .c (.p ((fun q : List GGrant => AV.lst (q.flatMap GGrant.cs) q.length) l0))), (1, .c (.p (AV.int user1))), (2, .c (.p (AV.int object2))), (3, .c (.p (AV.int which3)))] [] rfl ⟨TLes.same _, TLes.same _, TLes.same _, TLes.same _, trivial⟩ trivial ?_
  refine AW2_seq ?_
  refine AW2_reg [0] rfl ?_
  refine r_op rfl rfl (PureD.opD (p_asg rfl rfl)) ?_
  refine RunW_st [(0, .c (.p ((fun q : List GGrant => AV.lst (q.flatMap GGrant.cs) q.length) l0))), (1, .c (.p (AV.int user1))), (2, .c (.p (AV.int object2))), (3, .c (.p (AV.int which3)))] [] rfl ⟨TLes.same _, TLes.same _, TLes.same _, TLes.same _, trivial⟩ trivial ?_
  refine RunW_nil ?_
  refine AW2_seq ?_
  refine AW2_reg [0, 1, 2, 3, 4, 5, 6, 7, 8, 9] rfl ?_
  refine r_op rfl rfl (PureD.opD (p_move rfl rfl)) ?_
  refine r_op rfl rfl (PureD.opD (p_move rfl rfl)) ?_
  refine r_op rfl rfl (PureD.opD (p_move rfl rfl)) ?_
  refine r_op rfl rfl (PureD.opD (p_move rfl rfl)) ?_
  refine bindK H fun r'1 h1 H => ?_
  refine r_op rfl rfl (PureD.opD (p_callp rfl rfl rfl Try.func13 rfl rfl (g_right_Has_ac h1) ⟨rfl, rfl, rfl, rfl, trivial⟩)) ?_
  refine r_op rfl rfl (PureD.opD (p_move rfl rfl)) ?_
  refine r_op rfl rfl (PureD.opD (p_ext rfl rfl rfl rfl)) ?_
  refine r_op rfl rfl (PureD.opD (p_ext rfl rfl rfl rfl)) ?_
  refine r_op rfl rfl (PureD.opD (p_asg rfl rfl)) ?_
  refine r_op rfl rfl (PureD.opD (p_asg rfl rfl)) ?_
  refine RunW_st [(0, .c (.p ((fun q : List GGrant => AV.lst (q.flatMap GGrant.cs) q.length) l0))), (1, .c (.p (AV.int user1))), (2, .c (.p (AV.int object2))), (3, .c (.p (AV.int which3))), (9, .c (.p (AV.bool r'1.1))), (10, .c (.p (AV.int r'1.2)))] [] rfl ⟨TLes.same _, TLes.same _, TLes.same _, TLes.same _, TLes.same _, TLes.same _, trivial⟩ trivial ?_
  refine RunW_nil ?_
  refine AW2_seq ?_
  refine AW2_reg [0, 1, 2, 3, 4, 5, 6, 7, 8, 9] rfl ?_
  refine r_op rfl rfl (PureD.opD (p_move rfl rfl)) ?_
  refine r_op rfl rfl (PureD.opD (p_move rfl rfl)) ?_
  refine r_op rfl rfl (PureD.opD (p_move rfl rfl)) ?_
  refine r_op rfl rfl (PureD.opD (p_move rfl rfl)) ?_
  refine bindK H fun r'2 h2 H => ?_
  refine r_op rfl rfl (PureD.opD (p_callp rfl rfl rfl Try.func14 rfl rfl (g_ref_HasOf_ac h2) ⟨rfl, rfl, rfl, rfl, trivial⟩)) ?_
  refine r_op rfl rfl (PureD.opD (p_move rfl rfl)) ?_
  refine r_op rfl rfl (PureD.opD (p_ext rfl rfl rfl rfl)) ?_
  refine r_op rfl rfl (PureD.opD (p_ext rfl rfl rfl rfl)) ?_
  refine r_op rfl rfl (PureD.opD (p_asg rfl rfl)) ?_
  refine r_op rfl rfl (PureD.opD (p_asg rfl rfl)) ?_
  refine RunW_st [(9, .c (.p (AV.bool r'1.1))), (10, .c (.p (AV.int r'1.2))), (11, .c (.p (AV.bool r'2.1))), (12, .c (.p (AV.int r'2.2)))] [] rfl ⟨TLes.same _, TLes.same _, TLes.same _, TLes.same _, trivial⟩ trivial ?_
  refine RunW_nil ?_
  refine AW2_seq ?_
  refine AW2_mid (⟨[(8, .c (.p (.bool (decide ((r'1.2 = r'2.2) ∧ (r'1.1 = r'2.1))))))], [], 37⟩ : TS) ?_ ?_
  · refine AW2_reg [0, 1, 2, 3, 4, 5, 6, 7, 8] rfl ?_
    refine r_op rfl rfl (PureD.opD (p_move rfl rfl)) ?_
    refine r_op rfl rfl (PureD.opD (p_move rfl rfl)) ?_
    refine r_op rfl rfl (PureD.opD (p_ieq rfl rfl rfl)) ?_
    refine r_op rfl rfl (PureD.opD (p_move rfl rfl)) ?_
    refine (Classical.em (r'1.2 = r'2.2)).elim (fun h3 => ?_) (fun h3 => ?_)
    · refine r_on rfl rfl rfl rfl (decide_eq_true (p := r'1.2 = r'2.2) h3) rfl (PureD.opD (p_move rfl rfl)) ?_
      refine r_on rfl rfl rfl rfl (decide_eq_true (p := r'1.2 = r'2.2) h3) rfl (PureD.opD (p_move rfl rfl)) ?_
      refine r_on rfl rfl rfl rfl (decide_eq_true (p := r'1.2 = r'2.2) h3) rfl (PureD.opD (p_beqp rfl Try.underlying4 rfl rfl)) ?_
      refine r_op rfl rfl (PureD.opD (p_pkt rfl rfl (decide_eq_true (p := r'1.2 = r'2.2) h3) (tb ((and_l (p := r'1.2 = r'2.2) (q := r'1.1 = r'2.1) h3))))) ?_
      refine r_op rfl rfl (PureD.opD (p_asg rfl rfl)) ?_
      refine RunW_st [(8, .c (.p (.bool (decide ((r'1.2 = r'2.2) ∧ (r'1.1 = r'2.1))))))] [] rfl ⟨TLes.same _, trivial⟩ trivial ?_
      exact RunW_nil rfl
    · refine r_off rfl rfl rfl rfl (decide_eq_false (p := r'1.2 = r'2.2) h3) rfl rfl ?_
      refine r_off rfl rfl rfl rfl (decide_eq_false (p := r'1.2 = r'2.2) h3) rfl rfl ?_
      refine r_off rfl rfl rfl rfl (decide_eq_false (p := r'1.2 = r'2.2) h3) rfl rfl ?_
      refine r_op rfl rfl (PureD.opD (p_pkf rfl rfl (decide_eq_false (p := r'1.2 = r'2.2) h3) (tb (decide_eq_false (p := (r'1.2 = r'2.2) ∧ (r'1.1 = r'2.1)) (fun x => h3 x.1)).symm))) ?_
      refine r_op rfl rfl (PureD.opD (p_asg rfl rfl)) ?_
      refine RunW_st [(8, .c (.p (.bool (decide ((r'1.2 = r'2.2) ∧ (r'1.1 = r'2.1))))))] [] rfl ⟨TLes.same _, trivial⟩ trivial ?_
      exact RunW_nil rfl
  · refine AW2_ret ?_
    have hz := some_elim H
    subst hz
    exact ⟨⟨res_tmp (.same _), trivial⟩, trivial⟩

/-! right.may -/
noncomputable def g_right_may_l0 (l0 : List GGrant) (user1 : Int) (object2 : Int) (right3 : Int) : Int → Option (Int ⊕ (Bool ⊕ Unit))
  | t17_0 => (if t17_0 < (l0.length : Int) then if 0 ≤ t17_0 ∧ t17_0 < (l0.length : Int) then letO (decide (((((lrd l0 t17_0.toNat).To = user1) ∧ ((lrd l0 t17_0.toNat).Object = object2)) ∧ ((lrd l0 t17_0.toNat).Right = right3)) ∧ (((lrd l0 t17_0.toNat).Option) = true))) fun t40'2 => (if t40'2 = true then some (.inr (.inl true)) else some (.inl (w64 (t17_0 + (1 : Int))))) else none else some (.inr (.inr ())))
noncomputable def g_right_may (l0 : List GGrant) (user1 : Int) (object2 : Int) (right3 : Int) : Option (Bool) :=
  (g_right_owner object2).bind fun r'1 => (if r'1 = user1 then some true else (loopO (g_right_may_l0 l0 user1 object2 right3) (0 : Int)).bind fun o'6 => match o'6 with | .inl y'7 => some y'7 | .inr (y'8) => some false)
set_option maxHeartbeats 4000000 in
set_option maxRecDepth 100000 in
theorem g_right_may_ac {l0 : List GGrant} {user1 : Int} {object2 : Int} {right3 : Int} {r : Bool} (H : g_right_may l0 user1 object2 right3 = some r) : ACp Try.prog 30 [((fun q : List GGrant => AV.lst (q.flatMap GGrant.cs) q.length) l0), (AV.int user1), (AV.int object2), (AV.int right3)] (AV.bool r) := by
  refine ACp_of (AC2_of_body (vs := [.c (.p (AV.bool r))]) Try.func30 rfl rfl (Nat.le_of_ble_eq_true rfl) rfl ?_) (fun _ => .same _)
  unfold g_right_may at H
  refine AW2_st [(0, .c (.p ((fun q : List GGrant => AV.lst (q.flatMap GGrant.cs) q.length) l0))), (1, .c (.p (AV.int user1))), (2, .c (.p (AV.int object2))), (3, .c (.p (AV.int right3)))] [] rfl ⟨TLes.same _, TLes.same _, TLes.same _, TLes.same _, trivial⟩ trivial ?_
  refine AW2_seq ?_
  refine AW2_reg [0] rfl ?_
  refine r_op rfl rfl (PureD.opD (p_asg rfl rfl)) ?_
  refine RunW_st [(0, .c (.p ((fun q : List GGrant => AV.lst (q.flatMap GGrant.cs) q.length) l0))), (1, .c (.p (AV.int user1))), (2, .c (.p (AV.int object2))), (3, .c (.p (AV.int right3)))] [] rfl ⟨TLes.same _, TLes.same _, TLes.same _, TLes.same _, trivial⟩ trivial ?_
  refine RunW_nil ?_
  refine AW2_seq ?_
  refine AW2_seq ?_
  refine AW2_reg [0, 1, 2, 3] rfl ?_
  refine r_op rfl rfl (PureD.opD (p_move rfl rfl)) ?_
  refine bindK H fun r'1 h1 H => ?_
  refine r_op rfl rfl (PureD.opD (p_callp rfl rfl rfl Try.func27 rfl rfl (g_right_owner_ac h1) ⟨rfl, trivial⟩)) ?_
  refine r_op rfl rfl (PureD.opD (p_move rfl rfl)) ?_
  refine r_op rfl rfl (PureD.opD (p_ieq rfl rfl rfl)) ?_
  refine RunW_st [(0, .c (.p ((fun q : List GGrant => AV.lst (q.flatMap GGrant.cs) q.length) l0))), (1, .c (.p (AV.int user1))), (2, .c (.p (AV.int object2))), (3, .c (.p (AV.int right3))), (14, .c (.p (.bool (decide (r'1 = user1)))))] [] rfl ⟨TLes.same _, TLes.same _, TLes.same _, TLes.same _, TLes.same _, trivial⟩ trivial ?_
  refine RunW_nil ?_
  refine AW2_if (p := r'1 = user1) rfl (fun h2 => ?_) (fun h2 => ?_)
  · replace H := ite_then h2 H
    refine AW2_seq ?_
    refine AW2_reg [0] rfl ?_
    refine r_op rfl rfl (PureD.opD (p_asg rfl rfl)) ?_
    refine RunW_st [(8, .c (.p (AV.bool true)))] [] rfl ⟨TLes.same _, trivial⟩ trivial ?_
    refine RunW_nil ?_
    refine AW2_ret ?_
    have hz := some_elim H
    subst hz
    exact ⟨⟨res_tmp (.same _), trivial⟩, trivial⟩
  · replace H := ite_else h2 H
    refine AW2_st [(0, .c (.p ((fun q : List GGrant => AV.lst (q.flatMap GGrant.cs) q.length) l0))), (1, .c (.p (AV.int user1))), (2, .c (.p (AV.int object2))), (3, .c (.p (AV.int right3)))] [] rfl ⟨TLes.same _, TLes.same _, TLes.same _, TLes.same _, trivial⟩ trivial ?_
    refine AW2_skip ?_
    refine AW2_seq ?_
    refine AW2_seq ?_
    refine AW2_reg [0, 1, 2] rfl ?_
    refine r_op rfl rfl (PureD.opD (p_move rfl rfl)) ?_
    refine r_op rfl rfl (PureD.opD (p_lenl rfl Try.underlying22 rfl rfl)) ?_
    refine r_op rfl rfl (PureD.opD (p_move rfl rfl)) ?_
    refine RunW_st [(1, .c (.p (AV.int user1))), (2, .c (.p (AV.int object2))), (3, .c (.p (AV.int right3))), (15, .c (.p ((fun q : List GGrant => AV.lst (q.flatMap GGrant.cs) q.length) l0))), (16, .c (.p (AV.int (l0.length : Int)))), (17, .c (.p (AV.int (0 : Int))))] [] rfl ⟨TLes.same _, TLes.same _, TLes.same _, TLes.same _, TLes.same _, TLes.same _, trivial⟩ trivial ?_
    refine RunW_nil ?_
    refine AW2_block ?_
    refine AW2_st [(1, .c (.p (AV.int user1))), (2, .c (.p (AV.int object2))), (3, .c (.p (AV.int right3))), (15, .c (.p ((fun q : List GGrant => AV.lst (q.flatMap GGrant.cs) q.length) l0))), (16, .c (.p (AV.int (l0.length : Int)))), (17, .c (.p (AV.int (0 : Int))))] [] rfl ⟨TLes.same _, TLes.same _, TLes.same _, TLes.same _, TLes.same _, TLes.same _, trivial⟩ trivial ?_
    refine bindK H fun o'6 h9 H => ?_
    refine AW2_loopO (fun a'3 : Int => (⟨[(1, .c (.p (AV.int user1))), (2, .c (.p (AV.int object2))), (3, .c (.p (AV.int right3))), (15, .c (.p ((fun q : List GGrant => AV.lst (q.flatMap GGrant.cs) q.length) l0))), (16, .c (.p (AV.int (l0.length : Int)))), (17, .c (.p (AV.int a'3)))], [], 42⟩ : TS)) (fun (o : Bool ⊕ Unit) e s' => match o with | .inl y'4 => e = Go.Exit.ret ∧ ResAll Try.prog s' [ResultVar.tmp 8] [.c (.p (AV.bool y'4))] ∧ HFits s' [] | .inr (y'5) => e = Go.Exit.exit 0 ∧ s' = (⟨[], [], 42⟩ : TS)) h9 rfl (fun t17_0 x hx => ?_) (fun e s' hs => ?_)
    · clear H
      have H := hx
      clear hx
      unfold g_right_may_l0 at H
      refine AW2_seq ?_
      refine AW2_reg [0] rfl ?_
      refine r_op rfl rfl (PureD.opD (p_bin rfl rfl rfl rfl)) ?_
      refine RunW_st [(1, .c (.p (AV.int user1))), (2, .c (.p (AV.int object2))), (3, .c (.p (AV.int right3))), (15, .c (.p ((fun q : List GGrant => AV.lst (q.flatMap GGrant.cs) q.length) l0))), (16, .c (.p (AV.int (l0.length : Int)))), (17, .c (.p (AV.int t17_0))), (18, .c (.p (.bool (decide (t17_0 < (l0.length : Int))))))] [] rfl ⟨TLes.same _, TLes.same _, TLes.same _, TLes.same _, TLes.same _, TLes.same _, TLes.same _, trivial⟩ trivial ?_
      refine RunW_nil ?_
      refine AW2_seq ?_
      refine AW2_if (p := t17_0 < (l0.length : Int)) rfl (fun h3 => ?_) (fun h3 => ?_)
      · replace H := ite_then h3 H
        refine AW2_st [(1, .c (.p (AV.int user1))), (2, .c (.p (AV.int object2))), (3, .c (.p (AV.int right3))), (15, .c (.p ((fun q : List GGrant => AV.lst (q.flatMap GGrant.cs) q.length) l0))), (16, .c (.p (AV.int (l0.length : Int)))), (17, .c (.p (AV.int t17_0)))] [] rfl ⟨TLes.same _, TLes.same _, TLes.same _, TLes.same _, TLes.same _, TLes.same _, trivial⟩ trivial ?_
        refine AW2_skip ?_
        refine AW2_seq ?_
        refine AW2_block ?_
        refine AW2_seq ?_
        refine AW2_reg [0, 1, 2, 3] rfl ?_
        refine chkK H fun h4 H => ?_
        refine r_op rfl rfl (PureD.opD (u_ixl rfl rfl Try.underlying22 in_27 rfl rfl (ixe h4) (ixn h4) (fne (fun x => (GGrant.len x)) (by decide) (ixn h4)))) ?_
        refine r_op rfl rfl (PureD.opD (u_lda rfl rfl Try.underlying27 rfl in_27 rfl (Nat.succ_pos _) (Sub.fm default (fun x => (GGrant.len x)) (ixn h4)) (GGrant.len (lrd l0 t17_0.toNat)))) ?_
        refine r_op rfl rfl (MakeD.opD (u_alloc 10 rfl in_27 one_27 zc_27) rfl rfl rfl rfl) ?_
        refine r_op rfl rfl (u_st rfl rfl rfl rfl rfl in_27 (GGrant.len (lrd l0 t17_0.toNat)) (ne_of_lt (n := 0) (Nat.lt_of_lt_of_eq (by decide) (Eq.symm (GGrant.len GGrant.zero)))) (Upd.refl ((GGrant.len (lrd l0 t17_0.toNat)).trans (GGrant.len GGrant.zero).symm))) ?_
        refine RunW_st [(1, .c (.p (AV.int user1))), (2, .c (.p (AV.int object2))), (3, .c (.p (AV.int right3))), (10, .c (.ptr 10 (0))), (15, .c (.p ((fun q : List GGrant => AV.lst (q.flatMap GGrant.cs) q.length) l0))), (16, .c (.p (AV.int (l0.length : Int)))), (17, .c (.p (AV.int t17_0)))] [(10, .pure (GGrant.cs (lrd l0 t17_0.toNat)))] rfl ⟨TLes.same _, TLes.same _, TLes.same _, TLes.same _, TLes.same _, TLes.same _, TLes.same _, trivial⟩ ⟨rfl, trivial⟩ ?_
        refine RunW_nil ?_
        refine AW2_seq ?_
        refine AW2_mid (⟨[(1, .c (.p (AV.int user1))), (2, .c (.p (AV.int object2))), (3, .c (.p (AV.int right3))), (15, .c (.p ((fun q : List GGrant => AV.lst (q.flatMap GGrant.cs) q.length) l0))), (16, .c (.p (AV.int (l0.length : Int)))), (17, .c (.p (AV.int t17_0))), (40, .c (.p (.bool (decide (((((lrd l0 t17_0.toNat).To = user1) ∧ ((lrd l0 t17_0.toNat).Object = object2)) ∧ ((lrd l0 t17_0.toNat).Right = right3)) ∧ (((lrd l0 t17_0.toNat).Option) = true))))))], [], 42⟩ : TS) ?_ ?_
        · refine AW2_reg [0, 1, 2, 3, 4, 5, 6, 7, 8, 9, 10, 11, 12, 13, 14, 15, 16, 17, 18, 19] rfl ?_
          refine r_op rfl rfl (PureD.opD (u_fa rfl rfl Try.underlying27 rfl in_3 (Nat.succ_ne_zero _) rfl rfl (ne_of_lt (n := 0) (Nat.lt_of_lt_of_eq (by decide) (Eq.symm (GGrant.len (lrd l0 t17_0.toNat))))))) ?_
          refine r_op rfl rfl (PureD.opD (u_ld rfl rfl Try.underlying3 rfl rfl ((Sub.refl _).trans (GGrant.sub1 (lrd l0 t17_0.toNat))))) ?_
          refine r_op rfl rfl (PureD.opD (p_move rfl rfl)) ?_
          refine r_op rfl rfl (PureD.opD (p_ieq rfl rfl rfl)) ?_
          refine r_op rfl rfl (PureD.opD (p_move rfl rfl)) ?_
          refine (Classical.em ((lrd l0 t17_0.toNat).To = user1)).elim (fun h5 => ?_) (fun h5 => ?_)
          · refine r_on rfl rfl rfl rfl (decide_eq_true (p := (lrd l0 t17_0.toNat).To = user1) h5) rfl (PureD.opD (u_fa rfl rfl Try.underlying27 rfl in_3 (Nat.succ_ne_zero _) rfl rfl (ne_of_lt (n := 0) (Nat.lt_of_lt_of_eq (by decide) (Eq.symm (GGrant.len (lrd l0 t17_0.toNat))))))) ?_
            refine r_on rfl rfl rfl rfl (decide_eq_true (p := (lrd l0 t17_0.toNat).To = user1) h5) rfl (PureD.opD (u_ld rfl rfl Try.underlying3 rfl rfl ((Sub.refl _).trans (GGrant.sub2 (lrd l0 t17_0.toNat))))) ?_
            refine r_on rfl rfl rfl rfl (decide_eq_true (p := (lrd l0 t17_0.toNat).To = user1) h5) rfl (PureD.opD (p_move rfl rfl)) ?_
            refine r_on rfl rfl rfl rfl (decide_eq_true (p := (lrd l0 t17_0.toNat).To = user1) h5) rfl (PureD.opD (p_ieq rfl rfl rfl)) ?_
            refine r_op rfl rfl (PureD.opD (p_pkt rfl rfl (decide_eq_true (p := (lrd l0 t17_0.toNat).To = user1) h5) (tb ((and_l (p := (lrd l0 t17_0.toNat).To = user1) (q := (lrd l0 t17_0.toNat).Object = object2) h5))))) ?_
            refine r_op rfl rfl (PureD.opD (p_move rfl rfl)) ?_
            refine (Classical.em ((lrd l0 t17_0.toNat).Object = object2)).elim (fun h6 => ?_) (fun h6 => ?_)
            · refine r_on rfl rfl rfl rfl (decide_eq_true (p := ((lrd l0 t17_0.toNat).To = user1) ∧ ((lrd l0 t17_0.toNat).Object = object2)) ⟨h5, h6⟩) rfl (PureD.opD (u_fa rfl rfl Try.underlying27 rfl in_3 (Nat.succ_ne_zero _) rfl rfl (ne_of_lt (n := 0) (Nat.lt_of_lt_of_eq (by decide) (Eq.symm (GGrant.len (lrd l0 t17_0.toNat))))))) ?_
              refine r_on rfl rfl rfl rfl (decide_eq_true (p := ((lrd l0 t17_0.toNat).To = user1) ∧ ((lrd l0 t17_0.toNat).Object = object2)) ⟨h5, h6⟩) rfl (PureD.opD (u_ld rfl rfl Try.underlying3 rfl rfl ((Sub.refl _).trans (GGrant.sub3 (lrd l0 t17_0.toNat))))) ?_
              refine r_on rfl rfl rfl rfl (decide_eq_true (p := ((lrd l0 t17_0.toNat).To = user1) ∧ ((lrd l0 t17_0.toNat).Object = object2)) ⟨h5, h6⟩) rfl (PureD.opD (p_move rfl rfl)) ?_
              refine r_on rfl rfl rfl rfl (decide_eq_true (p := ((lrd l0 t17_0.toNat).To = user1) ∧ ((lrd l0 t17_0.toNat).Object = object2)) ⟨h5, h6⟩) rfl (PureD.opD (p_ieq rfl rfl rfl)) ?_
              refine r_op rfl rfl (PureD.opD (p_pkt rfl rfl (decide_eq_true (p := ((lrd l0 t17_0.toNat).To = user1) ∧ ((lrd l0 t17_0.toNat).Object = object2)) ⟨h5, h6⟩) (tb ((and_l (p := ((lrd l0 t17_0.toNat).To = user1) ∧ ((lrd l0 t17_0.toNat).Object = object2)) (q := (lrd l0 t17_0.toNat).Right = right3) ⟨h5, h6⟩))))) ?_
              refine r_op rfl rfl (PureD.opD (p_move rfl rfl)) ?_
              refine (Classical.em ((lrd l0 t17_0.toNat).Right = right3)).elim (fun h7 => ?_) (fun h7 => ?_)
              · refine r_on rfl rfl rfl rfl (decide_eq_true (p := (((lrd l0 t17_0.toNat).To = user1) ∧ ((lrd l0 t17_0.toNat).Object = object2)) ∧ ((lrd l0 t17_0.toNat).Right = right3)) ⟨⟨h5, h6⟩, h7⟩) rfl (PureD.opD (u_fa rfl rfl Try.underlying27 rfl in_4 (Nat.succ_ne_zero _) rfl rfl (ne_of_lt (n := 0) (Nat.lt_of_lt_of_eq (by decide) (Eq.symm (GGrant.len (lrd l0 t17_0.toNat))))))) ?_
                refine r_on rfl rfl rfl rfl (decide_eq_true (p := (((lrd l0 t17_0.toNat).To = user1) ∧ ((lrd l0 t17_0.toNat).Object = object2)) ∧ ((lrd l0 t17_0.toNat).Right = right3)) ⟨⟨h5, h6⟩, h7⟩) rfl (PureD.opD (u_ld rfl rfl Try.underlying4 rfl rfl ((Sub.refl _).trans (GGrant.sub4 (lrd l0 t17_0.toNat))))) ?_
                refine r_op rfl rfl (PureD.opD (p_pkt rfl rfl (decide_eq_true (p := (((lrd l0 t17_0.toNat).To = user1) ∧ ((lrd l0 t17_0.toNat).Object = object2)) ∧ ((lrd l0 t17_0.toNat).Right = right3)) ⟨⟨h5, h6⟩, h7⟩) (tb ((bdec _).trans (and_l (p := (((lrd l0 t17_0.toNat).To = user1) ∧ ((lrd l0 t17_0.toNat).Object = object2)) ∧ ((lrd l0 t17_0.toNat).Right = right3)) (q := ((lrd l0 t17_0.toNat).Option) = true) ⟨⟨h5, h6⟩, h7⟩))))) ?_
                refine RunW_st [(1, .c (.p (AV.int user1))), (2, .c (.p (AV.int object2))), (3, .c (.p (AV.int right3))), (15, .c (.p ((fun q : List GGrant => AV.lst (q.flatMap GGrant.cs) q.length) l0))), (16, .c (.p (AV.int (l0.length : Int)))), (17, .c (.p (AV.int t17_0))), (40, .c (.p (.bool (decide (((((lrd l0 t17_0.toNat).To = user1) ∧ ((lrd l0 t17_0.toNat).Object = object2)) ∧ ((lrd l0 t17_0.toNat).Right = right3)) ∧ (((lrd l0 t17_0.toNat).Option) = true))))))] [] rfl ⟨TLes.same _, TLes.same _, TLes.same _, TLes.same _, TLes.same _, TLes.same _, TLes.same _, trivial⟩ trivial ?_
                exact RunW_nil rfl
              · refine r_off rfl rfl rfl rfl (decide_eq_false (p := (((lrd l0 t17_0.toNat).To = user1) ∧ ((lrd l0 t17_0.toNat).Object = object2)) ∧ ((lrd l0 t17_0.toNat).Right = right3)) (fun h => h7 h.2)) rfl rfl ?_
                refine r_off rfl rfl rfl rfl (decide_eq_false (p := (((lrd l0 t17_0.toNat).To = user1) ∧ ((lrd l0 t17_0.toNat).Object = object2)) ∧ ((lrd l0 t17_0.toNat).Right = right3)) (fun h => h7 h.2)) rfl rfl ?_
                refine r_op rfl rfl (PureD.opD (p_pkf rfl rfl (decide_eq_false (p := (((lrd l0 t17_0.toNat).To = user1) ∧ ((lrd l0 t17_0.toNat).Object = object2)) ∧ ((lrd l0 t17_0.toNat).Right = right3)) (fun h => h7 h.2)) (tb (decide_eq_false (p := ((((lrd l0 t17_0.toNat).To = user1) ∧ ((lrd l0 t17_0.toNat).Object = object2)) ∧ ((lrd l0 t17_0.toNat).Right = right3)) ∧ (((lrd l0 t17_0.toNat).Option) = true)) (fun x => (fun h => h7 h.2) x.1)).symm))) ?_
                refine RunW_st [(1, .c (.p (AV.int user1))), (2, .c (.p (AV.int object2))), (3, .c (.p (AV.int right3))), (15, .c (.p ((fun q : List GGrant => AV.lst (q.flatMap GGrant.cs) q.length) l0))), (16, .c (.p (AV.int (l0.length : Int)))), (17, .c (.p (AV.int t17_0))), (40, .c (.p (.bool (decide (((((lrd l0 t17_0.toNat).To = user1) ∧ ((lrd l0 t17_0.toNat).Object = object2)) ∧ ((lrd l0 t17_0.toNat).Right = right3)) ∧ (((lrd l0 t17_0.toNat).Option) = true))))))] [] rfl ⟨TLes.same _, TLes.same _, TLes.same _, TLes.same _, TLes.same _, TLes.same _, TLes.same _, trivial⟩ trivial ?_
                exact RunW_nil rfl
            · refine r_off rfl rfl rfl rfl (decide_eq_false (p := ((lrd l0 t17_0.toNat).To = user1) ∧ ((lrd l0 t17_0.toNat).Object = object2)) (fun h => h6 h.2)) rfl rfl ?_
              refine r_off rfl rfl rfl rfl (decide_eq_false (p := ((lrd l0 t17_0.toNat).To = user1) ∧ ((lrd l0 t17_0.toNat).Object = object2)) (fun h => h6 h.2)) rfl rfl ?_
              refine r_off rfl rfl rfl rfl (decide_eq_false (p := ((lrd l0 t17_0.toNat).To = user1) ∧ ((lrd l0 t17_0.toNat).Object = object2)) (fun h => h6 h.2)) rfl rfl ?_
              refine r_off rfl rfl rfl rfl (decide_eq_false (p := ((lrd l0 t17_0.toNat).To = user1) ∧ ((lrd l0 t17_0.toNat).Object = object2)) (fun h => h6 h.2)) rfl rfl ?_
              refine r_op rfl rfl (PureD.opD (p_pkf rfl rfl (decide_eq_false (p := ((lrd l0 t17_0.toNat).To = user1) ∧ ((lrd l0 t17_0.toNat).Object = object2)) (fun h => h6 h.2)) (tb (decide_eq_false (p := (((lrd l0 t17_0.toNat).To = user1) ∧ ((lrd l0 t17_0.toNat).Object = object2)) ∧ ((lrd l0 t17_0.toNat).Right = right3)) (fun x => (fun h => h6 h.2) x.1)).symm))) ?_
              refine r_op rfl rfl (PureD.opD (p_move rfl rfl)) ?_
              refine r_off rfl rfl rfl rfl (decide_eq_false (p := (((lrd l0 t17_0.toNat).To = user1) ∧ ((lrd l0 t17_0.toNat).Object = object2)) ∧ ((lrd l0 t17_0.toNat).Right = right3)) (fun h => (fun h => h6 h.2) h.1)) rfl rfl ?_
              refine r_off rfl rfl rfl rfl (decide_eq_false (p := (((lrd l0 t17_0.toNat).To = user1) ∧ ((lrd l0 t17_0.toNat).Object = object2)) ∧ ((lrd l0 t17_0.toNat).Right = right3)) (fun h => (fun h => h6 h.2) h.1)) rfl rfl ?_
              refine r_op rfl rfl (PureD.opD (p_pkf rfl rfl (decide_eq_false (p := (((lrd l0 t17_0.toNat).To = user1) ∧ ((lrd l0 t17_0.toNat).Object = object2)) ∧ ((lrd l0 t17_0.toNat).Right = right3)) (fun h => (fun h => h6 h.2) h.1)) (tb (decide_eq_false (p := ((((lrd l0 t17_0.toNat).To = user1) ∧ ((lrd l0 t17_0.toNat).Object = object2)) ∧ ((lrd l0 t17_0.toNat).Right = right3)) ∧ (((lrd l0 t17_0.toNat).Option) = true)) (fun x => (fun h => (fun h => h6 h.2) h.1) x.1)).symm))) ?_
              refine RunW_st [(1, .c (.p (AV.int user1))), (2, .c (.p (AV.int object2))), (3, .c (.p (AV.int right3))), (15, .c (.p ((fun q : List GGrant => AV.lst (q.flatMap GGrant.cs) q.length) l0))), (16, .c (.p (AV.int (l0.length : Int)))), (17, .c (.p (AV.int t17_0))), (40, .c (.p (.bool (decide (((((lrd l0 t17_0.toNat).To = user1) ∧ ((lrd l0 t17_0.toNat).Object = object2)) ∧ ((lrd l0 t17_0.toNat).Right = right3)) ∧ (((lrd l0 t17_0.toNat).Option) = true))))))] [] rfl ⟨TLes.same _, TLes.same _, TLes.same _, TLes.same _, TLes.same _, TLes.same _, TLes.same _, trivial⟩ trivial ?_
              exact RunW_nil rfl
          · refine r_off rfl rfl rfl rfl (decide_eq_false (p := (lrd l0 t17_0.toNat).To = user1) h5) rfl rfl ?_
            refine r_off rfl rfl rfl rfl (decide_eq_false (p := (lrd l0 t17_0.toNat).To = user1) h5) rfl rfl ?_
            refine r_off rfl rfl rfl rfl (decide_eq_false (p := (lrd l0 t17_0.toNat).To = user1) h5) rfl rfl ?_
            refine r_off rfl rfl rfl rfl (decide_eq_false (p := (lrd l0 t17_0.toNat).To = user1) h5) rfl rfl ?_
            refine r_op rfl rfl (PureD.opD (p_pkf rfl rfl (decide_eq_false (p := (lrd l0 t17_0.toNat).To = user1) h5) (tb (decide_eq_false (p := ((lrd l0 t17_0.toNat).To = user1) ∧ ((lrd l0 t17_0.toNat).Object = object2)) (fun x => h5 x.1)).symm))) ?_
            refine r_op rfl rfl (PureD.opD (p_move rfl rfl)) ?_
            refine r_off rfl rfl rfl rfl (decide_eq_false (p := ((lrd l0 t17_0.toNat).To = user1) ∧ ((lrd l0 t17_0.toNat).Object = object2)) (fun h => h5 h.1)) rfl rfl ?_
            refine r_off rfl rfl rfl rfl (decide_eq_false (p := ((lrd l0 t17_0.toNat).To = user1) ∧ ((lrd l0 t17_0.toNat).Object = object2)) (fun h => h5 h.1)) rfl rfl ?_
            refine r_off rfl rfl rfl rfl (decide_eq_false (p := ((lrd l0 t17_0.toNat).To = user1) ∧ ((lrd l0 t17_0.toNat).Object = object2)) (fun h => h5 h.1)) rfl rfl ?_
            refine r_off rfl rfl rfl rfl (decide_eq_false (p := ((lrd l0 t17_0.toNat).To = user1) ∧ ((lrd l0 t17_0.toNat).Object = object2)) (fun h => h5 h.1)) rfl rfl ?_
            refine r_op rfl rfl (PureD.opD (p_pkf rfl rfl (decide_eq_false (p := ((lrd l0 t17_0.toNat).To = user1) ∧ ((lrd l0 t17_0.toNat).Object = object2)) (fun h => h5 h.1)) (tb (decide_eq_false (p := (((lrd l0 t17_0.toNat).To = user1) ∧ ((lrd l0 t17_0.toNat).Object = object2)) ∧ ((lrd l0 t17_0.toNat).Right = right3)) (fun x => (fun h => h5 h.1) x.1)).symm))) ?_
            refine r_op rfl rfl (PureD.opD (p_move rfl rfl)) ?_
            refine r_off rfl rfl rfl rfl (decide_eq_false (p := (((lrd l0 t17_0.toNat).To = user1) ∧ ((lrd l0 t17_0.toNat).Object = object2)) ∧ ((lrd l0 t17_0.toNat).Right = right3)) (fun h => (fun h => h5 h.1) h.1)) rfl rfl ?_
            refine r_off rfl rfl rfl rfl (decide_eq_false (p := (((lrd l0 t17_0.toNat).To = user1) ∧ ((lrd l0 t17_0.toNat).Object = object2)) ∧ ((lrd l0 t17_0.toNat).Right = right3)) (fun h => (fun h => h5 h.1) h.1)) rfl rfl ?_
            refine r_op rfl rfl (PureD.opD (p_pkf rfl rfl (decide_eq_false (p := (((lrd l0 t17_0.toNat).To = user1) ∧ ((lrd l0 t17_0.toNat).Object = object2)) ∧ ((lrd l0 t17_0.toNat).Right = right3)) (fun h => (fun h => h5 h.1) h.1)) (tb (decide_eq_false (p := ((((lrd l0 t17_0.toNat).To = user1) ∧ ((lrd l0 t17_0.toNat).Object = object2)) ∧ ((lrd l0 t17_0.toNat).Right = right3)) ∧ (((lrd l0 t17_0.toNat).Option) = true)) (fun x => (fun h => (fun h => h5 h.1) h.1) x.1)).symm))) ?_
            refine RunW_st [(1, .c (.p (AV.int user1))), (2, .c (.p (AV.int object2))), (3, .c (.p (AV.int right3))), (15, .c (.p ((fun q : List GGrant => AV.lst (q.flatMap GGrant.cs) q.length) l0))), (16, .c (.p (AV.int (l0.length : Int)))), (17, .c (.p (AV.int t17_0))), (40, .c (.p (.bool (decide (((((lrd l0 t17_0.toNat).To = user1) ∧ ((lrd l0 t17_0.toNat).Object = object2)) ∧ ((lrd l0 t17_0.toNat).Right = right3)) ∧ (((lrd l0 t17_0.toNat).Option) = true))))))] [] rfl ⟨TLes.same _, TLes.same _, TLes.same _, TLes.same _, TLes.same _, TLes.same _, TLes.same _, trivial⟩ trivial ?_
            exact RunW_nil rfl
        · refine gen1 (fun t40'2 => (⟨[(1, .c (.p (AV.int user1))), (2, .c (.p (AV.int object2))), (3, .c (.p (AV.int right3))), (15, .c (.p ((fun q : List GGrant => AV.lst (q.flatMap GGrant.cs) q.length) l0))), (16, .c (.p (AV.int (l0.length : Int)))), (17, .c (.p (AV.int t17_0))), (40, .c (.p (AV.bool t40'2)))], [], 42⟩ : TS)) H ?_
          intro t40'2 H
          refine AW2_cond rfl (fun h8 => ?_) (fun h8 => ?_)
          · replace H := ite_then h8 H
            refine AW2_seq ?_
            refine AW2_reg [0] rfl ?_
            refine r_op rfl rfl (PureD.opD (p_asg rfl rfl)) ?_
            refine RunW_st [(8, .c (.p (AV.bool true)))] [] rfl ⟨TLes.same _, trivial⟩ trivial ?_
            refine RunW_nil ?_
            refine AW2_ret ?_
            have hz := some_elim H
            subst hz
            exact ⟨rfl, ⟨res_tmp (.same _), trivial⟩, trivial⟩
          · replace H := ite_else (ne_true h8) H
            refine AW2_st [(1, .c (.p (AV.int user1))), (2, .c (.p (AV.int object2))), (3, .c (.p (AV.int right3))), (15, .c (.p ((fun q : List GGrant => AV.lst (q.flatMap GGrant.cs) q.length) l0))), (16, .c (.p (AV.int (l0.length : Int)))), (17, .c (.p (AV.int t17_0)))] [] rfl ⟨TLes.same _, TLes.same _, TLes.same _, TLes.same _, TLes.same _, TLes.same _, trivial⟩ trivial ?_
            refine AW2_skip ?_
            refine AW2_reg [0, 1] rfl ?_
            refine r_op rfl rfl (PureD.opD (p_bin rfl rfl rfl rfl)) ?_
            refine r_op rfl rfl (PureD.opD (p_move rfl rfl)) ?_
            refine RunW_st [(1, .c (.p (AV.int user1))), (2, .c (.p (AV.int object2))), (3, .c (.p (AV.int right3))), (15, .c (.p ((fun q : List GGrant => AV.lst (q.flatMap GGrant.cs) q.length) l0))), (16, .c (.p (AV.int (l0.length : Int)))), (17, .c (.p (AV.int (w64 (t17_0 + (1 : Int))))))] [] rfl ⟨TLes.same _, TLes.same _, TLes.same _, TLes.same _, TLes.same _, TLes.same _, trivial⟩ trivial ?_
            refine RunW_nil ?_
            have hz := some_elim H
            subst hz
            exact ⟨rfl, rfl⟩
      · replace H := ite_else h3 H
        refine AW2_st [] [] rfl trivial trivial ?_
        refine AW2_exit ?_
        refine thenQ2_exit ?_
        have hz := some_elim H
        subst hz
        exact ⟨rfl, rfl⟩
    · rcases o'6 with y'7 | y'8
      · obtain ⟨rfl, hs⟩ := hs
        refine ⟨by simp, ?_⟩
        have hz := some_elim H
        subst hz
        exact ⟨hs.1, hs.2⟩
      · obtain ⟨rfl, rfl⟩ := hs
        refine ⟨by simp, ?_⟩
        refine blockQ2_exit ?_
        refine AW2_seq ?_
        refine AW2_reg [0] rfl ?_
        refine r_op rfl rfl (PureD.opD (p_asg rfl rfl)) ?_
        refine RunW_st [(8, .c (.p (AV.bool false)))] [] rfl ⟨TLes.same _, trivial⟩ trivial ?_
        refine RunW_nil ?_
        refine AW2_ret ?_
        have hz := some_elim H
        subst hz
        exact ⟨⟨res_tmp (.same _), trivial⟩, trivial⟩
end Go.Proofs.Ytgbfmldbbnhefaa.VM
