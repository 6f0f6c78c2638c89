/- Functions of the program, as they answer, and that their code comes to these answers. -/
import Derived.Test.YtgbfmldbbnhefaaGr6
namespace Go.Proofs.Ytgbfmldbbnhefaa.VM
open Go Go.RowKit



/-! right.Has -/
noncomputable def g_right_Has_l0 (l0 : List GGrant) (user1 : Int) (object2 : Int) (right3 : Int) : Int → Option (Int ⊕ ((Bool × Int) ⊕ Unit))
  | t27_0 => (if t27_0 < (l0.length : Int) then if 0 ≤ t27_0 ∧ t27_0 < (l0.length : Int) then (if (((lrd l0 t27_0.toNat).To = user1) ∧ ((lrd l0 t27_0.toNat).Object = object2)) ∧ ((lrd l0 t27_0.toNat).Right = right3) then some (.inr (.inl (true, (0 : Int)))) else some (.inl (w64 (t27_0 + (1 : Int))))) else none else some (.inr (.inr ())))
noncomputable def g_right_Has (l0 : List GGrant) (user1 : Int) (object2 : Int) (right3 : Int) : Option (Bool × Int) :=
  (g_right_asked l0 user1 object2 right3).bind fun r'1 => (if r'1 ≠ (0 : Int) then some (false, r'1) else (g_right_owner object2).bind fun r'2 => (if r'2 = user1 then some (true, (0 : Int)) else (loopO (g_right_Has_l0 l0 user1 object2 right3) (0 : Int)).bind fun o'6 => match o'6 with | .inl y'7 => some y'7 | .inr (y'8) => some (false, (0 : Int))))
set_option maxHeartbeats 4000000 in
set_option maxRecDepth 100000 in
theorem g_right_Has_ac {l0 : List GGrant} {user1 : Int} {object2 : Int} {right3 : Int} {r : Bool × Int} (H : g_right_Has l0 user1 object2 right3 = some r) : ACp Try.prog 13 [((fun q : List GGrant => AV.lst (q.flatMap GGrant.cs) q.length) l0), (AV.int user1), (AV.int object2), (AV.int right3)] (.tup [(AV.bool r.1), (AV.int r.2)]) := by
  refine ACp_of (AC2_of_body (vs := [.c (.p (AV.bool r.1)), .c (.p (AV.int r.2))]) Try.func13 rfl rfl (Nat.le_of_ble_eq_true rfl) rfl ?_) (fun _ => .same _)
  unfold g_right_Has at H
  refine AW2_st [(0, .c (.p ((fun q : List GGrant => AV.lst (q.flatMap GGrant.cs) q.length) l0))), (1, .c (.p (AV.int user1))), (2, .c (.p (AV.int object2))), (3, .c (.p (AV.int right3)))] [] rfl ⟨TLes.same _, TLes.same _, TLes.same _, TLes.same _, trivial⟩ trivial ?_
  refine AW2_seq ?_
  refine AW2_reg [0, 1] rfl ?_
  refine r_op rfl rfl (PureD.opD (p_asg rfl rfl)) ?_
  refine r_op rfl rfl (PureD.opD (p_asg rfl rfl)) ?_
  refine RunW_st [(0, .c (.p ((fun q : List GGrant => AV.lst (q.flatMap GGrant.cs) q.length) l0))), (1, .c (.p (AV.int user1))), (2, .c (.p (AV.int object2))), (3, .c (.p (AV.int right3)))] [] rfl ⟨TLes.same _, TLes.same _, TLes.same _, TLes.same _, trivial⟩ trivial ?_
  refine RunW_nil ?_
  refine AW2_seq ?_
  refine AW2_seq ?_
  refine AW2_reg [0, 1, 2, 3, 4, 5] rfl ?_
  refine r_op rfl rfl (PureD.opD (p_move rfl rfl)) ?_
  refine r_op rfl rfl (PureD.opD (p_move rfl rfl)) ?_
  refine r_op rfl rfl (PureD.opD (p_move rfl rfl)) ?_
  refine r_op rfl rfl (PureD.opD (p_move rfl rfl)) ?_
  refine bindK H fun r'1 h1 H => ?_
  refine r_op rfl rfl (PureD.opD (p_callp rfl rfl rfl Try.func26 rfl rfl (g_right_asked_ac h1) ⟨rfl, rfl, rfl, rfl, trivial⟩)) ?_
  refine r_op rfl rfl (PureD.opD (p_asg rfl rfl)) ?_
  refine RunW_st [(0, .c (.p ((fun q : List GGrant => AV.lst (q.flatMap GGrant.cs) q.length) l0))), (1, .c (.p (AV.int user1))), (2, .c (.p (AV.int object2))), (3, .c (.p (AV.int right3))), (10, .c (.p (AV.int r'1)))] [] rfl ⟨TLes.same _, TLes.same _, TLes.same _, TLes.same _, TLes.same _, trivial⟩ trivial ?_
  refine RunW_nil ?_
  refine AW2_seq ?_
  refine AW2_reg [0, 1] rfl ?_
  refine r_op rfl rfl (PureD.opD (p_move rfl rfl)) ?_
  refine r_op rfl rfl (PureD.opD (p_ine rfl rfl rfl)) ?_
  refine RunW_st [(0, .c (.p ((fun q : List GGrant => AV.lst (q.flatMap GGrant.cs) q.length) l0))), (1, .c (.p (AV.int user1))), (2, .c (.p (AV.int object2))), (3, .c (.p (AV.int right3))), (10, .c (.p (AV.int r'1))), (19, .c (.p (.bool (decide (r'1 ≠ (0 : Int))))))] [] rfl ⟨TLes.same _, TLes.same _, TLes.same _, TLes.same _, TLes.same _, TLes.same _, trivial⟩ trivial ?_
  refine RunW_nil ?_
  refine AW2_if (p := r'1 ≠ (0 : Int)) rfl (fun h2 => ?_) (fun h2 => ?_)
  · replace H := ite_then h2 H
    refine AW2_seq ?_
    refine AW2_reg [0, 1, 2] rfl ?_
    refine r_op rfl rfl (PureD.opD (p_move rfl rfl)) ?_
    refine r_op rfl rfl (PureD.opD (p_asg rfl rfl)) ?_
    refine r_op rfl rfl (PureD.opD (p_asg rfl rfl)) ?_
    refine RunW_st [(8, .c (.p (AV.bool false))), (9, .c (.p (AV.int r'1)))] [] rfl ⟨TLes.same _, TLes.same _, trivial⟩ trivial ?_
    refine RunW_nil ?_
    refine AW2_ret ?_
    have hz := some_elim H
    subst hz
    exact ⟨⟨res_tmp (.same _), res_tmp (.same _), trivial⟩, trivial⟩
  · replace H := ite_else h2 H
    refine AW2_st [(0, .c (.p ((fun q : List GGrant => AV.lst (q.flatMap GGrant.cs) q.length) l0))), (1, .c (.p (AV.int user1))), (2, .c (.p (AV.int object2))), (3, .c (.p (AV.int right3)))] [] rfl ⟨TLes.same _, TLes.same _, TLes.same _, TLes.same _, trivial⟩ trivial ?_
    refine AW2_skip ?_
    refine AW2_seq ?_
    refine AW2_seq ?_
    refine AW2_reg [0, 1, 2, 3] rfl ?_
    refine r_op rfl rfl (PureD.opD (p_move rfl rfl)) ?_
    refine bindK H fun r'2 h3 H => ?_
    refine r_op rfl rfl (PureD.opD (p_callp rfl rfl rfl Try.func27 rfl rfl (g_right_owner_ac h3) ⟨rfl, trivial⟩)) ?_
    refine r_op rfl rfl (PureD.opD (p_move rfl rfl)) ?_
    refine r_op rfl rfl (PureD.opD (p_ieq rfl rfl rfl)) ?_
    refine RunW_st [(0, .c (.p ((fun q : List GGrant => AV.lst (q.flatMap GGrant.cs) q.length) l0))), (1, .c (.p (AV.int user1))), (2, .c (.p (AV.int object2))), (3, .c (.p (AV.int right3))), (24, .c (.p (.bool (decide (r'2 = user1)))))] [] rfl ⟨TLes.same _, TLes.same _, TLes.same _, TLes.same _, TLes.same _, trivial⟩ trivial ?_
    refine RunW_nil ?_
    refine AW2_if (p := r'2 = user1) rfl (fun h4 => ?_) (fun h4 => ?_)
    · replace H := ite_then h4 H
      refine AW2_seq ?_
      refine AW2_reg [0, 1] rfl ?_
      refine r_op rfl rfl (PureD.opD (p_asg rfl rfl)) ?_
      refine r_op rfl rfl (PureD.opD (p_asg rfl rfl)) ?_
      refine RunW_st [(8, .c (.p (AV.bool true))), (9, .c (.p (AV.int (0 : Int))))] [] rfl ⟨TLes.same _, TLes.same _, trivial⟩ trivial ?_
      refine RunW_nil ?_
      refine AW2_ret ?_
      have hz := some_elim H
      subst hz
      exact ⟨⟨res_tmp (.same _), res_tmp (.same _), trivial⟩, trivial⟩
    · replace H := ite_else h4 H
      refine AW2_st [(0, .c (.p ((fun q : List GGrant => AV.lst (q.flatMap GGrant.cs) q.length) l0))), (1, .c (.p (AV.int user1))), (2, .c (.p (AV.int object2))), (3, .c (.p (AV.int right3)))] [] rfl ⟨TLes.same _, TLes.same _, TLes.same _, TLes.same _, trivial⟩ trivial ?_
      refine AW2_skip ?_
      refine AW2_seq ?_
      refine AW2_seq ?_
      refine AW2_reg [0, 1, 2] rfl ?_
      refine r_op rfl rfl (PureD.opD (p_move rfl rfl)) ?_
      refine r_op rfl rfl (PureD.opD (p_lenl rfl Try.underlying22 rfl rfl)) ?_
      refine r_op rfl rfl (PureD.opD (p_move rfl rfl)) ?_
      refine RunW_st [(1, .c (.p (AV.int user1))), (2, .c (.p (AV.int object2))), (3, .c (.p (AV.int right3))), (25, .c (.p ((fun q : List GGrant => AV.lst (q.flatMap GGrant.cs) q.length) l0))), (26, .c (.p (AV.int (l0.length : Int)))), (27, .c (.p (AV.int (0 : Int))))] [] rfl ⟨TLes.same _, TLes.same _, TLes.same _, TLes.same _, TLes.same _, TLes.same _, trivial⟩ trivial ?_
      refine RunW_nil ?_
      refine AW2_block ?_
      refine AW2_st [(1, .c (.p (AV.int user1))), (2, .c (.p (AV.int object2))), (3, .c (.p (AV.int right3))), (25, .c (.p ((fun q : List GGrant => AV.lst (q.flatMap GGrant.cs) q.length) l0))), (26, .c (.p (AV.int (l0.length : Int)))), (27, .c (.p (AV.int (0 : Int))))] [] rfl ⟨TLes.same _, TLes.same _, TLes.same _, TLes.same _, TLes.same _, TLes.same _, trivial⟩ trivial ?_
      refine bindK H fun o'6 h10 H => ?_
      refine AW2_loopO (fun a'3 : Int => (⟨[(1, .c (.p (AV.int user1))), (2, .c (.p (AV.int object2))), (3, .c (.p (AV.int right3))), (25, .c (.p ((fun q : List GGrant => AV.lst (q.flatMap GGrant.cs) q.length) l0))), (26, .c (.p (AV.int (l0.length : Int)))), (27, .c (.p (AV.int a'3)))], [], 48⟩ : TS)) (fun (o : (Bool × Int) ⊕ Unit) e s' => match o with | .inl y'4 => e = Go.Exit.ret ∧ ResAll Try.prog s' [ResultVar.tmp 8, ResultVar.tmp 9] [.c (.p (AV.bool y'4.1)), .c (.p (AV.int y'4.2))] ∧ HFits s' [] | .inr (y'5) => e = Go.Exit.exit 0 ∧ s' = (⟨[], [], 48⟩ : TS)) h10 rfl (fun t27_0 x hx => ?_) (fun e s' hs => ?_)
      · clear H
        have H := hx
        clear hx
        unfold g_right_Has_l0 at H
        refine AW2_seq ?_
        refine AW2_reg [0] rfl ?_
        refine r_op rfl rfl (PureD.opD (p_bin rfl rfl rfl rfl)) ?_
        refine RunW_st [(1, .c (.p (AV.int user1))), (2, .c (.p (AV.int object2))), (3, .c (.p (AV.int right3))), (25, .c (.p ((fun q : List GGrant => AV.lst (q.flatMap GGrant.cs) q.length) l0))), (26, .c (.p (AV.int (l0.length : Int)))), (27, .c (.p (AV.int t27_0))), (28, .c (.p (.bool (decide (t27_0 < (l0.length : Int))))))] [] rfl ⟨TLes.same _, TLes.same _, TLes.same _, TLes.same _, TLes.same _, TLes.same _, TLes.same _, trivial⟩ trivial ?_
        refine RunW_nil ?_
        refine AW2_seq ?_
        refine AW2_if (p := t27_0 < (l0.length : Int)) rfl (fun h5 => ?_) (fun h5 => ?_)
        · replace H := ite_then h5 H
          refine AW2_st [(1, .c (.p (AV.int user1))), (2, .c (.p (AV.int object2))), (3, .c (.p (AV.int right3))), (25, .c (.p ((fun q : List GGrant => AV.lst (q.flatMap GGrant.cs) q.length) l0))), (26, .c (.p (AV.int (l0.length : Int)))), (27, .c (.p (AV.int t27_0)))] [] rfl ⟨TLes.same _, TLes.same _, TLes.same _, TLes.same _, TLes.same _, TLes.same _, trivial⟩ trivial ?_
          refine AW2_skip ?_
          refine AW2_seq ?_
          refine AW2_block ?_
          refine AW2_seq ?_
          refine AW2_reg [0, 1, 2, 3] rfl ?_
          refine chkK H fun h6 H => ?_
          refine r_op rfl rfl (PureD.opD (u_ixl rfl rfl Try.underlying22 in_27 rfl rfl (ixe h6) (ixn h6) (fne (fun x => (GGrant.len x)) (by decide) (ixn h6)))) ?_
          refine r_op rfl rfl (PureD.opD (u_lda rfl rfl Try.underlying27 rfl in_27 rfl (Nat.succ_pos _) (Sub.fm default (fun x => (GGrant.len x)) (ixn h6)) (GGrant.len (lrd l0 t27_0.toNat)))) ?_
          refine r_op rfl rfl (MakeD.opD (u_alloc 12 rfl in_27 one_27 zc_27) rfl rfl rfl rfl) ?_
          refine r_op rfl rfl (u_st rfl rfl rfl rfl rfl in_27 (GGrant.len (lrd l0 t27_0.toNat)) (ne_of_lt (n := 0) (Nat.lt_of_lt_of_eq (by decide) (Eq.symm (GGrant.len GGrant.zero)))) (Upd.refl ((GGrant.len (lrd l0 t27_0.toNat)).trans (GGrant.len GGrant.zero).symm))) ?_
          refine RunW_st [(1, .c (.p (AV.int user1))), (2, .c (.p (AV.int object2))), (3, .c (.p (AV.int right3))), (12, .c (.ptr 12 (0))), (25, .c (.p ((fun q : List GGrant => AV.lst (q.flatMap GGrant.cs) q.length) l0))), (26, .c (.p (AV.int (l0.length : Int)))), (27, .c (.p (AV.int t27_0)))] [(12, .pure (GGrant.cs (lrd l0 t27_0.toNat)))] rfl ⟨TLes.same _, TLes.same _, TLes.same _, TLes.same _, TLes.same _, TLes.same _, TLes.same _, trivial⟩ ⟨rfl, trivial⟩ ?_
          refine RunW_nil ?_
          refine AW2_seq ?_
          refine AW2_mid (⟨[(1, .c (.p (AV.int user1))), (2, .c (.p (AV.int object2))), (3, .c (.p (AV.int right3))), (25, .c (.p ((fun q : List GGrant => AV.lst (q.flatMap GGrant.cs) q.length) l0))), (26, .c (.p (AV.int (l0.length : Int)))), (27, .c (.p (AV.int t27_0))), (46, .c (.p (.bool (decide ((((lrd l0 t27_0.toNat).To = user1) ∧ ((lrd l0 t27_0.toNat).Object = object2)) ∧ ((lrd l0 t27_0.toNat).Right = right3))))))], [], 48⟩ : TS) ?_ ?_
          · refine AW2_reg [0, 1, 2, 3, 4, 5, 6, 7, 8, 9, 10, 11, 12, 13, 14, 15] rfl ?_
            refine r_op rfl rfl (PureD.opD (u_fa rfl rfl Try.underlying27 rfl in_3 (Nat.succ_ne_zero _) rfl rfl (ne_of_lt (n := 0) (Nat.lt_of_lt_of_eq (by decide) (Eq.symm (GGrant.len (lrd l0 t27_0.toNat))))))) ?_
            refine r_op rfl rfl (PureD.opD (u_ld rfl rfl Try.underlying3 rfl rfl ((Sub.refl _).trans (GGrant.sub1 (lrd l0 t27_0.toNat))))) ?_
            refine r_op rfl rfl (PureD.opD (p_move rfl rfl)) ?_
            refine r_op rfl rfl (PureD.opD (p_ieq rfl rfl rfl)) ?_
            refine r_op rfl rfl (PureD.opD (p_move rfl rfl)) ?_
            refine (Classical.em ((lrd l0 t27_0.toNat).To = user1)).elim (fun h7 => ?_) (fun h7 => ?_)
            · refine r_on rfl rfl rfl rfl (decide_eq_true (p := (lrd l0 t27_0.toNat).To = user1) h7) rfl (PureD.opD (u_fa rfl rfl Try.underlying27 rfl in_3 (Nat.succ_ne_zero _) rfl rfl (ne_of_lt (n := 0) (Nat.lt_of_lt_of_eq (by decide) (Eq.symm (GGrant.len (lrd l0 t27_0.toNat))))))) ?_
              refine r_on rfl rfl rfl rfl (decide_eq_true (p := (lrd l0 t27_0.toNat).To = user1) h7) rfl (PureD.opD (u_ld rfl rfl Try.underlying3 rfl rfl ((Sub.refl _).trans (GGrant.sub2 (lrd l0 t27_0.toNat))))) ?_
              refine r_on rfl rfl rfl rfl (decide_eq_true (p := (lrd l0 t27_0.toNat).To = user1) h7) rfl (PureD.opD (p_move rfl rfl)) ?_
              refine r_on rfl rfl rfl rfl (decide_eq_true (p := (lrd l0 t27_0.toNat).To = user1) h7) rfl (PureD.opD (p_ieq rfl rfl rfl)) ?_
              refine r_op rfl rfl (PureD.opD (p_pkt rfl rfl (decide_eq_true (p := (lrd l0 t27_0.toNat).To = user1) h7) (tb ((and_l (p := (lrd l0 t27_0.toNat).To = user1) (q := (lrd l0 t27_0.toNat).Object = object2) h7))))) ?_
              refine r_op rfl rfl (PureD.opD (p_move rfl rfl)) ?_
              refine (Classical.em ((lrd l0 t27_0.toNat).Object = object2)).elim (fun h8 => ?_) (fun h8 => ?_)
              · refine r_on rfl rfl rfl rfl (decide_eq_true (p := ((lrd l0 t27_0.toNat).To = user1) ∧ ((lrd l0 t27_0.toNat).Object = object2)) ⟨h7, h8⟩) rfl (PureD.opD (u_fa rfl rfl Try.underlying27 rfl in_3 (Nat.succ_ne_zero _) rfl rfl (ne_of_lt (n := 0) (Nat.lt_of_lt_of_eq (by decide) (Eq.symm (GGrant.len (lrd l0 t27_0.toNat))))))) ?_
                refine r_on rfl rfl rfl rfl (decide_eq_true (p := ((lrd l0 t27_0.toNat).To = user1) ∧ ((lrd l0 t27_0.toNat).Object = object2)) ⟨h7, h8⟩) rfl (PureD.opD (u_ld rfl rfl Try.underlying3 rfl rfl ((Sub.refl _).trans (GGrant.sub3 (lrd l0 t27_0.toNat))))) ?_
                refine r_on rfl rfl rfl rfl (decide_eq_true (p := ((lrd l0 t27_0.toNat).To = user1) ∧ ((lrd l0 t27_0.toNat).Object = object2)) ⟨h7, h8⟩) rfl (PureD.opD (p_move rfl rfl)) ?_
                refine r_on rfl rfl rfl rfl (decide_eq_true (p := ((lrd l0 t27_0.toNat).To = user1) ∧ ((lrd l0 t27_0.toNat).Object = object2)) ⟨h7, h8⟩) rfl (PureD.opD (p_ieq rfl rfl rfl)) ?_
                refine r_op rfl rfl (PureD.opD (p_pkt rfl rfl (decide_eq_true (p := ((lrd l0 t27_0.toNat).To = user1) ∧ ((lrd l0 t27_0.toNat).Object = object2)) ⟨h7, h8⟩) (tb ((and_l (p := ((lrd l0 t27_0.toNat).To = user1) ∧ ((lrd l0 t27_0.toNat).Object = object2)) (q := (lrd l0 t27_0.toNat).Right = right3) ⟨h7, h8⟩))))) ?_
                refine RunW_st [(1, .c (.p (AV.int user1))), (2, .c (.p (AV.int object2))), (3, .c (.p (AV.int right3))), (25, .c (.p ((fun q : List GGrant => AV.lst (q.flatMap GGrant.cs) q.length) l0))), (26, .c (.p (AV.int (l0.length : Int)))), (27, .c (.p (AV.int t27_0))), (46, .c (.p (.bool (decide ((((lrd l0 t27_0.toNat).To = user1) ∧ ((lrd l0 t27_0.toNat).Object = object2)) ∧ ((lrd l0 t27_0.toNat).Right = right3))))))] [] rfl ⟨TLes.same _, TLes.same _, TLes.same _, TLes.same _, TLes.same _, TLes.same _, TLes.same _, trivial⟩ trivial ?_
                exact RunW_nil rfl
              · refine r_off rfl rfl rfl rfl (decide_eq_false (p := ((lrd l0 t27_0.toNat).To = user1) ∧ ((lrd l0 t27_0.toNat).Object = object2)) (fun h => h8 h.2)) rfl rfl ?_
                refine r_off rfl rfl rfl rfl (decide_eq_false (p := ((lrd l0 t27_0.toNat).To = user1) ∧ ((lrd l0 t27_0.toNat).Object = object2)) (fun h => h8 h.2)) rfl rfl ?_
                refine r_off rfl rfl rfl rfl (decide_eq_false (p := ((lrd l0 t27_0.toNat).To = user1) ∧ ((lrd l0 t27_0.toNat).Object = object2)) (fun h => h8 h.2)) rfl rfl ?_
                refine r_off rfl rfl rfl rfl (decide_eq_false (p := ((lrd l0 t27_0.toNat).To = user1) ∧ ((lrd l0 t27_0.toNat).Object = object2)) (fun h => h8 h.2)) rfl rfl ?_
                refine r_op rfl rfl (PureD.opD (p_pkf rfl rfl (decide_eq_false (p := ((lrd l0 t27_0.toNat).To = user1) ∧ ((lrd l0 t27_0.toNat).Object = object2)) (fun h => h8 h.2)) (tb (decide_eq_false (p := (((lrd l0 t27_0.toNat).To = user1) ∧ ((lrd l0 t27_0.toNat).Object = object2)) ∧ ((lrd l0 t27_0.toNat).Right = right3)) (fun x => (fun h => h8 h.2) x.1)).symm))) ?_
                refine RunW_st [(1, .c (.p (AV.int user1))), (2, .c (.p (AV.int object2))), (3, .c (.p (AV.int right3))), (25, .c (.p ((fun q : List GGrant => AV.lst (q.flatMap GGrant.cs) q.length) l0))), (26, .c (.p (AV.int (l0.length : Int)))), (27, .c (.p (AV.int t27_0))), (46, .c (.p (.bool (decide ((((lrd l0 t27_0.toNat).To = user1) ∧ ((lrd l0 t27_0.toNat).Object = object2)) ∧ ((lrd l0 t27_0.toNat).Right = right3))))))] [] rfl ⟨TLes.same _, TLes.same _, TLes.same _, TLes.same _, TLes.same _, TLes.same _, TLes.same _, trivial⟩ trivial ?_
                exact RunW_nil rfl
            · refine r_off rfl rfl rfl rfl (decide_eq_false (p := (lrd l0 t27_0.toNat).To = user1) h7) rfl rfl ?_
              refine r_off rfl rfl rfl rfl (decide_eq_false (p := (lrd l0 t27_0.toNat).To = user1) h7) rfl rfl ?_
              refine r_off rfl rfl rfl rfl (decide_eq_false (p := (lrd l0 t27_0.toNat).To = user1) h7) rfl rfl ?_
              refine r_off rfl rfl rfl rfl (decide_eq_false (p := (lrd l0 t27_0.toNat).To = user1) h7) rfl rfl ?_
              refine r_op rfl rfl (PureD.opD (p_pkf rfl rfl (decide_eq_false (p := (lrd l0 t27_0.toNat).To = user1) h7) (tb (decide_eq_false (p := ((lrd l0 t27_0.toNat).To = user1) ∧ ((lrd l0 t27_0.toNat).Object = object2)) (fun x => h7 x.1)).symm))) ?_
              refine r_op rfl rfl (PureD.opD (p_move rfl rfl)) ?_
              refine r_off rfl rfl rfl rfl (decide_eq_false (p := ((lrd l0 t27_0.toNat).To = user1) ∧ ((lrd l0 t27_0.toNat).Object = object2)) (fun h => h7 h.1)) rfl rfl ?_
              refine r_off rfl rfl rfl rfl (decide_eq_false (p := ((lrd l0 t27_0.toNat).To = user1) ∧ ((lrd l0 t27_0.toNat).Object = object2)) (fun h => h7 h.1)) rfl rfl ?_
              refine r_off rfl rfl rfl rfl (decide_eq_false (p := ((lrd l0 t27_0.toNat).To = user1) ∧ ((lrd l0 t27_0.toNat).Object = object2)) (fun h => h7 h.1)) rfl rfl ?_
              refine r_off rfl rfl rfl rfl (decide_eq_false (p := ((lrd l0 t27_0.toNat).To = user1) ∧ ((lrd l0 t27_0.toNat).Object = object2)) (fun h => h7 h.1)) rfl rfl ?_
              refine r_op rfl rfl (PureD.opD (p_pkf rfl rfl (decide_eq_false (p := ((lrd l0 t27_0.toNat).To = user1) ∧ ((lrd l0 t27_0.toNat).Object = object2)) (fun h => h7 h.1)) (tb (decide_eq_false (p := (((lrd l0 t27_0.toNat).To = user1) ∧ ((lrd l0 t27_0.toNat).Object = object2)) ∧ ((lrd l0 t27_0.toNat).Right = right3)) (fun x => (fun h => h7 h.1) x.1)).symm))) ?_
              refine RunW_st [(1, .c (.p (AV.int user1))), (2, .c (.p (AV.int object2))), (3, .c (.p (AV.int right3))), (25, .c (.p ((fun q : List GGrant => AV.lst (q.flatMap GGrant.cs) q.length) l0))), (26, .c (.p (AV.int (l0.length : Int)))), (27, .c (.p (AV.int t27_0))), (46, .c (.p (.bool (decide ((((lrd l0 t27_0.toNat).To = user1) ∧ ((lrd l0 t27_0.toNat).Object = object2)) ∧ ((lrd l0 t27_0.toNat).Right = right3))))))] [] rfl ⟨TLes.same _, TLes.same _, TLes.same _, TLes.same _, TLes.same _, TLes.same _, TLes.same _, trivial⟩ trivial ?_
              exact RunW_nil rfl
          · refine AW2_if (p := (((lrd l0 t27_0.toNat).To = user1) ∧ ((lrd l0 t27_0.toNat).Object = object2)) ∧ ((lrd l0 t27_0.toNat).Right = right3)) rfl (fun h9 => ?_) (fun h9 => ?_)
            · replace H := ite_then h9 H
              refine AW2_seq ?_
              refine AW2_reg [0, 1] rfl ?_
              refine r_op rfl rfl (PureD.opD (p_asg rfl rfl)) ?_
              refine r_op rfl rfl (PureD.opD (p_asg rfl rfl)) ?_
              refine RunW_st [(8, .c (.p (AV.bool true))), (9, .c (.p (AV.int (0 : Int))))] [] rfl ⟨TLes.same _, TLes.same _, trivial⟩ trivial ?_
              refine RunW_nil ?_
              refine AW2_ret ?_
              have hz := some_elim H
              subst hz
              exact ⟨rfl, ⟨res_tmp (.same _), res_tmp (.same _), trivial⟩, trivial⟩
            · replace H := ite_else h9 H
              refine AW2_st [(1, .c (.p (AV.int user1))), (2, .c (.p (AV.int object2))), (3, .c (.p (AV.int right3))), (25, .c (.p ((fun q : List GGrant => AV.lst (q.flatMap GGrant.cs) q.length) l0))), (26, .c (.p (AV.int (l0.length : Int)))), (27, .c (.p (AV.int t27_0)))] [] rfl ⟨TLes.same _, TLes.same _, TLes.same _, TLes.same _, TLes.same _, TLes.same _, trivial⟩ trivial ?_
              refine AW2_skip ?_
              refine AW2_reg [0, 1] rfl ?_
              refine r_op rfl rfl (PureD.opD (p_bin rfl rfl rfl rfl)) ?_
              refine r_op rfl rfl (PureD.opD (p_move rfl rfl)) ?_
              refine RunW_st [(1, .c (.p (AV.int user1))), (2, .c (.p (AV.int object2))), (3, .c (.p (AV.int right3))), (25, .c (.p ((fun q : List GGrant => AV.lst (q.flatMap GGrant.cs) q.length) l0))), (26, .c (.p (AV.int (l0.length : Int)))), (27, .c (.p (AV.int (w64 (t27_0 + (1 : Int))))))] [] rfl ⟨TLes.same _, TLes.same _, TLes.same _, TLes.same _, TLes.same _, TLes.same _, trivial⟩ trivial ?_
              refine RunW_nil ?_
              have hz := some_elim H
              subst hz
              exact ⟨rfl, rfl⟩
        · replace H := ite_else h5 H
          refine AW2_st [] [] rfl trivial trivial ?_
          refine AW2_exit ?_
          refine thenQ2_exit ?_
          have hz := some_elim H
          subst hz
          exact ⟨rfl, rfl⟩
      · rcases o'6 with y'7 | y'8
        · obtain ⟨rfl, hs⟩ := hs
          refine ⟨by simp, ?_⟩
          have hz := some_elim H
          subst hz
          exact ⟨hs.1, hs.2⟩
        · obtain ⟨rfl, rfl⟩ := hs
          refine ⟨by simp, ?_⟩
          refine blockQ2_exit ?_
          refine AW2_seq ?_
          refine AW2_reg [0, 1] rfl ?_
          refine r_op rfl rfl (PureD.opD (p_asg rfl rfl)) ?_
          refine r_op rfl rfl (PureD.opD (p_asg rfl rfl)) ?_
          refine RunW_st [(8, .c (.p (AV.bool false))), (9, .c (.p (AV.int (0 : Int))))] [] rfl ⟨TLes.same _, TLes.same _, trivial⟩ trivial ?_
          refine RunW_nil ?_
          refine AW2_ret ?_
          have hz := some_elim H
          subst hz
          exact ⟨⟨res_tmp (.same _), res_tmp (.same _), trivial⟩, trivial⟩

/-! chirographref.rightFault -/
noncomputable def g_ref_rightFault (l0 : List GGrant) (user1 : Int) (object2 : Int) (right3 : Int) : Option (Int) :=
  (g_ref_GrantsFault l0).bind fun r'1 => (if r'1 ≠ (0 : Int) then some r'1 else (if (((user1 < (0 : Int)) ∨ (user1 ≥ (3 : Int))) ∨ (object2 < (0 : Int))) ∨ (object2 ≥ (12 : Int)) then some (6 : Int) else (if (right3 ≠ (1 : Int)) ∧ (right3 ≠ (2 : Int)) then some (2 : Int) else some (0 : Int))))
set_option maxHeartbeats 4000000 in
set_option maxRecDepth 100000 in
theorem g_ref_rightFault_ac {l0 : List GGrant} {user1 : Int} {object2 : Int} {right3 : Int} {r : Int} (H : g_ref_rightFault l0 user1 object2 right3 = some r) : ACp Try.prog 28 [((fun q : List GGrant => AV.lst (q.flatMap GGrant.cs) q.length) l0), (AV.int user1), (AV.int object2), (AV.int right3)] (AV.int r) := by
  refine ACp_of (AC2_of_body (vs := [.c (.p (AV.int r))]) Try.func28 rfl rfl (Nat.le_of_ble_eq_true rfl) rfl ?_) (fun _ => .same _)
  unfold g_ref_rightFault at H
  refine AW2_st [(0, .c (.p ((fun q : List GGrant => AV.lst (q.flatMap GGrant.cs) q.length) l0))), (1, .c (.p (AV.int user1))), (2, .c (.p (AV.int object2))), (3, .c (.p (AV.int right3)))] [] rfl ⟨TLes.same _, TLes.same _, TLes.same _, TLes.same _, trivial⟩ trivial ?_
  refine AW2_seq ?_
  refine AW2_reg [0] rfl ?_
  refine r_op rfl rfl (PureD.opD (p_asg rfl rfl)) ?_
  refine RunW_st [(0, .c (.p ((fun q : List GGrant => AV.lst (q.flatMap GGrant.cs) q.length) l0))), (1, .c (.p (AV.int user1))), (2, .c (.p (AV.int object2))), (3, .c (.p (AV.int right3)))] [] rfl ⟨TLes.same _, TLes.same _, TLes.same _, TLes.same _, trivial⟩ trivial ?_
  refine RunW_nil ?_
  refine AW2_seq ?_
  refine AW2_seq ?_
  refine AW2_reg [0, 1, 2] rfl ?_
  refine r_op rfl rfl (PureD.opD (p_move rfl rfl)) ?_
  refine bindK H fun r'1 h1 H => ?_
  refine r_op rfl rfl (PureD.opD (p_callp rfl rfl rfl Try.func9 rfl rfl (g_ref_GrantsFault_ac h1) ⟨rfl, trivial⟩)) ?_
  refine r_op rfl rfl (PureD.opD (p_asg rfl rfl)) ?_
  refine RunW_st [(1, .c (.p (AV.int user1))), (2, .c (.p (AV.int object2))), (3, .c (.p (AV.int right3))), (9, .c (.p (AV.int r'1)))] [] rfl ⟨TLes.same _, TLes.same _, TLes.same _, TLes.same _, trivial⟩ trivial ?_
  refine RunW_nil ?_
  refine AW2_seq ?_
  refine AW2_reg [0, 1] rfl ?_
  refine r_op rfl rfl (PureD.opD (p_move rfl rfl)) ?_
  refine r_op rfl rfl (PureD.opD (p_ine rfl rfl rfl)) ?_
  refine RunW_st [(1, .c (.p (AV.int user1))), (2, .c (.p (AV.int object2))), (3, .c (.p (AV.int right3))), (9, .c (.p (AV.int r'1))), (13, .c (.p (.bool (decide (r'1 ≠ (0 : Int))))))] [] rfl ⟨TLes.same _, TLes.same _, TLes.same _, TLes.same _, TLes.same _, trivial⟩ trivial ?_
  refine RunW_nil ?_
  refine AW2_if (p := r'1 ≠ (0 : Int)) rfl (fun h2 => ?_) (fun h2 => ?_)
  · replace H := ite_then h2 H
    refine AW2_seq ?_
    refine AW2_reg [0, 1] rfl ?_
    refine r_op rfl rfl (PureD.opD (p_move rfl rfl)) ?_
    refine r_op rfl rfl (PureD.opD (p_asg rfl rfl)) ?_
    refine RunW_st [(8, .c (.p (AV.int r'1)))] [] rfl ⟨TLes.same _, trivial⟩ trivial ?_
    refine RunW_nil ?_
    refine AW2_ret ?_
    have hz := some_elim H
    subst hz
    exact ⟨⟨res_tmp (.same _), trivial⟩, trivial⟩
  · replace H := ite_else h2 H
    refine AW2_st [(1, .c (.p (AV.int user1))), (2, .c (.p (AV.int object2))), (3, .c (.p (AV.int right3)))] [] rfl ⟨TLes.same _, TLes.same _, TLes.same _, trivial⟩ trivial ?_
    refine AW2_skip ?_
    refine AW2_seq ?_
    refine AW2_seq ?_
    refine AW2_mid (⟨[(3, .c (.p (AV.int right3))), (28, .c (.p (.bool (decide ((((user1 < (0 : Int)) ∨ (user1 ≥ (3 : Int))) ∨ (object2 < (0 : Int))) ∨ (object2 ≥ (12 : Int)))))))], [], 35⟩ : TS) ?_ ?_
    · refine AW2_reg [0, 1, 2, 3, 4, 5, 6, 7, 8, 9, 10, 11, 12, 13] rfl ?_
      refine r_op rfl rfl (PureD.opD (p_move rfl rfl)) ?_
      refine r_op rfl rfl (PureD.opD (p_bin rfl rfl rfl rfl)) ?_
      refine r_op rfl rfl (PureD.opD (p_move rfl rfl)) ?_
      refine (Classical.em (user1 < (0 : Int))).elim (fun h3 => ?_) (fun h3 => ?_)
      · refine r_off rfl rfl rfl rfl (decide_eq_true (p := user1 < (0 : Int)) h3) rfl rfl ?_
        refine r_off rfl rfl rfl rfl (decide_eq_true (p := user1 < (0 : Int)) h3) rfl rfl ?_
        refine r_op rfl rfl (PureD.opD (p_pkt rfl rfl (decide_eq_true (p := user1 < (0 : Int)) h3) (tb (decide_eq_true (p := (user1 < (0 : Int)) ∨ (user1 ≥ (3 : Int))) (Or.inl h3)).symm))) ?_
        refine r_op rfl rfl (PureD.opD (p_move rfl rfl)) ?_
        refine r_off rfl rfl rfl rfl (decide_eq_true (p := (user1 < (0 : Int)) ∨ (user1 ≥ (3 : Int))) (Or.inl h3)) rfl rfl ?_
        refine r_off rfl rfl rfl rfl (decide_eq_true (p := (user1 < (0 : Int)) ∨ (user1 ≥ (3 : Int))) (Or.inl h3)) rfl rfl ?_
        refine r_op rfl rfl (PureD.opD (p_pkt rfl rfl (decide_eq_true (p := (user1 < (0 : Int)) ∨ (user1 ≥ (3 : Int))) (Or.inl h3)) (tb (decide_eq_true (p := ((user1 < (0 : Int)) ∨ (user1 ≥ (3 : Int))) ∨ (object2 < (0 : Int))) (Or.inl (Or.inl h3))).symm))) ?_
        refine r_op rfl rfl (PureD.opD (p_move rfl rfl)) ?_
        refine r_off rfl rfl rfl rfl (decide_eq_true (p := ((user1 < (0 : Int)) ∨ (user1 ≥ (3 : Int))) ∨ (object2 < (0 : Int))) (Or.inl (Or.inl h3))) rfl rfl ?_
        refine r_off rfl rfl rfl rfl (decide_eq_true (p := ((user1 < (0 : Int)) ∨ (user1 ≥ (3 : Int))) ∨ (object2 < (0 : Int))) (Or.inl (Or.inl h3))) rfl rfl ?_
        refine r_op rfl rfl (PureD.opD (p_pkt rfl rfl (decide_eq_true (p := ((user1 < (0 : Int)) ∨ (user1 ≥ (3 : Int))) ∨ (object2 < (0 : Int))) (Or.inl (Or.inl h3))) (tb (decide_eq_true (p := (((user1 < (0 : Int)) ∨ (user1 ≥ (3 : Int))) ∨ (object2 < (0 : Int))) ∨ (object2 ≥ (12 : Int))) (Or.inl (Or.inl (Or.inl h3)))).symm))) ?_
        refine RunW_st [(3, .c (.p (AV.int right3))), (28, .c (.p (.bool (decide ((((user1 < (0 : Int)) ∨ (user1 ≥ (3 : Int))) ∨ (object2 < (0 : Int))) ∨ (object2 ≥ (12 : Int)))))))] [] rfl ⟨TLes.same _, TLes.same _, trivial⟩ trivial ?_
        exact RunW_nil rfl
      · refine r_on rfl rfl rfl rfl (decide_eq_false (p := user1 < (0 : Int)) h3) rfl (PureD.opD (p_move rfl rfl)) ?_
        refine r_on rfl rfl rfl rfl (decide_eq_false (p := user1 < (0 : Int)) h3) rfl (PureD.opD (p_bin rfl rfl rfl rfl)) ?_
        refine r_op rfl rfl (PureD.opD (p_pkf rfl rfl (decide_eq_false (p := user1 < (0 : Int)) h3) (tb ((or_l (p := user1 < (0 : Int)) (q := user1 ≥ (3 : Int)) h3))))) ?_
        refine r_op rfl rfl (PureD.opD (p_move rfl rfl)) ?_
        refine (Classical.em (user1 ≥ (3 : Int))).elim (fun h4 => ?_) (fun h4 => ?_)
        · refine r_off rfl rfl rfl rfl (decide_eq_true (p := (user1 < (0 : Int)) ∨ (user1 ≥ (3 : Int))) (Or.inr h4)) rfl rfl ?_
          refine r_off rfl rfl rfl rfl (decide_eq_true (p := (user1 < (0 : Int)) ∨ (user1 ≥ (3 : Int))) (Or.inr h4)) rfl rfl ?_
          refine r_op rfl rfl (PureD.opD (p_pkt rfl rfl (decide_eq_true (p := (user1 < (0 : Int)) ∨ (user1 ≥ (3 : Int))) (Or.inr h4)) (tb (decide_eq_true (p := ((user1 < (0 : Int)) ∨ (user1 ≥ (3 : Int))) ∨ (object2 < (0 : Int))) (Or.inl (Or.inr h4))).symm))) ?_
          refine r_op rfl rfl (PureD.opD (p_move rfl rfl)) ?_
          refine r_off rfl rfl rfl rfl (decide_eq_true (p := ((user1 < (0 : Int)) ∨ (user1 ≥ (3 : Int))) ∨ (object2 < (0 : Int))) (Or.inl (Or.inr h4))) rfl rfl ?_
          refine r_off rfl rfl rfl rfl (decide_eq_true (p := ((user1 < (0 : Int)) ∨ (user1 ≥ (3 : Int))) ∨ (object2 < (0 : Int))) (Or.inl (Or.inr h4))) rfl rfl ?_
          refine r_op rfl rfl (PureD.opD (p_pkt rfl rfl (decide_eq_true (p := ((user1 < (0 : Int)) ∨ (user1 ≥ (3 : Int))) ∨ (object2 < (0 : Int))) (Or.inl (Or.inr h4))) (tb (decide_eq_true (p := (((user1 < (0 : Int)) ∨ (user1 ≥ (3 : Int))) ∨ (object2 < (0 : Int))) ∨ (object2 ≥ (12 : Int))) (Or.inl (Or.inl (Or.inr h4)))).symm))) ?_
          refine RunW_st [(3, .c (.p (AV.int right3))), (28, .c (.p (.bool (decide ((((user1 < (0 : Int)) ∨ (user1 ≥ (3 : Int))) ∨ (object2 < (0 : Int))) ∨ (object2 ≥ (12 : Int)))))))] [] rfl ⟨TLes.same _, TLes.same _, trivial⟩ trivial ?_
          exact RunW_nil rfl
        · refine r_on rfl rfl rfl rfl (decide_eq_false (p := (user1 < (0 : Int)) ∨ (user1 ≥ (3 : Int))) (not_or.2 ⟨h3, h4⟩)) rfl (PureD.opD (p_move rfl rfl)) ?_
          refine r_on rfl rfl rfl rfl (decide_eq_false (p := (user1 < (0 : Int)) ∨ (user1 ≥ (3 : Int))) (not_or.2 ⟨h3, h4⟩)) rfl (PureD.opD (p_bin rfl rfl rfl rfl)) ?_
          refine r_op rfl rfl (PureD.opD (p_pkf rfl rfl (decide_eq_false (p := (user1 < (0 : Int)) ∨ (user1 ≥ (3 : Int))) (not_or.2 ⟨h3, h4⟩)) (tb ((or_l (p := (user1 < (0 : Int)) ∨ (user1 ≥ (3 : Int))) (q := object2 < (0 : Int)) (not_or.2 ⟨h3, h4⟩)))))) ?_
          refine r_op rfl rfl (PureD.opD (p_move rfl rfl)) ?_
          refine (Classical.em (object2 < (0 : Int))).elim (fun h5 => ?_) (fun h5 => ?_)
          · refine r_off rfl rfl rfl rfl (decide_eq_true (p := ((user1 < (0 : Int)) ∨ (user1 ≥ (3 : Int))) ∨ (object2 < (0 : Int))) (Or.inr h5)) rfl rfl ?_
            refine r_off rfl rfl rfl rfl (decide_eq_true (p := ((user1 < (0 : Int)) ∨ (user1 ≥ (3 : Int))) ∨ (object2 < (0 : Int))) (Or.inr h5)) rfl rfl ?_
            refine r_op rfl rfl (PureD.opD (p_pkt rfl rfl (decide_eq_true (p := ((user1 < (0 : Int)) ∨ (user1 ≥ (3 : Int))) ∨ (object2 < (0 : Int))) (Or.inr h5)) (tb (decide_eq_true (p := (((user1 < (0 : Int)) ∨ (user1 ≥ (3 : Int))) ∨ (object2 < (0 : Int))) ∨ (object2 ≥ (12 : Int))) (Or.inl (Or.inr h5))).symm))) ?_
            refine RunW_st [(3, .c (.p (AV.int right3))), (28, .c (.p (.bool (decide ((((user1 < (0 : Int)) ∨ (user1 ≥ (3 : Int))) ∨ (object2 < (0 : Int))) ∨ (object2 ≥ (12 : Int)))))))] [] rfl ⟨TLes.same _, TLes.same _, trivial⟩ trivial ?_
            exact RunW_nil rfl
          · refine r_on rfl rfl rfl rfl (decide_eq_false (p := ((user1 < (0 : Int)) ∨ (user1 ≥ (3 : Int))) ∨ (object2 < (0 : Int))) (not_or.2 ⟨(not_or.2 ⟨h3, h4⟩), h5⟩)) rfl (PureD.opD (p_move rfl rfl)) ?_
            refine r_on rfl rfl rfl rfl (decide_eq_false (p := ((user1 < (0 : Int)) ∨ (user1 ≥ (3 : Int))) ∨ (object2 < (0 : Int))) (not_or.2 ⟨(not_or.2 ⟨h3, h4⟩), h5⟩)) rfl (PureD.opD (p_bin rfl rfl rfl rfl)) ?_
            refine r_op rfl rfl (PureD.opD (p_pkf rfl rfl (decide_eq_false (p := ((user1 < (0 : Int)) ∨ (user1 ≥ (3 : Int))) ∨ (object2 < (0 : Int))) (not_or.2 ⟨(not_or.2 ⟨h3, h4⟩), h5⟩)) (tb ((or_l (p := ((user1 < (0 : Int)) ∨ (user1 ≥ (3 : Int))) ∨ (object2 < (0 : Int))) (q := object2 ≥ (12 : Int)) (not_or.2 ⟨(not_or.2 ⟨h3, h4⟩), h5⟩)))))) ?_
            refine RunW_st [(3, .c (.p (AV.int right3))), (28, .c (.p (.bool (decide ((((user1 < (0 : Int)) ∨ (user1 ≥ (3 : Int))) ∨ (object2 < (0 : Int))) ∨ (object2 ≥ (12 : Int)))))))] [] rfl ⟨TLes.same _, TLes.same _, trivial⟩ trivial ?_
            exact RunW_nil rfl
    · refine AW2_if (p := (((user1 < (0 : Int)) ∨ (user1 ≥ (3 : Int))) ∨ (object2 < (0 : Int))) ∨ (object2 ≥ (12 : Int))) rfl (fun h6 => ?_) (fun h6 => ?_)
      · replace H := ite_then h6 H
        refine AW2_seq ?_
        refine AW2_reg [0] rfl ?_
        refine r_op rfl rfl (PureD.opD (p_asg rfl rfl)) ?_
        refine RunW_st [(8, .c (.p (AV.int (6 : Int))))] [] rfl ⟨TLes.same _, trivial⟩ trivial ?_
        refine RunW_nil ?_
        refine AW2_ret ?_
        have hz := some_elim H
        subst hz
        exact ⟨⟨res_tmp (.same _), trivial⟩, trivial⟩
      · replace H := ite_else h6 H
        refine AW2_st [(3, .c (.p (AV.int right3)))] [] rfl ⟨TLes.same _, trivial⟩ trivial ?_
        refine AW2_skip ?_
        refine AW2_seq ?_
        refine AW2_seq ?_
        refine AW2_mid (⟨[(34, .c (.p (.bool (decide ((right3 ≠ (1 : Int)) ∧ (right3 ≠ (2 : Int)))))))], [], 35⟩ : TS) ?_ ?_
        · refine AW2_reg [0, 1, 2, 3, 4, 5] rfl ?_
          refine r_op rfl rfl (PureD.opD (p_move rfl rfl)) ?_
          refine r_op rfl rfl (PureD.opD (p_ine rfl rfl rfl)) ?_
          refine r_op rfl rfl (PureD.opD (p_move rfl rfl)) ?_
          refine (Classical.em (right3 ≠ (1 : Int))).elim (fun h7 => ?_) (fun h7 => ?_)
          · refine r_on rfl rfl rfl rfl (decide_eq_true (p := right3 ≠ (1 : Int)) h7) rfl (PureD.opD (p_move rfl rfl)) ?_
            refine r_on rfl rfl rfl rfl (decide_eq_true (p := right3 ≠ (1 : Int)) h7) rfl (PureD.opD (p_ine rfl rfl rfl)) ?_
            refine r_op rfl rfl (PureD.opD (p_pkt rfl rfl (decide_eq_true (p := right3 ≠ (1 : Int)) h7) (tb ((and_l (p := right3 ≠ (1 : Int)) (q := right3 ≠ (2 : Int)) h7))))) ?_
            refine RunW_st [(34, .c (.p (.bool (decide ((right3 ≠ (1 : Int)) ∧ (right3 ≠ (2 : Int)))))))] [] rfl ⟨TLes.same _, trivial⟩ trivial ?_
            exact RunW_nil rfl
          · refine r_off rfl rfl rfl rfl (decide_eq_false (p := right3 ≠ (1 : Int)) h7) rfl rfl ?_
            refine r_off rfl rfl rfl rfl (decide_eq_false (p := right3 ≠ (1 : Int)) h7) rfl rfl ?_
            refine r_op rfl rfl (PureD.opD (p_pkf rfl rfl (decide_eq_false (p := right3 ≠ (1 : Int)) h7) (tb (decide_eq_false (p := (right3 ≠ (1 : Int)) ∧ (right3 ≠ (2 : Int))) (fun x => h7 x.1)).symm))) ?_
            refine RunW_st [(34, .c (.p (.bool (decide ((right3 ≠ (1 : Int)) ∧ (right3 ≠ (2 : Int)))))))] [] rfl ⟨TLes.same _, trivial⟩ trivial ?_
            exact RunW_nil rfl
        · refine AW2_if (p := (right3 ≠ (1 : Int)) ∧ (right3 ≠ (2 : Int))) rfl (fun h8 => ?_) (fun h8 => ?_)
          · replace H := ite_then h8 H
            refine AW2_seq ?_
            refine AW2_reg [0] rfl ?_
            refine r_op rfl rfl (PureD.opD (p_asg rfl rfl)) ?_
            refine RunW_st [(8, .c (.p (AV.int (2 : Int))))] [] rfl ⟨TLes.same _, trivial⟩ trivial ?_
            refine RunW_nil ?_
            refine AW2_ret ?_
            have hz := some_elim H
            subst hz
            exact ⟨⟨res_tmp (.same _), trivial⟩, trivial⟩
          · replace H := ite_else h8 H
            refine AW2_st [] [] rfl trivial trivial ?_
            refine AW2_skip ?_
            refine AW2_seq ?_
            refine AW2_reg [0] rfl ?_
            refine r_op rfl rfl (PureD.opD (p_asg rfl rfl)) ?_
            refine RunW_st [(8, .c (.p (AV.int (0 : Int))))] [] rfl ⟨TLes.same _, trivial⟩ trivial ?_
            refine RunW_nil ?_
            refine AW2_ret ?_
            have hz := some_elim H
            subst hz
            exact ⟨⟨res_tmp (.same _), trivial⟩, trivial⟩
end Go.Proofs.Ytgbfmldbbnhefaa.VM
