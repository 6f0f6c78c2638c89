/- Functions of the program, as they answer, and that their code comes to these answers. -/
import Derived.Test.YtgbfmldbbnhefaaGr5
namespace Go.Proofs.Ytgbfmldbbnhefaa.VM
open Go Go.RowKit

theorem eq_27 : EqT Try.prog 27 2 (fun x : GGrant => .agg (GGrant.cs x)) :=
  eqt_struct [fun a b => a.From = b.From, fun a b => a.To = b.To, fun a b => a.Object = b.Object, fun a b => a.Right = b.Right, fun a b => a.Option = b.Option] Try.underlying27 (by kernel_rfl) ⟨(FieldEq.more (fe_one (by decide) Try.underlying3 rfl (eqt_int Try.underlying3) (fun a => GGrant.sub0 a)) (by decide : 1 ≤ 1)), (FieldEq.more (fe_one (by decide) Try.underlying3 rfl (eqt_int Try.underlying3) (fun a => GGrant.sub1 a)) (by decide : 1 ≤ 1)), (FieldEq.more (fe_one (by decide) Try.underlying3 rfl (eqt_int Try.underlying3) (fun a => GGrant.sub2 a)) (by decide : 1 ≤ 1)), (FieldEq.more (fe_one (by decide) Try.underlying3 rfl (eqt_int Try.underlying3) (fun a => GGrant.sub3 a)) (by decide : 1 ≤ 1)), (FieldEq.more (fe_one (by decide) Try.underlying4 rfl (eqt_bool Try.underlying4) (fun a => GGrant.sub4 a)) (by decide : 1 ≤ 1)), trivial⟩ (fun a b => by
    cases a; cases b
    simp)

/-! chirographlaw.sameGrants -/
noncomputable def g_law_sameGrants_l0 (a0 : List GGrant) (b1 : List GGrant) : Int → Option (Int ⊕ (Bool ⊕ Unit))
  | t13_0 => (if t13_0 < (a0.length : Int) then if 0 ≤ t13_0 ∧ t13_0 < (a0.length : Int) then if 0 ≤ t13_0 ∧ t13_0 < (b1.length : Int) then (if (lrd a0 t13_0.toNat) ≠ (lrd b1 t13_0.toNat) then some (.inr (.inl false)) else some (.inl (w64 (t13_0 + (1 : Int))))) else none else none else some (.inr (.inr ())))
noncomputable def g_law_sameGrants (a0 : List GGrant) (b1 : List GGrant) : Option (Bool) :=
  (if (a0.length : Int) ≠ (b1.length : Int) then some false else (loopO (g_law_sameGrants_l0 a0 b1) (0 : Int)).bind fun o'4 => match o'4 with | .inl y'5 => some y'5 | .inr (y'6) => some true)
set_option maxHeartbeats 4000000 in
set_option maxRecDepth 100000 in
theorem g_law_sameGrants_ac {a0 : List GGrant} {b1 : List GGrant} {r : Bool} (H : g_law_sameGrants a0 b1 = some r) : ACp Try.prog 12 [((fun q : List GGrant => AV.lst (q.flatMap GGrant.cs) q.length) a0), ((fun q : List GGrant => AV.lst (q.flatMap GGrant.cs) q.length) b1)] (AV.bool r) := by
  refine ACp_of (AC2_of_body (vs := [.c (.p (AV.bool r))]) Try.func12 rfl rfl (Nat.le_of_ble_eq_true rfl) rfl ?_) (fun _ => .same _)
  unfold g_law_sameGrants at H
  refine AW2_st [(0, .c (.p ((fun q : List GGrant => AV.lst (q.flatMap GGrant.cs) q.length) a0))), (1, .c (.p ((fun q : List GGrant => AV.lst (q.flatMap GGrant.cs) q.length) b1)))] [] rfl ⟨TLes.same _, TLes.same _, trivial⟩ trivial ?_
  refine AW2_seq ?_
  refine AW2_reg [0] rfl ?_
  refine r_op rfl rfl (PureD.opD (p_asg rfl rfl)) ?_
  refine RunW_st [(0, .c (.p ((fun q : List GGrant => AV.lst (q.flatMap GGrant.cs) q.length) a0))), (1, .c (.p ((fun q : List GGrant => AV.lst (q.flatMap GGrant.cs) q.length) b1)))] [] rfl ⟨TLes.same _, TLes.same _, trivial⟩ trivial ?_
  refine RunW_nil ?_
  refine AW2_seq ?_
  refine AW2_seq ?_
  refine AW2_reg [0, 1, 2, 3, 4] rfl ?_
  refine r_op rfl rfl (PureD.opD (p_move rfl rfl)) ?_
  refine r_op rfl rfl (PureD.opD (p_lenl rfl Try.underlying22 rfl rfl)) ?_
  refine r_op rfl rfl (PureD.opD (p_move rfl rfl)) ?_
  refine r_op rfl rfl (PureD.opD (p_lenl rfl Try.underlying22 rfl rfl)) ?_
  refine r_op rfl rfl (PureD.opD (p_ine rfl rfl rfl)) ?_
  refine RunW_st [(0, .c (.p ((fun q : List GGrant => AV.lst (q.flatMap GGrant.cs) q.length) a0))), (1, .c (.p ((fun q : List GGrant => AV.lst (q.flatMap GGrant.cs) q.length) b1))), (10, .c (.p (.bool (decide ((a0.length : Int) ≠ (b1.length : Int))))))] [] rfl ⟨TLes.same _, TLes.same _, TLes.same _, trivial⟩ trivial ?_
  refine RunW_nil ?_
  refine AW2_if (p := (a0.length : Int) ≠ (b1.length : Int)) rfl (fun h1 => ?_) (fun h1 => ?_)
  · replace H := ite_then h1 H
    refine AW2_seq ?_
    refine AW2_reg [0] rfl ?_
    refine r_op rfl rfl (PureD.opD (p_asg rfl rfl)) ?_
    refine RunW_st [(4, .c (.p (AV.bool false)))] [] rfl ⟨TLes.same _, trivial⟩ trivial ?_
    refine RunW_nil ?_
    refine AW2_ret ?_
    have hz := some_elim H
    subst hz
    exact ⟨⟨res_tmp (.same _), trivial⟩, trivial⟩
  · replace H := ite_else h1 H
    refine AW2_st [(0, .c (.p ((fun q : List GGrant => AV.lst (q.flatMap GGrant.cs) q.length) a0))), (1, .c (.p ((fun q : List GGrant => AV.lst (q.flatMap GGrant.cs) q.length) b1)))] [] rfl ⟨TLes.same _, TLes.same _, trivial⟩ trivial ?_
    refine AW2_skip ?_
    refine AW2_seq ?_
    refine AW2_seq ?_
    refine AW2_reg [0, 1, 2] rfl ?_
    refine r_op rfl rfl (PureD.opD (p_move rfl rfl)) ?_
    refine r_op rfl rfl (PureD.opD (p_lenl rfl Try.underlying22 rfl rfl)) ?_
    refine r_op rfl rfl (PureD.opD (p_move rfl rfl)) ?_
    refine RunW_st [(0, .c (.p ((fun q : List GGrant => AV.lst (q.flatMap GGrant.cs) q.length) a0))), (1, .c (.p ((fun q : List GGrant => AV.lst (q.flatMap GGrant.cs) q.length) b1))), (12, .c (.p (AV.int (a0.length : Int)))), (13, .c (.p (AV.int (0 : Int))))] [] rfl ⟨TLes.same _, TLes.same _, TLes.same _, TLes.same _, trivial⟩ trivial ?_
    refine RunW_nil ?_
    refine AW2_block ?_
    refine AW2_st [(0, .c (.p ((fun q : List GGrant => AV.lst (q.flatMap GGrant.cs) q.length) a0))), (1, .c (.p ((fun q : List GGrant => AV.lst (q.flatMap GGrant.cs) q.length) b1))), (12, .c (.p (AV.int (a0.length : Int)))), (13, .c (.p (AV.int (0 : Int))))] [] rfl ⟨TLes.same _, TLes.same _, TLes.same _, TLes.same _, trivial⟩ trivial ?_
    refine bindK H fun o'4 h6 H => ?_
    refine AW2_loopO (fun a'1 : Int => (⟨[(0, .c (.p ((fun q : List GGrant => AV.lst (q.flatMap GGrant.cs) q.length) a0))), (1, .c (.p ((fun q : List GGrant => AV.lst (q.flatMap GGrant.cs) q.length) b1))), (12, .c (.p (AV.int (a0.length : Int)))), (13, .c (.p (AV.int a'1)))], [], 26⟩ : TS)) (fun (o : Bool ⊕ Unit) e s' => match o with | .inl y'2 => e = Go.Exit.ret ∧ ResAll Try.prog s' [ResultVar.tmp 4] [.c (.p (AV.bool y'2))] ∧ HFits s' [] | .inr (y'3) => e = Go.Exit.exit 0 ∧ s' = (⟨[], [], 26⟩ : TS)) h6 rfl (fun t13_0 x hx => ?_) (fun e s' hs => ?_)
    · clear H
      have H := hx
      clear hx
      unfold g_law_sameGrants_l0 at H
      refine AW2_seq ?_
      refine AW2_reg [0] rfl ?_
      refine r_op rfl rfl (PureD.opD (p_bin rfl rfl rfl rfl)) ?_
      refine RunW_st [(0, .c (.p ((fun q : List GGrant => AV.lst (q.flatMap GGrant.cs) q.length) a0))), (1, .c (.p ((fun q : List GGrant => AV.lst (q.flatMap GGrant.cs) q.length) b1))), (12, .c (.p (AV.int (a0.length : Int)))), (13, .c (.p (AV.int t13_0))), (14, .c (.p (.bool (decide (t13_0 < (a0.length : Int))))))] [] rfl ⟨TLes.same _, TLes.same _, TLes.same _, TLes.same _, TLes.same _, trivial⟩ trivial ?_
      refine RunW_nil ?_
      refine AW2_seq ?_
      refine AW2_if (p := t13_0 < (a0.length : Int)) rfl (fun h2 => ?_) (fun h2 => ?_)
      · replace H := ite_then h2 H
        refine AW2_st [(0, .c (.p ((fun q : List GGrant => AV.lst (q.flatMap GGrant.cs) q.length) a0))), (1, .c (.p ((fun q : List GGrant => AV.lst (q.flatMap GGrant.cs) q.length) b1))), (12, .c (.p (AV.int (a0.length : Int)))), (13, .c (.p (AV.int t13_0)))] [] rfl ⟨TLes.same _, TLes.same _, TLes.same _, TLes.same _, trivial⟩ trivial ?_
        refine AW2_skip ?_
        refine AW2_seq ?_
        refine AW2_block ?_
        refine AW2_seq ?_
        refine AW2_reg [0, 1] rfl ?_
        refine r_op rfl rfl (PureD.opD (p_move rfl rfl)) ?_
        refine r_op rfl rfl (PureD.opD (p_asg rfl rfl)) ?_
        refine RunW_st [(0, .c (.p ((fun q : List GGrant => AV.lst (q.flatMap GGrant.cs) q.length) a0))), (1, .c (.p ((fun q : List GGrant => AV.lst (q.flatMap GGrant.cs) q.length) b1))), (5, .c (.p (AV.int t13_0))), (12, .c (.p (AV.int (a0.length : Int)))), (13, .c (.p (AV.int t13_0)))] [] rfl ⟨TLes.same _, TLes.same _, TLes.same _, TLes.same _, TLes.same _, trivial⟩ trivial ?_
        refine RunW_nil ?_
        refine AW2_seq ?_
        refine chkK H fun h3 H => ?_
        refine chkK H fun h4 H => ?_
        refine AW2_ghoQ ?_
        refine AW2_draw 8 [8] (fun k => ([.c (.p ((fun q : List GGrant => AV.lst (q.flatMap GGrant.cs) q.length) a0)), .c (.p (AV.int t13_0)), .c (.p (.rptr (a0.flatMap GGrant.cs) (t13_0.toNat * 5))), .c (.p (.agg (GGrant.cs (lrd a0 t13_0.toNat)))), .c (.p ((fun q : List GGrant => AV.lst (q.flatMap GGrant.cs) q.length) b1)), .c (.p (AV.int t13_0)), .c (.p (.rptr (b1.flatMap GGrant.cs) (t13_0.toNat * 5))), .c (.p (.agg (GGrant.cs (lrd b1 t13_0.toNat))))] : List TV).getD k TV.any) (fun k => ([[(0, none)], [(5, none)], [(16, some 0), (17, some 1)], [(18, some 2)], [(1, none)], [(5, none)], [(20, some 4), (21, some 5)], [(22, some 6)]] : List (List (Nat × Option Nat))).getD k []) [(0, none), (1, none), (12, none), (13, none), (19, some 3), (23, some 7)] [] (fun k => ([[], [], [0, 1], [0, 1, 2], [], [], [4, 5], [4, 5, 6], [0, 1, 2, 3, 4, 5, 6, 7]] : List (List Nat)).getD k []) mixed (by kernel_rfl) rfl rfl (a_op (g_x rfl (x_p rfl (p_move rfl rfl) rfl)) (a_op (g_x rfl (x_p rfl (p_move rfl rfl) rfl)) (a_op (g_x rfl (x_p rfl (u_ixl rfl rfl Try.underlying22 in_27 rfl rfl (ixe h3) (ixn h3) (fne (fun x => (GGrant.len x)) (by decide) (ixn h3))) rfl)) (a_op (g_x rfl (x_p rfl (u_lda rfl rfl Try.underlying27 rfl in_27 rfl (Nat.succ_pos _) (Sub.fm default (fun x => (GGrant.len x)) (ixn h3)) (GGrant.len (lrd a0 t13_0.toNat))) rfl)) (a_op (g_x rfl (x_p rfl (p_move rfl rfl) rfl)) (a_op (g_x rfl (x_p rfl (p_move rfl rfl) rfl)) (a_op (g_x rfl (x_p rfl (u_ixl rfl rfl Try.underlying22 in_27 rfl rfl (ixe h4) (ixn h4) (fne (fun x => (GGrant.len x)) (by decide) (ixn h4))) rfl)) (a_op (g_x rfl (x_p rfl (u_lda rfl rfl Try.underlying27 rfl in_27 rfl (Nat.succ_pos _) (Sub.fm default (fun x => (GGrant.len x)) (ixn h4)) (GGrant.len (lrd b1 t13_0.toNat))) rfl)) (a_nil))))))))) ?_
        refine t_op rfl rfl (PureD.opD (p_nea (a := (lrd a0 t13_0.toNat)) (b := (lrd b1 t13_0.toNat)) rfl eq_27 rfl (by kernel_rfl) rfl rfl)) ?_
        refine t_gho (Gho_st (L := [(0, .c (.p ((fun q : List GGrant => AV.lst (q.flatMap GGrant.cs) q.length) a0))), (1, .c (.p ((fun q : List GGrant => AV.lst (q.flatMap GGrant.cs) q.length) b1))), (12, .c (.p (AV.int (a0.length : Int)))), (13, .c (.p (AV.int t13_0))), (24, .c (.p (.bool (decide ((lrd a0 t13_0.toNat) ≠ (lrd b1 t13_0.toNat))))))]) (H := []) rfl ⟨TLes.same _, TLes.same _, TLes.same _, TLes.same _, TLes.same _, trivial⟩ trivial) ?_
        refine AW2_if (p := (lrd a0 t13_0.toNat) ≠ (lrd b1 t13_0.toNat)) rfl (fun h5 => ?_) (fun h5 => ?_)
        · replace H := ite_then h5 H
          refine AW2_seq ?_
          refine AW2_reg [0] rfl ?_
          refine r_op rfl rfl (PureD.opD (p_asg rfl rfl)) ?_
          refine RunW_st [(4, .c (.p (AV.bool false)))] [] rfl ⟨TLes.same _, trivial⟩ trivial ?_
          refine RunW_nil ?_
          refine AW2_ret ?_
          have hz := some_elim H
          subst hz
          exact ⟨rfl, ⟨res_tmp (.same _), trivial⟩, trivial⟩
        · replace H := ite_else h5 H
          refine AW2_st [(0, .c (.p ((fun q : List GGrant => AV.lst (q.flatMap GGrant.cs) q.length) a0))), (1, .c (.p ((fun q : List GGrant => AV.lst (q.flatMap GGrant.cs) q.length) b1))), (12, .c (.p (AV.int (a0.length : Int)))), (13, .c (.p (AV.int t13_0)))] [] rfl ⟨TLes.same _, TLes.same _, TLes.same _, TLes.same _, trivial⟩ trivial ?_
          refine AW2_skip ?_
          refine AW2_reg [0, 1] rfl ?_
          refine r_op rfl rfl (PureD.opD (p_bin rfl rfl rfl rfl)) ?_
          refine r_op rfl rfl (PureD.opD (p_move rfl rfl)) ?_
          refine RunW_st [(0, .c (.p ((fun q : List GGrant => AV.lst (q.flatMap GGrant.cs) q.length) a0))), (1, .c (.p ((fun q : List GGrant => AV.lst (q.flatMap GGrant.cs) q.length) b1))), (12, .c (.p (AV.int (a0.length : Int)))), (13, .c (.p (AV.int (w64 (t13_0 + (1 : Int))))))] [] rfl ⟨TLes.same _, TLes.same _, TLes.same _, TLes.same _, trivial⟩ trivial ?_
          refine RunW_nil ?_
          have hz := some_elim H
          subst hz
          exact ⟨rfl, rfl⟩
      · replace H := ite_else h2 H
        refine AW2_st [] [] rfl trivial trivial ?_
        refine AW2_exit ?_
        refine thenQ2_exit ?_
        have hz := some_elim H
        subst hz
        exact ⟨rfl, rfl⟩
    · rcases o'4 with y'5 | y'6
      · obtain ⟨rfl, hs⟩ := hs
        refine ⟨by simp, ?_⟩
        have hz := some_elim H
        subst hz
        exact ⟨hs.1, hs.2⟩
      · obtain ⟨rfl, rfl⟩ := hs
        refine ⟨by simp, ?_⟩
        refine blockQ2_exit ?_
        refine AW2_seq ?_
        refine AW2_reg [0] rfl ?_
        refine r_op rfl rfl (PureD.opD (p_asg rfl rfl)) ?_
        refine RunW_st [(4, .c (.p (AV.bool true)))] [] rfl ⟨TLes.same _, trivial⟩ trivial ?_
        refine RunW_nil ?_
        refine AW2_ret ?_
        have hz := some_elim H
        subst hz
        exact ⟨⟨res_tmp (.same _), trivial⟩, trivial⟩

/-! chirographlaw.RightTakes -/
noncomputable def g_law_RightTakes (l0 : List GGrant) (x1 : GGrant) : Option (Bool) :=
  (g_right_Take l0 x1).bind fun r'1 => (g_ref_Taken l0 x1).bind fun r'2 => ((if r'1.2 = r'2.2 then (g_law_sameGrants r'1.1 r'2.1).bind fun r'4 => some r'4 else some false)).bind fun g'5 => some g'5
set_option maxHeartbeats 4000000 in
set_option maxRecDepth 100000 in
theorem g_law_RightTakes_ac {l0 : List GGrant} {x1 : GGrant} {r : Bool} (H : g_law_RightTakes l0 x1 = some r) : ACp Try.prog 4 [((fun q : List GGrant => AV.lst (q.flatMap GGrant.cs) q.length) l0), (.agg (GGrant.cs x1))] (AV.bool r) := by
  refine ACp_of (AC2_of_body (vs := [.c (.p (AV.bool r))]) Try.func4 rfl rfl (Nat.le_of_ble_eq_true rfl) rfl ?_) (fun _ => .same _)
  unfold g_law_RightTakes at H
  refine AW2_st [(0, .c (.p ((fun q : List GGrant => AV.lst (q.flatMap GGrant.cs) q.length) l0))), (1, .c (.p (.agg (GGrant.cs x1))))] [] rfl ⟨TLes.same _, TLes.same _, trivial⟩ trivial ?_
  refine AW2_seq ?_
  refine AW2_reg [0, 1] rfl ?_
  refine r_op rfl rfl (MakeD.opD (n_box 3 rfl rfl) rfl rfl rfl rfl) ?_
  refine r_op rfl rfl (PureD.opD (p_asg rfl rfl)) ?_
  refine RunW_st [(0, .c (.p ((fun q : List GGrant => AV.lst (q.flatMap GGrant.cs) q.length) l0))), (3, .c (.ptr 3 (0)))] [(3, .pure (GGrant.cs x1))] rfl ⟨TLes.same _, TLes.same _, trivial⟩ ⟨rfl, trivial⟩ ?_
  refine RunW_nil ?_
  refine AW2_seq ?_
  refine AW2_reg [0, 1, 2, 3, 4, 5, 6, 7] rfl ?_
  refine r_op rfl rfl (PureD.opD (p_move rfl rfl)) ?_
  refine r_op rfl rfl (PureD.opD (u_lda rfl rfl Try.underlying27 rfl in_27 rfl (Nat.succ_pos _) (Sub.refl _) (GGrant.len x1))) ?_
  refine bindK H fun r'1 h1 H => ?_
  refine r_op rfl rfl (PureD.opD (p_callp rfl rfl rfl Try.func10 rfl rfl (g_right_Take_ac h1) ⟨rfl, rfl, trivial⟩)) ?_
  refine r_op rfl rfl (PureD.opD (p_move rfl rfl)) ?_
  refine r_op rfl rfl (PureD.opD (p_ext rfl rfl rfl rfl)) ?_
  refine r_op rfl rfl (PureD.opD (p_ext rfl rfl rfl rfl)) ?_
  refine r_op rfl rfl (PureD.opD (p_asg rfl rfl)) ?_
  refine r_op rfl rfl (PureD.opD (p_asg rfl rfl)) ?_
  refine RunW_st [(0, .c (.p ((fun q : List GGrant => AV.lst (q.flatMap GGrant.cs) q.length) l0))), (3, .c (.ptr 3 (0))), (5, .c (.p ((fun q : List GGrant => AV.lst (q.flatMap GGrant.cs) q.length) r'1.1))), (6, .c (.p (AV.int r'1.2)))] [(3, .pure (GGrant.cs x1))] rfl ⟨TLes.same _, TLes.same _, TLes.same _, TLes.same _, trivial⟩ ⟨rfl, trivial⟩ ?_
  refine RunW_nil ?_
  refine AW2_seq ?_
  refine AW2_reg [0, 1, 2, 3, 4, 5, 6, 7] rfl ?_
  refine r_op rfl rfl (PureD.opD (p_move rfl rfl)) ?_
  refine r_op rfl rfl (PureD.opD (u_lda rfl rfl Try.underlying27 rfl in_27 rfl (Nat.succ_pos _) (Sub.refl _) (GGrant.len x1))) ?_
  refine bindK H fun r'2 h2 H => ?_
  refine r_op rfl rfl (PureD.opD (p_callp rfl rfl rfl Try.func11 rfl rfl (g_ref_Taken_ac h2) ⟨rfl, rfl, trivial⟩)) ?_
  refine r_op rfl rfl (PureD.opD (p_move rfl rfl)) ?_
  refine r_op rfl rfl (PureD.opD (p_ext rfl rfl rfl rfl)) ?_
  refine r_op rfl rfl (PureD.opD (p_ext rfl rfl rfl rfl)) ?_
  refine r_op rfl rfl (PureD.opD (p_asg rfl rfl)) ?_
  refine r_op rfl rfl (PureD.opD (p_asg rfl rfl)) ?_
  refine RunW_st [(5, .c (.p ((fun q : List GGrant => AV.lst (q.flatMap GGrant.cs) q.length) r'1.1))), (6, .c (.p (AV.int r'1.2))), (7, .c (.p ((fun q : List GGrant => AV.lst (q.flatMap GGrant.cs) q.length) r'2.1))), (8, .c (.p (AV.int r'2.2)))] [] rfl ⟨TLes.same _, TLes.same _, TLes.same _, TLes.same _, trivial⟩ trivial ?_
  refine RunW_nil ?_
  refine AW2_seq ?_
  refine bindK H fun g'5 h6 H => ?_
  refine AW2_mid (⟨[(4, .c (.p (AV.bool g'5)))], [], 29⟩ : TS) ?_ ?_
  · clear H
    have H := h6
    clear h6
    refine AW2_reg [0, 1, 2, 3, 4, 5, 6, 7, 8] rfl ?_
    refine r_op rfl rfl (PureD.opD (p_move rfl rfl)) ?_
    refine r_op rfl rfl (PureD.opD (p_move rfl rfl)) ?_
    refine r_op rfl rfl (PureD.opD (p_ieq rfl rfl rfl)) ?_
    refine r_op rfl rfl (PureD.opD (p_move rfl rfl)) ?_
    refine (Classical.em (r'1.2 = r'2.2)).elim (fun h4 => ?_) (fun h4 => ?_)
    · replace H := ite_then h4 H
      refine r_on rfl rfl rfl rfl (decide_eq_true (p := r'1.2 = r'2.2) h4) rfl (PureD.opD (p_move rfl rfl)) ?_
      refine r_on rfl rfl rfl rfl (decide_eq_true (p := r'1.2 = r'2.2) h4) rfl (PureD.opD (p_move rfl rfl)) ?_
      refine bindK H fun r'4 h5 H => ?_
      refine r_on rfl rfl rfl rfl (decide_eq_true (p := r'1.2 = r'2.2) h4) rfl (PureD.opD (p_callp rfl rfl rfl Try.func12 rfl rfl (g_law_sameGrants_ac h5) ⟨rfl, rfl, trivial⟩)) ?_
      refine r_op rfl rfl (PureD.opD (p_pkt rfl rfl (decide_eq_true (p := r'1.2 = r'2.2) h4) (.same _))) ?_
      refine r_op rfl rfl (PureD.opD (p_asg rfl rfl)) ?_
      refine RunW_st [(4, .c (.p (AV.bool r'4)))] [] rfl ⟨TLes.same _, trivial⟩ trivial ?_
      have hz := some_elim H
      subst hz
      exact RunW_nil rfl
    · replace H := ite_else h4 H
      refine r_off rfl rfl rfl rfl (decide_eq_false (p := r'1.2 = r'2.2) h4) rfl rfl ?_
      refine r_off rfl rfl rfl rfl (decide_eq_false (p := r'1.2 = r'2.2) h4) rfl rfl ?_
      refine r_off rfl rfl rfl rfl (decide_eq_false (p := r'1.2 = r'2.2) h4) rfl rfl ?_
      refine r_op rfl rfl (PureD.opD (p_pkf rfl rfl (decide_eq_false (p := r'1.2 = r'2.2) h4) (.same _))) ?_
      refine r_op rfl rfl (PureD.opD (p_asg rfl rfl)) ?_
      refine RunW_st [(4, .c (.p (AV.bool false)))] [] rfl ⟨TLes.same _, trivial⟩ trivial ?_
      have hz := some_elim H
      subst hz
      exact RunW_nil rfl
  · refine AW2_ret ?_
    have hz := some_elim H
    subst hz
    exact ⟨⟨res_tmp (.same _), trivial⟩, trivial⟩

/-! right.asked -/
noncomputable def g_right_asked (l0 : List GGrant) (user1 : Int) (object2 : Int) (right3 : Int) : Option (Int) :=
  (g_right_Check l0).bind fun r'1 => (if r'1 ≠ (0 : Int) then some r'1 else (if (((user1 < (0 : Int)) ∨ (user1 ≥ (3 : Int))) ∨ (object2 < (0 : Int))) ∨ (object2 ≥ (12 : Int)) then some (6 : Int) else (if (right3 ≠ (1 : Int)) ∧ (right3 ≠ (2 : Int)) then some (2 : Int) else some (0 : Int))))
set_option maxHeartbeats 4000000 in
set_option maxRecDepth 100000 in
theorem g_right_asked_ac {l0 : List GGrant} {user1 : Int} {object2 : Int} {right3 : Int} {r : Int} (H : g_right_asked l0 user1 object2 right3 = some r) : ACp Try.prog 26 [((fun q : List GGrant => AV.lst (q.flatMap GGrant.cs) q.length) l0), (AV.int user1), (AV.int object2), (AV.int right3)] (AV.int r) := by
  refine ACp_of (AC2_of_body (vs := [.c (.p (AV.int r))]) Try.func26 rfl rfl (Nat.le_of_ble_eq_true rfl) rfl ?_) (fun _ => .same _)
  unfold g_right_asked at H
  refine AW2_st [(0, .c (.p ((fun q : List GGrant => AV.lst (q.flatMap GGrant.cs) q.length) l0))), (1, .c (.p (AV.int user1))), (2, .c (.p (AV.int object2))), (3, .c (.p (AV.int right3)))] [] rfl ⟨TLes.same _, TLes.same _, TLes.same _, TLes.same _, trivial⟩ trivial ?_
  refine AW2_seq ?_
  refine AW2_reg [0] rfl ?_
  refine r_op rfl rfl (PureD.opD (p_asg rfl rfl)) ?_
  refine RunW_st [(0, .c (.p ((fun q : List GGrant => AV.lst (q.flatMap GGrant.cs) q.length) l0))), (1, .c (.p (AV.int user1))), (2, .c (.p (AV.int object2))), (3, .c (.p (AV.int right3)))] [] rfl ⟨TLes.same _, TLes.same _, TLes.same _, TLes.same _, trivial⟩ trivial ?_
  refine RunW_nil ?_
  refine AW2_seq ?_
  refine AW2_seq ?_
  refine AW2_reg [0, 1, 2] rfl ?_
  refine r_op rfl rfl (PureD.opD (p_move rfl rfl)) ?_
  refine bindK H fun r'1 h1 H => ?_
  refine r_op rfl rfl (PureD.opD (p_callp rfl rfl rfl Try.func8 rfl rfl (g_right_Check_ac h1) ⟨rfl, trivial⟩)) ?_
  refine r_op rfl rfl (PureD.opD (p_asg rfl rfl)) ?_
  refine RunW_st [(1, .c (.p (AV.int user1))), (2, .c (.p (AV.int object2))), (3, .c (.p (AV.int right3))), (9, .c (.p (AV.int r'1)))] [] rfl ⟨TLes.same _, TLes.same _, TLes.same _, TLes.same _, trivial⟩ trivial ?_
  refine RunW_nil ?_
  refine AW2_seq ?_
  refine AW2_reg [0, 1] rfl ?_
  refine r_op rfl rfl (PureD.opD (p_move rfl rfl)) ?_
  refine r_op rfl rfl (PureD.opD (p_ine rfl rfl rfl)) ?_
  refine RunW_st [(1, .c (.p (AV.int user1))), (2, .c (.p (AV.int object2))), (3, .c (.p (AV.int right3))), (9, .c (.p (AV.int r'1))), (13, .c (.p (.bool (decide (r'1 ≠ (0 : Int))))))] [] rfl ⟨TLes.same _, TLes.same _, TLes.same _, TLes.same _, TLes.same _, trivial⟩ trivial ?_
  refine RunW_nil ?_
  refine AW2_if (p := r'1 ≠ (0 : Int)) rfl (fun h2 => ?_) (fun h2 => ?_)
  · replace H := ite_then h2 H
    refine AW2_seq ?_
    refine AW2_reg [0, 1] rfl ?_
    refine r_op rfl rfl (PureD.opD (p_move rfl rfl)) ?_
    refine r_op rfl rfl (PureD.opD (p_asg rfl rfl)) ?_
    refine RunW_st [(8, .c (.p (AV.int r'1)))] [] rfl ⟨TLes.same _, trivial⟩ trivial ?_
    refine RunW_nil ?_
    refine AW2_ret ?_
    have hz := some_elim H
    subst hz
    exact ⟨⟨res_tmp (.same _), trivial⟩, trivial⟩
  · replace H := ite_else h2 H
    refine AW2_st [(1, .c (.p (AV.int user1))), (2, .c (.p (AV.int object2))), (3, .c (.p (AV.int right3)))] [] rfl ⟨TLes.same _, TLes.same _, TLes.same _, trivial⟩ trivial ?_
    refine AW2_skip ?_
    refine AW2_seq ?_
    refine AW2_seq ?_
    refine AW2_mid (⟨[(3, .c (.p (AV.int right3))), (28, .c (.p (.bool (decide ((((user1 < (0 : Int)) ∨ (user1 ≥ (3 : Int))) ∨ (object2 < (0 : Int))) ∨ (object2 ≥ (12 : Int)))))))], [], 35⟩ : TS) ?_ ?_
    · refine AW2_reg [0, 1, 2, 3, 4, 5, 6, 7, 8, 9, 10, 11, 12, 13] rfl ?_
      refine r_op rfl rfl (PureD.opD (p_move rfl rfl)) ?_
      refine r_op rfl rfl (PureD.opD (p_bin rfl rfl rfl rfl)) ?_
      refine r_op rfl rfl (PureD.opD (p_move rfl rfl)) ?_
      refine (Classical.em (user1 < (0 : Int))).elim (fun h3 => ?_) (fun h3 => ?_)
      · refine r_off rfl rfl rfl rfl (decide_eq_true (p := user1 < (0 : Int)) h3) rfl rfl ?_
        refine r_off rfl rfl rfl rfl (decide_eq_true (p := user1 < (0 : Int)) h3) rfl rfl ?_
        refine r_op rfl rfl (PureD.opD (p_pkt rfl rfl (decide_eq_true (p := user1 < (0 : Int)) h3) (tb (decide_eq_true (p := (user1 < (0 : Int)) ∨ (user1 ≥ (3 : Int))) (Or.inl h3)).symm))) ?_
        refine r_op rfl rfl (PureD.opD (p_move rfl rfl)) ?_
        refine r_off rfl rfl rfl rfl (decide_eq_true (p := (user1 < (0 : Int)) ∨ (user1 ≥ (3 : Int))) (Or.inl h3)) rfl rfl ?_
        refine r_off rfl rfl rfl rfl (decide_eq_true (p := (user1 < (0 : Int)) ∨ (user1 ≥ (3 : Int))) (Or.inl h3)) rfl rfl ?_
        refine r_op rfl rfl (PureD.opD (p_pkt rfl rfl (decide_eq_true (p := (user1 < (0 : Int)) ∨ (user1 ≥ (3 : Int))) (Or.inl h3)) (tb (decide_eq_true (p := ((user1 < (0 : Int)) ∨ (user1 ≥ (3 : Int))) ∨ (object2 < (0 : Int))) (Or.inl (Or.inl h3))).symm))) ?_
        refine r_op rfl rfl (PureD.opD (p_move rfl rfl)) ?_
        refine r_off rfl rfl rfl rfl (decide_eq_true (p := ((user1 < (0 : Int)) ∨ (user1 ≥ (3 : Int))) ∨ (object2 < (0 : Int))) (Or.inl (Or.inl h3))) rfl rfl ?_
        refine r_off rfl rfl rfl rfl (decide_eq_true (p := ((user1 < (0 : Int)) ∨ (user1 ≥ (3 : Int))) ∨ (object2 < (0 : Int))) (Or.inl (Or.inl h3))) rfl rfl ?_
        refine r_op rfl rfl (PureD.opD (p_pkt rfl rfl (decide_eq_true (p := ((user1 < (0 : Int)) ∨ (user1 ≥ (3 : Int))) ∨ (object2 < (0 : Int))) (Or.inl (Or.inl h3))) (tb (decide_eq_true (p := (((user1 < (0 : Int)) ∨ (user1 ≥ (3 : Int))) ∨ (object2 < (0 : Int))) ∨ (object2 ≥ (12 : Int))) (Or.inl (Or.inl (Or.inl h3)))).symm))) ?_
        refine RunW_st [(3, .c (.p (AV.int right3))), (28, .c (.p (.bool (decide ((((user1 < (0 : Int)) ∨ (user1 ≥ (3 : Int))) ∨ (object2 < (0 : Int))) ∨ (object2 ≥ (12 : Int)))))))] [] rfl ⟨TLes.same _, TLes.same _, trivial⟩ trivial ?_
        exact RunW_nil rfl
      · refine r_on rfl rfl rfl rfl (decide_eq_false (p := user1 < (0 : Int)) h3) rfl (PureD.opD (p_move rfl rfl)) ?_
        refine r_on rfl rfl rfl rfl (decide_eq_false (p := user1 < (0 : Int)) h3) rfl (PureD.opD (p_bin rfl rfl rfl rfl)) ?_
        refine r_op rfl rfl (PureD.opD (p_pkf rfl rfl (decide_eq_false (p := user1 < (0 : Int)) h3) (tb ((or_l (p := user1 < (0 : Int)) (q := user1 ≥ (3 : Int)) h3))))) ?_
        refine r_op rfl rfl (PureD.opD (p_move rfl rfl)) ?_
        refine (Classical.em (user1 ≥ (3 : Int))).elim (fun h4 => ?_) (fun h4 => ?_)
        · refine r_off rfl rfl rfl rfl (decide_eq_true (p := (user1 < (0 : Int)) ∨ (user1 ≥ (3 : Int))) (Or.inr h4)) rfl rfl ?_
          refine r_off rfl rfl rfl rfl (decide_eq_true (p := (user1 < (0 : Int)) ∨ (user1 ≥ (3 : Int))) (Or.inr h4)) rfl rfl ?_
          refine r_op rfl rfl (PureD.opD (p_pkt rfl rfl (decide_eq_true (p := (user1 < (0 : Int)) ∨ (user1 ≥ (3 : Int))) (Or.inr h4)) (tb (decide_eq_true (p := ((user1 < (0 : Int)) ∨ (user1 ≥ (3 : Int))) ∨ (object2 < (0 : Int))) (Or.inl (Or.inr h4))).symm))) ?_
          refine r_op rfl rfl (PureD.opD (p_move rfl rfl)) ?_
          refine r_off rfl rfl rfl rfl (decide_eq_true (p := ((user1 < (0 : Int)) ∨ (user1 ≥ (3 : Int))) ∨ (object2 < (0 : Int))) (Or.inl (Or.inr h4))) rfl rfl ?_
          refine r_off rfl rfl rfl rfl (decide_eq_true (p := ((user1 < (0 : Int)) ∨ (user1 ≥ (3 : Int))) ∨ (object2 < (0 : Int))) (Or.inl (Or.inr h4))) rfl rfl ?_
          refine r_op rfl rfl (PureD.opD (p_pkt rfl rfl (decide_eq_true (p := ((user1 < (0 : Int)) ∨ (user1 ≥ (3 : Int))) ∨ (object2 < (0 : Int))) (Or.inl (Or.inr h4))) (tb (decide_eq_true (p := (((user1 < (0 : Int)) ∨ (user1 ≥ (3 : Int))) ∨ (object2 < (0 : Int))) ∨ (object2 ≥ (12 : Int))) (Or.inl (Or.inl (Or.inr h4)))).symm))) ?_
          refine RunW_st [(3, .c (.p (AV.int right3))), (28, .c (.p (.bool (decide ((((user1 < (0 : Int)) ∨ (user1 ≥ (3 : Int))) ∨ (object2 < (0 : Int))) ∨ (object2 ≥ (12 : Int)))))))] [] rfl ⟨TLes.same _, TLes.same _, trivial⟩ trivial ?_
          exact RunW_nil rfl
        · refine r_on rfl rfl rfl rfl (decide_eq_false (p := (user1 < (0 : Int)) ∨ (user1 ≥ (3 : Int))) (not_or.2 ⟨h3, h4⟩)) rfl (PureD.opD (p_move rfl rfl)) ?_
          refine r_on rfl rfl rfl rfl (decide_eq_false (p := (user1 < (0 : Int)) ∨ (user1 ≥ (3 : Int))) (not_or.2 ⟨h3, h4⟩)) rfl (PureD.opD (p_bin rfl rfl rfl rfl)) ?_
          refine r_op rfl rfl (PureD.opD (p_pkf rfl rfl (decide_eq_false (p := (user1 < (0 : Int)) ∨ (user1 ≥ (3 : Int))) (not_or.2 ⟨h3, h4⟩)) (tb ((or_l (p := (user1 < (0 : Int)) ∨ (user1 ≥ (3 : Int))) (q := object2 < (0 : Int)) (not_or.2 ⟨h3, h4⟩)))))) ?_
          refine r_op rfl rfl (PureD.opD (p_move rfl rfl)) ?_
          refine (Classical.em (object2 < (0 : Int))).elim (fun h5 => ?_) (fun h5 => ?_)
          · refine r_off rfl rfl rfl rfl (decide_eq_true (p := ((user1 < (0 : Int)) ∨ (user1 ≥ (3 : Int))) ∨ (object2 < (0 : Int))) (Or.inr h5)) rfl rfl ?_
            refine r_off rfl rfl rfl rfl (decide_eq_true (p := ((user1 < (0 : Int)) ∨ (user1 ≥ (3 : Int))) ∨ (object2 < (0 : Int))) (Or.inr h5)) rfl rfl ?_
            refine r_op rfl rfl (PureD.opD (p_pkt rfl rfl (decide_eq_true (p := ((user1 < (0 : Int)) ∨ (user1 ≥ (3 : Int))) ∨ (object2 < (0 : Int))) (Or.inr h5)) (tb (decide_eq_true (p := (((user1 < (0 : Int)) ∨ (user1 ≥ (3 : Int))) ∨ (object2 < (0 : Int))) ∨ (object2 ≥ (12 : Int))) (Or.inl (Or.inr h5))).symm))) ?_
            refine RunW_st [(3, .c (.p (AV.int right3))), (28, .c (.p (.bool (decide ((((user1 < (0 : Int)) ∨ (user1 ≥ (3 : Int))) ∨ (object2 < (0 : Int))) ∨ (object2 ≥ (12 : Int)))))))] [] rfl ⟨TLes.same _, TLes.same _, trivial⟩ trivial ?_
            exact RunW_nil rfl
          · refine r_on rfl rfl rfl rfl (decide_eq_false (p := ((user1 < (0 : Int)) ∨ (user1 ≥ (3 : Int))) ∨ (object2 < (0 : Int))) (not_or.2 ⟨(not_or.2 ⟨h3, h4⟩), h5⟩)) rfl (PureD.opD (p_move rfl rfl)) ?_
            refine r_on rfl rfl rfl rfl (decide_eq_false (p := ((user1 < (0 : Int)) ∨ (user1 ≥ (3 : Int))) ∨ (object2 < (0 : Int))) (not_or.2 ⟨(not_or.2 ⟨h3, h4⟩), h5⟩)) rfl (PureD.opD (p_bin rfl rfl rfl rfl)) ?_
            refine r_op rfl rfl (PureD.opD (p_pkf rfl rfl (decide_eq_false (p := ((user1 < (0 : Int)) ∨ (user1 ≥ (3 : Int))) ∨ (object2 < (0 : Int))) (not_or.2 ⟨(not_or.2 ⟨h3, h4⟩), h5⟩)) (tb ((or_l (p := ((user1 < (0 : Int)) ∨ (user1 ≥ (3 : Int))) ∨ (object2 < (0 : Int))) (q := object2 ≥ (12 : Int)) (not_or.2 ⟨(not_or.2 ⟨h3, h4⟩), h5⟩)))))) ?_
            refine RunW_st [(3, .c (.p (AV.int right3))), (28, .c (.p (.bool (decide ((((user1 < (0 : Int)) ∨ (user1 ≥ (3 : Int))) ∨ (object2 < (0 : Int))) ∨ (object2 ≥ (12 : Int)))))))] [] rfl ⟨TLes.same _, TLes.same _, trivial⟩ trivial ?_
            exact RunW_nil rfl
    · refine AW2_if (p := (((user1 < (0 : Int)) ∨ (user1 ≥ (3 : Int))) ∨ (object2 < (0 : Int))) ∨ (object2 ≥ (12 : Int))) rfl (fun h6 => ?_) (fun h6 => ?_)
      · replace H := ite_then h6 H
        refine AW2_seq ?_
        refine AW2_reg [0] rfl ?_
        refine r_op rfl rfl (PureD.opD (p_asg rfl rfl)) ?_
        refine RunW_st [(8, .c (.p (AV.int (6 : Int))))] [] rfl ⟨TLes.same _, trivial⟩ trivial ?_
        refine RunW_nil ?_
        refine AW2_ret ?_
        have hz := some_elim H
        subst hz
        exact ⟨⟨res_tmp (.same _), trivial⟩, trivial⟩
      · replace H := ite_else h6 H
        refine AW2_st [(3, .c (.p (AV.int right3)))] [] rfl ⟨TLes.same _, trivial⟩ trivial ?_
        refine AW2_skip ?_
        refine AW2_seq ?_
        refine AW2_seq ?_
        refine AW2_mid (⟨[(34, .c (.p (.bool (decide ((right3 ≠ (1 : Int)) ∧ (right3 ≠ (2 : Int)))))))], [], 35⟩ : TS) ?_ ?_
        · refine AW2_reg [0, 1, 2, 3, 4, 5] rfl ?_
          refine r_op rfl rfl (PureD.opD (p_move rfl rfl)) ?_
          refine r_op rfl rfl (PureD.opD (p_ine rfl rfl rfl)) ?_
          refine r_op rfl rfl (PureD.opD (p_move rfl rfl)) ?_
          refine (Classical.em (right3 ≠ (1 : Int))).elim (fun h7 => ?_) (fun h7 => ?_)
          · refine r_on rfl rfl rfl rfl (decide_eq_true (p := right3 ≠ (1 : Int)) h7) rfl (PureD.opD (p_move rfl rfl)) ?_
            refine r_on rfl rfl rfl rfl (decide_eq_true (p := right3 ≠ (1 : Int)) h7) rfl (PureD.opD (p_ine rfl rfl rfl)) ?_
            refine r_op rfl rfl (PureD.opD (p_pkt rfl rfl (decide_eq_true (p := right3 ≠ (1 : Int)) h7) (tb ((and_l (p := right3 ≠ (1 : Int)) (q := right3 ≠ (2 : Int)) h7))))) ?_
            refine RunW_st [(34, .c (.p (.bool (decide ((right3 ≠ (1 : Int)) ∧ (right3 ≠ (2 : Int)))))))] [] rfl ⟨TLes.same _, trivial⟩ trivial ?_
            exact RunW_nil rfl
          · refine r_off rfl rfl rfl rfl (decide_eq_false (p := right3 ≠ (1 : Int)) h7) rfl rfl ?_
            refine r_off rfl rfl rfl rfl (decide_eq_false (p := right3 ≠ (1 : Int)) h7) rfl rfl ?_
            refine r_op rfl rfl (PureD.opD (p_pkf rfl rfl (decide_eq_false (p := right3 ≠ (1 : Int)) h7) (tb (decide_eq_false (p := (right3 ≠ (1 : Int)) ∧ (right3 ≠ (2 : Int))) (fun x => h7 x.1)).symm))) ?_
            refine RunW_st [(34, .c (.p (.bool (decide ((right3 ≠ (1 : Int)) ∧ (right3 ≠ (2 : Int)))))))] [] rfl ⟨TLes.same _, trivial⟩ trivial ?_
            exact RunW_nil rfl
        · refine AW2_if (p := (right3 ≠ (1 : Int)) ∧ (right3 ≠ (2 : Int))) rfl (fun h8 => ?_) (fun h8 => ?_)
          · replace H := ite_then h8 H
            refine AW2_seq ?_
            refine AW2_reg [0] rfl ?_
            refine r_op rfl rfl (PureD.opD (p_asg rfl rfl)) ?_
            refine RunW_st [(8, .c (.p (AV.int (2 : Int))))] [] rfl ⟨TLes.same _, trivial⟩ trivial ?_
            refine RunW_nil ?_
            refine AW2_ret ?_
            have hz := some_elim H
            subst hz
            exact ⟨⟨res_tmp (.same _), trivial⟩, trivial⟩
          · replace H := ite_else h8 H
            refine AW2_st [] [] rfl trivial trivial ?_
            refine AW2_skip ?_
            refine AW2_seq ?_
            refine AW2_reg [0] rfl ?_
            refine r_op rfl rfl (PureD.opD (p_asg rfl rfl)) ?_
            refine RunW_st [(8, .c (.p (AV.int (0 : Int))))] [] rfl ⟨TLes.same _, trivial⟩ trivial ?_
            refine RunW_nil ?_
            refine AW2_ret ?_
            have hz := some_elim H
            subst hz
            exact ⟨⟨res_tmp (.same _), trivial⟩, trivial⟩
end Go.Proofs.Ytgbfmldbbnhefaa.VM
