/- Functions of the program, as they answer, and that their code comes to these answers. -/
import Derived.Test.YtgbfmldbbnhefaaGr10
namespace Go.Proofs.Ytgbfmldbbnhefaa.VM
open Go Go.RowKit



/-! chirographref.Given -/
noncomputable def g_ref_Given_l0 (l0 : List GGrant) : Int × GGrant × (List GGrant) → Option ((Int × GGrant × (List GGrant)) ⊕ ((GGrant × (List GGrant))))
  | (t34_0, g3_0, out8_0) => (if t34_0 < (l0.length : Int) then if 0 ≤ t34_0 ∧ t34_0 < (l0.length : Int) then ((g_ref_rank (lrd l0 t34_0.toNat)).bind fun r'5 => (g_ref_rank g3_0).bind fun r'6 => (if r'5 < r'6 then if room (out8_0.length + ([(lrd l0 t34_0.toNat)] : List GGrant).length) 40 then some (out8_0 ++ ([(lrd l0 t34_0.toNat)] : List GGrant)) else none else some out8_0)).bind fun j'4 => ((g_ref_rank (lrd l0 t34_0.toNat)).bind fun r'7 => (g_ref_rank g3_0).bind fun r'8 => (if r'7 = r'8 then some ((lrd l0 t34_0.toNat).Option) else some false)).bind fun g'9 => (if g'9 = true then some (.inl (w64 (t34_0 + (1 : Int)), { g3_0 with Option := true }, j'4)) else some (.inl (w64 (t34_0 + (1 : Int)), g3_0, j'4))) else none else some (.inr (g3_0, out8_0)))
noncomputable def g_ref_Given_l1 (l0 : List GGrant) (y'13 : GGrant × (List GGrant)) : Int × (List GGrant) → Option ((Int × (List GGrant)) ⊕ (((List GGrant))))
  | (t64_1, out8_1) => (if t64_1 < (l0.length : Int) then (if 0 ≤ t64_1 ∧ t64_1 < (l0.length : Int) then (g_ref_rank (lrd l0 t64_1.toNat)).bind fun r'15 => (g_ref_rank y'13.1).bind fun r'16 => (if r'15 > r'16 then if room (out8_1.length + ([(lrd l0 t64_1.toNat)] : List GGrant).length) 40 then some (out8_1 ++ ([(lrd l0 t64_1.toNat)] : List GGrant)) else none else some out8_1) else none).bind fun j'14 => some (.inl (w64 (t64_1 + (1 : Int)), j'14)) else some (.inr out8_1))
noncomputable def g_ref_Given (l0 : List GGrant) (g1 : GGrant) : Option ((List GGrant) × Int) :=
  (g_ref_GrantsFault l0).bind fun r'1 => (if r'1 ≠ (0 : Int) then some ([], r'1) else (g_ref_grantBounds g1).bind fun r'2 => (if r'2 ≠ (0 : Int) then some ([], r'2) else (g_ref_Reached l0 g1.From g1.Object g1.Right).bind fun r'3 => (if (!r'3) = true then some ([], (5 : Int)) else (loopO (g_ref_Given_l0 l0) ((0 : Int), g1, ([] : List GGrant))).bind fun y'13 => if room (y'13.2.length + ([y'13.1] : List GGrant).length) 40 then (loopO (g_ref_Given_l1 l0 y'13) ((0 : Int), y'13.2 ++ ([y'13.1] : List GGrant))).bind fun y'20 => some (y'20, (0 : Int)) else none)))
set_option maxHeartbeats 4000000 in
set_option maxRecDepth 100000 in
theorem g_ref_Given_ac {l0 : List GGrant} {g1 : GGrant} {r : (List GGrant) × Int} (H : g_ref_Given l0 g1 = some r) : ACp Try.prog 18 [((fun q : List GGrant => AV.lst (q.flatMap GGrant.cs) q.length) l0), (.agg (GGrant.cs g1))] (.tup [((fun q : List GGrant => AV.lst (q.flatMap GGrant.cs) q.length) r.1), (AV.int r.2)]) := by
  refine ACp_of (AC2_of_body (vs := [.c (.p ((fun q : List GGrant => AV.lst (q.flatMap GGrant.cs) q.length) r.1)), .c (.p (AV.int r.2))]) Try.func18 rfl rfl (Nat.le_of_ble_eq_true rfl) rfl ?_) (fun _ => .same _)
  unfold g_ref_Given at H
  refine AW2_st [(0, .c (.p ((fun q : List GGrant => AV.lst (q.flatMap GGrant.cs) q.length) l0))), (1, .c (.p (.agg (GGrant.cs g1))))] [] rfl ⟨TLes.same _, TLes.same _, trivial⟩ trivial ?_
  refine AW2_seq ?_
  refine AW2_reg [0, 1, 2] rfl ?_
  refine r_op rfl rfl (MakeD.opD (n_box 3 rfl rfl) rfl rfl rfl rfl) ?_
  refine r_op rfl rfl (PureD.opD (p_asgn rfl)) ?_
  refine r_op rfl rfl (PureD.opD (p_asg rfl rfl)) ?_
  refine RunW_st [(0, .c (.p ((fun q : List GGrant => AV.lst (q.flatMap GGrant.cs) q.length) l0))), (3, .c (.ptr 3 (0)))] [(3, .pure (GGrant.cs g1))] rfl ⟨TLes.same _, TLes.same _, trivial⟩ ⟨rfl, trivial⟩ ?_
  refine RunW_nil ?_
  refine AW2_seq ?_
  refine AW2_seq ?_
  refine AW2_reg [0, 1, 2] rfl ?_
  refine r_op rfl rfl (PureD.opD (p_move rfl rfl)) ?_
  refine bindK H fun r'1 h1 H => ?_
  refine r_op rfl rfl (PureD.opD (p_callp rfl rfl rfl Try.func9 rfl rfl (g_ref_GrantsFault_ac h1) ⟨rfl, trivial⟩)) ?_
  refine r_op rfl rfl (PureD.opD (p_asg rfl rfl)) ?_
  refine RunW_st [(0, .c (.p ((fun q : List GGrant => AV.lst (q.flatMap GGrant.cs) q.length) l0))), (3, .c (.ptr 3 (0))), (6, .c (.p (AV.int r'1)))] [(3, .pure (GGrant.cs g1))] rfl ⟨TLes.same _, TLes.same _, TLes.same _, trivial⟩ ⟨rfl, trivial⟩ ?_
  refine RunW_nil ?_
  refine AW2_seq ?_
  refine AW2_reg [0, 1] rfl ?_
  refine r_op rfl rfl (PureD.opD (p_move rfl rfl)) ?_
  refine r_op rfl rfl (PureD.opD (p_ine rfl rfl rfl)) ?_
  refine RunW_st [(0, .c (.p ((fun q : List GGrant => AV.lst (q.flatMap GGrant.cs) q.length) l0))), (3, .c (.ptr 3 (0))), (6, .c (.p (AV.int r'1))), (16, .c (.p (.bool (decide (r'1 ≠ (0 : Int))))))] [(3, .pure (GGrant.cs g1))] rfl ⟨TLes.same _, TLes.same _, TLes.same _, TLes.same _, trivial⟩ ⟨rfl, trivial⟩ ?_
  refine RunW_nil ?_
  refine AW2_if (p := r'1 ≠ (0 : Int)) rfl (fun h2 => ?_) (fun h2 => ?_)
  · replace H := ite_then h2 H
    refine AW2_seq ?_
    refine AW2_reg [0, 1, 2] rfl ?_
    refine r_op rfl rfl (PureD.opD (p_move rfl rfl)) ?_
    refine r_op rfl rfl (PureD.opD (p_asgn rfl)) ?_
    refine r_op rfl rfl (PureD.opD (p_asg rfl rfl)) ?_
    refine RunW_st [(4, .c (.p .nil)), (5, .c (.p (AV.int r'1)))] [] rfl ⟨TLes.same _, TLes.same _, trivial⟩ trivial ?_
    refine RunW_nil ?_
    refine AW2_ret ?_
    have hz := some_elim H
    subst hz
    exact ⟨⟨res_tmp TLes.nil0, res_tmp (.same _), trivial⟩, trivial⟩
  · replace H := ite_else h2 H
    refine AW2_st [(0, .c (.p ((fun q : List GGrant => AV.lst (q.flatMap GGrant.cs) q.length) l0))), (3, .c (.ptr 3 (0)))] [(3, .pure (GGrant.cs g1))] rfl ⟨TLes.same _, TLes.same _, trivial⟩ ⟨rfl, trivial⟩ ?_
    refine AW2_skip ?_
    refine AW2_seq ?_
    refine AW2_seq ?_
    refine AW2_reg [0, 1, 2] rfl ?_
    refine r_op rfl rfl (PureD.opD (u_lda rfl rfl Try.underlying27 rfl in_27 rfl (Nat.succ_pos _) (Sub.refl _) (GGrant.len g1))) ?_
    refine bindK H fun r'2 h3 H => ?_
    refine r_op rfl rfl (PureD.opD (p_callp rfl rfl rfl Try.func23 rfl rfl (g_ref_grantBounds_ac h3) ⟨rfl, trivial⟩)) ?_
    refine r_op rfl rfl (PureD.opD (p_asg rfl rfl)) ?_
    refine RunW_st [(0, .c (.p ((fun q : List GGrant => AV.lst (q.flatMap GGrant.cs) q.length) l0))), (3, .c (.ptr 3 (0))), (7, .c (.p (AV.int r'2)))] [(3, .pure (GGrant.cs g1))] rfl ⟨TLes.same _, TLes.same _, TLes.same _, trivial⟩ ⟨rfl, trivial⟩ ?_
    refine RunW_nil ?_
    refine AW2_seq ?_
    refine AW2_reg [0, 1] rfl ?_
    refine r_op rfl rfl (PureD.opD (p_move rfl rfl)) ?_
    refine r_op rfl rfl (PureD.opD (p_ine rfl rfl rfl)) ?_
    refine RunW_st [(0, .c (.p ((fun q : List GGrant => AV.lst (q.flatMap GGrant.cs) q.length) l0))), (3, .c (.ptr 3 (0))), (7, .c (.p (AV.int r'2))), (21, .c (.p (.bool (decide (r'2 ≠ (0 : Int))))))] [(3, .pure (GGrant.cs g1))] rfl ⟨TLes.same _, TLes.same _, TLes.same _, TLes.same _, trivial⟩ ⟨rfl, trivial⟩ ?_
    refine RunW_nil ?_
    refine AW2_if (p := r'2 ≠ (0 : Int)) rfl (fun h4 => ?_) (fun h4 => ?_)
    · replace H := ite_then h4 H
      refine AW2_seq ?_
      refine AW2_reg [0, 1, 2] rfl ?_
      refine r_op rfl rfl (PureD.opD (p_move rfl rfl)) ?_
      refine r_op rfl rfl (PureD.opD (p_asgn rfl)) ?_
      refine r_op rfl rfl (PureD.opD (p_asg rfl rfl)) ?_
      refine RunW_st [(4, .c (.p .nil)), (5, .c (.p (AV.int r'2)))] [] rfl ⟨TLes.same _, TLes.same _, trivial⟩ trivial ?_
      refine RunW_nil ?_
      refine AW2_ret ?_
      have hz := some_elim H
      subst hz
      exact ⟨⟨res_tmp TLes.nil0, res_tmp (.same _), trivial⟩, trivial⟩
    · replace H := ite_else h4 H
      refine AW2_st [(0, .c (.p ((fun q : List GGrant => AV.lst (q.flatMap GGrant.cs) q.length) l0))), (3, .c (.ptr 3 (0)))] [(3, .pure (GGrant.cs g1))] rfl ⟨TLes.same _, TLes.same _, trivial⟩ ⟨rfl, trivial⟩ ?_
      refine AW2_skip ?_
      refine AW2_seq ?_
      refine AW2_seq ?_
      refine AW2_reg [0, 1, 2, 3, 4, 5, 6, 7, 8] rfl ?_
      refine r_op rfl rfl (PureD.opD (p_move rfl rfl)) ?_
      refine r_op rfl rfl (PureD.opD (u_fa rfl rfl Try.underlying27 rfl in_3 (Nat.succ_ne_zero _) rfl rfl (ne_of_lt (n := 0) (Nat.lt_of_lt_of_eq (by decide) (Eq.symm (GGrant.len g1)))))) ?_
      refine r_op rfl rfl (PureD.opD (u_ld rfl rfl Try.underlying3 rfl rfl ((Sub.refl _).trans (GGrant.sub0 g1)))) ?_
      refine r_op rfl rfl (PureD.opD (u_fa rfl rfl Try.underlying27 rfl in_3 (Nat.succ_ne_zero _) rfl rfl (ne_of_lt (n := 0) (Nat.lt_of_lt_of_eq (by decide) (Eq.symm (GGrant.len g1)))))) ?_
      refine r_op rfl rfl (PureD.opD (u_ld rfl rfl Try.underlying3 rfl rfl ((Sub.refl _).trans (GGrant.sub2 g1)))) ?_
      refine r_op rfl rfl (PureD.opD (u_fa rfl rfl Try.underlying27 rfl in_3 (Nat.succ_ne_zero _) rfl rfl (ne_of_lt (n := 0) (Nat.lt_of_lt_of_eq (by decide) (Eq.symm (GGrant.len g1)))))) ?_
      refine r_op rfl rfl (PureD.opD (u_ld rfl rfl Try.underlying3 rfl rfl ((Sub.refl _).trans (GGrant.sub3 g1)))) ?_
      refine bindK H fun r'3 h5 H => ?_
      refine r_op rfl rfl (PureD.opD (p_callp rfl rfl rfl Try.func31 rfl rfl (g_ref_Reached_ac h5) ⟨rfl, rfl, rfl, rfl, trivial⟩)) ?_
      refine r_op rfl rfl (PureD.opD (p_not rfl rfl)) ?_
      refine RunW_st [(0, .c (.p ((fun q : List GGrant => AV.lst (q.flatMap GGrant.cs) q.length) l0))), (3, .c (.ptr 3 (0))), (31, .c (.p (AV.bool (!r'3))))] [(3, .pure (GGrant.cs g1))] rfl ⟨TLes.same _, TLes.same _, TLes.same _, trivial⟩ ⟨rfl, trivial⟩ ?_
      refine RunW_nil ?_
      refine AW2_cond rfl (fun h6 => ?_) (fun h6 => ?_)
      · replace H := ite_then h6 H
        refine AW2_seq ?_
        refine AW2_reg [0, 1] rfl ?_
        refine r_op rfl rfl (PureD.opD (p_asgn rfl)) ?_
        refine r_op rfl rfl (PureD.opD (p_asg rfl rfl)) ?_
        refine RunW_st [(4, .c (.p .nil)), (5, .c (.p (AV.int (5 : Int))))] [] rfl ⟨TLes.same _, TLes.same _, trivial⟩ trivial ?_
        refine RunW_nil ?_
        refine AW2_ret ?_
        have hz := some_elim H
        subst hz
        exact ⟨⟨res_tmp TLes.nil0, res_tmp (.same _), trivial⟩, trivial⟩
      · replace H := ite_else (ne_true h6) H
        refine AW2_st [(0, .c (.p ((fun q : List GGrant => AV.lst (q.flatMap GGrant.cs) q.length) l0))), (3, .c (.ptr 3 (0)))] [(3, .pure (GGrant.cs g1))] rfl ⟨TLes.same _, TLes.same _, trivial⟩ ⟨rfl, trivial⟩ ?_
        refine AW2_skip ?_
        refine AW2_seq ?_
        refine AW2_reg [0] rfl ?_
        refine r_op rfl rfl (PureD.opD (p_asgn rfl)) ?_
        refine RunW_st [(0, .c (.p ((fun q : List GGrant => AV.lst (q.flatMap GGrant.cs) q.length) l0))), (3, .c (.ptr 3 (0))), (8, .c (.p .nil))] [(3, .pure (GGrant.cs g1))] rfl ⟨TLes.same _, TLes.same _, TLes.same _, trivial⟩ ⟨rfl, trivial⟩ ?_
        refine RunW_nil ?_
        refine AW2_seq ?_
        refine AW2_seq ?_
        refine AW2_reg [0, 1, 2] rfl ?_
        refine r_op rfl rfl (PureD.opD (p_move rfl rfl)) ?_
        refine r_op rfl rfl (PureD.opD (p_lenl rfl Try.underlying22 rfl rfl)) ?_
        refine r_op rfl rfl (PureD.opD (p_move rfl rfl)) ?_
        refine RunW_st [(0, .c (.p ((fun q : List GGrant => AV.lst (q.flatMap GGrant.cs) q.length) l0))), (3, .c (.ptr 3 (0))), (8, .c (.p .nil)), (32, .c (.p ((fun q : List GGrant => AV.lst (q.flatMap GGrant.cs) q.length) l0))), (33, .c (.p (AV.int (l0.length : Int)))), (34, .c (.p (AV.int (0 : Int))))] [(3, .pure (GGrant.cs g1))] rfl ⟨TLes.same _, TLes.same _, TLes.same _, TLes.same _, TLes.same _, TLes.same _, trivial⟩ ⟨rfl, trivial⟩ ?_
        refine RunW_nil ?_
        refine AW2_block ?_
        refine AW2_st [(0, .c (.p ((fun q : List GGrant => AV.lst (q.flatMap GGrant.cs) q.length) l0))), (3, .c (.ptr 3 (0))), (8, .c (.p .nil)), (32, .c (.p ((fun q : List GGrant => AV.lst (q.flatMap GGrant.cs) q.length) l0))), (33, .c (.p (AV.int (l0.length : Int)))), (34, .c (.p (AV.int (0 : Int))))] [(3, .pure (GGrant.cs g1))] rfl ⟨TLes.same _, TLes.same _, TLes.same _, TLes.same _, TLes.same _, TLes.same _, trivial⟩ ⟨rfl, trivial⟩ ?_
        refine AW2_gho (Gho_own (d := 8) (b := 8) (z := 5) rfl rfl rfl rfl) ?_
        refine AW2_st [(0, .c (.p ((fun q : List GGrant => AV.lst (q.flatMap GGrant.cs) q.length) l0))), (3, .c (.ptr 3 (0))), (8, .c (.own 8 ([] : List GGrant).length 5)), (32, .c (.p ((fun q : List GGrant => AV.lst (q.flatMap GGrant.cs) q.length) l0))), (33, .c (.p (AV.int (l0.length : Int)))), (34, .c (.p (AV.int (0 : Int))))] [(3, .pure (GGrant.cs g1)), (8, .pure (([] : List GGrant).flatMap GGrant.cs))] rfl ⟨TLes.same _, TLes.same _, TLes.own rfl, TLes.same _, TLes.same _, TLes.same _, trivial⟩ ⟨rfl, rfl, trivial⟩ ?_
        refine bindK H fun y'13 h19 H => ?_
        refine AW2_loopO (fun a'10 : Int × GGrant × (List GGrant) => (⟨[(0, .c (.p ((fun q : List GGrant => AV.lst (q.flatMap GGrant.cs) q.length) l0))), (3, .c (.ptr 3 (0))), (8, .c (.own 8 a'10.2.2.length 5)), (32, .c (.p ((fun q : List GGrant => AV.lst (q.flatMap GGrant.cs) q.length) l0))), (33, .c (.p (AV.int (l0.length : Int)))), (34, .c (.p (AV.int a'10.1)))], [(3, .pure (GGrant.cs a'10.2.1)), (8, .pure (a'10.2.2.flatMap GGrant.cs))], 79⟩ : TS)) (fun (y'11 : (GGrant × (List GGrant))) e s' => e = Go.Exit.exit 0 ∧ s' = (⟨[(0, .c (.p ((fun q : List GGrant => AV.lst (q.flatMap GGrant.cs) q.length) l0))), (3, .c (.ptr 3 (0))), (8, .c (.own 8 y'11.2.length 5))], [(3, .pure (GGrant.cs y'11.1)), (8, .pure (y'11.2.flatMap GGrant.cs))], 79⟩ : TS)) h19 rfl (fun a x hx => ?_) (fun e s' hs => ?_)
        · clear H
          obtain ⟨t34_0, g3_0, out8_0⟩ := a
          have H := hx
          clear hx
          unfold g_ref_Given_l0 at H
          refine AW2_seq ?_
          refine AW2_reg [0] rfl ?_
          refine r_op rfl rfl (PureD.opD (p_bin rfl rfl rfl rfl)) ?_
          refine RunW_st [(0, .c (.p ((fun q : List GGrant => AV.lst (q.flatMap GGrant.cs) q.length) l0))), (3, .c (.ptr 3 (0))), (8, .c (.own 8 out8_0.length 5)), (32, .c (.p ((fun q : List GGrant => AV.lst (q.flatMap GGrant.cs) q.length) l0))), (33, .c (.p (AV.int (l0.length : Int)))), (34, .c (.p (AV.int t34_0))), (35, .c (.p (.bool (decide (t34_0 < (l0.length : Int))))))] [(3, .pure (GGrant.cs g3_0)), (8, .pure (out8_0.flatMap GGrant.cs))] rfl ⟨TLes.same _, TLes.same _, TLes.same _, TLes.same _, TLes.same _, TLes.same _, TLes.same _, trivial⟩ ⟨rfl, rfl, trivial⟩ ?_
          refine RunW_nil ?_
          refine AW2_seq ?_
          refine AW2_if (p := t34_0 < (l0.length : Int)) rfl (fun h7 => ?_) (fun h7 => ?_)
          · replace H := ite_then h7 H
            refine AW2_st [(0, .c (.p ((fun q : List GGrant => AV.lst (q.flatMap GGrant.cs) q.length) l0))), (3, .c (.ptr 3 (0))), (8, .c (.own 8 out8_0.length 5)), (32, .c (.p ((fun q : List GGrant => AV.lst (q.flatMap GGrant.cs) q.length) l0))), (33, .c (.p (AV.int (l0.length : Int)))), (34, .c (.p (AV.int t34_0)))] [(3, .pure (GGrant.cs g3_0)), (8, .pure (out8_0.flatMap GGrant.cs))] rfl ⟨TLes.same _, TLes.same _, TLes.same _, TLes.same _, TLes.same _, TLes.same _, trivial⟩ ⟨rfl, rfl, trivial⟩ ?_
            refine AW2_skip ?_
            refine AW2_seq ?_
            refine AW2_block ?_
            refine AW2_seq ?_
            refine AW2_reg [0, 1, 2, 3] rfl ?_
            refine chkK H fun h8 H => ?_
            refine r_op rfl rfl (PureD.opD (u_ixl rfl rfl Try.underlying22 in_27 rfl rfl (ixe h8) (ixn h8) (fne (fun x => (GGrant.len x)) (by decide) (ixn h8)))) ?_
            refine r_op rfl rfl (PureD.opD (u_lda rfl rfl Try.underlying27 rfl in_27 rfl (Nat.succ_pos _) (Sub.fm default (fun x => (GGrant.len x)) (ixn h8)) (GGrant.len (lrd l0 t34_0.toNat)))) ?_
            refine r_op rfl rfl (MakeD.opD (u_alloc 10 rfl in_27 one_27 zc_27) rfl rfl rfl rfl) ?_
            refine r_op rfl rfl (u_st rfl rfl rfl rfl rfl in_27 (GGrant.len (lrd l0 t34_0.toNat)) (ne_of_lt (n := 0) (Nat.lt_of_lt_of_eq (by decide) (Eq.symm (GGrant.len GGrant.zero)))) (Upd.refl ((GGrant.len (lrd l0 t34_0.toNat)).trans (GGrant.len GGrant.zero).symm))) ?_
            refine RunW_st [(0, .c (.p ((fun q : List GGrant => AV.lst (q.flatMap GGrant.cs) q.length) l0))), (3, .c (.ptr 3 (0))), (8, .c (.own 8 out8_0.length 5)), (10, .c (.ptr 10 (0))), (32, .c (.p ((fun q : List GGrant => AV.lst (q.flatMap GGrant.cs) q.length) l0))), (33, .c (.p (AV.int (l0.length : Int)))), (34, .c (.p (AV.int t34_0)))] [(3, .pure (GGrant.cs g3_0)), (8, .pure (out8_0.flatMap GGrant.cs)), (10, .pure (GGrant.cs (lrd l0 t34_0.toNat)))] rfl ⟨TLes.same _, TLes.same _, TLes.same _, TLes.same _, TLes.same _, TLes.same _, TLes.same _, trivial⟩ ⟨rfl, rfl, rfl, trivial⟩ ?_
            refine RunW_nil ?_
            refine AW2_seq ?_
            refine bindK H fun j'4 h9 H => ?_
            refine AW2_mid (⟨[(0, .c (.p ((fun q : List GGrant => AV.lst (q.flatMap GGrant.cs) q.length) l0))), (3, .c (.ptr 3 (0))), (8, .c (.own 8 j'4.length 5)), (10, .c (.ptr 10 (0))), (32, .c (.p ((fun q : List GGrant => AV.lst (q.flatMap GGrant.cs) q.length) l0))), (33, .c (.p (AV.int (l0.length : Int)))), (34, .c (.p (AV.int t34_0)))], [(3, .pure (GGrant.cs g3_0)), (8, .pure (j'4.flatMap GGrant.cs)), (10, .pure (GGrant.cs (lrd l0 t34_0.toNat)))], 79⟩ : TS) ?_ ?_
            · clear H
              have H := h9
              clear h9
              refine AW2_seq ?_
              refine bindK H fun r'5 h10 H => ?_
              refine bindK H fun r'6 h11 H => ?_
              refine AW2_ghoQ ?_
              refine AW2_draw 3 [3, 4] (fun k => ([.c (.p (.agg (GGrant.cs (lrd l0 t34_0.toNat)))), .c (.p (AV.int r'5)), .c (.p (.agg (GGrant.cs g3_0)))] : List TV).getD k TV.any) (fun k => ([[(10, none)], [(38, some 0)], [(3, none)]] : List (List (Nat × Option Nat))).getD k []) [(0, none), (3, none), (8, none), (10, none), (32, none), (33, none), (34, none), (39, some 1), (40, some 2)] [] (fun k => ([[], [0], [], [0, 1, 2], [0, 1, 2, 3]] : List (List Nat)).getD k []) mixed (by kernel_rfl) rfl rfl (a_op (g_x rfl (x_p rfl (u_lda rfl rfl Try.underlying27 rfl in_27 rfl (Nat.succ_pos _) (Sub.refl _) (GGrant.len (lrd l0 t34_0.toNat))) rfl)) (a_op (g_x rfl (x_p rfl (p_callp rfl rfl rfl Try.func24 rfl rfl (g_ref_rank_ac h10) ⟨rfl, trivial⟩) rfl)) (a_op (g_x rfl (x_p rfl (u_lda rfl rfl Try.underlying27 rfl in_27 rfl (Nat.succ_pos _) (Sub.refl _) (GGrant.len g3_0)) rfl)) (a_nil)))) ?_
              refine t_op rfl rfl (PureD.opD (p_callp rfl rfl rfl Try.func24 rfl rfl (g_ref_rank_ac h11) ⟨rfl, trivial⟩)) ?_
              refine t_op rfl rfl (PureD.opD (p_bin rfl rfl rfl rfl)) ?_
              refine t_gho (Gho_st (L := [(0, .c (.p ((fun q : List GGrant => AV.lst (q.flatMap GGrant.cs) q.length) l0))), (3, .c (.ptr 3 (0))), (8, .c (.own 8 out8_0.length 5)), (10, .c (.ptr 10 (0))), (32, .c (.p ((fun q : List GGrant => AV.lst (q.flatMap GGrant.cs) q.length) l0))), (33, .c (.p (AV.int (l0.length : Int)))), (34, .c (.p (AV.int t34_0))), (42, .c (.p (.bool (decide (r'5 < r'6)))))]) (H := [(3, .pure (GGrant.cs g3_0)), (8, .pure (out8_0.flatMap GGrant.cs)), (10, .pure (GGrant.cs (lrd l0 t34_0.toNat)))]) rfl ⟨TLes.same _, TLes.same _, TLes.same _, TLes.same _, TLes.same _, TLes.same _, TLes.same _, TLes.same _, trivial⟩ ⟨rfl, rfl, rfl, trivial⟩) ?_
              refine AW2_if (p := r'5 < r'6) rfl (fun h12 => ?_) (fun h12 => ?_)
              · replace H := ite_then h12 H
                refine AW2_reg [0, 1, 2, 3, 4] rfl ?_
                refine r_op rfl rfl (PureD.opD (p_move rfl rfl)) ?_
                refine r_op rfl rfl (PureD.opD (u_lda rfl rfl Try.underlying27 rfl in_27 rfl (Nat.succ_pos _) (Sub.refl _) (GGrant.len (lrd l0 t34_0.toNat)))) ?_
                refine r_op rfl rfl (MakeD.opD (u_bs 45 rfl Try.underlying22 in_27 rfl one_27 (by decide) (by decide) rfl rfl rfl) rfl rfl rfl rfl) ?_
                refine chkK H fun h13 H => ?_
                refine r_op rfl rfl (u_app [8, 43] rfl rfl rfl rfl Try.underlying22 Try.underlying22 in_27 rfl rfl rfl (fm_length (fun x => (GGrant.len x)) out8_0) (by decide) (srcT_o rfl rfl (fm_length (fun x => (GGrant.len x)) ([(lrd l0 t34_0.toNat)] : List GGrant)) (by decide)) (fm_length (fun x => (GGrant.len x)) ([(lrd l0 t34_0.toNat)] : List GGrant)) h13 (by decide) rfl rfl (fapp GGrant.cs out8_0 ([(lrd l0 t34_0.toNat)] : List GGrant)) (lapp out8_0 ([(lrd l0 t34_0.toNat)] : List GGrant))) ?_
                refine r_op rfl rfl (PureD.opD (p_asg rfl rfl)) ?_
                refine RunW_st [(0, .c (.p ((fun q : List GGrant => AV.lst (q.flatMap GGrant.cs) q.length) l0))), (3, .c (.ptr 3 (0))), (8, .c (.own 8 (out8_0 ++ ([(lrd l0 t34_0.toNat)] : List GGrant)).length 5)), (10, .c (.ptr 10 (0))), (32, .c (.p ((fun q : List GGrant => AV.lst (q.flatMap GGrant.cs) q.length) l0))), (33, .c (.p (AV.int (l0.length : Int)))), (34, .c (.p (AV.int t34_0)))] [(3, .pure (GGrant.cs g3_0)), (8, .pure ((out8_0 ++ ([(lrd l0 t34_0.toNat)] : List GGrant)).flatMap GGrant.cs)), (10, .pure (GGrant.cs (lrd l0 t34_0.toNat)))] rfl ⟨TLes.same _, TLes.same _, TLes.same _, TLes.same _, TLes.same _, TLes.same _, TLes.same _, trivial⟩ ⟨rfl, rfl, rfl, trivial⟩ ?_
                refine RunW_nil ?_
                have hz := some_elim H
                subst hz
                exact rfl
              · replace H := ite_else h12 H
                refine AW2_st [(0, .c (.p ((fun q : List GGrant => AV.lst (q.flatMap GGrant.cs) q.length) l0))), (3, .c (.ptr 3 (0))), (8, .c (.own 8 out8_0.length 5)), (10, .c (.ptr 10 (0))), (32, .c (.p ((fun q : List GGrant => AV.lst (q.flatMap GGrant.cs) q.length) l0))), (33, .c (.p (AV.int (l0.length : Int)))), (34, .c (.p (AV.int t34_0)))] [(3, .pure (GGrant.cs g3_0)), (8, .pure (out8_0.flatMap GGrant.cs)), (10, .pure (GGrant.cs (lrd l0 t34_0.toNat)))] rfl ⟨TLes.same _, TLes.same _, TLes.same _, TLes.same _, TLes.same _, TLes.same _, TLes.same _, trivial⟩ ⟨rfl, rfl, rfl, trivial⟩ ?_
                refine AW2_skip ?_
                have hz := some_elim H
                subst hz
                exact rfl
            · refine AW2_seq ?_
              refine bindK H fun g'9 h17 H => ?_
              refine AW2_mid (⟨[(0, .c (.p ((fun q : List GGrant => AV.lst (q.flatMap GGrant.cs) q.length) l0))), (3, .c (.ptr 3 (0))), (8, .c (.own 8 j'4.length 5)), (32, .c (.p ((fun q : List GGrant => AV.lst (q.flatMap GGrant.cs) q.length) l0))), (33, .c (.p (AV.int (l0.length : Int)))), (34, .c (.p (AV.int t34_0))), (55, .c (.p (AV.bool g'9)))], [(3, .pure (GGrant.cs g3_0)), (8, .pure (j'4.flatMap GGrant.cs))], 79⟩ : TS) ?_ ?_
              · clear H
                have H := h17
                clear h17
                refine bindK H fun r'7 h14 H => ?_
                refine bindK H fun r'8 h15 H => ?_
                refine (Classical.em (r'7 = r'8)).elim (fun h16 => ?_) (fun h16 => ?_)
                · replace H := ite_then h16 H
                  have hz := some_elim H
                  subst hz
                  refine AW2_ghoQ ?_
                  refine AW2_draw 3 [3, 4, 5, 6, 7, 8] (fun k => ([.c (.p (.agg (GGrant.cs (lrd l0 t34_0.toNat)))), .c (.p (AV.int r'7)), .c (.p (.agg (GGrant.cs g3_0)))] : List TV).getD k TV.any) (fun k => ([[(10, none)], [(47, some 0)], [(3, none)]] : List (List (Nat × Option Nat))).getD k []) [(0, none), (3, none), (8, none), (10, none), (32, none), (33, none), (34, none), (48, some 1), (49, some 2)] [] (fun k => ([[], [0], [], [0, 1, 2], [0, 1, 2, 3], [0, 1, 2, 3, 4], [0, 1, 2, 3, 4, 5], [0, 1, 2, 3, 4, 5, 6], [0, 1, 2, 3, 4, 5, 6, 7]] : List (List Nat)).getD k []) mixed (by kernel_rfl) rfl rfl (a_op (g_x rfl (x_p rfl (u_lda rfl rfl Try.underlying27 rfl in_27 rfl (Nat.succ_pos _) (Sub.refl _) (GGrant.len (lrd l0 t34_0.toNat))) rfl)) (a_op (g_x rfl (x_p rfl (p_callp rfl rfl rfl Try.func24 rfl rfl (g_ref_rank_ac h14) ⟨rfl, trivial⟩) rfl)) (a_op (g_x rfl (x_p rfl (u_lda rfl rfl Try.underlying27 rfl in_27 rfl (Nat.succ_pos _) (Sub.refl _) (GGrant.len g3_0)) rfl)) (a_nil)))) ?_
                  refine t_op rfl rfl (PureD.opD (p_callp rfl rfl rfl Try.func24 rfl rfl (g_ref_rank_ac h15) ⟨rfl, trivial⟩)) ?_
                  refine t_op rfl rfl (PureD.opD (p_ieq rfl rfl rfl)) ?_
                  refine t_op rfl rfl (PureD.opD (p_move rfl rfl)) ?_
                  refine t_on rfl rfl rfl rfl (decide_eq_true (p := r'7 = r'8) h16) rfl (PureD.opD (u_fa rfl rfl Try.underlying27 rfl in_4 (Nat.succ_ne_zero _) rfl rfl (ne_of_lt (n := 0) (Nat.lt_of_lt_of_eq (by decide) (Eq.symm (GGrant.len (lrd l0 t34_0.toNat))))))) ?_
                  refine t_on rfl rfl rfl rfl (decide_eq_true (p := r'7 = r'8) h16) rfl (PureD.opD (u_ld rfl rfl Try.underlying4 rfl rfl ((Sub.refl _).trans (GGrant.sub4 (lrd l0 t34_0.toNat))))) ?_
                  refine t_op rfl rfl (PureD.opD (p_pkt rfl rfl (decide_eq_true (p := r'7 = r'8) h16) (.same _))) ?_
                  exact t_gho (Gho_st (L := [(0, .c (.p ((fun q : List GGrant => AV.lst (q.flatMap GGrant.cs) q.length) l0))), (3, .c (.ptr 3 (0))), (8, .c (.own 8 j'4.length 5)), (32, .c (.p ((fun q : List GGrant => AV.lst (q.flatMap GGrant.cs) q.length) l0))), (33, .c (.p (AV.int (l0.length : Int)))), (34, .c (.p (AV.int t34_0))), (55, .c (.p (AV.bool ((lrd l0 t34_0.toNat).Option))))]) (H := [(3, .pure (GGrant.cs g3_0)), (8, .pure (j'4.flatMap GGrant.cs))]) rfl ⟨TLes.same _, TLes.same _, TLes.same _, TLes.same _, TLes.same _, TLes.same _, TLes.same _, trivial⟩ ⟨rfl, rfl, trivial⟩) rfl
                · replace H := ite_else h16 H
                  have hz := some_elim H
                  subst hz
                  refine AW2_ghoQ ?_
                  refine AW2_draw 3 [3, 4, 5, 6, 7, 8] (fun k => ([.c (.p (.agg (GGrant.cs (lrd l0 t34_0.toNat)))), .c (.p (AV.int r'7)), .c (.p (.agg (GGrant.cs g3_0)))] : List TV).getD k TV.any) (fun k => ([[(10, none)], [(47, some 0)], [(3, none)]] : List (List (Nat × Option Nat))).getD k []) [(0, none), (3, none), (8, none), (10, none), (32, none), (33, none), (34, none), (48, some 1), (49, some 2)] [] (fun k => ([[], [0], [], [0, 1, 2], [0, 1, 2, 3], [0, 1, 2, 3, 4], [0, 1, 2, 3, 4, 5], [0, 1, 2, 3, 4, 5, 6], [0, 1, 2, 3, 4, 5, 6, 7]] : List (List Nat)).getD k []) mixed (by kernel_rfl) rfl rfl (a_op (g_x rfl (x_p rfl (u_lda rfl rfl Try.underlying27 rfl in_27 rfl (Nat.succ_pos _) (Sub.refl _) (GGrant.len (lrd l0 t34_0.toNat))) rfl)) (a_op (g_x rfl (x_p rfl (p_callp rfl rfl rfl Try.func24 rfl rfl (g_ref_rank_ac h14) ⟨rfl, trivial⟩) rfl)) (a_op (g_x rfl (x_p rfl (u_lda rfl rfl Try.underlying27 rfl in_27 rfl (Nat.succ_pos _) (Sub.refl _) (GGrant.len g3_0)) rfl)) (a_nil)))) ?_
                  refine t_op rfl rfl (PureD.opD (p_callp rfl rfl rfl Try.func24 rfl rfl (g_ref_rank_ac h15) ⟨rfl, trivial⟩)) ?_
                  refine t_op rfl rfl (PureD.opD (p_ieq rfl rfl rfl)) ?_
                  refine t_op rfl rfl (PureD.opD (p_move rfl rfl)) ?_
                  refine t_off rfl rfl rfl rfl (decide_eq_false (p := r'7 = r'8) h16) rfl rfl ?_
                  refine t_off rfl rfl rfl rfl (decide_eq_false (p := r'7 = r'8) h16) rfl rfl ?_
                  refine t_op rfl rfl (PureD.opD (p_pkf rfl rfl (decide_eq_false (p := r'7 = r'8) h16) (.same _))) ?_
                  exact t_gho (Gho_st (L := [(0, .c (.p ((fun q : List GGrant => AV.lst (q.flatMap GGrant.cs) q.length) l0))), (3, .c (.ptr 3 (0))), (8, .c (.own 8 j'4.length 5)), (32, .c (.p ((fun q : List GGrant => AV.lst (q.flatMap GGrant.cs) q.length) l0))), (33, .c (.p (AV.int (l0.length : Int)))), (34, .c (.p (AV.int t34_0))), (55, .c (.p (AV.bool false)))]) (H := [(3, .pure (GGrant.cs g3_0)), (8, .pure (j'4.flatMap GGrant.cs))]) rfl ⟨TLes.same _, TLes.same _, TLes.same _, TLes.same _, TLes.same _, TLes.same _, TLes.same _, trivial⟩ ⟨rfl, rfl, trivial⟩) rfl
              · refine AW2_cond rfl (fun h18 => ?_) (fun h18 => ?_)
                · replace H := ite_then h18 H
                  refine AW2_reg [0, 1] rfl ?_
                  refine r_op rfl rfl (PureD.opD (u_fa rfl rfl Try.underlying27 rfl in_4 (Nat.succ_ne_zero _) rfl rfl (ne_of_lt (n := 0) (Nat.lt_of_lt_of_eq (by decide) (Eq.symm (GGrant.len g3_0)))))) ?_
                  refine r_op rfl rfl (u_st rfl rfl rfl rfl rfl in_4 rfl (ne_of_lt (n := 0) (Nat.lt_of_lt_of_eq (by decide) (Eq.symm (GGrant.len g3_0)))) (Upd.trans (Sub.refl _) (GGrant.upd4 g3_0 true) (Upd.refl ((GGrant.len ({ g3_0 with Option := true })).trans (GGrant.len g3_0).symm)))) ?_
                  refine RunW_st [(0, .c (.p ((fun q : List GGrant => AV.lst (q.flatMap GGrant.cs) q.length) l0))), (3, .c (.ptr 3 (0))), (8, .c (.own 8 j'4.length 5)), (32, .c (.p ((fun q : List GGrant => AV.lst (q.flatMap GGrant.cs) q.length) l0))), (33, .c (.p (AV.int (l0.length : Int)))), (34, .c (.p (AV.int t34_0)))] [(3, .pure (GGrant.cs ({ g3_0 with Option := true }))), (8, .pure (j'4.flatMap GGrant.cs))] rfl ⟨TLes.same _, TLes.same _, TLes.same _, TLes.same _, TLes.same _, TLes.same _, trivial⟩ ⟨rfl, rfl, trivial⟩ ?_
                  refine RunW_nil ?_
                  refine AW2_reg [0, 1] rfl ?_
                  refine r_op rfl rfl (PureD.opD (p_bin rfl rfl rfl rfl)) ?_
                  refine r_op rfl rfl (PureD.opD (p_move rfl rfl)) ?_
                  refine RunW_st [(0, .c (.p ((fun q : List GGrant => AV.lst (q.flatMap GGrant.cs) q.length) l0))), (3, .c (.ptr 3 (0))), (8, .c (.own 8 j'4.length 5)), (32, .c (.p ((fun q : List GGrant => AV.lst (q.flatMap GGrant.cs) q.length) l0))), (33, .c (.p (AV.int (l0.length : Int)))), (34, .c (.p (AV.int (w64 (t34_0 + (1 : Int))))))] [(3, .pure (GGrant.cs ({ g3_0 with Option := true }))), (8, .pure (j'4.flatMap GGrant.cs))] rfl ⟨TLes.same _, TLes.same _, TLes.same _, TLes.same _, TLes.same _, TLes.same _, trivial⟩ ⟨rfl, rfl, trivial⟩ ?_
                  refine RunW_nil ?_
                  have hz := some_elim H
                  subst hz
                  exact ⟨rfl, rfl⟩
                · replace H := ite_else (ne_true h18) H
                  refine AW2_st [(0, .c (.p ((fun q : List GGrant => AV.lst (q.flatMap GGrant.cs) q.length) l0))), (3, .c (.ptr 3 (0))), (8, .c (.own 8 j'4.length 5)), (32, .c (.p ((fun q : List GGrant => AV.lst (q.flatMap GGrant.cs) q.length) l0))), (33, .c (.p (AV.int (l0.length : Int)))), (34, .c (.p (AV.int t34_0)))] [(3, .pure (GGrant.cs g3_0)), (8, .pure (j'4.flatMap GGrant.cs))] rfl ⟨TLes.same _, TLes.same _, TLes.same _, TLes.same _, TLes.same _, TLes.same _, trivial⟩ ⟨rfl, rfl, trivial⟩ ?_
                  refine AW2_skip ?_
                  refine AW2_reg [0, 1] rfl ?_
                  refine r_op rfl rfl (PureD.opD (p_bin rfl rfl rfl rfl)) ?_
                  refine r_op rfl rfl (PureD.opD (p_move rfl rfl)) ?_
                  refine RunW_st [(0, .c (.p ((fun q : List GGrant => AV.lst (q.flatMap GGrant.cs) q.length) l0))), (3, .c (.ptr 3 (0))), (8, .c (.own 8 j'4.length 5)), (32, .c (.p ((fun q : List GGrant => AV.lst (q.flatMap GGrant.cs) q.length) l0))), (33, .c (.p (AV.int (l0.length : Int)))), (34, .c (.p (AV.int (w64 (t34_0 + (1 : Int))))))] [(3, .pure (GGrant.cs g3_0)), (8, .pure (j'4.flatMap GGrant.cs))] rfl ⟨TLes.same _, TLes.same _, TLes.same _, TLes.same _, TLes.same _, TLes.same _, trivial⟩ ⟨rfl, rfl, trivial⟩ ?_
                  refine RunW_nil ?_
                  have hz := some_elim H
                  subst hz
                  exact ⟨rfl, rfl⟩
          · replace H := ite_else h7 H
            refine AW2_st [(0, .c (.p ((fun q : List GGrant => AV.lst (q.flatMap GGrant.cs) q.length) l0))), (3, .c (.ptr 3 (0))), (8, .c (.own 8 out8_0.length 5))] [(3, .pure (GGrant.cs g3_0)), (8, .pure (out8_0.flatMap GGrant.cs))] rfl ⟨TLes.same _, TLes.same _, TLes.same _, trivial⟩ ⟨rfl, rfl, trivial⟩ ?_
            refine AW2_exit ?_
            refine thenQ2_exit ?_
            have hz := some_elim H
            subst hz
            exact ⟨rfl, rfl⟩
        · obtain ⟨rfl, rfl⟩ := hs
          refine ⟨by simp, ?_⟩
          refine blockQ2_exit ?_
          refine AW2_seq ?_
          refine AW2_reg [0, 1, 2, 3, 4] rfl ?_
          refine r_op rfl rfl (PureD.opD (p_move rfl rfl)) ?_
          refine r_op rfl rfl (PureD.opD (u_lda rfl rfl Try.underlying27 rfl in_27 rfl (Nat.succ_pos _) (Sub.refl _) (GGrant.len y'13.1))) ?_
          refine r_op rfl rfl (MakeD.opD (u_bs 60 rfl Try.underlying22 in_27 rfl one_27 (by decide) (by decide) rfl rfl rfl) rfl rfl rfl rfl) ?_
          refine chkK H fun h20 H => ?_
          refine r_op rfl rfl (u_app [8, 58] rfl rfl rfl rfl Try.underlying22 Try.underlying22 in_27 rfl rfl rfl (fm_length (fun x => (GGrant.len x)) y'13.2) (by decide) (srcT_o rfl rfl (fm_length (fun x => (GGrant.len x)) ([y'13.1] : List GGrant)) (by decide)) (fm_length (fun x => (GGrant.len x)) ([y'13.1] : List GGrant)) h20 (by decide) rfl rfl (fapp GGrant.cs y'13.2 ([y'13.1] : List GGrant)) (lapp y'13.2 ([y'13.1] : List GGrant))) ?_
          refine r_op rfl rfl (PureD.opD (p_asg rfl rfl)) ?_
          refine RunW_st [(0, .c (.p ((fun q : List GGrant => AV.lst (q.flatMap GGrant.cs) q.length) l0))), (3, .c (.ptr 3 (0))), (8, .c (.own 8 (y'13.2 ++ ([y'13.1] : List GGrant)).length 5))] [(3, .pure (GGrant.cs y'13.1)), (8, .pure ((y'13.2 ++ ([y'13.1] : List GGrant)).flatMap GGrant.cs))] rfl ⟨TLes.same _, TLes.same _, TLes.same _, trivial⟩ ⟨rfl, rfl, trivial⟩ ?_
          refine RunW_nil ?_
          refine AW2_seq ?_
          refine AW2_seq ?_
          refine AW2_reg [0, 1, 2] rfl ?_
          refine r_op rfl rfl (PureD.opD (p_move rfl rfl)) ?_
          refine r_op rfl rfl (PureD.opD (p_lenl rfl Try.underlying22 rfl rfl)) ?_
          refine r_op rfl rfl (PureD.opD (p_move rfl rfl)) ?_
          refine RunW_st [(3, .c (.ptr 3 (0))), (8, .c (.own 8 (y'13.2 ++ ([y'13.1] : List GGrant)).length 5)), (62, .c (.p ((fun q : List GGrant => AV.lst (q.flatMap GGrant.cs) q.length) l0))), (63, .c (.p (AV.int (l0.length : Int)))), (64, .c (.p (AV.int (0 : Int))))] [(3, .pure (GGrant.cs y'13.1)), (8, .pure ((y'13.2 ++ ([y'13.1] : List GGrant)).flatMap GGrant.cs))] rfl ⟨TLes.same _, TLes.same _, TLes.same _, TLes.same _, TLes.same _, trivial⟩ ⟨rfl, rfl, trivial⟩ ?_
          refine RunW_nil ?_
          refine AW2_block ?_
          refine AW2_st [(3, .c (.ptr 3 (0))), (8, .c (.own 8 (y'13.2 ++ ([y'13.1] : List GGrant)).length 5)), (62, .c (.p ((fun q : List GGrant => AV.lst (q.flatMap GGrant.cs) q.length) l0))), (63, .c (.p (AV.int (l0.length : Int)))), (64, .c (.p (AV.int (0 : Int))))] [(3, .pure (GGrant.cs y'13.1)), (8, .pure ((y'13.2 ++ ([y'13.1] : List GGrant)).flatMap GGrant.cs))] rfl ⟨TLes.same _, TLes.same _, TLes.same _, TLes.same _, TLes.same _, trivial⟩ ⟨rfl, rfl, trivial⟩ ?_
          refine bindK H fun y'20 h28 H => ?_
          refine AW2_loopO (fun a'17 : Int × (List GGrant) => (⟨[(3, .c (.ptr 3 (0))), (8, .c (.own 8 a'17.2.length 5)), (62, .c (.p ((fun q : List GGrant => AV.lst (q.flatMap GGrant.cs) q.length) l0))), (63, .c (.p (AV.int (l0.length : Int)))), (64, .c (.p (AV.int a'17.1)))], [(3, .pure (GGrant.cs y'13.1)), (8, .pure (a'17.2.flatMap GGrant.cs))], 79⟩ : TS)) (fun (y'18 : ((List GGrant))) e s' => e = Go.Exit.exit 2 ∧ s' = (⟨[(8, .c (.own 8 y'18.length 5))], [(8, .pure (y'18.flatMap GGrant.cs))], 79⟩ : TS)) h28 rfl (fun a x hx => ?_) (fun e s' hs => ?_)
          · clear H
            obtain ⟨t64_1, out8_1⟩ := a
            have H := hx
            clear hx
            unfold g_ref_Given_l1 at H
            refine AW2_seq ?_
            refine AW2_reg [0] rfl ?_
            refine r_op rfl rfl (PureD.opD (p_bin rfl rfl rfl rfl)) ?_
            refine RunW_st [(3, .c (.ptr 3 (0))), (8, .c (.own 8 out8_1.length 5)), (62, .c (.p ((fun q : List GGrant => AV.lst (q.flatMap GGrant.cs) q.length) l0))), (63, .c (.p (AV.int (l0.length : Int)))), (64, .c (.p (AV.int t64_1))), (65, .c (.p (.bool (decide (t64_1 < (l0.length : Int))))))] [(3, .pure (GGrant.cs y'13.1)), (8, .pure (out8_1.flatMap GGrant.cs))] rfl ⟨TLes.same _, TLes.same _, TLes.same _, TLes.same _, TLes.same _, TLes.same _, trivial⟩ ⟨rfl, rfl, trivial⟩ ?_
            refine RunW_nil ?_
            refine AW2_seq ?_
            refine AW2_if (p := t64_1 < (l0.length : Int)) rfl (fun h21 => ?_) (fun h21 => ?_)
            · replace H := ite_then h21 H
              refine AW2_st [(3, .c (.ptr 3 (0))), (8, .c (.own 8 out8_1.length 5)), (62, .c (.p ((fun q : List GGrant => AV.lst (q.flatMap GGrant.cs) q.length) l0))), (63, .c (.p (AV.int (l0.length : Int)))), (64, .c (.p (AV.int t64_1)))] [(3, .pure (GGrant.cs y'13.1)), (8, .pure (out8_1.flatMap GGrant.cs))] rfl ⟨TLes.same _, TLes.same _, TLes.same _, TLes.same _, TLes.same _, trivial⟩ ⟨rfl, rfl, trivial⟩ ?_
              refine AW2_skip ?_
              refine AW2_seq ?_
              refine bindK H fun j'14 h22 H => ?_
              refine AW2_mid (⟨[(3, .c (.ptr 3 (0))), (8, .c (.own 8 j'14.length 5)), (62, .c (.p ((fun q : List GGrant => AV.lst (q.flatMap GGrant.cs) q.length) l0))), (63, .c (.p (AV.int (l0.length : Int)))), (64, .c (.p (AV.int t64_1)))], [(3, .pure (GGrant.cs y'13.1)), (8, .pure (j'14.flatMap GGrant.cs))], 79⟩ : TS) ?_ ?_
              · clear H
                have H := h22
                clear h22
                refine AW2_block ?_
                refine AW2_seq ?_
                refine AW2_reg [0, 1, 2, 3] rfl ?_
                refine chkK H fun h23 H => ?_
                refine r_op rfl rfl (PureD.opD (u_ixl rfl rfl Try.underlying22 in_27 rfl rfl (ixe h23) (ixn h23) (fne (fun x => (GGrant.len x)) (by decide) (ixn h23)))) ?_
                refine r_op rfl rfl (PureD.opD (u_lda rfl rfl Try.underlying27 rfl in_27 rfl (Nat.succ_pos _) (Sub.fm default (fun x => (GGrant.len x)) (ixn h23)) (GGrant.len (lrd l0 t64_1.toNat)))) ?_
                refine r_op rfl rfl (MakeD.opD (u_alloc 12 rfl in_27 one_27 zc_27) rfl rfl rfl rfl) ?_
                refine r_op rfl rfl (u_st rfl rfl rfl rfl rfl in_27 (GGrant.len (lrd l0 t64_1.toNat)) (ne_of_lt (n := 0) (Nat.lt_of_lt_of_eq (by decide) (Eq.symm (GGrant.len GGrant.zero)))) (Upd.refl ((GGrant.len (lrd l0 t64_1.toNat)).trans (GGrant.len GGrant.zero).symm))) ?_
                refine RunW_st [(3, .c (.ptr 3 (0))), (8, .c (.own 8 out8_1.length 5)), (12, .c (.ptr 12 (0))), (62, .c (.p ((fun q : List GGrant => AV.lst (q.flatMap GGrant.cs) q.length) l0))), (63, .c (.p (AV.int (l0.length : Int)))), (64, .c (.p (AV.int t64_1)))] [(3, .pure (GGrant.cs y'13.1)), (8, .pure (out8_1.flatMap GGrant.cs)), (12, .pure (GGrant.cs (lrd l0 t64_1.toNat)))] rfl ⟨TLes.same _, TLes.same _, TLes.same _, TLes.same _, TLes.same _, TLes.same _, trivial⟩ ⟨rfl, rfl, rfl, trivial⟩ ?_
                refine RunW_nil ?_
                refine AW2_seq ?_
                refine bindK H fun r'15 h24 H => ?_
                refine bindK H fun r'16 h25 H => ?_
                refine AW2_ghoQ ?_
                refine AW2_draw 3 [3, 4] (fun k => ([.c (.p (.agg (GGrant.cs (lrd l0 t64_1.toNat)))), .c (.p (AV.int r'15)), .c (.p (.agg (GGrant.cs y'13.1)))] : List TV).getD k TV.any) (fun k => ([[(12, none)], [(68, some 0)], [(3, none)]] : List (List (Nat × Option Nat))).getD k []) [(3, none), (8, none), (12, none), (62, none), (63, none), (64, none), (69, some 1), (70, some 2)] [] (fun k => ([[], [0], [], [0, 1, 2], [0, 1, 2, 3]] : List (List Nat)).getD k []) mixed (by kernel_rfl) rfl rfl (a_op (g_x rfl (x_p rfl (u_lda rfl rfl Try.underlying27 rfl in_27 rfl (Nat.succ_pos _) (Sub.refl _) (GGrant.len (lrd l0 t64_1.toNat))) rfl)) (a_op (g_x rfl (x_p rfl (p_callp rfl rfl rfl Try.func24 rfl rfl (g_ref_rank_ac h24) ⟨rfl, trivial⟩) rfl)) (a_op (g_x rfl (x_p rfl (u_lda rfl rfl Try.underlying27 rfl in_27 rfl (Nat.succ_pos _) (Sub.refl _) (GGrant.len y'13.1)) rfl)) (a_nil)))) ?_
                refine t_op rfl rfl (PureD.opD (p_callp rfl rfl rfl Try.func24 rfl rfl (g_ref_rank_ac h25) ⟨rfl, trivial⟩)) ?_
                refine t_op rfl rfl (PureD.opD (p_bin rfl rfl rfl rfl)) ?_
                refine t_gho (Gho_st (L := [(3, .c (.ptr 3 (0))), (8, .c (.own 8 out8_1.length 5)), (12, .c (.ptr 12 (0))), (62, .c (.p ((fun q : List GGrant => AV.lst (q.flatMap GGrant.cs) q.length) l0))), (63, .c (.p (AV.int (l0.length : Int)))), (64, .c (.p (AV.int t64_1))), (72, .c (.p (.bool (decide (r'15 > r'16)))))]) (H := [(3, .pure (GGrant.cs y'13.1)), (8, .pure (out8_1.flatMap GGrant.cs)), (12, .pure (GGrant.cs (lrd l0 t64_1.toNat)))]) rfl ⟨TLes.same _, TLes.same _, TLes.same _, TLes.same _, TLes.same _, TLes.same _, TLes.same _, trivial⟩ ⟨rfl, rfl, rfl, trivial⟩) ?_
                refine AW2_if (p := r'15 > r'16) rfl (fun h26 => ?_) (fun h26 => ?_)
                · replace H := ite_then h26 H
                  refine AW2_reg [0, 1, 2, 3, 4] rfl ?_
                  refine r_op rfl rfl (PureD.opD (p_move rfl rfl)) ?_
                  refine r_op rfl rfl (PureD.opD (u_lda rfl rfl Try.underlying27 rfl in_27 rfl (Nat.succ_pos _) (Sub.refl _) (GGrant.len (lrd l0 t64_1.toNat)))) ?_
                  refine r_op rfl rfl (MakeD.opD (u_bs 75 rfl Try.underlying22 in_27 rfl one_27 (by decide) (by decide) rfl rfl rfl) rfl rfl rfl rfl) ?_
                  refine chkK H fun h27 H => ?_
                  refine r_op rfl rfl (u_app [8, 73] rfl rfl rfl rfl Try.underlying22 Try.underlying22 in_27 rfl rfl rfl (fm_length (fun x => (GGrant.len x)) out8_1) (by decide) (srcT_o rfl rfl (fm_length (fun x => (GGrant.len x)) ([(lrd l0 t64_1.toNat)] : List GGrant)) (by decide)) (fm_length (fun x => (GGrant.len x)) ([(lrd l0 t64_1.toNat)] : List GGrant)) h27 (by decide) rfl rfl (fapp GGrant.cs out8_1 ([(lrd l0 t64_1.toNat)] : List GGrant)) (lapp out8_1 ([(lrd l0 t64_1.toNat)] : List GGrant))) ?_
                  refine r_op rfl rfl (PureD.opD (p_asg rfl rfl)) ?_
                  refine RunW_st [(3, .c (.ptr 3 (0))), (8, .c (.own 8 (out8_1 ++ ([(lrd l0 t64_1.toNat)] : List GGrant)).length 5)), (62, .c (.p ((fun q : List GGrant => AV.lst (q.flatMap GGrant.cs) q.length) l0))), (63, .c (.p (AV.int (l0.length : Int)))), (64, .c (.p (AV.int t64_1)))] [(3, .pure (GGrant.cs y'13.1)), (8, .pure ((out8_1 ++ ([(lrd l0 t64_1.toNat)] : List GGrant)).flatMap GGrant.cs))] rfl ⟨TLes.same _, TLes.same _, TLes.same _, TLes.same _, TLes.same _, trivial⟩ ⟨rfl, rfl, trivial⟩ ?_
                  refine RunW_nil ?_
                  have hz := some_elim H
                  subst hz
                  exact rfl
                · replace H := ite_else h26 H
                  refine AW2_st [(3, .c (.ptr 3 (0))), (8, .c (.own 8 out8_1.length 5)), (62, .c (.p ((fun q : List GGrant => AV.lst (q.flatMap GGrant.cs) q.length) l0))), (63, .c (.p (AV.int (l0.length : Int)))), (64, .c (.p (AV.int t64_1)))] [(3, .pure (GGrant.cs y'13.1)), (8, .pure (out8_1.flatMap GGrant.cs))] rfl ⟨TLes.same _, TLes.same _, TLes.same _, TLes.same _, TLes.same _, trivial⟩ ⟨rfl, rfl, trivial⟩ ?_
                  refine AW2_skip ?_
                  have hz := some_elim H
                  subst hz
                  exact rfl
              · refine AW2_reg [0, 1] rfl ?_
                refine r_op rfl rfl (PureD.opD (p_bin rfl rfl rfl rfl)) ?_
                refine r_op rfl rfl (PureD.opD (p_move rfl rfl)) ?_
                refine RunW_st [(3, .c (.ptr 3 (0))), (8, .c (.own 8 j'14.length 5)), (62, .c (.p ((fun q : List GGrant => AV.lst (q.flatMap GGrant.cs) q.length) l0))), (63, .c (.p (AV.int (l0.length : Int)))), (64, .c (.p (AV.int (w64 (t64_1 + (1 : Int))))))] [(3, .pure (GGrant.cs y'13.1)), (8, .pure (j'14.flatMap GGrant.cs))] rfl ⟨TLes.same _, TLes.same _, TLes.same _, TLes.same _, TLes.same _, trivial⟩ ⟨rfl, rfl, trivial⟩ ?_
                refine RunW_nil ?_
                have hz := some_elim H
                subst hz
                exact ⟨rfl, rfl⟩
            · replace H := ite_else h21 H
              refine AW2_st [(8, .c (.own 8 out8_1.length 5))] [(8, .pure (out8_1.flatMap GGrant.cs))] rfl ⟨TLes.same _, trivial⟩ ⟨rfl, trivial⟩ ?_
              refine AW2_exit ?_
              refine thenQ2_exit ?_
              have hz := some_elim H
              subst hz
              exact ⟨rfl, rfl⟩
          · obtain ⟨rfl, rfl⟩ := hs
            refine ⟨by simp, ?_⟩
            refine blockQ2_exit ?_
            refine AW2_seq ?_
            refine AW2_reg [0, 1, 2] rfl ?_
            refine r_op rfl rfl (PureD.opD (p_move rfl rfl)) ?_
            refine r_op rfl rfl (PureD.opD (p_asg rfl rfl)) ?_
            refine r_op rfl rfl (PureD.opD (p_asg rfl rfl)) ?_
            refine RunW_st [(4, .c (.own 8 y'20.length 5)), (5, .c (.p (AV.int (0 : Int))))] [(8, .pure (y'20.flatMap GGrant.cs))] rfl ⟨TLes.same _, TLes.same _, trivial⟩ ⟨rfl, trivial⟩ ?_
            refine RunW_gho (Gho_ren 8 4 rfl rfl rfl rfl rfl) ?_
            refine RunW_st [(4, .c (.own 4 y'20.length 5)), (5, .c (.p (AV.int (0 : Int))))] [(4, .pure (y'20.flatMap GGrant.cs))] rfl ⟨TLes.same _, TLes.same _, trivial⟩ ⟨rfl, trivial⟩ ?_
            refine RunW_nil ?_
            refine AW2_gho (Gho_pubs [4] ⟨rfl, trivial⟩ rfl (fm_length (fun x => (GGrant.len x)) y'20) (by decide)) ?_
            refine AW2_ret ?_
            have hz := some_elim H
            subst hz
            exact ⟨⟨res_tmp (.same _), res_tmp (.same _), trivial⟩, trivial⟩
end Go.Proofs.Ytgbfmldbbnhefaa.VM
