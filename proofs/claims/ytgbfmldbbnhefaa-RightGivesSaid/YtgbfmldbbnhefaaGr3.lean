/- Functions of the program, as they answer, and that their code comes to these answers. -/
import Derived.Test.YtgbfmldbbnhefaaGr2
namespace Go.Proofs.Ytgbfmldbbnhefaa.VM
open Go Go.RowKit

theorem in_46 : Info Try.prog 46 3 3 (.agg #[.bool false, .bool false, .bool false]) := by unfold Info; kernel_rfl
theorem one_46 : (.agg #[.bool false, .bool false, .bool false] : Value).cells.all (·.oneCell') = true := by kernel_rfl
theorem zc_46 : ((.agg #[.bool false, .bool false, .bool false] : Value).cells.toList.map zcell) = ((Vector.replicate 3 false).toList).map AV.bool := by rfl

/-! chirographref.grantBounds -/
noncomputable def g_ref_grantBounds (g0 : GGrant) : Option (Int) :=
  ((g_ref_grantBounds_1 g0.From (3 : Int)).bind fun r'3 => (if (!r'3) = true then some true else (g_ref_grantBounds_1 g0.To (3 : Int)).bind fun r'4 => (if (!r'4) = true then some true else (g_ref_grantBounds_1 g0.Object (12 : Int)).bind fun r'5 => some (!r'5)))).bind fun g'6 => (if g'6 = true then some (6 : Int) else (if (g0.Right ≠ (1 : Int)) ∧ (g0.Right ≠ (2 : Int)) then some (2 : Int) else ((if g0.From = g0.To then some true else (g_ref_Owner g0.Object).bind fun r'7 => some (decide (g0.To = r'7)))).bind fun g'8 => (if g'8 = true then some (3 : Int) else some (0 : Int))))
set_option maxHeartbeats 4000000 in
set_option maxRecDepth 100000 in
theorem g_ref_grantBounds_ac {g0 : GGrant} {r : Int} (H : g_ref_grantBounds g0 = some r) : ACp Try.prog 23 [(.agg (GGrant.cs g0))] (AV.int r) := by
  refine ACp_of (AC2_of_body (vs := [.c (.p (AV.int r))]) Try.func23 rfl rfl (Nat.le_of_ble_eq_true rfl) rfl ?_) (fun _ => .same _)
  unfold g_ref_grantBounds at H
  refine AW2_st [(0, .c (.p (.agg (GGrant.cs g0))))] [] rfl ⟨TLes.same _, trivial⟩ trivial ?_
  refine AW2_seq ?_
  refine AW2_reg [0, 1] rfl ?_
  refine r_op rfl rfl (MakeD.opD (n_box 1 rfl rfl) rfl rfl rfl rfl) ?_
  refine r_op rfl rfl (PureD.opD (p_asg rfl rfl)) ?_
  refine RunW_st [(1, .c (.ptr 1 (0)))] [(1, .pure (GGrant.cs g0))] rfl ⟨TLes.same _, trivial⟩ ⟨rfl, trivial⟩ ?_
  refine RunW_nil ?_
  refine AW2_seq ?_
  refine AW2_reg [0] rfl ?_
  refine r_op rfl rfl (PureD.opD (p_asg rfl rfl)) ?_
  refine RunW_st [(1, .c (.ptr 1 (0))), (3, .clo 32 [])] [(1, .pure (GGrant.cs g0))] rfl ⟨TLes.same _, TLes.same _, trivial⟩ ⟨rfl, trivial⟩ ?_
  refine RunW_nil ?_
  refine AW2_seq ?_
  refine AW2_block ?_
  refine AW2_seq ?_
  refine bindK H fun g'6 h8 H => ?_
  refine AW2_mid (⟨[(1, .c (.ptr 1 (0))), (4, .c (.p (AV.bool g'6)))], [(1, .pure (GGrant.cs g0))], 47⟩ : TS) ?_ ?_
  · clear H
    have H := h8
    clear h8
    refine AW2_reg [0, 1, 2, 3, 4, 5, 6, 7, 8, 9, 10, 11, 12, 13, 14, 15, 16, 17, 18, 19] rfl ?_
    refine r_op rfl rfl (PureD.opD (p_move rfl rfl)) ?_
    refine r_op rfl rfl (PureD.opD (u_fa rfl rfl Try.underlying27 rfl in_3 (Nat.succ_ne_zero _) rfl rfl (ne_of_lt (n := 0) (Nat.lt_of_lt_of_eq (by decide) (Eq.symm (GGrant.len g0)))))) ?_
    refine r_op rfl rfl (PureD.opD (u_ld rfl rfl Try.underlying3 rfl rfl ((Sub.refl _).trans (GGrant.sub0 g0)))) ?_
    refine bindK H fun r'3 h3 H => ?_
    refine r_op rfl rfl (PureD.opD (p_callp rfl rfl rfl Try.func32 rfl rfl (g_ref_grantBounds_1_ac h3) ⟨rfl, rfl, trivial⟩)) ?_
    refine r_op rfl rfl (PureD.opD (p_not rfl rfl)) ?_
    refine r_op rfl rfl (PureD.opD (p_move rfl rfl)) ?_
    refine (Classical.em ((!r'3) = true)).elim (fun h4 => ?_) (fun h4 => ?_)
    · replace H := ite_then h4 H
      refine r_off rfl rfl rfl rfl h4 rfl rfl ?_
      refine r_off rfl rfl rfl rfl h4 rfl rfl ?_
      refine r_off rfl rfl rfl rfl h4 rfl rfl ?_
      refine r_off rfl rfl rfl rfl h4 rfl rfl ?_
      refine r_off rfl rfl rfl rfl h4 rfl rfl ?_
      refine r_op rfl rfl (PureD.opD (p_pkt rfl rfl h4 (.same _))) ?_
      refine r_op rfl rfl (PureD.opD (p_move rfl rfl)) ?_
      refine r_off rfl rfl rfl rfl rfl rfl rfl ?_
      refine r_off rfl rfl rfl rfl rfl rfl rfl ?_
      refine r_off rfl rfl rfl rfl rfl rfl rfl ?_
      refine r_off rfl rfl rfl rfl rfl rfl rfl ?_
      refine r_off rfl rfl rfl rfl rfl rfl rfl ?_
      refine r_op rfl rfl (PureD.opD (p_pkt rfl rfl rfl (.same _))) ?_
      refine r_op rfl rfl (PureD.opD (p_asg rfl rfl)) ?_
      refine RunW_st [(1, .c (.ptr 1 (0))), (4, .c (.p (AV.bool true)))] [(1, .pure (GGrant.cs g0))] rfl ⟨TLes.same _, TLes.same _, trivial⟩ ⟨rfl, trivial⟩ ?_
      have hz := some_elim H
      subst hz
      exact RunW_nil rfl
    · replace H := ite_else h4 H
      refine r_on rfl rfl rfl rfl (bfalse h4) rfl (PureD.opD (p_move rfl rfl)) ?_
      refine r_on rfl rfl rfl rfl (bfalse h4) rfl (PureD.opD (u_fa rfl rfl Try.underlying27 rfl in_3 (Nat.succ_ne_zero _) rfl rfl (ne_of_lt (n := 0) (Nat.lt_of_lt_of_eq (by decide) (Eq.symm (GGrant.len g0)))))) ?_
      refine r_on rfl rfl rfl rfl (bfalse h4) rfl (PureD.opD (u_ld rfl rfl Try.underlying3 rfl rfl ((Sub.refl _).trans (GGrant.sub1 g0)))) ?_
      refine bindK H fun r'4 h5 H => ?_
      refine r_on rfl rfl rfl rfl (bfalse h4) rfl (PureD.opD (p_callp rfl rfl rfl Try.func32 rfl rfl (g_ref_grantBounds_1_ac h5) ⟨rfl, rfl, trivial⟩)) ?_
      refine r_on rfl rfl rfl rfl (bfalse h4) rfl (PureD.opD (p_not rfl rfl)) ?_
      refine r_op rfl rfl (PureD.opD (p_pkf rfl rfl (bfalse h4) (.same _))) ?_
      refine r_op rfl rfl (PureD.opD (p_move rfl rfl)) ?_
      refine (Classical.em ((!r'4) = true)).elim (fun h6 => ?_) (fun h6 => ?_)
      · replace H := ite_then h6 H
        refine r_off rfl rfl rfl rfl h6 rfl rfl ?_
        refine r_off rfl rfl rfl rfl h6 rfl rfl ?_
        refine r_off rfl rfl rfl rfl h6 rfl rfl ?_
        refine r_off rfl rfl rfl rfl h6 rfl rfl ?_
        refine r_off rfl rfl rfl rfl h6 rfl rfl ?_
        refine r_op rfl rfl (PureD.opD (p_pkt rfl rfl h6 (.same _))) ?_
        refine r_op rfl rfl (PureD.opD (p_asg rfl rfl)) ?_
        refine RunW_st [(1, .c (.ptr 1 (0))), (4, .c (.p (AV.bool true)))] [(1, .pure (GGrant.cs g0))] rfl ⟨TLes.same _, TLes.same _, trivial⟩ ⟨rfl, trivial⟩ ?_
        have hz := some_elim H
        subst hz
        exact RunW_nil rfl
      · replace H := ite_else h6 H
        refine r_on rfl rfl rfl rfl (bfalse h6) rfl (PureD.opD (p_move rfl rfl)) ?_
        refine r_on rfl rfl rfl rfl (bfalse h6) rfl (PureD.opD (u_fa rfl rfl Try.underlying27 rfl in_3 (Nat.succ_ne_zero _) rfl rfl (ne_of_lt (n := 0) (Nat.lt_of_lt_of_eq (by decide) (Eq.symm (GGrant.len g0)))))) ?_
        refine r_on rfl rfl rfl rfl (bfalse h6) rfl (PureD.opD (u_ld rfl rfl Try.underlying3 rfl rfl ((Sub.refl _).trans (GGrant.sub2 g0)))) ?_
        refine bindK H fun r'5 h7 H => ?_
        refine r_on rfl rfl rfl rfl (bfalse h6) rfl (PureD.opD (p_callp rfl rfl rfl Try.func32 rfl rfl (g_ref_grantBounds_1_ac h7) ⟨rfl, rfl, trivial⟩)) ?_
        refine r_on rfl rfl rfl rfl (bfalse h6) rfl (PureD.opD (p_not rfl rfl)) ?_
        refine r_op rfl rfl (PureD.opD (p_pkf rfl rfl (bfalse h6) (.same _))) ?_
        refine r_op rfl rfl (PureD.opD (p_asg rfl rfl)) ?_
        refine RunW_st [(1, .c (.ptr 1 (0))), (4, .c (.p (AV.bool (!r'5))))] [(1, .pure (GGrant.cs g0))] rfl ⟨TLes.same _, TLes.same _, trivial⟩ ⟨rfl, trivial⟩ ?_
        have hz := some_elim H
        subst hz
        exact RunW_nil rfl
  · refine AW2_cond rfl (fun h9 => ?_) (fun h9 => ?_)
    · replace H := ite_then h9 H
      refine AW2_seq ?_
      refine AW2_reg [0] rfl ?_
      refine r_op rfl rfl (PureD.opD (p_asg rfl rfl)) ?_
      refine RunW_st [(2, .c (.p (AV.int (6 : Int))))] [] rfl ⟨TLes.same _, trivial⟩ trivial ?_
      refine RunW_nil ?_
      refine AW2_ret ?_
      have hz := some_elim H
      subst hz
      exact ⟨⟨res_tmp (.same _), trivial⟩, trivial⟩
    · replace H := ite_else (ne_true h9) H
      refine AW2_seq ?_
      refine AW2_mid (⟨[(1, .c (.ptr 1 (0))), (24, .c (.p (.bool (decide ((g0.Right ≠ (1 : Int)) ∧ (g0.Right ≠ (2 : Int)))))))], [(1, .pure (GGrant.cs g0))], 47⟩ : TS) ?_ ?_
      · refine AW2_reg [0, 1, 2, 3, 4, 5, 6, 7, 8] rfl ?_
        refine r_op rfl rfl (PureD.opD (u_fa rfl rfl Try.underlying27 rfl in_3 (Nat.succ_ne_zero _) rfl rfl (ne_of_lt (n := 0) (Nat.lt_of_lt_of_eq (by decide) (Eq.symm (GGrant.len g0)))))) ?_
        refine r_op rfl rfl (PureD.opD (u_ld rfl rfl Try.underlying3 rfl rfl ((Sub.refl _).trans (GGrant.sub3 g0)))) ?_
        refine r_op rfl rfl (PureD.opD (p_ine rfl rfl rfl)) ?_
        refine r_op rfl rfl (PureD.opD (p_move rfl rfl)) ?_
        refine (Classical.em (g0.Right ≠ (1 : Int))).elim (fun h10 => ?_) (fun h10 => ?_)
        · refine r_on rfl rfl rfl rfl (decide_eq_true (p := g0.Right ≠ (1 : Int)) h10) rfl (PureD.opD (u_fa rfl rfl Try.underlying27 rfl in_3 (Nat.succ_ne_zero _) rfl rfl (ne_of_lt (n := 0) (Nat.lt_of_lt_of_eq (by decide) (Eq.symm (GGrant.len g0)))))) ?_
          refine r_on rfl rfl rfl rfl (decide_eq_true (p := g0.Right ≠ (1 : Int)) h10) rfl (PureD.opD (u_ld rfl rfl Try.underlying3 rfl rfl ((Sub.refl _).trans (GGrant.sub3 g0)))) ?_
          refine r_on rfl rfl rfl rfl (decide_eq_true (p := g0.Right ≠ (1 : Int)) h10) rfl (PureD.opD (p_ine rfl rfl rfl)) ?_
          refine r_op rfl rfl (PureD.opD (p_pkt rfl rfl (decide_eq_true (p := g0.Right ≠ (1 : Int)) h10) (tb ((and_l (p := g0.Right ≠ (1 : Int)) (q := g0.Right ≠ (2 : Int)) h10))))) ?_
          refine r_op rfl rfl (PureD.opD (p_asg rfl rfl)) ?_
          refine RunW_st [(1, .c (.ptr 1 (0))), (24, .c (.p (.bool (decide ((g0.Right ≠ (1 : Int)) ∧ (g0.Right ≠ (2 : Int)))))))] [(1, .pure (GGrant.cs g0))] rfl ⟨TLes.same _, TLes.same _, trivial⟩ ⟨rfl, trivial⟩ ?_
          exact RunW_nil rfl
        · refine r_off rfl rfl rfl rfl (decide_eq_false (p := g0.Right ≠ (1 : Int)) h10) rfl rfl ?_
          refine r_off rfl rfl rfl rfl (decide_eq_false (p := g0.Right ≠ (1 : Int)) h10) rfl rfl ?_
          refine r_off rfl rfl rfl rfl (decide_eq_false (p := g0.Right ≠ (1 : Int)) h10) rfl rfl ?_
          refine r_op rfl rfl (PureD.opD (p_pkf rfl rfl (decide_eq_false (p := g0.Right ≠ (1 : Int)) h10) (tb (decide_eq_false (p := (g0.Right ≠ (1 : Int)) ∧ (g0.Right ≠ (2 : Int))) (fun x => h10 x.1)).symm))) ?_
          refine r_op rfl rfl (PureD.opD (p_asg rfl rfl)) ?_
          refine RunW_st [(1, .c (.ptr 1 (0))), (24, .c (.p (.bool (decide ((g0.Right ≠ (1 : Int)) ∧ (g0.Right ≠ (2 : Int)))))))] [(1, .pure (GGrant.cs g0))] rfl ⟨TLes.same _, TLes.same _, trivial⟩ ⟨rfl, trivial⟩ ?_
          exact RunW_nil rfl
      · refine AW2_if (p := (g0.Right ≠ (1 : Int)) ∧ (g0.Right ≠ (2 : Int))) rfl (fun h11 => ?_) (fun h11 => ?_)
        · replace H := ite_then h11 H
          refine AW2_seq ?_
          refine AW2_reg [0] rfl ?_
          refine r_op rfl rfl (PureD.opD (p_asg rfl rfl)) ?_
          refine RunW_st [(2, .c (.p (AV.int (2 : Int))))] [] rfl ⟨TLes.same _, trivial⟩ trivial ?_
          refine RunW_nil ?_
          refine AW2_ret ?_
          have hz := some_elim H
          subst hz
          exact ⟨⟨res_tmp (.same _), trivial⟩, trivial⟩
        · replace H := ite_else h11 H
          refine AW2_seq ?_
          refine bindK H fun g'8 h14 H => ?_
          refine AW2_mid (⟨[(33, .c (.p (AV.bool g'8)))], [], 47⟩ : TS) ?_ ?_
          · clear H
            have H := h14
            clear h14
            refine (Classical.em (g0.From = g0.To)).elim (fun h12 => ?_) (fun h12 => ?_)
            · replace H := ite_then h12 H
              have hz := some_elim H
              subst hz
              refine AW2_ghoQ ?_
              refine AW2_draw 11 [11, 12, 13] (fun k => ([.c (.ptr 1 (0 + 0)), .c (.p (AV.int g0.From)), .c (.ptr 1 (0 + 1)), .c (.p (AV.int g0.To)), .c (.p (.bool (decide (g0.From = g0.To)))), .c (.p (.bool (decide (g0.From = g0.To)))), .c (.p (.tup [])), .c (.p (.tup [])), .c (.p (.tup [])), .c (.p (.tup [])), .c (.p (.tup []))] : List TV).getD k TV.any) (fun k => ([[(1, none)], [(34, some 0)], [(1, none)], [(36, some 2)], [(35, some 1), (37, some 3)], [(38, some 4)], [(1, none), (39, some 5)], [(39, some 5), (40, some 6)], [(1, none), (39, some 5)], [(39, some 5), (42, some 8)], [(39, some 5), (43, some 9)]] : List (List (Nat × Option Nat))).getD k []) [(39, some 5), (41, some 7), (44, some 10)] [] (fun k => ([[], [0], [], [2], [0, 1, 2, 3], [0, 1, 2, 3, 4], [0, 1, 2, 3, 4, 5], [0, 1, 2, 3, 4, 5, 6], [0, 1, 2, 3, 4, 5], [0, 1, 2, 3, 4, 5, 8], [0, 1, 2, 3, 4, 5, 8, 9], [0, 1, 2, 3, 4, 5, 6, 7, 8, 9, 10], [0, 1, 2, 3, 4, 5, 6, 7, 8, 9, 10, 11], [0, 1, 2, 3, 4, 5, 6, 7, 8, 9, 10, 11, 12]] : List (List Nat)).getD k []) mixed (by kernel_rfl) rfl rfl (a_op (g_x rfl (x_p rfl (u_fa rfl rfl Try.underlying27 rfl in_3 (Nat.succ_ne_zero _) rfl rfl (ne_of_lt (n := 0) (Nat.lt_of_lt_of_eq (by decide) (Eq.symm (GGrant.len g0))))) rfl)) (a_op (g_x rfl (x_p rfl (u_ld rfl rfl Try.underlying3 rfl rfl ((Sub.refl _).trans (GGrant.sub0 g0))) rfl)) (a_op (g_x rfl (x_p rfl (u_fa rfl rfl Try.underlying27 rfl in_3 (Nat.succ_ne_zero _) rfl rfl (ne_of_lt (n := 0) (Nat.lt_of_lt_of_eq (by decide) (Eq.symm (GGrant.len g0))))) rfl)) (a_op (g_x rfl (x_p rfl (u_ld rfl rfl Try.underlying3 rfl rfl ((Sub.refl _).trans (GGrant.sub1 g0))) rfl)) (a_op (g_x rfl (x_p rfl (p_ieq rfl rfl rfl) rfl)) (a_op (g_x rfl (x_p rfl (p_move rfl rfl) rfl)) (a_op (g_off rfl rfl rfl rfl rfl (decide_eq_true (p := g0.From = g0.To) h12) rfl rfl) (a_op (g_off rfl rfl rfl rfl rfl (decide_eq_true (p := g0.From = g0.To) h12) rfl rfl) (a_op (g_off rfl rfl rfl rfl rfl (decide_eq_true (p := g0.From = g0.To) h12) rfl rfl) (a_op (g_off rfl rfl rfl rfl rfl (decide_eq_true (p := g0.From = g0.To) h12) rfl rfl) (a_op (g_off rfl rfl rfl rfl rfl (decide_eq_true (p := g0.From = g0.To) h12) rfl rfl) (a_nil)))))))))))) ?_
              refine t_off rfl rfl rfl rfl (decide_eq_true (p := g0.From = g0.To) h12) rfl rfl ?_
              refine t_op rfl rfl (PureD.opD (p_pkt rfl rfl (decide_eq_true (p := g0.From = g0.To) h12) (.same _))) ?_
              refine t_op rfl rfl (PureD.opD (p_asg rfl rfl)) ?_
              exact t_gho (Gho_st (L := [(33, .c (.p (AV.bool true)))]) (H := []) rfl ⟨TLes.same _, trivial⟩ trivial) rfl
            · replace H := ite_else h12 H
              refine bindK H fun r'7 h13 H => ?_
              have hz := some_elim H
              subst hz
              refine AW2_ghoQ ?_
              refine AW2_draw 11 [11, 12, 13] (fun k => ([.c (.ptr 1 (0 + 0)), .c (.p (AV.int g0.From)), .c (.ptr 1 (0 + 1)), .c (.p (AV.int g0.To)), .c (.p (.bool (decide (g0.From = g0.To)))), .c (.p (.bool (decide (g0.From = g0.To)))), .c (.ptr 1 (0 + 1)), .c (.p (AV.int g0.To)), .c (.ptr 1 (0 + 2)), .c (.p (AV.int g0.Object)), .c (.p (AV.int r'7))] : List TV).getD k TV.any) (fun k => ([[(1, none)], [(34, some 0)], [(1, none)], [(36, some 2)], [(35, some 1), (37, some 3)], [(38, some 4)], [(1, none), (39, some 5)], [(39, some 5), (40, some 6)], [(1, none), (39, some 5)], [(39, some 5), (42, some 8)], [(39, some 5), (43, some 9)]] : List (List (Nat × Option Nat))).getD k []) [(39, some 5), (41, some 7), (44, some 10)] [] (fun k => ([[], [0], [], [2], [0, 1, 2, 3], [0, 1, 2, 3, 4], [0, 1, 2, 3, 4, 5], [0, 1, 2, 3, 4, 5, 6], [0, 1, 2, 3, 4, 5], [0, 1, 2, 3, 4, 5, 8], [0, 1, 2, 3, 4, 5, 8, 9], [0, 1, 2, 3, 4, 5, 6, 7, 8, 9, 10], [0, 1, 2, 3, 4, 5, 6, 7, 8, 9, 10, 11], [0, 1, 2, 3, 4, 5, 6, 7, 8, 9, 10, 11, 12]] : List (List Nat)).getD k []) mixed (by kernel_rfl) rfl rfl (a_op (g_x rfl (x_p rfl (u_fa rfl rfl Try.underlying27 rfl in_3 (Nat.succ_ne_zero _) rfl rfl (ne_of_lt (n := 0) (Nat.lt_of_lt_of_eq (by decide) (Eq.symm (GGrant.len g0))))) rfl)) (a_op (g_x rfl (x_p rfl (u_ld rfl rfl Try.underlying3 rfl rfl ((Sub.refl _).trans (GGrant.sub0 g0))) rfl)) (a_op (g_x rfl (x_p rfl (u_fa rfl rfl Try.underlying27 rfl in_3 (Nat.succ_ne_zero _) rfl rfl (ne_of_lt (n := 0) (Nat.lt_of_lt_of_eq (by decide) (Eq.symm (GGrant.len g0))))) rfl)) (a_op (g_x rfl (x_p rfl (u_ld rfl rfl Try.underlying3 rfl rfl ((Sub.refl _).trans (GGrant.sub1 g0))) rfl)) (a_op (g_x rfl (x_p rfl (p_ieq rfl rfl rfl) rfl)) (a_op (g_x rfl (x_p rfl (p_move rfl rfl) rfl)) (a_op (g_on rfl rfl rfl (decide_eq_false (p := g0.From = g0.To) h12) rfl (x_p rfl (u_fa rfl rfl Try.underlying27 rfl in_3 (Nat.succ_ne_zero _) rfl rfl (ne_of_lt (n := 0) (Nat.lt_of_lt_of_eq (by decide) (Eq.symm (GGrant.len g0))))) rfl)) (a_op (g_on rfl rfl rfl (decide_eq_false (p := g0.From = g0.To) h12) rfl (x_p rfl (u_ld rfl rfl Try.underlying3 rfl rfl ((Sub.refl _).trans (GGrant.sub1 g0))) rfl)) (a_op (g_on rfl rfl rfl (decide_eq_false (p := g0.From = g0.To) h12) rfl (x_p rfl (u_fa rfl rfl Try.underlying27 rfl in_3 (Nat.succ_ne_zero _) rfl rfl (ne_of_lt (n := 0) (Nat.lt_of_lt_of_eq (by decide) (Eq.symm (GGrant.len g0))))) rfl)) (a_op (g_on rfl rfl rfl (decide_eq_false (p := g0.From = g0.To) h12) rfl (x_p rfl (u_ld rfl rfl Try.underlying3 rfl rfl ((Sub.refl _).trans (GGrant.sub2 g0))) rfl)) (a_op (g_on rfl rfl rfl (decide_eq_false (p := g0.From = g0.To) h12) rfl (x_p rfl (p_callp rfl rfl rfl Try.func33 rfl rfl (g_ref_Owner_ac h13) ⟨rfl, trivial⟩) rfl)) (a_nil)))))))))))) ?_
              refine t_on rfl rfl rfl rfl (decide_eq_false (p := g0.From = g0.To) h12) rfl (PureD.opD (p_ieq rfl rfl rfl)) ?_
              refine t_op rfl rfl (PureD.opD (p_pkf rfl rfl (decide_eq_false (p := g0.From = g0.To) h12) (.same _))) ?_
              refine t_op rfl rfl (PureD.opD (p_asg rfl rfl)) ?_
              exact t_gho (Gho_st (L := [(33, .c (.p (.bool (decide (g0.To = r'7)))))]) (H := []) rfl ⟨TLes.same _, trivial⟩ trivial) rfl
          · refine AW2_cond rfl (fun h15 => ?_) (fun h15 => ?_)
            · replace H := ite_then h15 H
              refine AW2_seq ?_
              refine AW2_reg [0] rfl ?_
              refine r_op rfl rfl (PureD.opD (p_asg rfl rfl)) ?_
              refine RunW_st [(2, .c (.p (AV.int (3 : Int))))] [] rfl ⟨TLes.same _, trivial⟩ trivial ?_
              refine RunW_nil ?_
              refine AW2_ret ?_
              have hz := some_elim H
              subst hz
              exact ⟨⟨res_tmp (.same _), trivial⟩, trivial⟩
            · replace H := ite_else (ne_true h15) H
              refine AW2_st [] [] rfl trivial trivial ?_
              refine AW2_skip ?_
              refine AW2_seq ?_
              refine AW2_reg [0] rfl ?_
              refine r_op rfl rfl (PureD.opD (p_asg rfl rfl)) ?_
              refine RunW_st [(2, .c (.p (AV.int (0 : Int))))] [] rfl ⟨TLes.same _, trivial⟩ trivial ?_
              refine RunW_nil ?_
              refine AW2_ret ?_
              have hz := some_elim H
              subst hz
              exact ⟨⟨res_tmp (.same _), trivial⟩, trivial⟩

/-! chirographref.rank -/
noncomputable def g_ref_rank (g0 : GGrant) : Option (Int) :=
  letO (w64 ((w64 ((w64 ((w64 ((w64 ((w64 (g0.Object * (3 : Int))) + g0.Right)) * (3 : Int))) + g0.From)) * (3 : Int))) + g0.To)) fun t2'1 => some t2'1
set_option maxHeartbeats 4000000 in
set_option maxRecDepth 100000 in
theorem g_ref_rank_ac {g0 : GGrant} {r : Int} (H : g_ref_rank g0 = some r) : ACp Try.prog 24 [(.agg (GGrant.cs g0))] (AV.int r) := by
  refine ACp_of (AC2_of_body (vs := [.c (.p (AV.int r))]) Try.func24 rfl rfl (Nat.le_of_ble_eq_true rfl) rfl ?_) (fun _ => .same _)
  unfold g_ref_rank at H
  refine AW2_st [(0, .c (.p (.agg (GGrant.cs g0))))] [] rfl ⟨TLes.same _, trivial⟩ trivial ?_
  refine AW2_seq ?_
  refine AW2_reg [0, 1] rfl ?_
  refine r_op rfl rfl (MakeD.opD (n_box 1 rfl rfl) rfl rfl rfl rfl) ?_
  refine r_op rfl rfl (PureD.opD (p_asg rfl rfl)) ?_
  refine RunW_st [(1, .c (.ptr 1 (0)))] [(1, .pure (GGrant.cs g0))] rfl ⟨TLes.same _, trivial⟩ ⟨rfl, trivial⟩ ?_
  refine RunW_nil ?_
  refine AW2_seq ?_
  refine AW2_reg [0, 1, 2, 3, 4, 5, 6, 7, 8, 9, 10, 11, 12, 13, 14] rfl ?_
  refine r_op rfl rfl (PureD.opD (u_fa rfl rfl Try.underlying27 rfl in_3 (Nat.succ_ne_zero _) rfl rfl (ne_of_lt (n := 0) (Nat.lt_of_lt_of_eq (by decide) (Eq.symm (GGrant.len g0)))))) ?_
  refine r_op rfl rfl (PureD.opD (u_ld rfl rfl Try.underlying3 rfl rfl ((Sub.refl _).trans (GGrant.sub2 g0)))) ?_
  refine r_op rfl rfl (PureD.opD (p_bin rfl rfl rfl rfl)) ?_
  refine r_op rfl rfl (PureD.opD (u_fa rfl rfl Try.underlying27 rfl in_3 (Nat.succ_ne_zero _) rfl rfl (ne_of_lt (n := 0) (Nat.lt_of_lt_of_eq (by decide) (Eq.symm (GGrant.len g0)))))) ?_
  refine r_op rfl rfl (PureD.opD (u_ld rfl rfl Try.underlying3 rfl rfl ((Sub.refl _).trans (GGrant.sub3 g0)))) ?_
  refine r_op rfl rfl (PureD.opD (p_bin rfl rfl rfl rfl)) ?_
  refine r_op rfl rfl (PureD.opD (p_bin rfl rfl rfl rfl)) ?_
  refine r_op rfl rfl (PureD.opD (u_fa rfl rfl Try.underlying27 rfl in_3 (Nat.succ_ne_zero _) rfl rfl (ne_of_lt (n := 0) (Nat.lt_of_lt_of_eq (by decide) (Eq.symm (GGrant.len g0)))))) ?_
  refine r_op rfl rfl (PureD.opD (u_ld rfl rfl Try.underlying3 rfl rfl ((Sub.refl _).trans (GGrant.sub0 g0)))) ?_
  refine r_op rfl rfl (PureD.opD (p_bin rfl rfl rfl rfl)) ?_
  refine r_op rfl rfl (PureD.opD (p_bin rfl rfl rfl rfl)) ?_
  refine r_op rfl rfl (PureD.opD (u_fa rfl rfl Try.underlying27 rfl in_3 (Nat.succ_ne_zero _) rfl rfl (ne_of_lt (n := 0) (Nat.lt_of_lt_of_eq (by decide) (Eq.symm (GGrant.len g0)))))) ?_
  refine r_op rfl rfl (PureD.opD (u_ld rfl rfl Try.underlying3 rfl rfl ((Sub.refl _).trans (GGrant.sub1 g0)))) ?_
  refine r_op rfl rfl (PureD.opD (p_bin rfl rfl rfl rfl)) ?_
  refine r_op rfl rfl (PureD.opD (p_asg rfl rfl)) ?_
  refine RunW_st [(2, .c (.p (AV.int (w64 ((w64 ((w64 ((w64 ((w64 ((w64 (g0.Object * (3 : Int))) + g0.Right)) * (3 : Int))) + g0.From)) * (3 : Int))) + g0.To)))))] [] rfl ⟨TLes.same _, trivial⟩ trivial ?_
  refine RunW_nil ?_
  refine gen1 (fun t2'1 => (⟨[(2, .c (.p (AV.int t2'1)))], [], 17⟩ : TS)) H ?_
  intro t2'1 H
  refine AW2_ret ?_
  have hz := some_elim H
  subst hz
  exact ⟨⟨res_tmp (.same _), trivial⟩, trivial⟩

/-! chirographref.Reached -/
noncomputable def g_ref_Reached_l1 (l0 : List GGrant) (object2 : Int) (right3 : Int) : Int × (Vector Bool 3) → Option ((Int × (Vector Bool 3)) ⊕ (((Vector Bool 3))))
  | (t23_1, in9_1) => (if t23_1 < (l0.length : Int) then (if 0 ≤ t23_1 ∧ t23_1 < (l0.length : Int) then ((if ((lrd l0 t23_1.toNat).Option) = true then (if (lrd l0 t23_1.toNat).Object = object2 then (if (lrd l0 t23_1.toNat).Right = right3 then if 0 ≤ (lrd l0 t23_1.toNat).From ∧ (lrd l0 t23_1.toNat).From < (3 : Int) then some (vrd in9_1 (((lrd l0 t23_1.toNat).From).toNat)) else none else some false) else some false) else some false)).bind fun g'3 => (if g'3 = true then if 0 ≤ (lrd l0 t23_1.toNat).To ∧ (lrd l0 t23_1.toNat).To < (3 : Int) then some (vwr in9_1 (((lrd l0 t23_1.toNat).To).toNat) true) else none else some in9_1) else none).bind fun j'2 => some (.inl (w64 (t23_1 + (1 : Int)), j'2)) else some (.inr in9_1))
noncomputable def g_ref_Reached_l0 (l0 : List GGrant) (object2 : Int) (right3 : Int) : Int × (Vector Bool 3) → Option ((Int × (Vector Bool 3)) ⊕ (((Vector Bool 3))))
  | (i10_0, in9_0) => (if i10_0 < (3 : Int) then (loopO (g_ref_Reached_l1 l0 object2 right3) ((0 : Int), in9_0)).bind fun y'7 => some (.inl (w64 (i10_0 + (1 : Int)), y'7)) else some (.inr in9_0))
noncomputable def g_ref_Reached (l0 : List GGrant) (user1 : Int) (object2 : Int) (right3 : Int) : Option (Bool) :=
  (g_ref_Owner object2).bind fun r'1 => if 0 ≤ r'1 ∧ r'1 < (3 : Int) then (loopO (g_ref_Reached_l0 l0 object2 right3) ((0 : Int), (vwr (Vector.replicate 3 false) r'1.toNat true))).bind fun y'11 => if 0 ≤ user1 ∧ user1 < (3 : Int) then some (vrd y'11 user1.toNat) else none else none
set_option maxHeartbeats 4000000 in
set_option maxRecDepth 100000 in
theorem g_ref_Reached_ac {l0 : List GGrant} {user1 : Int} {object2 : Int} {right3 : Int} {r : Bool} (H : g_ref_Reached l0 user1 object2 right3 = some r) : ACp Try.prog 31 [((fun q : List GGrant => AV.lst (q.flatMap GGrant.cs) q.length) l0), (AV.int user1), (AV.int object2), (AV.int right3)] (AV.bool r) := by
  refine ACp_of (AC2_of_body (vs := [.c (.p (AV.bool r))]) Try.func31 rfl rfl (Nat.le_of_ble_eq_true rfl) rfl ?_) (fun _ => .same _)
  unfold g_ref_Reached at H
  refine AW2_st [(0, .c (.p ((fun q : List GGrant => AV.lst (q.flatMap GGrant.cs) q.length) l0))), (1, .c (.p (AV.int user1))), (2, .c (.p (AV.int object2))), (3, .c (.p (AV.int right3)))] [] rfl ⟨TLes.same _, TLes.same _, TLes.same _, TLes.same _, trivial⟩ trivial ?_
  refine AW2_seq ?_
  refine AW2_reg [0] rfl ?_
  refine r_op rfl rfl (PureD.opD (p_asg rfl rfl)) ?_
  refine RunW_st [(0, .c (.p ((fun q : List GGrant => AV.lst (q.flatMap GGrant.cs) q.length) l0))), (1, .c (.p (AV.int user1))), (2, .c (.p (AV.int object2))), (3, .c (.p (AV.int right3)))] [] rfl ⟨TLes.same _, TLes.same _, TLes.same _, TLes.same _, trivial⟩ trivial ?_
  refine RunW_nil ?_
  refine AW2_seq ?_
  refine AW2_reg [0, 1, 2] rfl ?_
  refine r_op rfl rfl (PureD.opD (u_blda rfl in_46 one_46 zc_46 Try.underlying46 in_4 rfl rfl)) ?_
  refine r_op rfl rfl (MakeD.opD (u_alloc 9 rfl in_46 one_46 zc_46) rfl rfl rfl rfl) ?_
  refine r_op rfl rfl (u_st rfl rfl rfl rfl rfl in_46 (vmap_len (f := AV.bool) (Vector.replicate 3 false)) (ne_of_lt (n := 0) (Nat.lt_of_lt_of_eq (by decide) (Eq.symm (vmap_len (f := AV.bool) (Vector.replicate 3 false))))) (Upd.refl ((vmap_len (f := AV.bool) (Vector.replicate 3 false)).trans (vmap_len (f := AV.bool) (Vector.replicate 3 false)).symm))) ?_
  refine RunW_st [(0, .c (.p ((fun q : List GGrant => AV.lst (q.flatMap GGrant.cs) q.length) l0))), (1, .c (.p (AV.int user1))), (2, .c (.p (AV.int object2))), (3, .c (.p (AV.int right3))), (9, .c (.ptr 9 (0)))] [(9, .pure (((Vector.replicate 3 false).toList).map AV.bool))] rfl ⟨TLes.same _, TLes.same _, TLes.same _, TLes.same _, TLes.same _, trivial⟩ ⟨rfl, trivial⟩ ?_
  refine RunW_nil ?_
  refine AW2_seq ?_
  refine AW2_reg [0, 1, 2, 3] rfl ?_
  refine r_op rfl rfl (PureD.opD (p_move rfl rfl)) ?_
  refine bindK H fun r'1 h1 H => ?_
  refine r_op rfl rfl (PureD.opD (p_callp rfl rfl rfl Try.func33 rfl rfl (g_ref_Owner_ac h1) ⟨rfl, trivial⟩)) ?_
  refine chkK H fun h2 H => ?_
  refine r_op rfl rfl (PureD.opD (u_ixp rfl rfl Try.underlying46 in_4 rfl rfl (ne_of_lt (n := 0) (Nat.lt_of_lt_of_eq (by decide) (Eq.symm (vmap_len (f := AV.bool) (Vector.replicate 3 false))))) rfl (ixe h2) (ixn h2))) ?_
  refine r_op rfl rfl (u_st rfl rfl rfl rfl rfl in_4 rfl (ne_of_lt (n := 0) (Nat.lt_of_lt_of_eq (by decide) (Eq.symm (vmap_len (f := AV.bool) (Vector.replicate 3 false))))) (Upd.trans (Sub.refl _) (Upd.vmap (ixn h2)) (Upd.refl ((vmap_len (f := AV.bool) (vwr (Vector.replicate 3 false) r'1.toNat true)).trans (vmap_len (f := AV.bool) (Vector.replicate 3 false)).symm)))) ?_
  refine RunW_st [(0, .c (.p ((fun q : List GGrant => AV.lst (q.flatMap GGrant.cs) q.length) l0))), (1, .c (.p (AV.int user1))), (2, .c (.p (AV.int object2))), (3, .c (.p (AV.int right3))), (9, .c (.ptr 9 (0)))] [(9, .pure (((vwr (Vector.replicate 3 false) r'1.toNat true).toList).map AV.bool))] rfl ⟨TLes.same _, TLes.same _, TLes.same _, TLes.same _, TLes.same _, trivial⟩ ⟨rfl, trivial⟩ ?_
  refine RunW_nil ?_
  refine AW2_seq ?_
  refine AW2_seq ?_
  refine AW2_reg [0] rfl ?_
  refine r_op rfl rfl (PureD.opD (p_asg rfl rfl)) ?_
  refine RunW_st [(0, .c (.p ((fun q : List GGrant => AV.lst (q.flatMap GGrant.cs) q.length) l0))), (1, .c (.p (AV.int user1))), (2, .c (.p (AV.int object2))), (3, .c (.p (AV.int right3))), (9, .c (.ptr 9 (0))), (10, .c (.p (AV.int (0 : Int))))] [(9, .pure (((vwr (Vector.replicate 3 false) r'1.toNat true).toList).map AV.bool))] rfl ⟨TLes.same _, TLes.same _, TLes.same _, TLes.same _, TLes.same _, TLes.same _, trivial⟩ ⟨rfl, trivial⟩ ?_
  refine RunW_nil ?_
  refine AW2_block ?_
  refine AW2_st [(0, .c (.p ((fun q : List GGrant => AV.lst (q.flatMap GGrant.cs) q.length) l0))), (1, .c (.p (AV.int user1))), (2, .c (.p (AV.int object2))), (3, .c (.p (AV.int right3))), (9, .c (.ptr 9 (0))), (10, .c (.p (AV.int (0 : Int))))] [(9, .pure (((vwr (Vector.replicate 3 false) r'1.toNat true).toList).map AV.bool))] rfl ⟨TLes.same _, TLes.same _, TLes.same _, TLes.same _, TLes.same _, TLes.same _, trivial⟩ ⟨rfl, trivial⟩ ?_
  refine bindK H fun y'11 h17 H => ?_
  refine AW2_loopO (fun a'8 : Int × (Vector Bool 3) => (⟨[(0, .c (.p ((fun q : List GGrant => AV.lst (q.flatMap GGrant.cs) q.length) l0))), (1, .c (.p (AV.int user1))), (2, .c (.p (AV.int object2))), (3, .c (.p (AV.int right3))), (9, .c (.ptr 9 (0))), (10, .c (.p (AV.int a'8.1)))], [(9, .pure (a'8.2.toList.map AV.bool))], 54⟩ : TS)) (fun (y'9 : ((Vector Bool 3))) e s' => e = Go.Exit.exit 0 ∧ s' = (⟨[(1, .c (.p (AV.int user1))), (9, .c (.ptr 9 (0)))], [(9, .pure (y'9.toList.map AV.bool))], 54⟩ : TS)) h17 rfl (fun a x hx => ?_) (fun e s' hs => ?_)
  · clear H
    obtain ⟨i10_0, in9_0⟩ := a
    have H := hx
    clear hx
    unfold g_ref_Reached_l0 at H
    refine AW2_seq ?_
    refine AW2_seq ?_
    refine AW2_reg [0, 1] rfl ?_
    refine r_op rfl rfl (PureD.opD (p_move rfl rfl)) ?_
    refine r_op rfl rfl (PureD.opD (p_bin rfl rfl rfl rfl)) ?_
    refine RunW_st [(0, .c (.p ((fun q : List GGrant => AV.lst (q.flatMap GGrant.cs) q.length) l0))), (1, .c (.p (AV.int user1))), (2, .c (.p (AV.int object2))), (3, .c (.p (AV.int right3))), (9, .c (.ptr 9 (0))), (10, .c (.p (AV.int i10_0))), (18, .c (.p (.bool (decide (i10_0 < (3 : Int))))))] [(9, .pure (in9_0.toList.map AV.bool))] rfl ⟨TLes.same _, TLes.same _, TLes.same _, TLes.same _, TLes.same _, TLes.same _, TLes.same _, trivial⟩ ⟨rfl, trivial⟩ ?_
    refine RunW_nil ?_
    refine AW2_if (p := i10_0 < (3 : Int)) rfl (fun h3 => ?_) (fun h3 => ?_)
    · replace H := ite_then h3 H
      refine AW2_st [(0, .c (.p ((fun q : List GGrant => AV.lst (q.flatMap GGrant.cs) q.length) l0))), (1, .c (.p (AV.int user1))), (2, .c (.p (AV.int object2))), (3, .c (.p (AV.int right3))), (9, .c (.ptr 9 (0))), (10, .c (.p (AV.int i10_0)))] [(9, .pure (in9_0.toList.map AV.bool))] rfl ⟨TLes.same _, TLes.same _, TLes.same _, TLes.same _, TLes.same _, TLes.same _, trivial⟩ ⟨rfl, trivial⟩ ?_
      refine AW2_skip ?_
      refine AW2_seq ?_
      refine AW2_block ?_
      refine AW2_seq ?_
      refine AW2_reg [0, 1, 2] rfl ?_
      refine r_op rfl rfl (PureD.opD (p_move rfl rfl)) ?_
      refine r_op rfl rfl (PureD.opD (p_lenl rfl Try.underlying22 rfl rfl)) ?_
      refine r_op rfl rfl (PureD.opD (p_move rfl rfl)) ?_
      refine RunW_st [(0, .c (.p ((fun q : List GGrant => AV.lst (q.flatMap GGrant.cs) q.length) l0))), (1, .c (.p (AV.int user1))), (2, .c (.p (AV.int object2))), (3, .c (.p (AV.int right3))), (9, .c (.ptr 9 (0))), (10, .c (.p (AV.int i10_0))), (21, .c (.p ((fun q : List GGrant => AV.lst (q.flatMap GGrant.cs) q.length) l0))), (22, .c (.p (AV.int (l0.length : Int)))), (23, .c (.p (AV.int (0 : Int))))] [(9, .pure (in9_0.toList.map AV.bool))] rfl ⟨TLes.same _, TLes.same _, TLes.same _, TLes.same _, TLes.same _, TLes.same _, TLes.same _, TLes.same _, TLes.same _, trivial⟩ ⟨rfl, trivial⟩ ?_
      refine RunW_nil ?_
      refine AW2_block ?_
      refine AW2_st [(0, .c (.p ((fun q : List GGrant => AV.lst (q.flatMap GGrant.cs) q.length) l0))), (1, .c (.p (AV.int user1))), (2, .c (.p (AV.int object2))), (3, .c (.p (AV.int right3))), (9, .c (.ptr 9 (0))), (10, .c (.p (AV.int i10_0))), (21, .c (.p ((fun q : List GGrant => AV.lst (q.flatMap GGrant.cs) q.length) l0))), (22, .c (.p (AV.int (l0.length : Int)))), (23, .c (.p (AV.int (0 : Int))))] [(9, .pure (in9_0.toList.map AV.bool))] rfl ⟨TLes.same _, TLes.same _, TLes.same _, TLes.same _, TLes.same _, TLes.same _, TLes.same _, TLes.same _, TLes.same _, trivial⟩ ⟨rfl, trivial⟩ ?_
      refine bindK H fun y'7 h16 H => ?_
      refine AW2_loopO (fun a'4 : Int × (Vector Bool 3) => (⟨[(0, .c (.p ((fun q : List GGrant => AV.lst (q.flatMap GGrant.cs) q.length) l0))), (1, .c (.p (AV.int user1))), (2, .c (.p (AV.int object2))), (3, .c (.p (AV.int right3))), (9, .c (.ptr 9 (0))), (10, .c (.p (AV.int i10_0))), (21, .c (.p ((fun q : List GGrant => AV.lst (q.flatMap GGrant.cs) q.length) l0))), (22, .c (.p (AV.int (l0.length : Int)))), (23, .c (.p (AV.int a'4.1)))], [(9, .pure (a'4.2.toList.map AV.bool))], 54⟩ : TS)) (fun (y'5 : ((Vector Bool 3))) e s' => e = Go.Exit.exit 2 ∧ s' = (⟨[(0, .c (.p ((fun q : List GGrant => AV.lst (q.flatMap GGrant.cs) q.length) l0))), (1, .c (.p (AV.int user1))), (2, .c (.p (AV.int object2))), (3, .c (.p (AV.int right3))), (9, .c (.ptr 9 (0))), (10, .c (.p (AV.int i10_0)))], [(9, .pure (y'5.toList.map AV.bool))], 54⟩ : TS)) h16 rfl (fun a x hx => ?_) (fun e s' hs => ?_)
      · clear H
        obtain ⟨t23_1, in9_1⟩ := a
        have H := hx
        clear hx
        unfold g_ref_Reached_l1 at H
        refine AW2_seq ?_
        refine AW2_reg [0] rfl ?_
        refine r_op rfl rfl (PureD.opD (p_bin rfl rfl rfl rfl)) ?_
        refine RunW_st [(0, .c (.p ((fun q : List GGrant => AV.lst (q.flatMap GGrant.cs) q.length) l0))), (1, .c (.p (AV.int user1))), (2, .c (.p (AV.int object2))), (3, .c (.p (AV.int right3))), (9, .c (.ptr 9 (0))), (10, .c (.p (AV.int i10_0))), (21, .c (.p ((fun q : List GGrant => AV.lst (q.flatMap GGrant.cs) q.length) l0))), (22, .c (.p (AV.int (l0.length : Int)))), (23, .c (.p (AV.int t23_1))), (24, .c (.p (.bool (decide (t23_1 < (l0.length : Int))))))] [(9, .pure (in9_1.toList.map AV.bool))] rfl ⟨TLes.same _, TLes.same _, TLes.same _, TLes.same _, TLes.same _, TLes.same _, TLes.same _, TLes.same _, TLes.same _, TLes.same _, trivial⟩ ⟨rfl, trivial⟩ ?_
        refine RunW_nil ?_
        refine AW2_seq ?_
        refine AW2_if (p := t23_1 < (l0.length : Int)) rfl (fun h4 => ?_) (fun h4 => ?_)
        · replace H := ite_then h4 H
          refine AW2_st [(0, .c (.p ((fun q : List GGrant => AV.lst (q.flatMap GGrant.cs) q.length) l0))), (1, .c (.p (AV.int user1))), (2, .c (.p (AV.int object2))), (3, .c (.p (AV.int right3))), (9, .c (.ptr 9 (0))), (10, .c (.p (AV.int i10_0))), (21, .c (.p ((fun q : List GGrant => AV.lst (q.flatMap GGrant.cs) q.length) l0))), (22, .c (.p (AV.int (l0.length : Int)))), (23, .c (.p (AV.int t23_1)))] [(9, .pure (in9_1.toList.map AV.bool))] rfl ⟨TLes.same _, TLes.same _, TLes.same _, TLes.same _, TLes.same _, TLes.same _, TLes.same _, TLes.same _, TLes.same _, trivial⟩ ⟨rfl, trivial⟩ ?_
          refine AW2_skip ?_
          refine AW2_seq ?_
          refine bindK H fun j'2 h5 H => ?_
          refine AW2_mid (⟨[(0, .c (.p ((fun q : List GGrant => AV.lst (q.flatMap GGrant.cs) q.length) l0))), (1, .c (.p (AV.int user1))), (2, .c (.p (AV.int object2))), (3, .c (.p (AV.int right3))), (9, .c (.ptr 9 (0))), (10, .c (.p (AV.int i10_0))), (21, .c (.p ((fun q : List GGrant => AV.lst (q.flatMap GGrant.cs) q.length) l0))), (22, .c (.p (AV.int (l0.length : Int)))), (23, .c (.p (AV.int t23_1)))], [(9, .pure (j'2.toList.map AV.bool))], 54⟩ : TS) ?_ ?_
          · clear H
            have H := h5
            clear h5
            refine AW2_block ?_
            refine AW2_seq ?_
            refine AW2_reg [0, 1, 2, 3] rfl ?_
            refine chkK H fun h6 H => ?_
            refine r_op rfl rfl (PureD.opD (u_ixl rfl rfl Try.underlying22 in_27 rfl rfl (ixe h6) (ixn h6) (fne (fun x => (GGrant.len x)) (by decide) (ixn h6)))) ?_
            refine r_op rfl rfl (PureD.opD (u_lda rfl rfl Try.underlying27 rfl in_27 rfl (Nat.succ_pos _) (Sub.fm default (fun x => (GGrant.len x)) (ixn h6)) (GGrant.len (lrd l0 t23_1.toNat)))) ?_
            refine r_op rfl rfl (MakeD.opD (u_alloc 12 rfl in_27 one_27 zc_27) rfl rfl rfl rfl) ?_
            refine r_op rfl rfl (u_st rfl rfl rfl rfl rfl in_27 (GGrant.len (lrd l0 t23_1.toNat)) (ne_of_lt (n := 0) (Nat.lt_of_lt_of_eq (by decide) (Eq.symm (GGrant.len GGrant.zero)))) (Upd.refl ((GGrant.len (lrd l0 t23_1.toNat)).trans (GGrant.len GGrant.zero).symm))) ?_
            refine RunW_st [(0, .c (.p ((fun q : List GGrant => AV.lst (q.flatMap GGrant.cs) q.length) l0))), (1, .c (.p (AV.int user1))), (2, .c (.p (AV.int object2))), (3, .c (.p (AV.int right3))), (9, .c (.ptr 9 (0))), (10, .c (.p (AV.int i10_0))), (12, .c (.ptr 12 (0))), (21, .c (.p ((fun q : List GGrant => AV.lst (q.flatMap GGrant.cs) q.length) l0))), (22, .c (.p (AV.int (l0.length : Int)))), (23, .c (.p (AV.int t23_1)))] [(9, .pure (in9_1.toList.map AV.bool)), (12, .pure (GGrant.cs (lrd l0 t23_1.toNat)))] rfl ⟨TLes.same _, TLes.same _, TLes.same _, TLes.same _, TLes.same _, TLes.same _, TLes.same _, TLes.same _, TLes.same _, TLes.same _, trivial⟩ ⟨rfl, rfl, trivial⟩ ?_
            refine RunW_nil ?_
            refine AW2_seq ?_
            refine bindK H fun g'3 h12 H => ?_
            refine AW2_mid (⟨[(0, .c (.p ((fun q : List GGrant => AV.lst (q.flatMap GGrant.cs) q.length) l0))), (1, .c (.p (AV.int user1))), (2, .c (.p (AV.int object2))), (3, .c (.p (AV.int right3))), (9, .c (.ptr 9 (0))), (10, .c (.p (AV.int i10_0))), (12, .c (.ptr 12 (0))), (21, .c (.p ((fun q : List GGrant => AV.lst (q.flatMap GGrant.cs) q.length) l0))), (22, .c (.p (AV.int (l0.length : Int)))), (23, .c (.p (AV.int t23_1))), (46, .c (.p (AV.bool g'3)))], [(9, .pure (in9_1.toList.map AV.bool)), (12, .pure (GGrant.cs (lrd l0 t23_1.toNat)))], 54⟩ : TS) ?_ ?_
            · clear H
              have H := h12
              clear h12
              refine AW2_reg [0, 1, 2, 3, 4, 5, 6, 7, 8, 9, 10, 11, 12, 13, 14, 15, 16, 17, 18, 19] rfl ?_
              refine r_op rfl rfl (PureD.opD (u_fa rfl rfl Try.underlying27 rfl in_4 (Nat.succ_ne_zero _) rfl rfl (ne_of_lt (n := 0) (Nat.lt_of_lt_of_eq (by decide) (Eq.symm (GGrant.len (lrd l0 t23_1.toNat))))))) ?_
              refine r_op rfl rfl (PureD.opD (u_ld rfl rfl Try.underlying4 rfl rfl ((Sub.refl _).trans (GGrant.sub4 (lrd l0 t23_1.toNat))))) ?_
              refine r_op rfl rfl (PureD.opD (p_move rfl rfl)) ?_
              refine (Classical.em (((lrd l0 t23_1.toNat).Option) = true)).elim (fun h8 => ?_) (fun h8 => ?_)
              · replace H := ite_then h8 H
                refine r_on rfl rfl rfl rfl h8 rfl (PureD.opD (u_fa rfl rfl Try.underlying27 rfl in_3 (Nat.succ_ne_zero _) rfl rfl (ne_of_lt (n := 0) (Nat.lt_of_lt_of_eq (by decide) (Eq.symm (GGrant.len (lrd l0 t23_1.toNat))))))) ?_
                refine r_on rfl rfl rfl rfl h8 rfl (PureD.opD (u_ld rfl rfl Try.underlying3 rfl rfl ((Sub.refl _).trans (GGrant.sub2 (lrd l0 t23_1.toNat))))) ?_
                refine r_on rfl rfl rfl rfl h8 rfl (PureD.opD (p_move rfl rfl)) ?_
                refine r_on rfl rfl rfl rfl h8 rfl (PureD.opD (p_ieq rfl rfl rfl)) ?_
                refine r_op rfl rfl (PureD.opD (p_pkt rfl rfl h8 (.same _))) ?_
                refine r_op rfl rfl (PureD.opD (p_move rfl rfl)) ?_
                refine (Classical.em ((lrd l0 t23_1.toNat).Object = object2)).elim (fun h9 => ?_) (fun h9 => ?_)
                · replace H := ite_then h9 H
                  refine r_on rfl rfl rfl rfl (decide_eq_true (p := (lrd l0 t23_1.toNat).Object = object2) h9) rfl (PureD.opD (u_fa rfl rfl Try.underlying27 rfl in_3 (Nat.succ_ne_zero _) rfl rfl (ne_of_lt (n := 0) (Nat.lt_of_lt_of_eq (by decide) (Eq.symm (GGrant.len (lrd l0 t23_1.toNat))))))) ?_
                  refine r_on rfl rfl rfl rfl (decide_eq_true (p := (lrd l0 t23_1.toNat).Object = object2) h9) rfl (PureD.opD (u_ld rfl rfl Try.underlying3 rfl rfl ((Sub.refl _).trans (GGrant.sub3 (lrd l0 t23_1.toNat))))) ?_
                  refine r_on rfl rfl rfl rfl (decide_eq_true (p := (lrd l0 t23_1.toNat).Object = object2) h9) rfl (PureD.opD (p_move rfl rfl)) ?_
                  refine r_on rfl rfl rfl rfl (decide_eq_true (p := (lrd l0 t23_1.toNat).Object = object2) h9) rfl (PureD.opD (p_ieq rfl rfl rfl)) ?_
                  refine r_op rfl rfl (PureD.opD (p_pkt rfl rfl (decide_eq_true (p := (lrd l0 t23_1.toNat).Object = object2) h9) (.same _))) ?_
                  refine r_op rfl rfl (PureD.opD (p_move rfl rfl)) ?_
                  refine (Classical.em ((lrd l0 t23_1.toNat).Right = right3)).elim (fun h10 => ?_) (fun h10 => ?_)
                  · replace H := ite_then h10 H
                    refine r_on rfl rfl rfl rfl (decide_eq_true (p := (lrd l0 t23_1.toNat).Right = right3) h10) rfl (PureD.opD (u_fa rfl rfl Try.underlying27 rfl in_3 (Nat.succ_ne_zero _) rfl rfl (ne_of_lt (n := 0) (Nat.lt_of_lt_of_eq (by decide) (Eq.symm (GGrant.len (lrd l0 t23_1.toNat))))))) ?_
                    refine r_on rfl rfl rfl rfl (decide_eq_true (p := (lrd l0 t23_1.toNat).Right = right3) h10) rfl (PureD.opD (u_ld rfl rfl Try.underlying3 rfl rfl ((Sub.refl _).trans (GGrant.sub0 (lrd l0 t23_1.toNat))))) ?_
                    refine chkK H fun h11 H => ?_
                    refine r_on rfl rfl rfl rfl (decide_eq_true (p := (lrd l0 t23_1.toNat).Right = right3) h10) rfl (PureD.opD (u_ixp rfl rfl Try.underlying46 in_4 rfl rfl (ne_of_lt (n := 0) (Nat.lt_of_lt_of_eq (by decide) (Eq.symm (vmap_len (f := AV.bool) in9_1)))) rfl (ixe h11) (ixn h11))) ?_
                    refine r_on rfl rfl rfl rfl (decide_eq_true (p := (lrd l0 t23_1.toNat).Right = right3) h10) rfl (PureD.opD (u_ld rfl rfl Try.underlying4 rfl rfl ((Sub.refl _).trans (Sub.vmap (ixn h11))))) ?_
                    refine r_op rfl rfl (PureD.opD (p_pkt rfl rfl (decide_eq_true (p := (lrd l0 t23_1.toNat).Right = right3) h10) (.same _))) ?_
                    refine RunW_st [(0, .c (.p ((fun q : List GGrant => AV.lst (q.flatMap GGrant.cs) q.length) l0))), (1, .c (.p (AV.int user1))), (2, .c (.p (AV.int object2))), (3, .c (.p (AV.int right3))), (9, .c (.ptr 9 (0))), (10, .c (.p (AV.int i10_0))), (12, .c (.ptr 12 (0))), (21, .c (.p ((fun q : List GGrant => AV.lst (q.flatMap GGrant.cs) q.length) l0))), (22, .c (.p (AV.int (l0.length : Int)))), (23, .c (.p (AV.int t23_1))), (46, .c (.p (AV.bool (vrd in9_1 (((lrd l0 t23_1.toNat).From).toNat)))))] [(9, .pure (in9_1.toList.map AV.bool)), (12, .pure (GGrant.cs (lrd l0 t23_1.toNat)))] rfl ⟨TLes.same _, TLes.same _, TLes.same _, TLes.same _, TLes.same _, TLes.same _, TLes.same _, TLes.same _, TLes.same _, TLes.same _, TLes.same _, trivial⟩ ⟨rfl, rfl, trivial⟩ ?_
                    have hz := some_elim H
                    subst hz
                    exact RunW_nil rfl
                  · replace H := ite_else h10 H
                    refine r_off rfl rfl rfl rfl (decide_eq_false (p := (lrd l0 t23_1.toNat).Right = right3) h10) rfl rfl ?_
                    refine r_off rfl rfl rfl rfl (decide_eq_false (p := (lrd l0 t23_1.toNat).Right = right3) h10) rfl rfl ?_
                    refine r_off rfl rfl rfl rfl (decide_eq_false (p := (lrd l0 t23_1.toNat).Right = right3) h10) rfl rfl ?_
                    refine r_off rfl rfl rfl rfl (decide_eq_false (p := (lrd l0 t23_1.toNat).Right = right3) h10) rfl rfl ?_
                    refine r_op rfl rfl (PureD.opD (p_pkf rfl rfl (decide_eq_false (p := (lrd l0 t23_1.toNat).Right = right3) h10) (.same _))) ?_
                    refine RunW_st [(0, .c (.p ((fun q : List GGrant => AV.lst (q.flatMap GGrant.cs) q.length) l0))), (1, .c (.p (AV.int user1))), (2, .c (.p (AV.int object2))), (3, .c (.p (AV.int right3))), (9, .c (.ptr 9 (0))), (10, .c (.p (AV.int i10_0))), (12, .c (.ptr 12 (0))), (21, .c (.p ((fun q : List GGrant => AV.lst (q.flatMap GGrant.cs) q.length) l0))), (22, .c (.p (AV.int (l0.length : Int)))), (23, .c (.p (AV.int t23_1))), (46, .c (.p (AV.bool false)))] [(9, .pure (in9_1.toList.map AV.bool)), (12, .pure (GGrant.cs (lrd l0 t23_1.toNat)))] rfl ⟨TLes.same _, TLes.same _, TLes.same _, TLes.same _, TLes.same _, TLes.same _, TLes.same _, TLes.same _, TLes.same _, TLes.same _, TLes.same _, trivial⟩ ⟨rfl, rfl, trivial⟩ ?_
                    have hz := some_elim H
                    subst hz
                    exact RunW_nil rfl
                · replace H := ite_else h9 H
                  refine r_off rfl rfl rfl rfl (decide_eq_false (p := (lrd l0 t23_1.toNat).Object = object2) h9) rfl rfl ?_
                  refine r_off rfl rfl rfl rfl (decide_eq_false (p := (lrd l0 t23_1.toNat).Object = object2) h9) rfl rfl ?_
                  refine r_off rfl rfl rfl rfl (decide_eq_false (p := (lrd l0 t23_1.toNat).Object = object2) h9) rfl rfl ?_
                  refine r_off rfl rfl rfl rfl (decide_eq_false (p := (lrd l0 t23_1.toNat).Object = object2) h9) rfl rfl ?_
                  refine r_op rfl rfl (PureD.opD (p_pkf rfl rfl (decide_eq_false (p := (lrd l0 t23_1.toNat).Object = object2) h9) (.same _))) ?_
                  refine r_op rfl rfl (PureD.opD (p_move rfl rfl)) ?_
                  refine r_off rfl rfl rfl rfl (bfalse (by decide)) rfl rfl ?_
                  refine r_off rfl rfl rfl rfl (bfalse (by decide)) rfl rfl ?_
                  refine r_off rfl rfl rfl rfl (bfalse (by decide)) rfl rfl ?_
                  refine r_off rfl rfl rfl rfl (bfalse (by decide)) rfl rfl ?_
                  refine r_op rfl rfl (PureD.opD (p_pkf rfl rfl (bfalse (by decide)) (.same _))) ?_
                  refine RunW_st [(0, .c (.p ((fun q : List GGrant => AV.lst (q.flatMap GGrant.cs) q.length) l0))), (1, .c (.p (AV.int user1))), (2, .c (.p (AV.int object2))), (3, .c (.p (AV.int right3))), (9, .c (.ptr 9 (0))), (10, .c (.p (AV.int i10_0))), (12, .c (.ptr 12 (0))), (21, .c (.p ((fun q : List GGrant => AV.lst (q.flatMap GGrant.cs) q.length) l0))), (22, .c (.p (AV.int (l0.length : Int)))), (23, .c (.p (AV.int t23_1))), (46, .c (.p (AV.bool false)))] [(9, .pure (in9_1.toList.map AV.bool)), (12, .pure (GGrant.cs (lrd l0 t23_1.toNat)))] rfl ⟨TLes.same _, TLes.same _, TLes.same _, TLes.same _, TLes.same _, TLes.same _, TLes.same _, TLes.same _, TLes.same _, TLes.same _, TLes.same _, trivial⟩ ⟨rfl, rfl, trivial⟩ ?_
                  have hz := some_elim H
                  subst hz
                  exact RunW_nil rfl
              · replace H := ite_else h8 H
                refine r_off rfl rfl rfl rfl (bfalse h8) rfl rfl ?_
                refine r_off rfl rfl rfl rfl (bfalse h8) rfl rfl ?_
                refine r_off rfl rfl rfl rfl (bfalse h8) rfl rfl ?_
                refine r_off rfl rfl rfl rfl (bfalse h8) rfl rfl ?_
                refine r_op rfl rfl (PureD.opD (p_pkf rfl rfl (bfalse h8) (.same _))) ?_
                refine r_op rfl rfl (PureD.opD (p_move rfl rfl)) ?_
                refine r_off rfl rfl rfl rfl (bfalse (by decide)) rfl rfl ?_
                refine r_off rfl rfl rfl rfl (bfalse (by decide)) rfl rfl ?_
                refine r_off rfl rfl rfl rfl (bfalse (by decide)) rfl rfl ?_
                refine r_off rfl rfl rfl rfl (bfalse (by decide)) rfl rfl ?_
                refine r_op rfl rfl (PureD.opD (p_pkf rfl rfl (bfalse (by decide)) (.same _))) ?_
                refine r_op rfl rfl (PureD.opD (p_move rfl rfl)) ?_
                refine r_off rfl rfl rfl rfl (bfalse (by decide)) rfl rfl ?_
                refine r_off rfl rfl rfl rfl (bfalse (by decide)) rfl rfl ?_
                refine r_off rfl rfl rfl rfl (bfalse (by decide)) rfl rfl ?_
                refine r_off rfl rfl rfl rfl (bfalse (by decide)) rfl rfl ?_
                refine r_op rfl rfl (PureD.opD (p_pkf rfl rfl (bfalse (by decide)) (.same _))) ?_
                refine RunW_st [(0, .c (.p ((fun q : List GGrant => AV.lst (q.flatMap GGrant.cs) q.length) l0))), (1, .c (.p (AV.int user1))), (2, .c (.p (AV.int object2))), (3, .c (.p (AV.int right3))), (9, .c (.ptr 9 (0))), (10, .c (.p (AV.int i10_0))), (12, .c (.ptr 12 (0))), (21, .c (.p ((fun q : List GGrant => AV.lst (q.flatMap GGrant.cs) q.length) l0))), (22, .c (.p (AV.int (l0.length : Int)))), (23, .c (.p (AV.int t23_1))), (46, .c (.p (AV.bool false)))] [(9, .pure (in9_1.toList.map AV.bool)), (12, .pure (GGrant.cs (lrd l0 t23_1.toNat)))] rfl ⟨TLes.same _, TLes.same _, TLes.same _, TLes.same _, TLes.same _, TLes.same _, TLes.same _, TLes.same _, TLes.same _, TLes.same _, TLes.same _, trivial⟩ ⟨rfl, rfl, trivial⟩ ?_
                have hz := some_elim H
                subst hz
                exact RunW_nil rfl
            · refine AW2_cond rfl (fun h13 => ?_) (fun h13 => ?_)
              · replace H := ite_then h13 H
                refine AW2_reg [0, 1, 2, 3] rfl ?_
                refine r_op rfl rfl (PureD.opD (u_fa rfl rfl Try.underlying27 rfl in_3 (Nat.succ_ne_zero _) rfl rfl (ne_of_lt (n := 0) (Nat.lt_of_lt_of_eq (by decide) (Eq.symm (GGrant.len (lrd l0 t23_1.toNat))))))) ?_
                refine r_op rfl rfl (PureD.opD (u_ld rfl rfl Try.underlying3 rfl rfl ((Sub.refl _).trans (GGrant.sub1 (lrd l0 t23_1.toNat))))) ?_
                refine chkK H fun h14 H => ?_
                refine r_op rfl rfl (PureD.opD (u_ixp rfl rfl Try.underlying46 in_4 rfl rfl (ne_of_lt (n := 0) (Nat.lt_of_lt_of_eq (by decide) (Eq.symm (vmap_len (f := AV.bool) in9_1)))) rfl (ixe h14) (ixn h14))) ?_
                refine r_op rfl rfl (u_st rfl rfl rfl rfl rfl in_4 rfl (ne_of_lt (n := 0) (Nat.lt_of_lt_of_eq (by decide) (Eq.symm (vmap_len (f := AV.bool) in9_1)))) (Upd.trans (Sub.refl _) (Upd.vmap (ixn h14)) (Upd.refl ((vmap_len (f := AV.bool) (vwr in9_1 (((lrd l0 t23_1.toNat).To).toNat) true)).trans (vmap_len (f := AV.bool) in9_1).symm)))) ?_
                refine RunW_st [(0, .c (.p ((fun q : List GGrant => AV.lst (q.flatMap GGrant.cs) q.length) l0))), (1, .c (.p (AV.int user1))), (2, .c (.p (AV.int object2))), (3, .c (.p (AV.int right3))), (9, .c (.ptr 9 (0))), (10, .c (.p (AV.int i10_0))), (21, .c (.p ((fun q : List GGrant => AV.lst (q.flatMap GGrant.cs) q.length) l0))), (22, .c (.p (AV.int (l0.length : Int)))), (23, .c (.p (AV.int t23_1)))] [(9, .pure (((vwr in9_1 (((lrd l0 t23_1.toNat).To).toNat) true).toList).map AV.bool))] rfl ⟨TLes.same _, TLes.same _, TLes.same _, TLes.same _, TLes.same _, TLes.same _, TLes.same _, TLes.same _, TLes.same _, trivial⟩ ⟨rfl, trivial⟩ ?_
                refine RunW_nil ?_
                have hz := some_elim H
                subst hz
                exact rfl
              · replace H := ite_else (ne_true h13) H
                refine AW2_st [(0, .c (.p ((fun q : List GGrant => AV.lst (q.flatMap GGrant.cs) q.length) l0))), (1, .c (.p (AV.int user1))), (2, .c (.p (AV.int object2))), (3, .c (.p (AV.int right3))), (9, .c (.ptr 9 (0))), (10, .c (.p (AV.int i10_0))), (21, .c (.p ((fun q : List GGrant => AV.lst (q.flatMap GGrant.cs) q.length) l0))), (22, .c (.p (AV.int (l0.length : Int)))), (23, .c (.p (AV.int t23_1)))] [(9, .pure (in9_1.toList.map AV.bool))] rfl ⟨TLes.same _, TLes.same _, TLes.same _, TLes.same _, TLes.same _, TLes.same _, TLes.same _, TLes.same _, TLes.same _, trivial⟩ ⟨rfl, trivial⟩ ?_
                refine AW2_skip ?_
                have hz := some_elim H
                subst hz
                exact rfl
          · refine AW2_reg [0, 1] rfl ?_
            refine r_op rfl rfl (PureD.opD (p_bin rfl rfl rfl rfl)) ?_
            refine r_op rfl rfl (PureD.opD (p_move rfl rfl)) ?_
            refine RunW_st [(0, .c (.p ((fun q : List GGrant => AV.lst (q.flatMap GGrant.cs) q.length) l0))), (1, .c (.p (AV.int user1))), (2, .c (.p (AV.int object2))), (3, .c (.p (AV.int right3))), (9, .c (.ptr 9 (0))), (10, .c (.p (AV.int i10_0))), (21, .c (.p ((fun q : List GGrant => AV.lst (q.flatMap GGrant.cs) q.length) l0))), (22, .c (.p (AV.int (l0.length : Int)))), (23, .c (.p (AV.int (w64 (t23_1 + (1 : Int))))))] [(9, .pure (j'2.toList.map AV.bool))] rfl ⟨TLes.same _, TLes.same _, TLes.same _, TLes.same _, TLes.same _, TLes.same _, TLes.same _, TLes.same _, TLes.same _, trivial⟩ ⟨rfl, trivial⟩ ?_
            refine RunW_nil ?_
            have hz := some_elim H
            subst hz
            exact ⟨rfl, rfl⟩
        · replace H := ite_else h4 H
          refine AW2_st [(0, .c (.p ((fun q : List GGrant => AV.lst (q.flatMap GGrant.cs) q.length) l0))), (1, .c (.p (AV.int user1))), (2, .c (.p (AV.int object2))), (3, .c (.p (AV.int right3))), (9, .c (.ptr 9 (0))), (10, .c (.p (AV.int i10_0)))] [(9, .pure (in9_1.toList.map AV.bool))] rfl ⟨TLes.same _, TLes.same _, TLes.same _, TLes.same _, TLes.same _, TLes.same _, trivial⟩ ⟨rfl, trivial⟩ ?_
          refine AW2_exit ?_
          refine thenQ2_exit ?_
          have hz := some_elim H
          subst hz
          exact ⟨rfl, rfl⟩
      · obtain ⟨rfl, rfl⟩ := hs
        refine ⟨by simp, ?_⟩
        refine blockQ2_exit ?_
        refine AW2_reg [0, 1, 2] rfl ?_
        refine r_op rfl rfl (PureD.opD (p_move rfl rfl)) ?_
        refine r_op rfl rfl (PureD.opD (p_bin rfl rfl rfl rfl)) ?_
        refine r_op rfl rfl (PureD.opD (p_asg rfl rfl)) ?_
        refine RunW_st [(0, .c (.p ((fun q : List GGrant => AV.lst (q.flatMap GGrant.cs) q.length) l0))), (1, .c (.p (AV.int user1))), (2, .c (.p (AV.int object2))), (3, .c (.p (AV.int right3))), (9, .c (.ptr 9 (0))), (10, .c (.p (AV.int (w64 (i10_0 + (1 : Int))))))] [(9, .pure (y'7.toList.map AV.bool))] rfl ⟨TLes.same _, TLes.same _, TLes.same _, TLes.same _, TLes.same _, TLes.same _, trivial⟩ ⟨rfl, trivial⟩ ?_
        refine RunW_nil ?_
        have hz := some_elim H
        subst hz
        exact ⟨rfl, rfl⟩
    · replace H := ite_else h3 H
      refine AW2_st [(1, .c (.p (AV.int user1))), (9, .c (.ptr 9 (0)))] [(9, .pure (in9_0.toList.map AV.bool))] rfl ⟨TLes.same _, TLes.same _, trivial⟩ ⟨rfl, trivial⟩ ?_
      refine AW2_exit ?_
      refine thenQ2_exit ?_
      have hz := some_elim H
      subst hz
      exact ⟨rfl, rfl⟩
  · obtain ⟨rfl, rfl⟩ := hs
    refine ⟨by simp, ?_⟩
    refine blockQ2_exit ?_
    refine AW2_seq ?_
    refine AW2_reg [0, 1, 2, 3] rfl ?_
    refine r_op rfl rfl (PureD.opD (p_move rfl rfl)) ?_
    refine chkK H fun h18 H => ?_
    refine r_op rfl rfl (PureD.opD (u_ixp rfl rfl Try.underlying46 in_4 rfl rfl (ne_of_lt (n := 0) (Nat.lt_of_lt_of_eq (by decide) (Eq.symm (vmap_len (f := AV.bool) y'11)))) rfl (ixe h18) (ixn h18))) ?_
    refine r_op rfl rfl (PureD.opD (u_ld rfl rfl Try.underlying4 rfl rfl ((Sub.refl _).trans (Sub.vmap (ixn h18))))) ?_
    refine r_op rfl rfl (PureD.opD (p_asg rfl rfl)) ?_
    refine RunW_st [(8, .c (.p (AV.bool (vrd y'11 user1.toNat))))] [] rfl ⟨TLes.same _, trivial⟩ trivial ?_
    refine RunW_nil ?_
    refine AW2_ret ?_
    have hz := some_elim H
    subst hz
    exact ⟨⟨res_tmp (.same _), trivial⟩, trivial⟩
end Go.Proofs.Ytgbfmldbbnhefaa.VM
