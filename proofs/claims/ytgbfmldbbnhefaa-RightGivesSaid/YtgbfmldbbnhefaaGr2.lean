/- Functions of the program, as they answer, and that their code comes to these answers. -/
import Derived.Test.YtgbfmldbbnhefaaGr1
namespace Go.Proofs.Ytgbfmldbbnhefaa.VM
open Go Go.RowKit



/-! right.Check -/
noncomputable def g_right_Check_l0 (l0 : List GGrant) : Int → Option (Int ⊕ (Int ⊕ Unit))
  | t11_0 => (if t11_0 < (l0.length : Int) then if 0 ≤ t11_0 ∧ t11_0 < (l0.length : Int) then (g_right_bounds (lrd l0 t11_0.toNat)).bind fun r'1 => (if r'1 ≠ (0 : Int) then some (.inr (.inl r'1)) else ((if t11_0 > (0 : Int) then if 0 ≤ w64 (t11_0 - (1 : Int)) ∧ w64 (t11_0 - (1 : Int)) < (l0.length : Int) then (g_right_placed (lrd l0 ((w64 (t11_0 - (1 : Int))).toNat))).bind fun r'2 => (g_right_placed (lrd l0 t11_0.toNat)).bind fun r'3 => (g_right_place_before r'2 r'3).bind fun r'4 => some (!r'4) else none else some false)).bind fun g'5 => (if g'5 = true then some (.inr (.inl (3 : Int))) else some (.inl (w64 (t11_0 + (1 : Int)))))) else none else some (.inr (.inr ())))
noncomputable def g_right_Check (l0 : List GGrant) : Option (Int) :=
  (if (l0.length : Int) > (96 : Int) then some (1 : Int) else (loopO (g_right_Check_l0 l0) (0 : Int)).bind fun o'9 => match o'9 with | .inl y'10 => some y'10 | .inr (y'11) => (g_right_held l0).bind fun r'12 => (if (r'12.length : Int) ≠ (l0.length : Int) then some (11 : Int) else some (0 : Int)))
set_option maxHeartbeats 4000000 in
set_option maxRecDepth 100000 in
theorem g_right_Check_ac {l0 : List GGrant} {r : Int} (H : g_right_Check l0 = some r) : ACp Try.prog 8 [((fun q : List GGrant => AV.lst (q.flatMap GGrant.cs) q.length) l0)] (AV.int r) := by
  refine ACp_of (AC2_of_body (vs := [.c (.p (AV.int r))]) Try.func8 rfl rfl (Nat.le_of_ble_eq_true rfl) rfl ?_) (fun _ => .same _)
  unfold g_right_Check at H
  refine AW2_st [(0, .c (.p ((fun q : List GGrant => AV.lst (q.flatMap GGrant.cs) q.length) l0)))] [] rfl ⟨TLes.same _, trivial⟩ trivial ?_
  refine AW2_seq ?_
  refine AW2_reg [0] rfl ?_
  refine r_op rfl rfl (PureD.opD (p_asg rfl rfl)) ?_
  refine RunW_st [(0, .c (.p ((fun q : List GGrant => AV.lst (q.flatMap GGrant.cs) q.length) l0)))] [] rfl ⟨TLes.same _, trivial⟩ trivial ?_
  refine RunW_nil ?_
  refine AW2_seq ?_
  refine AW2_seq ?_
  refine AW2_reg [0, 1, 2] rfl ?_
  refine r_op rfl rfl (PureD.opD (p_move rfl rfl)) ?_
  refine r_op rfl rfl (PureD.opD (p_lenl rfl Try.underlying22 rfl rfl)) ?_
  refine r_op rfl rfl (PureD.opD (p_bin rfl rfl rfl rfl)) ?_
  refine RunW_st [(0, .c (.p ((fun q : List GGrant => AV.lst (q.flatMap GGrant.cs) q.length) l0))), (8, .c (.p (.bool (decide ((l0.length : Int) > (96 : Int))))))] [] rfl ⟨TLes.same _, TLes.same _, trivial⟩ trivial ?_
  refine RunW_nil ?_
  refine AW2_if (p := (l0.length : Int) > (96 : Int)) rfl (fun h1 => ?_) (fun h1 => ?_)
  · replace H := ite_then h1 H
    refine AW2_seq ?_
    refine AW2_reg [0] rfl ?_
    refine r_op rfl rfl (PureD.opD (p_asg rfl rfl)) ?_
    refine RunW_st [(2, .c (.p (AV.int (1 : Int))))] [] rfl ⟨TLes.same _, trivial⟩ trivial ?_
    refine RunW_nil ?_
    refine AW2_ret ?_
    have hz := some_elim H
    subst hz
    exact ⟨⟨res_tmp (.same _), trivial⟩, trivial⟩
  · replace H := ite_else h1 H
    refine AW2_st [(0, .c (.p ((fun q : List GGrant => AV.lst (q.flatMap GGrant.cs) q.length) l0)))] [] rfl ⟨TLes.same _, trivial⟩ trivial ?_
    refine AW2_skip ?_
    refine AW2_seq ?_
    refine AW2_seq ?_
    refine AW2_reg [0, 1, 2] rfl ?_
    refine r_op rfl rfl (PureD.opD (p_move rfl rfl)) ?_
    refine r_op rfl rfl (PureD.opD (p_lenl rfl Try.underlying22 rfl rfl)) ?_
    refine r_op rfl rfl (PureD.opD (p_move rfl rfl)) ?_
    refine RunW_st [(0, .c (.p ((fun q : List GGrant => AV.lst (q.flatMap GGrant.cs) q.length) l0))), (9, .c (.p ((fun q : List GGrant => AV.lst (q.flatMap GGrant.cs) q.length) l0))), (10, .c (.p (AV.int (l0.length : Int)))), (11, .c (.p (AV.int (0 : Int))))] [] rfl ⟨TLes.same _, TLes.same _, TLes.same _, TLes.same _, trivial⟩ trivial ?_
    refine RunW_nil ?_
    refine AW2_block ?_
    refine AW2_st [(0, .c (.p ((fun q : List GGrant => AV.lst (q.flatMap GGrant.cs) q.length) l0))), (9, .c (.p ((fun q : List GGrant => AV.lst (q.flatMap GGrant.cs) q.length) l0))), (10, .c (.p (AV.int (l0.length : Int)))), (11, .c (.p (AV.int (0 : Int))))] [] rfl ⟨TLes.same _, TLes.same _, TLes.same _, TLes.same _, trivial⟩ trivial ?_
    refine bindK H fun o'9 h13 H => ?_
    refine AW2_loopO (fun a'6 : Int => (⟨[(0, .c (.p ((fun q : List GGrant => AV.lst (q.flatMap GGrant.cs) q.length) l0))), (9, .c (.p ((fun q : List GGrant => AV.lst (q.flatMap GGrant.cs) q.length) l0))), (10, .c (.p (AV.int (l0.length : Int)))), (11, .c (.p (AV.int a'6)))], [], 42⟩ : TS)) (fun (o : Int ⊕ Unit) e s' => match o with | .inl y'7 => e = Go.Exit.ret ∧ ResAll Try.prog s' [ResultVar.tmp 2] [.c (.p (AV.int y'7))] ∧ HFits s' [] | .inr (y'8) => e = Go.Exit.exit 0 ∧ s' = (⟨[(0, .c (.p ((fun q : List GGrant => AV.lst (q.flatMap GGrant.cs) q.length) l0)))], [], 42⟩ : TS)) h13 rfl (fun t11_0 x hx => ?_) (fun e s' hs => ?_)
    · clear H
      have H := hx
      clear hx
      unfold g_right_Check_l0 at H
      refine AW2_seq ?_
      refine AW2_reg [0] rfl ?_
      refine r_op rfl rfl (PureD.opD (p_bin rfl rfl rfl rfl)) ?_
      refine RunW_st [(0, .c (.p ((fun q : List GGrant => AV.lst (q.flatMap GGrant.cs) q.length) l0))), (9, .c (.p ((fun q : List GGrant => AV.lst (q.flatMap GGrant.cs) q.length) l0))), (10, .c (.p (AV.int (l0.length : Int)))), (11, .c (.p (AV.int t11_0))), (12, .c (.p (.bool (decide (t11_0 < (l0.length : Int))))))] [] rfl ⟨TLes.same _, TLes.same _, TLes.same _, TLes.same _, TLes.same _, trivial⟩ trivial ?_
      refine RunW_nil ?_
      refine AW2_seq ?_
      refine AW2_if (p := t11_0 < (l0.length : Int)) rfl (fun h2 => ?_) (fun h2 => ?_)
      · replace H := ite_then h2 H
        refine AW2_st [(0, .c (.p ((fun q : List GGrant => AV.lst (q.flatMap GGrant.cs) q.length) l0))), (9, .c (.p ((fun q : List GGrant => AV.lst (q.flatMap GGrant.cs) q.length) l0))), (10, .c (.p (AV.int (l0.length : Int)))), (11, .c (.p (AV.int t11_0)))] [] rfl ⟨TLes.same _, TLes.same _, TLes.same _, TLes.same _, trivial⟩ trivial ?_
        refine AW2_skip ?_
        refine AW2_seq ?_
        refine AW2_block ?_
        refine AW2_seq ?_
        refine AW2_reg [0, 1, 2, 3, 4, 5] rfl ?_
        refine r_op rfl rfl (PureD.opD (p_move rfl rfl)) ?_
        refine chkK H fun h3 H => ?_
        refine r_op rfl rfl (PureD.opD (u_ixl rfl rfl Try.underlying22 in_27 rfl rfl (ixe h3) (ixn h3) (fne (fun x => (GGrant.len x)) (by decide) (ixn h3)))) ?_
        refine r_op rfl rfl (PureD.opD (u_lda rfl rfl Try.underlying27 rfl in_27 rfl (Nat.succ_pos _) (Sub.fm default (fun x => (GGrant.len x)) (ixn h3)) (GGrant.len (lrd l0 t11_0.toNat)))) ?_
        refine r_op rfl rfl (MakeD.opD (u_alloc 4 rfl in_27 one_27 zc_27) rfl rfl rfl rfl) ?_
        refine r_op rfl rfl (PureD.opD (p_asg rfl rfl)) ?_
        refine r_op rfl rfl (u_st rfl rfl rfl rfl rfl in_27 (GGrant.len (lrd l0 t11_0.toNat)) (ne_of_lt (n := 0) (Nat.lt_of_lt_of_eq (by decide) (Eq.symm (GGrant.len GGrant.zero)))) (Upd.refl ((GGrant.len (lrd l0 t11_0.toNat)).trans (GGrant.len GGrant.zero).symm))) ?_
        refine RunW_st [(0, .c (.p ((fun q : List GGrant => AV.lst (q.flatMap GGrant.cs) q.length) l0))), (3, .c (.p (AV.int t11_0))), (4, .c (.ptr 4 (0))), (9, .c (.p ((fun q : List GGrant => AV.lst (q.flatMap GGrant.cs) q.length) l0))), (10, .c (.p (AV.int (l0.length : Int)))), (11, .c (.p (AV.int t11_0)))] [(4, .pure (GGrant.cs (lrd l0 t11_0.toNat)))] rfl ⟨TLes.same _, TLes.same _, TLes.same _, TLes.same _, TLes.same _, TLes.same _, trivial⟩ ⟨rfl, trivial⟩ ?_
        refine RunW_nil ?_
        refine AW2_seq ?_
        refine AW2_seq ?_
        refine AW2_reg [0, 1, 2] rfl ?_
        refine r_op rfl rfl (PureD.opD (u_lda rfl rfl Try.underlying27 rfl in_27 rfl (Nat.succ_pos _) (Sub.refl _) (GGrant.len (lrd l0 t11_0.toNat)))) ?_
        refine bindK H fun r'1 h4 H => ?_
        refine r_op rfl rfl (PureD.opD (p_callp rfl rfl rfl Try.func19 rfl rfl (g_right_bounds_ac h4) ⟨rfl, trivial⟩)) ?_
        refine r_op rfl rfl (PureD.opD (p_asg rfl rfl)) ?_
        refine RunW_st [(0, .c (.p ((fun q : List GGrant => AV.lst (q.flatMap GGrant.cs) q.length) l0))), (3, .c (.p (AV.int t11_0))), (4, .c (.ptr 4 (0))), (5, .c (.p (AV.int r'1))), (9, .c (.p ((fun q : List GGrant => AV.lst (q.flatMap GGrant.cs) q.length) l0))), (10, .c (.p (AV.int (l0.length : Int)))), (11, .c (.p (AV.int t11_0)))] [(4, .pure (GGrant.cs (lrd l0 t11_0.toNat)))] rfl ⟨TLes.same _, TLes.same _, TLes.same _, TLes.same _, TLes.same _, TLes.same _, TLes.same _, trivial⟩ ⟨rfl, trivial⟩ ?_
        refine RunW_nil ?_
        refine AW2_seq ?_
        refine AW2_reg [0, 1] rfl ?_
        refine r_op rfl rfl (PureD.opD (p_move rfl rfl)) ?_
        refine r_op rfl rfl (PureD.opD (p_ine rfl rfl rfl)) ?_
        refine RunW_st [(0, .c (.p ((fun q : List GGrant => AV.lst (q.flatMap GGrant.cs) q.length) l0))), (3, .c (.p (AV.int t11_0))), (4, .c (.ptr 4 (0))), (5, .c (.p (AV.int r'1))), (9, .c (.p ((fun q : List GGrant => AV.lst (q.flatMap GGrant.cs) q.length) l0))), (10, .c (.p (AV.int (l0.length : Int)))), (11, .c (.p (AV.int t11_0))), (19, .c (.p (.bool (decide (r'1 ≠ (0 : Int))))))] [(4, .pure (GGrant.cs (lrd l0 t11_0.toNat)))] rfl ⟨TLes.same _, TLes.same _, TLes.same _, TLes.same _, TLes.same _, TLes.same _, TLes.same _, TLes.same _, trivial⟩ ⟨rfl, trivial⟩ ?_
        refine RunW_nil ?_
        refine AW2_if (p := r'1 ≠ (0 : Int)) rfl (fun h5 => ?_) (fun h5 => ?_)
        · replace H := ite_then h5 H
          refine AW2_seq ?_
          refine AW2_reg [0, 1] rfl ?_
          refine r_op rfl rfl (PureD.opD (p_move rfl rfl)) ?_
          refine r_op rfl rfl (PureD.opD (p_asg rfl rfl)) ?_
          refine RunW_st [(2, .c (.p (AV.int r'1)))] [] rfl ⟨TLes.same _, trivial⟩ trivial ?_
          refine RunW_nil ?_
          refine AW2_ret ?_
          have hz := some_elim H
          subst hz
          exact ⟨rfl, ⟨res_tmp (.same _), trivial⟩, trivial⟩
        · replace H := ite_else h5 H
          refine AW2_st [(0, .c (.p ((fun q : List GGrant => AV.lst (q.flatMap GGrant.cs) q.length) l0))), (3, .c (.p (AV.int t11_0))), (4, .c (.ptr 4 (0))), (9, .c (.p ((fun q : List GGrant => AV.lst (q.flatMap GGrant.cs) q.length) l0))), (10, .c (.p (AV.int (l0.length : Int)))), (11, .c (.p (AV.int t11_0)))] [(4, .pure (GGrant.cs (lrd l0 t11_0.toNat)))] rfl ⟨TLes.same _, TLes.same _, TLes.same _, TLes.same _, TLes.same _, TLes.same _, trivial⟩ ⟨rfl, trivial⟩ ?_
          refine AW2_skip ?_
          refine AW2_seq ?_
          refine bindK H fun g'5 h11 H => ?_
          refine AW2_mid (⟨[(0, .c (.p ((fun q : List GGrant => AV.lst (q.flatMap GGrant.cs) q.length) l0))), (9, .c (.p ((fun q : List GGrant => AV.lst (q.flatMap GGrant.cs) q.length) l0))), (10, .c (.p (AV.int (l0.length : Int)))), (11, .c (.p (AV.int t11_0))), (34, .c (.p (AV.bool g'5)))], [], 42⟩ : TS) ?_ ?_
          · clear H
            have H := h11
            clear h11
            refine (Classical.em (t11_0 > (0 : Int))).elim (fun h6 => ?_) (fun h6 => ?_)
            · replace H := ite_then h6 H
              refine chkK H fun h7 H => ?_
              refine bindK H fun r'2 h8 H => ?_
              refine bindK H fun r'3 h9 H => ?_
              refine bindK H fun r'4 h10 H => ?_
              have hz := some_elim H
              subst hz
              refine AW2_ghoQ ?_
              refine AW2_draw 10 [10, 11, 12, 13] (fun k => ([.c (.p (AV.int t11_0)), .c (.p (.bool (decide (t11_0 > (0 : Int))))), .c (.p (.bool (decide (t11_0 > (0 : Int))))), .c (.p ((fun q : List GGrant => AV.lst (q.flatMap GGrant.cs) q.length) l0)), .c (.p (AV.int t11_0)), .c (.p (AV.int (w64 (t11_0 - (1 : Int))))), .c (.p (.rptr (l0.flatMap GGrant.cs) (((w64 (t11_0 - (1 : Int))).toNat) * 5))), .c (.p (.agg (GGrant.cs (lrd l0 ((w64 (t11_0 - (1 : Int))).toNat))))), .c (.p (.agg (Gright_place.cs r'2))), .c (.p (.agg (GGrant.cs (lrd l0 t11_0.toNat))))] : List TV).getD k TV.any) (fun k => ([[(3, none)], [(21, some 0)], [(22, some 1)], [(0, none), (23, some 2)], [(3, none), (23, some 2)], [(23, some 2), (25, some 4)], [(23, some 2), (24, some 3), (26, some 5)], [(23, some 2), (27, some 6)], [(23, some 2), (28, some 7)], [(4, none), (23, some 2)]] : List (List (Nat × Option Nat))).getD k []) [(0, none), (9, none), (10, none), (11, none), (23, some 2), (29, some 8), (30, some 9)] [] (fun k => ([[], [0], [0, 1], [0, 1, 2], [0, 1, 2], [0, 1, 2, 4], [0, 1, 2, 3, 4, 5], [0, 1, 2, 3, 4, 5, 6], [0, 1, 2, 3, 4, 5, 6, 7], [0, 1, 2], [0, 1, 2, 3, 4, 5, 6, 7, 8, 9], [0, 1, 2, 3, 4, 5, 6, 7, 8, 9, 10], [0, 1, 2, 3, 4, 5, 6, 7, 8, 9, 10, 11], [0, 1, 2, 3, 4, 5, 6, 7, 8, 9, 10, 11, 12]] : List (List Nat)).getD k []) mixed (by kernel_rfl) rfl rfl (a_op (g_x rfl (x_p rfl (p_move rfl rfl) rfl)) (a_op (g_x rfl (x_p rfl (p_bin rfl rfl rfl rfl) rfl)) (a_op (g_x rfl (x_p rfl (p_move rfl rfl) rfl)) (a_op (g_on rfl rfl rfl (decide_eq_true (p := t11_0 > (0 : Int)) h6) rfl (x_p rfl (p_move rfl rfl) rfl)) (a_op (g_on rfl rfl rfl (decide_eq_true (p := t11_0 > (0 : Int)) h6) rfl (x_p rfl (p_move rfl rfl) rfl)) (a_op (g_on rfl rfl rfl (decide_eq_true (p := t11_0 > (0 : Int)) h6) rfl (x_p rfl (p_bin rfl rfl rfl rfl) rfl)) (a_op (g_on rfl rfl rfl (decide_eq_true (p := t11_0 > (0 : Int)) h6) rfl (x_p rfl (u_ixl rfl rfl Try.underlying22 in_27 rfl rfl (ixe h7) (ixn h7) (fne (fun x => (GGrant.len x)) (by decide) (ixn h7))) rfl)) (a_op (g_on rfl rfl rfl (decide_eq_true (p := t11_0 > (0 : Int)) h6) rfl (x_p rfl (u_lda rfl rfl Try.underlying27 rfl in_27 rfl (Nat.succ_pos _) (Sub.fm default (fun x => (GGrant.len x)) (ixn h7)) (GGrant.len (lrd l0 ((w64 (t11_0 - (1 : Int))).toNat)))) rfl)) (a_op (g_on rfl rfl rfl (decide_eq_true (p := t11_0 > (0 : Int)) h6) rfl (x_p rfl (p_callp rfl rfl rfl Try.func20 rfl rfl (g_right_placed_ac h8) ⟨rfl, trivial⟩) rfl)) (a_op (g_on rfl rfl rfl (decide_eq_true (p := t11_0 > (0 : Int)) h6) rfl (x_p rfl (u_lda rfl rfl Try.underlying27 rfl in_27 rfl (Nat.succ_pos _) (Sub.refl _) (GGrant.len (lrd l0 t11_0.toNat))) rfl)) (a_nil))))))))))) ?_
              refine t_on rfl rfl rfl rfl (decide_eq_true (p := t11_0 > (0 : Int)) h6) rfl (PureD.opD (p_callp rfl rfl rfl Try.func20 rfl rfl (g_right_placed_ac h9) ⟨rfl, trivial⟩)) ?_
              refine t_on rfl rfl rfl rfl (decide_eq_true (p := t11_0 > (0 : Int)) h6) rfl (PureD.opD (p_callp rfl rfl rfl Try.func21 rfl rfl (g_right_place_before_ac h10) ⟨rfl, rfl, trivial⟩)) ?_
              refine t_on rfl rfl rfl rfl (decide_eq_true (p := t11_0 > (0 : Int)) h6) rfl (PureD.opD (p_not rfl rfl)) ?_
              refine t_op rfl rfl (PureD.opD (p_pkt rfl rfl (decide_eq_true (p := t11_0 > (0 : Int)) h6) (.same _))) ?_
              exact t_gho (Gho_st (L := [(0, .c (.p ((fun q : List GGrant => AV.lst (q.flatMap GGrant.cs) q.length) l0))), (9, .c (.p ((fun q : List GGrant => AV.lst (q.flatMap GGrant.cs) q.length) l0))), (10, .c (.p (AV.int (l0.length : Int)))), (11, .c (.p (AV.int t11_0))), (34, .c (.p (AV.bool (!r'4))))]) (H := []) rfl ⟨TLes.same _, TLes.same _, TLes.same _, TLes.same _, TLes.same _, trivial⟩ trivial) rfl
            · replace H := ite_else h6 H
              have hz := some_elim H
              subst hz
              refine AW2_ghoQ ?_
              refine AW2_draw 10 [10, 11, 12, 13] (fun k => ([.c (.p (AV.int t11_0)), .c (.p (.bool (decide (t11_0 > (0 : Int))))), .c (.p (.bool (decide (t11_0 > (0 : Int))))), .c (.p (.tup [])), .c (.p (.tup [])), .c (.p (.tup [])), .c (.p (.tup [])), .c (.p (.tup [])), .c (.p (.tup [])), .c (.p (.tup []))] : List TV).getD k TV.any) (fun k => ([[(3, none)], [(21, some 0)], [(22, some 1)], [(0, none), (23, some 2)], [(3, none), (23, some 2)], [(23, some 2), (25, some 4)], [(23, some 2), (24, some 3), (26, some 5)], [(23, some 2), (27, some 6)], [(23, some 2), (28, some 7)], [(4, none), (23, some 2)]] : List (List (Nat × Option Nat))).getD k []) [(0, none), (9, none), (10, none), (11, none), (23, some 2), (29, some 8), (30, some 9)] [] (fun k => ([[], [0], [0, 1], [0, 1, 2], [0, 1, 2], [0, 1, 2, 4], [0, 1, 2, 3, 4, 5], [0, 1, 2, 3, 4, 5, 6], [0, 1, 2, 3, 4, 5, 6, 7], [0, 1, 2], [0, 1, 2, 3, 4, 5, 6, 7, 8, 9], [0, 1, 2, 3, 4, 5, 6, 7, 8, 9, 10], [0, 1, 2, 3, 4, 5, 6, 7, 8, 9, 10, 11], [0, 1, 2, 3, 4, 5, 6, 7, 8, 9, 10, 11, 12]] : List (List Nat)).getD k []) mixed (by kernel_rfl) rfl rfl (a_op (g_x rfl (x_p rfl (p_move rfl rfl) rfl)) (a_op (g_x rfl (x_p rfl (p_bin rfl rfl rfl rfl) rfl)) (a_op (g_x rfl (x_p rfl (p_move rfl rfl) rfl)) (a_op (g_off rfl rfl rfl rfl rfl (decide_eq_false (p := t11_0 > (0 : Int)) h6) rfl rfl) (a_op (g_off rfl rfl rfl rfl rfl (decide_eq_false (p := t11_0 > (0 : Int)) h6) rfl rfl) (a_op (g_off rfl rfl rfl rfl rfl (decide_eq_false (p := t11_0 > (0 : Int)) h6) rfl rfl) (a_op (g_off rfl rfl rfl rfl rfl (decide_eq_false (p := t11_0 > (0 : Int)) h6) rfl rfl) (a_op (g_off rfl rfl rfl rfl rfl (decide_eq_false (p := t11_0 > (0 : Int)) h6) rfl rfl) (a_op (g_off rfl rfl rfl rfl rfl (decide_eq_false (p := t11_0 > (0 : Int)) h6) rfl rfl) (a_op (g_off rfl rfl rfl rfl rfl (decide_eq_false (p := t11_0 > (0 : Int)) h6) rfl rfl) (a_nil))))))))))) ?_
              refine t_off rfl rfl rfl rfl (decide_eq_false (p := t11_0 > (0 : Int)) h6) rfl rfl ?_
              refine t_off rfl rfl rfl rfl (decide_eq_false (p := t11_0 > (0 : Int)) h6) rfl rfl ?_
              refine t_off rfl rfl rfl rfl (decide_eq_false (p := t11_0 > (0 : Int)) h6) rfl rfl ?_
              refine t_op rfl rfl (PureD.opD (p_pkf rfl rfl (decide_eq_false (p := t11_0 > (0 : Int)) h6) (.same _))) ?_
              exact t_gho (Gho_st (L := [(0, .c (.p ((fun q : List GGrant => AV.lst (q.flatMap GGrant.cs) q.length) l0))), (9, .c (.p ((fun q : List GGrant => AV.lst (q.flatMap GGrant.cs) q.length) l0))), (10, .c (.p (AV.int (l0.length : Int)))), (11, .c (.p (AV.int t11_0))), (34, .c (.p (AV.bool false)))]) (H := []) rfl ⟨TLes.same _, TLes.same _, TLes.same _, TLes.same _, TLes.same _, trivial⟩ trivial) rfl
          · refine AW2_cond rfl (fun h12 => ?_) (fun h12 => ?_)
            · replace H := ite_then h12 H
              refine AW2_seq ?_
              refine AW2_reg [0] rfl ?_
              refine r_op rfl rfl (PureD.opD (p_asg rfl rfl)) ?_
              refine RunW_st [(2, .c (.p (AV.int (3 : Int))))] [] rfl ⟨TLes.same _, trivial⟩ trivial ?_
              refine RunW_nil ?_
              refine AW2_ret ?_
              have hz := some_elim H
              subst hz
              exact ⟨rfl, ⟨res_tmp (.same _), trivial⟩, trivial⟩
            · replace H := ite_else (ne_true h12) H
              refine AW2_st [(0, .c (.p ((fun q : List GGrant => AV.lst (q.flatMap GGrant.cs) q.length) l0))), (9, .c (.p ((fun q : List GGrant => AV.lst (q.flatMap GGrant.cs) q.length) l0))), (10, .c (.p (AV.int (l0.length : Int)))), (11, .c (.p (AV.int t11_0)))] [] rfl ⟨TLes.same _, TLes.same _, TLes.same _, TLes.same _, trivial⟩ trivial ?_
              refine AW2_skip ?_
              refine AW2_reg [0, 1] rfl ?_
              refine r_op rfl rfl (PureD.opD (p_bin rfl rfl rfl rfl)) ?_
              refine r_op rfl rfl (PureD.opD (p_move rfl rfl)) ?_
              refine RunW_st [(0, .c (.p ((fun q : List GGrant => AV.lst (q.flatMap GGrant.cs) q.length) l0))), (9, .c (.p ((fun q : List GGrant => AV.lst (q.flatMap GGrant.cs) q.length) l0))), (10, .c (.p (AV.int (l0.length : Int)))), (11, .c (.p (AV.int (w64 (t11_0 + (1 : Int))))))] [] rfl ⟨TLes.same _, TLes.same _, TLes.same _, TLes.same _, trivial⟩ trivial ?_
              refine RunW_nil ?_
              have hz := some_elim H
              subst hz
              exact ⟨rfl, rfl⟩
      · replace H := ite_else h2 H
        refine AW2_st [(0, .c (.p ((fun q : List GGrant => AV.lst (q.flatMap GGrant.cs) q.length) l0)))] [] rfl ⟨TLes.same _, trivial⟩ trivial ?_
        refine AW2_exit ?_
        refine thenQ2_exit ?_
        have hz := some_elim H
        subst hz
        exact ⟨rfl, rfl⟩
    · rcases o'9 with y'10 | y'11
      · obtain ⟨rfl, hs⟩ := hs
        refine ⟨by simp, ?_⟩
        have hz := some_elim H
        subst hz
        exact ⟨hs.1, hs.2⟩
      · obtain ⟨rfl, rfl⟩ := hs
        refine ⟨by simp, ?_⟩
        refine blockQ2_exit ?_
        refine AW2_seq ?_
        refine AW2_seq ?_
        refine AW2_reg [0, 1, 2, 3, 4, 5] rfl ?_
        refine r_op rfl rfl (PureD.opD (p_move rfl rfl)) ?_
        refine bindK H fun r'12 h14 H => ?_
        refine r_op rfl rfl (PureD.opD (p_callp rfl rfl rfl Try.func22 rfl rfl (g_right_held_ac h14) ⟨rfl, trivial⟩)) ?_
        refine r_op rfl rfl (PureD.opD (p_lenl rfl Try.underlying22 rfl rfl)) ?_
        refine r_op rfl rfl (PureD.opD (p_move rfl rfl)) ?_
        refine r_op rfl rfl (PureD.opD (p_lenl rfl Try.underlying22 rfl rfl)) ?_
        refine r_op rfl rfl (PureD.opD (p_ine rfl rfl rfl)) ?_
        refine RunW_st [(41, .c (.p (.bool (decide ((r'12.length : Int) ≠ (l0.length : Int))))))] [] rfl ⟨TLes.same _, trivial⟩ trivial ?_
        refine RunW_nil ?_
        refine AW2_if (p := (r'12.length : Int) ≠ (l0.length : Int)) rfl (fun h15 => ?_) (fun h15 => ?_)
        · replace H := ite_then h15 H
          refine AW2_seq ?_
          refine AW2_reg [0] rfl ?_
          refine r_op rfl rfl (PureD.opD (p_asg rfl rfl)) ?_
          refine RunW_st [(2, .c (.p (AV.int (11 : Int))))] [] rfl ⟨TLes.same _, trivial⟩ trivial ?_
          refine RunW_nil ?_
          refine AW2_ret ?_
          have hz := some_elim H
          subst hz
          exact ⟨⟨res_tmp (.same _), trivial⟩, trivial⟩
        · replace H := ite_else h15 H
          refine AW2_st [] [] rfl trivial trivial ?_
          refine AW2_skip ?_
          refine AW2_seq ?_
          refine AW2_reg [0] rfl ?_
          refine r_op rfl rfl (PureD.opD (p_asg rfl rfl)) ?_
          refine RunW_st [(2, .c (.p (AV.int (0 : Int))))] [] rfl ⟨TLes.same _, trivial⟩ trivial ?_
          refine RunW_nil ?_
          refine AW2_ret ?_
          have hz := some_elim H
          subst hz
          exact ⟨⟨res_tmp (.same _), trivial⟩, trivial⟩

/-! chirographref.grantBounds$1 -/
noncomputable def g_ref_grantBounds_1 (n0 : Int) (many1 : Int) : Option (Bool) :=
  some (decide ((n0 ≥ (0 : Int)) ∧ (n0 < many1)))
set_option maxHeartbeats 4000000 in
set_option maxRecDepth 100000 in
theorem g_ref_grantBounds_1_ac {n0 : Int} {many1 : Int} {r : Bool} (H : g_ref_grantBounds_1 n0 many1 = some r) : ACp Try.prog 32 [(AV.int n0), (AV.int many1)] (AV.bool r) := by
  refine ACp_of (AC2_of_body (vs := [.c (.p (AV.bool r))]) Try.func32 rfl rfl (Nat.le_of_ble_eq_true rfl) rfl ?_) (fun _ => .same _)
  unfold g_ref_grantBounds_1 at H
  refine AW2_st [(0, .c (.p (AV.int n0))), (1, .c (.p (AV.int many1)))] [] rfl ⟨TLes.same _, TLes.same _, trivial⟩ trivial ?_
  refine AW2_seq ?_
  refine AW2_reg [0] rfl ?_
  refine r_op rfl rfl (PureD.opD (p_asg rfl rfl)) ?_
  refine RunW_st [(0, .c (.p (AV.int n0))), (1, .c (.p (AV.int many1)))] [] rfl ⟨TLes.same _, TLes.same _, trivial⟩ trivial ?_
  refine RunW_nil ?_
  refine AW2_seq ?_
  refine AW2_mid (⟨[(4, .c (.p (.bool (decide ((n0 ≥ (0 : Int)) ∧ (n0 < many1))))))], [], 12⟩ : TS) ?_ ?_
  · refine AW2_reg [0, 1, 2, 3, 4, 5, 6, 7] rfl ?_
    refine r_op rfl rfl (PureD.opD (p_move rfl rfl)) ?_
    refine r_op rfl rfl (PureD.opD (p_bin rfl rfl rfl rfl)) ?_
    refine r_op rfl rfl (PureD.opD (p_move rfl rfl)) ?_
    refine (Classical.em (n0 ≥ (0 : Int))).elim (fun h1 => ?_) (fun h1 => ?_)
    · refine r_on rfl rfl rfl rfl (decide_eq_true (p := n0 ≥ (0 : Int)) h1) rfl (PureD.opD (p_move rfl rfl)) ?_
      refine r_on rfl rfl rfl rfl (decide_eq_true (p := n0 ≥ (0 : Int)) h1) rfl (PureD.opD (p_move rfl rfl)) ?_
      refine r_on rfl rfl rfl rfl (decide_eq_true (p := n0 ≥ (0 : Int)) h1) rfl (PureD.opD (p_bin rfl rfl rfl rfl)) ?_
      refine r_op rfl rfl (PureD.opD (p_pkt rfl rfl (decide_eq_true (p := n0 ≥ (0 : Int)) h1) (tb ((and_l (p := n0 ≥ (0 : Int)) (q := n0 < many1) h1))))) ?_
      refine r_op rfl rfl (PureD.opD (p_asg rfl rfl)) ?_
      refine RunW_st [(4, .c (.p (.bool (decide ((n0 ≥ (0 : Int)) ∧ (n0 < many1))))))] [] rfl ⟨TLes.same _, trivial⟩ trivial ?_
      exact RunW_nil rfl
    · refine r_off rfl rfl rfl rfl (decide_eq_false (p := n0 ≥ (0 : Int)) h1) rfl rfl ?_
      refine r_off rfl rfl rfl rfl (decide_eq_false (p := n0 ≥ (0 : Int)) h1) rfl rfl ?_
      refine r_off rfl rfl rfl rfl (decide_eq_false (p := n0 ≥ (0 : Int)) h1) rfl rfl ?_
      refine r_op rfl rfl (PureD.opD (p_pkf rfl rfl (decide_eq_false (p := n0 ≥ (0 : Int)) h1) (tb (decide_eq_false (p := (n0 ≥ (0 : Int)) ∧ (n0 < many1)) (fun x => h1 x.1)).symm))) ?_
      refine r_op rfl rfl (PureD.opD (p_asg rfl rfl)) ?_
      refine RunW_st [(4, .c (.p (.bool (decide ((n0 ≥ (0 : Int)) ∧ (n0 < many1))))))] [] rfl ⟨TLes.same _, trivial⟩ trivial ?_
      exact RunW_nil rfl
  · refine AW2_ret ?_
    have hz := some_elim H
    subst hz
    exact ⟨⟨res_tmp (.same _), trivial⟩, trivial⟩

/-! chirographref.Owner -/
noncomputable def g_ref_Owner (object0 : Int) : Option (Int) :=
  some (w64 (object0.tdiv (4 : Int)))
set_option maxHeartbeats 4000000 in
set_option maxRecDepth 100000 in
theorem g_ref_Owner_ac {object0 : Int} {r : Int} (H : g_ref_Owner object0 = some r) : ACp Try.prog 33 [(AV.int object0)] (AV.int r) := by
  refine ACp_of (AC2_of_body (vs := [.c (.p (AV.int r))]) Try.func33 rfl rfl (Nat.le_of_ble_eq_true rfl) rfl ?_) (fun _ => .same _)
  unfold g_ref_Owner at H
  refine AW2_st [(0, .c (.p (AV.int object0)))] [] rfl ⟨TLes.same _, trivial⟩ trivial ?_
  refine AW2_seq ?_
  refine AW2_reg [0] rfl ?_
  refine r_op rfl rfl (PureD.opD (p_asg rfl rfl)) ?_
  refine RunW_st [(0, .c (.p (AV.int object0)))] [] rfl ⟨TLes.same _, trivial⟩ trivial ?_
  refine RunW_nil ?_
  refine AW2_seq ?_
  refine AW2_reg [0, 1, 2] rfl ?_
  refine r_op rfl rfl (PureD.opD (p_move rfl rfl)) ?_
  refine r_op rfl rfl (PureD.opD (p_iquo rfl rfl rfl (by decide))) ?_
  refine r_op rfl rfl (PureD.opD (p_asg rfl rfl)) ?_
  refine RunW_st [(2, .c (.p (AV.int (w64 (object0.tdiv (4 : Int))))))] [] rfl ⟨TLes.same _, trivial⟩ trivial ?_
  refine RunW_nil ?_
  refine AW2_ret ?_
  have hz := some_elim H
  subst hz
  exact ⟨⟨res_tmp (.same _), trivial⟩, trivial⟩
end Go.Proofs.Ytgbfmldbbnhefaa.VM
