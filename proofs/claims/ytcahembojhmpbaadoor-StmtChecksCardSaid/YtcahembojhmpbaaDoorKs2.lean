/- Functions of the program, as they answer, and that their code comes to these answers. -/
import Derived.Test.YtcahembojhmpbaaDoorKs1
namespace Go.Proofs.YtcahembojhmpbaaDoor.VM
open Go Go.RowKit

theorem in_4 : Info Tryd.prog 4 1 1 (.bool false) := by unfold Info; kernel_rfl
theorem one_4 : (.bool false : Value).cells.all (·.oneCell') = true := by kernel_rfl
theorem zc_4 : ((.bool false : Value).cells.toList.map zcell) = [(AV.bool false)] := by rfl
theorem in_64 : Info Tryd.prog 64 2 16 (.agg #[.int .i64 0, .bool false]) := by unfold Info; kernel_rfl
theorem one_64 : (.agg #[.int .i64 0, .bool false] : Value).cells.all (·.oneCell') = true := by kernel_rfl
theorem zc_64 : ((.agg #[.int .i64 0, .bool false] : Value).cells.toList.map zcell) = GSort.cs GSort.zero := by rfl
theorem pl_64 : placesOf Tryd.prog 64 = some [(0, 1), (1, 1)] := by kernel_rfl
theorem in_59 : Info Tryd.prog 59 3 32 (.agg #[.string ⟨#[]⟩, .int .i64 0, .bool false]) := by unfold Info; kernel_rfl
theorem one_59 : (.agg #[.string ⟨#[]⟩, .int .i64 0, .bool false] : Value).cells.all (·.oneCell') = true := by kernel_rfl
theorem zc_59 : ((.agg #[.string ⟨#[]⟩, .int .i64 0, .bool false] : Value).cells.toList.map zcell) = GColumn.cs GColumn.zero := by rfl
theorem pl_59 : placesOf Tryd.prog 59 = some [(0, 1), (1, 1), (2, 1)] := by kernel_rfl
theorem in_43 : Info Tryd.prog 43 29 392 (.agg #[.int .i64 0, .int .i64 0, .string ⟨#[]⟩, .int .i64 0, .slice none 0 0, .slice none 0 0, .slice none 0 0, .int .i64 0, .int .i64 0, .int .i64 0, .int .u64 0, .string ⟨#[]⟩, .string ⟨#[]⟩, .slice none 0 0, .slice none 0 0, .int .i64 0, .int .i64 0, .int .i64 0, .int .u64 0, .string ⟨#[]⟩, .string ⟨#[]⟩, .slice none 0 0, .string ⟨#[]⟩, .slice none 0 0, .bool false, .int .i64 0, .int .i64 0, .int .i64 0, .bool false]) := by unfold Info; kernel_rfl
theorem one_43 : (.agg #[.int .i64 0, .int .i64 0, .string ⟨#[]⟩, .int .i64 0, .slice none 0 0, .slice none 0 0, .slice none 0 0, .int .i64 0, .int .i64 0, .int .i64 0, .int .u64 0, .string ⟨#[]⟩, .string ⟨#[]⟩, .slice none 0 0, .slice none 0 0, .int .i64 0, .int .i64 0, .int .i64 0, .int .u64 0, .string ⟨#[]⟩, .string ⟨#[]⟩, .slice none 0 0, .string ⟨#[]⟩, .slice none 0 0, .bool false, .int .i64 0, .int .i64 0, .int .i64 0, .bool false] : Value).cells.all (·.oneCell') = true := by kernel_rfl
theorem zc_43 : ((.agg #[.int .i64 0, .int .i64 0, .string ⟨#[]⟩, .int .i64 0, .slice none 0 0, .slice none 0 0, .slice none 0 0, .int .i64 0, .int .i64 0, .int .i64 0, .int .u64 0, .string ⟨#[]⟩, .string ⟨#[]⟩, .slice none 0 0, .slice none 0 0, .int .i64 0, .int .i64 0, .int .i64 0, .int .u64 0, .string ⟨#[]⟩, .string ⟨#[]⟩, .slice none 0 0, .string ⟨#[]⟩, .slice none 0 0, .bool false, .int .i64 0, .int .i64 0, .int .i64 0, .bool false] : Value).cells.toList.map zcell) = GCommand.cs GCommand.zero := by rfl
theorem pl_43 : placesOf Tryd.prog 43 = some [(0, 1), (1, 1), (2, 1), (3, 1), (4, 1), (5, 1), (6, 1), (7, 7), (14, 12), (26, 1), (27, 1), (28, 1)] := by kernel_rfl

/-! stmt.sober$1 -/
noncomputable def g_stmt_sober_1_i0_l0 (l0 : List Int) (t1 : GCommand) : Int → Option (Int ⊕ (Bool ⊕ Unit))
  | t8_0 => (if t8_0 < (l0.length : Int) then if 0 ≤ t8_0 ∧ t8_0 < (l0.length : Int) then (if (lrd l0 t8_0.toNat) = t1.Kind then some (.inr (.inl true)) else some (.inl (w64 (t8_0 + (1 : Int))))) else none else some (.inr (.inr ())))
noncomputable def g_stmt_sober_1_i0 (l0 : List Int) (t1 : GCommand) : Option (Bool) :=
  (loopO (g_stmt_sober_1_i0_l0 l0 t1) (0 : Int)).bind fun o'4 => match o'4 with | .inl y'5 => some y'5 | .inr (y'6) => some false
set_option maxHeartbeats 4000000 in
set_option maxRecDepth 100000 in
theorem g_stmt_sober_1_i0_ac {l0 : List Int} {t1 : GCommand} {r : Bool} (H : g_stmt_sober_1_i0 l0 t1 = some r) : ACp Tryd.prog 52 [((fun q : List Int => AV.lst (q.map AV.int) q.length) l0), .rptr (GCommand.cs t1) 0] (AV.bool r) := by
 refine ACp_of (AC2_of_body (vs := [.b r]) Tryd.func52 rfl rfl (Nat.le_of_ble_eq_true rfl) rfl ?_) (fun _ => .same _)
 unfold g_stmt_sober_1_i0 at H
 refine as2 [(0, .p ((fun q : List Int => AV.lst (q.map AV.int) q.length) l0)), (1, .p (.rptr (GCommand.cs t1) (0)))] [] rfl rfl rfl ?_
 refine sg [0] rfl ?_
 refine rp rfl rfl (p_asg rfl rfl) ?_
 refine rz [(0, .p ((fun q : List Int => AV.lst (q.map AV.int) q.length) l0)), (1, .p (.rptr (GCommand.cs t1) (0)))] [] rfl rfl rfl ?_
 refine AW2_seq ?_
 refine sg [0, 1, 2] rfl ?_
 refine rp rfl rfl (p_move rfl rfl) ?_
 refine rp rfl rfl (p_lenl rfl Tryd.underlying76 rfl rfl) ?_
 refine rp rfl rfl (p_move rfl rfl) ?_
 refine rz [(1, .p (.rptr (GCommand.cs t1) (0))), (6, .p ((fun q : List Int => AV.lst (q.map AV.int) q.length) l0)), (7, .i (l0.length : Int)), (8, .i (0 : Int))] [] rfl rfl rfl ?_
 refine AW2_block ?_
 refine as2 [(1, .p (.rptr (GCommand.cs t1) (0))), (6, .p ((fun q : List Int => AV.lst (q.map AV.int) q.length) l0)), (7, .i (l0.length : Int)), (8, .i (0 : Int))] [] rfl rfl rfl ?_
 refine bindK H fun o'4 h4 H => ?_
 refine AW2_loopO (fun a'1 : Int => (⟨[(1, .p (.rptr (GCommand.cs t1) (0))), (6, .p ((fun q : List Int => AV.lst (q.map AV.int) q.length) l0)), (7, .i (l0.length : Int)), (8, .i a'1)], [], 17⟩ : TS)) (fun (o : Bool ⊕ Unit) e s' => match o with | .inl y'2 => e = Go.Exit.ret ∧ ResAll Tryd.prog s' [ResultVar.tmp 3] [.b y'2] ∧ HFits s' [] | .inr (y'3) => e = Go.Exit.exit 0 ∧ s' = (⟨[], [], 17⟩ : TS)) h4 rfl (fun t8_0 x hx => ?_) (fun e s' hs => ?_)
 ·clear H
  have H := hx
  clear hx
  unfold g_stmt_sober_1_i0_l0 at H
  refine sg [0] rfl ?_
  refine rp rfl rfl (p_bin rfl rfl rfl rfl) ?_
  refine rz [(1, .p (.rptr (GCommand.cs t1) (0))), (6, .p ((fun q : List Int => AV.lst (q.map AV.int) q.length) l0)), (7, .i (l0.length : Int)), (8, .i t8_0), (9, .b (decide (t8_0 < (l0.length : Int))))] [] rfl rfl rfl ?_
  refine AW2_seq ?_
  refine AW2_if (p := t8_0 < (l0.length : Int)) rfl (fun h1 => ?_) (fun h1 => ?_)
  ·replace H := ite_then h1 H
   refine as2 [(1, .p (.rptr (GCommand.cs t1) (0))), (6, .p ((fun q : List Int => AV.lst (q.map AV.int) q.length) l0)), (7, .i (l0.length : Int)), (8, .i t8_0)] [] rfl rfl rfl ?_
   refine AW2_skip ?_
   refine AW2_seq ?_
   refine AW2_block ?_
   refine sg [0, 1, 2] rfl ?_
   refine chkK H fun h2 H => ?_
   refine rp rfl rfl (u_ixl rfl rfl Tryd.underlying76 in_3 rfl rfl (ixe h2) (ixn h2) (lne (ixn h2))) ?_
   refine rp rfl rfl (u_ld rfl rfl Tryd.underlying3 rfl rfl (Sub.map default (ixn h2))) ?_
   refine rp rfl rfl (p_asg rfl rfl) ?_
   refine rz [(1, .p (.rptr (GCommand.cs t1) (0))), (5, .i (lrd l0 t8_0.toNat)), (6, .p ((fun q : List Int => AV.lst (q.map AV.int) q.length) l0)), (7, .i (l0.length : Int)), (8, .i t8_0)] [] rfl rfl rfl ?_
   refine sg [0, 1, 2, 3] rfl ?_
   refine rp rfl rfl (p_move rfl rfl) ?_
   refine rp rfl rfl (u_far rfl rfl Tryd.underlying43 rfl in_3 (Nat.succ_ne_zero _) rfl) ?_
   refine rp rfl rfl (u_ld rfl rfl Tryd.underlying3 rfl rfl ((Sub.refl _).trans (GCommand.sub0 t1))) ?_
   refine rp rfl rfl (p_ieq rfl rfl rfl) ?_
   refine rz [(1, .p (.rptr (GCommand.cs t1) (0))), (6, .p ((fun q : List Int => AV.lst (q.map AV.int) q.length) l0)), (7, .i (l0.length : Int)), (8, .i t8_0), (15, .b (decide ((lrd l0 t8_0.toNat) = t1.Kind)))] [] rfl rfl rfl ?_
   refine AW2_if (p := (lrd l0 t8_0.toNat) = t1.Kind) rfl (fun h3 => ?_) (fun h3 => ?_)
   ·replace H := ite_then h3 H
    refine sg [0] rfl ?_
    refine rp rfl rfl (p_asg rfl rfl) ?_
    refine rz [(3, .b true)] [] rfl rfl rfl ?_
    refine AW2_ret ?_
    have hz := some_elim H
    subst hz
    exact ⟨rfl, ⟨res_tmp (.same _), trivial⟩, trivial⟩
   ·replace H := ite_else h3 H
    refine as2 [(1, .p (.rptr (GCommand.cs t1) (0))), (6, .p ((fun q : List Int => AV.lst (q.map AV.int) q.length) l0)), (7, .i (l0.length : Int)), (8, .i t8_0)] [] rfl rfl rfl ?_
    refine AW2_skip ?_
    refine AW2_reg [0, 1] rfl ?_
    refine rp rfl rfl (p_bin rfl rfl rfl rfl) ?_
    refine rp rfl rfl (p_move rfl rfl) ?_
    refine rz [(1, .p (.rptr (GCommand.cs t1) (0))), (6, .p ((fun q : List Int => AV.lst (q.map AV.int) q.length) l0)), (7, .i (l0.length : Int)), (8, .i (w64 (t8_0 + (1 : Int))))] [] rfl rfl rfl ?_
    have hz := some_elim H
    subst hz
    exact ⟨rfl, rfl⟩
  ·replace H := ite_else h1 H
   refine as2 [] [] rfl rfl rfl ?_
   refine AW2_exit ?_
   refine thenQ2_exit ?_
   have hz := some_elim H
   subst hz
   exact ⟨rfl, rfl⟩
 ·rcases o'4 with y'5 | y'6
  ·obtain ⟨rfl, hs⟩ := hs
   refine ⟨by simp, ?_⟩
   have hz := some_elim H
   subst hz
   exact ⟨hs.1, hs.2⟩
  ·obtain ⟨rfl, rfl⟩ := hs
   refine ⟨by simp, ?_⟩
   refine blockQ2_exit ?_
   refine sg [0] rfl ?_
   refine rp rfl rfl (p_asg rfl rfl) ?_
   refine rz [(3, .b false)] [] rfl rfl rfl ?_
   refine AW2_ret ?_
   have hz := some_elim H
   subst hz
   exact ⟨⟨res_tmp (.same _), trivial⟩, trivial⟩

/-! stmt.sober -/
noncomputable def g_stmt_sober (c0 : GCommand) : Option (Bool) :=
  ((if (c0.Query.Items.length : Int) > (0 : Int) then some true else (g_stmt_none c0.Query.Where).bind fun r'2 => (if (!r'2) = true then some true else (if c0.Query.Group ≠ [] then some true else (if (c0.Query.Sorts.length : Int) > (0 : Int) then some true else (if c0.Query.Cut = true then some true else some (decide (c0.Query.Most ≠ (0 : Int))))))))).bind fun g'3 => ((g_stmt_sober_1_i0 ([(1 : Int)] : List Int) c0).bind fun r'6 => (if (!r'6) = true then some true else some (decide (c0.Owner = (0 : Int))))).bind fun g'7 => ((if g'7 = true then (g_stmt_sober_1_i0 ([(1 : Int), (5 : Int)] : List Int) c0).bind fun r'8 => (if (!r'8) = true then some true else some (decide (c0.Drawer = (0 : Int)))) else some false)).bind fun g'9 => ((if g'9 = true then (g_stmt_sober_1_i0 ([(1 : Int)] : List Int) c0).bind fun r'10 => (if r'10 = true then some true else some (decide ((c0.Cols.length : Int) = (0 : Int)))) else some false)).bind fun g'11 => ((if g'11 = true then (g_stmt_sober_1_i0 ([(2 : Int)] : List Int) c0).bind fun r'12 => (if r'12 = true then some true else some (decide ((c0.Row.length : Int) = (0 : Int)))) else some false)).bind fun g'13 => ((if g'13 = true then (g_stmt_sober_1_i0 ([(3 : Int)] : List Int) c0).bind fun r'14 => (if r'14 = true then some true else some (decide ((c0.Sets.length : Int) = (0 : Int)))) else some false)).bind fun g'15 => ((if g'15 = true then (g_stmt_sober_1_i0 ([(3 : Int), (4 : Int)] : List Int) c0).bind fun r'16 => (if r'16 = true then some true else (g_stmt_none c0.Where).bind fun r'17 => some r'17) else some false)).bind fun g'18 => ((if g'18 = true then (g_stmt_sober_1_i0 ([(5 : Int)] : List Int) c0).bind fun r'19 => (if r'19 = true then some true else some (!g'3)) else some false)).bind fun g'20 => ((if g'20 = true then (g_stmt_sober_1_i0 ([(6 : Int), (7 : Int)] : List Int) c0).bind fun r'21 => (if r'21 = true then some true else (if c0.To = (0 : Int) then some (decide (c0.Right = (0 : Int))) else some false)) else some false)).bind fun g'22 => ((if g'22 = true then (g_stmt_sober_1_i0 ([(6 : Int)] : List Int) c0).bind fun r'23 => (if r'23 = true then some true else some (!c0.Option_)) else some false)).bind fun g'24 => (some ()).bind fun g'25 => some g'24
set_option maxHeartbeats 4000000 in
set_option maxRecDepth 100000 in
theorem g_stmt_sober_ac {c0 : GCommand} {r : Bool} (H : g_stmt_sober c0 = some r) : ACp Tryd.prog 30 [(.agg (GCommand.cs c0))] (AV.bool r) := by
 refine ACp_of (AC2_of_body (vs := [.b r]) Tryd.func30 rfl rfl (Nat.le_of_ble_eq_true rfl) rfl ?_) (fun _ => .same _)
 unfold g_stmt_sober at H
 refine as2 [(0, .g (GCommand.cs c0))] [] rfl rfl rfl ?_
 refine sg [0, 1] rfl ?_
 refine r_op rfl rfl (MakeD.opD (n_box 1 rfl rfl) rfl rfl rfl rfl) ?_
 refine rp rfl rfl (p_asg rfl rfl) ?_
 refine rz [(1, .q 1 (0))] [(1, .pure (GCommand.cs c0))] rfl rfl rfl ?_
 refine sg [0, 1] rfl ?_
 refine rp rfl rfl (p_mkfn (caps := [(.ptr 1 (0))]) rfl ⟨⟨rfl, rfl⟩, trivial⟩) ?_
 refine rp rfl rfl (p_asg rfl rfl) ?_
 refine RunW_st [(1, .q 1 (0)), (3, .clo 52 [(.ptr 1 (0))])] [(1, .pure (GCommand.cs c0))] rfl ⟨TLes.same _, (fun _ => .same _), trivial⟩ ⟨rfl, trivial⟩ ?_
 refine RunW_nil ?_
 refine sg [0, 1, 2, 3] rfl ?_
 refine rp rfl rfl (u_fa rfl rfl Tryd.underlying43 rfl in_37 (Nat.succ_ne_zero _) rfl rfl (ne_of_lt (n := 0) (Nat.lt_of_lt_of_eq (by decide) (Eq.symm (GCommand.len c0))))) ?_
 refine rp rfl rfl (u_lda rfl rfl Tryd.underlying37 rfl in_37 rfl (Nat.succ_pos _) ((Sub.refl _).trans (GCommand.sub8 c0)) (GQuery.len c0.Query)) ?_
 refine r_op rfl rfl (MakeD.opD (u_alloc 4 rfl in_37 one_37 zc_37) rfl rfl rfl rfl) ?_
 refine r_op rfl rfl (u_st rfl rfl rfl rfl rfl in_37 (GQuery.len c0.Query) (ne_of_lt (n := 0) (Nat.lt_of_lt_of_eq (by decide) (Eq.symm (GQuery.len GQuery.zero)))) (Upd.refl ((GQuery.len c0.Query).trans (GQuery.len GQuery.zero).symm))) ?_
 refine RunW_st [(1, .q 1 (0)), (3, .clo 52 [(.ptr 1 (0))]), (4, .q 4 (0))] [(1, .pure (GCommand.cs c0)), (4, .pure (GQuery.cs c0.Query))] rfl ⟨TLes.same _, (fun _ => .same _), TLes.same _, trivial⟩ ⟨rfl, rfl, trivial⟩ ?_
 refine RunW_nil ?_
 refine AW2_seq ?_
 refine bindK H fun g'3 h8 H => ?_
 refine AW2_mid (⟨[(1, .q 1 (0)), (3, .clo 52 [(.ptr 1 (0))]), (5, .b g'3)], [(1, .pure (GCommand.cs c0))], 136⟩ : TS) ?_ ?_
 ·clear H
  have H := h8
  clear h8
  refine AW2_reg [0, 1, 2, 3, 4, 5, 6, 7, 8, 9, 10, 11, 12, 13, 14, 15, 16, 17, 18, 19, 20, 21, 22, 23, 24, 25, 26, 27, 28, 29, 30] rfl ?_
  refine rp rfl rfl (u_fa rfl rfl Tryd.underlying37 rfl in_34 (Nat.succ_ne_zero _) rfl rfl (ne_of_lt (n := 0) (Nat.lt_of_lt_of_eq (by decide) (Eq.symm (GQuery.len c0.Query))))) ?_
  refine rp rfl rfl (u_ld rfl rfl Tryd.underlying34 rfl rfl ((Sub.refl _).trans (GQuery.sub0 c0.Query))) ?_
  refine rp rfl rfl (p_lenl rfl Tryd.underlying34 rfl rfl) ?_
  refine rp rfl rfl (p_bin rfl rfl rfl rfl) ?_
  refine rp rfl rfl (p_move rfl rfl) ?_
  refine (Classical.em ((c0.Query.Items.length : Int) > (0 : Int))).elim (fun h2 => ?_) (fun h2 => ?_)
  ·replace H := ite_then h2 H
   iterate 4 (refine r_off rfl rfl rfl rfl (decide_eq_true h2) rfl rfl ?_)
   refine rp rfl rfl (p_pkt rfl rfl (decide_eq_true h2) (.same _)) ?_
   refine rp rfl rfl (p_move rfl rfl) ?_
   iterate 3 (refine r_off rfl rfl rfl rfl rfl rfl rfl ?_)
   refine rp rfl rfl (p_pkt rfl rfl rfl (.same _)) ?_
   refine rp rfl rfl (p_move rfl rfl) ?_
   iterate 4 (refine r_off rfl rfl rfl rfl rfl rfl rfl ?_)
   refine rp rfl rfl (p_pkt rfl rfl rfl (.same _)) ?_
   refine rp rfl rfl (p_move rfl rfl) ?_
   iterate 2 (refine r_off rfl rfl rfl rfl rfl rfl rfl ?_)
   refine rp rfl rfl (p_pkt rfl rfl rfl (.same _)) ?_
   refine rp rfl rfl (p_move rfl rfl) ?_
   iterate 3 (refine r_off rfl rfl rfl rfl rfl rfl rfl ?_)
   refine rp rfl rfl (p_pkt rfl rfl rfl (.same _)) ?_
   refine rp rfl rfl (p_asg rfl rfl) ?_
   refine RunW_st [(1, .q 1 (0)), (3, .clo 52 [(.ptr 1 (0))]), (5, .b true)] [(1, .pure (GCommand.cs c0))] rfl ⟨TLes.same _, (fun _ => .same _), TLes.same _, trivial⟩ ⟨rfl, trivial⟩ ?_
   have hz := some_elim H
   subst hz
   exact RunW_nil rfl
  ·replace H := ite_else h2 H
   refine r_on rfl rfl rfl rfl (decide_eq_false h2) rfl (PureD.opD (u_fa rfl rfl Tryd.underlying37 rfl in_27 (Nat.succ_ne_zero _) rfl rfl (ne_of_lt (n := 0) (Nat.lt_of_lt_of_eq (by decide) (Eq.symm (GQuery.len c0.Query)))))) ?_
   refine r_on rfl rfl rfl rfl (decide_eq_false h2) rfl (PureD.opD (u_lda rfl rfl Tryd.underlying27 rfl in_27 rfl (Nat.succ_pos _) ((Sub.refl _).trans (GQuery.sub1 c0.Query)) (GExpr.len c0.Query.Where))) ?_
   refine bindK H fun r'2 h3 H => ?_
   refine r_on rfl rfl rfl rfl (decide_eq_false h2) rfl (PureD.opD (p_callp rfl rfl rfl Tryd.func53 rfl rfl (g_stmt_none_ac h3) ⟨rfl, trivial⟩)) ?_
   refine r_on rfl rfl rfl rfl (decide_eq_false h2) rfl (PureD.opD (p_not rfl rfl)) ?_
   refine rp rfl rfl (p_pkf rfl rfl (decide_eq_false h2) (.same _)) ?_
   refine rp rfl rfl (p_move rfl rfl) ?_
   refine (Classical.em ((!r'2) = true)).elim (fun h4 => ?_) (fun h4 => ?_)
   ·replace H := ite_then h4 H
    iterate 3 (refine r_off rfl rfl rfl rfl h4 rfl rfl ?_)
    refine rp rfl rfl (p_pkt rfl rfl h4 (.same _)) ?_
    refine rp rfl rfl (p_move rfl rfl) ?_
    iterate 4 (refine r_off rfl rfl rfl rfl rfl rfl rfl ?_)
    refine rp rfl rfl (p_pkt rfl rfl rfl (.same _)) ?_
    refine rp rfl rfl (p_move rfl rfl) ?_
    iterate 2 (refine r_off rfl rfl rfl rfl rfl rfl rfl ?_)
    refine rp rfl rfl (p_pkt rfl rfl rfl (.same _)) ?_
    refine rp rfl rfl (p_move rfl rfl) ?_
    iterate 3 (refine r_off rfl rfl rfl rfl rfl rfl rfl ?_)
    refine rp rfl rfl (p_pkt rfl rfl rfl (.same _)) ?_
    refine rp rfl rfl (p_asg rfl rfl) ?_
    refine RunW_st [(1, .q 1 (0)), (3, .clo 52 [(.ptr 1 (0))]), (5, .b true)] [(1, .pure (GCommand.cs c0))] rfl ⟨TLes.same _, (fun _ => .same _), TLes.same _, trivial⟩ ⟨rfl, trivial⟩ ?_
    have hz := some_elim H
    subst hz
    exact RunW_nil rfl
   ·replace H := ite_else h4 H
    refine r_on rfl rfl rfl rfl (bfalse h4) rfl (PureD.opD (u_fa rfl rfl Tryd.underlying37 rfl in_9 (Nat.succ_ne_zero _) rfl rfl (ne_of_lt (n := 0) (Nat.lt_of_lt_of_eq (by decide) (Eq.symm (GQuery.len c0.Query)))))) ?_
    refine r_on rfl rfl rfl rfl (bfalse h4) rfl (PureD.opD (u_ld rfl rfl Tryd.underlying9 rfl rfl ((Sub.refl _).trans (GQuery.sub2 c0.Query)))) ?_
    refine r_on rfl rfl rfl rfl (bfalse h4) rfl (PureD.opD (p_sne rfl rfl rfl)) ?_
    refine rp rfl rfl (p_pkf rfl rfl (bfalse h4) (.same _)) ?_
    refine rp rfl rfl (p_move rfl rfl) ?_
    refine (Classical.em (c0.Query.Group ≠ [])).elim (fun h5 => ?_) (fun h5 => ?_)
    ·replace H := ite_then h5 H
     iterate 4 (refine r_off rfl rfl rfl rfl (decide_eq_true h5) rfl rfl ?_)
     refine rp rfl rfl (p_pkt rfl rfl (decide_eq_true h5) (.same _)) ?_
     refine rp rfl rfl (p_move rfl rfl) ?_
     iterate 2 (refine r_off rfl rfl rfl rfl rfl rfl rfl ?_)
     refine rp rfl rfl (p_pkt rfl rfl rfl (.same _)) ?_
     refine rp rfl rfl (p_move rfl rfl) ?_
     iterate 3 (refine r_off rfl rfl rfl rfl rfl rfl rfl ?_)
     refine rp rfl rfl (p_pkt rfl rfl rfl (.same _)) ?_
     refine rp rfl rfl (p_asg rfl rfl) ?_
     refine RunW_st [(1, .q 1 (0)), (3, .clo 52 [(.ptr 1 (0))]), (5, .b true)] [(1, .pure (GCommand.cs c0))] rfl ⟨TLes.same _, (fun _ => .same _), TLes.same _, trivial⟩ ⟨rfl, trivial⟩ ?_
     have hz := some_elim H
     subst hz
     exact RunW_nil rfl
    ·replace H := ite_else h5 H
     refine r_on rfl rfl rfl rfl (decide_eq_false h5) rfl (PureD.opD (u_fa rfl rfl Tryd.underlying37 rfl in_35 (Nat.succ_ne_zero _) rfl rfl (ne_of_lt (n := 0) (Nat.lt_of_lt_of_eq (by decide) (Eq.symm (GQuery.len c0.Query)))))) ?_
     refine r_on rfl rfl rfl rfl (decide_eq_false h5) rfl (PureD.opD (u_ld rfl rfl Tryd.underlying35 rfl rfl ((Sub.refl _).trans (GQuery.sub3 c0.Query)))) ?_
     refine r_on rfl rfl rfl rfl (decide_eq_false h5) rfl (PureD.opD (p_lenl rfl Tryd.underlying35 rfl rfl)) ?_
     refine r_on rfl rfl rfl rfl (decide_eq_false h5) rfl (PureD.opD (p_bin rfl rfl rfl rfl)) ?_
     refine rp rfl rfl (p_pkf rfl rfl (decide_eq_false h5) (.same _)) ?_
     refine rp rfl rfl (p_move rfl rfl) ?_
     refine (Classical.em ((c0.Query.Sorts.length : Int) > (0 : Int))).elim (fun h6 => ?_) (fun h6 => ?_)
     ·replace H := ite_then h6 H
      iterate 2 (refine r_off rfl rfl rfl rfl (decide_eq_true h6) rfl rfl ?_)
      refine rp rfl rfl (p_pkt rfl rfl (decide_eq_true h6) (.same _)) ?_
      refine rp rfl rfl (p_move rfl rfl) ?_
      iterate 3 (refine r_off rfl rfl rfl rfl rfl rfl rfl ?_)
      refine rp rfl rfl (p_pkt rfl rfl rfl (.same _)) ?_
      refine rp rfl rfl (p_asg rfl rfl) ?_
      refine RunW_st [(1, .q 1 (0)), (3, .clo 52 [(.ptr 1 (0))]), (5, .b true)] [(1, .pure (GCommand.cs c0))] rfl ⟨TLes.same _, (fun _ => .same _), TLes.same _, trivial⟩ ⟨rfl, trivial⟩ ?_
      have hz := some_elim H
      subst hz
      exact RunW_nil rfl
     ·replace H := ite_else h6 H
      refine r_on rfl rfl rfl rfl (decide_eq_false h6) rfl (PureD.opD (u_fa rfl rfl Tryd.underlying37 rfl in_4 (Nat.succ_ne_zero _) rfl rfl (ne_of_lt (n := 0) (Nat.lt_of_lt_of_eq (by decide) (Eq.symm (GQuery.len c0.Query)))))) ?_
      refine r_on rfl rfl rfl rfl (decide_eq_false h6) rfl (PureD.opD (u_ld rfl rfl Tryd.underlying4 rfl rfl ((Sub.refl _).trans (GQuery.sub4 c0.Query)))) ?_
      refine rp rfl rfl (p_pkf rfl rfl (decide_eq_false h6) (.same _)) ?_
      refine rp rfl rfl (p_move rfl rfl) ?_
      refine (Classical.em (c0.Query.Cut = true)).elim (fun h7 => ?_) (fun h7 => ?_)
      ·replace H := ite_then h7 H
       iterate 3 (refine r_off rfl rfl rfl rfl h7 rfl rfl ?_)
       refine rp rfl rfl (p_pkt rfl rfl h7 (.same _)) ?_
       refine rp rfl rfl (p_asg rfl rfl) ?_
       refine RunW_st [(1, .q 1 (0)), (3, .clo 52 [(.ptr 1 (0))]), (5, .b true)] [(1, .pure (GCommand.cs c0))] rfl ⟨TLes.same _, (fun _ => .same _), TLes.same _, trivial⟩ ⟨rfl, trivial⟩ ?_
       have hz := some_elim H
       subst hz
       exact RunW_nil rfl
      ·replace H := ite_else h7 H
       refine r_on rfl rfl rfl rfl (bfalse h7) rfl (PureD.opD (u_fa rfl rfl Tryd.underlying37 rfl in_3 (Nat.succ_ne_zero _) rfl rfl (ne_of_lt (n := 0) (Nat.lt_of_lt_of_eq (by decide) (Eq.symm (GQuery.len c0.Query)))))) ?_
       refine r_on rfl rfl rfl rfl (bfalse h7) rfl (PureD.opD (u_ld rfl rfl Tryd.underlying3 rfl rfl ((Sub.refl _).trans (GQuery.sub5 c0.Query)))) ?_
       refine r_on rfl rfl rfl rfl (bfalse h7) rfl (PureD.opD (p_ine rfl rfl rfl)) ?_
       refine rp rfl rfl (p_pkf rfl rfl (bfalse h7) (.same _)) ?_
       refine rp rfl rfl (p_asg rfl rfl) ?_
       refine RunW_st [(1, .q 1 (0)), (3, .clo 52 [(.ptr 1 (0))]), (5, .b (decide (c0.Query.Most ≠ (0 : Int))))] [(1, .pure (GCommand.cs c0))] rfl ⟨TLes.same _, (fun _ => .same _), TLes.same _, trivial⟩ ⟨rfl, trivial⟩ ?_
       have hz := some_elim H
       subst hz
       exact RunW_nil rfl
 ·refine sg [0, 1, 2, 3, 4, 5, 6, 7, 8, 9, 10, 11, 12, 13, 14, 15, 16, 17, 18, 19, 20, 21, 22, 23, 24, 25, 26, 27, 28, 29, 30, 31, 32, 33, 34, 35, 36, 37, 38, 39, 40, 41, 42, 43, 44, 45, 46, 47, 48, 49, 50, 51, 52, 53, 54, 55, 56, 57, 58, 59, 60, 61, 62, 63, 64, 65, 66, 67, 68, 69, 70, 71, 72, 73, 74, 75, 76, 77, 78, 79, 80, 81, 82, 83, 84, 85, 86, 87, 88, 89, 90, 91, 92, 93, 94, 95, 96, 97] rfl ?_
  refine bindK H fun g'7 h13 H => ?_
  refine RunW_cut [0, 1, 2, 3, 4, 5, 6, 7, 8] [9, 10, 11, 12, 13, 14, 15, 16, 17, 18, 19, 20, 21, 22, 23, 24, 25, 26, 27, 28, 29, 30, 31, 32, 33, 34, 35, 36, 37, 38, 39, 40, 41, 42, 43, 44, 45, 46, 47, 48, 49, 50, 51, 52, 53, 54, 55, 56, 57, 58, 59, 60, 61, 62, 63, 64, 65, 66, 67, 68, 69, 70, 71, 72, 73, 74, 75, 76, 77, 78, 79, 80, 81, 82, 83, 84, 85, 86, 87, 88, 89, 90, 91, 92, 93, 94, 95, 96, 97] (⟨[(1, .q 1 (0)), (3, .clo 52 [(.ptr 1 (0))]), (5, .b g'3), (47, .b g'7)], [(1, .pure (GCommand.cs c0))], 136⟩ : TS) rfl ?_ ?_
  ·clear H
   have H := h13
   clear h13
   refine rp rfl rfl (p_move rfl rfl) ?_
   refine r_op rfl rfl (MakeD.opD (u_bs 40 rfl Tryd.underlying76 in_3 rfl one_3 (by decide) (by decide) rfl rfl rfl) rfl rfl rfl rfl) ?_
   refine bindK H fun r'6 h11 H => ?_
   refine rp rfl rfl (p_callc rfl rfl rfl Tryd.func52 rfl rfl (g_stmt_sober_1_i0_ac h11) rfl ⟨lend_o rfl rfl rfl (ml AV.int ([(1 : Int)] : List Int)) (by decide), lendc_ptr rfl (ne_of_lt (n := 0) (Nat.lt_of_lt_of_eq (by decide) (Eq.symm (GCommand.len c0)))), trivial⟩) ?_
   refine rp rfl rfl (p_not rfl rfl) ?_
   refine rp rfl rfl (p_move rfl rfl) ?_
   refine (Classical.em ((!r'6) = true)).elim (fun h12 => ?_) (fun h12 => ?_)
   ·replace H := ite_then h12 H
    iterate 3 (refine r_off rfl rfl rfl rfl h12 rfl rfl ?_)
    refine rp rfl rfl (p_pkt rfl rfl h12 (.same _)) ?_
    refine RunW_st [(1, .q 1 (0)), (3, .clo 52 [(.ptr 1 (0))]), (5, .b g'3), (47, .b true)] [(1, .pure (GCommand.cs c0))] rfl ⟨TLes.same _, (fun _ => .same _), TLes.same _, TLes.same _, trivial⟩ ⟨rfl, trivial⟩ ?_
    have hz := some_elim H
    subst hz
    exact RunW_nil rfl
   ·replace H := ite_else h12 H
    refine r_on rfl rfl rfl rfl (bfalse h12) rfl (PureD.opD (u_fa rfl rfl Tryd.underlying43 rfl in_3 (Nat.succ_ne_zero _) rfl rfl (ne_of_lt (n := 0) (Nat.lt_of_lt_of_eq (by decide) (Eq.symm (GCommand.len c0)))))) ?_
    refine r_on rfl rfl rfl rfl (bfalse h12) rfl (PureD.opD (u_ld rfl rfl Tryd.underlying3 rfl rfl ((Sub.refl _).trans (GCommand.sub1 c0)))) ?_
    refine r_on rfl rfl rfl rfl (bfalse h12) rfl (PureD.opD (p_ieq rfl rfl rfl)) ?_
    refine rp rfl rfl (p_pkf rfl rfl (bfalse h12) (.same _)) ?_
    refine RunW_st [(1, .q 1 (0)), (3, .clo 52 [(.ptr 1 (0))]), (5, .b g'3), (47, .b (decide (c0.Owner = (0 : Int))))] [(1, .pure (GCommand.cs c0))] rfl ⟨TLes.same _, (fun _ => .same _), TLes.same _, TLes.same _, trivial⟩ ⟨rfl, trivial⟩ ?_
    have hz := some_elim H
    subst hz
    exact RunW_nil rfl
  ·refine bindK H fun g'9 h17 H => ?_
   refine RunW_cut [9, 10, 11, 12, 13, 14, 15, 16, 17, 18, 19] [20, 21, 22, 23, 24, 25, 26, 27, 28, 29, 30, 31, 32, 33, 34, 35, 36, 37, 38, 39, 40, 41, 42, 43, 44, 45, 46, 47, 48, 49, 50, 51, 52, 53, 54, 55, 56, 57, 58, 59, 60, 61, 62, 63, 64, 65, 66, 67, 68, 69, 70, 71, 72, 73, 74, 75, 76, 77, 78, 79, 80, 81, 82, 83, 84, 85, 86, 87, 88, 89, 90, 91, 92, 93, 94, 95, 96, 97] (⟨[(1, .q 1 (0)), (3, .clo 52 [(.ptr 1 (0))]), (5, .b g'3), (58, .b g'9)], [(1, .pure (GCommand.cs c0))], 136⟩ : TS) rfl ?_ ?_
   ·clear H
    have H := h17
    clear h17
    refine rp rfl rfl (p_move rfl rfl) ?_
    refine (Classical.em (g'7 = true)).elim (fun h14 => ?_) (fun h14 => ?_)
    ·replace H := ite_then h14 H
     refine rn rfl rfl rfl rfl h14 rfl (p_move rfl rfl) ?_
     refine r_on rfl rfl rfl rfl h14 rfl (MakeD.opD (u_bs 50 rfl Tryd.underlying76 in_3 rfl one_3 (by decide) (by decide) rfl rfl rfl) rfl rfl rfl rfl) ?_
     refine bindK H fun r'8 h15 H => ?_
     refine rn rfl rfl rfl rfl h14 rfl (p_callc rfl rfl rfl Tryd.func52 rfl rfl (g_stmt_sober_1_i0_ac h15) rfl ⟨lend_o rfl rfl rfl (ml AV.int ([(1 : Int), (5 : Int)] : List Int)) (by decide), lendc_ptr rfl (ne_of_lt (n := 0) (Nat.lt_of_lt_of_eq (by decide) (Eq.symm (GCommand.len c0)))), trivial⟩) ?_
     refine rn rfl rfl rfl rfl h14 rfl (p_not rfl rfl) ?_
     refine rn rfl rfl rfl rfl h14 rfl (p_move rfl rfl) ?_
     refine (Classical.em ((!r'8) = true)).elim (fun h16 => ?_) (fun h16 => ?_)
     ·replace H := ite_then h16 H
      iterate 3 (refine r_off rfl rfl rfl rfl h16 rfl rfl ?_)
      refine rn rfl rfl rfl rfl h14 rfl (p_pkt rfl rfl h16 (.same _)) ?_
      refine rp rfl rfl (p_pkt rfl rfl h14 (.same _)) ?_
      refine RunW_st [(1, .q 1 (0)), (3, .clo 52 [(.ptr 1 (0))]), (5, .b g'3), (58, .b true)] [(1, .pure (GCommand.cs c0))] rfl ⟨TLes.same _, (fun _ => .same _), TLes.same _, TLes.same _, trivial⟩ ⟨rfl, trivial⟩ ?_
      have hz := some_elim H
      subst hz
      exact RunW_nil rfl
     ·replace H := ite_else h16 H
      refine r_on rfl rfl rfl rfl (bfalse h16) rfl (PureD.opD (u_fa rfl rfl Tryd.underlying43 rfl in_3 (Nat.succ_ne_zero _) rfl rfl (ne_of_lt (n := 0) (Nat.lt_of_lt_of_eq (by decide) (Eq.symm (GCommand.len c0)))))) ?_
      refine r_on rfl rfl rfl rfl (bfalse h16) rfl (PureD.opD (u_ld rfl rfl Tryd.underlying3 rfl rfl ((Sub.refl _).trans (GCommand.sub3 c0)))) ?_
      refine r_on rfl rfl rfl rfl (bfalse h16) rfl (PureD.opD (p_ieq rfl rfl rfl)) ?_
      refine rn rfl rfl rfl rfl h14 rfl (p_pkf rfl rfl (bfalse h16) (.same _)) ?_
      refine rp rfl rfl (p_pkt rfl rfl h14 (.same _)) ?_
      refine RunW_st [(1, .q 1 (0)), (3, .clo 52 [(.ptr 1 (0))]), (5, .b g'3), (58, .b (decide (c0.Drawer = (0 : Int))))] [(1, .pure (GCommand.cs c0))] rfl ⟨TLes.same _, (fun _ => .same _), TLes.same _, TLes.same _, trivial⟩ ⟨rfl, trivial⟩ ?_
      have hz := some_elim H
      subst hz
      exact RunW_nil rfl
    ·replace H := ite_else h14 H
     iterate 5 (refine r_off rfl rfl rfl rfl (bfalse h14) rfl rfl ?_)
     iterate 3 (refine r_off2 rfl rfl rfl rfl rfl rfl ?_)
     refine r_off rfl rfl rfl rfl (bfalse h14) rfl rfl ?_
     refine rp rfl rfl (p_pkf rfl rfl (bfalse h14) (.same _)) ?_
     refine RunW_st [(1, .q 1 (0)), (3, .clo 52 [(.ptr 1 (0))]), (5, .b g'3), (58, .b false)] [(1, .pure (GCommand.cs c0))] rfl ⟨TLes.same _, (fun _ => .same _), TLes.same _, TLes.same _, trivial⟩ ⟨rfl, trivial⟩ ?_
     have hz := some_elim H
     subst hz
     exact RunW_nil rfl
   ·refine bindK H fun g'11 h21 H => ?_
    refine RunW_cut [20, 21, 22, 23, 24, 25, 26, 27, 28, 29, 30] [31, 32, 33, 34, 35, 36, 37, 38, 39, 40, 41, 42, 43, 44, 45, 46, 47, 48, 49, 50, 51, 52, 53, 54, 55, 56, 57, 58, 59, 60, 61, 62, 63, 64, 65, 66, 67, 68, 69, 70, 71, 72, 73, 74, 75, 76, 77, 78, 79, 80, 81, 82, 83, 84, 85, 86, 87, 88, 89, 90, 91, 92, 93, 94, 95, 96, 97] (⟨[(1, .q 1 (0)), (3, .clo 52 [(.ptr 1 (0))]), (5, .b g'3), (69, .b g'11)], [(1, .pure (GCommand.cs c0))], 136⟩ : TS) rfl ?_ ?_
    ·clear H
     have H := h21
     clear h21
     refine rp rfl rfl (p_move rfl rfl) ?_
     refine (Classical.em (g'9 = true)).elim (fun h18 => ?_) (fun h18 => ?_)
     ·replace H := ite_then h18 H
      refine rn rfl rfl rfl rfl h18 rfl (p_move rfl rfl) ?_
      refine r_on rfl rfl rfl rfl h18 rfl (MakeD.opD (u_bs 61 rfl Tryd.underlying76 in_3 rfl one_3 (by decide) (by decide) rfl rfl rfl) rfl rfl rfl rfl) ?_
      refine bindK H fun r'10 h19 H => ?_
      refine rn rfl rfl rfl rfl h18 rfl (p_callc rfl rfl rfl Tryd.func52 rfl rfl (g_stmt_sober_1_i0_ac h19) rfl ⟨lend_o rfl rfl rfl (ml AV.int ([(1 : Int)] : List Int)) (by decide), lendc_ptr rfl (ne_of_lt (n := 0) (Nat.lt_of_lt_of_eq (by decide) (Eq.symm (GCommand.len c0)))), trivial⟩) ?_
      refine rn rfl rfl rfl rfl h18 rfl (p_move rfl rfl) ?_
      refine (Classical.em (r'10 = true)).elim (fun h20 => ?_) (fun h20 => ?_)
      ·replace H := ite_then h20 H
       iterate 4 (refine r_off rfl rfl rfl rfl h20 rfl rfl ?_)
       refine rn rfl rfl rfl rfl h18 rfl (p_pkt rfl rfl h20 (.same _)) ?_
       refine rp rfl rfl (p_pkt rfl rfl h18 (.same _)) ?_
       refine RunW_st [(1, .q 1 (0)), (3, .clo 52 [(.ptr 1 (0))]), (5, .b g'3), (69, .b true)] [(1, .pure (GCommand.cs c0))] rfl ⟨TLes.same _, (fun _ => .same _), TLes.same _, TLes.same _, trivial⟩ ⟨rfl, trivial⟩ ?_
       have hz := some_elim H
       subst hz
       exact RunW_nil rfl
      ·replace H := ite_else h20 H
       refine r_on rfl rfl rfl rfl (bfalse h20) rfl (PureD.opD (u_fa rfl rfl Tryd.underlying43 rfl in_28 (Nat.succ_ne_zero _) rfl rfl (ne_of_lt (n := 0) (Nat.lt_of_lt_of_eq (by decide) (Eq.symm (GCommand.len c0)))))) ?_
       refine r_on rfl rfl rfl rfl (bfalse h20) rfl (PureD.opD (u_ld rfl rfl Tryd.underlying28 rfl rfl ((Sub.refl _).trans (GCommand.sub4 c0)))) ?_
       refine r_on rfl rfl rfl rfl (bfalse h20) rfl (PureD.opD (p_lenl rfl Tryd.underlying28 rfl rfl)) ?_
       refine r_on rfl rfl rfl rfl (bfalse h20) rfl (PureD.opD (p_ieq rfl rfl rfl)) ?_
       refine rn rfl rfl rfl rfl h18 rfl (p_pkf rfl rfl (bfalse h20) (.same _)) ?_
       refine rp rfl rfl (p_pkt rfl rfl h18 (.same _)) ?_
       refine RunW_st [(1, .q 1 (0)), (3, .clo 52 [(.ptr 1 (0))]), (5, .b g'3), (69, .b (decide ((c0.Cols.length : Int) = (0 : Int))))] [(1, .pure (GCommand.cs c0))] rfl ⟨TLes.same _, (fun _ => .same _), TLes.same _, TLes.same _, trivial⟩ ⟨rfl, trivial⟩ ?_
       have hz := some_elim H
       subst hz
       exact RunW_nil rfl
     ·replace H := ite_else h18 H
      iterate 4 (refine r_off rfl rfl rfl rfl (bfalse h18) rfl rfl ?_)
      iterate 4 (refine r_off2 rfl rfl rfl rfl rfl rfl ?_)
      refine r_off rfl rfl rfl rfl (bfalse h18) rfl rfl ?_
      refine rp rfl rfl (p_pkf rfl rfl (bfalse h18) (.same _)) ?_
      refine RunW_st [(1, .q 1 (0)), (3, .clo 52 [(.ptr 1 (0))]), (5, .b g'3), (69, .b false)] [(1, .pure (GCommand.cs c0))] rfl ⟨TLes.same _, (fun _ => .same _), TLes.same _, TLes.same _, trivial⟩ ⟨rfl, trivial⟩ ?_
      have hz := some_elim H
      subst hz
      exact RunW_nil rfl
    ·refine bindK H fun g'13 h25 H => ?_
     refine RunW_cut [31, 32, 33, 34, 35, 36, 37, 38, 39, 40, 41] [42, 43, 44, 45, 46, 47, 48, 49, 50, 51, 52, 53, 54, 55, 56, 57, 58, 59, 60, 61, 62, 63, 64, 65, 66, 67, 68, 69, 70, 71, 72, 73, 74, 75, 76, 77, 78, 79, 80, 81, 82, 83, 84, 85, 86, 87, 88, 89, 90, 91, 92, 93, 94, 95, 96, 97] (⟨[(1, .q 1 (0)), (3, .clo 52 [(.ptr 1 (0))]), (5, .b g'3), (80, .b g'13)], [(1, .pure (GCommand.cs c0))], 136⟩ : TS) rfl ?_ ?_
     ·clear H
      have H := h25
      clear h25
      refine rp rfl rfl (p_move rfl rfl) ?_
      refine (Classical.em (g'11 = true)).elim (fun h22 => ?_) (fun h22 => ?_)
      ·replace H := ite_then h22 H
       refine rn rfl rfl rfl rfl h22 rfl (p_move rfl rfl) ?_
       refine r_on rfl rfl rfl rfl h22 rfl (MakeD.opD (u_bs 72 rfl Tryd.underlying76 in_3 rfl one_3 (by decide) (by decide) rfl rfl rfl) rfl rfl rfl rfl) ?_
       refine bindK H fun r'12 h23 H => ?_
       refine rn rfl rfl rfl rfl h22 rfl (p_callc rfl rfl rfl Tryd.func52 rfl rfl (g_stmt_sober_1_i0_ac h23) rfl ⟨lend_o rfl rfl rfl (ml AV.int ([(2 : Int)] : List Int)) (by decide), lendc_ptr rfl (ne_of_lt (n := 0) (Nat.lt_of_lt_of_eq (by decide) (Eq.symm (GCommand.len c0)))), trivial⟩) ?_
       refine rn rfl rfl rfl rfl h22 rfl (p_move rfl rfl) ?_
       refine (Classical.em (r'12 = true)).elim (fun h24 => ?_) (fun h24 => ?_)
       ·replace H := ite_then h24 H
        iterate 4 (refine r_off rfl rfl rfl rfl h24 rfl rfl ?_)
        refine rn rfl rfl rfl rfl h22 rfl (p_pkt rfl rfl h24 (.same _)) ?_
        refine rp rfl rfl (p_pkt rfl rfl h22 (.same _)) ?_
        refine RunW_st [(1, .q 1 (0)), (3, .clo 52 [(.ptr 1 (0))]), (5, .b g'3), (80, .b true)] [(1, .pure (GCommand.cs c0))] rfl ⟨TLes.same _, (fun _ => .same _), TLes.same _, TLes.same _, trivial⟩ ⟨rfl, trivial⟩ ?_
        have hz := some_elim H
        subst hz
        exact RunW_nil rfl
       ·replace H := ite_else h24 H
        refine r_on rfl rfl rfl rfl (bfalse h24) rfl (PureD.opD (u_fa rfl rfl Tryd.underlying43 rfl in_40 (Nat.succ_ne_zero _) rfl rfl (ne_of_lt (n := 0) (Nat.lt_of_lt_of_eq (by decide) (Eq.symm (GCommand.len c0)))))) ?_
        refine r_on rfl rfl rfl rfl (bfalse h24) rfl (PureD.opD (u_ld rfl rfl Tryd.underlying40 rfl rfl ((Sub.refl _).trans (GCommand.sub5 c0)))) ?_
        refine r_on rfl rfl rfl rfl (bfalse h24) rfl (PureD.opD (p_lenl rfl Tryd.underlying40 rfl rfl)) ?_
        refine r_on rfl rfl rfl rfl (bfalse h24) rfl (PureD.opD (p_ieq rfl rfl rfl)) ?_
        refine rn rfl rfl rfl rfl h22 rfl (p_pkf rfl rfl (bfalse h24) (.same _)) ?_
        refine rp rfl rfl (p_pkt rfl rfl h22 (.same _)) ?_
        refine RunW_st [(1, .q 1 (0)), (3, .clo 52 [(.ptr 1 (0))]), (5, .b g'3), (80, .b (decide ((c0.Row.length : Int) = (0 : Int))))] [(1, .pure (GCommand.cs c0))] rfl ⟨TLes.same _, (fun _ => .same _), TLes.same _, TLes.same _, trivial⟩ ⟨rfl, trivial⟩ ?_
        have hz := some_elim H
        subst hz
        exact RunW_nil rfl
      ·replace H := ite_else h22 H
       iterate 4 (refine r_off rfl rfl rfl rfl (bfalse h22) rfl rfl ?_)
       iterate 4 (refine r_off2 rfl rfl rfl rfl rfl rfl ?_)
       refine r_off rfl rfl rfl rfl (bfalse h22) rfl rfl ?_
       refine rp rfl rfl (p_pkf rfl rfl (bfalse h22) (.same _)) ?_
       refine RunW_st [(1, .q 1 (0)), (3, .clo 52 [(.ptr 1 (0))]), (5, .b g'3), (80, .b false)] [(1, .pure (GCommand.cs c0))] rfl ⟨TLes.same _, (fun _ => .same _), TLes.same _, TLes.same _, trivial⟩ ⟨rfl, trivial⟩ ?_
       have hz := some_elim H
       subst hz
       exact RunW_nil rfl
     ·refine bindK H fun g'15 h29 H => ?_
      refine RunW_cut [42, 43, 44, 45, 46, 47, 48, 49, 50, 51, 52] [53, 54, 55, 56, 57, 58, 59, 60, 61, 62, 63, 64, 65, 66, 67, 68, 69, 70, 71, 72, 73, 74, 75, 76, 77, 78, 79, 80, 81, 82, 83, 84, 85, 86, 87, 88, 89, 90, 91, 92, 93, 94, 95, 96, 97] (⟨[(1, .q 1 (0)), (3, .clo 52 [(.ptr 1 (0))]), (5, .b g'3), (91, .b g'15)], [(1, .pure (GCommand.cs c0))], 136⟩ : TS) rfl ?_ ?_
      ·clear H
       have H := h29
       clear h29
       refine rp rfl rfl (p_move rfl rfl) ?_
       refine (Classical.em (g'13 = true)).elim (fun h26 => ?_) (fun h26 => ?_)
       ·replace H := ite_then h26 H
        refine rn rfl rfl rfl rfl h26 rfl (p_move rfl rfl) ?_
        refine r_on rfl rfl rfl rfl h26 rfl (MakeD.opD (u_bs 83 rfl Tryd.underlying76 in_3 rfl one_3 (by decide) (by decide) rfl rfl rfl) rfl rfl rfl rfl) ?_
        refine bindK H fun r'14 h27 H => ?_
        refine rn rfl rfl rfl rfl h26 rfl (p_callc rfl rfl rfl Tryd.func52 rfl rfl (g_stmt_sober_1_i0_ac h27) rfl ⟨lend_o rfl rfl rfl (ml AV.int ([(3 : Int)] : List Int)) (by decide), lendc_ptr rfl (ne_of_lt (n := 0) (Nat.lt_of_lt_of_eq (by decide) (Eq.symm (GCommand.len c0)))), trivial⟩) ?_
        refine rn rfl rfl rfl rfl h26 rfl (p_move rfl rfl) ?_
        refine (Classical.em (r'14 = true)).elim (fun h28 => ?_) (fun h28 => ?_)
        ·replace H := ite_then h28 H
         iterate 4 (refine r_off rfl rfl rfl rfl h28 rfl rfl ?_)
         refine rn rfl rfl rfl rfl h26 rfl (p_pkt rfl rfl h28 (.same _)) ?_
         refine rp rfl rfl (p_pkt rfl rfl h26 (.same _)) ?_
         refine RunW_st [(1, .q 1 (0)), (3, .clo 52 [(.ptr 1 (0))]), (5, .b g'3), (91, .b true)] [(1, .pure (GCommand.cs c0))] rfl ⟨TLes.same _, (fun _ => .same _), TLes.same _, TLes.same _, trivial⟩ ⟨rfl, trivial⟩ ?_
         have hz := some_elim H
         subst hz
         exact RunW_nil rfl
        ·replace H := ite_else h28 H
         refine r_on rfl rfl rfl rfl (bfalse h28) rfl (PureD.opD (u_fa rfl rfl Tryd.underlying43 rfl in_41 (Nat.succ_ne_zero _) rfl rfl (ne_of_lt (n := 0) (Nat.lt_of_lt_of_eq (by decide) (Eq.symm (GCommand.len c0)))))) ?_
         refine r_on rfl rfl rfl rfl (bfalse h28) rfl (PureD.opD (u_ld rfl rfl Tryd.underlying41 rfl rfl ((Sub.refl _).trans (GCommand.sub6 c0)))) ?_
         refine r_on rfl rfl rfl rfl (bfalse h28) rfl (PureD.opD (p_lenl rfl Tryd.underlying41 rfl rfl)) ?_
         refine r_on rfl rfl rfl rfl (bfalse h28) rfl (PureD.opD (p_ieq rfl rfl rfl)) ?_
         refine rn rfl rfl rfl rfl h26 rfl (p_pkf rfl rfl (bfalse h28) (.same _)) ?_
         refine rp rfl rfl (p_pkt rfl rfl h26 (.same _)) ?_
         refine RunW_st [(1, .q 1 (0)), (3, .clo 52 [(.ptr 1 (0))]), (5, .b g'3), (91, .b (decide ((c0.Sets.length : Int) = (0 : Int))))] [(1, .pure (GCommand.cs c0))] rfl ⟨TLes.same _, (fun _ => .same _), TLes.same _, TLes.same _, trivial⟩ ⟨rfl, trivial⟩ ?_
         have hz := some_elim H
         subst hz
         exact RunW_nil rfl
       ·replace H := ite_else h26 H
        iterate 4 (refine r_off rfl rfl rfl rfl (bfalse h26) rfl rfl ?_)
        iterate 4 (refine r_off2 rfl rfl rfl rfl rfl rfl ?_)
        refine r_off rfl rfl rfl rfl (bfalse h26) rfl rfl ?_
        refine rp rfl rfl (p_pkf rfl rfl (bfalse h26) (.same _)) ?_
        refine RunW_st [(1, .q 1 (0)), (3, .clo 52 [(.ptr 1 (0))]), (5, .b g'3), (91, .b false)] [(1, .pure (GCommand.cs c0))] rfl ⟨TLes.same _, (fun _ => .same _), TLes.same _, TLes.same _, trivial⟩ ⟨rfl, trivial⟩ ?_
        have hz := some_elim H
        subst hz
        exact RunW_nil rfl
      ·refine bindK H fun g'18 h34 H => ?_
       refine RunW_cut [53, 54, 55, 56, 57, 58, 59, 60, 61, 62] [63, 64, 65, 66, 67, 68, 69, 70, 71, 72, 73, 74, 75, 76, 77, 78, 79, 80, 81, 82, 83, 84, 85, 86, 87, 88, 89, 90, 91, 92, 93, 94, 95, 96, 97] (⟨[(1, .q 1 (0)), (3, .clo 52 [(.ptr 1 (0))]), (5, .b g'3), (101, .b g'18)], [(1, .pure (GCommand.cs c0))], 136⟩ : TS) rfl ?_ ?_
       ·clear H
        have H := h34
        clear h34
        refine rp rfl rfl (p_move rfl rfl) ?_
        refine (Classical.em (g'15 = true)).elim (fun h30 => ?_) (fun h30 => ?_)
        ·replace H := ite_then h30 H
         refine rn rfl rfl rfl rfl h30 rfl (p_move rfl rfl) ?_
         refine r_on rfl rfl rfl rfl h30 rfl (MakeD.opD (u_bs 94 rfl Tryd.underlying76 in_3 rfl one_3 (by decide) (by decide) rfl rfl rfl) rfl rfl rfl rfl) ?_
         refine bindK H fun r'16 h31 H => ?_
         refine rn rfl rfl rfl rfl h30 rfl (p_callc rfl rfl rfl Tryd.func52 rfl rfl (g_stmt_sober_1_i0_ac h31) rfl ⟨lend_o rfl rfl rfl (ml AV.int ([(3 : Int), (4 : Int)] : List Int)) (by decide), lendc_ptr rfl (ne_of_lt (n := 0) (Nat.lt_of_lt_of_eq (by decide) (Eq.symm (GCommand.len c0)))), trivial⟩) ?_
         refine rn rfl rfl rfl rfl h30 rfl (p_move rfl rfl) ?_
         refine (Classical.em (r'16 = true)).elim (fun h32 => ?_) (fun h32 => ?_)
         ·replace H := ite_then h32 H
          iterate 3 (refine r_off rfl rfl rfl rfl h32 rfl rfl ?_)
          refine rn rfl rfl rfl rfl h30 rfl (p_pkt rfl rfl h32 (.same _)) ?_
          refine rp rfl rfl (p_pkt rfl rfl h30 (.same _)) ?_
          refine RunW_st [(1, .q 1 (0)), (3, .clo 52 [(.ptr 1 (0))]), (5, .b g'3), (101, .b true)] [(1, .pure (GCommand.cs c0))] rfl ⟨TLes.same _, (fun _ => .same _), TLes.same _, TLes.same _, trivial⟩ ⟨rfl, trivial⟩ ?_
          have hz := some_elim H
          subst hz
          exact RunW_nil rfl
         ·replace H := ite_else h32 H
          refine r_on rfl rfl rfl rfl (bfalse h32) rfl (PureD.opD (u_fa rfl rfl Tryd.underlying43 rfl in_27 (Nat.succ_ne_zero _) rfl rfl (ne_of_lt (n := 0) (Nat.lt_of_lt_of_eq (by decide) (Eq.symm (GCommand.len c0)))))) ?_
          refine r_on rfl rfl rfl rfl (bfalse h32) rfl (PureD.opD (u_lda rfl rfl Tryd.underlying27 rfl in_27 rfl (Nat.succ_pos _) ((Sub.refl _).trans (GCommand.sub7 c0)) (GExpr.len c0.Where))) ?_
          refine bindK H fun r'17 h33 H => ?_
          refine r_on rfl rfl rfl rfl (bfalse h32) rfl (PureD.opD (p_callp rfl rfl rfl Tryd.func53 rfl rfl (g_stmt_none_ac h33) ⟨rfl, trivial⟩)) ?_
          refine rn rfl rfl rfl rfl h30 rfl (p_pkf rfl rfl (bfalse h32) (.same _)) ?_
          refine rp rfl rfl (p_pkt rfl rfl h30 (.same _)) ?_
          refine RunW_st [(1, .q 1 (0)), (3, .clo 52 [(.ptr 1 (0))]), (5, .b g'3), (101, .b r'17)] [(1, .pure (GCommand.cs c0))] rfl ⟨TLes.same _, (fun _ => .same _), TLes.same _, TLes.same _, trivial⟩ ⟨rfl, trivial⟩ ?_
          have hz := some_elim H
          subst hz
          exact RunW_nil rfl
        ·replace H := ite_else h30 H
         iterate 4 (refine r_off rfl rfl rfl rfl (bfalse h30) rfl rfl ?_)
         iterate 3 (refine r_off2 rfl rfl rfl rfl rfl rfl ?_)
         refine r_off rfl rfl rfl rfl (bfalse h30) rfl rfl ?_
         refine rp rfl rfl (p_pkf rfl rfl (bfalse h30) (.same _)) ?_
         refine RunW_st [(1, .q 1 (0)), (3, .clo 52 [(.ptr 1 (0))]), (5, .b g'3), (101, .b false)] [(1, .pure (GCommand.cs c0))] rfl ⟨TLes.same _, (fun _ => .same _), TLes.same _, TLes.same _, trivial⟩ ⟨rfl, trivial⟩ ?_
         have hz := some_elim H
         subst hz
         exact RunW_nil rfl
       ·refine bindK H fun g'20 h38 H => ?_
        refine RunW_cut [63, 64, 65, 66, 67, 68, 69, 70, 71] [72, 73, 74, 75, 76, 77, 78, 79, 80, 81, 82, 83, 84, 85, 86, 87, 88, 89, 90, 91, 92, 93, 94, 95, 96, 97] (⟨[(1, .q 1 (0)), (3, .clo 52 [(.ptr 1 (0))]), (110, .b g'20)], [(1, .pure (GCommand.cs c0))], 136⟩ : TS) rfl ?_ ?_
        ·clear H
         have H := h38
         clear h38
         refine rp rfl rfl (p_move rfl rfl) ?_
         refine (Classical.em (g'18 = true)).elim (fun h35 => ?_) (fun h35 => ?_)
         ·replace H := ite_then h35 H
          refine rn rfl rfl rfl rfl h35 rfl (p_move rfl rfl) ?_
          refine r_on rfl rfl rfl rfl h35 rfl (MakeD.opD (u_bs 104 rfl Tryd.underlying76 in_3 rfl one_3 (by decide) (by decide) rfl rfl rfl) rfl rfl rfl rfl) ?_
          refine bindK H fun r'19 h36 H => ?_
          refine rn rfl rfl rfl rfl h35 rfl (p_callc rfl rfl rfl Tryd.func52 rfl rfl (g_stmt_sober_1_i0_ac h36) rfl ⟨lend_o rfl rfl rfl (ml AV.int ([(5 : Int)] : List Int)) (by decide), lendc_ptr rfl (ne_of_lt (n := 0) (Nat.lt_of_lt_of_eq (by decide) (Eq.symm (GCommand.len c0)))), trivial⟩) ?_
          refine rn rfl rfl rfl rfl h35 rfl (p_move rfl rfl) ?_
          refine (Classical.em (r'19 = true)).elim (fun h37 => ?_) (fun h37 => ?_)
          ·replace H := ite_then h37 H
           iterate 2 (refine r_off rfl rfl rfl rfl h37 rfl rfl ?_)
           refine rn rfl rfl rfl rfl h35 rfl (p_pkt rfl rfl h37 (.same _)) ?_
           refine rp rfl rfl (p_pkt rfl rfl h35 (.same _)) ?_
           refine RunW_st [(1, .q 1 (0)), (3, .clo 52 [(.ptr 1 (0))]), (110, .b true)] [(1, .pure (GCommand.cs c0))] rfl ⟨TLes.same _, (fun _ => .same _), TLes.same _, trivial⟩ ⟨rfl, trivial⟩ ?_
           have hz := some_elim H
           subst hz
           exact RunW_nil rfl
          ·replace H := ite_else h37 H
           refine r_on rfl rfl rfl rfl (bfalse h37) rfl (PureD.opD (p_move rfl rfl)) ?_
           refine r_on rfl rfl rfl rfl (bfalse h37) rfl (PureD.opD (p_not rfl rfl)) ?_
           refine rn rfl rfl rfl rfl h35 rfl (p_pkf rfl rfl (bfalse h37) (.same _)) ?_
           refine rp rfl rfl (p_pkt rfl rfl h35 (.same _)) ?_
           refine RunW_st [(1, .q 1 (0)), (3, .clo 52 [(.ptr 1 (0))]), (110, .b (!g'3))] [(1, .pure (GCommand.cs c0))] rfl ⟨TLes.same _, (fun _ => .same _), TLes.same _, trivial⟩ ⟨rfl, trivial⟩ ?_
           have hz := some_elim H
           subst hz
           exact RunW_nil rfl
         ·replace H := ite_else h35 H
          iterate 4 (refine r_off rfl rfl rfl rfl (bfalse h35) rfl rfl ?_)
          iterate 2 (refine r_off2 rfl rfl rfl rfl rfl rfl ?_)
          refine r_off rfl rfl rfl rfl (bfalse h35) rfl rfl ?_
          refine rp rfl rfl (p_pkf rfl rfl (bfalse h35) (.same _)) ?_
          refine RunW_st [(1, .q 1 (0)), (3, .clo 52 [(.ptr 1 (0))]), (110, .b false)] [(1, .pure (GCommand.cs c0))] rfl ⟨TLes.same _, (fun _ => .same _), TLes.same _, trivial⟩ ⟨rfl, trivial⟩ ?_
          have hz := some_elim H
          subst hz
          exact RunW_nil rfl
        ·refine bindK H fun g'22 h43 H => ?_
         refine RunW_cut [72, 73, 74, 75, 76, 77, 78, 79, 80, 81, 82, 83, 84, 85, 86] [87, 88, 89, 90, 91, 92, 93, 94, 95, 96, 97] (⟨[(1, .q 1 (0)), (3, .clo 52 [(.ptr 1 (0))]), (125, .b g'22)], [(1, .pure (GCommand.cs c0))], 136⟩ : TS) rfl ?_ ?_
         ·clear H
          have H := h43
          clear h43
          refine rp rfl rfl (p_move rfl rfl) ?_
          refine (Classical.em (g'20 = true)).elim (fun h39 => ?_) (fun h39 => ?_)
          ·replace H := ite_then h39 H
           refine rn rfl rfl rfl rfl h39 rfl (p_move rfl rfl) ?_
           refine r_on rfl rfl rfl rfl h39 rfl (MakeD.opD (u_bs 113 rfl Tryd.underlying76 in_3 rfl one_3 (by decide) (by decide) rfl rfl rfl) rfl rfl rfl rfl) ?_
           refine bindK H fun r'21 h40 H => ?_
           refine rn rfl rfl rfl rfl h39 rfl (p_callc rfl rfl rfl Tryd.func52 rfl rfl (g_stmt_sober_1_i0_ac h40) rfl ⟨lend_o rfl rfl rfl (ml AV.int ([(6 : Int), (7 : Int)] : List Int)) (by decide), lendc_ptr rfl (ne_of_lt (n := 0) (Nat.lt_of_lt_of_eq (by decide) (Eq.symm (GCommand.len c0)))), trivial⟩) ?_
           refine rn rfl rfl rfl rfl h39 rfl (p_move rfl rfl) ?_
           refine (Classical.em (r'21 = true)).elim (fun h41 => ?_) (fun h41 => ?_)
           ·replace H := ite_then h41 H
            iterate 4 (refine r_off rfl rfl rfl rfl h41 rfl rfl ?_)
            iterate 3 (refine r_off2 rfl rfl rfl rfl rfl rfl ?_)
            refine r_off rfl rfl rfl rfl h41 rfl rfl ?_
            refine rn rfl rfl rfl rfl h39 rfl (p_pkt rfl rfl h41 (.same _)) ?_
            refine rp rfl rfl (p_pkt rfl rfl h39 (.same _)) ?_
            refine RunW_st [(1, .q 1 (0)), (3, .clo 52 [(.ptr 1 (0))]), (125, .b true)] [(1, .pure (GCommand.cs c0))] rfl ⟨TLes.same _, (fun _ => .same _), TLes.same _, trivial⟩ ⟨rfl, trivial⟩ ?_
            have hz := some_elim H
            subst hz
            exact RunW_nil rfl
           ·replace H := ite_else h41 H
            refine r_on rfl rfl rfl rfl (bfalse h41) rfl (PureD.opD (u_fa rfl rfl Tryd.underlying43 rfl in_3 (Nat.succ_ne_zero _) rfl rfl (ne_of_lt (n := 0) (Nat.lt_of_lt_of_eq (by decide) (Eq.symm (GCommand.len c0)))))) ?_
            refine r_on rfl rfl rfl rfl (bfalse h41) rfl (PureD.opD (u_ld rfl rfl Tryd.underlying3 rfl rfl ((Sub.refl _).trans (GCommand.sub9 c0)))) ?_
            refine r_on rfl rfl rfl rfl (bfalse h41) rfl (PureD.opD (p_ieq rfl rfl rfl)) ?_
            refine r_on rfl rfl rfl rfl (bfalse h41) rfl (PureD.opD (p_move rfl rfl)) ?_
            refine (Classical.em (c0.To = (0 : Int))).elim (fun h42 => ?_) (fun h42 => ?_)
            ·replace H := ite_then h42 H
             refine r_on rfl rfl rfl rfl (decide_eq_true h42) rfl (PureD.opD (u_fa rfl rfl Tryd.underlying43 rfl in_3 (Nat.succ_ne_zero _) rfl rfl (ne_of_lt (n := 0) (Nat.lt_of_lt_of_eq (by decide) (Eq.symm (GCommand.len c0)))))) ?_
             refine r_on rfl rfl rfl rfl (decide_eq_true h42) rfl (PureD.opD (u_ld rfl rfl Tryd.underlying3 rfl rfl ((Sub.refl _).trans (GCommand.sub10 c0)))) ?_
             refine r_on rfl rfl rfl rfl (decide_eq_true h42) rfl (PureD.opD (p_ieq rfl rfl rfl)) ?_
             refine r_on rfl rfl rfl rfl (bfalse h41) rfl (PureD.opD (p_pkt rfl rfl (decide_eq_true h42) (.same _))) ?_
             refine rn rfl rfl rfl rfl h39 rfl (p_pkf rfl rfl (bfalse h41) (.same _)) ?_
             refine rp rfl rfl (p_pkt rfl rfl h39 (.same _)) ?_
             refine RunW_st [(1, .q 1 (0)), (3, .clo 52 [(.ptr 1 (0))]), (125, .b (decide (c0.Right = (0 : Int))))] [(1, .pure (GCommand.cs c0))] rfl ⟨TLes.same _, (fun _ => .same _), TLes.same _, trivial⟩ ⟨rfl, trivial⟩ ?_
             have hz := some_elim H
             subst hz
             exact RunW_nil rfl
            ·replace H := ite_else h42 H
             iterate 3 (refine r_off rfl rfl rfl rfl (decide_eq_false h42) rfl rfl ?_)
             refine r_on rfl rfl rfl rfl (bfalse h41) rfl (PureD.opD (p_pkf rfl rfl (decide_eq_false h42) (.same _))) ?_
             refine rn rfl rfl rfl rfl h39 rfl (p_pkf rfl rfl (bfalse h41) (.same _)) ?_
             refine rp rfl rfl (p_pkt rfl rfl h39 (.same _)) ?_
             refine RunW_st [(1, .q 1 (0)), (3, .clo 52 [(.ptr 1 (0))]), (125, .b false)] [(1, .pure (GCommand.cs c0))] rfl ⟨TLes.same _, (fun _ => .same _), TLes.same _, trivial⟩ ⟨rfl, trivial⟩ ?_
             have hz := some_elim H
             subst hz
             exact RunW_nil rfl
          ·replace H := ite_else h39 H
           iterate 4 (refine r_off rfl rfl rfl rfl (bfalse h39) rfl rfl ?_)
           iterate 8 (refine r_off2 rfl rfl rfl rfl rfl rfl ?_)
           refine r_off rfl rfl rfl rfl (bfalse h39) rfl rfl ?_
           refine rp rfl rfl (p_pkf rfl rfl (bfalse h39) (.same _)) ?_
           refine RunW_st [(1, .q 1 (0)), (3, .clo 52 [(.ptr 1 (0))]), (125, .b false)] [(1, .pure (GCommand.cs c0))] rfl ⟨TLes.same _, (fun _ => .same _), TLes.same _, trivial⟩ ⟨rfl, trivial⟩ ?_
           have hz := some_elim H
           subst hz
           exact RunW_nil rfl
         ·refine bindK H fun g'24 h47 H => ?_
          refine RunW_cut [87, 88, 89, 90, 91, 92, 93, 94, 95, 96] [97] (⟨[(135, .b g'24)], [], 136⟩ : TS) rfl ?_ ?_
          ·clear H
           have H := h47
           clear h47
           refine rp rfl rfl (p_move rfl rfl) ?_
           refine (Classical.em (g'22 = true)).elim (fun h44 => ?_) (fun h44 => ?_)
           ·replace H := ite_then h44 H
            refine rn rfl rfl rfl rfl h44 rfl (p_move rfl rfl) ?_
            refine r_on rfl rfl rfl rfl h44 rfl (MakeD.opD (u_bs 128 rfl Tryd.underlying76 in_3 rfl one_3 (by decide) (by decide) rfl rfl rfl) rfl rfl rfl rfl) ?_
            refine bindK H fun r'23 h45 H => ?_
            refine rn rfl rfl rfl rfl h44 rfl (p_callc rfl rfl rfl Tryd.func52 rfl rfl (g_stmt_sober_1_i0_ac h45) rfl ⟨lend_o rfl rfl rfl (ml AV.int ([(6 : Int)] : List Int)) (by decide), lendc_ptr rfl (ne_of_lt (n := 0) (Nat.lt_of_lt_of_eq (by decide) (Eq.symm (GCommand.len c0)))), trivial⟩) ?_
            refine rn rfl rfl rfl rfl h44 rfl (p_move rfl rfl) ?_
            refine (Classical.em (r'23 = true)).elim (fun h46 => ?_) (fun h46 => ?_)
            ·replace H := ite_then h46 H
             iterate 3 (refine r_off rfl rfl rfl rfl h46 rfl rfl ?_)
             refine rn rfl rfl rfl rfl h44 rfl (p_pkt rfl rfl h46 (.same _)) ?_
             refine rp rfl rfl (p_pkt rfl rfl h44 (.same _)) ?_
             refine rs [(135, .b true)] [] rfl rfl rfl ?_
             have hz := some_elim H
             subst hz
             exact RunW_nil rfl
            ·replace H := ite_else h46 H
             refine r_on rfl rfl rfl rfl (bfalse h46) rfl (PureD.opD (u_fa rfl rfl Tryd.underlying43 rfl in_4 (Nat.succ_ne_zero _) rfl rfl (ne_of_lt (n := 0) (Nat.lt_of_lt_of_eq (by decide) (Eq.symm (GCommand.len c0)))))) ?_
             refine r_on rfl rfl rfl rfl (bfalse h46) rfl (PureD.opD (u_ld rfl rfl Tryd.underlying4 rfl rfl ((Sub.refl _).trans (GCommand.sub11 c0)))) ?_
             refine r_on rfl rfl rfl rfl (bfalse h46) rfl (PureD.opD (p_not rfl rfl)) ?_
             refine rn rfl rfl rfl rfl h44 rfl (p_pkf rfl rfl (bfalse h46) (.same _)) ?_
             refine rp rfl rfl (p_pkt rfl rfl h44 (.same _)) ?_
             refine rs [(135, .b (!c0.Option_))] [] rfl rfl rfl ?_
             have hz := some_elim H
             subst hz
             exact RunW_nil rfl
           ·replace H := ite_else h44 H
            iterate 4 (refine r_off rfl rfl rfl rfl (bfalse h44) rfl rfl ?_)
            iterate 3 (refine r_off2 rfl rfl rfl rfl rfl rfl ?_)
            refine r_off rfl rfl rfl rfl (bfalse h44) rfl rfl ?_
            refine rp rfl rfl (p_pkf rfl rfl (bfalse h44) (.same _)) ?_
            refine rs [(135, .b false)] [] rfl rfl rfl ?_
            have hz := some_elim H
            subst hz
            exact RunW_nil rfl
          ·refine bindK H fun g'25 h48 H => ?_
           refine RunW_cut [97] [] (⟨[(2, .b g'24)], [], 136⟩ : TS) rfl ?_ ?_
           ·clear H
            have H := h48
            clear h48
            refine rp rfl rfl (p_asg rfl rfl) ?_
            refine rs [(2, .b g'24)] [] rfl rfl rfl ?_
            have hz := some_elim H
            subst hz
            exact RunW_nil rfl
           ·refine RunW_nil ?_
            refine AW2_ret ?_
            have hz := some_elim H
            subst hz
            exact ⟨⟨res_tmp (.same _), trivial⟩, trivial⟩

/-! stmt.name -/
noncomputable def g_stmt_name (s0 : List UInt8) : Option (Bool) :=
  (g_lex_Check ({ { GToken.zero with Kind := (1 : Int) } with Text := s0 })).bind fun r'1 => some (decide (r'1 = (0 : Int)))
set_option maxHeartbeats 4000000 in
set_option maxRecDepth 100000 in
theorem g_stmt_name_ac {s0 : List UInt8} {r : Bool} (H : g_stmt_name s0 = some r) : ACp Tryd.prog 54 [(AV.txt s0)] (AV.bool r) := by
 refine ACp_of (AC2_of_body (vs := [.b r]) Tryd.func54 rfl rfl (Nat.le_of_ble_eq_true rfl) rfl ?_) (fun _ => .same _)
 unfold g_stmt_name at H
 refine as2 [(0, .t s0)] [] rfl rfl rfl ?_
 refine sg [0] rfl ?_
 refine rp rfl rfl (p_asg rfl rfl) ?_
 refine rz [(0, .t s0)] [] rfl rfl rfl ?_
 refine sg [0, 1, 2, 3, 4] rfl ?_
 refine rp rfl rfl (p_move rfl rfl) ?_
 refine rp rfl rfl (u_bld rfl in_82 one_82 zc_82 pl_82 rfl (af_cons rfl rfl (GToken.upd0 GToken.zero (1 : Int)) (af_cons rfl rfl (GToken.upd1 ((GToken.w0 GToken.zero (1 : Int))) s0) rfl))) ?_
 refine bindK H fun r'1 h1 H => ?_
 refine rp rfl rfl (p_callp rfl rfl rfl Tryd.func45 rfl rfl (g_lex_Check_ac h1) ⟨rfl, trivial⟩) ?_
 refine rp rfl rfl (p_ieq rfl rfl rfl) ?_
 refine rp rfl rfl (p_asg rfl rfl) ?_
 refine rz [(2, .b (decide (r'1 = (0 : Int))))] [] rfl rfl rfl ?_
 refine AW2_ret ?_
 have hz := some_elim H
 subst hz
 exact ⟨⟨res_tmp (.same _), trivial⟩, trivial⟩

/-! stmt.condition -/
noncomputable def g_stmt_condition (e0 : GExpr) : Option (Bool) :=
  ((g_stmt_none e0).bind fun r'3 => (if r'3 = true then some true else (g_expr_Check e0).bind fun r'4 => some (decide (r'4 = (0 : Int))))).bind fun g'5 => some g'5
set_option maxHeartbeats 4000000 in
set_option maxRecDepth 100000 in
theorem g_stmt_condition_ac {e0 : GExpr} {r : Bool} (H : g_stmt_condition e0 = some r) : ACp Tryd.prog 56 [(.agg (GExpr.cs e0))] (AV.bool r) := by
 refine ACp_of (AC2_of_body (vs := [.b r]) Tryd.func56 rfl rfl (Nat.le_of_ble_eq_true rfl) rfl ?_) (fun _ => .same _)
 unfold g_stmt_condition at H
 refine as2 [(0, .g (GExpr.cs e0))] [] rfl rfl rfl ?_
 refine sg [0, 1] rfl ?_
 refine r_op rfl rfl (MakeD.opD (n_box 1 rfl rfl) rfl rfl rfl rfl) ?_
 refine rp rfl rfl (p_asg rfl rfl) ?_
 refine rz [(1, .q 1 (0))] [(1, .pure (GExpr.cs e0))] rfl rfl rfl ?_
 refine AW2_seq ?_
 refine bindK H fun g'5 h6 H => ?_
 refine AW2_mid (⟨[(2, .b g'5)], [], 10⟩ : TS) ?_ ?_
 ·clear H
  have H := h6
  clear h6
  refine AW2_reg [0, 1, 2, 3, 4, 5, 6, 7] rfl ?_
  refine rp rfl rfl (u_lda rfl rfl Tryd.underlying27 rfl in_27 rfl (Nat.succ_pos _) (Sub.refl _) (GExpr.len e0)) ?_
  refine bindK H fun r'3 h3 H => ?_
  refine rp rfl rfl (p_callp rfl rfl rfl Tryd.func53 rfl rfl (g_stmt_none_ac h3) ⟨rfl, trivial⟩) ?_
  refine rp rfl rfl (p_move rfl rfl) ?_
  refine (Classical.em (r'3 = true)).elim (fun h4 => ?_) (fun h4 => ?_)
  ·replace H := ite_then h4 H
   refine r_off rfl rfl rfl rfl h4 rfl rfl ?_
   refine r_off rfl rfl rfl rfl h4 rfl rfl ?_
   refine r_off rfl rfl rfl rfl h4 rfl rfl ?_
   refine rp rfl rfl (p_pkt rfl rfl h4 (.same _)) ?_
   refine rp rfl rfl (p_asg rfl rfl) ?_
   refine rs [(2, .b true)] [] rfl rfl rfl ?_
   have hz := some_elim H
   subst hz
   exact RunW_nil rfl
  ·replace H := ite_else h4 H
   refine r_on rfl rfl rfl rfl (bfalse h4) rfl (PureD.opD (u_lda rfl rfl Tryd.underlying27 rfl in_27 rfl (Nat.succ_pos _) (Sub.refl _) (GExpr.len e0))) ?_
   refine bindK H fun r'4 h5 H => ?_
   refine r_on rfl rfl rfl rfl (bfalse h4) rfl (PureD.opD (p_callp rfl rfl rfl Tryd.func18 rfl rfl (g_expr_Check_ac h5) ⟨rfl, trivial⟩)) ?_
   refine r_on rfl rfl rfl rfl (bfalse h4) rfl (PureD.opD (p_ieq rfl rfl rfl)) ?_
   refine rp rfl rfl (p_pkf rfl rfl (bfalse h4) (.same _)) ?_
   refine rp rfl rfl (p_asg rfl rfl) ?_
   refine rs [(2, .b (decide (r'4 = (0 : Int))))] [] rfl rfl rfl ?_
   have hz := some_elim H
   subst hz
   exact RunW_nil rfl
 ·refine AW2_ret ?_
  have hz := some_elim H
  subst hz
  exact ⟨⟨res_tmp (.same _), trivial⟩, trivial⟩

/-! stmt.asked -/
noncomputable def g_stmt_asked_l0 (q0 : GQuery) : Int → Option (Int ⊕ (Bool ⊕ Unit))
  | t40_0 => (if t40_0 < (q0.Items.length : Int) then (show Option (Bool ⊕ Unit) from if 0 ≤ t40_0 ∧ t40_0 < (q0.Items.length : Int) then (if (lrd q0.Items t40_0.toNat).Agg = (1 : Int) then (g_stmt_none ((lrd q0.Items t40_0.toNat).Expr)).bind fun r'7 => (if (!r'7) = true then some (.inl false) else some (.inr ())) else ((if (lrd q0.Items t40_0.toNat).Agg = (0 : Int) then some (decide ((lrd q0.Items t40_0.toNat).Agg = (0 : Int))) else (if (lrd q0.Items t40_0.toNat).Agg = (2 : Int) then some (decide ((lrd q0.Items t40_0.toNat).Agg = (2 : Int))) else (if (lrd q0.Items t40_0.toNat).Agg = (3 : Int) then some (decide ((lrd q0.Items t40_0.toNat).Agg = (3 : Int))) else some (decide ((lrd q0.Items t40_0.toNat).Agg = (4 : Int))))))).bind fun j'8 => (if j'8 = true then (g_expr_Check ((lrd q0.Items t40_0.toNat).Expr)).bind fun r'9 => (if r'9 ≠ (0 : Int) then some (.inl false) else some (.inr ())) else some (.inl false))) else none).bind fun o'11 => match o'11 with | .inl y'10 => some (.inr (.inl y'10)) | .inr j'6 => some (.inl (w64 (t40_0 + (1 : Int)))) else some (.inr (.inr ())))
noncomputable def g_stmt_asked_l1 (q0 : GQuery) : Int → Option (Int ⊕ (Bool ⊕ Unit))
  | t65_1 => (if t65_1 < (q0.Sorts.length : Int) then if 0 ≤ t65_1 ∧ t65_1 < (q0.Sorts.length : Int) then (if (lrd q0.Sorts t65_1.toNat).Item < (0 : Int) then some (.inr (.inl false)) else some (.inl (w64 (t65_1 + (1 : Int))))) else none else some (.inr (.inr ())))
noncomputable def g_stmt_asked (q0 : GQuery) : Option (Bool) :=
  ((g_stmt_condition q0.Where).bind fun r'3 => (if (!r'3) = true then some true else (if q0.Group ≠ [] then (g_stmt_name q0.Group).bind fun r'4 => (if (!r'4) = true then some true else (if q0.Most < (0 : Int) then some true else (if (!q0.Cut) = true then some (decide (q0.Most ≠ (0 : Int))) else some false))) else (if q0.Most < (0 : Int) then some true else (if (!q0.Cut) = true then some (decide (q0.Most ≠ (0 : Int))) else some false))))).bind fun g'5 => (if g'5 = true then some false else (loopO (g_stmt_asked_l0 q0) (0 : Int)).bind fun o'15 => match o'15 with | .inl y'16 => some y'16 | .inr (y'17) => (loopO (g_stmt_asked_l1 q0) (0 : Int)).bind fun o'21 => match o'21 with | .inl y'22 => some y'22 | .inr (y'23) => some (decide ((q0.Items.length : Int) > (0 : Int))))
set_option maxHeartbeats 4000000 in
set_option maxRecDepth 100000 in
theorem g_stmt_asked_ac {q0 : GQuery} {r : Bool} (H : g_stmt_asked q0 = some r) : ACp Tryd.prog 57 [(.agg (GQuery.cs q0))] (AV.bool r) := by
 refine ACp_of (AC2_of_body (vs := [.b r]) Tryd.func57 rfl rfl (Nat.le_of_ble_eq_true rfl) rfl ?_) (fun _ => .same _)
 unfold g_stmt_asked at H
 refine as2 [(0, .g (GQuery.cs q0))] [] rfl rfl rfl ?_
 refine sg [0, 1] rfl ?_
 refine r_op rfl rfl (MakeD.opD (n_box 1 rfl rfl) rfl rfl rfl rfl) ?_
 refine rp rfl rfl (p_asg rfl rfl) ?_
 refine rz [(1, .q 1 (0))] [(1, .pure (GQuery.cs q0))] rfl rfl rfl ?_
 refine AW2_seq ?_
 refine AW2_seq ?_
 refine bindK H fun g'5 h12 H => ?_
 refine AW2_mid (⟨[(1, .q 1 (0)), (36, .b g'5)], [(1, .pure (GQuery.cs q0))], 77⟩ : TS) ?_ ?_
 ·clear H
  have H := h12
  clear h12
  refine AW2_reg [0, 1, 2, 3, 4, 5, 6, 7, 8, 9, 10, 11, 12, 13, 14, 15, 16, 17, 18, 19, 20, 21, 22, 23, 24, 25, 26, 27, 28, 29] rfl ?_
  refine rp rfl rfl (u_fa rfl rfl Tryd.underlying37 rfl in_27 (Nat.succ_ne_zero _) rfl rfl (ne_of_lt (n := 0) (Nat.lt_of_lt_of_eq (by decide) (Eq.symm (GQuery.len q0))))) ?_
  refine rp rfl rfl (u_lda rfl rfl Tryd.underlying27 rfl in_27 rfl (Nat.succ_pos _) ((Sub.refl _).trans (GQuery.sub1 q0)) (GExpr.len q0.Where)) ?_
  refine bindK H fun r'3 h3 H => ?_
  refine rp rfl rfl (p_callp rfl rfl rfl Tryd.func56 rfl rfl (g_stmt_condition_ac h3) ⟨rfl, trivial⟩) ?_
  refine rp rfl rfl (p_not rfl rfl) ?_
  refine rp rfl rfl (p_move rfl rfl) ?_
  refine (Classical.em ((!r'3) = true)).elim (fun h4 => ?_) (fun h4 => ?_)
  ·replace H := ite_then h4 H
   iterate 4 (refine r_off rfl rfl rfl rfl h4 rfl rfl ?_)
   iterate 4 (refine r_off2 rfl rfl rfl rfl rfl rfl ?_)
   refine r_off rfl rfl rfl rfl h4 rfl rfl ?_
   refine rp rfl rfl (p_pkt rfl rfl h4 (.same _)) ?_
   refine rp rfl rfl (p_move rfl rfl) ?_
   iterate 3 (refine r_off rfl rfl rfl rfl rfl rfl rfl ?_)
   refine rp rfl rfl (p_pkt rfl rfl rfl (.same _)) ?_
   refine rp rfl rfl (p_move rfl rfl) ?_
   iterate 4 (refine r_off rfl rfl rfl rfl rfl rfl rfl ?_)
   iterate 3 (refine r_off2 rfl rfl rfl rfl rfl rfl ?_)
   refine r_off rfl rfl rfl rfl rfl rfl rfl ?_
   refine rp rfl rfl (p_pkt rfl rfl rfl (.same _)) ?_
   refine rs [(1, .q 1 (0)), (36, .b true)] [(1, .pure (GQuery.cs q0))] rfl rfl rfl ?_
   have hz := some_elim H
   subst hz
   exact RunW_nil rfl
  ·replace H := ite_else h4 H
   refine r_on rfl rfl rfl rfl (bfalse h4) rfl (PureD.opD (u_fa rfl rfl Tryd.underlying37 rfl in_9 (Nat.succ_ne_zero _) rfl rfl (ne_of_lt (n := 0) (Nat.lt_of_lt_of_eq (by decide) (Eq.symm (GQuery.len q0)))))) ?_
   refine r_on rfl rfl rfl rfl (bfalse h4) rfl (PureD.opD (u_ld rfl rfl Tryd.underlying9 rfl rfl ((Sub.refl _).trans (GQuery.sub2 q0)))) ?_
   refine r_on rfl rfl rfl rfl (bfalse h4) rfl (PureD.opD (p_sne rfl rfl rfl)) ?_
   refine r_on rfl rfl rfl rfl (bfalse h4) rfl (PureD.opD (p_move rfl rfl)) ?_
   refine (Classical.em (q0.Group ≠ [])).elim (fun h5 => ?_) (fun h5 => ?_)
   ·replace H := ite_then h5 H
    refine r_on rfl rfl rfl rfl (decide_eq_true h5) rfl (PureD.opD (u_fa rfl rfl Tryd.underlying37 rfl in_9 (Nat.succ_ne_zero _) rfl rfl (ne_of_lt (n := 0) (Nat.lt_of_lt_of_eq (by decide) (Eq.symm (GQuery.len q0)))))) ?_
    refine r_on rfl rfl rfl rfl (decide_eq_true h5) rfl (PureD.opD (u_ld rfl rfl Tryd.underlying9 rfl rfl ((Sub.refl _).trans (GQuery.sub2 q0)))) ?_
    refine bindK H fun r'4 h6 H => ?_
    refine r_on rfl rfl rfl rfl (decide_eq_true h5) rfl (PureD.opD (p_callp rfl rfl rfl Tryd.func54 rfl rfl (g_stmt_name_ac h6) ⟨rfl, trivial⟩)) ?_
    refine r_on rfl rfl rfl rfl (decide_eq_true h5) rfl (PureD.opD (p_not rfl rfl)) ?_
    refine r_on rfl rfl rfl rfl (bfalse h4) rfl (PureD.opD (p_pkt rfl rfl (decide_eq_true h5) (.same _))) ?_
    refine rp rfl rfl (p_pkf rfl rfl (bfalse h4) (.same _)) ?_
    refine rp rfl rfl (p_move rfl rfl) ?_
    refine (Classical.em ((!r'4) = true)).elim (fun h7 => ?_) (fun h7 => ?_)
    ·replace H := ite_then h7 H
     iterate 3 (refine r_off rfl rfl rfl rfl h7 rfl rfl ?_)
     refine rp rfl rfl (p_pkt rfl rfl h7 (.same _)) ?_
     refine rp rfl rfl (p_move rfl rfl) ?_
     iterate 4 (refine r_off rfl rfl rfl rfl rfl rfl rfl ?_)
     iterate 3 (refine r_off2 rfl rfl rfl rfl rfl rfl ?_)
     refine r_off rfl rfl rfl rfl rfl rfl rfl ?_
     refine rp rfl rfl (p_pkt rfl rfl rfl (.same _)) ?_
     refine rs [(1, .q 1 (0)), (36, .b true)] [(1, .pure (GQuery.cs q0))] rfl rfl rfl ?_
     have hz := some_elim H
     subst hz
     exact RunW_nil rfl
    ·replace H := ite_else h7 H
     refine r_on rfl rfl rfl rfl (bfalse h7) rfl (PureD.opD (u_fa rfl rfl Tryd.underlying37 rfl in_3 (Nat.succ_ne_zero _) rfl rfl (ne_of_lt (n := 0) (Nat.lt_of_lt_of_eq (by decide) (Eq.symm (GQuery.len q0)))))) ?_
     refine r_on rfl rfl rfl rfl (bfalse h7) rfl (PureD.opD (u_ld rfl rfl Tryd.underlying3 rfl rfl ((Sub.refl _).trans (GQuery.sub5 q0)))) ?_
     refine r_on rfl rfl rfl rfl (bfalse h7) rfl (PureD.opD (p_bin rfl rfl rfl rfl)) ?_
     refine rp rfl rfl (p_pkf rfl rfl (bfalse h7) (.same _)) ?_
     refine rp rfl rfl (p_move rfl rfl) ?_
     refine (Classical.em (q0.Most < (0 : Int))).elim (fun h8 => ?_) (fun h8 => ?_)
     ·replace H := ite_then h8 H
      iterate 4 (refine r_off rfl rfl rfl rfl (decide_eq_true h8) rfl rfl ?_)
      iterate 3 (refine r_off2 rfl rfl rfl rfl rfl rfl ?_)
      refine r_off rfl rfl rfl rfl (decide_eq_true h8) rfl rfl ?_
      refine rp rfl rfl (p_pkt rfl rfl (decide_eq_true h8) (.same _)) ?_
      refine rs [(1, .q 1 (0)), (36, .b true)] [(1, .pure (GQuery.cs q0))] rfl rfl rfl ?_
      have hz := some_elim H
      subst hz
      exact RunW_nil rfl
     ·replace H := ite_else h8 H
      refine r_on rfl rfl rfl rfl (decide_eq_false h8) rfl (PureD.opD (u_fa rfl rfl Tryd.underlying37 rfl in_4 (Nat.succ_ne_zero _) rfl rfl (ne_of_lt (n := 0) (Nat.lt_of_lt_of_eq (by decide) (Eq.symm (GQuery.len q0)))))) ?_
      refine r_on rfl rfl rfl rfl (decide_eq_false h8) rfl (PureD.opD (u_ld rfl rfl Tryd.underlying4 rfl rfl ((Sub.refl _).trans (GQuery.sub4 q0)))) ?_
      refine r_on rfl rfl rfl rfl (decide_eq_false h8) rfl (PureD.opD (p_not rfl rfl)) ?_
      refine r_on rfl rfl rfl rfl (decide_eq_false h8) rfl (PureD.opD (p_move rfl rfl)) ?_
      refine (Classical.em ((!q0.Cut) = true)).elim (fun h9 => ?_) (fun h9 => ?_)
      ·replace H := ite_then h9 H
       refine rn rfl rfl rfl rfl h9 rfl (u_fa rfl rfl Tryd.underlying37 rfl in_3 (Nat.succ_ne_zero _) rfl rfl (ne_of_lt (n := 0) (Nat.lt_of_lt_of_eq (by decide) (Eq.symm (GQuery.len q0))))) ?_
       refine rn rfl rfl rfl rfl h9 rfl (u_ld rfl rfl Tryd.underlying3 rfl rfl ((Sub.refl _).trans (GQuery.sub5 q0))) ?_
       refine rn rfl rfl rfl rfl h9 rfl (p_ine rfl rfl rfl) ?_
       refine r_on rfl rfl rfl rfl (decide_eq_false h8) rfl (PureD.opD (p_pkt rfl rfl h9 (.same _))) ?_
       refine rp rfl rfl (p_pkf rfl rfl (decide_eq_false h8) (.same _)) ?_
       refine rs [(1, .q 1 (0)), (36, .b (decide (q0.Most ≠ (0 : Int))))] [(1, .pure (GQuery.cs q0))] rfl rfl rfl ?_
       have hz := some_elim H
       subst hz
       exact RunW_nil rfl
      ·replace H := ite_else h9 H
       iterate 3 (refine r_off rfl rfl rfl rfl (bfalse h9) rfl rfl ?_)
       refine r_on rfl rfl rfl rfl (decide_eq_false h8) rfl (PureD.opD (p_pkf rfl rfl (bfalse h9) (.same _))) ?_
       refine rp rfl rfl (p_pkf rfl rfl (decide_eq_false h8) (.same _)) ?_
       refine rs [(1, .q 1 (0)), (36, .b false)] [(1, .pure (GQuery.cs q0))] rfl rfl rfl ?_
       have hz := some_elim H
       subst hz
       exact RunW_nil rfl
   ·replace H := ite_else h5 H
    iterate 4 (refine r_off rfl rfl rfl rfl (decide_eq_false h5) rfl rfl ?_)
    refine r_on rfl rfl rfl rfl (bfalse h4) rfl (PureD.opD (p_pkf rfl rfl (decide_eq_false h5) (.same _))) ?_
    refine rp rfl rfl (p_pkf rfl rfl (bfalse h4) (.same _)) ?_
    refine rp rfl rfl (p_move rfl rfl) ?_
    refine r_on rfl rfl rfl rfl (bfalse (by decide)) rfl (PureD.opD (u_fa rfl rfl Tryd.underlying37 rfl in_3 (Nat.succ_ne_zero _) rfl rfl (ne_of_lt (n := 0) (Nat.lt_of_lt_of_eq (by decide) (Eq.symm (GQuery.len q0)))))) ?_
    refine r_on rfl rfl rfl rfl (bfalse (by decide)) rfl (PureD.opD (u_ld rfl rfl Tryd.underlying3 rfl rfl ((Sub.refl _).trans (GQuery.sub5 q0)))) ?_
    refine r_on rfl rfl rfl rfl (bfalse (by decide)) rfl (PureD.opD (p_bin rfl rfl rfl rfl)) ?_
    refine rp rfl rfl (p_pkf rfl rfl (bfalse (by decide)) (.same _)) ?_
    refine rp rfl rfl (p_move rfl rfl) ?_
    refine (Classical.em (q0.Most < (0 : Int))).elim (fun h10 => ?_) (fun h10 => ?_)
    ·replace H := ite_then h10 H
     iterate 4 (refine r_off rfl rfl rfl rfl (decide_eq_true h10) rfl rfl ?_)
     iterate 3 (refine r_off2 rfl rfl rfl rfl rfl rfl ?_)
     refine r_off rfl rfl rfl rfl (decide_eq_true h10) rfl rfl ?_
     refine rp rfl rfl (p_pkt rfl rfl (decide_eq_true h10) (.same _)) ?_
     refine rs [(1, .q 1 (0)), (36, .b true)] [(1, .pure (GQuery.cs q0))] rfl rfl rfl ?_
     have hz := some_elim H
     subst hz
     exact RunW_nil rfl
    ·replace H := ite_else h10 H
     refine r_on rfl rfl rfl rfl (decide_eq_false h10) rfl (PureD.opD (u_fa rfl rfl Tryd.underlying37 rfl in_4 (Nat.succ_ne_zero _) rfl rfl (ne_of_lt (n := 0) (Nat.lt_of_lt_of_eq (by decide) (Eq.symm (GQuery.len q0)))))) ?_
     refine r_on rfl rfl rfl rfl (decide_eq_false h10) rfl (PureD.opD (u_ld rfl rfl Tryd.underlying4 rfl rfl ((Sub.refl _).trans (GQuery.sub4 q0)))) ?_
     refine r_on rfl rfl rfl rfl (decide_eq_false h10) rfl (PureD.opD (p_not rfl rfl)) ?_
     refine r_on rfl rfl rfl rfl (decide_eq_false h10) rfl (PureD.opD (p_move rfl rfl)) ?_
     refine (Classical.em ((!q0.Cut) = true)).elim (fun h11 => ?_) (fun h11 => ?_)
     ·replace H := ite_then h11 H
      refine rn rfl rfl rfl rfl h11 rfl (u_fa rfl rfl Tryd.underlying37 rfl in_3 (Nat.succ_ne_zero _) rfl rfl (ne_of_lt (n := 0) (Nat.lt_of_lt_of_eq (by decide) (Eq.symm (GQuery.len q0))))) ?_
      refine rn rfl rfl rfl rfl h11 rfl (u_ld rfl rfl Tryd.underlying3 rfl rfl ((Sub.refl _).trans (GQuery.sub5 q0))) ?_
      refine rn rfl rfl rfl rfl h11 rfl (p_ine rfl rfl rfl) ?_
      refine r_on rfl rfl rfl rfl (decide_eq_false h10) rfl (PureD.opD (p_pkt rfl rfl h11 (.same _))) ?_
      refine rp rfl rfl (p_pkf rfl rfl (decide_eq_false h10) (.same _)) ?_
      refine rs [(1, .q 1 (0)), (36, .b (decide (q0.Most ≠ (0 : Int))))] [(1, .pure (GQuery.cs q0))] rfl rfl rfl ?_
      have hz := some_elim H
      subst hz
      exact RunW_nil rfl
     ·replace H := ite_else h11 H
      iterate 3 (refine r_off rfl rfl rfl rfl (bfalse h11) rfl rfl ?_)
      refine r_on rfl rfl rfl rfl (decide_eq_false h10) rfl (PureD.opD (p_pkf rfl rfl (bfalse h11) (.same _))) ?_
      refine rp rfl rfl (p_pkf rfl rfl (decide_eq_false h10) (.same _)) ?_
      refine rs [(1, .q 1 (0)), (36, .b false)] [(1, .pure (GQuery.cs q0))] rfl rfl rfl ?_
      have hz := some_elim H
      subst hz
      exact RunW_nil rfl
 ·refine AW2_cond rfl (fun h13 => ?_) (fun h13 => ?_)
  ·replace H := ite_then h13 H
   refine sg [0] rfl ?_
   refine rp rfl rfl (p_asg rfl rfl) ?_
   refine rz [(2, .b false)] [] rfl rfl rfl ?_
   refine AW2_ret ?_
   have hz := some_elim H
   subst hz
   exact ⟨⟨res_tmp (.same _), trivial⟩, trivial⟩
  ·replace H := ite_else (ne_true h13) H
   refine as2 [(1, .q 1 (0))] [(1, .pure (GQuery.cs q0))] rfl rfl rfl ?_
   refine AW2_skip ?_
   refine AW2_seq ?_
   refine sg [0, 1, 2, 3] rfl ?_
   refine rp rfl rfl (u_fa rfl rfl Tryd.underlying37 rfl in_34 (Nat.succ_ne_zero _) rfl rfl (ne_of_lt (n := 0) (Nat.lt_of_lt_of_eq (by decide) (Eq.symm (GQuery.len q0))))) ?_
   refine rp rfl rfl (u_ld rfl rfl Tryd.underlying34 rfl rfl ((Sub.refl _).trans (GQuery.sub0 q0))) ?_
   refine rp rfl rfl (p_lenl rfl Tryd.underlying34 rfl rfl) ?_
   refine rp rfl rfl (p_move rfl rfl) ?_
   refine rz [(1, .q 1 (0)), (38, .p ((fun q : List GItem => AV.lst (q.flatMap GItem.cs) q.length) q0.Items)), (39, .i (q0.Items.length : Int)), (40, .i (0 : Int))] [(1, .pure (GQuery.cs q0))] rfl rfl rfl ?_
   refine AW2_block ?_
   refine as2 [(1, .q 1 (0)), (38, .p ((fun q : List GItem => AV.lst (q.flatMap GItem.cs) q.length) q0.Items)), (39, .i (q0.Items.length : Int)), (40, .i (0 : Int))] [(1, .pure (GQuery.cs q0))] rfl rfl rfl ?_
   refine bindK H fun o'15 h27 H => ?_
   refine AW2_loopO (fun a'12 : Int => (⟨[(1, .q 1 (0)), (38, .p ((fun q : List GItem => AV.lst (q.flatMap GItem.cs) q.length) q0.Items)), (39, .i (q0.Items.length : Int)), (40, .i a'12)], [(1, .pure (GQuery.cs q0))], 77⟩ : TS)) (fun (o : Bool ⊕ Unit) e s' => match o with | .inl y'13 => e = Go.Exit.ret ∧ ResAll Tryd.prog s' [ResultVar.tmp 2] [.b y'13] ∧ HFits s' [] | .inr (y'14) => e = Go.Exit.exit 0 ∧ s' = (⟨[(1, .q 1 (0))], [(1, .pure (GQuery.cs q0))], 77⟩ : TS)) h27 rfl (fun t40_0 x hx => ?_) (fun e s' hs => ?_)
   ·clear H
    have H := hx
    clear hx
    unfold g_stmt_asked_l0 at H
    refine sg [0] rfl ?_
    refine rp rfl rfl (p_bin rfl rfl rfl rfl) ?_
    refine rz [(1, .q 1 (0)), (38, .p ((fun q : List GItem => AV.lst (q.flatMap GItem.cs) q.length) q0.Items)), (39, .i (q0.Items.length : Int)), (40, .i t40_0), (41, .b (decide (t40_0 < (q0.Items.length : Int))))] [(1, .pure (GQuery.cs q0))] rfl rfl rfl ?_
    refine AW2_seq ?_
    refine AW2_if (p := t40_0 < (q0.Items.length : Int)) rfl (fun h14 => ?_) (fun h14 => ?_)
    ·replace H := ite_then h14 H
     refine as2 [(1, .q 1 (0)), (38, .p ((fun q : List GItem => AV.lst (q.flatMap GItem.cs) q.length) q0.Items)), (39, .i (q0.Items.length : Int)), (40, .i t40_0)] [(1, .pure (GQuery.cs q0))] rfl rfl rfl ?_
     refine AW2_skip ?_
     refine AW2_seq ?_
     refine bindK H fun o'11 h15 H => ?_
     refine AW2_join (fun j'6 : Unit => (⟨[(1, .q 1 (0)), (38, .p ((fun q : List GItem => AV.lst (q.flatMap GItem.cs) q.length) q0.Items)), (39, .i (q0.Items.length : Int)), (40, .i t40_0)], [(1, .pure (GQuery.cs q0))], 77⟩ : TS)) (fun r e s' => e = Go.Exit.ret ∧ ResAll Tryd.prog s' [ResultVar.tmp 2] [.b r] ∧ HFits s' []) (x := o'11) ?_ (fun j'6 hy => ?_) (fun y'10 e s' hy hs => ?_)
     ·clear H
      have H := h15
      clear h15
      refine AW2_block ?_
      refine sg [0, 1, 2, 3] rfl ?_
      refine chkK H fun h16 H => ?_
      refine rp rfl rfl (u_ixl rfl rfl Tryd.underlying34 in_61 rfl rfl (ixe h16) (ixn h16) (fne (fun x => (GItem.len x)) (by decide) (ixn h16))) ?_
      refine rp rfl rfl (u_lda rfl rfl Tryd.underlying61 rfl in_61 rfl (Nat.succ_pos _) (Sub.fm default (fun x => (GItem.len x)) (ixn h16)) (GItem.len (lrd q0.Items t40_0.toNat))) ?_
      refine r_op rfl rfl (MakeD.opD (u_alloc 4 rfl in_61 one_61 zc_61) rfl rfl rfl rfl) ?_
      refine r_op rfl rfl (u_st rfl rfl rfl rfl rfl in_61 (GItem.len (lrd q0.Items t40_0.toNat)) (ne_of_lt (n := 0) (Nat.lt_of_lt_of_eq (by decide) (Eq.symm (GItem.len GItem.zero)))) (Upd.refl ((GItem.len (lrd q0.Items t40_0.toNat)).trans (GItem.len GItem.zero).symm))) ?_
      refine rz [(1, .q 1 (0)), (4, .q 4 (0)), (38, .p ((fun q : List GItem => AV.lst (q.flatMap GItem.cs) q.length) q0.Items)), (39, .i (q0.Items.length : Int)), (40, .i t40_0)] [(1, .pure (GQuery.cs q0)), (4, .pure (GItem.cs (lrd q0.Items t40_0.toNat)))] rfl rfl rfl ?_
      refine sg [0, 1] rfl ?_
      refine rp rfl rfl (u_fa rfl rfl Tryd.underlying61 rfl in_3 (Nat.succ_ne_zero _) rfl rfl (ne_of_lt (n := 0) (Nat.lt_of_lt_of_eq (by decide) (Eq.symm (GItem.len (lrd q0.Items t40_0.toNat)))))) ?_
      refine rp rfl rfl (u_ld rfl rfl Tryd.underlying3 rfl rfl ((Sub.refl _).trans (GItem.sub0 (lrd q0.Items t40_0.toNat)))) ?_
      refine rz [(1, .q 1 (0)), (4, .q 4 (0)), (38, .p ((fun q : List GItem => AV.lst (q.flatMap GItem.cs) q.length) q0.Items)), (39, .i (q0.Items.length : Int)), (40, .i t40_0), (45, .i ((lrd q0.Items t40_0.toNat).Agg))] [(1, .pure (GQuery.cs q0)), (4, .pure (GItem.cs (lrd q0.Items t40_0.toNat)))] rfl rfl rfl ?_
      refine AW2_block ?_
      refine sg [0, 1] rfl ?_
      refine rp rfl rfl (p_ieq rfl rfl rfl) ?_
      refine rp rfl rfl (p_asg rfl rfl) ?_
      refine rz [(1, .q 1 (0)), (4, .q 4 (0)), (38, .p ((fun q : List GItem => AV.lst (q.flatMap GItem.cs) q.length) q0.Items)), (39, .i (q0.Items.length : Int)), (40, .i t40_0), (45, .i ((lrd q0.Items t40_0.toNat).Agg)), (46, .b (decide ((lrd q0.Items t40_0.toNat).Agg = (1 : Int))))] [(1, .pure (GQuery.cs q0)), (4, .pure (GItem.cs (lrd q0.Items t40_0.toNat)))] rfl rfl rfl ?_
      refine AW2_if (p := (lrd q0.Items t40_0.toNat).Agg = (1 : Int)) rfl (fun h17 => ?_) (fun h17 => ?_)
      ·replace H := ite_then h17 H
       refine sg [0, 1, 2, 3] rfl ?_
       refine rp rfl rfl (u_fa rfl rfl Tryd.underlying61 rfl in_27 (Nat.succ_ne_zero _) rfl rfl (ne_of_lt (n := 0) (Nat.lt_of_lt_of_eq (by decide) (Eq.symm (GItem.len (lrd q0.Items t40_0.toNat)))))) ?_
       refine rp rfl rfl (u_lda rfl rfl Tryd.underlying27 rfl in_27 rfl (Nat.succ_pos _) ((Sub.refl _).trans (GItem.sub1 (lrd q0.Items t40_0.toNat))) (GExpr.len ((lrd q0.Items t40_0.toNat).Expr))) ?_
       refine bindK H fun r'7 h18 H => ?_
       refine rp rfl rfl (p_callp rfl rfl rfl Tryd.func53 rfl rfl (g_stmt_none_ac h18) ⟨rfl, trivial⟩) ?_
       refine rp rfl rfl (p_not rfl rfl) ?_
       refine rz [(1, .q 1 (0)), (38, .p ((fun q : List GItem => AV.lst (q.flatMap GItem.cs) q.length) q0.Items)), (39, .i (q0.Items.length : Int)), (40, .i t40_0), (51, .b (!r'7))] [(1, .pure (GQuery.cs q0))] rfl rfl rfl ?_
       refine AW2_cond rfl (fun h19 => ?_) (fun h19 => ?_)
       ·replace H := ite_then h19 H
        refine sg [0] rfl ?_
        refine rp rfl rfl (p_asg rfl rfl) ?_
        refine rz [(2, .b false)] [] rfl rfl rfl ?_
        refine AW2_ret ?_
        have hz := some_elim H
        subst hz
        exact ⟨rfl, ⟨res_tmp (.same _), trivial⟩, trivial⟩
       ·replace H := ite_else (ne_true h19) H
        refine as2 [(1, .q 1 (0)), (38, .p ((fun q : List GItem => AV.lst (q.flatMap GItem.cs) q.length) q0.Items)), (39, .i (q0.Items.length : Int)), (40, .i t40_0)] [(1, .pure (GQuery.cs q0))] rfl rfl rfl ?_
        refine AW2_skip ?_
        have hz := some_elim H
        subst hz
        exact ⟨rfl, rfl⟩
      ·replace H := ite_else h17 H
       refine AW2_seq ?_
       refine bindK H fun j'8 h20 H => ?_
       refine AW2_mid (⟨[(1, .q 1 (0)), (4, .q 4 (0)), (38, .p ((fun q : List GItem => AV.lst (q.flatMap GItem.cs) q.length) q0.Items)), (39, .i (q0.Items.length : Int)), (40, .i t40_0), (52, .b j'8)], [(1, .pure (GQuery.cs q0)), (4, .pure (GItem.cs (lrd q0.Items t40_0.toNat)))], 77⟩ : TS) ?_ ?_
       ·clear H
        have H := h20
        clear h20
        refine sg [0, 1] rfl ?_
        refine rp rfl rfl (p_ieq rfl rfl rfl) ?_
        refine rp rfl rfl (p_asg rfl rfl) ?_
        refine rz [(1, .q 1 (0)), (4, .q 4 (0)), (38, .p ((fun q : List GItem => AV.lst (q.flatMap GItem.cs) q.length) q0.Items)), (39, .i (q0.Items.length : Int)), (40, .i t40_0), (45, .i ((lrd q0.Items t40_0.toNat).Agg)), (52, .b (decide ((lrd q0.Items t40_0.toNat).Agg = (0 : Int))))] [(1, .pure (GQuery.cs q0)), (4, .pure (GItem.cs (lrd q0.Items t40_0.toNat)))] rfl rfl rfl ?_
        refine AW2_if (p := (lrd q0.Items t40_0.toNat).Agg = (0 : Int)) rfl (fun h21 => ?_) (fun h21 => ?_)
        ·replace H := ite_then h21 H
         refine as2 [(1, .q 1 (0)), (4, .q 4 (0)), (38, .p ((fun q : List GItem => AV.lst (q.flatMap GItem.cs) q.length) q0.Items)), (39, .i (q0.Items.length : Int)), (40, .i t40_0), (52, .b (decide ((lrd q0.Items t40_0.toNat).Agg = (0 : Int))))] [(1, .pure (GQuery.cs q0)), (4, .pure (GItem.cs (lrd q0.Items t40_0.toNat)))] rfl rfl rfl ?_
         refine AW2_skip ?_
         have hz := some_elim H
         subst hz
         exact rfl
        ·replace H := ite_else h21 H
         refine sg [0, 1] rfl ?_
         refine rp rfl rfl (p_ieq rfl rfl rfl) ?_
         refine rp rfl rfl (p_asg rfl rfl) ?_
         refine rz [(1, .q 1 (0)), (4, .q 4 (0)), (38, .p ((fun q : List GItem => AV.lst (q.flatMap GItem.cs) q.length) q0.Items)), (39, .i (q0.Items.length : Int)), (40, .i t40_0), (45, .i ((lrd q0.Items t40_0.toNat).Agg)), (52, .b (decide ((lrd q0.Items t40_0.toNat).Agg = (2 : Int))))] [(1, .pure (GQuery.cs q0)), (4, .pure (GItem.cs (lrd q0.Items t40_0.toNat)))] rfl rfl rfl ?_
         refine AW2_if (p := (lrd q0.Items t40_0.toNat).Agg = (2 : Int)) rfl (fun h22 => ?_) (fun h22 => ?_)
         ·replace H := ite_then h22 H
          refine as2 [(1, .q 1 (0)), (4, .q 4 (0)), (38, .p ((fun q : List GItem => AV.lst (q.flatMap GItem.cs) q.length) q0.Items)), (39, .i (q0.Items.length : Int)), (40, .i t40_0), (52, .b (decide ((lrd q0.Items t40_0.toNat).Agg = (2 : Int))))] [(1, .pure (GQuery.cs q0)), (4, .pure (GItem.cs (lrd q0.Items t40_0.toNat)))] rfl rfl rfl ?_
          refine AW2_skip ?_
          have hz := some_elim H
          subst hz
          exact rfl
         ·replace H := ite_else h22 H
          refine sg [0, 1] rfl ?_
          refine rp rfl rfl (p_ieq rfl rfl rfl) ?_
          refine rp rfl rfl (p_asg rfl rfl) ?_
          refine rz [(1, .q 1 (0)), (4, .q 4 (0)), (38, .p ((fun q : List GItem => AV.lst (q.flatMap GItem.cs) q.length) q0.Items)), (39, .i (q0.Items.length : Int)), (40, .i t40_0), (45, .i ((lrd q0.Items t40_0.toNat).Agg)), (52, .b (decide ((lrd q0.Items t40_0.toNat).Agg = (3 : Int))))] [(1, .pure (GQuery.cs q0)), (4, .pure (GItem.cs (lrd q0.Items t40_0.toNat)))] rfl rfl rfl ?_
          refine AW2_if (p := (lrd q0.Items t40_0.toNat).Agg = (3 : Int)) rfl (fun h23 => ?_) (fun h23 => ?_)
          ·replace H := ite_then h23 H
           refine as2 [(1, .q 1 (0)), (4, .q 4 (0)), (38, .p ((fun q : List GItem => AV.lst (q.flatMap GItem.cs) q.length) q0.Items)), (39, .i (q0.Items.length : Int)), (40, .i t40_0), (52, .b (decide ((lrd q0.Items t40_0.toNat).Agg = (3 : Int))))] [(1, .pure (GQuery.cs q0)), (4, .pure (GItem.cs (lrd q0.Items t40_0.toNat)))] rfl rfl rfl ?_
           refine AW2_skip ?_
           have hz := some_elim H
           subst hz
           exact rfl
          ·replace H := ite_else h23 H
           refine AW2_reg [0, 1] rfl ?_
           refine rp rfl rfl (p_ieq rfl rfl rfl) ?_
           refine rp rfl rfl (p_asg rfl rfl) ?_
           refine rz [(1, .q 1 (0)), (4, .q 4 (0)), (38, .p ((fun q : List GItem => AV.lst (q.flatMap GItem.cs) q.length) q0.Items)), (39, .i (q0.Items.length : Int)), (40, .i t40_0), (52, .b (decide ((lrd q0.Items t40_0.toNat).Agg = (4 : Int))))] [(1, .pure (GQuery.cs q0)), (4, .pure (GItem.cs (lrd q0.Items t40_0.toNat)))] rfl rfl rfl ?_
           have hz := some_elim H
           subst hz
           exact rfl
       ·refine AW2_cond rfl (fun h24 => ?_) (fun h24 => ?_)
        ·replace H := ite_then h24 H
         refine sg [0, 1, 2, 3] rfl ?_
         refine rp rfl rfl (u_fa rfl rfl Tryd.underlying61 rfl in_27 (Nat.succ_ne_zero _) rfl rfl (ne_of_lt (n := 0) (Nat.lt_of_lt_of_eq (by decide) (Eq.symm (GItem.len (lrd q0.Items t40_0.toNat)))))) ?_
         refine rp rfl rfl (u_lda rfl rfl Tryd.underlying27 rfl in_27 rfl (Nat.succ_pos _) ((Sub.refl _).trans (GItem.sub1 (lrd q0.Items t40_0.toNat))) (GExpr.len ((lrd q0.Items t40_0.toNat).Expr))) ?_
         refine bindK H fun r'9 h25 H => ?_
         refine rp rfl rfl (p_callp rfl rfl rfl Tryd.func18 rfl rfl (g_expr_Check_ac h25) ⟨rfl, trivial⟩) ?_
         refine rp rfl rfl (p_ine rfl rfl rfl) ?_
         refine rz [(1, .q 1 (0)), (38, .p ((fun q : List GItem => AV.lst (q.flatMap GItem.cs) q.length) q0.Items)), (39, .i (q0.Items.length : Int)), (40, .i t40_0), (60, .b (decide (r'9 ≠ (0 : Int))))] [(1, .pure (GQuery.cs q0))] rfl rfl rfl ?_
         refine AW2_if (p := r'9 ≠ (0 : Int)) rfl (fun h26 => ?_) (fun h26 => ?_)
         ·replace H := ite_then h26 H
          refine sg [0] rfl ?_
          refine rp rfl rfl (p_asg rfl rfl) ?_
          refine rz [(2, .b false)] [] rfl rfl rfl ?_
          refine AW2_ret ?_
          have hz := some_elim H
          subst hz
          exact ⟨rfl, ⟨res_tmp (.same _), trivial⟩, trivial⟩
         ·replace H := ite_else h26 H
          refine as2 [(1, .q 1 (0)), (38, .p ((fun q : List GItem => AV.lst (q.flatMap GItem.cs) q.length) q0.Items)), (39, .i (q0.Items.length : Int)), (40, .i t40_0)] [(1, .pure (GQuery.cs q0))] rfl rfl rfl ?_
          refine AW2_skip ?_
          have hz := some_elim H
          subst hz
          exact ⟨rfl, rfl⟩
        ·replace H := ite_else (ne_true h24) H
         refine sg [0] rfl ?_
         refine rp rfl rfl (p_asg rfl rfl) ?_
         refine rz [(2, .b false)] [] rfl rfl rfl ?_
         refine AW2_ret ?_
         have hz := some_elim H
         subst hz
         exact ⟨rfl, ⟨res_tmp (.same _), trivial⟩, trivial⟩
     ·subst hy
      refine AW2_reg [0, 1] rfl ?_
      refine rp rfl rfl (p_bin rfl rfl rfl rfl) ?_
      refine rp rfl rfl (p_move rfl rfl) ?_
      refine rz [(1, .q 1 (0)), (38, .p ((fun q : List GItem => AV.lst (q.flatMap GItem.cs) q.length) q0.Items)), (39, .i (q0.Items.length : Int)), (40, .i (w64 (t40_0 + (1 : Int))))] [(1, .pure (GQuery.cs q0))] rfl rfl rfl ?_
      have hz := some_elim H
      subst hz
      exact ⟨rfl, rfl⟩
     ·subst hy
      obtain ⟨rfl, hs⟩ := hs
      have hz := some_elim H
      subst hz
      exact ⟨rfl, hs.1, hs.2⟩
    ·replace H := ite_else h14 H
     refine as2 [(1, .q 1 (0))] [(1, .pure (GQuery.cs q0))] rfl rfl rfl ?_
     refine AW2_exit ?_
     refine thenQ2_exit ?_
     have hz := some_elim H
     subst hz
     exact ⟨rfl, rfl⟩
   ·rcases o'15 with y'16 | y'17
    ·obtain ⟨rfl, hs⟩ := hs
     refine ⟨by simp, ?_⟩
     have hz := some_elim H
     subst hz
     exact ⟨hs.1, hs.2⟩
    ·obtain ⟨rfl, rfl⟩ := hs
     refine ⟨by simp, ?_⟩
     refine blockQ2_exit ?_
     refine AW2_seq ?_
     refine sg [0, 1, 2, 3] rfl ?_
     refine rp rfl rfl (u_fa rfl rfl Tryd.underlying37 rfl in_35 (Nat.succ_ne_zero _) rfl rfl (ne_of_lt (n := 0) (Nat.lt_of_lt_of_eq (by decide) (Eq.symm (GQuery.len q0))))) ?_
     refine rp rfl rfl (u_ld rfl rfl Tryd.underlying35 rfl rfl ((Sub.refl _).trans (GQuery.sub3 q0))) ?_
     refine rp rfl rfl (p_lenl rfl Tryd.underlying35 rfl rfl) ?_
     refine rp rfl rfl (p_move rfl rfl) ?_
     refine rz [(1, .q 1 (0)), (63, .p ((fun q : List GSort => AV.lst (q.flatMap GSort.cs) q.length) q0.Sorts)), (64, .i (q0.Sorts.length : Int)), (65, .i (0 : Int))] [(1, .pure (GQuery.cs q0))] rfl rfl rfl ?_
     refine AW2_block ?_
     refine as2 [(1, .q 1 (0)), (63, .p ((fun q : List GSort => AV.lst (q.flatMap GSort.cs) q.length) q0.Sorts)), (64, .i (q0.Sorts.length : Int)), (65, .i (0 : Int))] [(1, .pure (GQuery.cs q0))] rfl rfl rfl ?_
     refine bindK H fun o'21 h31 H => ?_
     refine AW2_loopO (fun a'18 : Int => (⟨[(1, .q 1 (0)), (63, .p ((fun q : List GSort => AV.lst (q.flatMap GSort.cs) q.length) q0.Sorts)), (64, .i (q0.Sorts.length : Int)), (65, .i a'18)], [(1, .pure (GQuery.cs q0))], 77⟩ : TS)) (fun (o : Bool ⊕ Unit) e s' => match o with | .inl y'19 => e = Go.Exit.ret ∧ ResAll Tryd.prog s' [ResultVar.tmp 2] [.b y'19] ∧ HFits s' [] | .inr (y'20) => e = Go.Exit.exit 3 ∧ s' = (⟨[(1, .q 1 (0))], [(1, .pure (GQuery.cs q0))], 77⟩ : TS)) h31 rfl (fun t65_1 x hx => ?_) (fun e s' hs => ?_)
     ·clear H
      have H := hx
      clear hx
      unfold g_stmt_asked_l1 at H
      refine sg [0] rfl ?_
      refine rp rfl rfl (p_bin rfl rfl rfl rfl) ?_
      refine rz [(1, .q 1 (0)), (63, .p ((fun q : List GSort => AV.lst (q.flatMap GSort.cs) q.length) q0.Sorts)), (64, .i (q0.Sorts.length : Int)), (65, .i t65_1), (66, .b (decide (t65_1 < (q0.Sorts.length : Int))))] [(1, .pure (GQuery.cs q0))] rfl rfl rfl ?_
      refine AW2_seq ?_
      refine AW2_if (p := t65_1 < (q0.Sorts.length : Int)) rfl (fun h28 => ?_) (fun h28 => ?_)
      ·replace H := ite_then h28 H
       refine as2 [(1, .q 1 (0)), (63, .p ((fun q : List GSort => AV.lst (q.flatMap GSort.cs) q.length) q0.Sorts)), (64, .i (q0.Sorts.length : Int)), (65, .i t65_1)] [(1, .pure (GQuery.cs q0))] rfl rfl rfl ?_
       refine AW2_skip ?_
       refine AW2_seq ?_
       refine AW2_block ?_
       refine sg [0, 1, 2, 3] rfl ?_
       refine chkK H fun h29 H => ?_
       refine rp rfl rfl (u_ixl rfl rfl Tryd.underlying35 in_64 rfl rfl (ixe h29) (ixn h29) (fne (fun x => (GSort.len x)) (by decide) (ixn h29))) ?_
       refine rp rfl rfl (u_lda rfl rfl Tryd.underlying64 rfl in_64 rfl (Nat.succ_pos _) (Sub.fm default (fun x => (GSort.len x)) (ixn h29)) (GSort.len (lrd q0.Sorts t65_1.toNat))) ?_
       refine r_op rfl rfl (MakeD.opD (u_alloc 6 rfl in_64 one_64 zc_64) rfl rfl rfl rfl) ?_
       refine r_op rfl rfl (u_st rfl rfl rfl rfl rfl in_64 (GSort.len (lrd q0.Sorts t65_1.toNat)) (ne_of_lt (n := 0) (Nat.lt_of_lt_of_eq (by decide) (Eq.symm (GSort.len GSort.zero)))) (Upd.refl ((GSort.len (lrd q0.Sorts t65_1.toNat)).trans (GSort.len GSort.zero).symm))) ?_
       refine rz [(1, .q 1 (0)), (6, .q 6 (0)), (63, .p ((fun q : List GSort => AV.lst (q.flatMap GSort.cs) q.length) q0.Sorts)), (64, .i (q0.Sorts.length : Int)), (65, .i t65_1)] [(1, .pure (GQuery.cs q0)), (6, .pure (GSort.cs (lrd q0.Sorts t65_1.toNat)))] rfl rfl rfl ?_
       refine sg [0, 1, 2] rfl ?_
       refine rp rfl rfl (u_fa rfl rfl Tryd.underlying64 rfl in_3 (Nat.succ_ne_zero _) rfl rfl (ne_of_lt (n := 0) (Nat.lt_of_lt_of_eq (by decide) (Eq.symm (GSort.len (lrd q0.Sorts t65_1.toNat)))))) ?_
       refine rp rfl rfl (u_ld rfl rfl Tryd.underlying3 rfl rfl ((Sub.refl _).trans (GSort.sub0 (lrd q0.Sorts t65_1.toNat)))) ?_
       refine rp rfl rfl (p_bin rfl rfl rfl rfl) ?_
       refine rz [(1, .q 1 (0)), (63, .p ((fun q : List GSort => AV.lst (q.flatMap GSort.cs) q.length) q0.Sorts)), (64, .i (q0.Sorts.length : Int)), (65, .i t65_1), (71, .b (decide ((lrd q0.Sorts t65_1.toNat).Item < (0 : Int))))] [(1, .pure (GQuery.cs q0))] rfl rfl rfl ?_
       refine AW2_if (p := (lrd q0.Sorts t65_1.toNat).Item < (0 : Int)) rfl (fun h30 => ?_) (fun h30 => ?_)
       ·replace H := ite_then h30 H
        refine sg [0] rfl ?_
        refine rp rfl rfl (p_asg rfl rfl) ?_
        refine rz [(2, .b false)] [] rfl rfl rfl ?_
        refine AW2_ret ?_
        have hz := some_elim H
        subst hz
        exact ⟨rfl, ⟨res_tmp (.same _), trivial⟩, trivial⟩
       ·replace H := ite_else h30 H
        refine as2 [(1, .q 1 (0)), (63, .p ((fun q : List GSort => AV.lst (q.flatMap GSort.cs) q.length) q0.Sorts)), (64, .i (q0.Sorts.length : Int)), (65, .i t65_1)] [(1, .pure (GQuery.cs q0))] rfl rfl rfl ?_
        refine AW2_skip ?_
        refine AW2_reg [0, 1] rfl ?_
        refine rp rfl rfl (p_bin rfl rfl rfl rfl) ?_
        refine rp rfl rfl (p_move rfl rfl) ?_
        refine rz [(1, .q 1 (0)), (63, .p ((fun q : List GSort => AV.lst (q.flatMap GSort.cs) q.length) q0.Sorts)), (64, .i (q0.Sorts.length : Int)), (65, .i (w64 (t65_1 + (1 : Int))))] [(1, .pure (GQuery.cs q0))] rfl rfl rfl ?_
        have hz := some_elim H
        subst hz
        exact ⟨rfl, rfl⟩
      ·replace H := ite_else h28 H
       refine as2 [(1, .q 1 (0))] [(1, .pure (GQuery.cs q0))] rfl rfl rfl ?_
       refine AW2_exit ?_
       refine thenQ2_exit ?_
       have hz := some_elim H
       subst hz
       exact ⟨rfl, rfl⟩
     ·rcases o'21 with y'22 | y'23
      ·obtain ⟨rfl, hs⟩ := hs
       refine ⟨by simp, ?_⟩
       have hz := some_elim H
       subst hz
       exact ⟨hs.1, hs.2⟩
      ·obtain ⟨rfl, rfl⟩ := hs
       refine ⟨by simp, ?_⟩
       refine blockQ2_exit ?_
       refine sg [0, 1, 2, 3, 4] rfl ?_
       refine rp rfl rfl (u_fa rfl rfl Tryd.underlying37 rfl in_34 (Nat.succ_ne_zero _) rfl rfl (ne_of_lt (n := 0) (Nat.lt_of_lt_of_eq (by decide) (Eq.symm (GQuery.len q0))))) ?_
       refine rp rfl rfl (u_ld rfl rfl Tryd.underlying34 rfl rfl ((Sub.refl _).trans (GQuery.sub0 q0))) ?_
       refine rp rfl rfl (p_lenl rfl Tryd.underlying34 rfl rfl) ?_
       refine rp rfl rfl (p_bin rfl rfl rfl rfl) ?_
       refine rp rfl rfl (p_asg rfl rfl) ?_
       refine rz [(2, .b (decide ((q0.Items.length : Int) > (0 : Int))))] [] rfl rfl rfl ?_
       refine AW2_ret ?_
       have hz := some_elim H
       subst hz
       exact ⟨⟨res_tmp (.same _), trivial⟩, trivial⟩

/-! stmt.formed -/
noncomputable def g_stmt_formed_l0 (c0 : GCommand) : Int → Option (Int ⊕ (Bool ⊕ Unit))
  | t35_0 => (if t35_0 < (c0.Cols.length : Int) then if 0 ≤ t35_0 ∧ t35_0 < (c0.Cols.length : Int) then (g_stmt_name ((lrd c0.Cols t35_0.toNat).Name)).bind fun r'2 => (if (((!r'2) = true) ∨ ((lrd c0.Cols t35_0.toNat).Kind < (1 : Int))) ∨ ((lrd c0.Cols t35_0.toNat).Kind > (4 : Int)) then some (.inr (.inl false)) else some (.inl (w64 (t35_0 + (1 : Int))))) else none else some (.inr (.inr ())))
noncomputable def g_stmt_formed_l1 (c0 : GCommand) : Int → Option (Int ⊕ (Bool ⊕ Unit))
  | t63_1 => (if t63_1 < (c0.Row.length : Int) then if 0 ≤ t63_1 ∧ t63_1 < (c0.Row.length : Int) then (g_value_Check (lrd c0.Row t63_1.toNat)).bind fun r'9 => (if (r'9 ≠ (0 : Int)) ∨ ((lrd c0.Row t63_1.toNat).Int_ = (-9223372036854775808 : Int)) then some (.inr (.inl false)) else some (.inl (w64 (t63_1 + (1 : Int))))) else none else some (.inr (.inr ())))
noncomputable def g_stmt_formed_l2 (c0 : GCommand) : Int → Option (Int ⊕ (Bool ⊕ Unit))
  | t85_2 => (if t85_2 < (c0.Sets.length : Int) then if 0 ≤ t85_2 ∧ t85_2 < (c0.Sets.length : Int) then ((g_stmt_name ((lrd c0.Sets t85_2.toNat).Col)).bind fun r'18 => (if (!r'18) = true then some true else (g_expr_Check ((lrd c0.Sets t85_2.toNat).Expr)).bind fun r'19 => some (decide (r'19 ≠ (0 : Int))))).bind fun g'20 => (if g'20 = true then some (.inr (.inl false)) else some (.inl (w64 (t85_2 + (1 : Int))))) else none else some (.inr (.inr ())))
noncomputable def g_stmt_formed (c0 : GCommand) : Option (Bool) :=
  (g_stmt_name c0.Table).bind fun r'1 => (if ((((!r'1) = true) ∨ (c0.Owner < (0 : Int))) ∨ (c0.Drawer < (0 : Int))) ∨ (c0.To < (0 : Int)) then some false else (if c0.Kind = (1 : Int) then (loopO (g_stmt_formed_l0 c0) (0 : Int)).bind fun o'6 => match o'6 with | .inl y'7 => some y'7 | .inr (y'8) => some (decide ((c0.Cols.length : Int) > (0 : Int))) else (if c0.Kind = (2 : Int) then (loopO (g_stmt_formed_l1 c0) (0 : Int)).bind fun o'13 => match o'13 with | .inl y'14 => some y'14 | .inr (y'15) => some (decide ((c0.Row.length : Int) > (0 : Int))) else (if c0.Kind = (3 : Int) then (loopO (g_stmt_formed_l2 c0) (0 : Int)).bind fun o'24 => match o'24 with | .inl y'25 => some y'25 | .inr (y'26) => ((if (c0.Sets.length : Int) > (0 : Int) then (g_stmt_condition c0.Where).bind fun r'28 => some r'28 else some false)).bind fun g'29 => some g'29 else (if c0.Kind = (4 : Int) then (g_stmt_condition c0.Where).bind fun r'30 => some r'30 else (if c0.Kind = (5 : Int) then (g_stmt_asked c0.Query).bind fun r'31 => some r'31 else some (decide ((c0.Right = (1 : Int)) ∨ (c0.Right = (2 : Int))))))))))
set_option maxHeartbeats 4000000 in
set_option maxRecDepth 100000 in
theorem g_stmt_formed_ac {c0 : GCommand} {r : Bool} (H : g_stmt_formed c0 = some r) : ACp Tryd.prog 31 [(.agg (GCommand.cs c0))] (AV.bool r) := by
 refine ACp_of (AC2_of_body (vs := [.b r]) Tryd.func31 rfl rfl (Nat.le_of_ble_eq_true rfl) rfl ?_) (fun _ => .same _)
 unfold g_stmt_formed at H
 refine as2 [(0, .g (GCommand.cs c0))] [] rfl rfl rfl ?_
 refine sg [0, 1] rfl ?_
 refine r_op rfl rfl (MakeD.opD (n_box 1 rfl rfl) rfl rfl rfl rfl) ?_
 refine rp rfl rfl (p_asg rfl rfl) ?_
 refine rz [(1, .q 1 (0))] [(1, .pure (GCommand.cs c0))] rfl rfl rfl ?_
 refine AW2_seq ?_
 refine AW2_seq ?_
 refine bindK H fun r'1 h1 H => ?_
 refine AW2_mid (⟨[(1, .q 1 (0)), (27, .b (decide (((((!r'1) = true) ∨ (c0.Owner < (0 : Int))) ∨ (c0.Drawer < (0 : Int))) ∨ (c0.To < (0 : Int)))))], [(1, .pure (GCommand.cs c0))], 127⟩ : TS) ?_ ?_
 ·refine AW2_reg [0, 1, 2, 3, 4, 5, 6, 7, 8, 9, 10, 11, 12, 13, 14, 15, 16, 17, 18] rfl ?_
  refine rp rfl rfl (u_fa rfl rfl Tryd.underlying43 rfl in_9 (Nat.succ_ne_zero _) rfl rfl (ne_of_lt (n := 0) (Nat.lt_of_lt_of_eq (by decide) (Eq.symm (GCommand.len c0))))) ?_
  refine rp rfl rfl (u_ld rfl rfl Tryd.underlying9 rfl rfl ((Sub.refl _).trans (GCommand.sub2 c0))) ?_
  refine rp rfl rfl (p_callp rfl rfl rfl Tryd.func54 rfl rfl (g_stmt_name_ac h1) ⟨rfl, trivial⟩) ?_
  refine rp rfl rfl (p_not rfl rfl) ?_
  refine rp rfl rfl (p_move rfl rfl) ?_
  refine (Classical.em ((!r'1) = true)).elim (fun h2 => ?_) (fun h2 => ?_)
  ·iterate 3 (refine r_off rfl rfl rfl rfl h2 rfl rfl ?_)
   have qq1 := decide_eq_true (p := ((!r'1) = true) ∨ (c0.Owner < (0 : Int))) (Or.inl h2)
   refine rp rfl rfl (p_pkt rfl rfl h2 (tb qq1.symm)) ?_
   refine rp rfl rfl (p_move rfl rfl) ?_
   iterate 3 (refine r_off rfl rfl rfl rfl qq1 rfl rfl ?_)
   have qq2 := decide_eq_true (p := (((!r'1) = true) ∨ (c0.Owner < (0 : Int))) ∨ (c0.Drawer < (0 : Int))) (Or.inl (Or.inl h2))
   refine rp rfl rfl (p_pkt rfl rfl qq1 (tb qq2.symm)) ?_
   refine rp rfl rfl (p_move rfl rfl) ?_
   iterate 3 (refine r_off rfl rfl rfl rfl qq2 rfl rfl ?_)
   refine rp rfl rfl (p_pkt rfl rfl qq2 (tb (decide_eq_true (p := ((((!r'1) = true) ∨ (c0.Owner < (0 : Int))) ∨ (c0.Drawer < (0 : Int))) ∨ (c0.To < (0 : Int))) (Or.inl (Or.inl (Or.inl h2)))).symm)) ?_
   refine rs [(1, .q 1 (0)), (27, .b (decide (((((!r'1) = true) ∨ (c0.Owner < (0 : Int))) ∨ (c0.Drawer < (0 : Int))) ∨ (c0.To < (0 : Int)))))] [(1, .pure (GCommand.cs c0))] rfl rfl rfl ?_
   exact RunW_nil rfl
  ·refine r_on rfl rfl rfl rfl (bfalse h2) rfl (PureD.opD (u_fa rfl rfl Tryd.underlying43 rfl in_3 (Nat.succ_ne_zero _) rfl rfl (ne_of_lt (n := 0) (Nat.lt_of_lt_of_eq (by decide) (Eq.symm (GCommand.len c0)))))) ?_
   refine r_on rfl rfl rfl rfl (bfalse h2) rfl (PureD.opD (u_ld rfl rfl Tryd.underlying3 rfl rfl ((Sub.refl _).trans (GCommand.sub1 c0)))) ?_
   refine r_on rfl rfl rfl rfl (bfalse h2) rfl (PureD.opD (p_bin rfl rfl rfl rfl)) ?_
   refine rp rfl rfl (p_pkf rfl rfl (bfalse h2) (tb ((or_l (p := (!r'1) = true) (q := c0.Owner < (0 : Int)) h2)))) ?_
   refine rp rfl rfl (p_move rfl rfl) ?_
   refine (Classical.em (c0.Owner < (0 : Int))).elim (fun h3 => ?_) (fun h3 => ?_)
   ·have qq3 := decide_eq_true (p := ((!r'1) = true) ∨ (c0.Owner < (0 : Int))) (Or.inr h3)
    iterate 3 (refine r_off rfl rfl rfl rfl qq3 rfl rfl ?_)
    have qq4 := decide_eq_true (p := (((!r'1) = true) ∨ (c0.Owner < (0 : Int))) ∨ (c0.Drawer < (0 : Int))) (Or.inl (Or.inr h3))
    refine rp rfl rfl (p_pkt rfl rfl qq3 (tb qq4.symm)) ?_
    refine rp rfl rfl (p_move rfl rfl) ?_
    iterate 3 (refine r_off rfl rfl rfl rfl qq4 rfl rfl ?_)
    refine rp rfl rfl (p_pkt rfl rfl qq4 (tb (decide_eq_true (p := ((((!r'1) = true) ∨ (c0.Owner < (0 : Int))) ∨ (c0.Drawer < (0 : Int))) ∨ (c0.To < (0 : Int))) (Or.inl (Or.inl (Or.inr h3)))).symm)) ?_
    refine rs [(1, .q 1 (0)), (27, .b (decide (((((!r'1) = true) ∨ (c0.Owner < (0 : Int))) ∨ (c0.Drawer < (0 : Int))) ∨ (c0.To < (0 : Int)))))] [(1, .pure (GCommand.cs c0))] rfl rfl rfl ?_
    exact RunW_nil rfl
   ·have qq5 := decide_eq_false (p := ((!r'1) = true) ∨ (c0.Owner < (0 : Int))) (not_or.2 ⟨h2, h3⟩)
    refine rn rfl rfl rfl rfl qq5 rfl (u_fa rfl rfl Tryd.underlying43 rfl in_3 (Nat.succ_ne_zero _) rfl rfl (ne_of_lt (n := 0) (Nat.lt_of_lt_of_eq (by decide) (Eq.symm (GCommand.len c0))))) ?_
    refine rn rfl rfl rfl rfl qq5 rfl (u_ld rfl rfl Tryd.underlying3 rfl rfl ((Sub.refl _).trans (GCommand.sub3 c0))) ?_
    refine rn rfl rfl rfl rfl qq5 rfl (p_bin rfl rfl rfl rfl) ?_
    refine rp rfl rfl (p_pkf rfl rfl qq5 (tb ((or_l (p := ((!r'1) = true) ∨ (c0.Owner < (0 : Int))) (q := c0.Drawer < (0 : Int)) (not_or.2 ⟨h2, h3⟩))))) ?_
    refine rp rfl rfl (p_move rfl rfl) ?_
    refine (Classical.em (c0.Drawer < (0 : Int))).elim (fun h4 => ?_) (fun h4 => ?_)
    ·have qq6 := decide_eq_true (p := (((!r'1) = true) ∨ (c0.Owner < (0 : Int))) ∨ (c0.Drawer < (0 : Int))) (Or.inr h4)
     iterate 3 (refine r_off rfl rfl rfl rfl qq6 rfl rfl ?_)
     refine rp rfl rfl (p_pkt rfl rfl qq6 (tb (decide_eq_true (p := ((((!r'1) = true) ∨ (c0.Owner < (0 : Int))) ∨ (c0.Drawer < (0 : Int))) ∨ (c0.To < (0 : Int))) (Or.inl (Or.inr h4))).symm)) ?_
     refine rs [(1, .q 1 (0)), (27, .b (decide (((((!r'1) = true) ∨ (c0.Owner < (0 : Int))) ∨ (c0.Drawer < (0 : Int))) ∨ (c0.To < (0 : Int)))))] [(1, .pure (GCommand.cs c0))] rfl rfl rfl ?_
     exact RunW_nil rfl
    ·have qq7 := decide_eq_false (p := (((!r'1) = true) ∨ (c0.Owner < (0 : Int))) ∨ (c0.Drawer < (0 : Int))) (not_or.2 ⟨(not_or.2 ⟨h2, h3⟩), h4⟩)
     refine rn rfl rfl rfl rfl qq7 rfl (u_fa rfl rfl Tryd.underlying43 rfl in_3 (Nat.succ_ne_zero _) rfl rfl (ne_of_lt (n := 0) (Nat.lt_of_lt_of_eq (by decide) (Eq.symm (GCommand.len c0))))) ?_
     refine rn rfl rfl rfl rfl qq7 rfl (u_ld rfl rfl Tryd.underlying3 rfl rfl ((Sub.refl _).trans (GCommand.sub9 c0))) ?_
     refine rn rfl rfl rfl rfl qq7 rfl (p_bin rfl rfl rfl rfl) ?_
     refine rp rfl rfl (p_pkf rfl rfl qq7 (tb ((or_l (p := (((!r'1) = true) ∨ (c0.Owner < (0 : Int))) ∨ (c0.Drawer < (0 : Int))) (q := c0.To < (0 : Int)) (not_or.2 ⟨(not_or.2 ⟨h2, h3⟩), h4⟩))))) ?_
     refine rs [(1, .q 1 (0)), (27, .b (decide (((((!r'1) = true) ∨ (c0.Owner < (0 : Int))) ∨ (c0.Drawer < (0 : Int))) ∨ (c0.To < (0 : Int)))))] [(1, .pure (GCommand.cs c0))] rfl rfl rfl ?_
     exact RunW_nil rfl
 ·refine AW2_if (p := ((((!r'1) = true) ∨ (c0.Owner < (0 : Int))) ∨ (c0.Drawer < (0 : Int))) ∨ (c0.To < (0 : Int))) rfl (fun h5 => ?_) (fun h5 => ?_)
  ·replace H := ite_then h5 H
   refine sg [0] rfl ?_
   refine rp rfl rfl (p_asg rfl rfl) ?_
   refine rz [(2, .b false)] [] rfl rfl rfl ?_
   refine AW2_ret ?_
   have hz := some_elim H
   subst hz
   exact ⟨⟨res_tmp (.same _), trivial⟩, trivial⟩
  ·replace H := ite_else h5 H
   refine as2 [(1, .q 1 (0))] [(1, .pure (GCommand.cs c0))] rfl rfl rfl ?_
   refine AW2_skip ?_
   refine AW2_seq ?_
   refine sg [0, 1] rfl ?_
   refine rp rfl rfl (u_fa rfl rfl Tryd.underlying43 rfl in_3 (Nat.succ_ne_zero _) rfl rfl (ne_of_lt (n := 0) (Nat.lt_of_lt_of_eq (by decide) (Eq.symm (GCommand.len c0))))) ?_
   refine rp rfl rfl (u_ld rfl rfl Tryd.underlying3 rfl rfl ((Sub.refl _).trans (GCommand.sub0 c0))) ?_
   refine rz [(1, .q 1 (0)), (29, .i c0.Kind)] [(1, .pure (GCommand.cs c0))] rfl rfl rfl ?_
   refine AW2_block ?_
   refine sg [0, 1] rfl ?_
   refine rp rfl rfl (p_ieq rfl rfl rfl) ?_
   refine rp rfl rfl (p_asg rfl rfl) ?_
   refine rz [(1, .q 1 (0)), (29, .i c0.Kind), (30, .b (decide (c0.Kind = (1 : Int))))] [(1, .pure (GCommand.cs c0))] rfl rfl rfl ?_
   refine AW2_if (p := c0.Kind = (1 : Int)) rfl (fun h6 => ?_) (fun h6 => ?_)
   ·replace H := ite_then h6 H
    refine AW2_seq ?_
    refine sg [0, 1, 2, 3] rfl ?_
    refine rp rfl rfl (u_fa rfl rfl Tryd.underlying43 rfl in_28 (Nat.succ_ne_zero _) rfl rfl (ne_of_lt (n := 0) (Nat.lt_of_lt_of_eq (by decide) (Eq.symm (GCommand.len c0))))) ?_
    refine rp rfl rfl (u_ld rfl rfl Tryd.underlying28 rfl rfl ((Sub.refl _).trans (GCommand.sub4 c0))) ?_
    refine rp rfl rfl (p_lenl rfl Tryd.underlying28 rfl rfl) ?_
    refine rp rfl rfl (p_move rfl rfl) ?_
    refine rz [(1, .q 1 (0)), (33, .p ((fun q : List GColumn => AV.lst (q.flatMap GColumn.cs) q.length) c0.Cols)), (34, .i (c0.Cols.length : Int)), (35, .i (0 : Int))] [(1, .pure (GCommand.cs c0))] rfl rfl rfl ?_
    refine AW2_block ?_
    refine as2 [(1, .q 1 (0)), (33, .p ((fun q : List GColumn => AV.lst (q.flatMap GColumn.cs) q.length) c0.Cols)), (34, .i (c0.Cols.length : Int)), (35, .i (0 : Int))] [(1, .pure (GCommand.cs c0))] rfl rfl rfl ?_
    refine bindK H fun o'6 h13 H => ?_
    refine AW2_loopO (fun a'3 : Int => (⟨[(1, .q 1 (0)), (33, .p ((fun q : List GColumn => AV.lst (q.flatMap GColumn.cs) q.length) c0.Cols)), (34, .i (c0.Cols.length : Int)), (35, .i a'3)], [(1, .pure (GCommand.cs c0))], 127⟩ : TS)) (fun (o : Bool ⊕ Unit) e s' => match o with | .inl y'4 => e = Go.Exit.ret ∧ ResAll Tryd.prog s' [ResultVar.tmp 2] [.b y'4] ∧ HFits s' [] | .inr (y'5) => e = Go.Exit.exit 1 ∧ s' = (⟨[(1, .q 1 (0))], [(1, .pure (GCommand.cs c0))], 127⟩ : TS)) h13 rfl (fun t35_0 x hx => ?_) (fun e s' hs => ?_)
    ·clear H
     have H := hx
     clear hx
     unfold g_stmt_formed_l0 at H
     refine sg [0] rfl ?_
     refine rp rfl rfl (p_bin rfl rfl rfl rfl) ?_
     refine rz [(1, .q 1 (0)), (33, .p ((fun q : List GColumn => AV.lst (q.flatMap GColumn.cs) q.length) c0.Cols)), (34, .i (c0.Cols.length : Int)), (35, .i t35_0), (36, .b (decide (t35_0 < (c0.Cols.length : Int))))] [(1, .pure (GCommand.cs c0))] rfl rfl rfl ?_
     refine AW2_seq ?_
     refine AW2_if (p := t35_0 < (c0.Cols.length : Int)) rfl (fun h7 => ?_) (fun h7 => ?_)
     ·replace H := ite_then h7 H
      refine as2 [(1, .q 1 (0)), (33, .p ((fun q : List GColumn => AV.lst (q.flatMap GColumn.cs) q.length) c0.Cols)), (34, .i (c0.Cols.length : Int)), (35, .i t35_0)] [(1, .pure (GCommand.cs c0))] rfl rfl rfl ?_
      refine AW2_skip ?_
      refine AW2_seq ?_
      refine AW2_block ?_
      refine sg [0, 1, 2, 3] rfl ?_
      refine chkK H fun h8 H => ?_
      refine rp rfl rfl (u_ixl rfl rfl Tryd.underlying28 in_59 rfl rfl (ixe h8) (ixn h8) (fne (fun x => (GColumn.len x)) (by decide) (ixn h8))) ?_
      refine rp rfl rfl (u_lda rfl rfl Tryd.underlying59 rfl in_59 rfl (Nat.succ_pos _) (Sub.fm default (fun x => (GColumn.len x)) (ixn h8)) (GColumn.len (lrd c0.Cols t35_0.toNat))) ?_
      refine r_op rfl rfl (MakeD.opD (u_alloc 4 rfl in_59 one_59 zc_59) rfl rfl rfl rfl) ?_
      refine r_op rfl rfl (u_st rfl rfl rfl rfl rfl in_59 (GColumn.len (lrd c0.Cols t35_0.toNat)) (ne_of_lt (n := 0) (Nat.lt_of_lt_of_eq (by decide) (Eq.symm (GColumn.len GColumn.zero)))) (Upd.refl ((GColumn.len (lrd c0.Cols t35_0.toNat)).trans (GColumn.len GColumn.zero).symm))) ?_
      refine rz [(1, .q 1 (0)), (4, .q 4 (0)), (33, .p ((fun q : List GColumn => AV.lst (q.flatMap GColumn.cs) q.length) c0.Cols)), (34, .i (c0.Cols.length : Int)), (35, .i t35_0)] [(1, .pure (GCommand.cs c0)), (4, .pure (GColumn.cs (lrd c0.Cols t35_0.toNat)))] rfl rfl rfl ?_
      refine AW2_seq ?_
      refine bindK H fun r'2 h9 H => ?_
      refine AW2_mid (⟨[(1, .q 1 (0)), (33, .p ((fun q : List GColumn => AV.lst (q.flatMap GColumn.cs) q.length) c0.Cols)), (34, .i (c0.Cols.length : Int)), (35, .i t35_0), (52, .b (decide ((((!r'2) = true) ∨ ((lrd c0.Cols t35_0.toNat).Kind < (1 : Int))) ∨ ((lrd c0.Cols t35_0.toNat).Kind > (4 : Int)))))], [(1, .pure (GCommand.cs c0))], 127⟩ : TS) ?_ ?_
      ·refine AW2_reg [0, 1, 2, 3, 4, 5, 6, 7, 8, 9, 10, 11, 12, 13] rfl ?_
       refine rp rfl rfl (u_fa rfl rfl Tryd.underlying59 rfl in_9 (Nat.succ_ne_zero _) rfl rfl (ne_of_lt (n := 0) (Nat.lt_of_lt_of_eq (by decide) (Eq.symm (GColumn.len (lrd c0.Cols t35_0.toNat)))))) ?_
       refine rp rfl rfl (u_ld rfl rfl Tryd.underlying9 rfl rfl ((Sub.refl _).trans (GColumn.sub0 (lrd c0.Cols t35_0.toNat)))) ?_
       refine rp rfl rfl (p_callp rfl rfl rfl Tryd.func54 rfl rfl (g_stmt_name_ac h9) ⟨rfl, trivial⟩) ?_
       refine rp rfl rfl (p_not rfl rfl) ?_
       refine rp rfl rfl (p_move rfl rfl) ?_
       refine (Classical.em ((!r'2) = true)).elim (fun h10 => ?_) (fun h10 => ?_)
       ·iterate 3 (refine r_off rfl rfl rfl rfl h10 rfl rfl ?_)
        have qq8 := decide_eq_true (p := ((!r'2) = true) ∨ ((lrd c0.Cols t35_0.toNat).Kind < (1 : Int))) (Or.inl h10)
        refine rp rfl rfl (p_pkt rfl rfl h10 (tb qq8.symm)) ?_
        refine rp rfl rfl (p_move rfl rfl) ?_
        iterate 3 (refine r_off rfl rfl rfl rfl qq8 rfl rfl ?_)
        refine rp rfl rfl (p_pkt rfl rfl qq8 (tb (decide_eq_true (p := (((!r'2) = true) ∨ ((lrd c0.Cols t35_0.toNat).Kind < (1 : Int))) ∨ ((lrd c0.Cols t35_0.toNat).Kind > (4 : Int))) (Or.inl (Or.inl h10))).symm)) ?_
        refine rs [(1, .q 1 (0)), (33, .p ((fun q : List GColumn => AV.lst (q.flatMap GColumn.cs) q.length) c0.Cols)), (34, .i (c0.Cols.length : Int)), (35, .i t35_0), (52, .b (decide ((((!r'2) = true) ∨ ((lrd c0.Cols t35_0.toNat).Kind < (1 : Int))) ∨ ((lrd c0.Cols t35_0.toNat).Kind > (4 : Int)))))] [(1, .pure (GCommand.cs c0))] rfl rfl rfl ?_
        exact RunW_nil rfl
       ·refine r_on rfl rfl rfl rfl (bfalse h10) rfl (PureD.opD (u_fa rfl rfl Tryd.underlying59 rfl in_3 (Nat.succ_ne_zero _) rfl rfl (ne_of_lt (n := 0) (Nat.lt_of_lt_of_eq (by decide) (Eq.symm (GColumn.len (lrd c0.Cols t35_0.toNat))))))) ?_
        refine r_on rfl rfl rfl rfl (bfalse h10) rfl (PureD.opD (u_ld rfl rfl Tryd.underlying3 rfl rfl ((Sub.refl _).trans (GColumn.sub1 (lrd c0.Cols t35_0.toNat))))) ?_
        refine r_on rfl rfl rfl rfl (bfalse h10) rfl (PureD.opD (p_bin rfl rfl rfl rfl)) ?_
        refine rp rfl rfl (p_pkf rfl rfl (bfalse h10) (tb ((or_l (p := (!r'2) = true) (q := (lrd c0.Cols t35_0.toNat).Kind < (1 : Int)) h10)))) ?_
        refine rp rfl rfl (p_move rfl rfl) ?_
        refine (Classical.em ((lrd c0.Cols t35_0.toNat).Kind < (1 : Int))).elim (fun h11 => ?_) (fun h11 => ?_)
        ·have qq9 := decide_eq_true (p := ((!r'2) = true) ∨ ((lrd c0.Cols t35_0.toNat).Kind < (1 : Int))) (Or.inr h11)
         iterate 3 (refine r_off rfl rfl rfl rfl qq9 rfl rfl ?_)
         refine rp rfl rfl (p_pkt rfl rfl qq9 (tb (decide_eq_true (p := (((!r'2) = true) ∨ ((lrd c0.Cols t35_0.toNat).Kind < (1 : Int))) ∨ ((lrd c0.Cols t35_0.toNat).Kind > (4 : Int))) (Or.inl (Or.inr h11))).symm)) ?_
         refine rs [(1, .q 1 (0)), (33, .p ((fun q : List GColumn => AV.lst (q.flatMap GColumn.cs) q.length) c0.Cols)), (34, .i (c0.Cols.length : Int)), (35, .i t35_0), (52, .b (decide ((((!r'2) = true) ∨ ((lrd c0.Cols t35_0.toNat).Kind < (1 : Int))) ∨ ((lrd c0.Cols t35_0.toNat).Kind > (4 : Int)))))] [(1, .pure (GCommand.cs c0))] rfl rfl rfl ?_
         exact RunW_nil rfl
        ·have qq10 := decide_eq_false (p := ((!r'2) = true) ∨ ((lrd c0.Cols t35_0.toNat).Kind < (1 : Int))) (not_or.2 ⟨h10, h11⟩)
         refine rn rfl rfl rfl rfl qq10 rfl (u_fa rfl rfl Tryd.underlying59 rfl in_3 (Nat.succ_ne_zero _) rfl rfl (ne_of_lt (n := 0) (Nat.lt_of_lt_of_eq (by decide) (Eq.symm (GColumn.len (lrd c0.Cols t35_0.toNat)))))) ?_
         refine rn rfl rfl rfl rfl qq10 rfl (u_ld rfl rfl Tryd.underlying3 rfl rfl ((Sub.refl _).trans (GColumn.sub1 (lrd c0.Cols t35_0.toNat)))) ?_
         refine rn rfl rfl rfl rfl qq10 rfl (p_bin rfl rfl rfl rfl) ?_
         refine rp rfl rfl (p_pkf rfl rfl qq10 (tb ((or_l (p := ((!r'2) = true) ∨ ((lrd c0.Cols t35_0.toNat).Kind < (1 : Int))) (q := (lrd c0.Cols t35_0.toNat).Kind > (4 : Int)) (not_or.2 ⟨h10, h11⟩))))) ?_
         refine rs [(1, .q 1 (0)), (33, .p ((fun q : List GColumn => AV.lst (q.flatMap GColumn.cs) q.length) c0.Cols)), (34, .i (c0.Cols.length : Int)), (35, .i t35_0), (52, .b (decide ((((!r'2) = true) ∨ ((lrd c0.Cols t35_0.toNat).Kind < (1 : Int))) ∨ ((lrd c0.Cols t35_0.toNat).Kind > (4 : Int)))))] [(1, .pure (GCommand.cs c0))] rfl rfl rfl ?_
         exact RunW_nil rfl
      ·refine AW2_if (p := (((!r'2) = true) ∨ ((lrd c0.Cols t35_0.toNat).Kind < (1 : Int))) ∨ ((lrd c0.Cols t35_0.toNat).Kind > (4 : Int))) rfl (fun h12 => ?_) (fun h12 => ?_)
       ·replace H := ite_then h12 H
        refine sg [0] rfl ?_
        refine rp rfl rfl (p_asg rfl rfl) ?_
        refine rz [(2, .b false)] [] rfl rfl rfl ?_
        refine AW2_ret ?_
        have hz := some_elim H
        subst hz
        exact ⟨rfl, ⟨res_tmp (.same _), trivial⟩, trivial⟩
       ·replace H := ite_else h12 H
        refine as2 [(1, .q 1 (0)), (33, .p ((fun q : List GColumn => AV.lst (q.flatMap GColumn.cs) q.length) c0.Cols)), (34, .i (c0.Cols.length : Int)), (35, .i t35_0)] [(1, .pure (GCommand.cs c0))] rfl rfl rfl ?_
        refine AW2_skip ?_
        refine AW2_reg [0, 1] rfl ?_
        refine rp rfl rfl (p_bin rfl rfl rfl rfl) ?_
        refine rp rfl rfl (p_move rfl rfl) ?_
        refine rz [(1, .q 1 (0)), (33, .p ((fun q : List GColumn => AV.lst (q.flatMap GColumn.cs) q.length) c0.Cols)), (34, .i (c0.Cols.length : Int)), (35, .i (w64 (t35_0 + (1 : Int))))] [(1, .pure (GCommand.cs c0))] rfl rfl rfl ?_
        have hz := some_elim H
        subst hz
        exact ⟨rfl, rfl⟩
     ·replace H := ite_else h7 H
      refine as2 [(1, .q 1 (0))] [(1, .pure (GCommand.cs c0))] rfl rfl rfl ?_
      refine AW2_exit ?_
      refine thenQ2_exit ?_
      have hz := some_elim H
      subst hz
      exact ⟨rfl, rfl⟩
    ·rcases o'6 with y'7 | y'8
     ·obtain ⟨rfl, hs⟩ := hs
      refine ⟨by simp, ?_⟩
      have hz := some_elim H
      subst hz
      exact ⟨hs.1, hs.2⟩
     ·obtain ⟨rfl, rfl⟩ := hs
      refine ⟨by simp, ?_⟩
      refine blockQ2_exit ?_
      refine sg [0, 1, 2, 3, 4] rfl ?_
      refine rp rfl rfl (u_fa rfl rfl Tryd.underlying43 rfl in_28 (Nat.succ_ne_zero _) rfl rfl (ne_of_lt (n := 0) (Nat.lt_of_lt_of_eq (by decide) (Eq.symm (GCommand.len c0))))) ?_
      refine rp rfl rfl (u_ld rfl rfl Tryd.underlying28 rfl rfl ((Sub.refl _).trans (GCommand.sub4 c0))) ?_
      refine rp rfl rfl (p_lenl rfl Tryd.underlying28 rfl rfl) ?_
      refine rp rfl rfl (p_bin rfl rfl rfl rfl) ?_
      refine rp rfl rfl (p_asg rfl rfl) ?_
      refine rz [(2, .b (decide ((c0.Cols.length : Int) > (0 : Int))))] [] rfl rfl rfl ?_
      refine AW2_ret ?_
      have hz := some_elim H
      subst hz
      exact ⟨⟨res_tmp (.same _), trivial⟩, trivial⟩
   ·replace H := ite_else h6 H
    refine sg [0, 1] rfl ?_
    refine rp rfl rfl (p_ieq rfl rfl rfl) ?_
    refine rp rfl rfl (p_asg rfl rfl) ?_
    refine rz [(1, .q 1 (0)), (29, .i c0.Kind), (58, .b (decide (c0.Kind = (2 : Int))))] [(1, .pure (GCommand.cs c0))] rfl rfl rfl ?_
    refine AW2_if (p := c0.Kind = (2 : Int)) rfl (fun h14 => ?_) (fun h14 => ?_)
    ·replace H := ite_then h14 H
     refine AW2_seq ?_
     refine sg [0, 1, 2, 3] rfl ?_
     refine rp rfl rfl (u_fa rfl rfl Tryd.underlying43 rfl in_40 (Nat.succ_ne_zero _) rfl rfl (ne_of_lt (n := 0) (Nat.lt_of_lt_of_eq (by decide) (Eq.symm (GCommand.len c0))))) ?_
     refine rp rfl rfl (u_ld rfl rfl Tryd.underlying40 rfl rfl ((Sub.refl _).trans (GCommand.sub5 c0))) ?_
     refine rp rfl rfl (p_lenl rfl Tryd.underlying40 rfl rfl) ?_
     refine rp rfl rfl (p_move rfl rfl) ?_
     refine rz [(1, .q 1 (0)), (61, .p ((fun q : List GValue => AV.lst (q.flatMap GValue.cs) q.length) c0.Row)), (62, .i (c0.Row.length : Int)), (63, .i (0 : Int))] [(1, .pure (GCommand.cs c0))] rfl rfl rfl ?_
     refine AW2_block ?_
     refine as2 [(1, .q 1 (0)), (61, .p ((fun q : List GValue => AV.lst (q.flatMap GValue.cs) q.length) c0.Row)), (62, .i (c0.Row.length : Int)), (63, .i (0 : Int))] [(1, .pure (GCommand.cs c0))] rfl rfl rfl ?_
     refine bindK H fun o'13 h20 H => ?_
     refine AW2_loopO (fun a'10 : Int => (⟨[(1, .q 1 (0)), (61, .p ((fun q : List GValue => AV.lst (q.flatMap GValue.cs) q.length) c0.Row)), (62, .i (c0.Row.length : Int)), (63, .i a'10)], [(1, .pure (GCommand.cs c0))], 127⟩ : TS)) (fun (o : Bool ⊕ Unit) e s' => match o with | .inl y'11 => e = Go.Exit.ret ∧ ResAll Tryd.prog s' [ResultVar.tmp 2] [.b y'11] ∧ HFits s' [] | .inr (y'12) => e = Go.Exit.exit 3 ∧ s' = (⟨[(1, .q 1 (0))], [(1, .pure (GCommand.cs c0))], 127⟩ : TS)) h20 rfl (fun t63_1 x hx => ?_) (fun e s' hs => ?_)
     ·clear H
      have H := hx
      clear hx
      unfold g_stmt_formed_l1 at H
      refine sg [0] rfl ?_
      refine rp rfl rfl (p_bin rfl rfl rfl rfl) ?_
      refine rz [(1, .q 1 (0)), (61, .p ((fun q : List GValue => AV.lst (q.flatMap GValue.cs) q.length) c0.Row)), (62, .i (c0.Row.length : Int)), (63, .i t63_1), (64, .b (decide (t63_1 < (c0.Row.length : Int))))] [(1, .pure (GCommand.cs c0))] rfl rfl rfl ?_
      refine AW2_seq ?_
      refine AW2_if (p := t63_1 < (c0.Row.length : Int)) rfl (fun h15 => ?_) (fun h15 => ?_)
      ·replace H := ite_then h15 H
       refine as2 [(1, .q 1 (0)), (61, .p ((fun q : List GValue => AV.lst (q.flatMap GValue.cs) q.length) c0.Row)), (62, .i (c0.Row.length : Int)), (63, .i t63_1)] [(1, .pure (GCommand.cs c0))] rfl rfl rfl ?_
       refine AW2_skip ?_
       refine AW2_seq ?_
       refine AW2_block ?_
       refine sg [0, 1, 2, 3] rfl ?_
       refine chkK H fun h16 H => ?_
       refine rp rfl rfl (u_ixl rfl rfl Tryd.underlying40 in_24 rfl rfl (ixe h16) (ixn h16) (fne (fun x => (GValue.len x)) (by decide) (ixn h16))) ?_
       refine rp rfl rfl (u_lda rfl rfl Tryd.underlying24 rfl in_24 rfl (Nat.succ_pos _) (Sub.fm default (fun x => (GValue.len x)) (ixn h16)) (GValue.len (lrd c0.Row t63_1.toNat))) ?_
       refine r_op rfl rfl (MakeD.opD (u_alloc 6 rfl in_24 one_24 zc_24) rfl rfl rfl rfl) ?_
       refine r_op rfl rfl (u_st rfl rfl rfl rfl rfl in_24 (GValue.len (lrd c0.Row t63_1.toNat)) (ne_of_lt (n := 0) (Nat.lt_of_lt_of_eq (by decide) (Eq.symm (GValue.len GValue.zero)))) (Upd.refl ((GValue.len (lrd c0.Row t63_1.toNat)).trans (GValue.len GValue.zero).symm))) ?_
       refine rz [(1, .q 1 (0)), (6, .q 6 (0)), (61, .p ((fun q : List GValue => AV.lst (q.flatMap GValue.cs) q.length) c0.Row)), (62, .i (c0.Row.length : Int)), (63, .i t63_1)] [(1, .pure (GCommand.cs c0)), (6, .pure (GValue.cs (lrd c0.Row t63_1.toNat)))] rfl rfl rfl ?_
       refine AW2_seq ?_
       refine bindK H fun r'9 h17 H => ?_
       refine AW2_mid (⟨[(1, .q 1 (0)), (61, .p ((fun q : List GValue => AV.lst (q.flatMap GValue.cs) q.length) c0.Row)), (62, .i (c0.Row.length : Int)), (63, .i t63_1), (74, .b (decide ((r'9 ≠ (0 : Int)) ∨ ((lrd c0.Row t63_1.toNat).Int_ = (-9223372036854775808 : Int)))))], [(1, .pure (GCommand.cs c0))], 127⟩ : TS) ?_ ?_
       ·refine AW2_reg [0, 1, 2, 3, 4, 5, 6, 7] rfl ?_
        refine rp rfl rfl (u_lda rfl rfl Tryd.underlying24 rfl in_24 rfl (Nat.succ_pos _) (Sub.refl _) (GValue.len (lrd c0.Row t63_1.toNat))) ?_
        refine rp rfl rfl (p_callp rfl rfl rfl Tryd.func55 rfl rfl (g_value_Check_ac h17) ⟨rfl, trivial⟩) ?_
        refine rp rfl rfl (p_ine rfl rfl rfl) ?_
        refine rp rfl rfl (p_move rfl rfl) ?_
        refine (Classical.em (r'9 ≠ (0 : Int))).elim (fun h18 => ?_) (fun h18 => ?_)
        ·iterate 3 (refine r_off rfl rfl rfl rfl (decide_eq_true h18) rfl rfl ?_)
         refine rp rfl rfl (p_pkt rfl rfl (decide_eq_true h18) (tb (decide_eq_true (p := (r'9 ≠ (0 : Int)) ∨ ((lrd c0.Row t63_1.toNat).Int_ = (-9223372036854775808 : Int))) (Or.inl h18)).symm)) ?_
         refine rs [(1, .q 1 (0)), (61, .p ((fun q : List GValue => AV.lst (q.flatMap GValue.cs) q.length) c0.Row)), (62, .i (c0.Row.length : Int)), (63, .i t63_1), (74, .b (decide ((r'9 ≠ (0 : Int)) ∨ ((lrd c0.Row t63_1.toNat).Int_ = (-9223372036854775808 : Int)))))] [(1, .pure (GCommand.cs c0))] rfl rfl rfl ?_
         exact RunW_nil rfl
        ·refine r_on rfl rfl rfl rfl (decide_eq_false h18) rfl (PureD.opD (u_fa rfl rfl Tryd.underlying24 rfl in_3 (Nat.succ_ne_zero _) rfl rfl (ne_of_lt (n := 0) (Nat.lt_of_lt_of_eq (by decide) (Eq.symm (GValue.len (lrd c0.Row t63_1.toNat))))))) ?_
         refine r_on rfl rfl rfl rfl (decide_eq_false h18) rfl (PureD.opD (u_ld rfl rfl Tryd.underlying3 rfl rfl ((Sub.refl _).trans (GValue.sub1 (lrd c0.Row t63_1.toNat))))) ?_
         refine r_on rfl rfl rfl rfl (decide_eq_false h18) rfl (PureD.opD (p_ieq rfl rfl rfl)) ?_
         refine rp rfl rfl (p_pkf rfl rfl (decide_eq_false h18) (tb ((or_l (p := r'9 ≠ (0 : Int)) (q := (lrd c0.Row t63_1.toNat).Int_ = (-9223372036854775808 : Int)) h18)))) ?_
         refine rs [(1, .q 1 (0)), (61, .p ((fun q : List GValue => AV.lst (q.flatMap GValue.cs) q.length) c0.Row)), (62, .i (c0.Row.length : Int)), (63, .i t63_1), (74, .b (decide ((r'9 ≠ (0 : Int)) ∨ ((lrd c0.Row t63_1.toNat).Int_ = (-9223372036854775808 : Int)))))] [(1, .pure (GCommand.cs c0))] rfl rfl rfl ?_
         exact RunW_nil rfl
       ·refine AW2_if (p := (r'9 ≠ (0 : Int)) ∨ ((lrd c0.Row t63_1.toNat).Int_ = (-9223372036854775808 : Int))) rfl (fun h19 => ?_) (fun h19 => ?_)
        ·replace H := ite_then h19 H
         refine sg [0] rfl ?_
         refine rp rfl rfl (p_asg rfl rfl) ?_
         refine rz [(2, .b false)] [] rfl rfl rfl ?_
         refine AW2_ret ?_
         have hz := some_elim H
         subst hz
         exact ⟨rfl, ⟨res_tmp (.same _), trivial⟩, trivial⟩
        ·replace H := ite_else h19 H
         refine as2 [(1, .q 1 (0)), (61, .p ((fun q : List GValue => AV.lst (q.flatMap GValue.cs) q.length) c0.Row)), (62, .i (c0.Row.length : Int)), (63, .i t63_1)] [(1, .pure (GCommand.cs c0))] rfl rfl rfl ?_
         refine AW2_skip ?_
         refine AW2_reg [0, 1] rfl ?_
         refine rp rfl rfl (p_bin rfl rfl rfl rfl) ?_
         refine rp rfl rfl (p_move rfl rfl) ?_
         refine rz [(1, .q 1 (0)), (61, .p ((fun q : List GValue => AV.lst (q.flatMap GValue.cs) q.length) c0.Row)), (62, .i (c0.Row.length : Int)), (63, .i (w64 (t63_1 + (1 : Int))))] [(1, .pure (GCommand.cs c0))] rfl rfl rfl ?_
         have hz := some_elim H
         subst hz
         exact ⟨rfl, rfl⟩
      ·replace H := ite_else h15 H
       refine as2 [(1, .q 1 (0))] [(1, .pure (GCommand.cs c0))] rfl rfl rfl ?_
       refine AW2_exit ?_
       refine thenQ2_exit ?_
       have hz := some_elim H
       subst hz
       exact ⟨rfl, rfl⟩
     ·rcases o'13 with y'14 | y'15
      ·obtain ⟨rfl, hs⟩ := hs
       refine ⟨by simp, ?_⟩
       have hz := some_elim H
       subst hz
       exact ⟨hs.1, hs.2⟩
      ·obtain ⟨rfl, rfl⟩ := hs
       refine ⟨by simp, ?_⟩
       refine blockQ2_exit ?_
       refine sg [0, 1, 2, 3, 4] rfl ?_
       refine rp rfl rfl (u_fa rfl rfl Tryd.underlying43 rfl in_40 (Nat.succ_ne_zero _) rfl rfl (ne_of_lt (n := 0) (Nat.lt_of_lt_of_eq (by decide) (Eq.symm (GCommand.len c0))))) ?_
       refine rp rfl rfl (u_ld rfl rfl Tryd.underlying40 rfl rfl ((Sub.refl _).trans (GCommand.sub5 c0))) ?_
       refine rp rfl rfl (p_lenl rfl Tryd.underlying40 rfl rfl) ?_
       refine rp rfl rfl (p_bin rfl rfl rfl rfl) ?_
       refine rp rfl rfl (p_asg rfl rfl) ?_
       refine rz [(2, .b (decide ((c0.Row.length : Int) > (0 : Int))))] [] rfl rfl rfl ?_
       refine AW2_ret ?_
       have hz := some_elim H
       subst hz
       exact ⟨⟨res_tmp (.same _), trivial⟩, trivial⟩
    ·replace H := ite_else h14 H
     refine sg [0, 1] rfl ?_
     refine rp rfl rfl (p_ieq rfl rfl rfl) ?_
     refine rp rfl rfl (p_asg rfl rfl) ?_
     refine rz [(1, .q 1 (0)), (29, .i c0.Kind), (80, .b (decide (c0.Kind = (3 : Int))))] [(1, .pure (GCommand.cs c0))] rfl rfl rfl ?_
     refine AW2_if (p := c0.Kind = (3 : Int)) rfl (fun h21 => ?_) (fun h21 => ?_)
     ·replace H := ite_then h21 H
      refine AW2_seq ?_
      refine sg [0, 1, 2, 3] rfl ?_
      refine rp rfl rfl (u_fa rfl rfl Tryd.underlying43 rfl in_41 (Nat.succ_ne_zero _) rfl rfl (ne_of_lt (n := 0) (Nat.lt_of_lt_of_eq (by decide) (Eq.symm (GCommand.len c0))))) ?_
      refine rp rfl rfl (u_ld rfl rfl Tryd.underlying41 rfl rfl ((Sub.refl _).trans (GCommand.sub6 c0))) ?_
      refine rp rfl rfl (p_lenl rfl Tryd.underlying41 rfl rfl) ?_
      refine rp rfl rfl (p_move rfl rfl) ?_
      refine rz [(1, .q 1 (0)), (83, .p ((fun q : List GSet => AV.lst (q.flatMap GSet.cs) q.length) c0.Sets)), (84, .i (c0.Sets.length : Int)), (85, .i (0 : Int))] [(1, .pure (GCommand.cs c0))] rfl rfl rfl ?_
      refine AW2_block ?_
      refine as2 [(1, .q 1 (0)), (83, .p ((fun q : List GSet => AV.lst (q.flatMap GSet.cs) q.length) c0.Sets)), (84, .i (c0.Sets.length : Int)), (85, .i (0 : Int))] [(1, .pure (GCommand.cs c0))] rfl rfl rfl ?_
      refine bindK H fun o'24 h32 H => ?_
      refine AW2_loopO (fun a'21 : Int => (⟨[(1, .q 1 (0)), (83, .p ((fun q : List GSet => AV.lst (q.flatMap GSet.cs) q.length) c0.Sets)), (84, .i (c0.Sets.length : Int)), (85, .i a'21)], [(1, .pure (GCommand.cs c0))], 127⟩ : TS)) (fun (o : Bool ⊕ Unit) e s' => match o with | .inl y'22 => e = Go.Exit.ret ∧ ResAll Tryd.prog s' [ResultVar.tmp 2] [.b y'22] ∧ HFits s' [] | .inr (y'23) => e = Go.Exit.exit 5 ∧ s' = (⟨[(1, .q 1 (0))], [(1, .pure (GCommand.cs c0))], 127⟩ : TS)) h32 rfl (fun t85_2 x hx => ?_) (fun e s' hs => ?_)
      ·clear H
       have H := hx
       clear hx
       unfold g_stmt_formed_l2 at H
       refine sg [0] rfl ?_
       refine rp rfl rfl (p_bin rfl rfl rfl rfl) ?_
       refine rz [(1, .q 1 (0)), (83, .p ((fun q : List GSet => AV.lst (q.flatMap GSet.cs) q.length) c0.Sets)), (84, .i (c0.Sets.length : Int)), (85, .i t85_2), (86, .b (decide (t85_2 < (c0.Sets.length : Int))))] [(1, .pure (GCommand.cs c0))] rfl rfl rfl ?_
       refine AW2_seq ?_
       refine AW2_if (p := t85_2 < (c0.Sets.length : Int)) rfl (fun h22 => ?_) (fun h22 => ?_)
       ·replace H := ite_then h22 H
        refine as2 [(1, .q 1 (0)), (83, .p ((fun q : List GSet => AV.lst (q.flatMap GSet.cs) q.length) c0.Sets)), (84, .i (c0.Sets.length : Int)), (85, .i t85_2)] [(1, .pure (GCommand.cs c0))] rfl rfl rfl ?_
        refine AW2_skip ?_
        refine AW2_seq ?_
        refine AW2_block ?_
        refine sg [0, 1, 2, 3] rfl ?_
        refine chkK H fun h23 H => ?_
        refine rp rfl rfl (u_ixl rfl rfl Tryd.underlying41 in_71 rfl rfl (ixe h23) (ixn h23) (fne (fun x => (GSet.len x)) (by decide) (ixn h23))) ?_
        refine rp rfl rfl (u_lda rfl rfl Tryd.underlying71 rfl in_71 rfl (Nat.succ_pos _) (Sub.fm default (fun x => (GSet.len x)) (ixn h23)) (GSet.len (lrd c0.Sets t85_2.toNat))) ?_
        refine r_op rfl rfl (MakeD.opD (u_alloc 8 rfl in_71 one_71 zc_71) rfl rfl rfl rfl) ?_
        refine r_op rfl rfl (u_st rfl rfl rfl rfl rfl in_71 (GSet.len (lrd c0.Sets t85_2.toNat)) (ne_of_lt (n := 0) (Nat.lt_of_lt_of_eq (by decide) (Eq.symm (GSet.len GSet.zero)))) (Upd.refl ((GSet.len (lrd c0.Sets t85_2.toNat)).trans (GSet.len GSet.zero).symm))) ?_
        refine rz [(1, .q 1 (0)), (8, .q 8 (0)), (83, .p ((fun q : List GSet => AV.lst (q.flatMap GSet.cs) q.length) c0.Sets)), (84, .i (c0.Sets.length : Int)), (85, .i t85_2)] [(1, .pure (GCommand.cs c0)), (8, .pure (GSet.cs (lrd c0.Sets t85_2.toNat)))] rfl rfl rfl ?_
        refine AW2_seq ?_
        refine bindK H fun g'20 h29 H => ?_
        refine AW2_mid (⟨[(1, .q 1 (0)), (83, .p ((fun q : List GSet => AV.lst (q.flatMap GSet.cs) q.length) c0.Sets)), (84, .i (c0.Sets.length : Int)), (85, .i t85_2), (98, .b g'20)], [(1, .pure (GCommand.cs c0))], 127⟩ : TS) ?_ ?_
        ·clear H
         have H := h29
         clear h29
         refine AW2_reg [0, 1, 2, 3, 4, 5, 6, 7, 8, 9] rfl ?_
         refine rp rfl rfl (u_fa rfl rfl Tryd.underlying71 rfl in_9 (Nat.succ_ne_zero _) rfl rfl (ne_of_lt (n := 0) (Nat.lt_of_lt_of_eq (by decide) (Eq.symm (GSet.len (lrd c0.Sets t85_2.toNat)))))) ?_
         refine rp rfl rfl (u_ld rfl rfl Tryd.underlying9 rfl rfl ((Sub.refl _).trans (GSet.sub0 (lrd c0.Sets t85_2.toNat)))) ?_
         refine bindK H fun r'18 h26 H => ?_
         refine rp rfl rfl (p_callp rfl rfl rfl Tryd.func54 rfl rfl (g_stmt_name_ac h26) ⟨rfl, trivial⟩) ?_
         refine rp rfl rfl (p_not rfl rfl) ?_
         refine rp rfl rfl (p_move rfl rfl) ?_
         refine (Classical.em ((!r'18) = true)).elim (fun h27 => ?_) (fun h27 => ?_)
         ·replace H := ite_then h27 H
          iterate 4 (refine r_off rfl rfl rfl rfl h27 rfl rfl ?_)
          refine rp rfl rfl (p_pkt rfl rfl h27 (.same _)) ?_
          refine rs [(1, .q 1 (0)), (83, .p ((fun q : List GSet => AV.lst (q.flatMap GSet.cs) q.length) c0.Sets)), (84, .i (c0.Sets.length : Int)), (85, .i t85_2), (98, .b true)] [(1, .pure (GCommand.cs c0))] rfl rfl rfl ?_
          have hz := some_elim H
          subst hz
          exact RunW_nil rfl
         ·replace H := ite_else h27 H
          refine r_on rfl rfl rfl rfl (bfalse h27) rfl (PureD.opD (u_fa rfl rfl Tryd.underlying71 rfl in_27 (Nat.succ_ne_zero _) rfl rfl (ne_of_lt (n := 0) (Nat.lt_of_lt_of_eq (by decide) (Eq.symm (GSet.len (lrd c0.Sets t85_2.toNat))))))) ?_
          refine r_on rfl rfl rfl rfl (bfalse h27) rfl (PureD.opD (u_lda rfl rfl Tryd.underlying27 rfl in_27 rfl (Nat.succ_pos _) ((Sub.refl _).trans (GSet.sub1 (lrd c0.Sets t85_2.toNat))) (GExpr.len ((lrd c0.Sets t85_2.toNat).Expr)))) ?_
          refine bindK H fun r'19 h28 H => ?_
          refine r_on rfl rfl rfl rfl (bfalse h27) rfl (PureD.opD (p_callp rfl rfl rfl Tryd.func18 rfl rfl (g_expr_Check_ac h28) ⟨rfl, trivial⟩)) ?_
          refine r_on rfl rfl rfl rfl (bfalse h27) rfl (PureD.opD (p_ine rfl rfl rfl)) ?_
          refine rp rfl rfl (p_pkf rfl rfl (bfalse h27) (.same _)) ?_
          refine rs [(1, .q 1 (0)), (83, .p ((fun q : List GSet => AV.lst (q.flatMap GSet.cs) q.length) c0.Sets)), (84, .i (c0.Sets.length : Int)), (85, .i t85_2), (98, .b (decide (r'19 ≠ (0 : Int))))] [(1, .pure (GCommand.cs c0))] rfl rfl rfl ?_
          have hz := some_elim H
          subst hz
          exact RunW_nil rfl
        ·refine AW2_cond rfl (fun h30 => ?_) (fun h30 => ?_)
         ·replace H := ite_then h30 H
          refine sg [0] rfl ?_
          refine rp rfl rfl (p_asg rfl rfl) ?_
          refine rz [(2, .b false)] [] rfl rfl rfl ?_
          refine AW2_ret ?_
          have hz := some_elim H
          subst hz
          exact ⟨rfl, ⟨res_tmp (.same _), trivial⟩, trivial⟩
         ·replace H := ite_else (ne_true h30) H
          refine as2 [(1, .q 1 (0)), (83, .p ((fun q : List GSet => AV.lst (q.flatMap GSet.cs) q.length) c0.Sets)), (84, .i (c0.Sets.length : Int)), (85, .i t85_2)] [(1, .pure (GCommand.cs c0))] rfl rfl rfl ?_
          refine AW2_skip ?_
          refine AW2_reg [0, 1] rfl ?_
          refine rp rfl rfl (p_bin rfl rfl rfl rfl) ?_
          refine rp rfl rfl (p_move rfl rfl) ?_
          refine rz [(1, .q 1 (0)), (83, .p ((fun q : List GSet => AV.lst (q.flatMap GSet.cs) q.length) c0.Sets)), (84, .i (c0.Sets.length : Int)), (85, .i (w64 (t85_2 + (1 : Int))))] [(1, .pure (GCommand.cs c0))] rfl rfl rfl ?_
          have hz := some_elim H
          subst hz
          exact ⟨rfl, rfl⟩
       ·replace H := ite_else h22 H
        refine as2 [(1, .q 1 (0))] [(1, .pure (GCommand.cs c0))] rfl rfl rfl ?_
        refine AW2_exit ?_
        refine thenQ2_exit ?_
        have hz := some_elim H
        subst hz
        exact ⟨rfl, rfl⟩
      ·rcases o'24 with y'25 | y'26
       ·obtain ⟨rfl, hs⟩ := hs
        refine ⟨by simp, ?_⟩
        have hz := some_elim H
        subst hz
        exact ⟨hs.1, hs.2⟩
       ·obtain ⟨rfl, rfl⟩ := hs
        refine ⟨by simp, ?_⟩
        refine blockQ2_exit ?_
        refine AW2_seq ?_
        refine bindK H fun g'29 h36 H => ?_
        refine AW2_mid (⟨[(2, .b g'29)], [], 127⟩ : TS) ?_ ?_
        ·clear H
         have H := h36
         clear h36
         refine AW2_reg [0, 1, 2, 3, 4, 5, 6, 7, 8, 9] rfl ?_
         refine rp rfl rfl (u_fa rfl rfl Tryd.underlying43 rfl in_41 (Nat.succ_ne_zero _) rfl rfl (ne_of_lt (n := 0) (Nat.lt_of_lt_of_eq (by decide) (Eq.symm (GCommand.len c0))))) ?_
         refine rp rfl rfl (u_ld rfl rfl Tryd.underlying41 rfl rfl ((Sub.refl _).trans (GCommand.sub6 c0))) ?_
         refine rp rfl rfl (p_lenl rfl Tryd.underlying41 rfl rfl) ?_
         refine rp rfl rfl (p_bin rfl rfl rfl rfl) ?_
         refine rp rfl rfl (p_move rfl rfl) ?_
         refine (Classical.em ((c0.Sets.length : Int) > (0 : Int))).elim (fun h34 => ?_) (fun h34 => ?_)
         ·replace H := ite_then h34 H
          refine r_on rfl rfl rfl rfl (decide_eq_true h34) rfl (PureD.opD (u_fa rfl rfl Tryd.underlying43 rfl in_27 (Nat.succ_ne_zero _) rfl rfl (ne_of_lt (n := 0) (Nat.lt_of_lt_of_eq (by decide) (Eq.symm (GCommand.len c0)))))) ?_
          refine r_on rfl rfl rfl rfl (decide_eq_true h34) rfl (PureD.opD (u_lda rfl rfl Tryd.underlying27 rfl in_27 rfl (Nat.succ_pos _) ((Sub.refl _).trans (GCommand.sub7 c0)) (GExpr.len c0.Where))) ?_
          refine bindK H fun r'28 h35 H => ?_
          refine r_on rfl rfl rfl rfl (decide_eq_true h34) rfl (PureD.opD (p_callp rfl rfl rfl Tryd.func56 rfl rfl (g_stmt_condition_ac h35) ⟨rfl, trivial⟩)) ?_
          refine rp rfl rfl (p_pkt rfl rfl (decide_eq_true h34) (.same _)) ?_
          refine rp rfl rfl (p_asg rfl rfl) ?_
          refine rs [(2, .b r'28)] [] rfl rfl rfl ?_
          have hz := some_elim H
          subst hz
          exact RunW_nil rfl
         ·replace H := ite_else h34 H
          iterate 3 (refine r_off rfl rfl rfl rfl (decide_eq_false h34) rfl rfl ?_)
          refine rp rfl rfl (p_pkf rfl rfl (decide_eq_false h34) (.same _)) ?_
          refine rp rfl rfl (p_asg rfl rfl) ?_
          refine rs [(2, .b false)] [] rfl rfl rfl ?_
          have hz := some_elim H
          subst hz
          exact RunW_nil rfl
        ·refine AW2_ret ?_
         have hz := some_elim H
         subst hz
         exact ⟨⟨res_tmp (.same _), trivial⟩, trivial⟩
     ·replace H := ite_else h21 H
      refine sg [0, 1] rfl ?_
      refine rp rfl rfl (p_ieq rfl rfl rfl) ?_
      refine rp rfl rfl (p_asg rfl rfl) ?_
      refine rz [(1, .q 1 (0)), (29, .i c0.Kind), (109, .b (decide (c0.Kind = (4 : Int))))] [(1, .pure (GCommand.cs c0))] rfl rfl rfl ?_
      refine AW2_if (p := c0.Kind = (4 : Int)) rfl (fun h38 => ?_) (fun h38 => ?_)
      ·replace H := ite_then h38 H
       refine sg [0, 1, 2, 3] rfl ?_
       refine rp rfl rfl (u_fa rfl rfl Tryd.underlying43 rfl in_27 (Nat.succ_ne_zero _) rfl rfl (ne_of_lt (n := 0) (Nat.lt_of_lt_of_eq (by decide) (Eq.symm (GCommand.len c0))))) ?_
       refine rp rfl rfl (u_lda rfl rfl Tryd.underlying27 rfl in_27 rfl (Nat.succ_pos _) ((Sub.refl _).trans (GCommand.sub7 c0)) (GExpr.len c0.Where)) ?_
       refine bindK H fun r'30 h39 H => ?_
       refine rp rfl rfl (p_callp rfl rfl rfl Tryd.func56 rfl rfl (g_stmt_condition_ac h39) ⟨rfl, trivial⟩) ?_
       refine rp rfl rfl (p_asg rfl rfl) ?_
       refine rz [(2, .b r'30)] [] rfl rfl rfl ?_
       refine AW2_ret ?_
       have hz := some_elim H
       subst hz
       exact ⟨⟨res_tmp (.same _), trivial⟩, trivial⟩
      ·replace H := ite_else h38 H
       refine sg [0, 1] rfl ?_
       refine rp rfl rfl (p_ieq rfl rfl rfl) ?_
       refine rp rfl rfl (p_asg rfl rfl) ?_
       refine rz [(1, .q 1 (0)), (114, .b (decide (c0.Kind = (5 : Int))))] [(1, .pure (GCommand.cs c0))] rfl rfl rfl ?_
       refine AW2_if (p := c0.Kind = (5 : Int)) rfl (fun h40 => ?_) (fun h40 => ?_)
       ·replace H := ite_then h40 H
        refine sg [0, 1, 2, 3] rfl ?_
        refine rp rfl rfl (u_fa rfl rfl Tryd.underlying43 rfl in_37 (Nat.succ_ne_zero _) rfl rfl (ne_of_lt (n := 0) (Nat.lt_of_lt_of_eq (by decide) (Eq.symm (GCommand.len c0))))) ?_
        refine rp rfl rfl (u_lda rfl rfl Tryd.underlying37 rfl in_37 rfl (Nat.succ_pos _) ((Sub.refl _).trans (GCommand.sub8 c0)) (GQuery.len c0.Query)) ?_
        refine bindK H fun r'31 h41 H => ?_
        refine rp rfl rfl (p_callp rfl rfl rfl Tryd.func57 rfl rfl (g_stmt_asked_ac h41) ⟨rfl, trivial⟩) ?_
        refine rp rfl rfl (p_asg rfl rfl) ?_
        refine rz [(2, .b r'31)] [] rfl rfl rfl ?_
        refine AW2_ret ?_
        have hz := some_elim H
        subst hz
        exact ⟨⟨res_tmp (.same _), trivial⟩, trivial⟩
       ·replace H := ite_else h40 H
        refine as2 [(1, .q 1 (0))] [(1, .pure (GCommand.cs c0))] rfl rfl rfl ?_
        refine AW2_skip ?_
        refine AW2_seq ?_
        refine AW2_mid (⟨[(2, .b (decide ((c0.Right = (1 : Int)) ∨ (c0.Right = (2 : Int)))))], [], 127⟩ : TS) ?_ ?_
        ·refine AW2_reg [0, 1, 2, 3, 4, 5, 6, 7, 8] rfl ?_
         refine rp rfl rfl (u_fa rfl rfl Tryd.underlying43 rfl in_3 (Nat.succ_ne_zero _) rfl rfl (ne_of_lt (n := 0) (Nat.lt_of_lt_of_eq (by decide) (Eq.symm (GCommand.len c0))))) ?_
         refine rp rfl rfl (u_ld rfl rfl Tryd.underlying3 rfl rfl ((Sub.refl _).trans (GCommand.sub10 c0))) ?_
         refine rp rfl rfl (p_ieq rfl rfl rfl) ?_
         refine rp rfl rfl (p_move rfl rfl) ?_
         refine (Classical.em (c0.Right = (1 : Int))).elim (fun h42 => ?_) (fun h42 => ?_)
         ·iterate 3 (refine r_off rfl rfl rfl rfl (decide_eq_true h42) rfl rfl ?_)
          refine rp rfl rfl (p_pkt rfl rfl (decide_eq_true h42) (tb (decide_eq_true (p := (c0.Right = (1 : Int)) ∨ (c0.Right = (2 : Int))) (Or.inl h42)).symm)) ?_
          refine rp rfl rfl (p_asg rfl rfl) ?_
          refine rs [(2, .b (decide ((c0.Right = (1 : Int)) ∨ (c0.Right = (2 : Int)))))] [] rfl rfl rfl ?_
          exact RunW_nil rfl
         ·refine r_on rfl rfl rfl rfl (decide_eq_false h42) rfl (PureD.opD (u_fa rfl rfl Tryd.underlying43 rfl in_3 (Nat.succ_ne_zero _) rfl rfl (ne_of_lt (n := 0) (Nat.lt_of_lt_of_eq (by decide) (Eq.symm (GCommand.len c0)))))) ?_
          refine r_on rfl rfl rfl rfl (decide_eq_false h42) rfl (PureD.opD (u_ld rfl rfl Tryd.underlying3 rfl rfl ((Sub.refl _).trans (GCommand.sub10 c0)))) ?_
          refine r_on rfl rfl rfl rfl (decide_eq_false h42) rfl (PureD.opD (p_ieq rfl rfl rfl)) ?_
          refine rp rfl rfl (p_pkf rfl rfl (decide_eq_false h42) (tb ((or_l (p := c0.Right = (1 : Int)) (q := c0.Right = (2 : Int)) h42)))) ?_
          refine rp rfl rfl (p_asg rfl rfl) ?_
          refine rs [(2, .b (decide ((c0.Right = (1 : Int)) ∨ (c0.Right = (2 : Int)))))] [] rfl rfl rfl ?_
          exact RunW_nil rfl
        ·refine AW2_ret ?_
         have hz := some_elim H
         subst hz
         exact ⟨⟨res_tmp (.same _), trivial⟩, trivial⟩

/-! stmt.Check -/
noncomputable def g_stmt_Check (c0 : GCommand) : Option (Int) :=
  (if (c0.Kind < (1 : Int)) ∨ (c0.Kind > (7 : Int)) then some (2 : Int) else (g_stmt_small c0).bind fun r'1 => (if (!r'1) = true then some (1 : Int) else ((g_stmt_sober c0).bind fun r'4 => (if (!r'4) = true then some true else (g_stmt_formed c0).bind fun r'5 => some (!r'5))).bind fun g'6 => (if g'6 = true then some (3 : Int) else some (0 : Int))))
set_option maxHeartbeats 4000000 in
set_option maxRecDepth 100000 in
theorem g_stmt_Check_ac {c0 : GCommand} {r : Int} (H : g_stmt_Check c0 = some r) : ACp Tryd.prog 14 [(.agg (GCommand.cs c0))] (AV.int r) := by
 refine ACp_of (AC2_of_body (vs := [.i r]) Tryd.func14 rfl rfl (Nat.le_of_ble_eq_true rfl) rfl ?_) (fun _ => .same _)
 unfold g_stmt_Check at H
 refine as2 [(0, .g (GCommand.cs c0))] [] rfl rfl rfl ?_
 refine sg [0, 1] rfl ?_
 refine r_op rfl rfl (MakeD.opD (n_box 1 rfl rfl) rfl rfl rfl rfl) ?_
 refine rp rfl rfl (p_asg rfl rfl) ?_
 refine rz [(1, .q 1 (0))] [(1, .pure (GCommand.cs c0))] rfl rfl rfl ?_
 refine AW2_seq ?_
 refine AW2_seq ?_
 refine AW2_mid (⟨[(1, .q 1 (0)), (10, .b (decide ((c0.Kind < (1 : Int)) ∨ (c0.Kind > (7 : Int)))))], [(1, .pure (GCommand.cs c0))], 22⟩ : TS) ?_ ?_
 ·refine AW2_reg [0, 1, 2, 3, 4, 5, 6, 7] rfl ?_
  refine rp rfl rfl (u_fa rfl rfl Tryd.underlying43 rfl in_3 (Nat.succ_ne_zero _) rfl rfl (ne_of_lt (n := 0) (Nat.lt_of_lt_of_eq (by decide) (Eq.symm (GCommand.len c0))))) ?_
  refine rp rfl rfl (u_ld rfl rfl Tryd.underlying3 rfl rfl ((Sub.refl _).trans (GCommand.sub0 c0))) ?_
  refine rp rfl rfl (p_bin rfl rfl rfl rfl) ?_
  refine rp rfl rfl (p_move rfl rfl) ?_
  refine (Classical.em (c0.Kind < (1 : Int))).elim (fun h1 => ?_) (fun h1 => ?_)
  ·refine r_off rfl rfl rfl rfl (decide_eq_true h1) rfl rfl ?_
   refine r_off rfl rfl rfl rfl (decide_eq_true h1) rfl rfl ?_
   refine r_off rfl rfl rfl rfl (decide_eq_true h1) rfl rfl ?_
   refine rp rfl rfl (p_pkt rfl rfl (decide_eq_true h1) (tb (decide_eq_true (p := (c0.Kind < (1 : Int)) ∨ (c0.Kind > (7 : Int))) (Or.inl h1)).symm)) ?_
   refine rs [(1, .q 1 (0)), (10, .b (decide ((c0.Kind < (1 : Int)) ∨ (c0.Kind > (7 : Int)))))] [(1, .pure (GCommand.cs c0))] rfl rfl rfl ?_
   exact RunW_nil rfl
  ·refine r_on rfl rfl rfl rfl (decide_eq_false h1) rfl (PureD.opD (u_fa rfl rfl Tryd.underlying43 rfl in_3 (Nat.succ_ne_zero _) rfl rfl (ne_of_lt (n := 0) (Nat.lt_of_lt_of_eq (by decide) (Eq.symm (GCommand.len c0)))))) ?_
   refine r_on rfl rfl rfl rfl (decide_eq_false h1) rfl (PureD.opD (u_ld rfl rfl Tryd.underlying3 rfl rfl ((Sub.refl _).trans (GCommand.sub0 c0)))) ?_
   refine r_on rfl rfl rfl rfl (decide_eq_false h1) rfl (PureD.opD (p_bin rfl rfl rfl rfl)) ?_
   refine rp rfl rfl (p_pkf rfl rfl (decide_eq_false h1) (tb ((or_l (p := c0.Kind < (1 : Int)) (q := c0.Kind > (7 : Int)) h1)))) ?_
   refine rs [(1, .q 1 (0)), (10, .b (decide ((c0.Kind < (1 : Int)) ∨ (c0.Kind > (7 : Int)))))] [(1, .pure (GCommand.cs c0))] rfl rfl rfl ?_
   exact RunW_nil rfl
 ·refine AW2_if (p := (c0.Kind < (1 : Int)) ∨ (c0.Kind > (7 : Int))) rfl (fun h2 => ?_) (fun h2 => ?_)
  ·replace H := ite_then h2 H
   refine sg [0] rfl ?_
   refine rp rfl rfl (p_asg rfl rfl) ?_
   refine rz [(2, .i (2 : Int))] [] rfl rfl rfl ?_
   refine AW2_ret ?_
   have hz := some_elim H
   subst hz
   exact ⟨⟨res_tmp (.same _), trivial⟩, trivial⟩
  ·replace H := ite_else h2 H
   refine as2 [(1, .q 1 (0))] [(1, .pure (GCommand.cs c0))] rfl rfl rfl ?_
   refine AW2_skip ?_
   refine AW2_seq ?_
   refine sg [0, 1, 2] rfl ?_
   refine rp rfl rfl (u_lda rfl rfl Tryd.underlying43 rfl in_43 rfl (Nat.succ_pos _) (Sub.refl _) (GCommand.len c0)) ?_
   refine bindK H fun r'1 h3 H => ?_
   refine rp rfl rfl (p_callp rfl rfl rfl Tryd.func29 rfl rfl (g_stmt_small_ac h3) ⟨rfl, trivial⟩) ?_
   refine rp rfl rfl (p_not rfl rfl) ?_
   refine rz [(1, .q 1 (0)), (13, .b (!r'1))] [(1, .pure (GCommand.cs c0))] rfl rfl rfl ?_
   refine AW2_cond rfl (fun h4 => ?_) (fun h4 => ?_)
   ·replace H := ite_then h4 H
    refine sg [0] rfl ?_
    refine rp rfl rfl (p_asg rfl rfl) ?_
    refine rz [(2, .i (1 : Int))] [] rfl rfl rfl ?_
    refine AW2_ret ?_
    have hz := some_elim H
    subst hz
    exact ⟨⟨res_tmp (.same _), trivial⟩, trivial⟩
   ·replace H := ite_else (ne_true h4) H
    refine as2 [(1, .q 1 (0))] [(1, .pure (GCommand.cs c0))] rfl rfl rfl ?_
    refine AW2_skip ?_
    refine AW2_seq ?_
    refine AW2_seq ?_
    refine bindK H fun g'6 h10 H => ?_
    refine AW2_mid (⟨[(21, .b g'6)], [], 22⟩ : TS) ?_ ?_
    ·clear H
     have H := h10
     clear h10
     refine AW2_reg [0, 1, 2, 3, 4, 5, 6, 7] rfl ?_
     refine rp rfl rfl (u_lda rfl rfl Tryd.underlying43 rfl in_43 rfl (Nat.succ_pos _) (Sub.refl _) (GCommand.len c0)) ?_
     refine bindK H fun r'4 h7 H => ?_
     refine rp rfl rfl (p_callp rfl rfl rfl Tryd.func30 rfl rfl (g_stmt_sober_ac h7) ⟨rfl, trivial⟩) ?_
     refine rp rfl rfl (p_not rfl rfl) ?_
     refine rp rfl rfl (p_move rfl rfl) ?_
     refine (Classical.em ((!r'4) = true)).elim (fun h8 => ?_) (fun h8 => ?_)
     ·replace H := ite_then h8 H
      refine r_off rfl rfl rfl rfl h8 rfl rfl ?_
      refine r_off rfl rfl rfl rfl h8 rfl rfl ?_
      refine r_off rfl rfl rfl rfl h8 rfl rfl ?_
      refine rp rfl rfl (p_pkt rfl rfl h8 (.same _)) ?_
      refine rs [(21, .b true)] [] rfl rfl rfl ?_
      have hz := some_elim H
      subst hz
      exact RunW_nil rfl
     ·replace H := ite_else h8 H
      refine r_on rfl rfl rfl rfl (bfalse h8) rfl (PureD.opD (u_lda rfl rfl Tryd.underlying43 rfl in_43 rfl (Nat.succ_pos _) (Sub.refl _) (GCommand.len c0))) ?_
      refine bindK H fun r'5 h9 H => ?_
      refine r_on rfl rfl rfl rfl (bfalse h8) rfl (PureD.opD (p_callp rfl rfl rfl Tryd.func31 rfl rfl (g_stmt_formed_ac h9) ⟨rfl, trivial⟩)) ?_
      refine r_on rfl rfl rfl rfl (bfalse h8) rfl (PureD.opD (p_not rfl rfl)) ?_
      refine rp rfl rfl (p_pkf rfl rfl (bfalse h8) (.same _)) ?_
      refine rs [(21, .b (!r'5))] [] rfl rfl rfl ?_
      have hz := some_elim H
      subst hz
      exact RunW_nil rfl
    ·refine AW2_cond rfl (fun h11 => ?_) (fun h11 => ?_)
     ·replace H := ite_then h11 H
      refine sg [0] rfl ?_
      refine rp rfl rfl (p_asg rfl rfl) ?_
      refine rz [(2, .i (3 : Int))] [] rfl rfl rfl ?_
      refine AW2_ret ?_
      have hz := some_elim H
      subst hz
      exact ⟨⟨res_tmp (.same _), trivial⟩, trivial⟩
     ·replace H := ite_else (ne_true h11) H
      refine as2 [] [] rfl rfl rfl ?_
      refine AW2_skip ?_
      refine sg [0] rfl ?_
      refine rp rfl rfl (p_asg rfl rfl) ?_
      refine rz [(2, .i (0 : Int))] [] rfl rfl rfl ?_
      refine AW2_ret ?_
      have hz := some_elim H
      subst hz
      exact ⟨⟨res_tmp (.same _), trivial⟩, trivial⟩

/-! chirographref.exprs -/
noncomputable def g_ref_exprs_l0 (c0 : GCommand) (t21'1 : Int) : Int × (List GExpr) → Option ((Int × (List GExpr)) ⊕ (((List GExpr))))
  | (t22_0, out3_0) => (if t22_0 < t21'1 then if 0 ≤ t22_0 ∧ t22_0 < ((cut c0.Sets (0 : Int) (imin (c0.Sets.length : Int) (4 : Int))).length : Int) then letO ((lrd (cut c0.Sets (0 : Int) (imin (c0.Sets.length : Int) (4 : Int))) t22_0.toNat)) fun s5'2 => if room (out3_0.length + ([s5'2.Expr] : List GExpr).length) 88 then some (.inl (w64 (t22_0 + (1 : Int)), out3_0 ++ ([s5'2.Expr] : List GExpr))) else none else none else some (.inr out3_0))
noncomputable def g_ref_exprs_l1 (t40'7 : List GItem) (t41'8 : Int) : Int × (List GExpr) → Option ((Int × (List GExpr)) ⊕ (((List GExpr))))
  | (t42_1, out3_1) => (if t42_1 < t41'8 then if 0 ≤ t42_1 ∧ t42_1 < (t40'7.length : Int) then if room (out3_1.length + ([(lrd t40'7 t42_1.toNat).Expr] : List GExpr).length) 88 then some (.inl (w64 (t42_1 + (1 : Int)), out3_1 ++ ([(lrd t40'7 t42_1.toNat).Expr] : List GExpr))) else none else none else some (.inr out3_1))
noncomputable def g_ref_exprs (c0 : GCommand) : Option ((List GExpr)) :=
  if 0 ≤ imin (c0.Sets.length : Int) (4 : Int) ∧ imin (c0.Sets.length : Int) (4 : Int) ≤ (c0.Sets.length : Int) then letO (((cut c0.Sets (0 : Int) (imin (c0.Sets.length : Int) (4 : Int))).length : Int)) fun t21'1 => (loopO (g_ref_exprs_l0 c0 t21'1) ((0 : Int), ([c0.Where, c0.Query.Where] : List GExpr))).bind fun y'6 => if 0 ≤ imin (c0.Query.Items.length : Int) (4 : Int) ∧ imin (c0.Query.Items.length : Int) (4 : Int) ≤ (c0.Query.Items.length : Int) then letO ((cut c0.Query.Items (0 : Int) (imin (c0.Query.Items.length : Int) (4 : Int)))) fun t40'7 => letO (((cut c0.Query.Items (0 : Int) (imin (c0.Query.Items.length : Int) (4 : Int))).length : Int)) fun t41'8 => (loopO (g_ref_exprs_l1 t40'7 t41'8) ((0 : Int), y'6)).bind fun y'12 => some y'12 else none else none
set_option maxHeartbeats 4000000 in
set_option maxRecDepth 100000 in
theorem g_ref_exprs_ac2 {c0 : GCommand} {r : (List GExpr)} (H : g_ref_exprs c0 = some r) : AC2 Tryd.prog 32 (pureT [(.agg (GCommand.cs c0))]) [] (.c (.own 2 r.length 7)) [(2, .pure (r.flatMap GExpr.cs))] := by
 refine AC2_of_body (vs := [.c (.own 2 r.length 7)]) Tryd.func32 rfl rfl (Nat.le_of_ble_eq_true rfl) rfl ?_
 unfold g_ref_exprs at H
 refine as2 [(0, .g (GCommand.cs c0))] [] rfl rfl rfl ?_
 refine sg [0, 1] rfl ?_
 refine r_op rfl rfl (MakeD.opD (n_box 1 rfl rfl) rfl rfl rfl rfl) ?_
 refine rp rfl rfl (p_asgn rfl) ?_
 refine rz [(1, .q 1 (0))] [(1, .pure (GCommand.cs c0))] rfl rfl rfl ?_
 refine sg [0, 1, 2, 3, 4, 5, 6] rfl ?_
 refine rp rfl rfl (u_fa rfl rfl Tryd.underlying43 rfl in_27 (Nat.succ_ne_zero _) rfl rfl (ne_of_lt (n := 0) (Nat.lt_of_lt_of_eq (by decide) (Eq.symm (GCommand.len c0))))) ?_
 refine rp rfl rfl (u_lda rfl rfl Tryd.underlying27 rfl in_27 rfl (Nat.succ_pos _) ((Sub.refl _).trans (GCommand.sub7 c0)) (GExpr.len c0.Where)) ?_
 refine rp rfl rfl (u_fa rfl rfl Tryd.underlying43 rfl in_37 (Nat.succ_ne_zero _) rfl rfl (ne_of_lt (n := 0) (Nat.lt_of_lt_of_eq (by decide) (Eq.symm (GCommand.len c0))))) ?_
 refine rp rfl rfl (u_fa rfl rfl Tryd.underlying37 rfl in_27 (Nat.succ_ne_zero _) rfl rfl (ne_of_lt (n := 0) (Nat.lt_of_lt_of_eq (by decide) (Eq.symm (GCommand.len c0))))) ?_
 refine rp rfl rfl (u_lda rfl rfl Tryd.underlying27 rfl in_27 rfl (Nat.succ_pos _) (((Sub.refl _).trans (GCommand.sub8 c0)).trans (GQuery.sub1 c0.Query)) (GExpr.len c0.Query.Where)) ?_
 refine r_op rfl rfl (MakeD.opD (u_bs 13 rfl Tryd.underlying25 in_27 rfl one_27 (by decide) (by decide) zc_27 rfl (af_lit (g := GExpr.cs) (fun x => (GExpr.len x)) (GExpr.len GExpr.zero) [c0.Where, c0.Query.Where])) rfl rfl rfl rfl) ?_
 refine rp rfl rfl (p_asg rfl rfl) ?_
 refine RunW_st [(1, .q 1 (0)), (3, .c (.own 13 ([c0.Where, c0.Query.Where] : List GExpr).length 7))] [(1, .pure (GCommand.cs c0)), (13, .pure (([c0.Where, c0.Query.Where] : List GExpr).flatMap GExpr.cs))] rfl ⟨TLes.same _, TLes.own rfl, trivial⟩ ⟨rfl, rfl, trivial⟩ ?_
 refine RunW_gho (Gho_ren 13 3 rfl rfl rfl rfl rfl) ?_
 refine rz [(1, .q 1 (0)), (3, .c (.own 3 ([c0.Where, c0.Query.Where] : List GExpr).length 7))] [(1, .pure (GCommand.cs c0)), (3, .pure (([c0.Where, c0.Query.Where] : List GExpr).flatMap GExpr.cs))] rfl rfl rfl ?_
 refine AW2_seq ?_
 refine sg [0, 1, 2, 3, 4, 5, 6, 7, 8] rfl ?_
 refine rp rfl rfl (u_fa rfl rfl Tryd.underlying43 rfl in_41 (Nat.succ_ne_zero _) rfl rfl (ne_of_lt (n := 0) (Nat.lt_of_lt_of_eq (by decide) (Eq.symm (GCommand.len c0))))) ?_
 refine rp rfl rfl (u_ld rfl rfl Tryd.underlying41 rfl rfl ((Sub.refl _).trans (GCommand.sub6 c0))) ?_
 refine rp rfl rfl (u_fa rfl rfl Tryd.underlying43 rfl in_41 (Nat.succ_ne_zero _) rfl rfl (ne_of_lt (n := 0) (Nat.lt_of_lt_of_eq (by decide) (Eq.symm (GCommand.len c0))))) ?_
 refine rp rfl rfl (u_ld rfl rfl Tryd.underlying41 rfl rfl ((Sub.refl _).trans (GCommand.sub6 c0))) ?_
 refine rp rfl rfl (p_lenl rfl Tryd.underlying41 rfl rfl) ?_
 refine rp rfl rfl (p_imin rfl rfl rfl) ?_
 refine chkK H fun h1 H => ?_
 refine rp rfl rfl (u_cutl (g := (fun l => l.flatMap GSet.cs)) (a := (0 : Int)) (b := imin (c0.Sets.length : Int) (4 : Int)) rfl rfl Tryd.underlying41 in_71 rfl bT_zero (bT_i (Int.le_trans (show 0 ≤ (0 : Int) ∧ (0 : Int) ≤ imin (c0.Sets.length : Int) (4 : Int) ∧ imin (c0.Sets.length : Int) (4 : Int) ≤ (c0.Sets.length : Int) from ⟨Int.le_refl _, h1.1, h1.2⟩).1 (show 0 ≤ (0 : Int) ∧ (0 : Int) ≤ imin (c0.Sets.length : Int) (4 : Int) ∧ imin (c0.Sets.length : Int) (4 : Int) ≤ (c0.Sets.length : Int) from ⟨Int.le_refl _, h1.1, h1.2⟩).2.1) rfl) (.inl rfl) (show 0 ≤ (0 : Int) ∧ (0 : Int) ≤ imin (c0.Sets.length : Int) (4 : Int) ∧ imin (c0.Sets.length : Int) (4 : Int) ≤ (c0.Sets.length : Int) from ⟨Int.le_refl _, h1.1, h1.2⟩) (g_fm (fun x => (GSet.len x)))) ?_
 refine rp rfl rfl (p_lenl rfl Tryd.underlying41 rfl rfl) ?_
 refine rp rfl rfl (p_move rfl rfl) ?_
 refine rz [(1, .q 1 (0)), (3, .c (.own 3 ([c0.Where, c0.Query.Where] : List GExpr).length 7)), (20, .p ((fun q : List GSet => AV.lst (q.flatMap GSet.cs) q.length) (cut c0.Sets (0 : Int) (imin (c0.Sets.length : Int) (4 : Int))))), (21, .i ((cut c0.Sets (0 : Int) (imin (c0.Sets.length : Int) (4 : Int))).length : Int)), (22, .i (0 : Int))] [(1, .pure (GCommand.cs c0)), (3, .pure (([c0.Where, c0.Query.Where] : List GExpr).flatMap GExpr.cs))] rfl rfl rfl ?_
 refine gen1 (fun t21'1 => (⟨[(1, .q 1 (0)), (3, .c (.own 3 ([c0.Where, c0.Query.Where] : List GExpr).length 7)), (20, .p ((fun q : List GSet => AV.lst (q.flatMap GSet.cs) q.length) (cut c0.Sets (0 : Int) (imin (c0.Sets.length : Int) (4 : Int))))), (21, .i t21'1), (22, .i (0 : Int))], [(1, .pure (GCommand.cs c0)), (3, .pure (([c0.Where, c0.Query.Where] : List GExpr).flatMap GExpr.cs))], 53⟩ : TS)) H ?_
 intro t21'1 H
 refine AW2_block ?_
 refine as2 [(1, .q 1 (0)), (3, .c (.own 3 ([c0.Where, c0.Query.Where] : List GExpr).length 7)), (20, .p ((fun q : List GSet => AV.lst (q.flatMap GSet.cs) q.length) (cut c0.Sets (0 : Int) (imin (c0.Sets.length : Int) (4 : Int))))), (21, .i t21'1), (22, .i (0 : Int))] [(1, .pure (GCommand.cs c0)), (3, .pure (([c0.Where, c0.Query.Where] : List GExpr).flatMap GExpr.cs))] rfl rfl rfl ?_
 refine bindK H fun y'6 h5 H => ?_
 refine AW2_loopO (fun a'3 : Int × (List GExpr) => (⟨[(1, .q 1 (0)), (3, .c (.own 3 a'3.2.length 7)), (20, .p ((fun q : List GSet => AV.lst (q.flatMap GSet.cs) q.length) (cut c0.Sets (0 : Int) (imin (c0.Sets.length : Int) (4 : Int))))), (21, .i t21'1), (22, .i a'3.1)], [(1, .pure (GCommand.cs c0)), (3, .pure (a'3.2.flatMap GExpr.cs))], 53⟩ : TS)) (fun (y'4 : ((List GExpr))) e s' => e = Go.Exit.exit 0 ∧ s' = (⟨[(1, .q 1 (0)), (3, .c (.own 3 y'4.length 7))], [(1, .pure (GCommand.cs c0)), (3, .pure (y'4.flatMap GExpr.cs))], 53⟩ : TS)) h5 rfl (fun a x hx => ?_) (fun e s' hs => ?_)
 ·clear H
  obtain ⟨t22_0, out3_0⟩ := a
  have H := hx
  clear hx
  unfold g_ref_exprs_l0 at H
  refine sg [0] rfl ?_
  refine rp rfl rfl (p_bin rfl rfl rfl rfl) ?_
  refine rz [(1, .q 1 (0)), (3, .c (.own 3 out3_0.length 7)), (20, .p ((fun q : List GSet => AV.lst (q.flatMap GSet.cs) q.length) (cut c0.Sets (0 : Int) (imin (c0.Sets.length : Int) (4 : Int))))), (21, .i t21'1), (22, .i t22_0), (23, .b (decide (t22_0 < t21'1)))] [(1, .pure (GCommand.cs c0)), (3, .pure (out3_0.flatMap GExpr.cs))] rfl rfl rfl ?_
  refine AW2_seq ?_
  refine AW2_if (p := t22_0 < t21'1) rfl (fun h2 => ?_) (fun h2 => ?_)
  ·replace H := ite_then h2 H
   refine as2 [(1, .q 1 (0)), (3, .c (.own 3 out3_0.length 7)), (20, .p ((fun q : List GSet => AV.lst (q.flatMap GSet.cs) q.length) (cut c0.Sets (0 : Int) (imin (c0.Sets.length : Int) (4 : Int))))), (21, .i t21'1), (22, .i t22_0)] [(1, .pure (GCommand.cs c0)), (3, .pure (out3_0.flatMap GExpr.cs))] rfl rfl rfl ?_
   refine AW2_skip ?_
   refine AW2_seq ?_
   refine AW2_block ?_
   refine sg [0, 1, 2, 3] rfl ?_
   refine chkK H fun h3 H => ?_
   refine rp rfl rfl (u_ixl rfl rfl Tryd.underlying41 in_71 rfl rfl (ixe h3) (ixn h3) (fne (fun x => (GSet.len x)) (by decide) (ixn h3))) ?_
   refine rp rfl rfl (u_lda rfl rfl Tryd.underlying71 rfl in_71 rfl (Nat.succ_pos _) (Sub.fm default (fun x => (GSet.len x)) (ixn h3)) (GSet.len (lrd (cut c0.Sets (0 : Int) (imin (c0.Sets.length : Int) (4 : Int))) t22_0.toNat))) ?_
   refine r_op rfl rfl (MakeD.opD (u_alloc 5 rfl in_71 one_71 zc_71) rfl rfl rfl rfl) ?_
   refine r_op rfl rfl (u_st rfl rfl rfl rfl rfl in_71 (GSet.len (lrd (cut c0.Sets (0 : Int) (imin (c0.Sets.length : Int) (4 : Int))) t22_0.toNat)) (ne_of_lt (n := 0) (Nat.lt_of_lt_of_eq (by decide) (Eq.symm (GSet.len GSet.zero)))) (Upd.refl ((GSet.len (lrd (cut c0.Sets (0 : Int) (imin (c0.Sets.length : Int) (4 : Int))) t22_0.toNat)).trans (GSet.len GSet.zero).symm))) ?_
   refine rz [(1, .q 1 (0)), (3, .c (.own 3 out3_0.length 7)), (5, .q 5 (0)), (20, .p ((fun q : List GSet => AV.lst (q.flatMap GSet.cs) q.length) (cut c0.Sets (0 : Int) (imin (c0.Sets.length : Int) (4 : Int))))), (21, .i t21'1), (22, .i t22_0)] [(1, .pure (GCommand.cs c0)), (3, .pure (out3_0.flatMap GExpr.cs)), (5, .pure (GSet.cs (lrd (cut c0.Sets (0 : Int) (imin (c0.Sets.length : Int) (4 : Int))) t22_0.toNat)))] rfl rfl rfl ?_
   refine gen1 (fun s5'2 => (⟨[(1, .q 1 (0)), (3, .c (.own 3 out3_0.length 7)), (5, .q 5 (0)), (20, .p ((fun q : List GSet => AV.lst (q.flatMap GSet.cs) q.length) (cut c0.Sets (0 : Int) (imin (c0.Sets.length : Int) (4 : Int))))), (21, .i t21'1), (22, .i t22_0)], [(1, .pure (GCommand.cs c0)), (3, .pure (out3_0.flatMap GExpr.cs)), (5, .pure (GSet.cs s5'2))], 53⟩ : TS)) H ?_
   intro s5'2 H
   refine AW2_reg [0, 1, 2, 3, 4, 5] rfl ?_
   refine rp rfl rfl (p_move rfl rfl) ?_
   refine rp rfl rfl (u_fa rfl rfl Tryd.underlying71 rfl in_27 (Nat.succ_ne_zero _) rfl rfl (ne_of_lt (n := 0) (Nat.lt_of_lt_of_eq (by decide) (Eq.symm (GSet.len s5'2))))) ?_
   refine rp rfl rfl (u_lda rfl rfl Tryd.underlying27 rfl in_27 rfl (Nat.succ_pos _) ((Sub.refl _).trans (GSet.sub1 s5'2)) (GExpr.len s5'2.Expr)) ?_
   refine r_op rfl rfl (MakeD.opD (u_bs 29 rfl Tryd.underlying25 in_27 rfl one_27 (by decide) (by decide) zc_27 rfl (af_lit (g := GExpr.cs) (fun x => (GExpr.len x)) (GExpr.len GExpr.zero) [s5'2.Expr])) rfl rfl rfl rfl) ?_
   refine chkK H fun h4 H => ?_
   refine r_op rfl rfl (u_app [3, 26] rfl rfl rfl rfl Tryd.underlying25 Tryd.underlying25 in_27 rfl rfl rfl (fm_length (fun x => (GExpr.len x)) out3_0) (by decide) (srcT_o rfl rfl (fm_length (fun x => (GExpr.len x)) ([s5'2.Expr] : List GExpr)) (by decide)) (fm_length (fun x => (GExpr.len x)) ([s5'2.Expr] : List GExpr)) h4 (by decide) rfl rfl (fapp GExpr.cs out3_0 ([s5'2.Expr] : List GExpr)) (lapp out3_0 ([s5'2.Expr] : List GExpr))) ?_
   refine rp rfl rfl (p_asg rfl rfl) ?_
   refine rz [(1, .q 1 (0)), (3, .c (.own 3 (out3_0 ++ ([s5'2.Expr] : List GExpr)).length 7)), (20, .p ((fun q : List GSet => AV.lst (q.flatMap GSet.cs) q.length) (cut c0.Sets (0 : Int) (imin (c0.Sets.length : Int) (4 : Int))))), (21, .i t21'1), (22, .i t22_0)] [(1, .pure (GCommand.cs c0)), (3, .pure ((out3_0 ++ ([s5'2.Expr] : List GExpr)).flatMap GExpr.cs))] rfl rfl rfl ?_
   refine AW2_reg [0, 1] rfl ?_
   refine rp rfl rfl (p_bin rfl rfl rfl rfl) ?_
   refine rp rfl rfl (p_move rfl rfl) ?_
   refine rz [(1, .q 1 (0)), (3, .c (.own 3 (out3_0 ++ ([s5'2.Expr] : List GExpr)).length 7)), (20, .p ((fun q : List GSet => AV.lst (q.flatMap GSet.cs) q.length) (cut c0.Sets (0 : Int) (imin (c0.Sets.length : Int) (4 : Int))))), (21, .i t21'1), (22, .i (w64 (t22_0 + (1 : Int))))] [(1, .pure (GCommand.cs c0)), (3, .pure ((out3_0 ++ ([s5'2.Expr] : List GExpr)).flatMap GExpr.cs))] rfl rfl rfl ?_
   have hz := some_elim H
   subst hz
   exact ⟨rfl, rfl⟩
  ·replace H := ite_else h2 H
   refine as2 [(1, .q 1 (0)), (3, .c (.own 3 out3_0.length 7))] [(1, .pure (GCommand.cs c0)), (3, .pure (out3_0.flatMap GExpr.cs))] rfl rfl rfl ?_
   refine AW2_exit ?_
   refine thenQ2_exit ?_
   have hz := some_elim H
   subst hz
   exact ⟨rfl, rfl⟩
 ·obtain ⟨rfl, rfl⟩ := hs
  refine ⟨by simp, ?_⟩
  refine blockQ2_exit ?_
  refine AW2_seq ?_
  refine sg [0, 1, 2, 3, 4, 5, 6, 7, 8, 9, 10] rfl ?_
  refine rp rfl rfl (u_fa rfl rfl Tryd.underlying43 rfl in_37 (Nat.succ_ne_zero _) rfl rfl (ne_of_lt (n := 0) (Nat.lt_of_lt_of_eq (by decide) (Eq.symm (GCommand.len c0))))) ?_
  refine rp rfl rfl (u_fa rfl rfl Tryd.underlying37 rfl in_34 (Nat.succ_ne_zero _) rfl rfl (ne_of_lt (n := 0) (Nat.lt_of_lt_of_eq (by decide) (Eq.symm (GCommand.len c0))))) ?_
  refine rp rfl rfl (u_ld rfl rfl Tryd.underlying34 rfl rfl (((Sub.refl _).trans (GCommand.sub8 c0)).trans (GQuery.sub0 c0.Query))) ?_
  refine rp rfl rfl (u_fa rfl rfl Tryd.underlying43 rfl in_37 (Nat.succ_ne_zero _) rfl rfl (ne_of_lt (n := 0) (Nat.lt_of_lt_of_eq (by decide) (Eq.symm (GCommand.len c0))))) ?_
  refine rp rfl rfl (u_fa rfl rfl Tryd.underlying37 rfl in_34 (Nat.succ_ne_zero _) rfl rfl (ne_of_lt (n := 0) (Nat.lt_of_lt_of_eq (by decide) (Eq.symm (GCommand.len c0))))) ?_
  refine rp rfl rfl (u_ld rfl rfl Tryd.underlying34 rfl rfl (((Sub.refl _).trans (GCommand.sub8 c0)).trans (GQuery.sub0 c0.Query))) ?_
  refine rp rfl rfl (p_lenl rfl Tryd.underlying34 rfl rfl) ?_
  refine rp rfl rfl (p_imin rfl rfl rfl) ?_
  refine chkK H fun h6 H => ?_
  refine rp rfl rfl (u_cutl (g := (fun l => l.flatMap GItem.cs)) (a := (0 : Int)) (b := imin (c0.Query.Items.length : Int) (4 : Int)) rfl rfl Tryd.underlying34 in_61 rfl bT_zero (bT_i (Int.le_trans (show 0 ≤ (0 : Int) ∧ (0 : Int) ≤ imin (c0.Query.Items.length : Int) (4 : Int) ∧ imin (c0.Query.Items.length : Int) (4 : Int) ≤ (c0.Query.Items.length : Int) from ⟨Int.le_refl _, h6.1, h6.2⟩).1 (show 0 ≤ (0 : Int) ∧ (0 : Int) ≤ imin (c0.Query.Items.length : Int) (4 : Int) ∧ imin (c0.Query.Items.length : Int) (4 : Int) ≤ (c0.Query.Items.length : Int) from ⟨Int.le_refl _, h6.1, h6.2⟩).2.1) rfl) (.inl rfl) (show 0 ≤ (0 : Int) ∧ (0 : Int) ≤ imin (c0.Query.Items.length : Int) (4 : Int) ∧ imin (c0.Query.Items.length : Int) (4 : Int) ≤ (c0.Query.Items.length : Int) from ⟨Int.le_refl _, h6.1, h6.2⟩) (g_fm (fun x => (GItem.len x)))) ?_
  refine rp rfl rfl (p_lenl rfl Tryd.underlying34 rfl rfl) ?_
  refine rp rfl rfl (p_move rfl rfl) ?_
  refine rz [(3, .c (.own 3 y'6.length 7)), (40, .p ((fun q : List GItem => AV.lst (q.flatMap GItem.cs) q.length) (cut c0.Query.Items (0 : Int) (imin (c0.Query.Items.length : Int) (4 : Int))))), (41, .i ((cut c0.Query.Items (0 : Int) (imin (c0.Query.Items.length : Int) (4 : Int))).length : Int)), (42, .i (0 : Int))] [(3, .pure (y'6.flatMap GExpr.cs))] rfl rfl rfl ?_
  refine gen1 (fun t40'7 => (⟨[(3, .c (.own 3 y'6.length 7)), (40, .p ((fun q : List GItem => AV.lst (q.flatMap GItem.cs) q.length) t40'7)), (41, .i ((cut c0.Query.Items (0 : Int) (imin (c0.Query.Items.length : Int) (4 : Int))).length : Int)), (42, .i (0 : Int))], [(3, .pure (y'6.flatMap GExpr.cs))], 53⟩ : TS)) H ?_
  intro t40'7 H
  refine gen1 (fun t41'8 => (⟨[(3, .c (.own 3 y'6.length 7)), (40, .p ((fun q : List GItem => AV.lst (q.flatMap GItem.cs) q.length) t40'7)), (41, .i t41'8), (42, .i (0 : Int))], [(3, .pure (y'6.flatMap GExpr.cs))], 53⟩ : TS)) H ?_
  intro t41'8 H
  refine AW2_block ?_
  refine as2 [(3, .c (.own 3 y'6.length 7)), (40, .p ((fun q : List GItem => AV.lst (q.flatMap GItem.cs) q.length) t40'7)), (41, .i t41'8), (42, .i (0 : Int))] [(3, .pure (y'6.flatMap GExpr.cs))] rfl rfl rfl ?_
  refine bindK H fun y'12 h10 H => ?_
  refine AW2_loopO (fun a'9 : Int × (List GExpr) => (⟨[(3, .c (.own 3 a'9.2.length 7)), (40, .p ((fun q : List GItem => AV.lst (q.flatMap GItem.cs) q.length) t40'7)), (41, .i t41'8), (42, .i a'9.1)], [(3, .pure (a'9.2.flatMap GExpr.cs))], 53⟩ : TS)) (fun (y'10 : ((List GExpr))) e s' => e = Go.Exit.exit 2 ∧ s' = (⟨[(3, .c (.own 3 y'10.length 7))], [(3, .pure (y'10.flatMap GExpr.cs))], 53⟩ : TS)) h10 rfl (fun a x hx => ?_) (fun e s' hs => ?_)
  ·clear H
   obtain ⟨t42_1, out3_1⟩ := a
   have H := hx
   clear hx
   unfold g_ref_exprs_l1 at H
   refine sg [0] rfl ?_
   refine rp rfl rfl (p_bin rfl rfl rfl rfl) ?_
   refine rz [(3, .c (.own 3 out3_1.length 7)), (40, .p ((fun q : List GItem => AV.lst (q.flatMap GItem.cs) q.length) t40'7)), (41, .i t41'8), (42, .i t42_1), (43, .b (decide (t42_1 < t41'8)))] [(3, .pure (out3_1.flatMap GExpr.cs))] rfl rfl rfl ?_
   refine AW2_seq ?_
   refine AW2_if (p := t42_1 < t41'8) rfl (fun h7 => ?_) (fun h7 => ?_)
   ·replace H := ite_then h7 H
    refine as2 [(3, .c (.own 3 out3_1.length 7)), (40, .p ((fun q : List GItem => AV.lst (q.flatMap GItem.cs) q.length) t40'7)), (41, .i t41'8), (42, .i t42_1)] [(3, .pure (out3_1.flatMap GExpr.cs))] rfl rfl rfl ?_
    refine AW2_skip ?_
    refine AW2_seq ?_
    refine AW2_block ?_
    refine sg [0, 1, 2, 3] rfl ?_
    refine chkK H fun h8 H => ?_
    refine rp rfl rfl (u_ixl rfl rfl Tryd.underlying34 in_61 rfl rfl (ixe h8) (ixn h8) (fne (fun x => (GItem.len x)) (by decide) (ixn h8))) ?_
    refine rp rfl rfl (u_lda rfl rfl Tryd.underlying61 rfl in_61 rfl (Nat.succ_pos _) (Sub.fm default (fun x => (GItem.len x)) (ixn h8)) (GItem.len (lrd t40'7 t42_1.toNat))) ?_
    refine r_op rfl rfl (MakeD.opD (u_alloc 7 rfl in_61 one_61 zc_61) rfl rfl rfl rfl) ?_
    refine r_op rfl rfl (u_st rfl rfl rfl rfl rfl in_61 (GItem.len (lrd t40'7 t42_1.toNat)) (ne_of_lt (n := 0) (Nat.lt_of_lt_of_eq (by decide) (Eq.symm (GItem.len GItem.zero)))) (Upd.refl ((GItem.len (lrd t40'7 t42_1.toNat)).trans (GItem.len GItem.zero).symm))) ?_
    refine rz [(3, .c (.own 3 out3_1.length 7)), (7, .q 7 (0)), (40, .p ((fun q : List GItem => AV.lst (q.flatMap GItem.cs) q.length) t40'7)), (41, .i t41'8), (42, .i t42_1)] [(3, .pure (out3_1.flatMap GExpr.cs)), (7, .pure (GItem.cs (lrd t40'7 t42_1.toNat)))] rfl rfl rfl ?_
    refine AW2_reg [0, 1, 2, 3, 4, 5] rfl ?_
    refine rp rfl rfl (p_move rfl rfl) ?_
    refine rp rfl rfl (u_fa rfl rfl Tryd.underlying61 rfl in_27 (Nat.succ_ne_zero _) rfl rfl (ne_of_lt (n := 0) (Nat.lt_of_lt_of_eq (by decide) (Eq.symm (GItem.len (lrd t40'7 t42_1.toNat)))))) ?_
    refine rp rfl rfl (u_lda rfl rfl Tryd.underlying27 rfl in_27 rfl (Nat.succ_pos _) ((Sub.refl _).trans (GItem.sub1 (lrd t40'7 t42_1.toNat))) (GExpr.len ((lrd t40'7 t42_1.toNat).Expr))) ?_
    refine r_op rfl rfl (MakeD.opD (u_bs 49 rfl Tryd.underlying25 in_27 rfl one_27 (by decide) (by decide) zc_27 rfl (af_lit (g := GExpr.cs) (fun x => (GExpr.len x)) (GExpr.len GExpr.zero) [(lrd t40'7 t42_1.toNat).Expr])) rfl rfl rfl rfl) ?_
    refine chkK H fun h9 H => ?_
    refine r_op rfl rfl (u_app [3, 46] rfl rfl rfl rfl Tryd.underlying25 Tryd.underlying25 in_27 rfl rfl rfl (fm_length (fun x => (GExpr.len x)) out3_1) (by decide) (srcT_o rfl rfl (fm_length (fun x => (GExpr.len x)) ([(lrd t40'7 t42_1.toNat).Expr] : List GExpr)) (by decide)) (fm_length (fun x => (GExpr.len x)) ([(lrd t40'7 t42_1.toNat).Expr] : List GExpr)) h9 (by decide) rfl rfl (fapp GExpr.cs out3_1 ([(lrd t40'7 t42_1.toNat).Expr] : List GExpr)) (lapp out3_1 ([(lrd t40'7 t42_1.toNat).Expr] : List GExpr))) ?_
    refine rp rfl rfl (p_asg rfl rfl) ?_
    refine rz [(3, .c (.own 3 (out3_1 ++ ([(lrd t40'7 t42_1.toNat).Expr] : List GExpr)).length 7)), (40, .p ((fun q : List GItem => AV.lst (q.flatMap GItem.cs) q.length) t40'7)), (41, .i t41'8), (42, .i t42_1)] [(3, .pure ((out3_1 ++ ([(lrd t40'7 t42_1.toNat).Expr] : List GExpr)).flatMap GExpr.cs))] rfl rfl rfl ?_
    refine AW2_reg [0, 1] rfl ?_
    refine rp rfl rfl (p_bin rfl rfl rfl rfl) ?_
    refine rp rfl rfl (p_move rfl rfl) ?_
    refine rz [(3, .c (.own 3 (out3_1 ++ ([(lrd t40'7 t42_1.toNat).Expr] : List GExpr)).length 7)), (40, .p ((fun q : List GItem => AV.lst (q.flatMap GItem.cs) q.length) t40'7)), (41, .i t41'8), (42, .i (w64 (t42_1 + (1 : Int))))] [(3, .pure ((out3_1 ++ ([(lrd t40'7 t42_1.toNat).Expr] : List GExpr)).flatMap GExpr.cs))] rfl rfl rfl ?_
    have hz := some_elim H
    subst hz
    exact ⟨rfl, rfl⟩
   ·replace H := ite_else h7 H
    refine as2 [(3, .c (.own 3 out3_1.length 7))] [(3, .pure (out3_1.flatMap GExpr.cs))] rfl rfl rfl ?_
    refine AW2_exit ?_
    refine thenQ2_exit ?_
    have hz := some_elim H
    subst hz
    exact ⟨rfl, rfl⟩
  ·obtain ⟨rfl, rfl⟩ := hs
   refine ⟨by simp, ?_⟩
   refine blockQ2_exit ?_
   refine sg [0, 1] rfl ?_
   refine rp rfl rfl (p_move rfl rfl) ?_
   refine rp rfl rfl (p_asg rfl rfl) ?_
   refine rs [(2, .c (.own 3 y'12.length 7))] [(3, .pure (y'12.flatMap GExpr.cs))] rfl rfl rfl ?_
   refine RunW_gho (Gho_ren 3 2 rfl rfl rfl rfl rfl) ?_
   refine rz [(2, .c (.own 2 y'12.length 7))] [(2, .pure (y'12.flatMap GExpr.cs))] rfl rfl rfl ?_
   refine as2 [(2, .c (.own 2 y'12.length 7))] [(2, .pure (y'12.flatMap GExpr.cs))] rfl rfl rfl ?_
   refine AW2_ret ?_
   have hz := some_elim H
   subst hz
   exact ⟨⟨res_tmp (.same _), trivial⟩, ⟨rfl, trivial⟩⟩
theorem g_ref_exprs_ac {c0 : GCommand} {r : (List GExpr)} (H : g_ref_exprs c0 = some r) : ACp Tryd.prog 32 [(.agg (GCommand.cs c0))] ((fun q : List GExpr => AV.lst (q.flatMap GExpr.cs) q.length) r) := ACp_pub (g_ref_exprs_ac2 H) (fun _ _ hm => lent_own hm rfl (fm_length (fun x => (GExpr.len x)) r) (by decide))
end Go.Proofs.YtcahembojhmpbaaDoor.VM
