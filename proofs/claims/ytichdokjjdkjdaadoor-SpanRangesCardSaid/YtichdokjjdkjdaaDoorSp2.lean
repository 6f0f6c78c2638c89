/- Functions of the program, as they answer, and that their code comes to these answers. -/
import Derived.Test.YtichdokjjdkjdaaDoorSp1
namespace Go.Proofs.YtichdokjjdkjdaaDoor.VM
open Go Go.RowKit



/-! span.Of -/
noncomputable def g_span_Of (e0 : GExpr) (col1 : List UInt8) : Option (GRange × Int) :=
  (g_expr_Check e0).bind fun r'1 => (if r'1 ≠ (0 : Int) then some (GRange.zero, r'1) else (g_span_of 100000 e0 col1).bind fun r'2 => (if r'2.Lo > r'2.Hi then (g_span_none).bind fun r'3 => some (r'3, (0 : Int)) else some (r'2, (0 : Int))))
set_option maxHeartbeats 4000000 in
set_option maxRecDepth 100000 in
theorem g_span_Of_ac {e0 : GExpr} {col1 : List UInt8} {r : GRange × Int} (H : g_span_Of e0 col1 = some r) : ACp Tryd.prog 4 [(.agg (GExpr.cs e0)), (AV.txt col1)] (.tup [(.agg (GRange.cs r.1)), (AV.int r.2)]) := by
 refine ACp_of (AC2_of_body (vs := [.g (GRange.cs r.1), .i r.2]) Tryd.func4 rfl rfl (Nat.le_of_ble_eq_true rfl) rfl ?_) (fun _ => .same _)
 unfold g_span_Of at H
 refine as2 [(0, .g (GExpr.cs e0)), (1, .t col1)] [] rfl rfl rfl ?_
 refine sg [0, 1, 2] rfl ?_
 refine r_op rfl rfl (MakeD.opD (n_box 2 rfl rfl) rfl rfl rfl rfl) ?_
 refine r_op rfl rfl (MakeD.opD (u_alloc 4 rfl in_29 one_29 zc_29) rfl rfl rfl rfl) ?_
 refine rp rfl rfl (p_asg rfl rfl) ?_
 refine rz [(1, .t col1), (2, .q 2 (0)), (4, .q 4 (0))] [(2, .pure (GExpr.cs e0)), (4, .pure (GRange.cs GRange.zero))] rfl rfl rfl ?_
 refine AW2_seq ?_
 refine sg [0, 1, 2] rfl ?_
 refine rp rfl rfl (u_lda rfl rfl Tryd.underlying27 rfl in_27 rfl (Nat.succ_pos _) (Sub.refl _) (GExpr.len e0)) ?_
 refine bindK H fun r'1 h1 H => ?_
 refine rp rfl rfl (p_callp rfl rfl rfl Tryd.func6 rfl rfl (g_expr_Check_ac h1) ⟨rfl, trivial⟩) ?_
 refine rp rfl rfl (p_asg rfl rfl) ?_
 refine rz [(1, .t col1), (2, .q 2 (0)), (4, .q 4 (0)), (6, .i r'1)] [(2, .pure (GExpr.cs e0)), (4, .pure (GRange.cs GRange.zero))] rfl rfl rfl ?_
 refine sg [0, 1] rfl ?_
 refine rp rfl rfl (p_move rfl rfl) ?_
 refine rp rfl rfl (p_ine rfl rfl rfl) ?_
 refine rz [(1, .t col1), (2, .q 2 (0)), (4, .q 4 (0)), (6, .i r'1), (11, .b (decide (r'1 ≠ (0 : Int))))] [(2, .pure (GExpr.cs e0)), (4, .pure (GRange.cs GRange.zero))] rfl rfl rfl ?_
 refine AW2_if (p := r'1 ≠ (0 : Int)) rfl (fun h2 => ?_) (fun h2 => ?_)
 ·replace H := ite_then h2 H
  refine sg [0, 1, 2, 3] rfl ?_
  refine rp rfl rfl (u_bld rfl in_29 one_29 zc_29 pl_29 rfl rfl) ?_
  refine rp rfl rfl (p_move rfl rfl) ?_
  refine r_op rfl rfl (u_st rfl rfl rfl rfl rfl in_29 (GRange.len GRange.zero) (ne_of_lt (n := 0) (Nat.lt_of_lt_of_eq (by decide) (Eq.symm (GRange.len GRange.zero)))) (Upd.refl ((GRange.len GRange.zero).trans (GRange.len GRange.zero).symm))) ?_
  refine rp rfl rfl (p_asg rfl rfl) ?_
  refine rz [(4, .q 4 (0)), (5, .i r'1)] [(4, .pure (GRange.cs GRange.zero))] rfl rfl rfl ?_
  refine AW2_ret ?_
  have hz := some_elim H
  subst hz
  exact ⟨⟨res_cella Tryd.underlying29 rfl in_29.sz rfl (Sub.le (Sub.refl _) (GRange.len GRange.zero)) (by decide) (Sub.take (Sub.refl _) (GRange.len GRange.zero)), res_tmp (.same _), trivial⟩, trivial⟩
 ·replace H := ite_else h2 H
  refine as2 [(1, .t col1), (2, .q 2 (0)), (4, .q 4 (0))] [(2, .pure (GExpr.cs e0)), (4, .pure (GRange.cs GRange.zero))] rfl rfl rfl ?_
  refine AW2_skip ?_
  refine sg [0, 1, 2, 3, 4] rfl ?_
  refine rp rfl rfl (u_lda rfl rfl Tryd.underlying27 rfl in_27 rfl (Nat.succ_pos _) (Sub.refl _) (GExpr.len e0)) ?_
  refine rp rfl rfl (p_move rfl rfl) ?_
  refine bindK H fun r'2 h3 H => ?_
  refine rp rfl rfl (p_callp rfl rfl rfl Tryd.func7 rfl rfl (g_span_of_ac h3) ⟨rfl, rfl, trivial⟩) ?_
  refine r_op rfl rfl (MakeD.opD (u_alloc 7 rfl in_29 one_29 zc_29) rfl rfl rfl rfl) ?_
  refine r_op rfl rfl (u_st rfl rfl rfl rfl rfl in_29 (GRange.len r'2) (ne_of_lt (n := 0) (Nat.lt_of_lt_of_eq (by decide) (Eq.symm (GRange.len GRange.zero)))) (Upd.refl ((GRange.len r'2).trans (GRange.len GRange.zero).symm))) ?_
  refine rz [(4, .q 4 (0)), (7, .q 7 (0))] [(4, .pure (GRange.cs GRange.zero)), (7, .pure (GRange.cs r'2))] rfl rfl rfl ?_
  refine AW2_seq ?_
  refine sg [0, 1, 2, 3, 4] rfl ?_
  refine rp rfl rfl (u_fa rfl rfl Tryd.underlying29 rfl in_3 (Nat.succ_ne_zero _) rfl rfl (ne_of_lt (n := 0) (Nat.lt_of_lt_of_eq (by decide) (Eq.symm (GRange.len r'2))))) ?_
  refine rp rfl rfl (u_ld rfl rfl Tryd.underlying3 rfl rfl ((Sub.refl _).trans (GRange.sub0 r'2))) ?_
  refine rp rfl rfl (u_fa rfl rfl Tryd.underlying29 rfl in_3 (Nat.succ_ne_zero _) rfl rfl (ne_of_lt (n := 0) (Nat.lt_of_lt_of_eq (by decide) (Eq.symm (GRange.len r'2))))) ?_
  refine rp rfl rfl (u_ld rfl rfl Tryd.underlying3 rfl rfl ((Sub.refl _).trans (GRange.sub1 r'2))) ?_
  refine rp rfl rfl (p_bin rfl rfl rfl rfl) ?_
  refine rz [(4, .q 4 (0)), (7, .q 7 (0)), (21, .b (decide (r'2.Lo > r'2.Hi)))] [(4, .pure (GRange.cs GRange.zero)), (7, .pure (GRange.cs r'2))] rfl rfl rfl ?_
  refine AW2_if (p := r'2.Lo > r'2.Hi) rfl (fun h4 => ?_) (fun h4 => ?_)
  ·replace H := ite_then h4 H
   refine sg [0, 1, 2] rfl ?_
   refine bindK H fun r'3 h5 H => ?_
   refine rp rfl rfl (p_callp rfl rfl rfl Tryd.func8 rfl rfl (g_span_none_ac h5) trivial) ?_
   refine r_op rfl rfl (u_st rfl rfl rfl rfl rfl in_29 (GRange.len r'3) (ne_of_lt (n := 0) (Nat.lt_of_lt_of_eq (by decide) (Eq.symm (GRange.len GRange.zero)))) (Upd.refl ((GRange.len r'3).trans (GRange.len GRange.zero).symm))) ?_
   refine rp rfl rfl (p_asg rfl rfl) ?_
   refine rz [(4, .q 4 (0)), (5, .i (0 : Int))] [(4, .pure (GRange.cs r'3))] rfl rfl rfl ?_
   refine AW2_ret ?_
   have hz := some_elim H
   subst hz
   exact ⟨⟨res_cella Tryd.underlying29 rfl in_29.sz rfl (Sub.le (Sub.refl _) (GRange.len r'3)) (by decide) (Sub.take (Sub.refl _) (GRange.len r'3)), res_tmp (.same _), trivial⟩, trivial⟩
  ·replace H := ite_else h4 H
   refine as2 [(4, .q 4 (0)), (7, .q 7 (0))] [(4, .pure (GRange.cs GRange.zero)), (7, .pure (GRange.cs r'2))] rfl rfl rfl ?_
   refine AW2_skip ?_
   refine sg [0, 1, 2] rfl ?_
   refine rp rfl rfl (u_lda rfl rfl Tryd.underlying29 rfl in_29 rfl (Nat.succ_pos _) (Sub.refl _) (GRange.len r'2)) ?_
   refine r_op rfl rfl (u_st rfl rfl rfl rfl rfl in_29 (GRange.len r'2) (ne_of_lt (n := 0) (Nat.lt_of_lt_of_eq (by decide) (Eq.symm (GRange.len GRange.zero)))) (Upd.refl ((GRange.len r'2).trans (GRange.len GRange.zero).symm))) ?_
   refine rp rfl rfl (p_asg rfl rfl) ?_
   refine rz [(4, .q 4 (0)), (5, .i (0 : Int))] [(4, .pure (GRange.cs r'2))] rfl rfl rfl ?_
   refine AW2_ret ?_
   have hz := some_elim H
   subst hz
   exact ⟨⟨res_cella Tryd.underlying29 rfl in_29.sz rfl (Sub.le (Sub.refl _) (GRange.len r'2)) (by decide) (Sub.take (Sub.refl _) (GRange.len r'2)), res_tmp (.same _), trivial⟩, trivial⟩

/-! chirographref.within -/
noncomputable def g_ref_within_l1 (row3_0 : List GExpr) : Int × (List GExpr) → Option ((Int × (List GExpr)) ⊕ (Bool ⊕ ((List GExpr))))
  | (t28_1, next6_1) => (if t28_1 < (row3_0.length : Int) then if 0 ≤ t28_1 ∧ t28_1 < (row3_0.length : Int) then (if (((lrd row3_0 t28_1.toNat).Args).length : Int) > (40 : Int) then some (.inr (.inl false)) else if room (next6_1.length + ((lrd row3_0 t28_1.toNat).Args).length) 88 then (if ((next6_1 ++ ((lrd row3_0 t28_1.toNat).Args)).length : Int) > (40 : Int) then some (.inr (.inl false)) else some (.inl (w64 (t28_1 + (1 : Int)), next6_1 ++ ((lrd row3_0 t28_1.toNat).Args)))) else none) else none else some (.inr (.inr next6_1)))
noncomputable def g_ref_within_l0 : Int × Int × (List GExpr) → Option ((Int × Int × (List GExpr)) ⊕ (Bool ⊕ Unit))
  | (all4_0, deep5_0, row3_0) => (if (row3_0.length : Int) > (0 : Int) then (if (deep5_0 > (7 : Int)) ∨ (w64 (all4_0 + (row3_0.length : Int)) > (40 : Int)) then some (.inr (.inl false)) else (loopO (g_ref_within_l1 row3_0) ((0 : Int), ([] : List GExpr))).bind fun o'4 => match o'4 with | .inl y'5 => some (.inr (.inl y'5)) | .inr (y'6) => some (.inl (w64 (all4_0 + (row3_0.length : Int)), w64 (deep5_0 + (1 : Int)), y'6))) else some (.inr (.inr ())))
noncomputable def g_ref_within (e0 : GExpr) : Option (Bool) :=
  (loopO (g_ref_within_l0) ((0 : Int), (1 : Int), ([e0] : List GExpr))).bind fun o'10 => match o'10 with | .inl y'11 => some y'11 | .inr (y'12) => some true
set_option maxHeartbeats 4000000 in
set_option maxRecDepth 100000 in
theorem g_ref_within_ac {e0 : GExpr} {r : Bool} (H : g_ref_within e0 = some r) : ACp Tryd.prog 17 [(.agg (GExpr.cs e0))] (AV.bool r) := by
 refine ACp_of (AC2_of_body (vs := [.b r]) Tryd.func17 rfl rfl (Nat.le_of_ble_eq_true rfl) rfl ?_) (fun _ => .same _)
 unfold g_ref_within at H
 refine as2 [(0, .g (GExpr.cs e0))] [] rfl rfl rfl ?_
 refine sg [0, 1] rfl ?_
 refine r_op rfl rfl (MakeD.opD (n_box 1 rfl rfl) rfl rfl rfl rfl) ?_
 refine rp rfl rfl (p_asg rfl rfl) ?_
 refine rz [(1, .q 1 (0))] [(1, .pure (GExpr.cs e0))] rfl rfl rfl ?_
 refine sg [0, 1, 2] rfl ?_
 refine rp rfl rfl (u_lda rfl rfl Tryd.underlying27 rfl in_27 rfl (Nat.succ_pos _) (Sub.refl _) (GExpr.len e0)) ?_
 refine r_op rfl rfl (MakeD.opD (u_bs 10 rfl Tryd.underlying25 in_27 rfl one_27 (by decide) (by decide) zc_27 rfl (af_lit (g := GExpr.cs) (fun x => (GExpr.len x)) (GExpr.len GExpr.zero) [e0])) rfl rfl rfl rfl) ?_
 refine rp rfl rfl (p_asg rfl rfl) ?_
 refine RunW_st [(3, .c (.own 10 ([e0] : List GExpr).length 7))] [(10, .pure (([e0] : List GExpr).flatMap GExpr.cs))] rfl ⟨TLes.own rfl, trivial⟩ ⟨rfl, trivial⟩ ?_
 refine RunW_gho (Gho_ren 10 3 rfl rfl rfl rfl rfl) ?_
 refine rz [(3, .c (.own 3 ([e0] : List GExpr).length 7))] [(3, .pure (([e0] : List GExpr).flatMap GExpr.cs))] rfl rfl rfl ?_
 refine sg [0] rfl ?_
 refine rp rfl rfl (p_asg rfl rfl) ?_
 refine rz [(3, .c (.own 3 ([e0] : List GExpr).length 7)), (4, .i (0 : Int))] [(3, .pure (([e0] : List GExpr).flatMap GExpr.cs))] rfl rfl rfl ?_
 refine AW2_seq ?_
 refine sg [0] rfl ?_
 refine rp rfl rfl (p_asg rfl rfl) ?_
 refine rz [(3, .c (.own 3 ([e0] : List GExpr).length 7)), (4, .i (0 : Int)), (5, .i (1 : Int))] [(3, .pure (([e0] : List GExpr).flatMap GExpr.cs))] rfl rfl rfl ?_
 refine AW2_block ?_
 refine as2 [(3, .c (.own 3 ([e0] : List GExpr).length 7)), (4, .i (0 : Int)), (5, .i (1 : Int))] [(3, .pure (([e0] : List GExpr).flatMap GExpr.cs))] rfl rfl rfl ?_
 refine bindK H fun o'10 h10 H => ?_
 refine AW2_loopO (fun a'7 : Int × Int × (List GExpr) => (⟨[(3, .c (.own 3 a'7.2.2.length 7)), (4, .i a'7.1), (5, .i a'7.2.1)], [(3, .pure (a'7.2.2.flatMap GExpr.cs))], 45⟩ : TS)) (fun (o : Bool ⊕ Unit) e s' => match o with | .inl y'8 => e = Go.Exit.ret ∧ ResAll Tryd.prog s' [ResultVar.tmp 2] [.b y'8] ∧ HFits s' [] | .inr (y'9) => e = Go.Exit.exit 0 ∧ s' = (⟨[], [], 45⟩ : TS)) h10 rfl (fun a x hx => ?_) (fun e s' hs => ?_)
 ·clear H
  obtain ⟨all4_0, deep5_0, row3_0⟩ := a
  have H := hx
  clear hx
  unfold g_ref_within_l0 at H
  refine AW2_seq ?_
  refine sg [0, 1, 2] rfl ?_
  refine rp rfl rfl (p_move rfl rfl) ?_
  refine rp rfl rfl (p_leno rfl Tryd.underlying25 rfl rfl rfl (fm_length (fun x => (GExpr.len x)) row3_0) (by decide)) ?_
  refine rp rfl rfl (p_bin rfl rfl rfl rfl) ?_
  refine rz [(3, .c (.own 3 row3_0.length 7)), (4, .i all4_0), (5, .i deep5_0), (13, .b (decide ((row3_0.length : Int) > (0 : Int))))] [(3, .pure (row3_0.flatMap GExpr.cs))] rfl rfl rfl ?_
  refine AW2_if (p := (row3_0.length : Int) > (0 : Int)) rfl (fun h1 => ?_) (fun h1 => ?_)
  ·replace H := ite_then h1 H
   refine as2 [(3, .c (.own 3 row3_0.length 7)), (4, .i all4_0), (5, .i deep5_0)] [(3, .pure (row3_0.flatMap GExpr.cs))] rfl rfl rfl ?_
   refine AW2_skip ?_
   refine AW2_seq ?_
   refine AW2_block ?_
   refine sg [0, 1, 2, 3, 4] rfl ?_
   refine rp rfl rfl (p_move rfl rfl) ?_
   refine rp rfl rfl (p_move rfl rfl) ?_
   refine rp rfl rfl (p_leno rfl Tryd.underlying25 rfl rfl rfl (fm_length (fun x => (GExpr.len x)) row3_0) (by decide)) ?_
   refine rp rfl rfl (p_bin rfl rfl rfl rfl) ?_
   refine rp rfl rfl (p_asg rfl rfl) ?_
   refine rz [(3, .c (.own 3 row3_0.length 7)), (4, .i (w64 (all4_0 + (row3_0.length : Int)))), (5, .i deep5_0)] [(3, .pure (row3_0.flatMap GExpr.cs))] rfl rfl rfl ?_
   refine AW2_seq ?_
   refine AW2_seq ?_
   refine AW2_mid (⟨[(3, .c (.own 3 row3_0.length 7)), (4, .i (w64 (all4_0 + (row3_0.length : Int)))), (5, .i deep5_0), (25, .b (decide ((deep5_0 > (7 : Int)) ∨ (w64 (all4_0 + (row3_0.length : Int)) > (40 : Int)))))], [(3, .pure (row3_0.flatMap GExpr.cs))], 45⟩ : TS) ?_ ?_
   ·refine AW2_reg [0, 1, 2, 3, 4, 5] rfl ?_
    refine rp rfl rfl (p_move rfl rfl) ?_
    refine rp rfl rfl (p_bin rfl rfl rfl rfl) ?_
    refine rp rfl rfl (p_move rfl rfl) ?_
    refine (Classical.em (deep5_0 > (7 : Int))).elim (fun h2 => ?_) (fun h2 => ?_)
    ·refine r_off rfl rfl rfl rfl (decide_eq_true h2) rfl rfl ?_
     refine r_off rfl rfl rfl rfl (decide_eq_true h2) rfl rfl ?_
     refine rp rfl rfl (p_pkt rfl rfl (decide_eq_true h2) (tb (decide_eq_true (p := (deep5_0 > (7 : Int)) ∨ (w64 (all4_0 + (row3_0.length : Int)) > (40 : Int))) (Or.inl h2)).symm)) ?_
     refine rs [(3, .c (.own 3 row3_0.length 7)), (4, .i (w64 (all4_0 + (row3_0.length : Int)))), (5, .i deep5_0), (25, .b (decide ((deep5_0 > (7 : Int)) ∨ (w64 (all4_0 + (row3_0.length : Int)) > (40 : Int)))))] [(3, .pure (row3_0.flatMap GExpr.cs))] rfl rfl rfl ?_
     exact RunW_nil rfl
    ·refine r_on rfl rfl rfl rfl (decide_eq_false h2) rfl (PureD.opD (p_move rfl rfl)) ?_
     refine r_on rfl rfl rfl rfl (decide_eq_false h2) rfl (PureD.opD (p_bin rfl rfl rfl rfl)) ?_
     refine rp rfl rfl (p_pkf rfl rfl (decide_eq_false h2) (tb ((or_l (p := deep5_0 > (7 : Int)) (q := w64 (all4_0 + (row3_0.length : Int)) > (40 : Int)) h2)))) ?_
     refine rs [(3, .c (.own 3 row3_0.length 7)), (4, .i (w64 (all4_0 + (row3_0.length : Int)))), (5, .i deep5_0), (25, .b (decide ((deep5_0 > (7 : Int)) ∨ (w64 (all4_0 + (row3_0.length : Int)) > (40 : Int)))))] [(3, .pure (row3_0.flatMap GExpr.cs))] rfl rfl rfl ?_
     exact RunW_nil rfl
   ·refine AW2_if (p := (deep5_0 > (7 : Int)) ∨ (w64 (all4_0 + (row3_0.length : Int)) > (40 : Int))) rfl (fun h3 => ?_) (fun h3 => ?_)
    ·replace H := ite_then h3 H
     refine sg [0] rfl ?_
     refine rp rfl rfl (p_asg rfl rfl) ?_
     refine rz [(2, .b false)] [] rfl rfl rfl ?_
     refine AW2_ret ?_
     have hz := some_elim H
     subst hz
     exact ⟨rfl, ⟨res_tmp (.same _), trivial⟩, trivial⟩
    ·replace H := ite_else h3 H
     refine as2 [(3, .c (.own 3 row3_0.length 7)), (4, .i (w64 (all4_0 + (row3_0.length : Int)))), (5, .i deep5_0)] [(3, .pure (row3_0.flatMap GExpr.cs))] rfl rfl rfl ?_
     refine AW2_skip ?_
     refine sg [0] rfl ?_
     refine rp rfl rfl (p_asgn rfl) ?_
     refine rz [(3, .c (.own 3 row3_0.length 7)), (4, .i (w64 (all4_0 + (row3_0.length : Int)))), (5, .i deep5_0), (6, .p .nil)] [(3, .pure (row3_0.flatMap GExpr.cs))] rfl rfl rfl ?_
     refine AW2_seq ?_
     refine sg [0, 1, 2] rfl ?_
     refine rp rfl rfl (p_move rfl rfl) ?_
     refine rp rfl rfl (p_leno rfl Tryd.underlying25 rfl rfl rfl (fm_length (fun x => (GExpr.len x)) row3_0) (by decide)) ?_
     refine rp rfl rfl (p_move rfl rfl) ?_
     refine rs [(4, .i (w64 (all4_0 + (row3_0.length : Int)))), (5, .i deep5_0), (6, .p .nil), (26, .c (.own 3 row3_0.length 7)), (27, .i (row3_0.length : Int)), (28, .i (0 : Int))] [(3, .pure (row3_0.flatMap GExpr.cs))] rfl rfl rfl ?_
     refine RunW_gho (Gho_ren 3 26 rfl rfl rfl rfl rfl) ?_
     refine rz [(4, .i (w64 (all4_0 + (row3_0.length : Int)))), (5, .i deep5_0), (6, .p .nil), (26, .c (.own 26 row3_0.length 7)), (27, .i (row3_0.length : Int)), (28, .i (0 : Int))] [(26, .pure (row3_0.flatMap GExpr.cs))] rfl rfl rfl ?_
     refine AW2_block ?_
     refine as2 [(4, .i (w64 (all4_0 + (row3_0.length : Int)))), (5, .i deep5_0), (6, .p .nil), (26, .c (.own 26 row3_0.length 7)), (27, .i (row3_0.length : Int)), (28, .i (0 : Int))] [(26, .pure (row3_0.flatMap GExpr.cs))] rfl rfl rfl ?_
     refine AW2_gho (Gho_own (d := 6) (b := 6) (z := 7) rfl rfl rfl rfl) ?_
     refine AW2_st [(4, .i (w64 (all4_0 + (row3_0.length : Int)))), (5, .i deep5_0), (6, .c (.own 6 ([] : List GExpr).length 7)), (26, .c (.own 26 row3_0.length 7)), (27, .i (row3_0.length : Int)), (28, .i (0 : Int))] [(6, .pure (([] : List GExpr).flatMap GExpr.cs)), (26, .pure (row3_0.flatMap GExpr.cs))] rfl ⟨TLes.same _, TLes.same _, TLes.own rfl, TLes.same _, TLes.same _, TLes.same _, trivial⟩ ⟨rfl, rfl, trivial⟩ ?_
     refine bindK H fun o'4 h9 H => ?_
     refine AW2_loopO (fun a'1 : Int × (List GExpr) => (⟨[(4, .i (w64 (all4_0 + (row3_0.length : Int)))), (5, .i deep5_0), (6, .c (.own 6 a'1.2.length 7)), (26, .c (.own 26 row3_0.length 7)), (27, .i (row3_0.length : Int)), (28, .i a'1.1)], [(6, .pure (a'1.2.flatMap GExpr.cs)), (26, .pure (row3_0.flatMap GExpr.cs))], 45⟩ : TS)) (fun (o : Bool ⊕ ((List GExpr))) e s' => match o with | .inl y'2 => e = Go.Exit.ret ∧ ResAll Tryd.prog s' [ResultVar.tmp 2] [.b y'2] ∧ HFits s' [] | .inr (y'3) => e = Go.Exit.exit 2 ∧ s' = (⟨[(4, .i (w64 (all4_0 + (row3_0.length : Int)))), (5, .i deep5_0), (6, .c (.own 6 y'3.length 7))], [(6, .pure (y'3.flatMap GExpr.cs))], 45⟩ : TS)) h9 rfl (fun a x hx => ?_) (fun e s' hs => ?_)
     ·clear H
      obtain ⟨t28_1, next6_1⟩ := a
      have H := hx
      clear hx
      unfold g_ref_within_l1 at H
      refine sg [0] rfl ?_
      refine rp rfl rfl (p_bin rfl rfl rfl rfl) ?_
      refine rz [(4, .i (w64 (all4_0 + (row3_0.length : Int)))), (5, .i deep5_0), (6, .c (.own 6 next6_1.length 7)), (26, .c (.own 26 row3_0.length 7)), (27, .i (row3_0.length : Int)), (28, .i t28_1), (29, .b (decide (t28_1 < (row3_0.length : Int))))] [(6, .pure (next6_1.flatMap GExpr.cs)), (26, .pure (row3_0.flatMap GExpr.cs))] rfl rfl rfl ?_
      refine AW2_seq ?_
      refine AW2_if (p := t28_1 < (row3_0.length : Int)) rfl (fun h4 => ?_) (fun h4 => ?_)
      ·replace H := ite_then h4 H
       refine as2 [(4, .i (w64 (all4_0 + (row3_0.length : Int)))), (5, .i deep5_0), (6, .c (.own 6 next6_1.length 7)), (26, .c (.own 26 row3_0.length 7)), (27, .i (row3_0.length : Int)), (28, .i t28_1)] [(6, .pure (next6_1.flatMap GExpr.cs)), (26, .pure (row3_0.flatMap GExpr.cs))] rfl rfl rfl ?_
       refine AW2_skip ?_
       refine AW2_seq ?_
       refine AW2_block ?_
       refine sg [0, 1, 2, 3] rfl ?_
       refine chkK H fun h5 H => ?_
       refine rp rfl rfl (u_ixo rfl rfl Tryd.underlying25 in_27 rfl rfl (fne (fun x => (GExpr.len x)) (by decide) (ixn h5)) rfl (ixe h5) (ixn h5)) ?_
       refine rp rfl rfl (u_lda rfl rfl Tryd.underlying27 rfl in_27 rfl (Nat.succ_pos _) ((Sub.refl _).trans (Sub.fm default (fun x => (GExpr.len x)) (ixn h5))) (GExpr.len (lrd row3_0 t28_1.toNat))) ?_
       refine r_op rfl rfl (MakeD.opD (u_alloc 8 rfl in_27 one_27 zc_27) rfl rfl rfl rfl) ?_
       refine r_op rfl rfl (u_st rfl rfl rfl rfl rfl in_27 (GExpr.len (lrd row3_0 t28_1.toNat)) (ne_of_lt (n := 0) (Nat.lt_of_lt_of_eq (by decide) (Eq.symm (GExpr.len GExpr.zero)))) (Upd.refl ((GExpr.len (lrd row3_0 t28_1.toNat)).trans (GExpr.len GExpr.zero).symm))) ?_
       refine rz [(4, .i (w64 (all4_0 + (row3_0.length : Int)))), (5, .i deep5_0), (6, .c (.own 6 next6_1.length 7)), (8, .q 8 (0)), (26, .c (.own 26 row3_0.length 7)), (27, .i (row3_0.length : Int)), (28, .i t28_1)] [(6, .pure (next6_1.flatMap GExpr.cs)), (8, .pure (GExpr.cs (lrd row3_0 t28_1.toNat))), (26, .pure (row3_0.flatMap GExpr.cs))] rfl rfl rfl ?_
       refine AW2_seq ?_
       refine sg [0, 1, 2, 3] rfl ?_
       refine rp rfl rfl (u_fa rfl rfl Tryd.underlying27 rfl in_25 (Nat.succ_ne_zero _) rfl rfl (ne_of_lt (n := 0) (Nat.lt_of_lt_of_eq (by decide) (Eq.symm (GExpr.len (lrd row3_0 t28_1.toNat)))))) ?_
       refine rp rfl rfl (u_ld rfl rfl Tryd.underlying25 rfl rfl ((Sub.refl _).trans (GExpr.sub3 (lrd row3_0 t28_1.toNat)))) ?_
       refine rp rfl rfl (p_lenl rfl Tryd.underlying25 rfl rfl) ?_
       refine rp rfl rfl (p_bin rfl rfl rfl rfl) ?_
       refine rz [(4, .i (w64 (all4_0 + (row3_0.length : Int)))), (5, .i deep5_0), (6, .c (.own 6 next6_1.length 7)), (8, .q 8 (0)), (26, .c (.own 26 row3_0.length 7)), (27, .i (row3_0.length : Int)), (28, .i t28_1), (35, .b (decide ((((lrd row3_0 t28_1.toNat).Args).length : Int) > (40 : Int))))] [(6, .pure (next6_1.flatMap GExpr.cs)), (8, .pure (GExpr.cs (lrd row3_0 t28_1.toNat))), (26, .pure (row3_0.flatMap GExpr.cs))] rfl rfl rfl ?_
       refine AW2_if (p := (((lrd row3_0 t28_1.toNat).Args).length : Int) > (40 : Int)) rfl (fun h6 => ?_) (fun h6 => ?_)
       ·replace H := ite_then h6 H
        refine sg [0] rfl ?_
        refine rp rfl rfl (p_asg rfl rfl) ?_
        refine rz [(2, .b false)] [] rfl rfl rfl ?_
        refine AW2_ret ?_
        have hz := some_elim H
        subst hz
        exact ⟨rfl, ⟨res_tmp (.same _), trivial⟩, trivial⟩
       ·replace H := ite_else h6 H
        refine as2 [(4, .i (w64 (all4_0 + (row3_0.length : Int)))), (5, .i deep5_0), (6, .c (.own 6 next6_1.length 7)), (8, .q 8 (0)), (26, .c (.own 26 row3_0.length 7)), (27, .i (row3_0.length : Int)), (28, .i t28_1)] [(6, .pure (next6_1.flatMap GExpr.cs)), (8, .pure (GExpr.cs (lrd row3_0 t28_1.toNat))), (26, .pure (row3_0.flatMap GExpr.cs))] rfl rfl rfl ?_
        refine AW2_skip ?_
        refine sg [0, 1, 2, 3, 4] rfl ?_
        refine rp rfl rfl (p_move rfl rfl) ?_
        refine rp rfl rfl (u_fa rfl rfl Tryd.underlying27 rfl in_25 (Nat.succ_ne_zero _) rfl rfl (ne_of_lt (n := 0) (Nat.lt_of_lt_of_eq (by decide) (Eq.symm (GExpr.len (lrd row3_0 t28_1.toNat)))))) ?_
        refine rp rfl rfl (u_ld rfl rfl Tryd.underlying25 rfl rfl ((Sub.refl _).trans (GExpr.sub3 (lrd row3_0 t28_1.toNat)))) ?_
        refine chkK H fun h7 H => ?_
        refine r_op rfl rfl (u_app [6, 36] rfl rfl rfl rfl Tryd.underlying25 Tryd.underlying25 in_27 rfl rfl rfl (fm_length (fun x => (GExpr.len x)) next6_1) (by decide) rfl (fm_length (fun x => (GExpr.len x)) ((lrd row3_0 t28_1.toNat).Args)) h7 (by decide) rfl rfl (fapp GExpr.cs next6_1 ((lrd row3_0 t28_1.toNat).Args)) (lapp next6_1 ((lrd row3_0 t28_1.toNat).Args))) ?_
        refine rp rfl rfl (p_asg rfl rfl) ?_
        refine rz [(4, .i (w64 (all4_0 + (row3_0.length : Int)))), (5, .i deep5_0), (6, .c (.own 6 (next6_1 ++ ((lrd row3_0 t28_1.toNat).Args)).length 7)), (26, .c (.own 26 row3_0.length 7)), (27, .i (row3_0.length : Int)), (28, .i t28_1)] [(6, .pure ((next6_1 ++ ((lrd row3_0 t28_1.toNat).Args)).flatMap GExpr.cs)), (26, .pure (row3_0.flatMap GExpr.cs))] rfl rfl rfl ?_
        refine sg [0, 1, 2] rfl ?_
        refine rp rfl rfl (p_move rfl rfl) ?_
        refine rp rfl rfl (p_leno rfl Tryd.underlying25 rfl rfl rfl (fm_length (fun x => (GExpr.len x)) (next6_1 ++ ((lrd row3_0 t28_1.toNat).Args))) (by decide)) ?_
        refine rp rfl rfl (p_bin rfl rfl rfl rfl) ?_
        refine rz [(4, .i (w64 (all4_0 + (row3_0.length : Int)))), (5, .i deep5_0), (6, .c (.own 6 (next6_1 ++ ((lrd row3_0 t28_1.toNat).Args)).length 7)), (26, .c (.own 26 row3_0.length 7)), (27, .i (row3_0.length : Int)), (28, .i t28_1), (42, .b (decide (((next6_1 ++ ((lrd row3_0 t28_1.toNat).Args)).length : Int) > (40 : Int))))] [(6, .pure ((next6_1 ++ ((lrd row3_0 t28_1.toNat).Args)).flatMap GExpr.cs)), (26, .pure (row3_0.flatMap GExpr.cs))] rfl rfl rfl ?_
        refine AW2_if (p := ((next6_1 ++ ((lrd row3_0 t28_1.toNat).Args)).length : Int) > (40 : Int)) rfl (fun h8 => ?_) (fun h8 => ?_)
        ·replace H := ite_then h8 H
         refine sg [0] rfl ?_
         refine rp rfl rfl (p_asg rfl rfl) ?_
         refine rz [(2, .b false)] [] rfl rfl rfl ?_
         refine AW2_ret ?_
         have hz := some_elim H
         subst hz
         exact ⟨rfl, ⟨res_tmp (.same _), trivial⟩, trivial⟩
        ·replace H := ite_else h8 H
         refine as2 [(4, .i (w64 (all4_0 + (row3_0.length : Int)))), (5, .i deep5_0), (6, .c (.own 6 (next6_1 ++ ((lrd row3_0 t28_1.toNat).Args)).length 7)), (26, .c (.own 26 row3_0.length 7)), (27, .i (row3_0.length : Int)), (28, .i t28_1)] [(6, .pure ((next6_1 ++ ((lrd row3_0 t28_1.toNat).Args)).flatMap GExpr.cs)), (26, .pure (row3_0.flatMap GExpr.cs))] rfl rfl rfl ?_
         refine AW2_skip ?_
         refine AW2_reg [0, 1] rfl ?_
         refine rp rfl rfl (p_bin rfl rfl rfl rfl) ?_
         refine rp rfl rfl (p_move rfl rfl) ?_
         refine rz [(4, .i (w64 (all4_0 + (row3_0.length : Int)))), (5, .i deep5_0), (6, .c (.own 6 (next6_1 ++ ((lrd row3_0 t28_1.toNat).Args)).length 7)), (26, .c (.own 26 row3_0.length 7)), (27, .i (row3_0.length : Int)), (28, .i (w64 (t28_1 + (1 : Int))))] [(6, .pure ((next6_1 ++ ((lrd row3_0 t28_1.toNat).Args)).flatMap GExpr.cs)), (26, .pure (row3_0.flatMap GExpr.cs))] rfl rfl rfl ?_
         have hz := some_elim H
         subst hz
         exact ⟨rfl, rfl⟩
      ·replace H := ite_else h4 H
       refine as2 [(4, .i (w64 (all4_0 + (row3_0.length : Int)))), (5, .i deep5_0), (6, .c (.own 6 next6_1.length 7))] [(6, .pure (next6_1.flatMap GExpr.cs))] rfl rfl rfl ?_
       refine AW2_exit ?_
       refine thenQ2_exit ?_
       have hz := some_elim H
       subst hz
       exact ⟨rfl, rfl⟩
     ·rcases o'4 with y'5 | y'6
      ·obtain ⟨rfl, hs⟩ := hs
       refine ⟨by simp, ?_⟩
       have hz := some_elim H
       subst hz
       exact ⟨rfl, hs.1, hs.2⟩
      ·obtain ⟨rfl, rfl⟩ := hs
       refine ⟨by simp, ?_⟩
       refine blockQ2_exit ?_
       refine AW2_reg [0, 1] rfl ?_
       refine rp rfl rfl (p_move rfl rfl) ?_
       refine rp rfl rfl (p_asg rfl rfl) ?_
       refine rs [(3, .c (.own 6 y'6.length 7)), (4, .i (w64 (all4_0 + (row3_0.length : Int)))), (5, .i deep5_0)] [(6, .pure (y'6.flatMap GExpr.cs))] rfl rfl rfl ?_
       refine RunW_gho (Gho_ren 6 3 rfl rfl rfl rfl rfl) ?_
       refine rz [(3, .c (.own 3 y'6.length 7)), (4, .i (w64 (all4_0 + (row3_0.length : Int)))), (5, .i deep5_0)] [(3, .pure (y'6.flatMap GExpr.cs))] rfl rfl rfl ?_
       refine AW2_reg [0, 1, 2] rfl ?_
       refine rp rfl rfl (p_move rfl rfl) ?_
       refine rp rfl rfl (p_bin rfl rfl rfl rfl) ?_
       refine rp rfl rfl (p_asg rfl rfl) ?_
       refine rz [(3, .c (.own 3 y'6.length 7)), (4, .i (w64 (all4_0 + (row3_0.length : Int)))), (5, .i (w64 (deep5_0 + (1 : Int))))] [(3, .pure (y'6.flatMap GExpr.cs))] rfl rfl rfl ?_
       have hz := some_elim H
       subst hz
       exact ⟨rfl, rfl⟩
  ·replace H := ite_else h1 H
   refine as2 [] [] rfl rfl rfl ?_
   refine AW2_exit ?_
   refine thenQ2_exit ?_
   have hz := some_elim H
   subst hz
   exact ⟨rfl, rfl⟩
 ·rcases o'10 with y'11 | y'12
  ·obtain ⟨rfl, hs⟩ := hs
   refine ⟨by simp, ?_⟩
   have hz := some_elim H
   subst hz
   exact ⟨hs.1, hs.2⟩
  ·obtain ⟨rfl, rfl⟩ := hs
   refine ⟨by simp, ?_⟩
   refine blockQ2_exit ?_
   refine sg [0] rfl ?_
   refine rp rfl rfl (p_asg rfl rfl) ?_
   refine rz [(2, .b true)] [] rfl rfl rfl ?_
   refine AW2_ret ?_
   have hz := some_elim H
   subst hz
   exact ⟨⟨res_tmp (.same _), trivial⟩, trivial⟩

/-! chirographref.badReal -/
noncomputable def g_ref_badReal (b0 : UInt64) : Option (Bool) :=
  some (decide ((b0 = (9223372036854775808 : UInt64)) ∨ ((18437736874454810624 : UInt64) < shl_u64 b0 1)))
set_option maxHeartbeats 4000000 in
set_option maxRecDepth 100000 in
theorem g_ref_badReal_ac {b0 : UInt64} {r : Bool} (H : g_ref_badReal b0 = some r) : ACp Tryd.prog 25 [(AV.u64 b0)] (AV.bool r) := by
 refine ACp_of (AC2_of_body (vs := [.b r]) Tryd.func25 rfl rfl (Nat.le_of_ble_eq_true rfl) rfl ?_) (fun _ => .same _)
 unfold g_ref_badReal at H
 refine as2 [(0, .p (AV.u64 b0))] [] rfl rfl rfl ?_
 refine sg [0] rfl ?_
 refine rp rfl rfl (p_asg rfl rfl) ?_
 refine rz [(0, .p (AV.u64 b0))] [] rfl rfl rfl ?_
 refine AW2_seq ?_
 refine AW2_mid (⟨[(2, .b (decide ((b0 = (9223372036854775808 : UInt64)) ∨ ((18437736874454810624 : UInt64) < shl_u64 b0 1))))], [], 10⟩ : TS) ?_ ?_
 ·refine AW2_reg [0, 1, 2, 3, 4, 5, 6, 7] rfl ?_
  refine rp rfl rfl (p_move rfl rfl) ?_
  refine rp rfl rfl (p_u64eq (a := b0) (b := (9223372036854775808 : UInt64)) rfl rfl rfl) ?_
  refine rp rfl rfl (p_move rfl rfl) ?_
  refine (Classical.em (b0 = (9223372036854775808 : UInt64))).elim (fun h1 => ?_) (fun h1 => ?_)
  ·refine r_off rfl rfl rfl rfl (decide_eq_true h1) rfl rfl ?_
   refine r_off rfl rfl rfl rfl (decide_eq_true h1) rfl rfl ?_
   refine r_off rfl rfl rfl rfl (decide_eq_true h1) rfl rfl ?_
   refine rp rfl rfl (p_pkt rfl rfl (decide_eq_true h1) (tb (decide_eq_true (p := (b0 = (9223372036854775808 : UInt64)) ∨ ((18437736874454810624 : UInt64) < shl_u64 b0 1)) (Or.inl h1)).symm)) ?_
   refine rp rfl rfl (p_asg rfl rfl) ?_
   refine rs [(2, .b (decide ((b0 = (9223372036854775808 : UInt64)) ∨ ((18437736874454810624 : UInt64) < shl_u64 b0 1))))] [] rfl rfl rfl ?_
   exact RunW_nil rfl
  ·refine r_on rfl rfl rfl rfl (decide_eq_false h1) rfl (PureD.opD (p_move rfl rfl)) ?_
   refine r_on rfl rfl rfl rfl (decide_eq_false h1) rfl (PureD.opD (p_u64shl (n := 1) rfl rfl rfl rfl)) ?_
   refine r_on rfl rfl rfl rfl (decide_eq_false h1) rfl (PureD.opD (p_u64gt (a := shl_u64 b0 1) (b := (18437736874454810624 : UInt64)) rfl rfl rfl)) ?_
   refine rp rfl rfl (p_pkf rfl rfl (decide_eq_false h1) (tb ((or_l (p := b0 = (9223372036854775808 : UInt64)) (q := (18437736874454810624 : UInt64) < shl_u64 b0 1) h1)))) ?_
   refine rp rfl rfl (p_asg rfl rfl) ?_
   refine rs [(2, .b (decide ((b0 = (9223372036854775808 : UInt64)) ∨ ((18437736874454810624 : UInt64) < shl_u64 b0 1))))] [] rfl rfl rfl ?_
   exact RunW_nil rfl
 ·refine AW2_ret ?_
  have hz := some_elim H
  subst hz
  exact ⟨⟨res_tmp (.same _), trivial⟩, trivial⟩

/-! chirographref.ValueFault -/
noncomputable def g_ref_ValueFault (v0 : GValue) : Option (Int) :=
  (show Option (Int ⊕ GValue) from (if v0.Kind = (0 : Int) then some (.inr ({ GValue.zero with Kind := v0.Kind })) else ((if v0.Kind = (1 : Int) then some (decide (v0.Kind = (1 : Int))) else some (decide (v0.Kind = (2 : Int))))).bind fun j'2 => (if j'2 = true then some (.inr ({ { GValue.zero with Kind := v0.Kind } with Int_ := v0.Int_ })) else (if v0.Kind = (3 : Int) then some (.inr ({ { GValue.zero with Kind := v0.Kind } with Bits := v0.Bits })) else (if v0.Kind = (4 : Int) then some (.inr ({ { GValue.zero with Kind := v0.Kind } with Text := v0.Text })) else some (.inl (2 : Int))))))).bind fun o'12 => match o'12 with | .inl y'3 => some y'3 | .inr j'1 => (if (v0.Text.length : Int) > (40 : Int) then some (1 : Int) else ((if v0 ≠ j'1 then some true else (if v0.Kind = (1 : Int) then (if (1 : UInt64) < UInt64.ofInt v0.Int_ then some true else (if v0.Kind = (3 : Int) then (g_ref_badReal v0.Bits).bind fun r'5 => (if r'5 = true then some true else (g_utf8_ValidString v0.Text).bind fun r'6 => some (!r'6)) else (g_utf8_ValidString v0.Text).bind fun r'7 => some (!r'7))) else (if v0.Kind = (3 : Int) then (g_ref_badReal v0.Bits).bind fun r'8 => (if r'8 = true then some true else (g_utf8_ValidString v0.Text).bind fun r'9 => some (!r'9)) else (g_utf8_ValidString v0.Text).bind fun r'10 => some (!r'10))))).bind fun g'11 => (if g'11 = true then some (3 : Int) else some (0 : Int)))
set_option maxHeartbeats 4000000 in
set_option maxRecDepth 100000 in
theorem g_ref_ValueFault_ac {v0 : GValue} {r : Int} (H : g_ref_ValueFault v0 = some r) : ACp Tryd.prog 20 [(.agg (GValue.cs v0))] (AV.int r) := by
 refine ACp_of (AC2_of_body (vs := [.i r]) Tryd.func20 rfl rfl (Nat.le_of_ble_eq_true rfl) rfl ?_) (fun _ => .same _)
 unfold g_ref_ValueFault at H
 refine as2 [(0, .g (GValue.cs v0))] [] rfl rfl rfl ?_
 refine sg [0, 1] rfl ?_
 refine r_op rfl rfl (MakeD.opD (n_box 1 rfl rfl) rfl rfl rfl rfl) ?_
 refine rp rfl rfl (p_asg rfl rfl) ?_
 refine rz [(1, .q 1 (0))] [(1, .pure (GValue.cs v0))] rfl rfl rfl ?_
 refine sg [0, 1, 2, 3, 4] rfl ?_
 refine rp rfl rfl (u_fa rfl rfl Tryd.underlying24 rfl in_3 (Nat.succ_ne_zero _) rfl rfl (ne_of_lt (n := 0) (Nat.lt_of_lt_of_eq (by decide) (Eq.symm (GValue.len v0))))) ?_
 refine rp rfl rfl (u_ld rfl rfl Tryd.underlying3 rfl rfl ((Sub.refl _).trans (GValue.sub0 v0))) ?_
 refine rp rfl rfl (u_bld rfl in_24 one_24 zc_24 pl_24 rfl (af_cons rfl rfl (GValue.upd0 GValue.zero v0.Kind) rfl)) ?_
 refine r_op rfl rfl (MakeD.opD (u_alloc 3 rfl in_24 one_24 zc_24) rfl rfl rfl rfl) ?_
 refine r_op rfl rfl (u_st rfl rfl rfl rfl rfl in_24 (GValue.len ((GValue.w0 GValue.zero v0.Kind))) (ne_of_lt (n := 0) (Nat.lt_of_lt_of_eq (by decide) (Eq.symm (GValue.len GValue.zero)))) (Upd.refl ((GValue.len ((GValue.w0 GValue.zero v0.Kind))).trans (GValue.len GValue.zero).symm))) ?_
 refine rz [(1, .q 1 (0)), (3, .q 3 (0))] [(1, .pure (GValue.cs v0)), (3, .pure (GValue.cs ((GValue.w0 GValue.zero v0.Kind))))] rfl rfl rfl ?_
 refine AW2_seq ?_
 refine bindK H fun o'12 h1 H => ?_
 refine AW2_join (fun j'1 : GValue => (⟨[(1, .q 1 (0)), (3, .q 3 (0))], [(1, .pure (GValue.cs v0)), (3, .pure (GValue.cs j'1))], 61⟩ : TS)) (fun r e s' => e = Go.Exit.ret ∧ ResAll Tryd.prog s' [ResultVar.tmp 2] [.i r] ∧ HFits s' []) (x := o'12) ?_ (fun j'1 hy => ?_) (fun y'3 e s' hy hs => ?_)
 ·clear H
  have H := h1
  clear h1
  refine sg [0, 1] rfl ?_
  refine rp rfl rfl (u_fa rfl rfl Tryd.underlying24 rfl in_3 (Nat.succ_ne_zero _) rfl rfl (ne_of_lt (n := 0) (Nat.lt_of_lt_of_eq (by decide) (Eq.symm (GValue.len v0))))) ?_
  refine rp rfl rfl (u_ld rfl rfl Tryd.underlying3 rfl rfl ((Sub.refl _).trans (GValue.sub0 v0))) ?_
  refine rz [(1, .q 1 (0)), (3, .q 3 (0)), (8, .i v0.Kind)] [(1, .pure (GValue.cs v0)), (3, .pure (GValue.cs ((GValue.w0 GValue.zero v0.Kind))))] rfl rfl rfl ?_
  refine AW2_block ?_
  refine sg [0, 1] rfl ?_
  refine rp rfl rfl (p_ieq rfl rfl rfl) ?_
  refine rp rfl rfl (p_asg rfl rfl) ?_
  refine rz [(1, .q 1 (0)), (3, .q 3 (0)), (8, .i v0.Kind), (9, .b (decide (v0.Kind = (0 : Int))))] [(1, .pure (GValue.cs v0)), (3, .pure (GValue.cs ((GValue.w0 GValue.zero v0.Kind))))] rfl rfl rfl ?_
  refine AW2_if (p := v0.Kind = (0 : Int)) rfl (fun h2 => ?_) (fun h2 => ?_)
  ·replace H := ite_then h2 H
   refine as2 [(1, .q 1 (0)), (3, .q 3 (0))] [(1, .pure (GValue.cs v0)), (3, .pure (GValue.cs ((GValue.w0 GValue.zero v0.Kind))))] rfl rfl rfl ?_
   refine AW2_skip ?_
   have hz := some_elim H
   subst hz
   exact ⟨rfl, rfl⟩
  ·replace H := ite_else h2 H
   refine AW2_seq ?_
   refine bindK H fun j'2 h3 H => ?_
   refine AW2_mid (⟨[(1, .q 1 (0)), (3, .q 3 (0)), (8, .i v0.Kind), (11, .b j'2)], [(1, .pure (GValue.cs v0)), (3, .pure (GValue.cs ((GValue.w0 GValue.zero v0.Kind))))], 61⟩ : TS) ?_ ?_
   ·clear H
    have H := h3
    clear h3
    refine sg [0, 1] rfl ?_
    refine rp rfl rfl (p_ieq rfl rfl rfl) ?_
    refine rp rfl rfl (p_asg rfl rfl) ?_
    refine rz [(1, .q 1 (0)), (3, .q 3 (0)), (8, .i v0.Kind), (11, .b (decide (v0.Kind = (1 : Int))))] [(1, .pure (GValue.cs v0)), (3, .pure (GValue.cs ((GValue.w0 GValue.zero v0.Kind))))] rfl rfl rfl ?_
    refine AW2_if (p := v0.Kind = (1 : Int)) rfl (fun h4 => ?_) (fun h4 => ?_)
    ·replace H := ite_then h4 H
     refine AW2_skip ?_
     have hz := some_elim H
     subst hz
     exact rfl
    ·replace H := ite_else h4 H
     refine AW2_reg [0, 1] rfl ?_
     refine rp rfl rfl (p_ieq rfl rfl rfl) ?_
     refine rp rfl rfl (p_asg rfl rfl) ?_
     refine rz [(1, .q 1 (0)), (3, .q 3 (0)), (8, .i v0.Kind), (11, .b (decide (v0.Kind = (2 : Int))))] [(1, .pure (GValue.cs v0)), (3, .pure (GValue.cs ((GValue.w0 GValue.zero v0.Kind))))] rfl rfl rfl ?_
     have hz := some_elim H
     subst hz
     exact rfl
   ·refine AW2_cond rfl (fun h5 => ?_) (fun h5 => ?_)
    ·replace H := ite_then h5 H
     refine AW2_reg [0, 1, 2, 3] rfl ?_
     refine rp rfl rfl (u_fa rfl rfl Tryd.underlying24 rfl in_3 (Nat.succ_ne_zero _) rfl rfl (ne_of_lt (n := 0) (Nat.lt_of_lt_of_eq (by decide) (Eq.symm (GValue.len v0))))) ?_
     refine rp rfl rfl (u_ld rfl rfl Tryd.underlying3 rfl rfl ((Sub.refl _).trans (GValue.sub1 v0))) ?_
     refine rp rfl rfl (u_fa rfl rfl Tryd.underlying24 rfl in_3 (Nat.succ_ne_zero _) rfl rfl (ne_of_lt (n := 0) (Nat.lt_of_lt_of_eq (by decide) (Eq.symm (GValue.len ((GValue.w0 GValue.zero v0.Kind))))))) ?_
     refine r_op rfl rfl (u_st rfl rfl rfl rfl rfl in_3 rfl (ne_of_lt (n := 0) (Nat.lt_of_lt_of_eq (by decide) (Eq.symm (GValue.len ((GValue.w0 GValue.zero v0.Kind)))))) (Upd.trans (Sub.refl _) (GValue.upd1 ((GValue.w0 GValue.zero v0.Kind)) v0.Int_) (Upd.refl ((GValue.len ((GValue.w1 (GValue.w0 GValue.zero v0.Kind) v0.Int_))).trans (GValue.len ((GValue.w0 GValue.zero v0.Kind))).symm)))) ?_
     refine rz [(1, .q 1 (0)), (3, .q 3 (0))] [(1, .pure (GValue.cs v0)), (3, .pure (GValue.cs ((GValue.w1 (GValue.w0 GValue.zero v0.Kind) v0.Int_))))] rfl rfl rfl ?_
     have hz := some_elim H
     subst hz
     exact ⟨rfl, rfl⟩
    ·replace H := ite_else (ne_true h5) H
     refine sg [0, 1] rfl ?_
     refine rp rfl rfl (p_ieq rfl rfl rfl) ?_
     refine rp rfl rfl (p_asg rfl rfl) ?_
     refine rz [(1, .q 1 (0)), (3, .q 3 (0)), (8, .i v0.Kind), (17, .b (decide (v0.Kind = (3 : Int))))] [(1, .pure (GValue.cs v0)), (3, .pure (GValue.cs ((GValue.w0 GValue.zero v0.Kind))))] rfl rfl rfl ?_
     refine AW2_if (p := v0.Kind = (3 : Int)) rfl (fun h6 => ?_) (fun h6 => ?_)
     ·replace H := ite_then h6 H
      refine AW2_reg [0, 1, 2, 3] rfl ?_
      refine rp rfl rfl (u_fa rfl rfl Tryd.underlying24 rfl in_22 (Nat.succ_ne_zero _) rfl rfl (ne_of_lt (n := 0) (Nat.lt_of_lt_of_eq (by decide) (Eq.symm (GValue.len v0))))) ?_
      refine rp rfl rfl (u_ld rfl rfl Tryd.underlying22 rfl rfl ((Sub.refl _).trans (GValue.sub2 v0))) ?_
      refine rp rfl rfl (u_fa rfl rfl Tryd.underlying24 rfl in_22 (Nat.succ_ne_zero _) rfl rfl (ne_of_lt (n := 0) (Nat.lt_of_lt_of_eq (by decide) (Eq.symm (GValue.len ((GValue.w0 GValue.zero v0.Kind))))))) ?_
      refine r_op rfl rfl (u_st rfl rfl rfl rfl rfl in_22 rfl (ne_of_lt (n := 0) (Nat.lt_of_lt_of_eq (by decide) (Eq.symm (GValue.len ((GValue.w0 GValue.zero v0.Kind)))))) (Upd.trans (Sub.refl _) (GValue.upd2 ((GValue.w0 GValue.zero v0.Kind)) v0.Bits) (Upd.refl ((GValue.len ((GValue.w2 (GValue.w0 GValue.zero v0.Kind) v0.Bits))).trans (GValue.len ((GValue.w0 GValue.zero v0.Kind))).symm)))) ?_
      refine rz [(1, .q 1 (0)), (3, .q 3 (0))] [(1, .pure (GValue.cs v0)), (3, .pure (GValue.cs ((GValue.w2 (GValue.w0 GValue.zero v0.Kind) v0.Bits))))] rfl rfl rfl ?_
      have hz := some_elim H
      subst hz
      exact ⟨rfl, rfl⟩
     ·replace H := ite_else h6 H
      refine sg [0, 1] rfl ?_
      refine rp rfl rfl (p_ieq rfl rfl rfl) ?_
      refine rp rfl rfl (p_asg rfl rfl) ?_
      refine rz [(1, .q 1 (0)), (3, .q 3 (0)), (22, .b (decide (v0.Kind = (4 : Int))))] [(1, .pure (GValue.cs v0)), (3, .pure (GValue.cs ((GValue.w0 GValue.zero v0.Kind))))] rfl rfl rfl ?_
      refine AW2_if (p := v0.Kind = (4 : Int)) rfl (fun h7 => ?_) (fun h7 => ?_)
      ·replace H := ite_then h7 H
       refine AW2_reg [0, 1, 2, 3] rfl ?_
       refine rp rfl rfl (u_fa rfl rfl Tryd.underlying24 rfl in_9 (Nat.succ_ne_zero _) rfl rfl (ne_of_lt (n := 0) (Nat.lt_of_lt_of_eq (by decide) (Eq.symm (GValue.len v0))))) ?_
       refine rp rfl rfl (u_ld rfl rfl Tryd.underlying9 rfl rfl ((Sub.refl _).trans (GValue.sub3 v0))) ?_
       refine rp rfl rfl (u_fa rfl rfl Tryd.underlying24 rfl in_9 (Nat.succ_ne_zero _) rfl rfl (ne_of_lt (n := 0) (Nat.lt_of_lt_of_eq (by decide) (Eq.symm (GValue.len ((GValue.w0 GValue.zero v0.Kind))))))) ?_
       refine r_op rfl rfl (u_st rfl rfl rfl rfl rfl in_9 rfl (ne_of_lt (n := 0) (Nat.lt_of_lt_of_eq (by decide) (Eq.symm (GValue.len ((GValue.w0 GValue.zero v0.Kind)))))) (Upd.trans (Sub.refl _) (GValue.upd3 ((GValue.w0 GValue.zero v0.Kind)) v0.Text) (Upd.refl ((GValue.len ((GValue.w3 (GValue.w0 GValue.zero v0.Kind) v0.Text))).trans (GValue.len ((GValue.w0 GValue.zero v0.Kind))).symm)))) ?_
       refine rz [(1, .q 1 (0)), (3, .q 3 (0))] [(1, .pure (GValue.cs v0)), (3, .pure (GValue.cs ((GValue.w3 (GValue.w0 GValue.zero v0.Kind) v0.Text))))] rfl rfl rfl ?_
       have hz := some_elim H
       subst hz
       exact ⟨rfl, rfl⟩
      ·replace H := ite_else h7 H
       refine sg [0] rfl ?_
       refine rp rfl rfl (p_asg rfl rfl) ?_
       refine rz [(2, .i (2 : Int))] [] rfl rfl rfl ?_
       refine AW2_ret ?_
       have hz := some_elim H
       subst hz
       exact ⟨rfl, ⟨res_tmp (.same _), trivial⟩, trivial⟩
 ·subst hy
  refine AW2_seq ?_
  refine sg [0, 1, 2, 3] rfl ?_
  refine rp rfl rfl (u_fa rfl rfl Tryd.underlying24 rfl in_9 (Nat.succ_ne_zero _) rfl rfl (ne_of_lt (n := 0) (Nat.lt_of_lt_of_eq (by decide) (Eq.symm (GValue.len v0))))) ?_
  refine rp rfl rfl (u_ld rfl rfl Tryd.underlying9 rfl rfl ((Sub.refl _).trans (GValue.sub3 v0))) ?_
  refine rp rfl rfl (p_lent rfl Tryd.underlying9 rfl) ?_
  refine rp rfl rfl (p_bin rfl rfl rfl rfl) ?_
  refine rz [(1, .q 1 (0)), (3, .q 3 (0)), (30, .b (decide ((v0.Text.length : Int) > (40 : Int))))] [(1, .pure (GValue.cs v0)), (3, .pure (GValue.cs j'1))] rfl rfl rfl ?_
  refine AW2_if (p := (v0.Text.length : Int) > (40 : Int)) rfl (fun h8 => ?_) (fun h8 => ?_)
  ·replace H := ite_then h8 H
   refine sg [0] rfl ?_
   refine rp rfl rfl (p_asg rfl rfl) ?_
   refine rz [(2, .i (1 : Int))] [] rfl rfl rfl ?_
   refine AW2_ret ?_
   have hz := some_elim H
   subst hz
   exact ⟨⟨res_tmp (.same _), trivial⟩, trivial⟩
  ·replace H := ite_else h8 H
   refine as2 [(1, .q 1 (0)), (3, .q 3 (0))] [(1, .pure (GValue.cs v0)), (3, .pure (GValue.cs j'1))] rfl rfl rfl ?_
   refine AW2_skip ?_
   refine AW2_seq ?_
   refine AW2_seq ?_
   refine bindK H fun g'11 h23 H => ?_
   refine AW2_mid (⟨[(60, .b g'11)], [], 61⟩ : TS) ?_ ?_
   ·clear H
    have H := h23
    clear h23
    refine AW2_reg [0, 1, 2, 3, 4, 5, 6, 7, 8, 9, 10, 11, 12, 13, 14, 15, 16, 17, 18, 19, 20, 21, 22, 23, 24, 25, 26, 27, 28, 29] rfl ?_
    refine rp rfl rfl (u_lda rfl rfl Tryd.underlying24 rfl in_24 rfl (Nat.succ_pos _) (Sub.refl _) (GValue.len v0)) ?_
    refine rp rfl rfl (u_lda rfl rfl Tryd.underlying24 rfl in_24 rfl (Nat.succ_pos _) (Sub.refl _) (GValue.len j'1)) ?_
    refine rp rfl rfl (p_nea (a := v0) (b := j'1) rfl eq_24 rfl (by kernel_rfl) rfl rfl) ?_
    refine rp rfl rfl (p_move rfl rfl) ?_
    refine (Classical.em (v0 ≠ j'1)).elim (fun h10 => ?_) (fun h10 => ?_)
    ·replace H := ite_then h10 H
     refine r_off rfl rfl rfl rfl (decide_eq_true h10) rfl rfl ?_
     refine r_off rfl rfl rfl rfl (decide_eq_true h10) rfl rfl ?_
     refine r_off rfl rfl rfl rfl (decide_eq_true h10) rfl rfl ?_
     refine r_off rfl rfl rfl rfl (decide_eq_true h10) rfl rfl ?_
     refine r_off2 rfl rfl rfl rfl rfl rfl ?_
     refine r_off2 rfl rfl rfl rfl rfl rfl ?_
     refine r_off2 rfl rfl rfl rfl rfl rfl ?_
     refine r_off2 rfl rfl rfl rfl rfl rfl ?_
     refine r_off rfl rfl rfl rfl (decide_eq_true h10) rfl rfl ?_
     refine rp rfl rfl (p_pkt rfl rfl (decide_eq_true h10) (.same _)) ?_
     refine rp rfl rfl (p_move rfl rfl) ?_
     refine r_off rfl rfl rfl rfl rfl rfl rfl ?_
     refine r_off rfl rfl rfl rfl rfl rfl rfl ?_
     refine r_off rfl rfl rfl rfl rfl rfl rfl ?_
     refine r_off rfl rfl rfl rfl rfl rfl rfl ?_
     refine r_off2 rfl rfl rfl rfl rfl rfl ?_
     refine r_off2 rfl rfl rfl rfl rfl rfl ?_
     refine r_off2 rfl rfl rfl rfl rfl rfl ?_
     refine r_off rfl rfl rfl rfl rfl rfl rfl ?_
     refine rp rfl rfl (p_pkt rfl rfl rfl (.same _)) ?_
     refine rp rfl rfl (p_move rfl rfl) ?_
     refine r_off rfl rfl rfl rfl rfl rfl rfl ?_
     refine r_off rfl rfl rfl rfl rfl rfl rfl ?_
     refine r_off rfl rfl rfl rfl rfl rfl rfl ?_
     refine r_off rfl rfl rfl rfl rfl rfl rfl ?_
     refine rp rfl rfl (p_pkt rfl rfl rfl (.same _)) ?_
     refine rs [(60, .b true)] [] rfl rfl rfl ?_
     have hz := some_elim H
     subst hz
     exact RunW_nil rfl
    ·replace H := ite_else h10 H
     refine r_on rfl rfl rfl rfl (decide_eq_false h10) rfl (PureD.opD (u_fa rfl rfl Tryd.underlying24 rfl in_3 (Nat.succ_ne_zero _) rfl rfl (ne_of_lt (n := 0) (Nat.lt_of_lt_of_eq (by decide) (Eq.symm (GValue.len v0)))))) ?_
     refine r_on rfl rfl rfl rfl (decide_eq_false h10) rfl (PureD.opD (u_ld rfl rfl Tryd.underlying3 rfl rfl ((Sub.refl _).trans (GValue.sub0 v0)))) ?_
     refine r_on rfl rfl rfl rfl (decide_eq_false h10) rfl (PureD.opD (p_ieq rfl rfl rfl)) ?_
     refine r_on rfl rfl rfl rfl (decide_eq_false h10) rfl (PureD.opD (p_move rfl rfl)) ?_
     refine (Classical.em (v0.Kind = (1 : Int))).elim (fun h11 => ?_) (fun h11 => ?_)
     ·replace H := ite_then h11 H
      refine r_on rfl rfl rfl rfl (decide_eq_true h11) rfl (PureD.opD (u_fa rfl rfl Tryd.underlying24 rfl in_3 (Nat.succ_ne_zero _) rfl rfl (ne_of_lt (n := 0) (Nat.lt_of_lt_of_eq (by decide) (Eq.symm (GValue.len v0)))))) ?_
      refine r_on rfl rfl rfl rfl (decide_eq_true h11) rfl (PureD.opD (u_ld rfl rfl Tryd.underlying3 rfl rfl ((Sub.refl _).trans (GValue.sub1 v0)))) ?_
      refine r_on rfl rfl rfl rfl (decide_eq_true h11) rfl (PureD.opD (p_i_u64 rfl Tryd.underlying3 Tryd.underlying50 rfl)) ?_
      refine r_on rfl rfl rfl rfl (decide_eq_true h11) rfl (PureD.opD (p_u64gt (a := UInt64.ofInt v0.Int_) (b := (1 : UInt64)) rfl rfl rfl)) ?_
      refine r_on rfl rfl rfl rfl (decide_eq_false h10) rfl (PureD.opD (p_pkt rfl rfl (decide_eq_true h11) (.same _))) ?_
      refine rp rfl rfl (p_pkf rfl rfl (decide_eq_false h10) (.same _)) ?_
      refine rp rfl rfl (p_move rfl rfl) ?_
      refine (Classical.em ((1 : UInt64) < UInt64.ofInt v0.Int_)).elim (fun h12 => ?_) (fun h12 => ?_)
      ·replace H := ite_then h12 H
       refine r_off rfl rfl rfl rfl (decide_eq_true h12) rfl rfl ?_
       refine r_off rfl rfl rfl rfl (decide_eq_true h12) rfl rfl ?_
       refine r_off rfl rfl rfl rfl (decide_eq_true h12) rfl rfl ?_
       refine r_off rfl rfl rfl rfl (decide_eq_true h12) rfl rfl ?_
       refine r_off2 rfl rfl rfl rfl rfl rfl ?_
       refine r_off2 rfl rfl rfl rfl rfl rfl ?_
       refine r_off2 rfl rfl rfl rfl rfl rfl ?_
       refine r_off rfl rfl rfl rfl (decide_eq_true h12) rfl rfl ?_
       refine rp rfl rfl (p_pkt rfl rfl (decide_eq_true h12) (.same _)) ?_
       refine rp rfl rfl (p_move rfl rfl) ?_
       refine r_off rfl rfl rfl rfl rfl rfl rfl ?_
       refine r_off rfl rfl rfl rfl rfl rfl rfl ?_
       refine r_off rfl rfl rfl rfl rfl rfl rfl ?_
       refine r_off rfl rfl rfl rfl rfl rfl rfl ?_
       refine rp rfl rfl (p_pkt rfl rfl rfl (.same _)) ?_
       refine rs [(60, .b true)] [] rfl rfl rfl ?_
       have hz := some_elim H
       subst hz
       exact RunW_nil rfl
      ·replace H := ite_else h12 H
       refine r_on rfl rfl rfl rfl (decide_eq_false h12) rfl (PureD.opD (u_fa rfl rfl Tryd.underlying24 rfl in_3 (Nat.succ_ne_zero _) rfl rfl (ne_of_lt (n := 0) (Nat.lt_of_lt_of_eq (by decide) (Eq.symm (GValue.len v0)))))) ?_
       refine r_on rfl rfl rfl rfl (decide_eq_false h12) rfl (PureD.opD (u_ld rfl rfl Tryd.underlying3 rfl rfl ((Sub.refl _).trans (GValue.sub0 v0)))) ?_
       refine r_on rfl rfl rfl rfl (decide_eq_false h12) rfl (PureD.opD (p_ieq rfl rfl rfl)) ?_
       refine r_on rfl rfl rfl rfl (decide_eq_false h12) rfl (PureD.opD (p_move rfl rfl)) ?_
       refine (Classical.em (v0.Kind = (3 : Int))).elim (fun h13 => ?_) (fun h13 => ?_)
       ·replace H := ite_then h13 H
        refine r_on rfl rfl rfl rfl (decide_eq_true h13) rfl (PureD.opD (u_fa rfl rfl Tryd.underlying24 rfl in_22 (Nat.succ_ne_zero _) rfl rfl (ne_of_lt (n := 0) (Nat.lt_of_lt_of_eq (by decide) (Eq.symm (GValue.len v0)))))) ?_
        refine r_on rfl rfl rfl rfl (decide_eq_true h13) rfl (PureD.opD (u_ld rfl rfl Tryd.underlying22 rfl rfl ((Sub.refl _).trans (GValue.sub2 v0)))) ?_
        refine bindK H fun r'5 h14 H => ?_
        refine r_on rfl rfl rfl rfl (decide_eq_true h13) rfl (PureD.opD (p_callp rfl rfl rfl Tryd.func25 rfl rfl (g_ref_badReal_ac h14) ⟨rfl, trivial⟩)) ?_
        refine r_on rfl rfl rfl rfl (decide_eq_false h12) rfl (PureD.opD (p_pkt rfl rfl (decide_eq_true h13) (.same _))) ?_
        refine rp rfl rfl (p_pkf rfl rfl (decide_eq_false h12) (.same _)) ?_
        refine rp rfl rfl (p_move rfl rfl) ?_
        refine (Classical.em (r'5 = true)).elim (fun h15 => ?_) (fun h15 => ?_)
        ·replace H := ite_then h15 H
         refine r_off rfl rfl rfl rfl h15 rfl rfl ?_
         refine r_off rfl rfl rfl rfl h15 rfl rfl ?_
         refine r_off rfl rfl rfl rfl h15 rfl rfl ?_
         refine r_off rfl rfl rfl rfl h15 rfl rfl ?_
         refine rp rfl rfl (p_pkt rfl rfl h15 (.same _)) ?_
         refine rs [(60, .b true)] [] rfl rfl rfl ?_
         have hz := some_elim H
         subst hz
         exact RunW_nil rfl
        ·replace H := ite_else h15 H
         refine r_on rfl rfl rfl rfl (bfalse h15) rfl (PureD.opD (u_fa rfl rfl Tryd.underlying24 rfl in_9 (Nat.succ_ne_zero _) rfl rfl (ne_of_lt (n := 0) (Nat.lt_of_lt_of_eq (by decide) (Eq.symm (GValue.len v0)))))) ?_
         refine r_on rfl rfl rfl rfl (bfalse h15) rfl (PureD.opD (u_ld rfl rfl Tryd.underlying9 rfl rfl ((Sub.refl _).trans (GValue.sub3 v0)))) ?_
         refine bindK H fun r'6 h16 H => ?_
         refine r_on rfl rfl rfl rfl (bfalse h15) rfl (PureD.opD (p_callp rfl rfl rfl Tryd.func26 rfl rfl (g_utf8_ValidString_ac h16) ⟨rfl, trivial⟩)) ?_
         refine r_on rfl rfl rfl rfl (bfalse h15) rfl (PureD.opD (p_not rfl rfl)) ?_
         refine rp rfl rfl (p_pkf rfl rfl (bfalse h15) (.same _)) ?_
         refine rs [(60, .b (!r'6))] [] rfl rfl rfl ?_
         have hz := some_elim H
         subst hz
         exact RunW_nil rfl
       ·replace H := ite_else h13 H
        refine r_off rfl rfl rfl rfl (decide_eq_false h13) rfl rfl ?_
        refine r_off rfl rfl rfl rfl (decide_eq_false h13) rfl rfl ?_
        refine r_off rfl rfl rfl rfl (decide_eq_false h13) rfl rfl ?_
        refine r_on rfl rfl rfl rfl (decide_eq_false h12) rfl (PureD.opD (p_pkf rfl rfl (decide_eq_false h13) (.same _))) ?_
        refine rp rfl rfl (p_pkf rfl rfl (decide_eq_false h12) (.same _)) ?_
        refine rp rfl rfl (p_move rfl rfl) ?_
        refine r_on rfl rfl rfl rfl (bfalse (by decide)) rfl (PureD.opD (u_fa rfl rfl Tryd.underlying24 rfl in_9 (Nat.succ_ne_zero _) rfl rfl (ne_of_lt (n := 0) (Nat.lt_of_lt_of_eq (by decide) (Eq.symm (GValue.len v0)))))) ?_
        refine r_on rfl rfl rfl rfl (bfalse (by decide)) rfl (PureD.opD (u_ld rfl rfl Tryd.underlying9 rfl rfl ((Sub.refl _).trans (GValue.sub3 v0)))) ?_
        refine bindK H fun r'7 h17 H => ?_
        refine r_on rfl rfl rfl rfl (bfalse (by decide)) rfl (PureD.opD (p_callp rfl rfl rfl Tryd.func26 rfl rfl (g_utf8_ValidString_ac h17) ⟨rfl, trivial⟩)) ?_
        refine r_on rfl rfl rfl rfl (bfalse (by decide)) rfl (PureD.opD (p_not rfl rfl)) ?_
        refine rp rfl rfl (p_pkf rfl rfl (bfalse (by decide)) (.same _)) ?_
        refine rs [(60, .b (!r'7))] [] rfl rfl rfl ?_
        have hz := some_elim H
        subst hz
        exact RunW_nil rfl
     ·replace H := ite_else h11 H
      refine r_off rfl rfl rfl rfl (decide_eq_false h11) rfl rfl ?_
      refine r_off rfl rfl rfl rfl (decide_eq_false h11) rfl rfl ?_
      refine r_off rfl rfl rfl rfl (decide_eq_false h11) rfl rfl ?_
      refine r_off rfl rfl rfl rfl (decide_eq_false h11) rfl rfl ?_
      refine r_on rfl rfl rfl rfl (decide_eq_false h10) rfl (PureD.opD (p_pkf rfl rfl (decide_eq_false h11) (.same _))) ?_
      refine rp rfl rfl (p_pkf rfl rfl (decide_eq_false h10) (.same _)) ?_
      refine rp rfl rfl (p_move rfl rfl) ?_
      refine r_on rfl rfl rfl rfl (bfalse (by decide)) rfl (PureD.opD (u_fa rfl rfl Tryd.underlying24 rfl in_3 (Nat.succ_ne_zero _) rfl rfl (ne_of_lt (n := 0) (Nat.lt_of_lt_of_eq (by decide) (Eq.symm (GValue.len v0)))))) ?_
      refine r_on rfl rfl rfl rfl (bfalse (by decide)) rfl (PureD.opD (u_ld rfl rfl Tryd.underlying3 rfl rfl ((Sub.refl _).trans (GValue.sub0 v0)))) ?_
      refine r_on rfl rfl rfl rfl (bfalse (by decide)) rfl (PureD.opD (p_ieq rfl rfl rfl)) ?_
      refine r_on rfl rfl rfl rfl (bfalse (by decide)) rfl (PureD.opD (p_move rfl rfl)) ?_
      refine (Classical.em (v0.Kind = (3 : Int))).elim (fun h18 => ?_) (fun h18 => ?_)
      ·replace H := ite_then h18 H
       refine r_on rfl rfl rfl rfl (decide_eq_true h18) rfl (PureD.opD (u_fa rfl rfl Tryd.underlying24 rfl in_22 (Nat.succ_ne_zero _) rfl rfl (ne_of_lt (n := 0) (Nat.lt_of_lt_of_eq (by decide) (Eq.symm (GValue.len v0)))))) ?_
       refine r_on rfl rfl rfl rfl (decide_eq_true h18) rfl (PureD.opD (u_ld rfl rfl Tryd.underlying22 rfl rfl ((Sub.refl _).trans (GValue.sub2 v0)))) ?_
       refine bindK H fun r'8 h19 H => ?_
       refine r_on rfl rfl rfl rfl (decide_eq_true h18) rfl (PureD.opD (p_callp rfl rfl rfl Tryd.func25 rfl rfl (g_ref_badReal_ac h19) ⟨rfl, trivial⟩)) ?_
       refine r_on rfl rfl rfl rfl (bfalse (by decide)) rfl (PureD.opD (p_pkt rfl rfl (decide_eq_true h18) (.same _))) ?_
       refine rp rfl rfl (p_pkf rfl rfl (bfalse (by decide)) (.same _)) ?_
       refine rp rfl rfl (p_move rfl rfl) ?_
       refine (Classical.em (r'8 = true)).elim (fun h20 => ?_) (fun h20 => ?_)
       ·replace H := ite_then h20 H
        refine r_off rfl rfl rfl rfl h20 rfl rfl ?_
        refine r_off rfl rfl rfl rfl h20 rfl rfl ?_
        refine r_off rfl rfl rfl rfl h20 rfl rfl ?_
        refine r_off rfl rfl rfl rfl h20 rfl rfl ?_
        refine rp rfl rfl (p_pkt rfl rfl h20 (.same _)) ?_
        refine rs [(60, .b true)] [] rfl rfl rfl ?_
        have hz := some_elim H
        subst hz
        exact RunW_nil rfl
       ·replace H := ite_else h20 H
        refine r_on rfl rfl rfl rfl (bfalse h20) rfl (PureD.opD (u_fa rfl rfl Tryd.underlying24 rfl in_9 (Nat.succ_ne_zero _) rfl rfl (ne_of_lt (n := 0) (Nat.lt_of_lt_of_eq (by decide) (Eq.symm (GValue.len v0)))))) ?_
        refine r_on rfl rfl rfl rfl (bfalse h20) rfl (PureD.opD (u_ld rfl rfl Tryd.underlying9 rfl rfl ((Sub.refl _).trans (GValue.sub3 v0)))) ?_
        refine bindK H fun r'9 h21 H => ?_
        refine r_on rfl rfl rfl rfl (bfalse h20) rfl (PureD.opD (p_callp rfl rfl rfl Tryd.func26 rfl rfl (g_utf8_ValidString_ac h21) ⟨rfl, trivial⟩)) ?_
        refine r_on rfl rfl rfl rfl (bfalse h20) rfl (PureD.opD (p_not rfl rfl)) ?_
        refine rp rfl rfl (p_pkf rfl rfl (bfalse h20) (.same _)) ?_
        refine rs [(60, .b (!r'9))] [] rfl rfl rfl ?_
        have hz := some_elim H
        subst hz
        exact RunW_nil rfl
      ·replace H := ite_else h18 H
       refine r_off rfl rfl rfl rfl (decide_eq_false h18) rfl rfl ?_
       refine r_off rfl rfl rfl rfl (decide_eq_false h18) rfl rfl ?_
       refine r_off rfl rfl rfl rfl (decide_eq_false h18) rfl rfl ?_
       refine r_on rfl rfl rfl rfl (bfalse (by decide)) rfl (PureD.opD (p_pkf rfl rfl (decide_eq_false h18) (.same _))) ?_
       refine rp rfl rfl (p_pkf rfl rfl (bfalse (by decide)) (.same _)) ?_
       refine rp rfl rfl (p_move rfl rfl) ?_
       refine r_on rfl rfl rfl rfl (bfalse (by decide)) rfl (PureD.opD (u_fa rfl rfl Tryd.underlying24 rfl in_9 (Nat.succ_ne_zero _) rfl rfl (ne_of_lt (n := 0) (Nat.lt_of_lt_of_eq (by decide) (Eq.symm (GValue.len v0)))))) ?_
       refine r_on rfl rfl rfl rfl (bfalse (by decide)) rfl (PureD.opD (u_ld rfl rfl Tryd.underlying9 rfl rfl ((Sub.refl _).trans (GValue.sub3 v0)))) ?_
       refine bindK H fun r'10 h22 H => ?_
       refine r_on rfl rfl rfl rfl (bfalse (by decide)) rfl (PureD.opD (p_callp rfl rfl rfl Tryd.func26 rfl rfl (g_utf8_ValidString_ac h22) ⟨rfl, trivial⟩)) ?_
       refine r_on rfl rfl rfl rfl (bfalse (by decide)) rfl (PureD.opD (p_not rfl rfl)) ?_
       refine rp rfl rfl (p_pkf rfl rfl (bfalse (by decide)) (.same _)) ?_
       refine rs [(60, .b (!r'10))] [] rfl rfl rfl ?_
       have hz := some_elim H
       subst hz
       exact RunW_nil rfl
   ·refine AW2_cond rfl (fun h24 => ?_) (fun h24 => ?_)
    ·replace H := ite_then h24 H
     refine sg [0] rfl ?_
     refine rp rfl rfl (p_asg rfl rfl) ?_
     refine rz [(2, .i (3 : Int))] [] rfl rfl rfl ?_
     refine AW2_ret ?_
     have hz := some_elim H
     subst hz
     exact ⟨⟨res_tmp (.same _), trivial⟩, trivial⟩
    ·replace H := ite_else (ne_true h24) H
     refine as2 [] [] rfl rfl rfl ?_
     refine AW2_skip ?_
     refine sg [0] rfl ?_
     refine rp rfl rfl (p_asg rfl rfl) ?_
     refine rz [(2, .i (0 : Int))] [] rfl rfl rfl ?_
     refine AW2_ret ?_
     have hz := some_elim H
     subst hz
     exact ⟨⟨res_tmp (.same _), trivial⟩, trivial⟩
 ·subst hy
  obtain ⟨rfl, hs⟩ := hs
  have hz := some_elim H
  subst hz
  exact ⟨hs.1, hs.2⟩

/-! chirographref.among -/
noncomputable def g_ref_among_l0 (c0 : UInt8) (l1 : List UInt8) : Int → Option (Int ⊕ (Bool ⊕ Unit))
  | i5_0 => (if i5_0 < (l1.length : Int) then if 0 ≤ i5_0 ∧ i5_0 < (l1.length : Int) then (if (lrd l1 i5_0.toNat) = c0 then some (.inr (.inl true)) else some (.inl (w64 (i5_0 + (1 : Int))))) else none else some (.inr (.inr ())))
noncomputable def g_ref_among (c0 : UInt8) (l1 : List UInt8) : Option (Bool) :=
  (loopO (g_ref_among_l0 c0 l1) (0 : Int)).bind fun o'4 => match o'4 with | .inl y'5 => some y'5 | .inr (y'6) => some false
set_option maxHeartbeats 4000000 in
set_option maxRecDepth 100000 in
theorem g_ref_among_ac {c0 : UInt8} {l1 : List UInt8} {r : Bool} (H : g_ref_among c0 l1 = some r) : ACp Tryd.prog 27 [(AV.b8 c0), (AV.txt l1)] (AV.bool r) := by
 refine ACp_of (AC2_of_body (vs := [.b r]) Tryd.func27 rfl rfl (Nat.le_of_ble_eq_true rfl) rfl ?_) (fun _ => .same _)
 unfold g_ref_among at H
 refine as2 [(0, .p (AV.b8 c0)), (1, .t l1)] [] rfl rfl rfl ?_
 refine sg [0] rfl ?_
 refine rp rfl rfl (p_asg rfl rfl) ?_
 refine rz [(0, .p (AV.b8 c0)), (1, .t l1)] [] rfl rfl rfl ?_
 refine AW2_seq ?_
 refine sg [0] rfl ?_
 refine rp rfl rfl (p_asg rfl rfl) ?_
 refine rz [(0, .p (AV.b8 c0)), (1, .t l1), (5, .i (0 : Int))] [] rfl rfl rfl ?_
 refine AW2_block ?_
 refine as2 [(0, .p (AV.b8 c0)), (1, .t l1), (5, .i (0 : Int))] [] rfl rfl rfl ?_
 refine bindK H fun o'4 h4 H => ?_
 refine AW2_loopO (fun a'1 : Int => (⟨[(0, .p (AV.b8 c0)), (1, .t l1), (5, .i a'1)], [], 17⟩ : TS)) (fun (o : Bool ⊕ Unit) e s' => match o with | .inl y'2 => e = Go.Exit.ret ∧ ResAll Tryd.prog s' [ResultVar.tmp 4] [.b y'2] ∧ HFits s' [] | .inr (y'3) => e = Go.Exit.exit 0 ∧ s' = (⟨[], [], 17⟩ : TS)) h4 rfl (fun i5_0 x hx => ?_) (fun e s' hs => ?_)
 ·clear H
  have H := hx
  clear hx
  unfold g_ref_among_l0 at H
  refine AW2_seq ?_
  refine sg [0, 1, 2, 3] rfl ?_
  refine rp rfl rfl (p_move rfl rfl) ?_
  refine rp rfl rfl (p_move rfl rfl) ?_
  refine rp rfl rfl (p_lent rfl Tryd.underlying9 rfl) ?_
  refine rp rfl rfl (p_bin rfl rfl rfl rfl) ?_
  refine rz [(0, .p (AV.b8 c0)), (1, .t l1), (5, .i i5_0), (9, .b (decide (i5_0 < (l1.length : Int))))] [] rfl rfl rfl ?_
  refine AW2_if (p := i5_0 < (l1.length : Int)) rfl (fun h1 => ?_) (fun h1 => ?_)
  ·replace H := ite_then h1 H
   refine as2 [(0, .p (AV.b8 c0)), (1, .t l1), (5, .i i5_0)] [] rfl rfl rfl ?_
   refine AW2_skip ?_
   refine AW2_seq ?_
   refine AW2_block ?_
   refine sg [0, 1, 2, 3, 4] rfl ?_
   refine rp rfl rfl (p_move rfl rfl) ?_
   refine rp rfl rfl (p_move rfl rfl) ?_
   refine chkK H fun h2 H => ?_
   refine rp rfl rfl (p_ixt rfl Tryd.underlying9 rfl rfl (ixe h2) (lrd_get (ixn h2))) ?_
   refine rp rfl rfl (p_move rfl rfl) ?_
   refine rp rfl rfl (p_u8eq (a := (lrd l1 i5_0.toNat)) (b := c0) rfl rfl rfl) ?_
   refine rz [(0, .p (AV.b8 c0)), (1, .t l1), (5, .i i5_0), (16, .b (decide ((lrd l1 i5_0.toNat) = c0)))] [] rfl rfl rfl ?_
   refine AW2_if (p := (lrd l1 i5_0.toNat) = c0) rfl (fun h3 => ?_) (fun h3 => ?_)
   ·replace H := ite_then h3 H
    refine sg [0] rfl ?_
    refine rp rfl rfl (p_asg rfl rfl) ?_
    refine rz [(4, .b true)] [] rfl rfl rfl ?_
    refine AW2_ret ?_
    have hz := some_elim H
    subst hz
    exact ⟨rfl, ⟨res_tmp (.same _), trivial⟩, trivial⟩
   ·replace H := ite_else h3 H
    refine as2 [(0, .p (AV.b8 c0)), (1, .t l1), (5, .i i5_0)] [] rfl rfl rfl ?_
    refine AW2_skip ?_
    refine AW2_reg [0, 1, 2] rfl ?_
    refine rp rfl rfl (p_move rfl rfl) ?_
    refine rp rfl rfl (p_bin rfl rfl rfl rfl) ?_
    refine rp rfl rfl (p_asg rfl rfl) ?_
    refine rz [(0, .p (AV.b8 c0)), (1, .t l1), (5, .i (w64 (i5_0 + (1 : Int))))] [] rfl rfl rfl ?_
    have hz := some_elim H
    subst hz
    exact ⟨rfl, rfl⟩
  ·replace H := ite_else h1 H
   refine as2 [] [] rfl rfl rfl ?_
   refine AW2_exit ?_
   refine thenQ2_exit ?_
   have hz := some_elim H
   subst hz
   exact ⟨rfl, rfl⟩
 ·rcases o'4 with y'5 | y'6
  ·obtain ⟨rfl, hs⟩ := hs
   refine ⟨by simp, ?_⟩
   have hz := some_elim H
   subst hz
   exact ⟨hs.1, hs.2⟩
  ·obtain ⟨rfl, rfl⟩ := hs
   refine ⟨by simp, ?_⟩
   refine blockQ2_exit ?_
   refine sg [0] rfl ?_
   refine rp rfl rfl (p_asg rfl rfl) ?_
   refine rz [(4, .b false)] [] rfl rfl rfl ?_
   refine AW2_ret ?_
   have hz := some_elim H
   subst hz
   exact ⟨⟨res_tmp (.same _), trivial⟩, trivial⟩

/-! chirographref.reach -/
noncomputable def g_ref_reach_l0 (s0 : List UInt8) (l1 : List UInt8) : Int → Option (Int ⊕ (Int))
  | n5_0 => ((if n5_0 < (s0.length : Int) then if 0 ≤ n5_0 ∧ n5_0 < (s0.length : Int) then (g_ref_among (lrd s0 n5_0.toNat) l1).bind fun r'1 => some r'1 else none else some false)).bind fun g'2 => (if g'2 = true then some (.inl (w64 (n5_0 + (1 : Int)))) else some (.inr n5_0))
noncomputable def g_ref_reach (s0 : List UInt8) (l1 : List UInt8) : Option (Int) :=
  (loopO (g_ref_reach_l0 s0 l1) (0 : Int)).bind fun y'6 => some y'6
set_option maxHeartbeats 4000000 in
set_option maxRecDepth 100000 in
theorem g_ref_reach_ac {s0 : List UInt8} {l1 : List UInt8} {r : Int} (H : g_ref_reach s0 l1 = some r) : ACp Tryd.prog 28 [(AV.txt s0), (AV.txt l1)] (AV.int r) := by
 refine ACp_of (AC2_of_body (vs := [.i r]) Tryd.func28 rfl rfl (Nat.le_of_ble_eq_true rfl) rfl ?_) (fun _ => .same _)
 unfold g_ref_reach at H
 refine as2 [(0, .t s0), (1, .t l1)] [] rfl rfl rfl ?_
 refine sg [0] rfl ?_
 refine rp rfl rfl (p_asg rfl rfl) ?_
 refine rz [(0, .t s0), (1, .t l1)] [] rfl rfl rfl ?_
 refine sg [0] rfl ?_
 refine rp rfl rfl (p_asg rfl rfl) ?_
 refine rz [(0, .t s0), (1, .t l1), (5, .i (0 : Int))] [] rfl rfl rfl ?_
 refine AW2_seq ?_
 refine AW2_block ?_
 refine as2 [(0, .t s0), (1, .t l1), (5, .i (0 : Int))] [] rfl rfl rfl ?_
 refine bindK H fun y'6 h8 H => ?_
 refine AW2_loopO (fun a'3 : Int => (⟨[(0, .t s0), (1, .t l1), (5, .i a'3)], [], 20⟩ : TS)) (fun (y'4 : Int) e s' => e = Go.Exit.exit 0 ∧ s' = (⟨[(5, .i y'4)], [], 20⟩ : TS)) h8 rfl (fun n5_0 x hx => ?_) (fun e s' hs => ?_)
 ·clear H
  have H := hx
  clear hx
  unfold g_ref_reach_l0 at H
  refine AW2_seq ?_
  refine AW2_seq ?_
  refine bindK H fun g'2 h5 H => ?_
  refine AW2_mid (⟨[(0, .t s0), (1, .t l1), (5, .i n5_0), (16, .b g'2)], [], 20⟩ : TS) ?_ ?_
  ·clear H
   have H := h5
   clear h5
   refine AW2_reg [0, 1, 2, 3, 4, 5, 6, 7, 8, 9, 10] rfl ?_
   refine rp rfl rfl (p_move rfl rfl) ?_
   refine rp rfl rfl (p_move rfl rfl) ?_
   refine rp rfl rfl (p_lent rfl Tryd.underlying9 rfl) ?_
   refine rp rfl rfl (p_bin rfl rfl rfl rfl) ?_
   refine rp rfl rfl (p_move rfl rfl) ?_
   refine (Classical.em (n5_0 < (s0.length : Int))).elim (fun h2 => ?_) (fun h2 => ?_)
   ·replace H := ite_then h2 H
    refine r_on rfl rfl rfl rfl (decide_eq_true h2) rfl (PureD.opD (p_move rfl rfl)) ?_
    refine r_on rfl rfl rfl rfl (decide_eq_true h2) rfl (PureD.opD (p_move rfl rfl)) ?_
    refine chkK H fun h3 H => ?_
    refine r_on rfl rfl rfl rfl (decide_eq_true h2) rfl (PureD.opD (p_ixt rfl Tryd.underlying9 rfl rfl (ixe h3) (lrd_get (ixn h3)))) ?_
    refine r_on rfl rfl rfl rfl (decide_eq_true h2) rfl (PureD.opD (p_move rfl rfl)) ?_
    refine bindK H fun r'1 h4 H => ?_
    refine r_on rfl rfl rfl rfl (decide_eq_true h2) rfl (PureD.opD (p_callp rfl rfl rfl Tryd.func27 rfl rfl (g_ref_among_ac h4) ⟨rfl, rfl, trivial⟩)) ?_
    refine rp rfl rfl (p_pkt rfl rfl (decide_eq_true h2) (.same _)) ?_
    refine rs [(0, .t s0), (1, .t l1), (5, .i n5_0), (16, .b r'1)] [] rfl rfl rfl ?_
    have hz := some_elim H
    subst hz
    exact RunW_nil rfl
   ·replace H := ite_else h2 H
    refine r_off rfl rfl rfl rfl (decide_eq_false h2) rfl rfl ?_
    refine r_off rfl rfl rfl rfl (decide_eq_false h2) rfl rfl ?_
    refine r_off rfl rfl rfl rfl (decide_eq_false h2) rfl rfl ?_
    refine r_off rfl rfl rfl rfl (decide_eq_false h2) rfl rfl ?_
    refine r_off rfl rfl rfl rfl (decide_eq_false h2) rfl rfl ?_
    refine rp rfl rfl (p_pkf rfl rfl (decide_eq_false h2) (.same _)) ?_
    refine rs [(0, .t s0), (1, .t l1), (5, .i n5_0), (16, .b false)] [] rfl rfl rfl ?_
    have hz := some_elim H
    subst hz
    exact RunW_nil rfl
  ·refine AW2_cond rfl (fun h6 => ?_) (fun h6 => ?_)
   ·replace H := ite_then h6 H
    refine as2 [(0, .t s0), (1, .t l1), (5, .i n5_0)] [] rfl rfl rfl ?_
    refine AW2_skip ?_
    refine AW2_block ?_
    refine AW2_reg [0, 1, 2] rfl ?_
    refine rp rfl rfl (p_move rfl rfl) ?_
    refine rp rfl rfl (p_bin rfl rfl rfl rfl) ?_
    refine rp rfl rfl (p_asg rfl rfl) ?_
    refine rz [(0, .t s0), (1, .t l1), (5, .i (w64 (n5_0 + (1 : Int))))] [] rfl rfl rfl ?_
    have hz := some_elim H
    subst hz
    exact ⟨rfl, rfl⟩
   ·replace H := ite_else (ne_true h6) H
    refine as2 [(5, .i n5_0)] [] rfl rfl rfl ?_
    refine AW2_exit ?_
    refine thenQ2_exit ?_
    have hz := some_elim H
    subst hz
    exact ⟨rfl, rfl⟩
 ·obtain ⟨rfl, rfl⟩ := hs
  refine ⟨by simp, ?_⟩
  refine blockQ2_exit ?_
  refine sg [0, 1] rfl ?_
  refine rp rfl rfl (p_move rfl rfl) ?_
  refine rp rfl rfl (p_asg rfl rfl) ?_
  refine rz [(4, .i y'6)] [] rfl rfl rfl ?_
  refine AW2_ret ?_
  have hz := some_elim H
  subst hz
  exact ⟨⟨res_tmp (.same _), trivial⟩, trivial⟩

/-! chirographref.isName -/
def g_ref_isName_t0 : List UInt8 := [97, 98, 99, 100, 101, 102, 103, 104, 105, 106, 107, 108, 109, 110, 111, 112, 113, 114, 115, 116, 117, 118, 119, 120, 121, 122]
def g_ref_isName_t1 : List UInt8 := [97, 98, 99, 100, 101, 102, 103, 104, 105, 106, 107, 108, 109, 110, 111, 112, 113, 114, 115, 116, 117, 118, 119, 120, 121, 122, 48, 49, 50, 51, 52, 53, 54, 55, 56, 57, 95]
noncomputable def g_ref_isName (s0 : List UInt8) : Option (Bool) :=
  ((if s0 ≠ [] then if 0 < s0.length then (g_ref_among (lrd s0 0) g_ref_isName_t0).bind fun r'1 => (if r'1 = true then (g_ref_reach s0 g_ref_isName_t1).bind fun r'2 => some (decide (r'2 = (s0.length : Int))) else some false) else none else some false)).bind fun g'3 => some g'3
set_option maxHeartbeats 4000000 in
set_option maxRecDepth 100000 in
theorem g_ref_isName_ac {s0 : List UInt8} {r : Bool} (H : g_ref_isName s0 = some r) : ACp Tryd.prog 21 [(AV.txt s0)] (AV.bool r) := by
 refine ACp_of (AC2_of_body (vs := [.b r]) Tryd.func21 rfl rfl (Nat.le_of_ble_eq_true rfl) rfl ?_) (fun _ => .same _)
 unfold g_ref_isName at H
 refine as2 [(0, .t s0)] [] rfl rfl rfl ?_
 refine sg [0] rfl ?_
 refine rp rfl rfl (p_asg rfl rfl) ?_
 refine rz [(0, .t s0)] [] rfl rfl rfl ?_
 refine AW2_seq ?_
 refine bindK H fun g'3 h7 H => ?_
 refine AW2_mid (⟨[(2, .b g'3)], [], 17⟩ : TS) ?_ ?_
 ·clear H
  have H := h7
  clear h7
  refine AW2_reg [0, 1, 2, 3, 4, 5, 6, 7, 8, 9, 10, 11, 12, 13, 14] rfl ?_
  refine rp rfl rfl (p_move rfl rfl) ?_
  refine rp rfl rfl (p_sne rfl rfl rfl) ?_
  refine rp rfl rfl (p_move rfl rfl) ?_
  refine (Classical.em (s0 ≠ [])).elim (fun h2 => ?_) (fun h2 => ?_)
  ·replace H := ite_then h2 H
   refine r_on rfl rfl rfl rfl (decide_eq_true h2) rfl (PureD.opD (p_move rfl rfl)) ?_
   refine chkK H fun h3 H => ?_
   refine r_on rfl rfl rfl rfl (decide_eq_true h2) rfl (PureD.opD (p_ixt rfl Tryd.underlying9 rfl rfl rfl (lrd_get h3))) ?_
   refine bindK H fun r'1 h4 H => ?_
   refine r_on rfl rfl rfl rfl (decide_eq_true h2) rfl (PureD.opD (p_callp rfl rfl rfl Tryd.func27 rfl rfl (g_ref_among_ac h4) ⟨rfl, by kernel_rfl, trivial⟩)) ?_
   refine rp rfl rfl (p_pkt rfl rfl (decide_eq_true h2) (.same _)) ?_
   refine rp rfl rfl (p_move rfl rfl) ?_
   refine (Classical.em (r'1 = true)).elim (fun h5 => ?_) (fun h5 => ?_)
   ·replace H := ite_then h5 H
    refine rn rfl rfl rfl rfl h5 rfl (p_move rfl rfl) ?_
    refine bindK H fun r'2 h6 H => ?_
    refine rn rfl rfl rfl rfl h5 rfl (p_callp rfl rfl rfl Tryd.func28 rfl rfl (g_ref_reach_ac h6) ⟨rfl, by kernel_rfl, trivial⟩) ?_
    refine rn rfl rfl rfl rfl h5 rfl (p_move rfl rfl) ?_
    refine rn rfl rfl rfl rfl h5 rfl (p_lent rfl Tryd.underlying9 rfl) ?_
    refine rn rfl rfl rfl rfl h5 rfl (p_ieq rfl rfl rfl) ?_
    refine rp rfl rfl (p_pkt rfl rfl h5 (.same _)) ?_
    refine rp rfl rfl (p_asg rfl rfl) ?_
    refine rs [(2, .b (decide (r'2 = (s0.length : Int))))] [] rfl rfl rfl ?_
    have hz := some_elim H
    subst hz
    exact RunW_nil rfl
   ·replace H := ite_else h5 H
    refine r_off rfl rfl rfl rfl (bfalse h5) rfl rfl ?_
    refine r_off rfl rfl rfl rfl (bfalse h5) rfl rfl ?_
    refine r_off rfl rfl rfl rfl (bfalse h5) rfl rfl ?_
    refine r_off rfl rfl rfl rfl (bfalse h5) rfl rfl ?_
    refine r_off rfl rfl rfl rfl (bfalse h5) rfl rfl ?_
    refine rp rfl rfl (p_pkf rfl rfl (bfalse h5) (.same _)) ?_
    refine rp rfl rfl (p_asg rfl rfl) ?_
    refine rs [(2, .b false)] [] rfl rfl rfl ?_
    have hz := some_elim H
    subst hz
    exact RunW_nil rfl
  ·replace H := ite_else h2 H
   refine r_off rfl rfl rfl rfl (decide_eq_false h2) rfl rfl ?_
   refine r_off rfl rfl rfl rfl (decide_eq_false h2) rfl rfl ?_
   refine r_off rfl rfl rfl rfl (decide_eq_false h2) rfl rfl ?_
   refine rp rfl rfl (p_pkf rfl rfl (decide_eq_false h2) (.same _)) ?_
   refine rp rfl rfl (p_move rfl rfl) ?_
   refine r_off rfl rfl rfl rfl (bfalse (by decide)) rfl rfl ?_
   refine r_off rfl rfl rfl rfl (bfalse (by decide)) rfl rfl ?_
   refine r_off rfl rfl rfl rfl (bfalse (by decide)) rfl rfl ?_
   refine r_off rfl rfl rfl rfl (bfalse (by decide)) rfl rfl ?_
   refine r_off rfl rfl rfl rfl (bfalse (by decide)) rfl rfl ?_
   refine rp rfl rfl (p_pkf rfl rfl (bfalse (by decide)) (.same _)) ?_
   refine rp rfl rfl (p_asg rfl rfl) ?_
   refine rs [(2, .b false)] [] rfl rfl rfl ?_
   have hz := some_elim H
   subst hz
   exact RunW_nil rfl
 ·refine AW2_ret ?_
  have hz := some_elim H
  subst hz
  exact ⟨⟨res_tmp (.same _), trivial⟩, trivial⟩

/-! chirographref.nodeFault -/
def g_ref_nodeFault_r4 : List (List (Nat × Option Nat)) := [[(1, none)], [(19, some 0)], [(20, some 1)], [(3, none)], [(1, none)], [(23, some 4)], [(22, some 3), (24, some 5)], [(25, some 6)]]
def g_ref_nodeFault_r4c : List (List Nat) := [[], [0], [0, 1], [], [], [4], [3, 4, 5], [3, 4, 5, 6], [0, 1, 2, 3, 4, 5, 6, 7], [0, 1, 2, 3, 4, 5, 6, 7, 8]]
noncomputable def g_ref_nodeFault_l0 (e0 : GExpr) (R' : GExpr → Option Int) : Int → Option (Int ⊕ (Int ⊕ Unit))
  | t87_0 => (if t87_0 < (e0.Args.length : Int) then if 0 ≤ t87_0 ∧ t87_0 < (e0.Args.length : Int) then (R' (lrd e0.Args t87_0.toNat)).bind fun r'9 => (if r'9 ≠ (0 : Int) then some (.inr (.inl r'9)) else some (.inl (w64 (t87_0 + (1 : Int))))) else none else some (.inr (.inr ())))
noncomputable def g_ref_nodeFault_b (R' : GExpr → Option Int) (e0 : GExpr) : Option (Int) :=
  letO (([(0 : Int), (0 : Int), (0 : Int), (1 : Int), (1 : Int), (2 : Int), (2 : Int), (2 : Int), (2 : Int), (2 : Int), (2 : Int), (2 : Int), (2 : Int), (2 : Int), (2 : Int), (2 : Int), (2 : Int), (1 : Int), (1 : Int), (2 : Int), (2 : Int)] : List Int)) fun want3'1 => (if (e0.Op < (1 : Int)) ∨ (e0.Op ≥ (want3'1.length : Int)) then some (2 : Int) else if 0 ≤ e0.Op ∧ e0.Op < (want3'1.length : Int) then ((if e0.Op = (1 : Int) then ((if (e0.Args.length : Int) = (lrd want3'1 e0.Op.toNat) then (if e0.Name = [] then (g_ref_ValueFault e0.Value).bind fun r'4 => (if r'4 = (0 : Int) then some (decide (e0.Value.Int_ ≥ (0 : Int))) else some false) else some false) else some false)).bind fun g'5 => some g'5 else (if e0.Op = (2 : Int) then ((if (e0.Args.length : Int) = (lrd want3'1 e0.Op.toNat) then (if e0.Value = GValue.zero then (g_ref_isName e0.Name).bind fun r'7 => (if r'7 = true then some (decide ((e0.Name.length : Int) ≤ (8 : Int))) else some false) else some false) else some false)).bind fun g'8 => some g'8 else some (decide ((((e0.Args.length : Int) = (lrd want3'1 e0.Op.toNat)) ∧ (e0.Name = [])) ∧ (e0.Value = GValue.zero)))))).bind fun j'2 => (if (!j'2) = true then some (3 : Int) else (loopO (g_ref_nodeFault_l0 e0 R') (0 : Int)).bind fun o'13 => match o'13 with | .inl y'14 => some y'14 | .inr (y'15) => some (0 : Int)) else none)
noncomputable def g_ref_nodeFault : Nat → GExpr → Option Int
  | 0, _ => none
  | fu + 1, e0 => g_ref_nodeFault_b (g_ref_nodeFault fu) e0
set_option maxHeartbeats 4000000 in
set_option maxRecDepth 100000 in
theorem g_ref_nodeFault_ac0 {R' : GExpr → Option Int} (hR : ∀ {e0 : GExpr} {r : Int}, R' e0 = some r → ACp Tryd.prog 18 [(.agg (GExpr.cs e0))] (AV.int r)) {e0 : GExpr} {r : Int} (H : g_ref_nodeFault_b R' e0 = some r) : ACp Tryd.prog 18 [(.agg (GExpr.cs e0))] (AV.int r) := by
 refine ACp_of (AC2_of_body (vs := [.i r]) Tryd.func18 rfl rfl (Nat.le_of_ble_eq_true rfl) rfl ?_) (fun _ => .same _)
 unfold g_ref_nodeFault_b at H
 refine as2 [(0, .g (GExpr.cs e0))] [] rfl rfl rfl ?_
 refine sg [0, 1] rfl ?_
 refine r_op rfl rfl (MakeD.opD (n_box 1 rfl rfl) rfl rfl rfl rfl) ?_
 refine rp rfl rfl (p_asg rfl rfl) ?_
 refine rz [(1, .q 1 (0))] [(1, .pure (GExpr.cs e0))] rfl rfl rfl ?_
 refine sg [0, 1] rfl ?_
 refine r_op rfl rfl (MakeD.opD (u_bs 8 rfl Tryd.underlying38 in_3 rfl one_3 (by decide) (by decide) rfl rfl rfl) rfl rfl rfl rfl) ?_
 refine rp rfl rfl (p_asg rfl rfl) ?_
 refine RunW_st [(1, .q 1 (0)), (3, .c (.own 8 ([(0 : Int), (0 : Int), (0 : Int), (1 : Int), (1 : Int), (2 : Int), (2 : Int), (2 : Int), (2 : Int), (2 : Int), (2 : Int), (2 : Int), (2 : Int), (2 : Int), (2 : Int), (2 : Int), (2 : Int), (1 : Int), (1 : Int), (2 : Int), (2 : Int)] : List Int).length 1))] [(1, .pure (GExpr.cs e0)), (8, .pure (([(0 : Int), (0 : Int), (0 : Int), (1 : Int), (1 : Int), (2 : Int), (2 : Int), (2 : Int), (2 : Int), (2 : Int), (2 : Int), (2 : Int), (2 : Int), (2 : Int), (2 : Int), (2 : Int), (2 : Int), (1 : Int), (1 : Int), (2 : Int), (2 : Int)] : List Int).map AV.int))] rfl ⟨TLes.same _, TLes.own rfl, trivial⟩ ⟨rfl, rfl, trivial⟩ ?_
 refine RunW_gho (Gho_ren 8 3 rfl rfl rfl rfl rfl) ?_
 refine rz [(1, .q 1 (0)), (3, .c (.own 3 ([(0 : Int), (0 : Int), (0 : Int), (1 : Int), (1 : Int), (2 : Int), (2 : Int), (2 : Int), (2 : Int), (2 : Int), (2 : Int), (2 : Int), (2 : Int), (2 : Int), (2 : Int), (2 : Int), (2 : Int), (1 : Int), (1 : Int), (2 : Int), (2 : Int)] : List Int).length 1))] [(1, .pure (GExpr.cs e0)), (3, .pure (([(0 : Int), (0 : Int), (0 : Int), (1 : Int), (1 : Int), (2 : Int), (2 : Int), (2 : Int), (2 : Int), (2 : Int), (2 : Int), (2 : Int), (2 : Int), (2 : Int), (2 : Int), (2 : Int), (2 : Int), (1 : Int), (1 : Int), (2 : Int), (2 : Int)] : List Int).map AV.int))] rfl rfl rfl ?_
 refine gen1 (fun want3'1 => (⟨[(1, .q 1 (0)), (3, .c (.own 3 want3'1.length 1))], [(1, .pure (GExpr.cs e0)), (3, .pure (want3'1.map AV.int))], 97⟩ : TS)) H ?_
 intro want3'1 H
 refine AW2_seq ?_
 refine AW2_seq ?_
 refine AW2_mid (⟨[(1, .q 1 (0)), (3, .c (.own 3 want3'1.length 1)), (18, .b (decide ((e0.Op < (1 : Int)) ∨ (e0.Op ≥ (want3'1.length : Int)))))], [(1, .pure (GExpr.cs e0)), (3, .pure (want3'1.map AV.int))], 97⟩ : TS) ?_ ?_
 ·refine AW2_reg [0, 1, 2, 3, 4, 5, 6, 7, 8, 9] rfl ?_
  refine rp rfl rfl (u_fa rfl rfl Tryd.underlying27 rfl in_3 (Nat.succ_ne_zero _) rfl rfl (ne_of_lt (n := 0) (Nat.lt_of_lt_of_eq (by decide) (Eq.symm (GExpr.len e0))))) ?_
  refine rp rfl rfl (u_ld rfl rfl Tryd.underlying3 rfl rfl ((Sub.refl _).trans (GExpr.sub0 e0))) ?_
  refine rp rfl rfl (p_bin rfl rfl rfl rfl) ?_
  refine rp rfl rfl (p_move rfl rfl) ?_
  refine (Classical.em (e0.Op < (1 : Int))).elim (fun h1 => ?_) (fun h1 => ?_)
  ·iterate 5 (refine r_off rfl rfl rfl rfl (decide_eq_true h1) rfl rfl ?_)
   refine rp rfl rfl (p_pkt rfl rfl (decide_eq_true h1) (tb (decide_eq_true (p := (e0.Op < (1 : Int)) ∨ (e0.Op ≥ (want3'1.length : Int))) (Or.inl h1)).symm)) ?_
   refine rs [(1, .q 1 (0)), (3, .c (.own 3 want3'1.length 1)), (18, .b (decide ((e0.Op < (1 : Int)) ∨ (e0.Op ≥ (want3'1.length : Int)))))] [(1, .pure (GExpr.cs e0)), (3, .pure (want3'1.map AV.int))] rfl rfl rfl ?_
   exact RunW_nil rfl
  ·refine r_on rfl rfl rfl rfl (decide_eq_false h1) rfl (PureD.opD (u_fa rfl rfl Tryd.underlying27 rfl in_3 (Nat.succ_ne_zero _) rfl rfl (ne_of_lt (n := 0) (Nat.lt_of_lt_of_eq (by decide) (Eq.symm (GExpr.len e0)))))) ?_
   refine r_on rfl rfl rfl rfl (decide_eq_false h1) rfl (PureD.opD (u_ld rfl rfl Tryd.underlying3 rfl rfl ((Sub.refl _).trans (GExpr.sub0 e0)))) ?_
   refine r_on rfl rfl rfl rfl (decide_eq_false h1) rfl (PureD.opD (p_move rfl rfl)) ?_
   refine r_on rfl rfl rfl rfl (decide_eq_false h1) rfl (PureD.opD (p_leno rfl Tryd.underlying38 rfl rfl rfl (ml AV.int want3'1) (by decide))) ?_
   refine r_on rfl rfl rfl rfl (decide_eq_false h1) rfl (PureD.opD (p_bin rfl rfl rfl rfl)) ?_
   refine rp rfl rfl (p_pkf rfl rfl (decide_eq_false h1) (tb ((or_l (p := e0.Op < (1 : Int)) (q := e0.Op ≥ (want3'1.length : Int)) h1)))) ?_
   refine rs [(1, .q 1 (0)), (3, .c (.own 3 want3'1.length 1)), (18, .b (decide ((e0.Op < (1 : Int)) ∨ (e0.Op ≥ (want3'1.length : Int)))))] [(1, .pure (GExpr.cs e0)), (3, .pure (want3'1.map AV.int))] rfl rfl rfl ?_
   exact RunW_nil rfl
 ·refine AW2_if (p := (e0.Op < (1 : Int)) ∨ (e0.Op ≥ (want3'1.length : Int))) rfl (fun h2 => ?_) (fun h2 => ?_)
  ·replace H := ite_then h2 H
   refine sg [0] rfl ?_
   refine rp rfl rfl (p_asg rfl rfl) ?_
   refine rz [(2, .i (2 : Int))] [] rfl rfl rfl ?_
   refine AW2_ret ?_
   have hz := some_elim H
   subst hz
   exact ⟨⟨res_tmp (.same _), trivial⟩, trivial⟩
  ·replace H := ite_else h2 H
   refine as2 [(1, .q 1 (0)), (3, .c (.own 3 want3'1.length 1))] [(1, .pure (GExpr.cs e0)), (3, .pure (want3'1.map AV.int))] rfl rfl rfl ?_
   refine AW2_skip ?_
   refine AW2_seq ?_
   refine chkK H fun h3 H => ?_
   refine AW2_ghoQ ?_
   refine AW2_draw 8 [8, 9] (fun k => ([.q 1 (0 + 6), .p ((fun q : List GExpr => AV.lst (q.flatMap GExpr.cs) q.length) e0.Args), .i (e0.Args.length : Int), .c (.own 3 want3'1.length 1), .q 1 (0 + 0), .i e0.Op, .q 3 (0 + e0.Op.toNat * 1), .i (lrd want3'1 e0.Op.toNat)] : List TV).getD k TV.any) (fun k => g_ref_nodeFault_r4.getD k []) [(1, none), (21, some 2), (26, some 7)] [] (fun k => g_ref_nodeFault_r4c.getD k []) mixed (by kernel_rfl) rfl rfl (a_op (g_x rfl (x_p rfl (u_fa rfl rfl Tryd.underlying27 rfl in_25 (Nat.succ_ne_zero _) rfl rfl (ne_of_lt (n := 0) (Nat.lt_of_lt_of_eq (by decide) (Eq.symm (GExpr.len e0))))) rfl)) (a_op (g_x rfl (x_p rfl (u_ld rfl rfl Tryd.underlying25 rfl rfl ((Sub.refl _).trans (GExpr.sub3 e0))) rfl)) (a_op (g_x rfl (x_p rfl (p_lenl rfl Tryd.underlying25 rfl rfl) rfl)) (a_op (g_x rfl (x_p rfl (p_move rfl rfl) rfl)) (a_op (g_x rfl (x_p rfl (u_fa rfl rfl Tryd.underlying27 rfl in_3 (Nat.succ_ne_zero _) rfl rfl (ne_of_lt (n := 0) (Nat.lt_of_lt_of_eq (by decide) (Eq.symm (GExpr.len e0))))) rfl)) (a_op (g_x rfl (x_p rfl (u_ld rfl rfl Tryd.underlying3 rfl rfl ((Sub.refl _).trans (GExpr.sub0 e0))) rfl)) (a_op (g_x rfl (x_p rfl (u_ixo rfl rfl Tryd.underlying38 in_3 rfl rfl (lne (ixn h3)) rfl (ixe h3) (ixn h3)) rfl)) (a_op (g_x rfl (x_p rfl (u_ld rfl rfl Tryd.underlying3 rfl rfl ((Sub.refl _).trans (Sub.map default (ixn h3)))) rfl)) (a_nil))))))))) ?_
   refine t_op rfl rfl (PureD.opD (p_ieq rfl rfl rfl)) ?_
   refine t_op rfl rfl (PureD.opD (p_asg rfl rfl)) ?_
   refine t_gho (Gho_st (L := [(1, .q 1 (0)), (4, .b (decide ((e0.Args.length : Int) = (lrd want3'1 e0.Op.toNat))))]) (H := [(1, .pure (GExpr.cs e0))]) (N := 97) rfl ⟨TLes.same _, TLes.same _, trivial⟩ ⟨rfl, trivial⟩) ?_
   refine AW2_seq ?_
   refine bindK H fun j'2 h4 H => ?_
   refine AW2_mid (⟨[(1, .q 1 (0)), (4, .b j'2)], [(1, .pure (GExpr.cs e0))], 97⟩ : TS) ?_ ?_
   ·clear H
    have H := h4
    clear h4
    refine sg [0, 1] rfl ?_
    refine rp rfl rfl (u_fa rfl rfl Tryd.underlying27 rfl in_3 (Nat.succ_ne_zero _) rfl rfl (ne_of_lt (n := 0) (Nat.lt_of_lt_of_eq (by decide) (Eq.symm (GExpr.len e0))))) ?_
    refine rp rfl rfl (u_ld rfl rfl Tryd.underlying3 rfl rfl ((Sub.refl _).trans (GExpr.sub0 e0))) ?_
    refine rz [(1, .q 1 (0)), (4, .b (decide ((e0.Args.length : Int) = (lrd want3'1 e0.Op.toNat)))), (29, .i e0.Op)] [(1, .pure (GExpr.cs e0))] rfl rfl rfl ?_
    refine AW2_block ?_
    refine sg [0, 1] rfl ?_
    refine rp rfl rfl (p_ieq rfl rfl rfl) ?_
    refine rp rfl rfl (p_asg rfl rfl) ?_
    refine rz [(1, .q 1 (0)), (4, .b (decide ((e0.Args.length : Int) = (lrd want3'1 e0.Op.toNat)))), (29, .i e0.Op), (42, .b (decide (e0.Op = (1 : Int))))] [(1, .pure (GExpr.cs e0))] rfl rfl rfl ?_
    refine AW2_if (p := e0.Op = (1 : Int)) rfl (fun h5 => ?_) (fun h5 => ?_)
    ·replace H := ite_then h5 H
     refine bindK H fun g'5 h11 H => ?_
     refine AW2_mid (⟨[(1, .q 1 (0)), (4, .b g'5)], [(1, .pure (GExpr.cs e0))], 97⟩ : TS) ?_ ?_
     ·clear H
      have H := h11
      clear h11
      refine AW2_reg [0, 1, 2, 3, 4, 5, 6, 7, 8, 9, 10, 11, 12, 13, 14, 15, 16, 17, 18] rfl ?_
      refine rp rfl rfl (p_move rfl rfl) ?_
      refine rp rfl rfl (p_move rfl rfl) ?_
      refine (Classical.em ((e0.Args.length : Int) = (lrd want3'1 e0.Op.toNat))).elim (fun h7 => ?_) (fun h7 => ?_)
      ·replace H := ite_then h7 H
       refine r_on rfl rfl rfl rfl (decide_eq_true h7) rfl (PureD.opD (u_fa rfl rfl Tryd.underlying27 rfl in_9 (Nat.succ_ne_zero _) rfl rfl (ne_of_lt (n := 0) (Nat.lt_of_lt_of_eq (by decide) (Eq.symm (GExpr.len e0)))))) ?_
       refine r_on rfl rfl rfl rfl (decide_eq_true h7) rfl (PureD.opD (u_ld rfl rfl Tryd.underlying9 rfl rfl ((Sub.refl _).trans (GExpr.sub2 e0)))) ?_
       refine r_on rfl rfl rfl rfl (decide_eq_true h7) rfl (PureD.opD (p_seq rfl rfl rfl)) ?_
       refine rp rfl rfl (p_pkt rfl rfl (decide_eq_true h7) (.same _)) ?_
       refine rp rfl rfl (p_move rfl rfl) ?_
       refine (Classical.em (e0.Name = [])).elim (fun h8 => ?_) (fun h8 => ?_)
       ·replace H := ite_then h8 H
        refine r_on rfl rfl rfl rfl (decide_eq_true h8) rfl (PureD.opD (u_fa rfl rfl Tryd.underlying27 rfl in_24 (Nat.succ_ne_zero _) rfl rfl (ne_of_lt (n := 0) (Nat.lt_of_lt_of_eq (by decide) (Eq.symm (GExpr.len e0)))))) ?_
        refine r_on rfl rfl rfl rfl (decide_eq_true h8) rfl (PureD.opD (u_lda rfl rfl Tryd.underlying24 rfl in_24 rfl (Nat.succ_pos _) ((Sub.refl _).trans (GExpr.sub1 e0)) (GValue.len e0.Value))) ?_
        refine bindK H fun r'4 h9 H => ?_
        refine r_on rfl rfl rfl rfl (decide_eq_true h8) rfl (PureD.opD (p_callp rfl rfl rfl Tryd.func20 rfl rfl (g_ref_ValueFault_ac h9) ⟨rfl, trivial⟩)) ?_
        refine r_on rfl rfl rfl rfl (decide_eq_true h8) rfl (PureD.opD (p_ieq rfl rfl rfl)) ?_
        refine rp rfl rfl (p_pkt rfl rfl (decide_eq_true h8) (.same _)) ?_
        refine rp rfl rfl (p_move rfl rfl) ?_
        refine (Classical.em (r'4 = (0 : Int))).elim (fun h10 => ?_) (fun h10 => ?_)
        ·replace H := ite_then h10 H
         refine r_on rfl rfl rfl rfl (decide_eq_true h10) rfl (PureD.opD (u_fa rfl rfl Tryd.underlying27 rfl in_24 (Nat.succ_ne_zero _) rfl rfl (ne_of_lt (n := 0) (Nat.lt_of_lt_of_eq (by decide) (Eq.symm (GExpr.len e0)))))) ?_
         refine r_on rfl rfl rfl rfl (decide_eq_true h10) rfl (PureD.opD (u_fa rfl rfl Tryd.underlying24 rfl in_3 (Nat.succ_ne_zero _) rfl rfl (ne_of_lt (n := 0) (Nat.lt_of_lt_of_eq (by decide) (Eq.symm (GExpr.len e0)))))) ?_
         refine r_on rfl rfl rfl rfl (decide_eq_true h10) rfl (PureD.opD (u_ld rfl rfl Tryd.underlying3 rfl rfl (((Sub.refl _).trans (GExpr.sub1 e0)).trans (GValue.sub1 e0.Value)))) ?_
         refine r_on rfl rfl rfl rfl (decide_eq_true h10) rfl (PureD.opD (p_bin rfl rfl rfl rfl)) ?_
         refine rp rfl rfl (p_pkt rfl rfl (decide_eq_true h10) (.same _)) ?_
         refine rp rfl rfl (p_asg rfl rfl) ?_
         refine rs [(1, .q 1 (0)), (4, .b (decide (e0.Value.Int_ ≥ (0 : Int))))] [(1, .pure (GExpr.cs e0))] rfl rfl rfl ?_
         have hz := some_elim H
         subst hz
         exact RunW_nil rfl
        ·replace H := ite_else h10 H
         iterate 4 (refine r_off rfl rfl rfl rfl (decide_eq_false h10) rfl rfl ?_)
         refine rp rfl rfl (p_pkf rfl rfl (decide_eq_false h10) (.same _)) ?_
         refine rp rfl rfl (p_asg rfl rfl) ?_
         refine rs [(1, .q 1 (0)), (4, .b false)] [(1, .pure (GExpr.cs e0))] rfl rfl rfl ?_
         have hz := some_elim H
         subst hz
         exact RunW_nil rfl
       ·replace H := ite_else h8 H
        iterate 4 (refine r_off rfl rfl rfl rfl (decide_eq_false h8) rfl rfl ?_)
        refine rp rfl rfl (p_pkf rfl rfl (decide_eq_false h8) (.same _)) ?_
        refine rp rfl rfl (p_move rfl rfl) ?_
        iterate 4 (refine r_off rfl rfl rfl rfl (bfalse (by decide)) rfl rfl ?_)
        refine rp rfl rfl (p_pkf rfl rfl (bfalse (by decide)) (.same _)) ?_
        refine rp rfl rfl (p_asg rfl rfl) ?_
        refine rs [(1, .q 1 (0)), (4, .b false)] [(1, .pure (GExpr.cs e0))] rfl rfl rfl ?_
        have hz := some_elim H
        subst hz
        exact RunW_nil rfl
      ·replace H := ite_else h7 H
       iterate 3 (refine r_off rfl rfl rfl rfl (decide_eq_false h7) rfl rfl ?_)
       refine rp rfl rfl (p_pkf rfl rfl (decide_eq_false h7) (.same _)) ?_
       refine rp rfl rfl (p_move rfl rfl) ?_
       iterate 4 (refine r_off rfl rfl rfl rfl (bfalse (by decide)) rfl rfl ?_)
       refine rp rfl rfl (p_pkf rfl rfl (bfalse (by decide)) (.same _)) ?_
       refine rp rfl rfl (p_move rfl rfl) ?_
       iterate 4 (refine r_off rfl rfl rfl rfl (bfalse (by decide)) rfl rfl ?_)
       refine rp rfl rfl (p_pkf rfl rfl (bfalse (by decide)) (.same _)) ?_
       refine rp rfl rfl (p_asg rfl rfl) ?_
       refine rs [(1, .q 1 (0)), (4, .b false)] [(1, .pure (GExpr.cs e0))] rfl rfl rfl ?_
       have hz := some_elim H
       subst hz
       exact RunW_nil rfl
     ·have hz := some_elim H
      subst hz
      exact rfl
    ·replace H := ite_else h5 H
     refine sg [0, 1] rfl ?_
     refine rp rfl rfl (p_ieq rfl rfl rfl) ?_
     refine rp rfl rfl (p_asg rfl rfl) ?_
     refine rz [(1, .q 1 (0)), (4, .b (decide ((e0.Args.length : Int) = (lrd want3'1 e0.Op.toNat)))), (62, .b (decide (e0.Op = (2 : Int))))] [(1, .pure (GExpr.cs e0))] rfl rfl rfl ?_
     refine AW2_if (p := e0.Op = (2 : Int)) rfl (fun h13 => ?_) (fun h13 => ?_)
     ·replace H := ite_then h13 H
      refine bindK H fun g'8 h19 H => ?_
      refine AW2_mid (⟨[(1, .q 1 (0)), (4, .b g'8)], [(1, .pure (GExpr.cs e0))], 97⟩ : TS) ?_ ?_
      ·clear H
       have H := h19
       clear h19
       refine AW2_reg [0, 1, 2, 3, 4, 5, 6, 7, 8, 9, 10, 11, 12, 13, 14, 15, 16, 17, 18] rfl ?_
       refine rp rfl rfl (p_move rfl rfl) ?_
       refine rp rfl rfl (p_move rfl rfl) ?_
       refine (Classical.em ((e0.Args.length : Int) = (lrd want3'1 e0.Op.toNat))).elim (fun h15 => ?_) (fun h15 => ?_)
       ·replace H := ite_then h15 H
        refine r_on rfl rfl rfl rfl (decide_eq_true h15) rfl (PureD.opD (u_fa rfl rfl Tryd.underlying27 rfl in_24 (Nat.succ_ne_zero _) rfl rfl (ne_of_lt (n := 0) (Nat.lt_of_lt_of_eq (by decide) (Eq.symm (GExpr.len e0)))))) ?_
        refine r_on rfl rfl rfl rfl (decide_eq_true h15) rfl (PureD.opD (u_lda rfl rfl Tryd.underlying24 rfl in_24 rfl (Nat.succ_pos _) ((Sub.refl _).trans (GExpr.sub1 e0)) (GValue.len e0.Value))) ?_
        refine r_on rfl rfl rfl rfl (decide_eq_true h15) rfl (PureD.opD (u_bld rfl in_24 one_24 zc_24 pl_24 rfl rfl)) ?_
        refine r_on rfl rfl rfl rfl (decide_eq_true h15) rfl (PureD.opD (p_eqa (a := e0.Value) (b := GValue.zero) rfl eq_24 rfl (by kernel_rfl) rfl rfl)) ?_
        refine rp rfl rfl (p_pkt rfl rfl (decide_eq_true h15) (.same _)) ?_
        refine rp rfl rfl (p_move rfl rfl) ?_
        refine (Classical.em (e0.Value = GValue.zero)).elim (fun h16 => ?_) (fun h16 => ?_)
        ·replace H := ite_then h16 H
         refine r_on rfl rfl rfl rfl (decide_eq_true h16) rfl (PureD.opD (u_fa rfl rfl Tryd.underlying27 rfl in_9 (Nat.succ_ne_zero _) rfl rfl (ne_of_lt (n := 0) (Nat.lt_of_lt_of_eq (by decide) (Eq.symm (GExpr.len e0)))))) ?_
         refine r_on rfl rfl rfl rfl (decide_eq_true h16) rfl (PureD.opD (u_ld rfl rfl Tryd.underlying9 rfl rfl ((Sub.refl _).trans (GExpr.sub2 e0)))) ?_
         refine bindK H fun r'7 h17 H => ?_
         refine r_on rfl rfl rfl rfl (decide_eq_true h16) rfl (PureD.opD (p_callp rfl rfl rfl Tryd.func21 rfl rfl (g_ref_isName_ac h17) ⟨rfl, trivial⟩)) ?_
         refine rp rfl rfl (p_pkt rfl rfl (decide_eq_true h16) (.same _)) ?_
         refine rp rfl rfl (p_move rfl rfl) ?_
         refine (Classical.em (r'7 = true)).elim (fun h18 => ?_) (fun h18 => ?_)
         ·replace H := ite_then h18 H
          refine rn rfl rfl rfl rfl h18 rfl (u_fa rfl rfl Tryd.underlying27 rfl in_9 (Nat.succ_ne_zero _) rfl rfl (ne_of_lt (n := 0) (Nat.lt_of_lt_of_eq (by decide) (Eq.symm (GExpr.len e0))))) ?_
          refine rn rfl rfl rfl rfl h18 rfl (u_ld rfl rfl Tryd.underlying9 rfl rfl ((Sub.refl _).trans (GExpr.sub2 e0))) ?_
          refine rn rfl rfl rfl rfl h18 rfl (p_lent rfl Tryd.underlying9 rfl) ?_
          refine rn rfl rfl rfl rfl h18 rfl (p_bin rfl rfl rfl rfl) ?_
          refine rp rfl rfl (p_pkt rfl rfl h18 (.same _)) ?_
          refine rp rfl rfl (p_asg rfl rfl) ?_
          refine rs [(1, .q 1 (0)), (4, .b (decide ((e0.Name.length : Int) ≤ (8 : Int))))] [(1, .pure (GExpr.cs e0))] rfl rfl rfl ?_
          have hz := some_elim H
          subst hz
          exact RunW_nil rfl
         ·replace H := ite_else h18 H
          iterate 4 (refine r_off rfl rfl rfl rfl (bfalse h18) rfl rfl ?_)
          refine rp rfl rfl (p_pkf rfl rfl (bfalse h18) (.same _)) ?_
          refine rp rfl rfl (p_asg rfl rfl) ?_
          refine rs [(1, .q 1 (0)), (4, .b false)] [(1, .pure (GExpr.cs e0))] rfl rfl rfl ?_
          have hz := some_elim H
          subst hz
          exact RunW_nil rfl
        ·replace H := ite_else h16 H
         iterate 3 (refine r_off rfl rfl rfl rfl (decide_eq_false h16) rfl rfl ?_)
         refine rp rfl rfl (p_pkf rfl rfl (decide_eq_false h16) (.same _)) ?_
         refine rp rfl rfl (p_move rfl rfl) ?_
         iterate 4 (refine r_off rfl rfl rfl rfl (bfalse (by decide)) rfl rfl ?_)
         refine rp rfl rfl (p_pkf rfl rfl (bfalse (by decide)) (.same _)) ?_
         refine rp rfl rfl (p_asg rfl rfl) ?_
         refine rs [(1, .q 1 (0)), (4, .b false)] [(1, .pure (GExpr.cs e0))] rfl rfl rfl ?_
         have hz := some_elim H
         subst hz
         exact RunW_nil rfl
       ·replace H := ite_else h15 H
        iterate 4 (refine r_off rfl rfl rfl rfl (decide_eq_false h15) rfl rfl ?_)
        refine rp rfl rfl (p_pkf rfl rfl (decide_eq_false h15) (.same _)) ?_
        refine rp rfl rfl (p_move rfl rfl) ?_
        iterate 3 (refine r_off rfl rfl rfl rfl (bfalse (by decide)) rfl rfl ?_)
        refine rp rfl rfl (p_pkf rfl rfl (bfalse (by decide)) (.same _)) ?_
        refine rp rfl rfl (p_move rfl rfl) ?_
        iterate 4 (refine r_off rfl rfl rfl rfl (bfalse (by decide)) rfl rfl ?_)
        refine rp rfl rfl (p_pkf rfl rfl (bfalse (by decide)) (.same _)) ?_
        refine rp rfl rfl (p_asg rfl rfl) ?_
        refine rs [(1, .q 1 (0)), (4, .b false)] [(1, .pure (GExpr.cs e0))] rfl rfl rfl ?_
        have hz := some_elim H
        subst hz
        exact RunW_nil rfl
      ·have hz := some_elim H
       subst hz
       exact rfl
     ·replace H := ite_else h13 H
      refine AW2_mid (⟨[(1, .q 1 (0)), (4, .b (decide ((((e0.Args.length : Int) = (lrd want3'1 e0.Op.toNat)) ∧ (e0.Name = [])) ∧ (e0.Value = GValue.zero))))], [(1, .pure (GExpr.cs e0))], 97⟩ : TS) ?_ ?_
      ·refine AW2_reg [0, 1, 2, 3, 4, 5, 6, 7, 8, 9, 10, 11, 12] rfl ?_
       refine rp rfl rfl (p_move rfl rfl) ?_
       refine rp rfl rfl (p_move rfl rfl) ?_
       refine (Classical.em ((e0.Args.length : Int) = (lrd want3'1 e0.Op.toNat))).elim (fun h21 => ?_) (fun h21 => ?_)
       ·refine r_on rfl rfl rfl rfl (decide_eq_true h21) rfl (PureD.opD (u_fa rfl rfl Tryd.underlying27 rfl in_9 (Nat.succ_ne_zero _) rfl rfl (ne_of_lt (n := 0) (Nat.lt_of_lt_of_eq (by decide) (Eq.symm (GExpr.len e0)))))) ?_
        refine r_on rfl rfl rfl rfl (decide_eq_true h21) rfl (PureD.opD (u_ld rfl rfl Tryd.underlying9 rfl rfl ((Sub.refl _).trans (GExpr.sub2 e0)))) ?_
        refine r_on rfl rfl rfl rfl (decide_eq_true h21) rfl (PureD.opD (p_seq rfl rfl rfl)) ?_
        refine rp rfl rfl (p_pkt rfl rfl (decide_eq_true h21) (tb ((and_l (p := (e0.Args.length : Int) = (lrd want3'1 e0.Op.toNat)) (q := e0.Name = []) h21)))) ?_
        refine rp rfl rfl (p_move rfl rfl) ?_
        refine (Classical.em (e0.Name = [])).elim (fun h22 => ?_) (fun h22 => ?_)
        ·have qq1 := decide_eq_true (p := ((e0.Args.length : Int) = (lrd want3'1 e0.Op.toNat)) ∧ (e0.Name = [])) ⟨h21, h22⟩
         refine rn rfl rfl rfl rfl qq1 rfl (u_fa rfl rfl Tryd.underlying27 rfl in_24 (Nat.succ_ne_zero _) rfl rfl (ne_of_lt (n := 0) (Nat.lt_of_lt_of_eq (by decide) (Eq.symm (GExpr.len e0))))) ?_
         refine rn rfl rfl rfl rfl qq1 rfl (u_lda rfl rfl Tryd.underlying24 rfl in_24 rfl (Nat.succ_pos _) ((Sub.refl _).trans (GExpr.sub1 e0)) (GValue.len e0.Value)) ?_
         refine rn rfl rfl rfl rfl qq1 rfl (u_bld rfl in_24 one_24 zc_24 pl_24 rfl rfl) ?_
         refine rn rfl rfl rfl rfl qq1 rfl (p_eqa (a := e0.Value) (b := GValue.zero) rfl eq_24 rfl (by kernel_rfl) rfl rfl) ?_
         refine rp rfl rfl (p_pkt rfl rfl qq1 (tb ((and_l (p := ((e0.Args.length : Int) = (lrd want3'1 e0.Op.toNat)) ∧ (e0.Name = [])) (q := e0.Value = GValue.zero) ⟨h21, h22⟩)))) ?_
         refine rp rfl rfl (p_asg rfl rfl) ?_
         refine rs [(1, .q 1 (0)), (4, .b (decide ((((e0.Args.length : Int) = (lrd want3'1 e0.Op.toNat)) ∧ (e0.Name = [])) ∧ (e0.Value = GValue.zero))))] [(1, .pure (GExpr.cs e0))] rfl rfl rfl ?_
         exact RunW_nil rfl
        ·have qq2 := decide_eq_false (p := ((e0.Args.length : Int) = (lrd want3'1 e0.Op.toNat)) ∧ (e0.Name = [])) (fun h => h22 h.2)
         iterate 4 (refine r_off rfl rfl rfl rfl qq2 rfl rfl ?_)
         refine rp rfl rfl (p_pkf rfl rfl qq2 (tb (decide_eq_false (p := (((e0.Args.length : Int) = (lrd want3'1 e0.Op.toNat)) ∧ (e0.Name = [])) ∧ (e0.Value = GValue.zero)) (fun x => (fun h => h22 h.2) x.1)).symm)) ?_
         refine rp rfl rfl (p_asg rfl rfl) ?_
         refine rs [(1, .q 1 (0)), (4, .b (decide ((((e0.Args.length : Int) = (lrd want3'1 e0.Op.toNat)) ∧ (e0.Name = [])) ∧ (e0.Value = GValue.zero))))] [(1, .pure (GExpr.cs e0))] rfl rfl rfl ?_
         exact RunW_nil rfl
       ·iterate 3 (refine r_off rfl rfl rfl rfl (decide_eq_false h21) rfl rfl ?_)
        refine rp rfl rfl (p_pkf rfl rfl (decide_eq_false h21) (tb (decide_eq_false (p := ((e0.Args.length : Int) = (lrd want3'1 e0.Op.toNat)) ∧ (e0.Name = [])) (fun x => h21 x.1)).symm)) ?_
        refine rp rfl rfl (p_move rfl rfl) ?_
        have qq3 := decide_eq_false (p := ((e0.Args.length : Int) = (lrd want3'1 e0.Op.toNat)) ∧ (e0.Name = [])) (fun h => h21 h.1)
        iterate 4 (refine r_off rfl rfl rfl rfl qq3 rfl rfl ?_)
        refine rp rfl rfl (p_pkf rfl rfl qq3 (tb (decide_eq_false (p := (((e0.Args.length : Int) = (lrd want3'1 e0.Op.toNat)) ∧ (e0.Name = [])) ∧ (e0.Value = GValue.zero)) (fun x => (fun h => h21 h.1) x.1)).symm)) ?_
        refine rp rfl rfl (p_asg rfl rfl) ?_
        refine rs [(1, .q 1 (0)), (4, .b (decide ((((e0.Args.length : Int) = (lrd want3'1 e0.Op.toNat)) ∧ (e0.Name = [])) ∧ (e0.Value = GValue.zero))))] [(1, .pure (GExpr.cs e0))] rfl rfl rfl ?_
        exact RunW_nil rfl
      ·have hz := some_elim H
       subst hz
       exact rfl
   ·refine AW2_seq ?_
    refine sg [0, 1] rfl ?_
    refine rp rfl rfl (p_move rfl rfl) ?_
    refine rp rfl rfl (p_not rfl rfl) ?_
    refine rz [(1, .q 1 (0)), (83, .b (!j'2))] [(1, .pure (GExpr.cs e0))] rfl rfl rfl ?_
    refine AW2_cond rfl (fun h23 => ?_) (fun h23 => ?_)
    ·replace H := ite_then h23 H
     refine sg [0] rfl ?_
     refine rp rfl rfl (p_asg rfl rfl) ?_
     refine rz [(2, .i (3 : Int))] [] rfl rfl rfl ?_
     refine AW2_ret ?_
     have hz := some_elim H
     subst hz
     exact ⟨⟨res_tmp (.same _), trivial⟩, trivial⟩
    ·replace H := ite_else (ne_true h23) H
     refine as2 [(1, .q 1 (0))] [(1, .pure (GExpr.cs e0))] rfl rfl rfl ?_
     refine AW2_skip ?_
     refine AW2_seq ?_
     refine sg [0, 1, 2, 3] rfl ?_
     refine rp rfl rfl (u_fa rfl rfl Tryd.underlying27 rfl in_25 (Nat.succ_ne_zero _) rfl rfl (ne_of_lt (n := 0) (Nat.lt_of_lt_of_eq (by decide) (Eq.symm (GExpr.len e0))))) ?_
     refine rp rfl rfl (u_ld rfl rfl Tryd.underlying25 rfl rfl ((Sub.refl _).trans (GExpr.sub3 e0))) ?_
     refine rp rfl rfl (p_lenl rfl Tryd.underlying25 rfl rfl) ?_
     refine rp rfl rfl (p_move rfl rfl) ?_
     refine rz [(85, .p ((fun q : List GExpr => AV.lst (q.flatMap GExpr.cs) q.length) e0.Args)), (86, .i (e0.Args.length : Int)), (87, .i (0 : Int))] [] rfl rfl rfl ?_
     refine AW2_block ?_
     refine as2 [(85, .p ((fun q : List GExpr => AV.lst (q.flatMap GExpr.cs) q.length) e0.Args)), (86, .i (e0.Args.length : Int)), (87, .i (0 : Int))] [] rfl rfl rfl ?_
     refine bindK H fun o'13 h28 H => ?_
     refine AW2_loopO (fun a'10 : Int => (⟨[(85, .p ((fun q : List GExpr => AV.lst (q.flatMap GExpr.cs) q.length) e0.Args)), (86, .i (e0.Args.length : Int)), (87, .i a'10)], [], 97⟩ : TS)) (fun (o : Int ⊕ Unit) e s' => match o with | .inl y'11 => e = Go.Exit.ret ∧ ResAll Tryd.prog s' [ResultVar.tmp 2] [.i y'11] ∧ HFits s' [] | .inr (y'12) => e = Go.Exit.exit 1 ∧ s' = (⟨[], [], 97⟩ : TS)) h28 rfl (fun t87_0 x hx => ?_) (fun e s' hs => ?_)
     ·clear H
      have H := hx
      clear hx
      unfold g_ref_nodeFault_l0 at H
      refine sg [0] rfl ?_
      refine rp rfl rfl (p_bin rfl rfl rfl rfl) ?_
      refine rz [(85, .p ((fun q : List GExpr => AV.lst (q.flatMap GExpr.cs) q.length) e0.Args)), (86, .i (e0.Args.length : Int)), (87, .i t87_0), (88, .b (decide (t87_0 < (e0.Args.length : Int))))] [] rfl rfl rfl ?_
      refine AW2_seq ?_
      refine AW2_if (p := t87_0 < (e0.Args.length : Int)) rfl (fun h24 => ?_) (fun h24 => ?_)
      ·replace H := ite_then h24 H
       refine as2 [(85, .p ((fun q : List GExpr => AV.lst (q.flatMap GExpr.cs) q.length) e0.Args)), (86, .i (e0.Args.length : Int)), (87, .i t87_0)] [] rfl rfl rfl ?_
       refine AW2_skip ?_
       refine AW2_seq ?_
       refine AW2_block ?_
       refine sg [0, 1, 2, 3] rfl ?_
       refine chkK H fun h25 H => ?_
       refine rp rfl rfl (u_ixl rfl rfl Tryd.underlying25 in_27 rfl rfl (ixe h25) (ixn h25) (fne (fun x => (GExpr.len x)) (by decide) (ixn h25))) ?_
       refine rp rfl rfl (u_lda rfl rfl Tryd.underlying27 rfl in_27 rfl (Nat.succ_pos _) (Sub.fm default (fun x => (GExpr.len x)) (ixn h25)) (GExpr.len (lrd e0.Args t87_0.toNat))) ?_
       refine r_op rfl rfl (MakeD.opD (u_alloc 6 rfl in_27 one_27 zc_27) rfl rfl rfl rfl) ?_
       refine r_op rfl rfl (u_st rfl rfl rfl rfl rfl in_27 (GExpr.len (lrd e0.Args t87_0.toNat)) (ne_of_lt (n := 0) (Nat.lt_of_lt_of_eq (by decide) (Eq.symm (GExpr.len GExpr.zero)))) (Upd.refl ((GExpr.len (lrd e0.Args t87_0.toNat)).trans (GExpr.len GExpr.zero).symm))) ?_
       refine rz [(6, .q 6 (0)), (85, .p ((fun q : List GExpr => AV.lst (q.flatMap GExpr.cs) q.length) e0.Args)), (86, .i (e0.Args.length : Int)), (87, .i t87_0)] [(6, .pure (GExpr.cs (lrd e0.Args t87_0.toNat)))] rfl rfl rfl ?_
       refine sg [0, 1, 2] rfl ?_
       refine rp rfl rfl (u_lda rfl rfl Tryd.underlying27 rfl in_27 rfl (Nat.succ_pos _) (Sub.refl _) (GExpr.len (lrd e0.Args t87_0.toNat))) ?_
       refine bindK H fun r'9 h26 H => ?_
       refine rp rfl rfl (p_callp rfl rfl rfl Tryd.func18 rfl rfl (hR h26) ⟨rfl, trivial⟩) ?_
       refine rp rfl rfl (p_asg rfl rfl) ?_
       refine rz [(7, .i r'9), (85, .p ((fun q : List GExpr => AV.lst (q.flatMap GExpr.cs) q.length) e0.Args)), (86, .i (e0.Args.length : Int)), (87, .i t87_0)] [] rfl rfl rfl ?_
       refine sg [0, 1] rfl ?_
       refine rp rfl rfl (p_move rfl rfl) ?_
       refine rp rfl rfl (p_ine rfl rfl rfl) ?_
       refine rz [(7, .i r'9), (85, .p ((fun q : List GExpr => AV.lst (q.flatMap GExpr.cs) q.length) e0.Args)), (86, .i (e0.Args.length : Int)), (87, .i t87_0), (94, .b (decide (r'9 ≠ (0 : Int))))] [] rfl rfl rfl ?_
       refine AW2_if (p := r'9 ≠ (0 : Int)) rfl (fun h27 => ?_) (fun h27 => ?_)
       ·replace H := ite_then h27 H
        refine sg [0, 1] rfl ?_
        refine rp rfl rfl (p_move rfl rfl) ?_
        refine rp rfl rfl (p_asg rfl rfl) ?_
        refine rz [(2, .i r'9)] [] rfl rfl rfl ?_
        refine AW2_ret ?_
        have hz := some_elim H
        subst hz
        exact ⟨rfl, ⟨res_tmp (.same _), trivial⟩, trivial⟩
       ·replace H := ite_else h27 H
        refine as2 [(85, .p ((fun q : List GExpr => AV.lst (q.flatMap GExpr.cs) q.length) e0.Args)), (86, .i (e0.Args.length : Int)), (87, .i t87_0)] [] rfl rfl rfl ?_
        refine AW2_skip ?_
        refine AW2_reg [0, 1] rfl ?_
        refine rp rfl rfl (p_bin rfl rfl rfl rfl) ?_
        refine rp rfl rfl (p_move rfl rfl) ?_
        refine rz [(85, .p ((fun q : List GExpr => AV.lst (q.flatMap GExpr.cs) q.length) e0.Args)), (86, .i (e0.Args.length : Int)), (87, .i (w64 (t87_0 + (1 : Int))))] [] rfl rfl rfl ?_
        have hz := some_elim H
        subst hz
        exact ⟨rfl, rfl⟩
      ·replace H := ite_else h24 H
       refine as2 [] [] rfl rfl rfl ?_
       refine AW2_exit ?_
       refine thenQ2_exit ?_
       have hz := some_elim H
       subst hz
       exact ⟨rfl, rfl⟩
     ·rcases o'13 with y'14 | y'15
      ·obtain ⟨rfl, hs⟩ := hs
       refine ⟨by simp, ?_⟩
       have hz := some_elim H
       subst hz
       exact ⟨hs.1, hs.2⟩
      ·obtain ⟨rfl, rfl⟩ := hs
       refine ⟨by simp, ?_⟩
       refine blockQ2_exit ?_
       refine sg [0] rfl ?_
       refine rp rfl rfl (p_asg rfl rfl) ?_
       refine rz [(2, .i (0 : Int))] [] rfl rfl rfl ?_
       refine AW2_ret ?_
       have hz := some_elim H
       subst hz
       exact ⟨⟨res_tmp (.same _), trivial⟩, trivial⟩
theorem g_ref_nodeFault_acN : ∀ (fu : Nat) {e0 : GExpr} {r : Int}, g_ref_nodeFault fu e0 = some r → ACp Tryd.prog 18 [(.agg (GExpr.cs e0))] (AV.int r)
 | 0, _, _, H => (by cases H)
 | fu + 1, _, _, H => g_ref_nodeFault_ac0 (g_ref_nodeFault_acN fu) H
theorem g_ref_nodeFault_ac {e0 : GExpr} {r : Int} (H : g_ref_nodeFault 100000 e0 = some r) : ACp Tryd.prog 18 [(.agg (GExpr.cs e0))] (AV.int r) := g_ref_nodeFault_acN 100000 H

/-! chirographref.ExprFault -/
noncomputable def g_ref_ExprFault (e0 : GExpr) : Option (Int) :=
  (g_ref_within e0).bind fun r'1 => (if (!r'1) = true then some (1 : Int) else (g_ref_nodeFault 100000 e0).bind fun r'2 => some r'2)
set_option maxHeartbeats 4000000 in
set_option maxRecDepth 100000 in
theorem g_ref_ExprFault_ac {e0 : GExpr} {r : Int} (H : g_ref_ExprFault e0 = some r) : ACp Tryd.prog 9 [(.agg (GExpr.cs e0))] (AV.int r) := by
 refine ACp_of (AC2_of_body (vs := [.i r]) Tryd.func9 rfl rfl (Nat.le_of_ble_eq_true rfl) rfl ?_) (fun _ => .same _)
 unfold g_ref_ExprFault at H
 refine as2 [(0, .g (GExpr.cs e0))] [] rfl rfl rfl ?_
 refine sg [0, 1] rfl ?_
 refine r_op rfl rfl (MakeD.opD (n_box 1 rfl rfl) rfl rfl rfl rfl) ?_
 refine rp rfl rfl (p_asg rfl rfl) ?_
 refine rz [(1, .q 1 (0))] [(1, .pure (GExpr.cs e0))] rfl rfl rfl ?_
 refine AW2_seq ?_
 refine sg [0, 1, 2] rfl ?_
 refine rp rfl rfl (u_lda rfl rfl Tryd.underlying27 rfl in_27 rfl (Nat.succ_pos _) (Sub.refl _) (GExpr.len e0)) ?_
 refine bindK H fun r'1 h1 H => ?_
 refine rp rfl rfl (p_callp rfl rfl rfl Tryd.func17 rfl rfl (g_ref_within_ac h1) ⟨rfl, trivial⟩) ?_
 refine rp rfl rfl (p_not rfl rfl) ?_
 refine rz [(1, .q 1 (0)), (5, .b (!r'1))] [(1, .pure (GExpr.cs e0))] rfl rfl rfl ?_
 refine AW2_cond rfl (fun h2 => ?_) (fun h2 => ?_)
 ·replace H := ite_then h2 H
  refine sg [0] rfl ?_
  refine rp rfl rfl (p_asg rfl rfl) ?_
  refine rz [(2, .i (1 : Int))] [] rfl rfl rfl ?_
  refine AW2_ret ?_
  have hz := some_elim H
  subst hz
  exact ⟨⟨res_tmp (.same _), trivial⟩, trivial⟩
 ·replace H := ite_else (ne_true h2) H
  refine as2 [(1, .q 1 (0))] [(1, .pure (GExpr.cs e0))] rfl rfl rfl ?_
  refine AW2_skip ?_
  refine sg [0, 1, 2] rfl ?_
  refine rp rfl rfl (u_lda rfl rfl Tryd.underlying27 rfl in_27 rfl (Nat.succ_pos _) (Sub.refl _) (GExpr.len e0)) ?_
  refine bindK H fun r'2 h3 H => ?_
  refine rp rfl rfl (p_callp rfl rfl rfl Tryd.func18 rfl rfl (g_ref_nodeFault_ac h3) ⟨rfl, trivial⟩) ?_
  refine rp rfl rfl (p_asg rfl rfl) ?_
  refine rz [(2, .i r'2)] [] rfl rfl rfl ?_
  refine AW2_ret ?_
  have hz := some_elim H
  subst hz
  exact ⟨⟨res_tmp (.same _), trivial⟩, trivial⟩

/-! chirographref.ands -/
def g_ref_ands_r2 : List (List (Nat × Option Nat)) := [[(1, none)], [(6, some 0)], [(7, some 1)], [(8, some 2)], [(9, some 3)], [(1, none)], [(11, some 5)], [(12, some 6)], [(13, some 7)]]
def g_ref_ands_r2c : List (List Nat) := [[], [0], [0, 1], [0, 1, 2], [0, 1, 2, 3], [], [5], [5, 6], [5, 6, 7], [0, 1, 2, 3, 4, 5, 6, 7, 8], [0, 1, 2, 3, 4, 5, 6, 7, 8, 9], [0, 1, 2, 3, 4, 5, 6, 7, 8, 9, 10]]
noncomputable def g_ref_ands_b (R' : GExpr → Option ((List GExpr))) (e0 : GExpr) : Option ((List GExpr)) :=
  (if e0.Op = (15 : Int) then if 0 < e0.Args.length then (R' (lrd e0.Args 0)).bind fun r'1 => if 0 < r'1.length then if 1 < e0.Args.length then (R' (lrd e0.Args 1)).bind fun r'2 => if room (r'1.length + r'2.length) 88 then some (r'1 ++ r'2) else none else none else none else none else some ([e0] : List GExpr))
noncomputable def g_ref_ands : Nat → GExpr → Option ((List GExpr))
  | 0, _ => none
  | fu + 1, e0 => g_ref_ands_b (g_ref_ands fu) e0
set_option maxHeartbeats 4000000 in
set_option maxRecDepth 100000 in
theorem g_ref_ands_ac0 {R' : GExpr → Option ((List GExpr))} (hR2 : ∀ {e0 : GExpr} {r : (List GExpr)}, R' e0 = some r → AC2 Tryd.prog 10 (pureT [(.agg (GExpr.cs e0))]) [] (.c (.own 2 r.length 7)) [(2, .pure (r.flatMap GExpr.cs))]) {e0 : GExpr} {r : (List GExpr)} (H : g_ref_ands_b R' e0 = some r) : AC2 Tryd.prog 10 (pureT [(.agg (GExpr.cs e0))]) [] (.c (.own 2 r.length 7)) [(2, .pure (r.flatMap GExpr.cs))] := by
 have hR : ∀ {e0 : GExpr} {r : (List GExpr)}, R' e0 = some r → ACp Tryd.prog 10 [(.agg (GExpr.cs e0))] ((fun q : List GExpr => AV.lst (q.flatMap GExpr.cs) q.length) r) := fun {e0} {r} H => ACp_pub (hR2 H) (fun _ _ hm => lent_own hm rfl (fm_length (fun x => (GExpr.len x)) r) (by decide))
 refine AC2_of_body (vs := [.c (.own 2 r.length 7)]) Tryd.func10 rfl rfl (Nat.le_of_ble_eq_true rfl) rfl ?_
 unfold g_ref_ands_b at H
 refine as2 [(0, .g (GExpr.cs e0))] [] rfl rfl rfl ?_
 refine sg [0, 1] rfl ?_
 refine r_op rfl rfl (MakeD.opD (n_box 1 rfl rfl) rfl rfl rfl rfl) ?_
 refine rp rfl rfl (p_asgn rfl) ?_
 refine rz [(1, .q 1 (0))] [(1, .pure (GExpr.cs e0))] rfl rfl rfl ?_
 refine AW2_seq ?_
 refine sg [0, 1, 2] rfl ?_
 refine rp rfl rfl (u_fa rfl rfl Tryd.underlying27 rfl in_3 (Nat.succ_ne_zero _) rfl rfl (ne_of_lt (n := 0) (Nat.lt_of_lt_of_eq (by decide) (Eq.symm (GExpr.len e0))))) ?_
 refine rp rfl rfl (u_ld rfl rfl Tryd.underlying3 rfl rfl ((Sub.refl _).trans (GExpr.sub0 e0))) ?_
 refine rp rfl rfl (p_ieq rfl rfl rfl) ?_
 refine rz [(1, .q 1 (0)), (5, .b (decide (e0.Op = (15 : Int))))] [(1, .pure (GExpr.cs e0))] rfl rfl rfl ?_
 refine AW2_if (p := e0.Op = (15 : Int)) rfl (fun h1 => ?_) (fun h1 => ?_)
 ·replace H := ite_then h1 H
  refine AW2_seq ?_
  refine chkK H fun h2 H => ?_
  refine bindK H fun r'1 h3 H => ?_
  refine chkK H fun h4 H => ?_
  refine chkK H fun h5 H => ?_
  refine bindK H fun r'2 h6 H => ?_
  refine chkK H fun h7 H => ?_
  refine AW2_ghoQ ?_
  refine AW2_draw 9 [9, 10, 11] (fun k => ([.q 1 (0 + 6), .p ((fun q : List GExpr => AV.lst (q.flatMap GExpr.cs) q.length) e0.Args), .p (.rptr (e0.Args.flatMap GExpr.cs) (0 * 7)), .g (GExpr.cs (lrd e0.Args 0)), .c (.own 10 r'1.length 7), .q 1 (0 + 6), .p ((fun q : List GExpr => AV.lst (q.flatMap GExpr.cs) q.length) e0.Args), .p (.rptr (e0.Args.flatMap GExpr.cs) (1 * 7)), .g (GExpr.cs (lrd e0.Args 1))] : List TV).getD k TV.any) (fun k => g_ref_ands_r2.getD k []) [(10, some 4), (14, some 8)] [(4, 10, (r'1.flatMap GExpr.cs))] (fun k => g_ref_ands_r2c.getD k []) mixed (by kernel_rfl) rfl rfl (a_op (g_x rfl (x_p rfl (u_fa rfl rfl Tryd.underlying27 rfl in_25 (Nat.succ_ne_zero _) rfl rfl (ne_of_lt (n := 0) (Nat.lt_of_lt_of_eq (by decide) (Eq.symm (GExpr.len e0))))) rfl)) (a_op (g_x rfl (x_p rfl (u_ld rfl rfl Tryd.underlying25 rfl rfl ((Sub.refl _).trans (GExpr.sub3 e0))) rfl)) (a_op (g_x rfl (x_p rfl (u_ixl rfl rfl Tryd.underlying25 in_27 rfl rfl rfl h2 (fne (fun x => (GExpr.len x)) (by decide) h2)) rfl)) (a_op (g_x rfl (x_p rfl (u_lda rfl rfl Tryd.underlying27 rfl in_27 rfl (Nat.succ_pos _) (Sub.fm default (fun x => (GExpr.len x)) h2) (GExpr.len (lrd e0.Args 0))) rfl)) (a_op (g_x rfl (x_m rfl (n_call2 10 rfl rfl rfl Tryd.func10 rfl rfl (hR2 h3) ⟨rfl, trivial⟩ (fne (fun x => (GExpr.len x)) (by decide) h4)) rfl rfl)) (a_op (g_x rfl (x_p rfl (u_fa rfl rfl Tryd.underlying27 rfl in_25 (Nat.succ_ne_zero _) rfl rfl (ne_of_lt (n := 0) (Nat.lt_of_lt_of_eq (by decide) (Eq.symm (GExpr.len e0))))) rfl)) (a_op (g_x rfl (x_p rfl (u_ld rfl rfl Tryd.underlying25 rfl rfl ((Sub.refl _).trans (GExpr.sub3 e0))) rfl)) (a_op (g_x rfl (x_p rfl (u_ixl rfl rfl Tryd.underlying25 in_27 rfl rfl rfl h5 (fne (fun x => (GExpr.len x)) (by decide) h5)) rfl)) (a_op (g_x rfl (x_p rfl (u_lda rfl rfl Tryd.underlying27 rfl in_27 rfl (Nat.succ_pos _) (Sub.fm default (fun x => (GExpr.len x)) h5) (GExpr.len (lrd e0.Args 1))) rfl)) (a_nil)))))))))) ?_
  refine t_op rfl rfl (PureD.opD (p_callp rfl rfl rfl Tryd.func10 rfl rfl (hR h6) ⟨rfl, trivial⟩)) ?_
  refine t_op rfl rfl (u_app [10] rfl rfl rfl rfl Tryd.underlying25 Tryd.underlying25 in_27 rfl rfl rfl (fm_length (fun x => (GExpr.len x)) r'1) (by decide) rfl (fm_length (fun x => (GExpr.len x)) r'2) h7 (by decide) rfl rfl (fapp GExpr.cs r'1 r'2) (lapp r'1 r'2)) ?_
  refine t_op rfl rfl (PureD.opD (p_asg rfl rfl)) ?_
  refine t_gho ((Gho_st (L := [(2, .c (.own 10 (r'1 ++ r'2).length 7))]) (H := [(10, .pure ((r'1 ++ r'2).flatMap GExpr.cs))]) (N := 19) rfl ⟨TLes.same _, trivial⟩ ⟨rfl, trivial⟩).trans ((Gho_ren 10 2 rfl rfl rfl rfl rfl).trans (Gho_st (L := [(2, .c (.own 2 (r'1 ++ r'2).length 7))]) (H := [(2, .pure ((r'1 ++ r'2).flatMap GExpr.cs))]) (N := 19) rfl ⟨TLes.same _, trivial⟩ ⟨rfl, trivial⟩))) ?_
  refine as2 [(2, .c (.own 2 (r'1 ++ r'2).length 7))] [(2, .pure ((r'1 ++ r'2).flatMap GExpr.cs))] rfl rfl rfl ?_
  refine AW2_ret ?_
  have hz := some_elim H
  subst hz
  exact ⟨⟨res_tmp (.same _), trivial⟩, ⟨rfl, trivial⟩⟩
 ·replace H := ite_else h1 H
  refine as2 [(1, .q 1 (0))] [(1, .pure (GExpr.cs e0))] rfl rfl rfl ?_
  refine AW2_skip ?_
  refine sg [0, 1, 2] rfl ?_
  refine rp rfl rfl (u_lda rfl rfl Tryd.underlying27 rfl in_27 rfl (Nat.succ_pos _) (Sub.refl _) (GExpr.len e0)) ?_
  refine r_op rfl rfl (MakeD.opD (u_bs 18 rfl Tryd.underlying25 in_27 rfl one_27 (by decide) (by decide) zc_27 rfl (af_lit (g := GExpr.cs) (fun x => (GExpr.len x)) (GExpr.len GExpr.zero) [e0])) rfl rfl rfl rfl) ?_
  refine rp rfl rfl (p_asg rfl rfl) ?_
  refine RunW_st [(2, .c (.own 18 ([e0] : List GExpr).length 7))] [(18, .pure (([e0] : List GExpr).flatMap GExpr.cs))] rfl ⟨TLes.own rfl, trivial⟩ ⟨rfl, trivial⟩ ?_
  refine RunW_gho (Gho_ren 18 2 rfl rfl rfl rfl rfl) ?_
  refine rz [(2, .c (.own 2 ([e0] : List GExpr).length 7))] [(2, .pure (([e0] : List GExpr).flatMap GExpr.cs))] rfl rfl rfl ?_
  refine as2 [(2, .c (.own 2 ([e0] : List GExpr).length 7))] [(2, .pure (([e0] : List GExpr).flatMap GExpr.cs))] rfl rfl rfl ?_
  refine AW2_ret ?_
  have hz := some_elim H
  subst hz
  exact ⟨⟨res_tmp (.same _), trivial⟩, ⟨rfl, trivial⟩⟩
theorem g_ref_ands_acN : ∀ (fu : Nat) {e0 : GExpr} {r : (List GExpr)}, g_ref_ands fu e0 = some r → AC2 Tryd.prog 10 (pureT [(.agg (GExpr.cs e0))]) [] (.c (.own 2 r.length 7)) [(2, .pure (r.flatMap GExpr.cs))]
 | 0, _, _, H => (by cases H)
 | fu + 1, _, _, H => g_ref_ands_ac0 (g_ref_ands_acN fu) H
theorem g_ref_ands_ac2 {e0 : GExpr} {r : (List GExpr)} (H : g_ref_ands 100000 e0 = some r) : AC2 Tryd.prog 10 (pureT [(.agg (GExpr.cs e0))]) [] (.c (.own 2 r.length 7)) [(2, .pure (r.flatMap GExpr.cs))] := g_ref_ands_acN 100000 H
theorem g_ref_ands_ac {e0 : GExpr} {r : (List GExpr)} (H : g_ref_ands 100000 e0 = some r) : ACp Tryd.prog 10 [(.agg (GExpr.cs e0))] ((fun q : List GExpr => AV.lst (q.flatMap GExpr.cs) q.length) r) := ACp_pub (g_ref_ands_ac2 H) (fun _ _ hm => lent_own hm rfl (fm_length (fun x => (GExpr.len x)) r) (by decide))

/-! chirographref.litNumber -/
noncomputable def g_ref_litNumber (e0 : GExpr) : Option (Int × Bool) :=
  ((if e0.Op = (3 : Int) then if 0 < e0.Args.length then some (lrd e0.Args 0) else none else some e0)).bind fun j'1 => (if (j'1.Op ≠ (1 : Int)) ∨ (j'1.Value.Kind ≠ (2 : Int)) then some ((0 : Int), false) else (if e0.Op = (3 : Int) then some (w64 (0 - j'1.Value.Int_), true) else some (j'1.Value.Int_, true)))
set_option maxHeartbeats 4000000 in
set_option maxRecDepth 100000 in
theorem g_ref_litNumber_ac {e0 : GExpr} {r : Int × Bool} (H : g_ref_litNumber e0 = some r) : ACp Tryd.prog 11 [(.agg (GExpr.cs e0))] (.tup [(AV.int r.1), (AV.bool r.2)]) := by
 refine ACp_of (AC2_of_body (vs := [.i r.1, .b r.2]) Tryd.func11 rfl rfl (Nat.le_of_ble_eq_true rfl) rfl ?_) (fun _ => .same _)
 unfold g_ref_litNumber at H
 refine as2 [(0, .g (GExpr.cs e0))] [] rfl rfl rfl ?_
 refine sg [0, 1, 2] rfl ?_
 refine r_op rfl rfl (MakeD.opD (n_box 1 rfl rfl) rfl rfl rfl rfl) ?_
 refine rp rfl rfl (p_asg rfl rfl) ?_
 refine rp rfl rfl (p_asg rfl rfl) ?_
 refine rz [(1, .q 1 (0))] [(1, .pure (GExpr.cs e0))] rfl rfl rfl ?_
 refine sg [0, 1, 2, 3] rfl ?_
 refine rp rfl rfl (u_fa rfl rfl Tryd.underlying27 rfl in_3 (Nat.succ_ne_zero _) rfl rfl (ne_of_lt (n := 0) (Nat.lt_of_lt_of_eq (by decide) (Eq.symm (GExpr.len e0))))) ?_
 refine rp rfl rfl (u_ld rfl rfl Tryd.underlying3 rfl rfl ((Sub.refl _).trans (GExpr.sub0 e0))) ?_
 refine rp rfl rfl (p_ieq rfl rfl rfl) ?_
 refine rp rfl rfl (p_asg rfl rfl) ?_
 refine rz [(1, .q 1 (0)), (4, .b (decide (e0.Op = (3 : Int))))] [(1, .pure (GExpr.cs e0))] rfl rfl rfl ?_
 refine AW2_seq ?_
 refine bindK H fun j'1 h1 H => ?_
 refine AW2_mid (⟨[(1, .q 1 (0)), (4, .b (decide (e0.Op = (3 : Int))))], [(1, .pure (GExpr.cs j'1))], 30⟩ : TS) ?_ ?_
 ·clear H
  have H := h1
  clear h1
  refine sg [0] rfl ?_
  refine rp rfl rfl (p_move rfl rfl) ?_
  refine rz [(1, .q 1 (0)), (4, .b (decide (e0.Op = (3 : Int)))), (8, .b (decide (e0.Op = (3 : Int))))] [(1, .pure (GExpr.cs e0))] rfl rfl rfl ?_
  refine AW2_if (p := e0.Op = (3 : Int)) rfl (fun h2 => ?_) (fun h2 => ?_)
  ·replace H := ite_then h2 H
   refine AW2_reg [0, 1, 2, 3, 4] rfl ?_
   refine rp rfl rfl (u_fa rfl rfl Tryd.underlying27 rfl in_25 (Nat.succ_ne_zero _) rfl rfl (ne_of_lt (n := 0) (Nat.lt_of_lt_of_eq (by decide) (Eq.symm (GExpr.len e0))))) ?_
   refine rp rfl rfl (u_ld rfl rfl Tryd.underlying25 rfl rfl ((Sub.refl _).trans (GExpr.sub3 e0))) ?_
   refine chkK H fun h3 H => ?_
   refine rp rfl rfl (u_ixl rfl rfl Tryd.underlying25 in_27 rfl rfl rfl h3 (fne (fun x => (GExpr.len x)) (by decide) h3)) ?_
   refine rp rfl rfl (u_lda rfl rfl Tryd.underlying27 rfl in_27 rfl (Nat.succ_pos _) (Sub.fm default (fun x => (GExpr.len x)) h3) (GExpr.len (lrd e0.Args 0))) ?_
   refine r_op rfl rfl (u_st rfl rfl rfl rfl rfl in_27 (GExpr.len (lrd e0.Args 0)) (ne_of_lt (n := 0) (Nat.lt_of_lt_of_eq (by decide) (Eq.symm (GExpr.len e0)))) (Upd.refl ((GExpr.len (lrd e0.Args 0)).trans (GExpr.len e0).symm))) ?_
   refine rz [(1, .q 1 (0)), (4, .b (decide (e0.Op = (3 : Int))))] [(1, .pure (GExpr.cs (lrd e0.Args 0)))] rfl rfl rfl ?_
   have hz := some_elim H
   subst hz
   exact rfl
  ·replace H := ite_else h2 H
   refine as2 [(1, .q 1 (0)), (4, .b (decide (e0.Op = (3 : Int))))] [(1, .pure (GExpr.cs e0))] rfl rfl rfl ?_
   refine AW2_skip ?_
   have hz := some_elim H
   subst hz
   exact rfl
 ·refine AW2_seq ?_
  refine AW2_seq ?_
  refine AW2_mid (⟨[(1, .q 1 (0)), (4, .b (decide (e0.Op = (3 : Int)))), (21, .b (decide ((j'1.Op ≠ (1 : Int)) ∨ (j'1.Value.Kind ≠ (2 : Int)))))], [(1, .pure (GExpr.cs j'1))], 30⟩ : TS) ?_ ?_
  ·refine AW2_reg [0, 1, 2, 3, 4, 5, 6, 7, 8] rfl ?_
   refine rp rfl rfl (u_fa rfl rfl Tryd.underlying27 rfl in_3 (Nat.succ_ne_zero _) rfl rfl (ne_of_lt (n := 0) (Nat.lt_of_lt_of_eq (by decide) (Eq.symm (GExpr.len j'1))))) ?_
   refine rp rfl rfl (u_ld rfl rfl Tryd.underlying3 rfl rfl ((Sub.refl _).trans (GExpr.sub0 j'1))) ?_
   refine rp rfl rfl (p_ine rfl rfl rfl) ?_
   refine rp rfl rfl (p_move rfl rfl) ?_
   refine (Classical.em (j'1.Op ≠ (1 : Int))).elim (fun h4 => ?_) (fun h4 => ?_)
   ·refine r_off rfl rfl rfl rfl (decide_eq_true h4) rfl rfl ?_
    refine r_off rfl rfl rfl rfl (decide_eq_true h4) rfl rfl ?_
    refine r_off rfl rfl rfl rfl (decide_eq_true h4) rfl rfl ?_
    refine r_off rfl rfl rfl rfl (decide_eq_true h4) rfl rfl ?_
    refine rp rfl rfl (p_pkt rfl rfl (decide_eq_true h4) (tb (decide_eq_true (p := (j'1.Op ≠ (1 : Int)) ∨ (j'1.Value.Kind ≠ (2 : Int))) (Or.inl h4)).symm)) ?_
    refine rs [(1, .q 1 (0)), (4, .b (decide (e0.Op = (3 : Int)))), (21, .b (decide ((j'1.Op ≠ (1 : Int)) ∨ (j'1.Value.Kind ≠ (2 : Int)))))] [(1, .pure (GExpr.cs j'1))] rfl rfl rfl ?_
    exact RunW_nil rfl
   ·refine r_on rfl rfl rfl rfl (decide_eq_false h4) rfl (PureD.opD (u_fa rfl rfl Tryd.underlying27 rfl in_24 (Nat.succ_ne_zero _) rfl rfl (ne_of_lt (n := 0) (Nat.lt_of_lt_of_eq (by decide) (Eq.symm (GExpr.len j'1)))))) ?_
    refine r_on rfl rfl rfl rfl (decide_eq_false h4) rfl (PureD.opD (u_fa rfl rfl Tryd.underlying24 rfl in_3 (Nat.succ_ne_zero _) rfl rfl (ne_of_lt (n := 0) (Nat.lt_of_lt_of_eq (by decide) (Eq.symm (GExpr.len j'1)))))) ?_
    refine r_on rfl rfl rfl rfl (decide_eq_false h4) rfl (PureD.opD (u_ld rfl rfl Tryd.underlying3 rfl rfl (((Sub.refl _).trans (GExpr.sub1 j'1)).trans (GValue.sub0 j'1.Value)))) ?_
    refine r_on rfl rfl rfl rfl (decide_eq_false h4) rfl (PureD.opD (p_ine rfl rfl rfl)) ?_
    refine rp rfl rfl (p_pkf rfl rfl (decide_eq_false h4) (tb ((or_l (p := j'1.Op ≠ (1 : Int)) (q := j'1.Value.Kind ≠ (2 : Int)) h4)))) ?_
    refine rs [(1, .q 1 (0)), (4, .b (decide (e0.Op = (3 : Int)))), (21, .b (decide ((j'1.Op ≠ (1 : Int)) ∨ (j'1.Value.Kind ≠ (2 : Int)))))] [(1, .pure (GExpr.cs j'1))] rfl rfl rfl ?_
    exact RunW_nil rfl
  ·refine AW2_if (p := (j'1.Op ≠ (1 : Int)) ∨ (j'1.Value.Kind ≠ (2 : Int))) rfl (fun h5 => ?_) (fun h5 => ?_)
   ·replace H := ite_then h5 H
    refine sg [0, 1] rfl ?_
    refine rp rfl rfl (p_asg rfl rfl) ?_
    refine rp rfl rfl (p_asg rfl rfl) ?_
    refine rz [(2, .i (0 : Int)), (3, .b false)] [] rfl rfl rfl ?_
    refine AW2_ret ?_
    have hz := some_elim H
    subst hz
    exact ⟨⟨res_tmp (.same _), res_tmp (.same _), trivial⟩, trivial⟩
   ·replace H := ite_else h5 H
    refine as2 [(1, .q 1 (0)), (4, .b (decide (e0.Op = (3 : Int))))] [(1, .pure (GExpr.cs j'1))] rfl rfl rfl ?_
    refine AW2_skip ?_
    refine AW2_seq ?_
    refine sg [0] rfl ?_
    refine rp rfl rfl (p_move rfl rfl) ?_
    refine rz [(1, .q 1 (0)), (22, .b (decide (e0.Op = (3 : Int))))] [(1, .pure (GExpr.cs j'1))] rfl rfl rfl ?_
    refine AW2_if (p := e0.Op = (3 : Int)) rfl (fun h6 => ?_) (fun h6 => ?_)
    ·replace H := ite_then h6 H
     refine sg [0, 1, 2, 3, 4, 5] rfl ?_
     refine rp rfl rfl (u_fa rfl rfl Tryd.underlying27 rfl in_24 (Nat.succ_ne_zero _) rfl rfl (ne_of_lt (n := 0) (Nat.lt_of_lt_of_eq (by decide) (Eq.symm (GExpr.len j'1))))) ?_
     refine rp rfl rfl (u_fa rfl rfl Tryd.underlying24 rfl in_3 (Nat.succ_ne_zero _) rfl rfl (ne_of_lt (n := 0) (Nat.lt_of_lt_of_eq (by decide) (Eq.symm (GExpr.len j'1))))) ?_
     refine rp rfl rfl (u_ld rfl rfl Tryd.underlying3 rfl rfl (((Sub.refl _).trans (GExpr.sub1 j'1)).trans (GValue.sub1 j'1.Value))) ?_
     refine rp rfl rfl (p_neg rfl rfl) ?_
     refine rp rfl rfl (p_asg rfl rfl) ?_
     refine rp rfl rfl (p_asg rfl rfl) ?_
     refine rz [(2, .i (w64 (0 - j'1.Value.Int_))), (3, .b true)] [] rfl rfl rfl ?_
     refine AW2_ret ?_
     have hz := some_elim H
     subst hz
     exact ⟨⟨res_tmp (.same _), res_tmp (.same _), trivial⟩, trivial⟩
    ·replace H := ite_else h6 H
     refine as2 [(1, .q 1 (0))] [(1, .pure (GExpr.cs j'1))] rfl rfl rfl ?_
     refine AW2_skip ?_
     refine sg [0, 1, 2, 3, 4] rfl ?_
     refine rp rfl rfl (u_fa rfl rfl Tryd.underlying27 rfl in_24 (Nat.succ_ne_zero _) rfl rfl (ne_of_lt (n := 0) (Nat.lt_of_lt_of_eq (by decide) (Eq.symm (GExpr.len j'1))))) ?_
     refine rp rfl rfl (u_fa rfl rfl Tryd.underlying24 rfl in_3 (Nat.succ_ne_zero _) rfl rfl (ne_of_lt (n := 0) (Nat.lt_of_lt_of_eq (by decide) (Eq.symm (GExpr.len j'1))))) ?_
     refine rp rfl rfl (u_ld rfl rfl Tryd.underlying3 rfl rfl (((Sub.refl _).trans (GExpr.sub1 j'1)).trans (GValue.sub1 j'1.Value))) ?_
     refine rp rfl rfl (p_asg rfl rfl) ?_
     refine rp rfl rfl (p_asg rfl rfl) ?_
     refine rz [(2, .i j'1.Value.Int_), (3, .b true)] [] rfl rfl rfl ?_
     refine AW2_ret ?_
     have hz := some_elim H
     subst hz
     exact ⟨⟨res_tmp (.same _), res_tmp (.same _), trivial⟩, trivial⟩

/-! chirographref.RangeOf -/
def g_ref_RangeOf_r10 : List (List (Nat × Option Nat)) := [[(10, none)], [(38, some 0)], [(10, none)], [(40, some 2)], [(41, some 3)], [(42, some 4)], [(10, none)], [(44, some 6)], [(45, some 7)], [(46, some 8)], [], [], [(39, some 1)], [(12, some 10), (43, some 5)]]
def g_ref_RangeOf_r10c : List (List Nat) := [[], [0], [], [2], [2, 3], [2, 3, 4], [], [6], [6, 7], [6, 7, 8], [], [], [0, 1, 10, 11], [0, 1, 2, 3, 4, 5, 10, 11, 12], [0, 1, 2, 3, 4, 5, 6, 7, 8, 9, 10, 11, 12, 13]]
def g_ref_RangeOf_r12 : List (List (Nat × Option Nat)) := [[], [(11, none)], [(52, some 1)], [(51, some 0), (53, some 2)], [(54, some 3)], [(13, none)], [(12, none)], [(55, some 4)]]
def g_ref_RangeOf_r12c : List (List Nat) := [[], [], [1], [0, 1, 2], [0, 1, 2, 3], [], [], [0, 1, 2, 3, 4, 6], [0, 1, 2, 3, 4, 5, 6, 7], [0, 1, 2, 3, 4, 5, 6, 7, 8]]
noncomputable def g_ref_RangeOf_l0 (col1 : List UInt8) (r'3 : List GExpr) : Bool × Int × GRange → Option ((Bool × Int × GRange) ⊕ ((Bool × GRange)))
  | (none8_0, t26_0, r7_0) => (if t26_0 < (r'3.length : Int) then (if 0 ≤ t26_0 ∧ t26_0 < (r'3.length : Int) then (if ((lrd r'3 t26_0.toNat).Op < (9 : Int)) ∨ ((lrd r'3 t26_0.toNat).Op > (14 : Int)) then some (none8_0, r7_0) else if 0 < ((lrd r'3 t26_0.toNat).Args).length then if 1 < ((lrd r'3 t26_0.toNat).Args).length then ((if (lrd ((lrd r'3 t26_0.toNat).Args) 0).Op ≠ (2 : Int) then if 0 ≤ w64 (((lrd r'3 t26_0.toNat).Op) - (9 : Int)) ∧ w64 (((lrd r'3 t26_0.toNat).Op) - (9 : Int)) < (([(9 : Int), (10 : Int), (13 : Int), (14 : Int), (11 : Int), (12 : Int)] : List Int).length : Int) then letO ((lrd ([(9 : Int), (10 : Int), (13 : Int), (14 : Int), (11 : Int), (12 : Int)] : List Int) ((w64 (((lrd r'3 t26_0.toNat).Op) - (9 : Int))).toNat))) fun op11'6 => some (op11'6, (lrd ((lrd r'3 t26_0.toNat).Args) 1), (lrd ((lrd r'3 t26_0.toNat).Args) 0)) else none else some ((lrd r'3 t26_0.toNat).Op, (lrd ((lrd r'3 t26_0.toNat).Args) 0), (lrd ((lrd r'3 t26_0.toNat).Args) 1)))).bind fun j'5 => (g_ref_litNumber j'5.2.2).bind fun r'7 => (if (((!r'7.2) = true) ∨ (j'5.2.1.Op ≠ (2 : Int))) ∨ (j'5.2.1.Name ≠ col1) then some (none8_0, r7_0) else (show Option ((Unit) ⊕ (Bool × GRange)) from (if ((j'5.1 = (9 : Int)) ∨ (j'5.1 = (14 : Int))) ∨ (j'5.1 = (13 : Int)) then (if (j'5.1 = (13 : Int)) ∧ (r'7.1 < (9223372036854775807 : Int)) then some (.inl ()) else some (.inr ((decide ((none8_0 = true) ∨ ((j'5.1 = (13 : Int)) ∧ (r'7.1 = (9223372036854775807 : Int))))), { r7_0 with Lo := imax r7_0.Lo r'7.1 }))) else some (.inr (none8_0, r7_0)))).bind fun o'12 => match o'12 with | .inl y'11 => some ((decide ((none8_0 = true) ∨ ((j'5.1 = (13 : Int)) ∧ (r'7.1 = (9223372036854775807 : Int))))), { r7_0 with Lo := imax r7_0.Lo (w64 (r'7.1 + (1 : Int))) }) | .inr j'8 => ((if (j'5.1 = (9 : Int)) ∨ (j'5.1 = (12 : Int)) then some ({ j'8.2 with Hi := imin j'8.2.Hi r'7.1 }) else some j'8.2)).bind fun j'10 => (if j'5.1 = (11 : Int) then some (j'8.1, { j'10 with Hi := imin j'10.Hi (w64 (r'7.1 - (1 : Int))) }) else some (j'8.1, j'10))) else none else none) else none).bind fun j'4 => some (.inl (j'4.1, w64 (t26_0 + (1 : Int)), j'4.2)) else some (.inr (none8_0, r7_0)))
noncomputable def g_ref_RangeOf (e0 : GExpr) (col1 : List UInt8) : Option (GRange × Int) :=
  (g_ref_ExprFault e0).bind fun r'1 => (if r'1 ≠ (0 : Int) then some (GRange.zero, r'1) else letO ({ { GRange.zero with Lo := (-9223372036854775808 : Int) } with Hi := (9223372036854775807 : Int) }) fun r7'2 => (g_ref_ands 100000 e0).bind fun r'3 => (loopO (g_ref_RangeOf_l0 col1 r'3) (false, (0 : Int), r7'2)).bind fun y'17 => (if (y'17.1 = true) ∨ (y'17.2.Lo > y'17.2.Hi) then some ({ { GRange.zero with Lo := (1 : Int) } with Hi := (0 : Int) }, (0 : Int)) else some (y'17.2, (0 : Int))))
set_option maxHeartbeats 4000000 in
set_option maxRecDepth 100000 in
theorem g_ref_RangeOf_ac {e0 : GExpr} {col1 : List UInt8} {r : GRange × Int} (H : g_ref_RangeOf e0 col1 = some r) : ACp Tryd.prog 5 [(.agg (GExpr.cs e0)), (AV.txt col1)] (.tup [(.agg (GRange.cs r.1)), (AV.int r.2)]) := by
 refine ACp_of (AC2_of_body (vs := [.g (GRange.cs r.1), .i r.2]) Tryd.func5 rfl rfl (Nat.le_of_ble_eq_true rfl) rfl ?_) (fun _ => .same _)
 unfold g_ref_RangeOf at H
 refine as2 [(0, .g (GExpr.cs e0)), (1, .t col1)] [] rfl rfl rfl ?_
 refine sg [0, 1, 2] rfl ?_
 refine r_op rfl rfl (MakeD.opD (n_box 2 rfl rfl) rfl rfl rfl rfl) ?_
 refine r_op rfl rfl (MakeD.opD (u_alloc 4 rfl in_29 one_29 zc_29) rfl rfl rfl rfl) ?_
 refine rp rfl rfl (p_asg rfl rfl) ?_
 refine rz [(1, .t col1), (2, .q 2 (0)), (4, .q 4 (0))] [(2, .pure (GExpr.cs e0)), (4, .pure (GRange.cs GRange.zero))] rfl rfl rfl ?_
 refine AW2_seq ?_
 refine sg [0, 1, 2] rfl ?_
 refine rp rfl rfl (u_lda rfl rfl Tryd.underlying27 rfl in_27 rfl (Nat.succ_pos _) (Sub.refl _) (GExpr.len e0)) ?_
 refine bindK H fun r'1 h1 H => ?_
 refine rp rfl rfl (p_callp rfl rfl rfl Tryd.func9 rfl rfl (g_ref_ExprFault_ac h1) ⟨rfl, trivial⟩) ?_
 refine rp rfl rfl (p_asg rfl rfl) ?_
 refine rz [(1, .t col1), (2, .q 2 (0)), (4, .q 4 (0)), (6, .i r'1)] [(2, .pure (GExpr.cs e0)), (4, .pure (GRange.cs GRange.zero))] rfl rfl rfl ?_
 refine sg [0, 1] rfl ?_
 refine rp rfl rfl (p_move rfl rfl) ?_
 refine rp rfl rfl (p_ine rfl rfl rfl) ?_
 refine rz [(1, .t col1), (2, .q 2 (0)), (4, .q 4 (0)), (6, .i r'1), (19, .b (decide (r'1 ≠ (0 : Int))))] [(2, .pure (GExpr.cs e0)), (4, .pure (GRange.cs GRange.zero))] rfl rfl rfl ?_
 refine AW2_if (p := r'1 ≠ (0 : Int)) rfl (fun h2 => ?_) (fun h2 => ?_)
 ·replace H := ite_then h2 H
  refine sg [0, 1, 2, 3] rfl ?_
  refine rp rfl rfl (u_bld rfl in_29 one_29 zc_29 pl_29 rfl rfl) ?_
  refine rp rfl rfl (p_move rfl rfl) ?_
  refine r_op rfl rfl (u_st rfl rfl rfl rfl rfl in_29 (GRange.len GRange.zero) (ne_of_lt (n := 0) (Nat.lt_of_lt_of_eq (by decide) (Eq.symm (GRange.len GRange.zero)))) (Upd.refl ((GRange.len GRange.zero).trans (GRange.len GRange.zero).symm))) ?_
  refine rp rfl rfl (p_asg rfl rfl) ?_
  refine rz [(4, .q 4 (0)), (5, .i r'1)] [(4, .pure (GRange.cs GRange.zero))] rfl rfl rfl ?_
  refine AW2_ret ?_
  have hz := some_elim H
  subst hz
  exact ⟨⟨res_cella Tryd.underlying29 rfl in_29.sz rfl (Sub.le (Sub.refl _) (GRange.len GRange.zero)) (by decide) (Sub.take (Sub.refl _) (GRange.len GRange.zero)), res_tmp (.same _), trivial⟩, trivial⟩
 ·replace H := ite_else h2 H
  refine as2 [(1, .t col1), (2, .q 2 (0)), (4, .q 4 (0))] [(2, .pure (GExpr.cs e0)), (4, .pure (GRange.cs GRange.zero))] rfl rfl rfl ?_
  refine AW2_skip ?_
  refine sg [0, 1, 2] rfl ?_
  refine rp rfl rfl (u_bld rfl in_29 one_29 zc_29 pl_29 rfl (af_cons rfl rfl (GRange.upd0 GRange.zero (-9223372036854775808 : Int)) (af_cons rfl rfl (GRange.upd1 ((GRange.w0 GRange.zero (-9223372036854775808 : Int))) (9223372036854775807 : Int)) rfl))) ?_
  refine r_op rfl rfl (MakeD.opD (u_alloc 7 rfl in_29 one_29 zc_29) rfl rfl rfl rfl) ?_
  refine r_op rfl rfl (u_st rfl rfl rfl rfl rfl in_29 (GRange.len ((GRange.w1 (GRange.w0 GRange.zero (-9223372036854775808 : Int)) (9223372036854775807 : Int)))) (ne_of_lt (n := 0) (Nat.lt_of_lt_of_eq (by decide) (Eq.symm (GRange.len GRange.zero)))) (Upd.refl ((GRange.len ((GRange.w1 (GRange.w0 GRange.zero (-9223372036854775808 : Int)) (9223372036854775807 : Int)))).trans (GRange.len GRange.zero).symm))) ?_
  refine rz [(1, .t col1), (2, .q 2 (0)), (4, .q 4 (0)), (7, .q 7 (0))] [(2, .pure (GExpr.cs e0)), (4, .pure (GRange.cs GRange.zero)), (7, .pure (GRange.cs ((GRange.w1 (GRange.w0 GRange.zero (-9223372036854775808 : Int)) (9223372036854775807 : Int)))))] rfl rfl rfl ?_
  refine gen1 (fun r7'2 => (⟨[(1, .t col1), (2, .q 2 (0)), (4, .q 4 (0)), (7, .q 7 (0))], [(2, .pure (GExpr.cs e0)), (4, .pure (GRange.cs GRange.zero)), (7, .pure (GRange.cs r7'2))], 143⟩ : TS)) H ?_
  intro r7'2 H
  refine sg [0] rfl ?_
  refine rp rfl rfl (p_asg rfl rfl) ?_
  refine rz [(1, .t col1), (2, .q 2 (0)), (4, .q 4 (0)), (7, .q 7 (0)), (8, .b false)] [(2, .pure (GExpr.cs e0)), (4, .pure (GRange.cs GRange.zero)), (7, .pure (GRange.cs r7'2))] rfl rfl rfl ?_
  refine AW2_seq ?_
  refine sg [0, 1, 2, 3] rfl ?_
  refine rp rfl rfl (u_lda rfl rfl Tryd.underlying27 rfl in_27 rfl (Nat.succ_pos _) (Sub.refl _) (GExpr.len e0)) ?_
  refine bindK H fun r'3 h3 H => ?_
  refine rp rfl rfl (p_callp rfl rfl rfl Tryd.func10 rfl rfl (g_ref_ands_ac h3) ⟨rfl, trivial⟩) ?_
  refine rp rfl rfl (p_lenl rfl Tryd.underlying25 rfl rfl) ?_
  refine rp rfl rfl (p_move rfl rfl) ?_
  refine rz [(1, .t col1), (4, .q 4 (0)), (7, .q 7 (0)), (8, .b false), (24, .p ((fun q : List GExpr => AV.lst (q.flatMap GExpr.cs) q.length) r'3)), (25, .i (r'3.length : Int)), (26, .i (0 : Int))] [(4, .pure (GRange.cs GRange.zero)), (7, .pure (GRange.cs r7'2))] rfl rfl rfl ?_
  refine AW2_block ?_
  refine as2 [(1, .t col1), (4, .q 4 (0)), (7, .q 7 (0)), (8, .b false), (24, .p ((fun q : List GExpr => AV.lst (q.flatMap GExpr.cs) q.length) r'3)), (25, .i (r'3.length : Int)), (26, .i (0 : Int))] [(4, .pure (GRange.cs GRange.zero)), (7, .pure (GRange.cs r7'2))] rfl rfl rfl ?_
  refine bindK H fun y'17 h30 H => ?_
  refine AW2_loopO (fun a'14 : Bool × Int × GRange => (⟨[(1, .t col1), (4, .q 4 (0)), (7, .q 7 (0)), (8, .b a'14.1), (24, .p ((fun q : List GExpr => AV.lst (q.flatMap GExpr.cs) q.length) r'3)), (25, .i (r'3.length : Int)), (26, .i a'14.2.1)], [(4, .pure (GRange.cs GRange.zero)), (7, .pure (GRange.cs a'14.2.2))], 143⟩ : TS)) (fun (y'15 : (Bool × GRange)) e s' => e = Go.Exit.exit 0 ∧ s' = (⟨[(4, .q 4 (0)), (7, .q 7 (0)), (8, .b y'15.1)], [(4, .pure (GRange.cs GRange.zero)), (7, .pure (GRange.cs y'15.2))], 143⟩ : TS)) h30 rfl (fun a x hx => ?_) (fun e s' hs => ?_)
  ·clear H
   obtain ⟨none8_0, t26_0, r7_0⟩ := a
   have H := hx
   clear hx
   unfold g_ref_RangeOf_l0 at H
   refine sg [0] rfl ?_
   refine rp rfl rfl (p_bin rfl rfl rfl rfl) ?_
   refine rz [(1, .t col1), (4, .q 4 (0)), (7, .q 7 (0)), (8, .b none8_0), (24, .p ((fun q : List GExpr => AV.lst (q.flatMap GExpr.cs) q.length) r'3)), (25, .i (r'3.length : Int)), (26, .i t26_0), (27, .b (decide (t26_0 < (r'3.length : Int))))] [(4, .pure (GRange.cs GRange.zero)), (7, .pure (GRange.cs r7_0))] rfl rfl rfl ?_
   refine AW2_seq ?_
   refine AW2_if (p := t26_0 < (r'3.length : Int)) rfl (fun h4 => ?_) (fun h4 => ?_)
   ·replace H := ite_then h4 H
    refine as2 [(1, .t col1), (4, .q 4 (0)), (7, .q 7 (0)), (8, .b none8_0), (24, .p ((fun q : List GExpr => AV.lst (q.flatMap GExpr.cs) q.length) r'3)), (25, .i (r'3.length : Int)), (26, .i t26_0)] [(4, .pure (GRange.cs GRange.zero)), (7, .pure (GRange.cs r7_0))] rfl rfl rfl ?_
    refine AW2_skip ?_
    refine AW2_seq ?_
    refine bindK H fun j'4 h5 H => ?_
    refine AW2_mid (⟨[(1, .t col1), (4, .q 4 (0)), (7, .q 7 (0)), (8, .b j'4.1), (24, .p ((fun q : List GExpr => AV.lst (q.flatMap GExpr.cs) q.length) r'3)), (25, .i (r'3.length : Int)), (26, .i t26_0)], [(4, .pure (GRange.cs GRange.zero)), (7, .pure (GRange.cs j'4.2))], 143⟩ : TS) ?_ ?_
    ·clear H
     have H := h5
     clear h5
     refine AW2_block ?_
     refine sg [0, 1, 2, 3] rfl ?_
     refine chkK H fun h6 H => ?_
     refine rp rfl rfl (u_ixl rfl rfl Tryd.underlying25 in_27 rfl rfl (ixe h6) (ixn h6) (fne (fun x => (GExpr.len x)) (by decide) (ixn h6))) ?_
     refine rp rfl rfl (u_lda rfl rfl Tryd.underlying27 rfl in_27 rfl (Nat.succ_pos _) (Sub.fm default (fun x => (GExpr.len x)) (ixn h6)) (GExpr.len (lrd r'3 t26_0.toNat))) ?_
     refine r_op rfl rfl (MakeD.opD (u_alloc 10 rfl in_27 one_27 zc_27) rfl rfl rfl rfl) ?_
     refine r_op rfl rfl (u_st rfl rfl rfl rfl rfl in_27 (GExpr.len (lrd r'3 t26_0.toNat)) (ne_of_lt (n := 0) (Nat.lt_of_lt_of_eq (by decide) (Eq.symm (GExpr.len GExpr.zero)))) (Upd.refl ((GExpr.len (lrd r'3 t26_0.toNat)).trans (GExpr.len GExpr.zero).symm))) ?_
     refine rz [(1, .t col1), (4, .q 4 (0)), (7, .q 7 (0)), (8, .b none8_0), (10, .q 10 (0)), (24, .p ((fun q : List GExpr => AV.lst (q.flatMap GExpr.cs) q.length) r'3)), (25, .i (r'3.length : Int)), (26, .i t26_0)] [(4, .pure (GRange.cs GRange.zero)), (7, .pure (GRange.cs r7_0)), (10, .pure (GExpr.cs (lrd r'3 t26_0.toNat)))] rfl rfl rfl ?_
     refine AW2_seq ?_
     refine AW2_seq ?_
     refine AW2_mid (⟨[(1, .t col1), (4, .q 4 (0)), (7, .q 7 (0)), (8, .b none8_0), (10, .q 10 (0)), (24, .p ((fun q : List GExpr => AV.lst (q.flatMap GExpr.cs) q.length) r'3)), (25, .i (r'3.length : Int)), (26, .i t26_0), (37, .b (decide (((lrd r'3 t26_0.toNat).Op < (9 : Int)) ∨ ((lrd r'3 t26_0.toNat).Op > (14 : Int)))))], [(4, .pure (GRange.cs GRange.zero)), (7, .pure (GRange.cs r7_0)), (10, .pure (GExpr.cs (lrd r'3 t26_0.toNat)))], 143⟩ : TS) ?_ ?_
     ·refine AW2_reg [0, 1, 2, 3, 4, 5, 6, 7] rfl ?_
      refine rp rfl rfl (u_fa rfl rfl Tryd.underlying27 rfl in_3 (Nat.succ_ne_zero _) rfl rfl (ne_of_lt (n := 0) (Nat.lt_of_lt_of_eq (by decide) (Eq.symm (GExpr.len (lrd r'3 t26_0.toNat)))))) ?_
      refine rp rfl rfl (u_ld rfl rfl Tryd.underlying3 rfl rfl ((Sub.refl _).trans (GExpr.sub0 (lrd r'3 t26_0.toNat)))) ?_
      refine rp rfl rfl (p_bin rfl rfl rfl rfl) ?_
      refine rp rfl rfl (p_move rfl rfl) ?_
      refine (Classical.em ((lrd r'3 t26_0.toNat).Op < (9 : Int))).elim (fun h7 => ?_) (fun h7 => ?_)
      ·iterate 3 (refine r_off rfl rfl rfl rfl (decide_eq_true h7) rfl rfl ?_)
       refine rp rfl rfl (p_pkt rfl rfl (decide_eq_true h7) (tb (decide_eq_true (p := ((lrd r'3 t26_0.toNat).Op < (9 : Int)) ∨ ((lrd r'3 t26_0.toNat).Op > (14 : Int))) (Or.inl h7)).symm)) ?_
       refine rs [(1, .t col1), (4, .q 4 (0)), (7, .q 7 (0)), (8, .b none8_0), (10, .q 10 (0)), (24, .p ((fun q : List GExpr => AV.lst (q.flatMap GExpr.cs) q.length) r'3)), (25, .i (r'3.length : Int)), (26, .i t26_0), (37, .b (decide (((lrd r'3 t26_0.toNat).Op < (9 : Int)) ∨ ((lrd r'3 t26_0.toNat).Op > (14 : Int)))))] [(4, .pure (GRange.cs GRange.zero)), (7, .pure (GRange.cs r7_0)), (10, .pure (GExpr.cs (lrd r'3 t26_0.toNat)))] rfl rfl rfl ?_
       exact RunW_nil rfl
      ·refine r_on rfl rfl rfl rfl (decide_eq_false h7) rfl (PureD.opD (u_fa rfl rfl Tryd.underlying27 rfl in_3 (Nat.succ_ne_zero _) rfl rfl (ne_of_lt (n := 0) (Nat.lt_of_lt_of_eq (by decide) (Eq.symm (GExpr.len (lrd r'3 t26_0.toNat))))))) ?_
       refine r_on rfl rfl rfl rfl (decide_eq_false h7) rfl (PureD.opD (u_ld rfl rfl Tryd.underlying3 rfl rfl ((Sub.refl _).trans (GExpr.sub0 (lrd r'3 t26_0.toNat))))) ?_
       refine r_on rfl rfl rfl rfl (decide_eq_false h7) rfl (PureD.opD (p_bin rfl rfl rfl rfl)) ?_
       refine rp rfl rfl (p_pkf rfl rfl (decide_eq_false h7) (tb ((or_l (p := (lrd r'3 t26_0.toNat).Op < (9 : Int)) (q := (lrd r'3 t26_0.toNat).Op > (14 : Int)) h7)))) ?_
       refine rs [(1, .t col1), (4, .q 4 (0)), (7, .q 7 (0)), (8, .b none8_0), (10, .q 10 (0)), (24, .p ((fun q : List GExpr => AV.lst (q.flatMap GExpr.cs) q.length) r'3)), (25, .i (r'3.length : Int)), (26, .i t26_0), (37, .b (decide (((lrd r'3 t26_0.toNat).Op < (9 : Int)) ∨ ((lrd r'3 t26_0.toNat).Op > (14 : Int)))))] [(4, .pure (GRange.cs GRange.zero)), (7, .pure (GRange.cs r7_0)), (10, .pure (GExpr.cs (lrd r'3 t26_0.toNat)))] rfl rfl rfl ?_
       exact RunW_nil rfl
     ·refine AW2_if (p := ((lrd r'3 t26_0.toNat).Op < (9 : Int)) ∨ ((lrd r'3 t26_0.toNat).Op > (14 : Int))) rfl (fun h8 => ?_) (fun h8 => ?_)
      ·replace H := ite_then h8 H
       refine as2 [(1, .t col1), (4, .q 4 (0)), (7, .q 7 (0)), (8, .b none8_0), (24, .p ((fun q : List GExpr => AV.lst (q.flatMap GExpr.cs) q.length) r'3)), (25, .i (r'3.length : Int)), (26, .i t26_0)] [(4, .pure (GRange.cs GRange.zero)), (7, .pure (GRange.cs r7_0))] rfl rfl rfl ?_
       refine AW2_exit ?_
       refine thenQ2_exit ?_
       refine blockQ2_exit ?_
       have hz := some_elim H
       subst hz
       exact rfl
      ·replace H := ite_else h8 H
       refine as2 [(1, .t col1), (4, .q 4 (0)), (7, .q 7 (0)), (8, .b none8_0), (10, .q 10 (0)), (24, .p ((fun q : List GExpr => AV.lst (q.flatMap GExpr.cs) q.length) r'3)), (25, .i (r'3.length : Int)), (26, .i t26_0)] [(4, .pure (GRange.cs GRange.zero)), (7, .pure (GRange.cs r7_0)), (10, .pure (GExpr.cs (lrd r'3 t26_0.toNat)))] rfl rfl rfl ?_
       refine AW2_skip ?_
       refine AW2_seq ?_
       refine chkK H fun h9 H => ?_
       refine chkK H fun h10 H => ?_
       refine AW2_ghoQ ?_
       refine AW2_drawU 14 [14] (fun k => ([.q 10 (0 + 0), .i ((lrd r'3 t26_0.toNat).Op), .q 10 (0 + 6), .p ((fun q : List GExpr => AV.lst (q.flatMap GExpr.cs) q.length) ((lrd r'3 t26_0.toNat).Args)), .p (.rptr (((lrd r'3 t26_0.toNat).Args).flatMap GExpr.cs) (0 * 7)), .g (GExpr.cs (lrd ((lrd r'3 t26_0.toNat).Args) 0)), .q 10 (0 + 6), .p ((fun q : List GExpr => AV.lst (q.flatMap GExpr.cs) q.length) ((lrd r'3 t26_0.toNat).Args)), .p (.rptr (((lrd r'3 t26_0.toNat).Args).flatMap GExpr.cs) (1 * 7)), .g (GExpr.cs (lrd ((lrd r'3 t26_0.toNat).Args) 1)), .q 12 (0), .q 13 (0), .i ((lrd r'3 t26_0.toNat).Op), .p (.tup [])] : List TV).getD k TV.any) (fun k => g_ref_RangeOf_r10.getD k []) [(1, none), (4, none), (7, none), (8, none), (11, some 12), (12, some 10), (13, some 11), (24, none), (25, none), (26, none), (47, some 9)] [(10, 12, (GExpr.cs GExpr.zero)), (11, 13, (GExpr.cs GExpr.zero))] [(13, 12, .pure (GExpr.cs (lrd ((lrd r'3 t26_0.toNat).Args) 0)))] [] (fun k => ([[(10, false)], [(10, false)], [(10, false)], [(10, false)], [], [], [(10, false)], [(10, false)], [], [], [], [], [], [(12, false)]] : List (List (Nat × Bool))).getD k []) (fun k => g_ref_RangeOf_r10c.getD k []) mixed (by kernel_rfl) rfl rfl rfl (a_op (gu_x rfl (y_p rfl rfl (u_fa rfl rfl Tryd.underlying27 rfl in_3 (Nat.succ_ne_zero _) rfl rfl (ne_of_lt (n := 0) (Nat.lt_of_lt_of_eq (by decide) (Eq.symm (GExpr.len (lrd r'3 t26_0.toNat)))))) rfl)) (a_op (gu_x rfl (y_p rfl rfl (u_ld rfl rfl Tryd.underlying3 rfl rfl ((Sub.refl _).trans (GExpr.sub0 (lrd r'3 t26_0.toNat)))) rfl)) (a_op (gu_x rfl (y_p rfl rfl (u_fa rfl rfl Tryd.underlying27 rfl in_25 (Nat.succ_ne_zero _) rfl rfl (ne_of_lt (n := 0) (Nat.lt_of_lt_of_eq (by decide) (Eq.symm (GExpr.len (lrd r'3 t26_0.toNat)))))) rfl)) (a_op (gu_x rfl (y_p rfl rfl (u_ld rfl rfl Tryd.underlying25 rfl rfl ((Sub.refl _).trans (GExpr.sub3 (lrd r'3 t26_0.toNat)))) rfl)) (a_op (gu_x rfl (y_p rfl rfl (u_ixl rfl rfl Tryd.underlying25 in_27 rfl rfl rfl h9 (fne (fun x => (GExpr.len x)) (by decide) h9)) rfl)) (a_op (gu_x rfl (y_p rfl rfl (u_lda rfl rfl Tryd.underlying27 rfl in_27 rfl (Nat.succ_pos _) (Sub.fm default (fun x => (GExpr.len x)) h9) (GExpr.len (lrd ((lrd r'3 t26_0.toNat).Args) 0))) rfl)) (a_op (gu_x rfl (y_p rfl rfl (u_fa rfl rfl Tryd.underlying27 rfl in_25 (Nat.succ_ne_zero _) rfl rfl (ne_of_lt (n := 0) (Nat.lt_of_lt_of_eq (by decide) (Eq.symm (GExpr.len (lrd r'3 t26_0.toNat)))))) rfl)) (a_op (gu_x rfl (y_p rfl rfl (u_ld rfl rfl Tryd.underlying25 rfl rfl ((Sub.refl _).trans (GExpr.sub3 (lrd r'3 t26_0.toNat)))) rfl)) (a_op (gu_x rfl (y_p rfl rfl (u_ixl rfl rfl Tryd.underlying25 in_27 rfl rfl rfl h10 (fne (fun x => (GExpr.len x)) (by decide) h10)) rfl)) (a_op (gu_x rfl (y_p rfl rfl (u_lda rfl rfl Tryd.underlying27 rfl in_27 rfl (Nat.succ_pos _) (Sub.fm default (fun x => (GExpr.len x)) h10) (GExpr.len (lrd ((lrd r'3 t26_0.toNat).Args) 1))) rfl)) (a_op (gu_x rfl (y_m rfl rfl (u_alloc 12 rfl in_27 one_27 zc_27) rfl rfl)) (a_op (gu_x rfl (y_m rfl rfl (u_alloc 13 rfl in_27 one_27 zc_27) rfl rfl)) (a_op (gu_x rfl (y_p rfl rfl (p_asg rfl rfl) rfl)) (a_op (gu_x rfl (y_u rfl rfl rfl rfl (UpdD_st rfl rfl rfl rfl rfl in_27 (GExpr.len (lrd ((lrd r'3 t26_0.toNat).Args) 0)) (ne_of_lt (n := 0) (Nat.lt_of_lt_of_eq (by decide) (Eq.symm (GExpr.len GExpr.zero)))) (Upd.refl ((GExpr.len (lrd ((lrd r'3 t26_0.toNat).Args) 0)).trans (GExpr.len GExpr.zero).symm))) rfl rfl)) (a_nil))))))))))))))) ?_
       refine t_op rfl rfl (u_st rfl rfl rfl rfl rfl in_27 (GExpr.len (lrd ((lrd r'3 t26_0.toNat).Args) 1)) (ne_of_lt (n := 0) (Nat.lt_of_lt_of_eq (by decide) (Eq.symm (GExpr.len GExpr.zero)))) (Upd.refl ((GExpr.len (lrd ((lrd r'3 t26_0.toNat).Args) 1)).trans (GExpr.len GExpr.zero).symm))) ?_
       refine t_gho (Gho_st (L := [(1, .t col1), (4, .q 4 (0)), (7, .q 7 (0)), (8, .b none8_0), (11, .i ((lrd r'3 t26_0.toNat).Op)), (12, .q 12 (0)), (13, .q 13 (0)), (24, .p ((fun q : List GExpr => AV.lst (q.flatMap GExpr.cs) q.length) r'3)), (25, .i (r'3.length : Int)), (26, .i t26_0)]) (H := [(4, .pure (GRange.cs GRange.zero)), (7, .pure (GRange.cs r7_0)), (12, .pure (GExpr.cs (lrd ((lrd r'3 t26_0.toNat).Args) 0))), (13, .pure (GExpr.cs (lrd ((lrd r'3 t26_0.toNat).Args) 1)))]) (N := 143) rfl ⟨TLes.same _, TLes.same _, TLes.same _, TLes.same _, TLes.same _, TLes.same _, TLes.same _, TLes.same _, TLes.same _, TLes.same _, trivial⟩ ⟨rfl, rfl, rfl, rfl, trivial⟩) ?_
       refine AW2_seq ?_
       refine bindK H fun j'5 h11 H => ?_
       refine AW2_mid (⟨[(1, .t col1), (4, .q 4 (0)), (7, .q 7 (0)), (8, .b none8_0), (11, .i j'5.1), (12, .q 12 (0)), (13, .q 13 (0)), (24, .p ((fun q : List GExpr => AV.lst (q.flatMap GExpr.cs) q.length) r'3)), (25, .i (r'3.length : Int)), (26, .i t26_0)], [(4, .pure (GRange.cs GRange.zero)), (7, .pure (GRange.cs r7_0)), (12, .pure (GExpr.cs j'5.2.1)), (13, .pure (GExpr.cs j'5.2.2))], 143⟩ : TS) ?_ ?_
       ·clear H
        have H := h11
        clear h11
        refine sg [0, 1, 2] rfl ?_
        refine rp rfl rfl (u_fa rfl rfl Tryd.underlying27 rfl in_3 (Nat.succ_ne_zero _) rfl rfl (ne_of_lt (n := 0) (Nat.lt_of_lt_of_eq (by decide) (Eq.symm (GExpr.len (lrd ((lrd r'3 t26_0.toNat).Args) 0)))))) ?_
        refine rp rfl rfl (u_ld rfl rfl Tryd.underlying3 rfl rfl ((Sub.refl _).trans (GExpr.sub0 (lrd ((lrd r'3 t26_0.toNat).Args) 0)))) ?_
        refine rp rfl rfl (p_ine rfl rfl rfl) ?_
        refine rz [(1, .t col1), (4, .q 4 (0)), (7, .q 7 (0)), (8, .b none8_0), (11, .i ((lrd r'3 t26_0.toNat).Op)), (12, .q 12 (0)), (13, .q 13 (0)), (24, .p ((fun q : List GExpr => AV.lst (q.flatMap GExpr.cs) q.length) r'3)), (25, .i (r'3.length : Int)), (26, .i t26_0), (50, .b (decide ((lrd ((lrd r'3 t26_0.toNat).Args) 0).Op ≠ (2 : Int))))] [(4, .pure (GRange.cs GRange.zero)), (7, .pure (GRange.cs r7_0)), (12, .pure (GExpr.cs (lrd ((lrd r'3 t26_0.toNat).Args) 0))), (13, .pure (GExpr.cs (lrd ((lrd r'3 t26_0.toNat).Args) 1)))] rfl rfl rfl ?_
        refine AW2_if (p := (lrd ((lrd r'3 t26_0.toNat).Args) 0).Op ≠ (2 : Int)) rfl (fun h12 => ?_) (fun h12 => ?_)
        ·replace H := ite_then h12 H
         refine chkK H fun h13 H => ?_
         refine AW2_ghoQ ?_
         refine AW2_drawU 8 [8, 9] (fun k => ([.c (.own 51 6 1), .i ((lrd r'3 t26_0.toNat).Op), .i (w64 (((lrd r'3 t26_0.toNat).Op) - (9 : Int))), .q 51 (0 + ((w64 (((lrd r'3 t26_0.toNat).Op) - (9 : Int))).toNat) * 1), .i (lrd ([(9 : Int), (10 : Int), (13 : Int), (14 : Int), (11 : Int), (12 : Int)] : List Int) ((w64 (((lrd r'3 t26_0.toNat).Op) - (9 : Int))).toNat)), .g (GExpr.cs (lrd ((lrd r'3 t26_0.toNat).Args) 1)), .g (GExpr.cs (lrd ((lrd r'3 t26_0.toNat).Args) 0)), .i (lrd ([(9 : Int), (10 : Int), (13 : Int), (14 : Int), (11 : Int), (12 : Int)] : List Int) ((w64 (((lrd r'3 t26_0.toNat).Op) - (9 : Int))).toNat))] : List TV).getD k TV.any) (fun k => g_ref_RangeOf_r12.getD k []) [(1, none), (4, none), (7, none), (8, none), (11, some 7), (12, none), (13, none), (24, none), (25, none), (26, none), (56, some 5), (57, some 6)] [(0, 51, (([(9 : Int), (10 : Int), (13 : Int), (14 : Int), (11 : Int), (12 : Int)] : List Int).map AV.int))] [] [] (fun k => ([[], [], [], [(51, false)], [(51, false)], [(13, false)], [(12, false)], []] : List (List (Nat × Bool))).getD k []) (fun k => g_ref_RangeOf_r12c.getD k []) mixed (by kernel_rfl) rfl rfl rfl (a_op (gu_x rfl (y_m rfl rfl (u_bs 51 rfl Tryd.underlying38 in_3 rfl one_3 (by decide) (by decide) rfl rfl rfl) rfl rfl)) (a_op (gu_x rfl (y_p rfl rfl (p_move rfl rfl) rfl)) (a_op (gu_x rfl (y_p rfl rfl (p_bin rfl rfl rfl rfl) rfl)) (a_op (gu_x rfl (y_p rfl rfl (u_ixo rfl rfl Tryd.underlying38 in_3 rfl rfl (lne (ixn h13)) rfl (ixe h13) (ixn h13)) rfl)) (a_op (gu_x rfl (y_p rfl rfl (u_ld rfl rfl Tryd.underlying3 rfl rfl ((Sub.refl _).trans (Sub.map default (ixn h13)))) rfl)) (a_op (gu_x rfl (y_p rfl rfl (u_lda rfl rfl Tryd.underlying27 rfl in_27 rfl (Nat.succ_pos _) (Sub.refl _) (GExpr.len (lrd ((lrd r'3 t26_0.toNat).Args) 1))) rfl)) (a_op (gu_x rfl (y_p rfl rfl (u_lda rfl rfl Tryd.underlying27 rfl in_27 rfl (Nat.succ_pos _) (Sub.refl _) (GExpr.len (lrd ((lrd r'3 t26_0.toNat).Args) 0))) rfl)) (a_op (gu_x rfl (y_p rfl rfl (p_asg rfl rfl) rfl)) (a_nil))))))))) ?_
         refine t_op rfl rfl (u_st rfl rfl rfl rfl rfl in_27 (GExpr.len (lrd ((lrd r'3 t26_0.toNat).Args) 1)) (ne_of_lt (n := 0) (Nat.lt_of_lt_of_eq (by decide) (Eq.symm (GExpr.len (lrd ((lrd r'3 t26_0.toNat).Args) 0))))) (Upd.refl ((GExpr.len (lrd ((lrd r'3 t26_0.toNat).Args) 1)).trans (GExpr.len (lrd ((lrd r'3 t26_0.toNat).Args) 0)).symm))) ?_
         refine t_op rfl rfl (u_st rfl rfl rfl rfl rfl in_27 (GExpr.len (lrd ((lrd r'3 t26_0.toNat).Args) 0)) (ne_of_lt (n := 0) (Nat.lt_of_lt_of_eq (by decide) (Eq.symm (GExpr.len (lrd ((lrd r'3 t26_0.toNat).Args) 1))))) (Upd.refl ((GExpr.len (lrd ((lrd r'3 t26_0.toNat).Args) 0)).trans (GExpr.len (lrd ((lrd r'3 t26_0.toNat).Args) 1)).symm))) ?_
         refine t_gho (Gho_st (L := [(1, .t col1), (4, .q 4 (0)), (7, .q 7 (0)), (8, .b none8_0), (11, .i (lrd ([(9 : Int), (10 : Int), (13 : Int), (14 : Int), (11 : Int), (12 : Int)] : List Int) ((w64 (((lrd r'3 t26_0.toNat).Op) - (9 : Int))).toNat))), (12, .q 12 (0)), (13, .q 13 (0)), (24, .p ((fun q : List GExpr => AV.lst (q.flatMap GExpr.cs) q.length) r'3)), (25, .i (r'3.length : Int)), (26, .i t26_0)]) (H := [(4, .pure (GRange.cs GRange.zero)), (7, .pure (GRange.cs r7_0)), (12, .pure (GExpr.cs (lrd ((lrd r'3 t26_0.toNat).Args) 1))), (13, .pure (GExpr.cs (lrd ((lrd r'3 t26_0.toNat).Args) 0)))]) (N := 143) rfl ⟨TLes.same _, TLes.same _, TLes.same _, TLes.same _, TLes.same _, TLes.same _, TLes.same _, TLes.same _, TLes.same _, TLes.same _, trivial⟩ ⟨rfl, rfl, rfl, rfl, trivial⟩) ?_
         refine gen1 (fun op11'6 => (⟨[(1, .t col1), (4, .q 4 (0)), (7, .q 7 (0)), (8, .b none8_0), (11, .i op11'6), (12, .q 12 (0)), (13, .q 13 (0)), (24, .p ((fun q : List GExpr => AV.lst (q.flatMap GExpr.cs) q.length) r'3)), (25, .i (r'3.length : Int)), (26, .i t26_0)], [(4, .pure (GRange.cs GRange.zero)), (7, .pure (GRange.cs r7_0)), (12, .pure (GExpr.cs (lrd ((lrd r'3 t26_0.toNat).Args) 1))), (13, .pure (GExpr.cs (lrd ((lrd r'3 t26_0.toNat).Args) 0)))], 143⟩ : TS)) H ?_
         intro op11'6 H
         have hz := some_elim H
         subst hz
         exact rfl
        ·replace H := ite_else h12 H
         refine as2 [(1, .t col1), (4, .q 4 (0)), (7, .q 7 (0)), (8, .b none8_0), (11, .i ((lrd r'3 t26_0.toNat).Op)), (12, .q 12 (0)), (13, .q 13 (0)), (24, .p ((fun q : List GExpr => AV.lst (q.flatMap GExpr.cs) q.length) r'3)), (25, .i (r'3.length : Int)), (26, .i t26_0)] [(4, .pure (GRange.cs GRange.zero)), (7, .pure (GRange.cs r7_0)), (12, .pure (GExpr.cs (lrd ((lrd r'3 t26_0.toNat).Args) 0))), (13, .pure (GExpr.cs (lrd ((lrd r'3 t26_0.toNat).Args) 1)))] rfl rfl rfl ?_
         refine AW2_skip ?_
         have hz := some_elim H
         subst hz
         exact rfl
       ·refine sg [0, 1, 2, 3, 4, 5, 6] rfl ?_
        refine rp rfl rfl (u_lda rfl rfl Tryd.underlying27 rfl in_27 rfl (Nat.succ_pos _) (Sub.refl _) (GExpr.len j'5.2.2)) ?_
        refine bindK H fun r'7 h14 H => ?_
        refine rp rfl rfl (p_callp rfl rfl rfl Tryd.func11 rfl rfl (g_ref_litNumber_ac h14) ⟨rfl, trivial⟩) ?_
        refine rp rfl rfl (p_move rfl rfl) ?_
        refine rp rfl rfl (p_ext rfl rfl rfl rfl) ?_
        refine rp rfl rfl (p_ext rfl rfl rfl rfl) ?_
        refine rp rfl rfl (p_asg rfl rfl) ?_
        refine rp rfl rfl (p_asg rfl rfl) ?_
        refine rz [(1, .t col1), (4, .q 4 (0)), (7, .q 7 (0)), (8, .b none8_0), (11, .i j'5.1), (12, .q 12 (0)), (14, .i r'7.1), (15, .b r'7.2), (24, .p ((fun q : List GExpr => AV.lst (q.flatMap GExpr.cs) q.length) r'3)), (25, .i (r'3.length : Int)), (26, .i t26_0)] [(4, .pure (GRange.cs GRange.zero)), (7, .pure (GRange.cs r7_0)), (12, .pure (GExpr.cs j'5.2.1))] rfl rfl rfl ?_
        refine AW2_seq ?_
        refine AW2_seq ?_
        refine AW2_mid (⟨[(1, .t col1), (4, .q 4 (0)), (7, .q 7 (0)), (8, .b none8_0), (11, .i j'5.1), (14, .i r'7.1), (24, .p ((fun q : List GExpr => AV.lst (q.flatMap GExpr.cs) q.length) r'3)), (25, .i (r'3.length : Int)), (26, .i t26_0), (75, .b (decide ((((!r'7.2) = true) ∨ (j'5.2.1.Op ≠ (2 : Int))) ∨ (j'5.2.1.Name ≠ col1))))], [(4, .pure (GRange.cs GRange.zero)), (7, .pure (GRange.cs r7_0))], 143⟩ : TS) ?_ ?_
        ·refine AW2_reg [0, 1, 2, 3, 4, 5, 6, 7, 8, 9, 10, 11, 12] rfl ?_
         refine rp rfl rfl (p_move rfl rfl) ?_
         refine rp rfl rfl (p_not rfl rfl) ?_
         refine rp rfl rfl (p_move rfl rfl) ?_
         refine (Classical.em ((!r'7.2) = true)).elim (fun h15 => ?_) (fun h15 => ?_)
         ·iterate 3 (refine r_off rfl rfl rfl rfl h15 rfl rfl ?_)
          have qq1 := decide_eq_true (p := ((!r'7.2) = true) ∨ (j'5.2.1.Op ≠ (2 : Int))) (Or.inl h15)
          refine rp rfl rfl (p_pkt rfl rfl h15 (tb qq1.symm)) ?_
          refine rp rfl rfl (p_move rfl rfl) ?_
          iterate 4 (refine r_off rfl rfl rfl rfl qq1 rfl rfl ?_)
          refine rp rfl rfl (p_pkt rfl rfl qq1 (tb (decide_eq_true (p := (((!r'7.2) = true) ∨ (j'5.2.1.Op ≠ (2 : Int))) ∨ (j'5.2.1.Name ≠ col1)) (Or.inl (Or.inl h15))).symm)) ?_
          refine rs [(1, .t col1), (4, .q 4 (0)), (7, .q 7 (0)), (8, .b none8_0), (11, .i j'5.1), (14, .i r'7.1), (24, .p ((fun q : List GExpr => AV.lst (q.flatMap GExpr.cs) q.length) r'3)), (25, .i (r'3.length : Int)), (26, .i t26_0), (75, .b (decide ((((!r'7.2) = true) ∨ (j'5.2.1.Op ≠ (2 : Int))) ∨ (j'5.2.1.Name ≠ col1))))] [(4, .pure (GRange.cs GRange.zero)), (7, .pure (GRange.cs r7_0))] rfl rfl rfl ?_
          exact RunW_nil rfl
         ·refine r_on rfl rfl rfl rfl (bfalse h15) rfl (PureD.opD (u_fa rfl rfl Tryd.underlying27 rfl in_3 (Nat.succ_ne_zero _) rfl rfl (ne_of_lt (n := 0) (Nat.lt_of_lt_of_eq (by decide) (Eq.symm (GExpr.len j'5.2.1)))))) ?_
          refine r_on rfl rfl rfl rfl (bfalse h15) rfl (PureD.opD (u_ld rfl rfl Tryd.underlying3 rfl rfl ((Sub.refl _).trans (GExpr.sub0 j'5.2.1)))) ?_
          refine r_on rfl rfl rfl rfl (bfalse h15) rfl (PureD.opD (p_ine rfl rfl rfl)) ?_
          refine rp rfl rfl (p_pkf rfl rfl (bfalse h15) (tb ((or_l (p := (!r'7.2) = true) (q := j'5.2.1.Op ≠ (2 : Int)) h15)))) ?_
          refine rp rfl rfl (p_move rfl rfl) ?_
          refine (Classical.em (j'5.2.1.Op ≠ (2 : Int))).elim (fun h16 => ?_) (fun h16 => ?_)
          ·have qq2 := decide_eq_true (p := ((!r'7.2) = true) ∨ (j'5.2.1.Op ≠ (2 : Int))) (Or.inr h16)
           iterate 4 (refine r_off rfl rfl rfl rfl qq2 rfl rfl ?_)
           refine rp rfl rfl (p_pkt rfl rfl qq2 (tb (decide_eq_true (p := (((!r'7.2) = true) ∨ (j'5.2.1.Op ≠ (2 : Int))) ∨ (j'5.2.1.Name ≠ col1)) (Or.inl (Or.inr h16))).symm)) ?_
           refine rs [(1, .t col1), (4, .q 4 (0)), (7, .q 7 (0)), (8, .b none8_0), (11, .i j'5.1), (14, .i r'7.1), (24, .p ((fun q : List GExpr => AV.lst (q.flatMap GExpr.cs) q.length) r'3)), (25, .i (r'3.length : Int)), (26, .i t26_0), (75, .b (decide ((((!r'7.2) = true) ∨ (j'5.2.1.Op ≠ (2 : Int))) ∨ (j'5.2.1.Name ≠ col1))))] [(4, .pure (GRange.cs GRange.zero)), (7, .pure (GRange.cs r7_0))] rfl rfl rfl ?_
           exact RunW_nil rfl
          ·have qq3 := decide_eq_false (p := ((!r'7.2) = true) ∨ (j'5.2.1.Op ≠ (2 : Int))) (not_or.2 ⟨h15, h16⟩)
           refine rn rfl rfl rfl rfl qq3 rfl (u_fa rfl rfl Tryd.underlying27 rfl in_9 (Nat.succ_ne_zero _) rfl rfl (ne_of_lt (n := 0) (Nat.lt_of_lt_of_eq (by decide) (Eq.symm (GExpr.len j'5.2.1))))) ?_
           refine rn rfl rfl rfl rfl qq3 rfl (u_ld rfl rfl Tryd.underlying9 rfl rfl ((Sub.refl _).trans (GExpr.sub2 j'5.2.1))) ?_
           refine rn rfl rfl rfl rfl qq3 rfl (p_move rfl rfl) ?_
           refine rn rfl rfl rfl rfl qq3 rfl (p_sne rfl rfl rfl) ?_
           refine rp rfl rfl (p_pkf rfl rfl qq3 (tb ((or_l (p := ((!r'7.2) = true) ∨ (j'5.2.1.Op ≠ (2 : Int))) (q := j'5.2.1.Name ≠ col1) (not_or.2 ⟨h15, h16⟩))))) ?_
           refine rs [(1, .t col1), (4, .q 4 (0)), (7, .q 7 (0)), (8, .b none8_0), (11, .i j'5.1), (14, .i r'7.1), (24, .p ((fun q : List GExpr => AV.lst (q.flatMap GExpr.cs) q.length) r'3)), (25, .i (r'3.length : Int)), (26, .i t26_0), (75, .b (decide ((((!r'7.2) = true) ∨ (j'5.2.1.Op ≠ (2 : Int))) ∨ (j'5.2.1.Name ≠ col1))))] [(4, .pure (GRange.cs GRange.zero)), (7, .pure (GRange.cs r7_0))] rfl rfl rfl ?_
           exact RunW_nil rfl
        ·refine AW2_if (p := (((!r'7.2) = true) ∨ (j'5.2.1.Op ≠ (2 : Int))) ∨ (j'5.2.1.Name ≠ col1)) rfl (fun h17 => ?_) (fun h17 => ?_)
         ·replace H := ite_then h17 H
          refine as2 [(1, .t col1), (4, .q 4 (0)), (7, .q 7 (0)), (8, .b none8_0), (24, .p ((fun q : List GExpr => AV.lst (q.flatMap GExpr.cs) q.length) r'3)), (25, .i (r'3.length : Int)), (26, .i t26_0)] [(4, .pure (GRange.cs GRange.zero)), (7, .pure (GRange.cs r7_0))] rfl rfl rfl ?_
          refine AW2_exit ?_
          refine thenQ2_exit ?_
          refine blockQ2_exit ?_
          have hz := some_elim H
          subst hz
          exact rfl
         ·replace H := ite_else h17 H
          refine as2 [(1, .t col1), (4, .q 4 (0)), (7, .q 7 (0)), (8, .b none8_0), (11, .i j'5.1), (14, .i r'7.1), (24, .p ((fun q : List GExpr => AV.lst (q.flatMap GExpr.cs) q.length) r'3)), (25, .i (r'3.length : Int)), (26, .i t26_0)] [(4, .pure (GRange.cs GRange.zero)), (7, .pure (GRange.cs r7_0))] rfl rfl rfl ?_
          refine AW2_skip ?_
          refine AW2_seq ?_
          refine bindK H fun o'12 h18 H => ?_
          refine AW2_join (fun j'8 : Bool × GRange => (⟨[(1, .t col1), (4, .q 4 (0)), (7, .q 7 (0)), (8, .b j'8.1), (11, .i j'5.1), (14, .i r'7.1), (24, .p ((fun q : List GExpr => AV.lst (q.flatMap GExpr.cs) q.length) r'3)), (25, .i (r'3.length : Int)), (26, .i t26_0)], [(4, .pure (GRange.cs GRange.zero)), (7, .pure (GRange.cs j'8.2))], 143⟩ : TS)) (fun (y'9 : Unit) e s' => e = Go.Exit.exit 1 ∧ s' = (⟨[(1, .t col1), (4, .q 4 (0)), (7, .q 7 (0)), (8, .b (decide ((none8_0 = true) ∨ ((j'5.1 = (13 : Int)) ∧ (r'7.1 = (9223372036854775807 : Int)))))), (24, .p ((fun q : List GExpr => AV.lst (q.flatMap GExpr.cs) q.length) r'3)), (25, .i (r'3.length : Int)), (26, .i t26_0)], [(4, .pure (GRange.cs GRange.zero)), (7, .pure (GRange.cs ((GRange.w0 r7_0 (imax r7_0.Lo (w64 (r'7.1 + (1 : Int))))))))], 143⟩ : TS)) (x := o'12) ?_ (fun j'8 hy => ?_) (fun y'11 e s' hy hs => ?_)
          ·clear H
           have H := h18
           clear h18
           refine AW2_seq ?_
           refine AW2_mid (⟨[(1, .t col1), (4, .q 4 (0)), (7, .q 7 (0)), (8, .b none8_0), (11, .i j'5.1), (14, .i r'7.1), (24, .p ((fun q : List GExpr => AV.lst (q.flatMap GExpr.cs) q.length) r'3)), (25, .i (r'3.length : Int)), (26, .i t26_0), (85, .b (decide (((j'5.1 = (9 : Int)) ∨ (j'5.1 = (14 : Int))) ∨ (j'5.1 = (13 : Int)))))], [(4, .pure (GRange.cs GRange.zero)), (7, .pure (GRange.cs r7_0))], 143⟩ : TS) ?_ ?_
           ·refine AW2_reg [0, 1, 2, 3, 4, 5, 6, 7, 8, 9] rfl ?_
            refine rp rfl rfl (p_move rfl rfl) ?_
            refine rp rfl rfl (p_ieq rfl rfl rfl) ?_
            refine rp rfl rfl (p_move rfl rfl) ?_
            refine (Classical.em (j'5.1 = (9 : Int))).elim (fun h19 => ?_) (fun h19 => ?_)
            ·iterate 2 (refine r_off rfl rfl rfl rfl (decide_eq_true h19) rfl rfl ?_)
             have qq4 := decide_eq_true (p := (j'5.1 = (9 : Int)) ∨ (j'5.1 = (14 : Int))) (Or.inl h19)
             refine rp rfl rfl (p_pkt rfl rfl (decide_eq_true h19) (tb qq4.symm)) ?_
             refine rp rfl rfl (p_move rfl rfl) ?_
             iterate 2 (refine r_off rfl rfl rfl rfl qq4 rfl rfl ?_)
             refine rp rfl rfl (p_pkt rfl rfl qq4 (tb (decide_eq_true (p := ((j'5.1 = (9 : Int)) ∨ (j'5.1 = (14 : Int))) ∨ (j'5.1 = (13 : Int))) (Or.inl (Or.inl h19))).symm)) ?_
             refine rs [(1, .t col1), (4, .q 4 (0)), (7, .q 7 (0)), (8, .b none8_0), (11, .i j'5.1), (14, .i r'7.1), (24, .p ((fun q : List GExpr => AV.lst (q.flatMap GExpr.cs) q.length) r'3)), (25, .i (r'3.length : Int)), (26, .i t26_0), (85, .b (decide (((j'5.1 = (9 : Int)) ∨ (j'5.1 = (14 : Int))) ∨ (j'5.1 = (13 : Int)))))] [(4, .pure (GRange.cs GRange.zero)), (7, .pure (GRange.cs r7_0))] rfl rfl rfl ?_
             exact RunW_nil rfl
            ·refine r_on rfl rfl rfl rfl (decide_eq_false h19) rfl (PureD.opD (p_move rfl rfl)) ?_
             refine r_on rfl rfl rfl rfl (decide_eq_false h19) rfl (PureD.opD (p_ieq rfl rfl rfl)) ?_
             refine rp rfl rfl (p_pkf rfl rfl (decide_eq_false h19) (tb ((or_l (p := j'5.1 = (9 : Int)) (q := j'5.1 = (14 : Int)) h19)))) ?_
             refine rp rfl rfl (p_move rfl rfl) ?_
             refine (Classical.em (j'5.1 = (14 : Int))).elim (fun h20 => ?_) (fun h20 => ?_)
             ·have qq5 := decide_eq_true (p := (j'5.1 = (9 : Int)) ∨ (j'5.1 = (14 : Int))) (Or.inr h20)
              iterate 2 (refine r_off rfl rfl rfl rfl qq5 rfl rfl ?_)
              refine rp rfl rfl (p_pkt rfl rfl qq5 (tb (decide_eq_true (p := ((j'5.1 = (9 : Int)) ∨ (j'5.1 = (14 : Int))) ∨ (j'5.1 = (13 : Int))) (Or.inl (Or.inr h20))).symm)) ?_
              refine rs [(1, .t col1), (4, .q 4 (0)), (7, .q 7 (0)), (8, .b none8_0), (11, .i j'5.1), (14, .i r'7.1), (24, .p ((fun q : List GExpr => AV.lst (q.flatMap GExpr.cs) q.length) r'3)), (25, .i (r'3.length : Int)), (26, .i t26_0), (85, .b (decide (((j'5.1 = (9 : Int)) ∨ (j'5.1 = (14 : Int))) ∨ (j'5.1 = (13 : Int)))))] [(4, .pure (GRange.cs GRange.zero)), (7, .pure (GRange.cs r7_0))] rfl rfl rfl ?_
              exact RunW_nil rfl
             ·have qq6 := decide_eq_false (p := (j'5.1 = (9 : Int)) ∨ (j'5.1 = (14 : Int))) (not_or.2 ⟨h19, h20⟩)
              refine rn rfl rfl rfl rfl qq6 rfl (p_move rfl rfl) ?_
              refine rn rfl rfl rfl rfl qq6 rfl (p_ieq rfl rfl rfl) ?_
              refine rp rfl rfl (p_pkf rfl rfl qq6 (tb ((or_l (p := (j'5.1 = (9 : Int)) ∨ (j'5.1 = (14 : Int))) (q := j'5.1 = (13 : Int)) (not_or.2 ⟨h19, h20⟩))))) ?_
              refine rs [(1, .t col1), (4, .q 4 (0)), (7, .q 7 (0)), (8, .b none8_0), (11, .i j'5.1), (14, .i r'7.1), (24, .p ((fun q : List GExpr => AV.lst (q.flatMap GExpr.cs) q.length) r'3)), (25, .i (r'3.length : Int)), (26, .i t26_0), (85, .b (decide (((j'5.1 = (9 : Int)) ∨ (j'5.1 = (14 : Int))) ∨ (j'5.1 = (13 : Int)))))] [(4, .pure (GRange.cs GRange.zero)), (7, .pure (GRange.cs r7_0))] rfl rfl rfl ?_
              exact RunW_nil rfl
           ·refine AW2_if (p := ((j'5.1 = (9 : Int)) ∨ (j'5.1 = (14 : Int))) ∨ (j'5.1 = (13 : Int))) rfl (fun h21 => ?_) (fun h21 => ?_)
            ·replace H := ite_then h21 H
             refine AW2_seq ?_
             refine AW2_mid (⟨[(1, .t col1), (4, .q 4 (0)), (7, .q 7 (0)), (8, .b (decide ((none8_0 = true) ∨ ((j'5.1 = (13 : Int)) ∧ (r'7.1 = (9223372036854775807 : Int)))))), (11, .i j'5.1), (14, .i r'7.1), (24, .p ((fun q : List GExpr => AV.lst (q.flatMap GExpr.cs) q.length) r'3)), (25, .i (r'3.length : Int)), (26, .i t26_0)], [(4, .pure (GRange.cs GRange.zero)), (7, .pure (GRange.cs r7_0))], 143⟩ : TS) ?_ ?_
             ·refine AW2_reg [0, 1, 2, 3, 4, 5, 6, 7, 8, 9] rfl ?_
              refine rp rfl rfl (p_move rfl rfl) ?_
              refine rp rfl rfl (p_move rfl rfl) ?_
              refine (Classical.em (none8_0 = true)).elim (fun h22 => ?_) (fun h22 => ?_)
              ·iterate 3 (refine r_off rfl rfl rfl rfl h22 rfl rfl ?_)
               iterate 2 (refine r_off2 rfl rfl rfl rfl rfl rfl ?_)
               refine r_off rfl rfl rfl rfl h22 rfl rfl ?_
               refine rp rfl rfl (p_pkt rfl rfl h22 (tb (decide_eq_true (p := (none8_0 = true) ∨ ((j'5.1 = (13 : Int)) ∧ (r'7.1 = (9223372036854775807 : Int)))) (Or.inl h22)).symm)) ?_
               refine rp rfl rfl (p_asg rfl rfl) ?_
               refine rs [(1, .t col1), (4, .q 4 (0)), (7, .q 7 (0)), (8, .b (decide ((none8_0 = true) ∨ ((j'5.1 = (13 : Int)) ∧ (r'7.1 = (9223372036854775807 : Int)))))), (11, .i j'5.1), (14, .i r'7.1), (24, .p ((fun q : List GExpr => AV.lst (q.flatMap GExpr.cs) q.length) r'3)), (25, .i (r'3.length : Int)), (26, .i t26_0)] [(4, .pure (GRange.cs GRange.zero)), (7, .pure (GRange.cs r7_0))] rfl rfl rfl ?_
               exact RunW_nil rfl
              ·refine r_on rfl rfl rfl rfl (bfalse h22) rfl (PureD.opD (p_move rfl rfl)) ?_
               refine r_on rfl rfl rfl rfl (bfalse h22) rfl (PureD.opD (p_ieq rfl rfl rfl)) ?_
               refine r_on rfl rfl rfl rfl (bfalse h22) rfl (PureD.opD (p_move rfl rfl)) ?_
               refine (Classical.em (j'5.1 = (13 : Int))).elim (fun h23 => ?_) (fun h23 => ?_)
               ·refine r_on rfl rfl rfl rfl (decide_eq_true h23) rfl (PureD.opD (p_move rfl rfl)) ?_
                refine r_on rfl rfl rfl rfl (decide_eq_true h23) rfl (PureD.opD (p_ieq rfl rfl rfl)) ?_
                refine r_on rfl rfl rfl rfl (bfalse h22) rfl (PureD.opD (p_pkt rfl rfl (decide_eq_true h23) (tb ((and_l (p := j'5.1 = (13 : Int)) (q := r'7.1 = (9223372036854775807 : Int)) h23))))) ?_
                refine rp rfl rfl (p_pkf rfl rfl (bfalse h22) (tb ((or_l (p := none8_0 = true) (q := (j'5.1 = (13 : Int)) ∧ (r'7.1 = (9223372036854775807 : Int))) h22)))) ?_
                refine rp rfl rfl (p_asg rfl rfl) ?_
                refine rs [(1, .t col1), (4, .q 4 (0)), (7, .q 7 (0)), (8, .b (decide ((none8_0 = true) ∨ ((j'5.1 = (13 : Int)) ∧ (r'7.1 = (9223372036854775807 : Int)))))), (11, .i j'5.1), (14, .i r'7.1), (24, .p ((fun q : List GExpr => AV.lst (q.flatMap GExpr.cs) q.length) r'3)), (25, .i (r'3.length : Int)), (26, .i t26_0)] [(4, .pure (GRange.cs GRange.zero)), (7, .pure (GRange.cs r7_0))] rfl rfl rfl ?_
                exact RunW_nil rfl
               ·iterate 2 (refine r_off rfl rfl rfl rfl (decide_eq_false h23) rfl rfl ?_)
                refine r_on rfl rfl rfl rfl (bfalse h22) rfl (PureD.opD (p_pkf rfl rfl (decide_eq_false h23) (tb (decide_eq_false (p := (j'5.1 = (13 : Int)) ∧ (r'7.1 = (9223372036854775807 : Int))) (fun x => h23 x.1)).symm))) ?_
                refine rp rfl rfl (p_pkf rfl rfl (bfalse h22) (tb ((or_l (p := none8_0 = true) (q := (j'5.1 = (13 : Int)) ∧ (r'7.1 = (9223372036854775807 : Int))) h22)))) ?_
                refine rp rfl rfl (p_asg rfl rfl) ?_
                refine rs [(1, .t col1), (4, .q 4 (0)), (7, .q 7 (0)), (8, .b (decide ((none8_0 = true) ∨ ((j'5.1 = (13 : Int)) ∧ (r'7.1 = (9223372036854775807 : Int)))))), (11, .i j'5.1), (14, .i r'7.1), (24, .p ((fun q : List GExpr => AV.lst (q.flatMap GExpr.cs) q.length) r'3)), (25, .i (r'3.length : Int)), (26, .i t26_0)] [(4, .pure (GRange.cs GRange.zero)), (7, .pure (GRange.cs r7_0))] rfl rfl rfl ?_
                exact RunW_nil rfl
             ·refine AW2_seq ?_
              refine AW2_seq ?_
              refine AW2_mid (⟨[(1, .t col1), (4, .q 4 (0)), (7, .q 7 (0)), (8, .b (decide ((none8_0 = true) ∨ ((j'5.1 = (13 : Int)) ∧ (r'7.1 = (9223372036854775807 : Int)))))), (11, .i j'5.1), (14, .i r'7.1), (24, .p ((fun q : List GExpr => AV.lst (q.flatMap GExpr.cs) q.length) r'3)), (25, .i (r'3.length : Int)), (26, .i t26_0), (100, .b (decide ((j'5.1 = (13 : Int)) ∧ (r'7.1 < (9223372036854775807 : Int)))))], [(4, .pure (GRange.cs GRange.zero)), (7, .pure (GRange.cs r7_0))], 143⟩ : TS) ?_ ?_
              ·refine AW2_reg [0, 1, 2, 3, 4, 5] rfl ?_
               refine rp rfl rfl (p_move rfl rfl) ?_
               refine rp rfl rfl (p_ieq rfl rfl rfl) ?_
               refine rp rfl rfl (p_move rfl rfl) ?_
               refine (Classical.em (j'5.1 = (13 : Int))).elim (fun h24 => ?_) (fun h24 => ?_)
               ·refine r_on rfl rfl rfl rfl (decide_eq_true h24) rfl (PureD.opD (p_move rfl rfl)) ?_
                refine r_on rfl rfl rfl rfl (decide_eq_true h24) rfl (PureD.opD (p_bin rfl rfl rfl rfl)) ?_
                refine rp rfl rfl (p_pkt rfl rfl (decide_eq_true h24) (tb ((and_l (p := j'5.1 = (13 : Int)) (q := r'7.1 < (9223372036854775807 : Int)) h24)))) ?_
                refine rs [(1, .t col1), (4, .q 4 (0)), (7, .q 7 (0)), (8, .b (decide ((none8_0 = true) ∨ ((j'5.1 = (13 : Int)) ∧ (r'7.1 = (9223372036854775807 : Int)))))), (11, .i j'5.1), (14, .i r'7.1), (24, .p ((fun q : List GExpr => AV.lst (q.flatMap GExpr.cs) q.length) r'3)), (25, .i (r'3.length : Int)), (26, .i t26_0), (100, .b (decide ((j'5.1 = (13 : Int)) ∧ (r'7.1 < (9223372036854775807 : Int)))))] [(4, .pure (GRange.cs GRange.zero)), (7, .pure (GRange.cs r7_0))] rfl rfl rfl ?_
                exact RunW_nil rfl
               ·iterate 2 (refine r_off rfl rfl rfl rfl (decide_eq_false h24) rfl rfl ?_)
                refine rp rfl rfl (p_pkf rfl rfl (decide_eq_false h24) (tb (decide_eq_false (p := (j'5.1 = (13 : Int)) ∧ (r'7.1 < (9223372036854775807 : Int))) (fun x => h24 x.1)).symm)) ?_
                refine rs [(1, .t col1), (4, .q 4 (0)), (7, .q 7 (0)), (8, .b (decide ((none8_0 = true) ∨ ((j'5.1 = (13 : Int)) ∧ (r'7.1 = (9223372036854775807 : Int)))))), (11, .i j'5.1), (14, .i r'7.1), (24, .p ((fun q : List GExpr => AV.lst (q.flatMap GExpr.cs) q.length) r'3)), (25, .i (r'3.length : Int)), (26, .i t26_0), (100, .b (decide ((j'5.1 = (13 : Int)) ∧ (r'7.1 < (9223372036854775807 : Int)))))] [(4, .pure (GRange.cs GRange.zero)), (7, .pure (GRange.cs r7_0))] rfl rfl rfl ?_
                exact RunW_nil rfl
              ·refine AW2_if (p := (j'5.1 = (13 : Int)) ∧ (r'7.1 < (9223372036854775807 : Int))) rfl (fun h25 => ?_) (fun h25 => ?_)
               ·replace H := ite_then h25 H
                refine sg [0, 1, 2] rfl ?_
                refine rp rfl rfl (p_move rfl rfl) ?_
                refine rp rfl rfl (p_bin rfl rfl rfl rfl) ?_
                refine rp rfl rfl (p_asg rfl rfl) ?_
                refine rz [(1, .t col1), (4, .q 4 (0)), (7, .q 7 (0)), (8, .b (decide ((none8_0 = true) ∨ ((j'5.1 = (13 : Int)) ∧ (r'7.1 = (9223372036854775807 : Int)))))), (14, .i (w64 (r'7.1 + (1 : Int)))), (24, .p ((fun q : List GExpr => AV.lst (q.flatMap GExpr.cs) q.length) r'3)), (25, .i (r'3.length : Int)), (26, .i t26_0)] [(4, .pure (GRange.cs GRange.zero)), (7, .pure (GRange.cs r7_0))] rfl rfl rfl ?_
                refine sg [0, 1, 2, 3, 4, 5] rfl ?_
                refine rp rfl rfl (u_fa rfl rfl Tryd.underlying29 rfl in_3 (Nat.succ_ne_zero _) rfl rfl (ne_of_lt (n := 0) (Nat.lt_of_lt_of_eq (by decide) (Eq.symm (GRange.len r7_0))))) ?_
                refine rp rfl rfl (u_ld rfl rfl Tryd.underlying3 rfl rfl ((Sub.refl _).trans (GRange.sub0 r7_0))) ?_
                refine rp rfl rfl (p_move rfl rfl) ?_
                refine rp rfl rfl (p_imax rfl rfl rfl) ?_
                refine rp rfl rfl (u_fa rfl rfl Tryd.underlying29 rfl in_3 (Nat.succ_ne_zero _) rfl rfl (ne_of_lt (n := 0) (Nat.lt_of_lt_of_eq (by decide) (Eq.symm (GRange.len r7_0))))) ?_
                refine r_op rfl rfl (u_st rfl rfl rfl rfl rfl in_3 rfl (ne_of_lt (n := 0) (Nat.lt_of_lt_of_eq (by decide) (Eq.symm (GRange.len r7_0)))) (Upd.trans (Sub.refl _) (GRange.upd0 r7_0 (imax r7_0.Lo (w64 (r'7.1 + (1 : Int))))) (Upd.refl ((GRange.len ((GRange.w0 r7_0 (imax r7_0.Lo (w64 (r'7.1 + (1 : Int))))))).trans (GRange.len r7_0).symm)))) ?_
                refine rz [(1, .t col1), (4, .q 4 (0)), (7, .q 7 (0)), (8, .b (decide ((none8_0 = true) ∨ ((j'5.1 = (13 : Int)) ∧ (r'7.1 = (9223372036854775807 : Int)))))), (24, .p ((fun q : List GExpr => AV.lst (q.flatMap GExpr.cs) q.length) r'3)), (25, .i (r'3.length : Int)), (26, .i t26_0)] [(4, .pure (GRange.cs GRange.zero)), (7, .pure (GRange.cs ((GRange.w0 r7_0 (imax r7_0.Lo (w64 (r'7.1 + (1 : Int))))))))] rfl rfl rfl ?_
                refine as2 [(1, .t col1), (4, .q 4 (0)), (7, .q 7 (0)), (8, .b (decide ((none8_0 = true) ∨ ((j'5.1 = (13 : Int)) ∧ (r'7.1 = (9223372036854775807 : Int)))))), (24, .p ((fun q : List GExpr => AV.lst (q.flatMap GExpr.cs) q.length) r'3)), (25, .i (r'3.length : Int)), (26, .i t26_0)] [(4, .pure (GRange.cs GRange.zero)), (7, .pure (GRange.cs ((GRange.w0 r7_0 (imax r7_0.Lo (w64 (r'7.1 + (1 : Int))))))))] rfl rfl rfl ?_
                refine AW2_exit ?_
                refine thenQ2_exit ?_
                have hz := some_elim H
                subst hz
                exact ⟨rfl, rfl⟩
               ·replace H := ite_else h25 H
                refine as2 [(1, .t col1), (4, .q 4 (0)), (7, .q 7 (0)), (8, .b (decide ((none8_0 = true) ∨ ((j'5.1 = (13 : Int)) ∧ (r'7.1 = (9223372036854775807 : Int)))))), (11, .i j'5.1), (14, .i r'7.1), (24, .p ((fun q : List GExpr => AV.lst (q.flatMap GExpr.cs) q.length) r'3)), (25, .i (r'3.length : Int)), (26, .i t26_0)] [(4, .pure (GRange.cs GRange.zero)), (7, .pure (GRange.cs r7_0))] rfl rfl rfl ?_
                refine AW2_skip ?_
                refine AW2_reg [0, 1, 2, 3, 4, 5] rfl ?_
                refine rp rfl rfl (u_fa rfl rfl Tryd.underlying29 rfl in_3 (Nat.succ_ne_zero _) rfl rfl (ne_of_lt (n := 0) (Nat.lt_of_lt_of_eq (by decide) (Eq.symm (GRange.len r7_0))))) ?_
                refine rp rfl rfl (u_ld rfl rfl Tryd.underlying3 rfl rfl ((Sub.refl _).trans (GRange.sub0 r7_0))) ?_
                refine rp rfl rfl (p_move rfl rfl) ?_
                refine rp rfl rfl (p_imax rfl rfl rfl) ?_
                refine rp rfl rfl (u_fa rfl rfl Tryd.underlying29 rfl in_3 (Nat.succ_ne_zero _) rfl rfl (ne_of_lt (n := 0) (Nat.lt_of_lt_of_eq (by decide) (Eq.symm (GRange.len r7_0))))) ?_
                refine r_op rfl rfl (u_st rfl rfl rfl rfl rfl in_3 rfl (ne_of_lt (n := 0) (Nat.lt_of_lt_of_eq (by decide) (Eq.symm (GRange.len r7_0)))) (Upd.trans (Sub.refl _) (GRange.upd0 r7_0 (imax r7_0.Lo r'7.1)) (Upd.refl ((GRange.len ((GRange.w0 r7_0 (imax r7_0.Lo r'7.1)))).trans (GRange.len r7_0).symm)))) ?_
                refine rz [(1, .t col1), (4, .q 4 (0)), (7, .q 7 (0)), (8, .b (decide ((none8_0 = true) ∨ ((j'5.1 = (13 : Int)) ∧ (r'7.1 = (9223372036854775807 : Int)))))), (11, .i j'5.1), (14, .i r'7.1), (24, .p ((fun q : List GExpr => AV.lst (q.flatMap GExpr.cs) q.length) r'3)), (25, .i (r'3.length : Int)), (26, .i t26_0)] [(4, .pure (GRange.cs GRange.zero)), (7, .pure (GRange.cs ((GRange.w0 r7_0 (imax r7_0.Lo r'7.1)))))] rfl rfl rfl ?_
                have hz := some_elim H
                subst hz
                exact ⟨rfl, rfl⟩
            ·replace H := ite_else h21 H
             refine as2 [(1, .t col1), (4, .q 4 (0)), (7, .q 7 (0)), (8, .b none8_0), (11, .i j'5.1), (14, .i r'7.1), (24, .p ((fun q : List GExpr => AV.lst (q.flatMap GExpr.cs) q.length) r'3)), (25, .i (r'3.length : Int)), (26, .i t26_0)] [(4, .pure (GRange.cs GRange.zero)), (7, .pure (GRange.cs r7_0))] rfl rfl rfl ?_
             refine AW2_skip ?_
             have hz := some_elim H
             subst hz
             exact ⟨rfl, rfl⟩
          ·subst hy
           refine AW2_seq ?_
           refine bindK H fun j'10 h26 H => ?_
           refine AW2_mid (⟨[(1, .t col1), (4, .q 4 (0)), (7, .q 7 (0)), (8, .b j'8.1), (11, .i j'5.1), (14, .i r'7.1), (24, .p ((fun q : List GExpr => AV.lst (q.flatMap GExpr.cs) q.length) r'3)), (25, .i (r'3.length : Int)), (26, .i t26_0)], [(4, .pure (GRange.cs GRange.zero)), (7, .pure (GRange.cs j'10))], 143⟩ : TS) ?_ ?_
           ·clear H
            have H := h26
            clear h26
            refine AW2_seq ?_
            refine AW2_mid (⟨[(1, .t col1), (4, .q 4 (0)), (7, .q 7 (0)), (8, .b j'8.1), (11, .i j'5.1), (14, .i r'7.1), (24, .p ((fun q : List GExpr => AV.lst (q.flatMap GExpr.cs) q.length) r'3)), (25, .i (r'3.length : Int)), (26, .i t26_0), (118, .b (decide ((j'5.1 = (9 : Int)) ∨ (j'5.1 = (12 : Int)))))], [(4, .pure (GRange.cs GRange.zero)), (7, .pure (GRange.cs j'8.2))], 143⟩ : TS) ?_ ?_
            ·refine AW2_reg [0, 1, 2, 3, 4, 5] rfl ?_
             refine rp rfl rfl (p_move rfl rfl) ?_
             refine rp rfl rfl (p_ieq rfl rfl rfl) ?_
             refine rp rfl rfl (p_move rfl rfl) ?_
             refine (Classical.em (j'5.1 = (9 : Int))).elim (fun h27 => ?_) (fun h27 => ?_)
             ·iterate 2 (refine r_off rfl rfl rfl rfl (decide_eq_true h27) rfl rfl ?_)
              refine rp rfl rfl (p_pkt rfl rfl (decide_eq_true h27) (tb (decide_eq_true (p := (j'5.1 = (9 : Int)) ∨ (j'5.1 = (12 : Int))) (Or.inl h27)).symm)) ?_
              refine rs [(1, .t col1), (4, .q 4 (0)), (7, .q 7 (0)), (8, .b j'8.1), (11, .i j'5.1), (14, .i r'7.1), (24, .p ((fun q : List GExpr => AV.lst (q.flatMap GExpr.cs) q.length) r'3)), (25, .i (r'3.length : Int)), (26, .i t26_0), (118, .b (decide ((j'5.1 = (9 : Int)) ∨ (j'5.1 = (12 : Int)))))] [(4, .pure (GRange.cs GRange.zero)), (7, .pure (GRange.cs j'8.2))] rfl rfl rfl ?_
              exact RunW_nil rfl
             ·refine r_on rfl rfl rfl rfl (decide_eq_false h27) rfl (PureD.opD (p_move rfl rfl)) ?_
              refine r_on rfl rfl rfl rfl (decide_eq_false h27) rfl (PureD.opD (p_ieq rfl rfl rfl)) ?_
              refine rp rfl rfl (p_pkf rfl rfl (decide_eq_false h27) (tb ((or_l (p := j'5.1 = (9 : Int)) (q := j'5.1 = (12 : Int)) h27)))) ?_
              refine rs [(1, .t col1), (4, .q 4 (0)), (7, .q 7 (0)), (8, .b j'8.1), (11, .i j'5.1), (14, .i r'7.1), (24, .p ((fun q : List GExpr => AV.lst (q.flatMap GExpr.cs) q.length) r'3)), (25, .i (r'3.length : Int)), (26, .i t26_0), (118, .b (decide ((j'5.1 = (9 : Int)) ∨ (j'5.1 = (12 : Int)))))] [(4, .pure (GRange.cs GRange.zero)), (7, .pure (GRange.cs j'8.2))] rfl rfl rfl ?_
              exact RunW_nil rfl
            ·refine AW2_if (p := (j'5.1 = (9 : Int)) ∨ (j'5.1 = (12 : Int))) rfl (fun h28 => ?_) (fun h28 => ?_)
             ·replace H := ite_then h28 H
              refine AW2_reg [0, 1, 2, 3, 4, 5] rfl ?_
              refine rp rfl rfl (u_fa rfl rfl Tryd.underlying29 rfl in_3 (Nat.succ_ne_zero _) rfl rfl (ne_of_lt (n := 0) (Nat.lt_of_lt_of_eq (by decide) (Eq.symm (GRange.len j'8.2))))) ?_
              refine rp rfl rfl (u_ld rfl rfl Tryd.underlying3 rfl rfl ((Sub.refl _).trans (GRange.sub1 j'8.2))) ?_
              refine rp rfl rfl (p_move rfl rfl) ?_
              refine rp rfl rfl (p_imin rfl rfl rfl) ?_
              refine rp rfl rfl (u_fa rfl rfl Tryd.underlying29 rfl in_3 (Nat.succ_ne_zero _) rfl rfl (ne_of_lt (n := 0) (Nat.lt_of_lt_of_eq (by decide) (Eq.symm (GRange.len j'8.2))))) ?_
              refine r_op rfl rfl (u_st rfl rfl rfl rfl rfl in_3 rfl (ne_of_lt (n := 0) (Nat.lt_of_lt_of_eq (by decide) (Eq.symm (GRange.len j'8.2)))) (Upd.trans (Sub.refl _) (GRange.upd1 j'8.2 (imin j'8.2.Hi r'7.1)) (Upd.refl ((GRange.len ((GRange.w1 j'8.2 (imin j'8.2.Hi r'7.1)))).trans (GRange.len j'8.2).symm)))) ?_
              refine rz [(1, .t col1), (4, .q 4 (0)), (7, .q 7 (0)), (8, .b j'8.1), (11, .i j'5.1), (14, .i r'7.1), (24, .p ((fun q : List GExpr => AV.lst (q.flatMap GExpr.cs) q.length) r'3)), (25, .i (r'3.length : Int)), (26, .i t26_0)] [(4, .pure (GRange.cs GRange.zero)), (7, .pure (GRange.cs ((GRange.w1 j'8.2 (imin j'8.2.Hi r'7.1)))))] rfl rfl rfl ?_
              have hz := some_elim H
              subst hz
              exact rfl
             ·replace H := ite_else h28 H
              refine as2 [(1, .t col1), (4, .q 4 (0)), (7, .q 7 (0)), (8, .b j'8.1), (11, .i j'5.1), (14, .i r'7.1), (24, .p ((fun q : List GExpr => AV.lst (q.flatMap GExpr.cs) q.length) r'3)), (25, .i (r'3.length : Int)), (26, .i t26_0)] [(4, .pure (GRange.cs GRange.zero)), (7, .pure (GRange.cs j'8.2))] rfl rfl rfl ?_
              refine AW2_skip ?_
              have hz := some_elim H
              subst hz
              exact rfl
           ·refine sg [0, 1] rfl ?_
            refine rp rfl rfl (p_move rfl rfl) ?_
            refine rp rfl rfl (p_ieq rfl rfl rfl) ?_
            refine rz [(1, .t col1), (4, .q 4 (0)), (7, .q 7 (0)), (8, .b j'8.1), (14, .i r'7.1), (24, .p ((fun q : List GExpr => AV.lst (q.flatMap GExpr.cs) q.length) r'3)), (25, .i (r'3.length : Int)), (26, .i t26_0), (125, .b (decide (j'5.1 = (11 : Int))))] [(4, .pure (GRange.cs GRange.zero)), (7, .pure (GRange.cs j'10))] rfl rfl rfl ?_
            refine AW2_if (p := j'5.1 = (11 : Int)) rfl (fun h29 => ?_) (fun h29 => ?_)
            ·replace H := ite_then h29 H
             refine AW2_reg [0, 1, 2, 3, 4, 5, 6] rfl ?_
             refine rp rfl rfl (u_fa rfl rfl Tryd.underlying29 rfl in_3 (Nat.succ_ne_zero _) rfl rfl (ne_of_lt (n := 0) (Nat.lt_of_lt_of_eq (by decide) (Eq.symm (GRange.len j'10))))) ?_
             refine rp rfl rfl (u_ld rfl rfl Tryd.underlying3 rfl rfl ((Sub.refl _).trans (GRange.sub1 j'10))) ?_
             refine rp rfl rfl (p_move rfl rfl) ?_
             refine rp rfl rfl (p_bin rfl rfl rfl rfl) ?_
             refine rp rfl rfl (p_imin rfl rfl rfl) ?_
             refine rp rfl rfl (u_fa rfl rfl Tryd.underlying29 rfl in_3 (Nat.succ_ne_zero _) rfl rfl (ne_of_lt (n := 0) (Nat.lt_of_lt_of_eq (by decide) (Eq.symm (GRange.len j'10))))) ?_
             refine r_op rfl rfl (u_st rfl rfl rfl rfl rfl in_3 rfl (ne_of_lt (n := 0) (Nat.lt_of_lt_of_eq (by decide) (Eq.symm (GRange.len j'10)))) (Upd.trans (Sub.refl _) (GRange.upd1 j'10 (imin j'10.Hi (w64 (r'7.1 - (1 : Int))))) (Upd.refl ((GRange.len ((GRange.w1 j'10 (imin j'10.Hi (w64 (r'7.1 - (1 : Int))))))).trans (GRange.len j'10).symm)))) ?_
             refine rz [(1, .t col1), (4, .q 4 (0)), (7, .q 7 (0)), (8, .b j'8.1), (24, .p ((fun q : List GExpr => AV.lst (q.flatMap GExpr.cs) q.length) r'3)), (25, .i (r'3.length : Int)), (26, .i t26_0)] [(4, .pure (GRange.cs GRange.zero)), (7, .pure (GRange.cs ((GRange.w1 j'10 (imin j'10.Hi (w64 (r'7.1 - (1 : Int))))))))] rfl rfl rfl ?_
             have hz := some_elim H
             subst hz
             exact rfl
            ·replace H := ite_else h29 H
             refine as2 [(1, .t col1), (4, .q 4 (0)), (7, .q 7 (0)), (8, .b j'8.1), (24, .p ((fun q : List GExpr => AV.lst (q.flatMap GExpr.cs) q.length) r'3)), (25, .i (r'3.length : Int)), (26, .i t26_0)] [(4, .pure (GRange.cs GRange.zero)), (7, .pure (GRange.cs j'10))] rfl rfl rfl ?_
             refine AW2_skip ?_
             have hz := some_elim H
             subst hz
             exact rfl
          ·subst hy
           obtain ⟨rfl, rfl⟩ := hs
           refine thenQ2_exit ?_
           refine blockQ2_exit ?_
           have hz := some_elim H
           subst hz
           exact rfl
    ·refine AW2_reg [0, 1] rfl ?_
     refine rp rfl rfl (p_bin rfl rfl rfl rfl) ?_
     refine rp rfl rfl (p_move rfl rfl) ?_
     refine rz [(1, .t col1), (4, .q 4 (0)), (7, .q 7 (0)), (8, .b j'4.1), (24, .p ((fun q : List GExpr => AV.lst (q.flatMap GExpr.cs) q.length) r'3)), (25, .i (r'3.length : Int)), (26, .i (w64 (t26_0 + (1 : Int))))] [(4, .pure (GRange.cs GRange.zero)), (7, .pure (GRange.cs j'4.2))] rfl rfl rfl ?_
     have hz := some_elim H
     subst hz
     exact ⟨rfl, rfl⟩
   ·replace H := ite_else h4 H
    refine as2 [(4, .q 4 (0)), (7, .q 7 (0)), (8, .b none8_0)] [(4, .pure (GRange.cs GRange.zero)), (7, .pure (GRange.cs r7_0))] rfl rfl rfl ?_
    refine AW2_exit ?_
    refine thenQ2_exit ?_
    have hz := some_elim H
    subst hz
    exact ⟨rfl, rfl⟩
  ·obtain ⟨rfl, rfl⟩ := hs
   refine ⟨by simp, ?_⟩
   refine blockQ2_exit ?_
   refine AW2_seq ?_
   refine AW2_seq ?_
   refine AW2_mid (⟨[(4, .q 4 (0)), (7, .q 7 (0)), (140, .b (decide ((y'17.1 = true) ∨ (y'17.2.Lo > y'17.2.Hi))))], [(4, .pure (GRange.cs GRange.zero)), (7, .pure (GRange.cs y'17.2))], 143⟩ : TS) ?_ ?_
   ·refine AW2_reg [0, 1, 2, 3, 4, 5, 6, 7] rfl ?_
    refine rp rfl rfl (p_move rfl rfl) ?_
    refine rp rfl rfl (p_move rfl rfl) ?_
    refine (Classical.em (y'17.1 = true)).elim (fun h31 => ?_) (fun h31 => ?_)
    ·iterate 5 (refine r_off rfl rfl rfl rfl h31 rfl rfl ?_)
     refine rp rfl rfl (p_pkt rfl rfl h31 (tb (decide_eq_true (p := (y'17.1 = true) ∨ (y'17.2.Lo > y'17.2.Hi)) (Or.inl h31)).symm)) ?_
     refine rs [(4, .q 4 (0)), (7, .q 7 (0)), (140, .b (decide ((y'17.1 = true) ∨ (y'17.2.Lo > y'17.2.Hi))))] [(4, .pure (GRange.cs GRange.zero)), (7, .pure (GRange.cs y'17.2))] rfl rfl rfl ?_
     exact RunW_nil rfl
    ·refine r_on rfl rfl rfl rfl (bfalse h31) rfl (PureD.opD (u_fa rfl rfl Tryd.underlying29 rfl in_3 (Nat.succ_ne_zero _) rfl rfl (ne_of_lt (n := 0) (Nat.lt_of_lt_of_eq (by decide) (Eq.symm (GRange.len y'17.2)))))) ?_
     refine r_on rfl rfl rfl rfl (bfalse h31) rfl (PureD.opD (u_ld rfl rfl Tryd.underlying3 rfl rfl ((Sub.refl _).trans (GRange.sub0 y'17.2)))) ?_
     refine r_on rfl rfl rfl rfl (bfalse h31) rfl (PureD.opD (u_fa rfl rfl Tryd.underlying29 rfl in_3 (Nat.succ_ne_zero _) rfl rfl (ne_of_lt (n := 0) (Nat.lt_of_lt_of_eq (by decide) (Eq.symm (GRange.len y'17.2)))))) ?_
     refine r_on rfl rfl rfl rfl (bfalse h31) rfl (PureD.opD (u_ld rfl rfl Tryd.underlying3 rfl rfl ((Sub.refl _).trans (GRange.sub1 y'17.2)))) ?_
     refine r_on rfl rfl rfl rfl (bfalse h31) rfl (PureD.opD (p_bin rfl rfl rfl rfl)) ?_
     refine rp rfl rfl (p_pkf rfl rfl (bfalse h31) (tb ((or_l (p := y'17.1 = true) (q := y'17.2.Lo > y'17.2.Hi) h31)))) ?_
     refine rs [(4, .q 4 (0)), (7, .q 7 (0)), (140, .b (decide ((y'17.1 = true) ∨ (y'17.2.Lo > y'17.2.Hi))))] [(4, .pure (GRange.cs GRange.zero)), (7, .pure (GRange.cs y'17.2))] rfl rfl rfl ?_
     exact RunW_nil rfl
   ·refine AW2_if (p := (y'17.1 = true) ∨ (y'17.2.Lo > y'17.2.Hi)) rfl (fun h32 => ?_) (fun h32 => ?_)
    ·replace H := ite_then h32 H
     refine sg [0, 1, 2] rfl ?_
     refine rp rfl rfl (u_bld rfl in_29 one_29 zc_29 pl_29 rfl (af_cons rfl rfl (GRange.upd0 GRange.zero (1 : Int)) (af_cons rfl rfl (GRange.upd1 ((GRange.w0 GRange.zero (1 : Int))) (0 : Int)) rfl))) ?_
     refine r_op rfl rfl (u_st rfl rfl rfl rfl rfl in_29 (GRange.len ((GRange.w1 (GRange.w0 GRange.zero (1 : Int)) (0 : Int)))) (ne_of_lt (n := 0) (Nat.lt_of_lt_of_eq (by decide) (Eq.symm (GRange.len GRange.zero)))) (Upd.refl ((GRange.len ((GRange.w1 (GRange.w0 GRange.zero (1 : Int)) (0 : Int)))).trans (GRange.len GRange.zero).symm))) ?_
     refine rp rfl rfl (p_asg rfl rfl) ?_
     refine rz [(4, .q 4 (0)), (5, .i (0 : Int))] [(4, .pure (GRange.cs ((GRange.w1 (GRange.w0 GRange.zero (1 : Int)) (0 : Int)))))] rfl rfl rfl ?_
     refine AW2_ret ?_
     have hz := some_elim H
     subst hz
     exact ⟨⟨res_cella Tryd.underlying29 rfl in_29.sz rfl (Sub.le (Sub.refl _) (GRange.len ((GRange.w1 (GRange.w0 GRange.zero (1 : Int)) (0 : Int))))) (by decide) (Sub.take (Sub.refl _) (GRange.len ((GRange.w1 (GRange.w0 GRange.zero (1 : Int)) (0 : Int))))), res_tmp (.same _), trivial⟩, trivial⟩
    ·replace H := ite_else h32 H
     refine as2 [(4, .q 4 (0)), (7, .q 7 (0))] [(4, .pure (GRange.cs GRange.zero)), (7, .pure (GRange.cs y'17.2))] rfl rfl rfl ?_
     refine AW2_skip ?_
     refine sg [0, 1, 2] rfl ?_
     refine rp rfl rfl (u_lda rfl rfl Tryd.underlying29 rfl in_29 rfl (Nat.succ_pos _) (Sub.refl _) (GRange.len y'17.2)) ?_
     refine r_op rfl rfl (u_st rfl rfl rfl rfl rfl in_29 (GRange.len y'17.2) (ne_of_lt (n := 0) (Nat.lt_of_lt_of_eq (by decide) (Eq.symm (GRange.len GRange.zero)))) (Upd.refl ((GRange.len y'17.2).trans (GRange.len GRange.zero).symm))) ?_
     refine rp rfl rfl (p_asg rfl rfl) ?_
     refine rz [(4, .q 4 (0)), (5, .i (0 : Int))] [(4, .pure (GRange.cs y'17.2))] rfl rfl rfl ?_
     refine AW2_ret ?_
     have hz := some_elim H
     subst hz
     exact ⟨⟨res_cella Tryd.underlying29 rfl in_29.sz rfl (Sub.le (Sub.refl _) (GRange.len y'17.2)) (by decide) (Sub.take (Sub.refl _) (GRange.len y'17.2)), res_tmp (.same _), trivial⟩, trivial⟩
end Go.Proofs.YtichdokjjdkjdaaDoor.VM
