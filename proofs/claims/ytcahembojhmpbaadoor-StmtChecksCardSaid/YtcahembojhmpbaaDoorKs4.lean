/- Functions of the program, as they answer, and that their code comes to these answers. -/
import Derived.Test.YtcahembojhmpbaaDoorKs3
namespace Go.Proofs.YtcahembojhmpbaaDoor.VM
open Go Go.RowKit



/-! chirographref.noQuery -/
noncomputable def g_ref_noQuery (q0 : GQuery) : Option (Bool) :=
  ((if (q0.Items.length : Int) = (0 : Int) then (g_ref_noExpr q0.Where).bind fun r'2 => (if r'2 = true then (if q0.Group = [] then (if (q0.Sorts.length : Int) = (0 : Int) then (if (!q0.Cut) = true then some (decide (q0.Most = (0 : Int))) else some false) else some false) else some false) else some false) else some false)).bind fun g'3 => some g'3
set_option maxHeartbeats 4000000 in
set_option maxRecDepth 100000 in
theorem g_ref_noQuery_ac {q0 : GQuery} {r : Bool} (H : g_ref_noQuery q0 = some r) : ACp Tryd.prog 38 [(.agg (GQuery.cs q0))] (AV.bool r) := by
 refine ACp_of (AC2_of_body (vs := [.b r]) Tryd.func38 rfl rfl (Nat.le_of_ble_eq_true rfl) rfl ?_) (fun _ => .same _)
 unfold g_ref_noQuery at H
 refine as2 [(0, .g (GQuery.cs q0))] [] rfl rfl rfl ?_
 refine sg [0, 1] rfl ?_
 refine r_op rfl rfl (MakeD.opD (n_box 1 rfl rfl) rfl rfl rfl rfl) ?_
 refine rp rfl rfl (p_asg rfl rfl) ?_
 refine rz [(1, .q 1 (0))] [(1, .pure (GQuery.cs q0))] rfl rfl rfl ?_
 refine AW2_seq ?_
 refine bindK H fun g'3 h8 H => ?_
 refine AW2_mid (⟨[(2, .b g'3)], [], 33⟩ : TS) ?_ ?_
 ·clear H
  have H := h8
  clear h8
  refine AW2_reg [0, 1, 2, 3, 4, 5, 6, 7, 8, 9, 10, 11, 12, 13, 14, 15, 16, 17, 18, 19, 20, 21, 22, 23, 24, 25, 26, 27, 28, 29, 30] rfl ?_
  refine rp rfl rfl (u_fa rfl rfl Tryd.underlying37 rfl in_34 (Nat.succ_ne_zero _) rfl rfl (ne_of_lt (n := 0) (Nat.lt_of_lt_of_eq (by decide) (Eq.symm (GQuery.len q0))))) ?_
  refine rp rfl rfl (u_ld rfl rfl Tryd.underlying34 rfl rfl ((Sub.refl _).trans (GQuery.sub0 q0))) ?_
  refine rp rfl rfl (p_lenl rfl Tryd.underlying34 rfl rfl) ?_
  refine rp rfl rfl (p_ieq rfl rfl rfl) ?_
  refine rp rfl rfl (p_move rfl rfl) ?_
  refine (Classical.em ((q0.Items.length : Int) = (0 : Int))).elim (fun h2 => ?_) (fun h2 => ?_)
  ·replace H := ite_then h2 H
   refine r_on rfl rfl rfl rfl (decide_eq_true h2) rfl (PureD.opD (u_fa rfl rfl Tryd.underlying37 rfl in_27 (Nat.succ_ne_zero _) rfl rfl (ne_of_lt (n := 0) (Nat.lt_of_lt_of_eq (by decide) (Eq.symm (GQuery.len q0)))))) ?_
   refine r_on rfl rfl rfl rfl (decide_eq_true h2) rfl (PureD.opD (u_lda rfl rfl Tryd.underlying27 rfl in_27 rfl (Nat.succ_pos _) ((Sub.refl _).trans (GQuery.sub1 q0)) (GExpr.len q0.Where))) ?_
   refine bindK H fun r'2 h3 H => ?_
   refine r_on rfl rfl rfl rfl (decide_eq_true h2) rfl (PureD.opD (p_callp rfl rfl rfl Tryd.func25 rfl rfl (g_ref_noExpr_ac h3) ⟨rfl, trivial⟩)) ?_
   refine rp rfl rfl (p_pkt rfl rfl (decide_eq_true h2) (.same _)) ?_
   refine rp rfl rfl (p_move rfl rfl) ?_
   refine (Classical.em (r'2 = true)).elim (fun h4 => ?_) (fun h4 => ?_)
   ·replace H := ite_then h4 H
    refine rn rfl rfl rfl rfl h4 rfl (u_fa rfl rfl Tryd.underlying37 rfl in_9 (Nat.succ_ne_zero _) rfl rfl (ne_of_lt (n := 0) (Nat.lt_of_lt_of_eq (by decide) (Eq.symm (GQuery.len q0))))) ?_
    refine rn rfl rfl rfl rfl h4 rfl (u_ld rfl rfl Tryd.underlying9 rfl rfl ((Sub.refl _).trans (GQuery.sub2 q0))) ?_
    refine rn rfl rfl rfl rfl h4 rfl (p_seq rfl rfl rfl) ?_
    refine rp rfl rfl (p_pkt rfl rfl h4 (.same _)) ?_
    refine rp rfl rfl (p_move rfl rfl) ?_
    refine (Classical.em (q0.Group = [])).elim (fun h5 => ?_) (fun h5 => ?_)
    ·replace H := ite_then h5 H
     refine r_on rfl rfl rfl rfl (decide_eq_true h5) rfl (PureD.opD (u_fa rfl rfl Tryd.underlying37 rfl in_35 (Nat.succ_ne_zero _) rfl rfl (ne_of_lt (n := 0) (Nat.lt_of_lt_of_eq (by decide) (Eq.symm (GQuery.len q0)))))) ?_
     refine r_on rfl rfl rfl rfl (decide_eq_true h5) rfl (PureD.opD (u_ld rfl rfl Tryd.underlying35 rfl rfl ((Sub.refl _).trans (GQuery.sub3 q0)))) ?_
     refine r_on rfl rfl rfl rfl (decide_eq_true h5) rfl (PureD.opD (p_lenl rfl Tryd.underlying35 rfl rfl)) ?_
     refine r_on rfl rfl rfl rfl (decide_eq_true h5) rfl (PureD.opD (p_ieq rfl rfl rfl)) ?_
     refine rp rfl rfl (p_pkt rfl rfl (decide_eq_true h5) (.same _)) ?_
     refine rp rfl rfl (p_move rfl rfl) ?_
     refine (Classical.em ((q0.Sorts.length : Int) = (0 : Int))).elim (fun h6 => ?_) (fun h6 => ?_)
     ·replace H := ite_then h6 H
      refine r_on rfl rfl rfl rfl (decide_eq_true h6) rfl (PureD.opD (u_fa rfl rfl Tryd.underlying37 rfl in_4 (Nat.succ_ne_zero _) rfl rfl (ne_of_lt (n := 0) (Nat.lt_of_lt_of_eq (by decide) (Eq.symm (GQuery.len q0)))))) ?_
      refine r_on rfl rfl rfl rfl (decide_eq_true h6) rfl (PureD.opD (u_ld rfl rfl Tryd.underlying4 rfl rfl ((Sub.refl _).trans (GQuery.sub4 q0)))) ?_
      refine r_on rfl rfl rfl rfl (decide_eq_true h6) rfl (PureD.opD (p_not rfl rfl)) ?_
      refine rp rfl rfl (p_pkt rfl rfl (decide_eq_true h6) (.same _)) ?_
      refine rp rfl rfl (p_move rfl rfl) ?_
      refine (Classical.em ((!q0.Cut) = true)).elim (fun h7 => ?_) (fun h7 => ?_)
      ·replace H := ite_then h7 H
       refine rn rfl rfl rfl rfl h7 rfl (u_fa rfl rfl Tryd.underlying37 rfl in_3 (Nat.succ_ne_zero _) rfl rfl (ne_of_lt (n := 0) (Nat.lt_of_lt_of_eq (by decide) (Eq.symm (GQuery.len q0))))) ?_
       refine rn rfl rfl rfl rfl h7 rfl (u_ld rfl rfl Tryd.underlying3 rfl rfl ((Sub.refl _).trans (GQuery.sub5 q0))) ?_
       refine rn rfl rfl rfl rfl h7 rfl (p_ieq rfl rfl rfl) ?_
       refine rp rfl rfl (p_pkt rfl rfl h7 (.same _)) ?_
       refine rp rfl rfl (p_asg rfl rfl) ?_
       refine rs [(2, .b (decide (q0.Most = (0 : Int))))] [] rfl rfl rfl ?_
       have hz := some_elim H
       subst hz
       exact RunW_nil rfl
      ·replace H := ite_else h7 H
       refine r_off rfl rfl rfl rfl (bfalse h7) rfl rfl ?_
       refine r_off rfl rfl rfl rfl (bfalse h7) rfl rfl ?_
       refine r_off rfl rfl rfl rfl (bfalse h7) rfl rfl ?_
       refine rp rfl rfl (p_pkf rfl rfl (bfalse h7) (.same _)) ?_
       refine rp rfl rfl (p_asg rfl rfl) ?_
       refine rs [(2, .b false)] [] rfl rfl rfl ?_
       have hz := some_elim H
       subst hz
       exact RunW_nil rfl
     ·replace H := ite_else h6 H
      refine r_off rfl rfl rfl rfl (decide_eq_false h6) rfl rfl ?_
      refine r_off rfl rfl rfl rfl (decide_eq_false h6) rfl rfl ?_
      refine r_off rfl rfl rfl rfl (decide_eq_false h6) rfl rfl ?_
      refine rp rfl rfl (p_pkf rfl rfl (decide_eq_false h6) (.same _)) ?_
      refine rp rfl rfl (p_move rfl rfl) ?_
      refine r_off rfl rfl rfl rfl (bfalse (by decide)) rfl rfl ?_
      refine r_off rfl rfl rfl rfl (bfalse (by decide)) rfl rfl ?_
      refine r_off rfl rfl rfl rfl (bfalse (by decide)) rfl rfl ?_
      refine rp rfl rfl (p_pkf rfl rfl (bfalse (by decide)) (.same _)) ?_
      refine rp rfl rfl (p_asg rfl rfl) ?_
      refine rs [(2, .b false)] [] rfl rfl rfl ?_
      have hz := some_elim H
      subst hz
      exact RunW_nil rfl
    ·replace H := ite_else h5 H
     refine r_off rfl rfl rfl rfl (decide_eq_false h5) rfl rfl ?_
     refine r_off rfl rfl rfl rfl (decide_eq_false h5) rfl rfl ?_
     refine r_off rfl rfl rfl rfl (decide_eq_false h5) rfl rfl ?_
     refine r_off rfl rfl rfl rfl (decide_eq_false h5) rfl rfl ?_
     refine rp rfl rfl (p_pkf rfl rfl (decide_eq_false h5) (.same _)) ?_
     refine rp rfl rfl (p_move rfl rfl) ?_
     refine r_off rfl rfl rfl rfl (bfalse (by decide)) rfl rfl ?_
     refine r_off rfl rfl rfl rfl (bfalse (by decide)) rfl rfl ?_
     refine r_off rfl rfl rfl rfl (bfalse (by decide)) rfl rfl ?_
     refine rp rfl rfl (p_pkf rfl rfl (bfalse (by decide)) (.same _)) ?_
     refine rp rfl rfl (p_move rfl rfl) ?_
     refine r_off rfl rfl rfl rfl (bfalse (by decide)) rfl rfl ?_
     refine r_off rfl rfl rfl rfl (bfalse (by decide)) rfl rfl ?_
     refine r_off rfl rfl rfl rfl (bfalse (by decide)) rfl rfl ?_
     refine rp rfl rfl (p_pkf rfl rfl (bfalse (by decide)) (.same _)) ?_
     refine rp rfl rfl (p_asg rfl rfl) ?_
     refine rs [(2, .b false)] [] rfl rfl rfl ?_
     have hz := some_elim H
     subst hz
     exact RunW_nil rfl
   ·replace H := ite_else h4 H
    refine r_off rfl rfl rfl rfl (bfalse h4) rfl rfl ?_
    refine r_off rfl rfl rfl rfl (bfalse h4) rfl rfl ?_
    refine r_off rfl rfl rfl rfl (bfalse h4) rfl rfl ?_
    refine rp rfl rfl (p_pkf rfl rfl (bfalse h4) (.same _)) ?_
    refine rp rfl rfl (p_move rfl rfl) ?_
    refine r_off rfl rfl rfl rfl (bfalse (by decide)) rfl rfl ?_
    refine r_off rfl rfl rfl rfl (bfalse (by decide)) rfl rfl ?_
    refine r_off rfl rfl rfl rfl (bfalse (by decide)) rfl rfl ?_
    refine r_off rfl rfl rfl rfl (bfalse (by decide)) rfl rfl ?_
    refine rp rfl rfl (p_pkf rfl rfl (bfalse (by decide)) (.same _)) ?_
    refine rp rfl rfl (p_move rfl rfl) ?_
    refine r_off rfl rfl rfl rfl (bfalse (by decide)) rfl rfl ?_
    refine r_off rfl rfl rfl rfl (bfalse (by decide)) rfl rfl ?_
    refine r_off rfl rfl rfl rfl (bfalse (by decide)) rfl rfl ?_
    refine rp rfl rfl (p_pkf rfl rfl (bfalse (by decide)) (.same _)) ?_
    refine rp rfl rfl (p_move rfl rfl) ?_
    refine r_off rfl rfl rfl rfl (bfalse (by decide)) rfl rfl ?_
    refine r_off rfl rfl rfl rfl (bfalse (by decide)) rfl rfl ?_
    refine r_off rfl rfl rfl rfl (bfalse (by decide)) rfl rfl ?_
    refine rp rfl rfl (p_pkf rfl rfl (bfalse (by decide)) (.same _)) ?_
    refine rp rfl rfl (p_asg rfl rfl) ?_
    refine rs [(2, .b false)] [] rfl rfl rfl ?_
    have hz := some_elim H
    subst hz
    exact RunW_nil rfl
  ·replace H := ite_else h2 H
   refine r_off rfl rfl rfl rfl (decide_eq_false h2) rfl rfl ?_
   refine r_off rfl rfl rfl rfl (decide_eq_false h2) rfl rfl ?_
   refine r_off rfl rfl rfl rfl (decide_eq_false h2) rfl rfl ?_
   refine rp rfl rfl (p_pkf rfl rfl (decide_eq_false h2) (.same _)) ?_
   refine rp rfl rfl (p_move rfl rfl) ?_
   refine r_off rfl rfl rfl rfl (bfalse (by decide)) rfl rfl ?_
   refine r_off rfl rfl rfl rfl (bfalse (by decide)) rfl rfl ?_
   refine r_off rfl rfl rfl rfl (bfalse (by decide)) rfl rfl ?_
   refine rp rfl rfl (p_pkf rfl rfl (bfalse (by decide)) (.same _)) ?_
   refine rp rfl rfl (p_move rfl rfl) ?_
   refine r_off rfl rfl rfl rfl (bfalse (by decide)) rfl rfl ?_
   refine r_off rfl rfl rfl rfl (bfalse (by decide)) rfl rfl ?_
   refine r_off rfl rfl rfl rfl (bfalse (by decide)) rfl rfl ?_
   refine r_off rfl rfl rfl rfl (bfalse (by decide)) rfl rfl ?_
   refine rp rfl rfl (p_pkf rfl rfl (bfalse (by decide)) (.same _)) ?_
   refine rp rfl rfl (p_move rfl rfl) ?_
   refine r_off rfl rfl rfl rfl (bfalse (by decide)) rfl rfl ?_
   refine r_off rfl rfl rfl rfl (bfalse (by decide)) rfl rfl ?_
   refine r_off rfl rfl rfl rfl (bfalse (by decide)) rfl rfl ?_
   refine rp rfl rfl (p_pkf rfl rfl (bfalse (by decide)) (.same _)) ?_
   refine rp rfl rfl (p_move rfl rfl) ?_
   refine r_off rfl rfl rfl rfl (bfalse (by decide)) rfl rfl ?_
   refine r_off rfl rfl rfl rfl (bfalse (by decide)) rfl rfl ?_
   refine r_off rfl rfl rfl rfl (bfalse (by decide)) rfl rfl ?_
   refine rp rfl rfl (p_pkf rfl rfl (bfalse (by decide)) (.same _)) ?_
   refine rp rfl rfl (p_asg rfl rfl) ?_
   refine rs [(2, .b false)] [] rfl rfl rfl ?_
   have hz := some_elim H
   subst hz
   exact RunW_nil rfl
 ·refine AW2_ret ?_
  have hz := some_elim H
  subst hz
  exact ⟨⟨res_tmp (.same _), trivial⟩, trivial⟩

/-! chirographref.CommandFault -/
noncomputable def g_ref_CommandFault_l0 (r'2 : List GExpr) : Int → Option (Int ⊕ (Int ⊕ Unit))
  | t53_0 => (if t53_0 < (r'2.length : Int) then if 0 ≤ t53_0 ∧ t53_0 < (r'2.length : Int) then (g_ref_within (lrd r'2 t53_0.toNat)).bind fun r'3 => (if (!r'3) = true then some (.inr (.inl (1 : Int))) else some (.inl (w64 (t53_0 + (1 : Int))))) else none else some (.inr (.inr ())))
noncomputable def g_ref_CommandFault_l1 (c0 : GCommand) : Bool × Int → Option ((Bool × Int) ⊕ (Bool))
  | (ok5_1, t127_1) => (if t127_1 < (c0.Cols.length : Int) then if 0 ≤ t127_1 ∧ t127_1 < (c0.Cols.length : Int) then ((if ok5_1 = true then (g_ref_mayName ((lrd c0.Cols t127_1.toNat).Name)).bind fun r'14 => (if r'14 = true then (if (lrd c0.Cols t127_1.toNat).Kind ≥ (1 : Int) then some (decide ((lrd c0.Cols t127_1.toNat).Kind ≤ (4 : Int))) else some false) else some false) else some false)).bind fun g'15 => some (.inl (g'15, w64 (t127_1 + (1 : Int)))) else none else some (.inr ok5_1))
noncomputable def g_ref_CommandFault_l2 (c0 : GCommand) : Bool × Int → Option ((Bool × Int) ⊕ (Bool))
  | (ok5_2, t161_2) => (if t161_2 < (c0.Row.length : Int) then if 0 ≤ t161_2 ∧ t161_2 < (c0.Row.length : Int) then ((if ok5_2 = true then (g_ref_ValueFault (lrd c0.Row t161_2.toNat)).bind fun r'21 => (if r'21 = (0 : Int) then some (decide ((lrd c0.Row t161_2.toNat).Int_ ≠ (-9223372036854775808 : Int))) else some false) else some false)).bind fun g'22 => some (.inl (g'22, w64 (t161_2 + (1 : Int)))) else none else some (.inr ok5_2))
noncomputable def g_ref_CommandFault_l3 (c0 : GCommand) : Bool × Int → Option ((Bool × Int) ⊕ (Bool))
  | (ok5_3, t195_3) => (if t195_3 < (c0.Sets.length : Int) then if 0 ≤ t195_3 ∧ t195_3 < (c0.Sets.length : Int) then ((if ok5_3 = true then (g_ref_mayName ((lrd c0.Sets t195_3.toNat).Col)).bind fun r'31 => (if r'31 = true then (g_ref_ExprFault ((lrd c0.Sets t195_3.toNat).Expr)).bind fun r'32 => some (decide (r'32 = (0 : Int))) else some false) else some false)).bind fun g'33 => some (.inl (g'33, w64 (t195_3 + (1 : Int)))) else none else some (.inr ok5_3))
noncomputable def g_ref_CommandFault (c0 : GCommand) : Option (Int) :=
  (if (c0.Kind < (1 : Int)) ∨ (c0.Kind > (7 : Int)) then some (2 : Int) else letO (decide ((((((c0.Cols.length : Int) > (5 : Int)) ∨ ((c0.Row.length : Int) > (5 : Int))) ∨ ((c0.Sets.length : Int) > (4 : Int))) ∨ ((c0.Query.Items.length : Int) > (4 : Int))) ∨ ((c0.Query.Sorts.length : Int) > (4 : Int)))) fun t49'1 => (if t49'1 = true then some (1 : Int) else (g_ref_exprs c0).bind fun r'2 => (loopO (g_ref_CommandFault_l0 r'2) (0 : Int)).bind fun o'7 => match o'7 with | .inl y'8 => some y'8 | .inr (y'9) => (g_ref_mayName c0.Table).bind fun r'10 => ((if c0.Kind = (1 : Int) then letO (decide (((((((r'10 = true) ∧ (c0.Owner ≥ (0 : Int))) ∧ (c0.Drawer ≥ (0 : Int))) ∧ (c0.To ≥ (0 : Int))) ∧ ((c0.Cols.length : Int) > (0 : Int))) ∧ (c0.Owner = (0 : Int))) ∧ (c0.Drawer = (0 : Int)))) fun ok5'12 => (loopO (g_ref_CommandFault_l1 c0) (ok5'12, (0 : Int))).bind fun y'19 => some (y'19, { c0 with Cols := [] }) else (if c0.Kind = (2 : Int) then (loopO (g_ref_CommandFault_l2 c0) ((decide (((((r'10 = true) ∧ (c0.Owner ≥ (0 : Int))) ∧ (c0.Drawer ≥ (0 : Int))) ∧ (c0.To ≥ (0 : Int))) ∧ ((c0.Row.length : Int) > (0 : Int)))), (0 : Int))).bind fun y'26 => some (y'26, { c0 with Row := [] }) else (if c0.Kind = (3 : Int) then ((if r'10 = true then (if c0.Owner ≥ (0 : Int) then (if c0.Drawer ≥ (0 : Int) then (if c0.To ≥ (0 : Int) then (if (c0.Sets.length : Int) > (0 : Int) then (g_ref_mayWhere c0.Where).bind fun r'28 => some r'28 else some false) else some false) else some false) else some false) else some false)).bind fun g'29 => (loopO (g_ref_CommandFault_l3 c0) (g'29, (0 : Int))).bind fun y'37 => some (y'37, { { c0 with Sets := [] } with Where := GExpr.zero }) else (if c0.Kind = (4 : Int) then ((if r'10 = true then (if c0.Owner ≥ (0 : Int) then (if c0.Drawer ≥ (0 : Int) then (if c0.To ≥ (0 : Int) then (g_ref_mayWhere c0.Where).bind fun r'39 => some r'39 else some false) else some false) else some false) else some false)).bind fun g'40 => some (g'40, { c0 with Where := GExpr.zero }) else (if c0.Kind = (5 : Int) then ((if r'10 = true then (if c0.Owner ≥ (0 : Int) then (if c0.Drawer ≥ (0 : Int) then (if c0.To ≥ (0 : Int) then (g_ref_mayQuery c0.Query).bind fun r'42 => (if r'42 = true then some (decide (c0.Drawer = (0 : Int))) else some false) else some false) else some false) else some false) else some false)).bind fun g'43 => some (g'43, { c0 with Query := GQuery.zero }) else letO (decide ((((((r'10 = true) ∧ (c0.Owner ≥ (0 : Int))) ∧ (c0.Drawer ≥ (0 : Int))) ∧ (c0.To ≥ (0 : Int))) ∧ ((c0.Right = (1 : Int)) ∨ (c0.Right = (2 : Int)))) ∧ ((c0.Kind = (6 : Int)) ∨ ((!c0.Option_) = true)))) fun ok5'44 => letO ({ { { c0 with To := (0 : Int) } with Right := (0 : Int) } with Option_ := false }) fun c1'45 => some (ok5'44, c1'45))))))).bind fun j'11 => ((if (!j'11.1) = true then some true else (if (j'11.2.Cols.length : Int) > (0 : Int) then some true else (if (j'11.2.Row.length : Int) > (0 : Int) then some true else (if (j'11.2.Sets.length : Int) > (0 : Int) then some true else (g_ref_noExpr j'11.2.Where).bind fun r'47 => (if (!r'47) = true then some true else (g_ref_noQuery j'11.2.Query).bind fun r'48 => (if (!r'48) = true then some true else (if j'11.2.To ≠ (0 : Int) then some true else (if j'11.2.Right ≠ (0 : Int) then some true else some j'11.2.Option_))))))))).bind fun g'49 => (if g'49 = true then some (3 : Int) else some (0 : Int))))
set_option maxHeartbeats 4000000 in
set_option maxRecDepth 100000 in
theorem g_ref_CommandFault_ac {c0 : GCommand} {r : Int} (H : g_ref_CommandFault c0 = some r) : ACp Tryd.prog 15 [(.agg (GCommand.cs c0))] (AV.int r) := by
 refine ACp_of (AC2_of_body (vs := [.i r]) Tryd.func15 rfl rfl (Nat.le_of_ble_eq_true rfl) rfl ?_) (fun _ => .same _)
 unfold g_ref_CommandFault at H
 refine as2 [(0, .g (GCommand.cs c0))] [] rfl rfl rfl ?_
 refine sg [0, 1] rfl ?_
 refine r_op rfl rfl (MakeD.opD (n_box 1 rfl rfl) rfl rfl rfl rfl) ?_
 refine rp rfl rfl (p_asg rfl rfl) ?_
 refine rz [(1, .q 1 (0))] [(1, .pure (GCommand.cs c0))] rfl rfl rfl ?_
 refine AW2_seq ?_
 refine AW2_seq ?_
 refine AW2_mid (⟨[(1, .q 1 (0)), (19, .b (decide ((c0.Kind < (1 : Int)) ∨ (c0.Kind > (7 : Int)))))], [(1, .pure (GCommand.cs c0))], 286⟩ : TS) ?_ ?_
 ·refine AW2_reg [0, 1, 2, 3, 4, 5, 6, 7] rfl ?_
  refine rp rfl rfl (u_fa rfl rfl Tryd.underlying43 rfl in_3 (Nat.succ_ne_zero _) rfl rfl (ne_of_lt (n := 0) (Nat.lt_of_lt_of_eq (by decide) (Eq.symm (GCommand.len c0))))) ?_
  refine rp rfl rfl (u_ld rfl rfl Tryd.underlying3 rfl rfl ((Sub.refl _).trans (GCommand.sub0 c0))) ?_
  refine rp rfl rfl (p_bin rfl rfl rfl rfl) ?_
  refine rp rfl rfl (p_move rfl rfl) ?_
  refine (Classical.em (c0.Kind < (1 : Int))).elim (fun h1 => ?_) (fun h1 => ?_)
  ·iterate 3 (refine r_off rfl rfl rfl rfl (decide_eq_true h1) rfl rfl ?_)
   refine rp rfl rfl (p_pkt rfl rfl (decide_eq_true h1) (tb (decide_eq_true (p := (c0.Kind < (1 : Int)) ∨ (c0.Kind > (7 : Int))) (Or.inl h1)).symm)) ?_
   refine rs [(1, .q 1 (0)), (19, .b (decide ((c0.Kind < (1 : Int)) ∨ (c0.Kind > (7 : Int)))))] [(1, .pure (GCommand.cs c0))] rfl rfl rfl ?_
   exact RunW_nil rfl
  ·refine r_on rfl rfl rfl rfl (decide_eq_false h1) rfl (PureD.opD (u_fa rfl rfl Tryd.underlying43 rfl in_3 (Nat.succ_ne_zero _) rfl rfl (ne_of_lt (n := 0) (Nat.lt_of_lt_of_eq (by decide) (Eq.symm (GCommand.len c0)))))) ?_
   refine r_on rfl rfl rfl rfl (decide_eq_false h1) rfl (PureD.opD (u_ld rfl rfl Tryd.underlying3 rfl rfl ((Sub.refl _).trans (GCommand.sub0 c0)))) ?_
   refine r_on rfl rfl rfl rfl (decide_eq_false h1) rfl (PureD.opD (p_bin rfl rfl rfl rfl)) ?_
   refine rp rfl rfl (p_pkf rfl rfl (decide_eq_false h1) (tb ((or_l (p := c0.Kind < (1 : Int)) (q := c0.Kind > (7 : Int)) h1)))) ?_
   refine rs [(1, .q 1 (0)), (19, .b (decide ((c0.Kind < (1 : Int)) ∨ (c0.Kind > (7 : Int)))))] [(1, .pure (GCommand.cs c0))] rfl rfl rfl ?_
   exact RunW_nil rfl
 ·refine AW2_if (p := (c0.Kind < (1 : Int)) ∨ (c0.Kind > (7 : Int))) rfl (fun h2 => ?_) (fun h2 => ?_)
  ·replace H := ite_then h2 H
   refine sg [0] rfl ?_
   refine rp rfl rfl (p_asg rfl rfl) ?_
   refine rz [(2, .i (2 : Int))] [] rfl rfl rfl ?_
   refine AW2_ret ?_
   have hz := some_elim H
   subst hz
   exact ⟨⟨res_tmp (.same _), trivial⟩, trivial⟩
  ·replace H := ite_else h2 H
   refine as2 [(1, .q 1 (0))] [(1, .pure (GCommand.cs c0))] rfl rfl rfl ?_
   refine AW2_skip ?_
   refine AW2_seq ?_
   refine AW2_seq ?_
   refine AW2_mid (⟨[(1, .q 1 (0)), (49, .b (decide ((((((c0.Cols.length : Int) > (5 : Int)) ∨ ((c0.Row.length : Int) > (5 : Int))) ∨ ((c0.Sets.length : Int) > (4 : Int))) ∨ ((c0.Query.Items.length : Int) > (4 : Int))) ∨ ((c0.Query.Sorts.length : Int) > (4 : Int)))))], [(1, .pure (GCommand.cs c0))], 286⟩ : TS) ?_ ?_
   ·refine AW2_reg [0, 1, 2, 3, 4, 5, 6, 7, 8, 9, 10, 11, 12, 13, 14, 15, 16, 17, 18, 19, 20, 21, 22, 23, 24, 25, 26, 27, 28, 29] rfl ?_
    refine rp rfl rfl (u_fa rfl rfl Tryd.underlying43 rfl in_28 (Nat.succ_ne_zero _) rfl rfl (ne_of_lt (n := 0) (Nat.lt_of_lt_of_eq (by decide) (Eq.symm (GCommand.len c0))))) ?_
    refine rp rfl rfl (u_ld rfl rfl Tryd.underlying28 rfl rfl ((Sub.refl _).trans (GCommand.sub4 c0))) ?_
    refine rp rfl rfl (p_lenl rfl Tryd.underlying28 rfl rfl) ?_
    refine rp rfl rfl (p_bin rfl rfl rfl rfl) ?_
    refine rp rfl rfl (p_move rfl rfl) ?_
    refine (Classical.em ((c0.Cols.length : Int) > (5 : Int))).elim (fun h3 => ?_) (fun h3 => ?_)
    ·iterate 4 (refine r_off rfl rfl rfl rfl (decide_eq_true h3) rfl rfl ?_)
     have qq1 := decide_eq_true (p := ((c0.Cols.length : Int) > (5 : Int)) ∨ ((c0.Row.length : Int) > (5 : Int))) (Or.inl h3)
     refine rp rfl rfl (p_pkt rfl rfl (decide_eq_true h3) (tb qq1.symm)) ?_
     refine rp rfl rfl (p_move rfl rfl) ?_
     iterate 4 (refine r_off rfl rfl rfl rfl qq1 rfl rfl ?_)
     have qq2 := decide_eq_true (p := (((c0.Cols.length : Int) > (5 : Int)) ∨ ((c0.Row.length : Int) > (5 : Int))) ∨ ((c0.Sets.length : Int) > (4 : Int))) (Or.inl (Or.inl h3))
     refine rp rfl rfl (p_pkt rfl rfl qq1 (tb qq2.symm)) ?_
     refine rp rfl rfl (p_move rfl rfl) ?_
     iterate 5 (refine r_off rfl rfl rfl rfl qq2 rfl rfl ?_)
     have qq3 := decide_eq_true (p := ((((c0.Cols.length : Int) > (5 : Int)) ∨ ((c0.Row.length : Int) > (5 : Int))) ∨ ((c0.Sets.length : Int) > (4 : Int))) ∨ ((c0.Query.Items.length : Int) > (4 : Int))) (Or.inl (Or.inl (Or.inl h3)))
     refine rp rfl rfl (p_pkt rfl rfl qq2 (tb qq3.symm)) ?_
     refine rp rfl rfl (p_move rfl rfl) ?_
     iterate 5 (refine r_off rfl rfl rfl rfl qq3 rfl rfl ?_)
     refine rp rfl rfl (p_pkt rfl rfl qq3 (tb (decide_eq_true (p := (((((c0.Cols.length : Int) > (5 : Int)) ∨ ((c0.Row.length : Int) > (5 : Int))) ∨ ((c0.Sets.length : Int) > (4 : Int))) ∨ ((c0.Query.Items.length : Int) > (4 : Int))) ∨ ((c0.Query.Sorts.length : Int) > (4 : Int))) (Or.inl (Or.inl (Or.inl (Or.inl h3))))).symm)) ?_
     refine rs [(1, .q 1 (0)), (49, .b (decide ((((((c0.Cols.length : Int) > (5 : Int)) ∨ ((c0.Row.length : Int) > (5 : Int))) ∨ ((c0.Sets.length : Int) > (4 : Int))) ∨ ((c0.Query.Items.length : Int) > (4 : Int))) ∨ ((c0.Query.Sorts.length : Int) > (4 : Int)))))] [(1, .pure (GCommand.cs c0))] rfl rfl rfl ?_
     exact RunW_nil rfl
    ·refine r_on rfl rfl rfl rfl (decide_eq_false h3) rfl (PureD.opD (u_fa rfl rfl Tryd.underlying43 rfl in_40 (Nat.succ_ne_zero _) rfl rfl (ne_of_lt (n := 0) (Nat.lt_of_lt_of_eq (by decide) (Eq.symm (GCommand.len c0)))))) ?_
     refine r_on rfl rfl rfl rfl (decide_eq_false h3) rfl (PureD.opD (u_ld rfl rfl Tryd.underlying40 rfl rfl ((Sub.refl _).trans (GCommand.sub5 c0)))) ?_
     refine r_on rfl rfl rfl rfl (decide_eq_false h3) rfl (PureD.opD (p_lenl rfl Tryd.underlying40 rfl rfl)) ?_
     refine r_on rfl rfl rfl rfl (decide_eq_false h3) rfl (PureD.opD (p_bin rfl rfl rfl rfl)) ?_
     refine rp rfl rfl (p_pkf rfl rfl (decide_eq_false h3) (tb ((or_l (p := (c0.Cols.length : Int) > (5 : Int)) (q := (c0.Row.length : Int) > (5 : Int)) h3)))) ?_
     refine rp rfl rfl (p_move rfl rfl) ?_
     refine (Classical.em ((c0.Row.length : Int) > (5 : Int))).elim (fun h4 => ?_) (fun h4 => ?_)
     ·have qq4 := decide_eq_true (p := ((c0.Cols.length : Int) > (5 : Int)) ∨ ((c0.Row.length : Int) > (5 : Int))) (Or.inr h4)
      iterate 4 (refine r_off rfl rfl rfl rfl qq4 rfl rfl ?_)
      have qq5 := decide_eq_true (p := (((c0.Cols.length : Int) > (5 : Int)) ∨ ((c0.Row.length : Int) > (5 : Int))) ∨ ((c0.Sets.length : Int) > (4 : Int))) (Or.inl (Or.inr h4))
      refine rp rfl rfl (p_pkt rfl rfl qq4 (tb qq5.symm)) ?_
      refine rp rfl rfl (p_move rfl rfl) ?_
      iterate 5 (refine r_off rfl rfl rfl rfl qq5 rfl rfl ?_)
      have qq6 := decide_eq_true (p := ((((c0.Cols.length : Int) > (5 : Int)) ∨ ((c0.Row.length : Int) > (5 : Int))) ∨ ((c0.Sets.length : Int) > (4 : Int))) ∨ ((c0.Query.Items.length : Int) > (4 : Int))) (Or.inl (Or.inl (Or.inr h4)))
      refine rp rfl rfl (p_pkt rfl rfl qq5 (tb qq6.symm)) ?_
      refine rp rfl rfl (p_move rfl rfl) ?_
      iterate 5 (refine r_off rfl rfl rfl rfl qq6 rfl rfl ?_)
      refine rp rfl rfl (p_pkt rfl rfl qq6 (tb (decide_eq_true (p := (((((c0.Cols.length : Int) > (5 : Int)) ∨ ((c0.Row.length : Int) > (5 : Int))) ∨ ((c0.Sets.length : Int) > (4 : Int))) ∨ ((c0.Query.Items.length : Int) > (4 : Int))) ∨ ((c0.Query.Sorts.length : Int) > (4 : Int))) (Or.inl (Or.inl (Or.inl (Or.inr h4))))).symm)) ?_
      refine rs [(1, .q 1 (0)), (49, .b (decide ((((((c0.Cols.length : Int) > (5 : Int)) ∨ ((c0.Row.length : Int) > (5 : Int))) ∨ ((c0.Sets.length : Int) > (4 : Int))) ∨ ((c0.Query.Items.length : Int) > (4 : Int))) ∨ ((c0.Query.Sorts.length : Int) > (4 : Int)))))] [(1, .pure (GCommand.cs c0))] rfl rfl rfl ?_
      exact RunW_nil rfl
     ·have qq7 := decide_eq_false (p := ((c0.Cols.length : Int) > (5 : Int)) ∨ ((c0.Row.length : Int) > (5 : Int))) (not_or.2 ⟨h3, h4⟩)
      refine rn rfl rfl rfl rfl qq7 rfl (u_fa rfl rfl Tryd.underlying43 rfl in_41 (Nat.succ_ne_zero _) rfl rfl (ne_of_lt (n := 0) (Nat.lt_of_lt_of_eq (by decide) (Eq.symm (GCommand.len c0))))) ?_
      refine rn rfl rfl rfl rfl qq7 rfl (u_ld rfl rfl Tryd.underlying41 rfl rfl ((Sub.refl _).trans (GCommand.sub6 c0))) ?_
      refine rn rfl rfl rfl rfl qq7 rfl (p_lenl rfl Tryd.underlying41 rfl rfl) ?_
      refine rn rfl rfl rfl rfl qq7 rfl (p_bin rfl rfl rfl rfl) ?_
      refine rp rfl rfl (p_pkf rfl rfl qq7 (tb ((or_l (p := ((c0.Cols.length : Int) > (5 : Int)) ∨ ((c0.Row.length : Int) > (5 : Int))) (q := (c0.Sets.length : Int) > (4 : Int)) (not_or.2 ⟨h3, h4⟩))))) ?_
      refine rp rfl rfl (p_move rfl rfl) ?_
      refine (Classical.em ((c0.Sets.length : Int) > (4 : Int))).elim (fun h5 => ?_) (fun h5 => ?_)
      ·have qq8 := decide_eq_true (p := (((c0.Cols.length : Int) > (5 : Int)) ∨ ((c0.Row.length : Int) > (5 : Int))) ∨ ((c0.Sets.length : Int) > (4 : Int))) (Or.inr h5)
       iterate 5 (refine r_off rfl rfl rfl rfl qq8 rfl rfl ?_)
       have qq9 := decide_eq_true (p := ((((c0.Cols.length : Int) > (5 : Int)) ∨ ((c0.Row.length : Int) > (5 : Int))) ∨ ((c0.Sets.length : Int) > (4 : Int))) ∨ ((c0.Query.Items.length : Int) > (4 : Int))) (Or.inl (Or.inr h5))
       refine rp rfl rfl (p_pkt rfl rfl qq8 (tb qq9.symm)) ?_
       refine rp rfl rfl (p_move rfl rfl) ?_
       iterate 5 (refine r_off rfl rfl rfl rfl qq9 rfl rfl ?_)
       refine rp rfl rfl (p_pkt rfl rfl qq9 (tb (decide_eq_true (p := (((((c0.Cols.length : Int) > (5 : Int)) ∨ ((c0.Row.length : Int) > (5 : Int))) ∨ ((c0.Sets.length : Int) > (4 : Int))) ∨ ((c0.Query.Items.length : Int) > (4 : Int))) ∨ ((c0.Query.Sorts.length : Int) > (4 : Int))) (Or.inl (Or.inl (Or.inr h5)))).symm)) ?_
       refine rs [(1, .q 1 (0)), (49, .b (decide ((((((c0.Cols.length : Int) > (5 : Int)) ∨ ((c0.Row.length : Int) > (5 : Int))) ∨ ((c0.Sets.length : Int) > (4 : Int))) ∨ ((c0.Query.Items.length : Int) > (4 : Int))) ∨ ((c0.Query.Sorts.length : Int) > (4 : Int)))))] [(1, .pure (GCommand.cs c0))] rfl rfl rfl ?_
       exact RunW_nil rfl
      ·have qq10 := decide_eq_false (p := (((c0.Cols.length : Int) > (5 : Int)) ∨ ((c0.Row.length : Int) > (5 : Int))) ∨ ((c0.Sets.length : Int) > (4 : Int))) (not_or.2 ⟨(not_or.2 ⟨h3, h4⟩), h5⟩)
       refine rn rfl rfl rfl rfl qq10 rfl (u_fa rfl rfl Tryd.underlying43 rfl in_37 (Nat.succ_ne_zero _) rfl rfl (ne_of_lt (n := 0) (Nat.lt_of_lt_of_eq (by decide) (Eq.symm (GCommand.len c0))))) ?_
       refine rn rfl rfl rfl rfl qq10 rfl (u_fa rfl rfl Tryd.underlying37 rfl in_34 (Nat.succ_ne_zero _) rfl rfl (ne_of_lt (n := 0) (Nat.lt_of_lt_of_eq (by decide) (Eq.symm (GCommand.len c0))))) ?_
       refine rn rfl rfl rfl rfl qq10 rfl (u_ld rfl rfl Tryd.underlying34 rfl rfl (((Sub.refl _).trans (GCommand.sub8 c0)).trans (GQuery.sub0 c0.Query))) ?_
       refine rn rfl rfl rfl rfl qq10 rfl (p_lenl rfl Tryd.underlying34 rfl rfl) ?_
       refine rn rfl rfl rfl rfl qq10 rfl (p_bin rfl rfl rfl rfl) ?_
       refine rp rfl rfl (p_pkf rfl rfl qq10 (tb ((or_l (p := (((c0.Cols.length : Int) > (5 : Int)) ∨ ((c0.Row.length : Int) > (5 : Int))) ∨ ((c0.Sets.length : Int) > (4 : Int))) (q := (c0.Query.Items.length : Int) > (4 : Int)) (not_or.2 ⟨(not_or.2 ⟨h3, h4⟩), h5⟩))))) ?_
       refine rp rfl rfl (p_move rfl rfl) ?_
       refine (Classical.em ((c0.Query.Items.length : Int) > (4 : Int))).elim (fun h6 => ?_) (fun h6 => ?_)
       ·have qq11 := decide_eq_true (p := ((((c0.Cols.length : Int) > (5 : Int)) ∨ ((c0.Row.length : Int) > (5 : Int))) ∨ ((c0.Sets.length : Int) > (4 : Int))) ∨ ((c0.Query.Items.length : Int) > (4 : Int))) (Or.inr h6)
        iterate 5 (refine r_off rfl rfl rfl rfl qq11 rfl rfl ?_)
        refine rp rfl rfl (p_pkt rfl rfl qq11 (tb (decide_eq_true (p := (((((c0.Cols.length : Int) > (5 : Int)) ∨ ((c0.Row.length : Int) > (5 : Int))) ∨ ((c0.Sets.length : Int) > (4 : Int))) ∨ ((c0.Query.Items.length : Int) > (4 : Int))) ∨ ((c0.Query.Sorts.length : Int) > (4 : Int))) (Or.inl (Or.inr h6))).symm)) ?_
        refine rs [(1, .q 1 (0)), (49, .b (decide ((((((c0.Cols.length : Int) > (5 : Int)) ∨ ((c0.Row.length : Int) > (5 : Int))) ∨ ((c0.Sets.length : Int) > (4 : Int))) ∨ ((c0.Query.Items.length : Int) > (4 : Int))) ∨ ((c0.Query.Sorts.length : Int) > (4 : Int)))))] [(1, .pure (GCommand.cs c0))] rfl rfl rfl ?_
        exact RunW_nil rfl
       ·have qq12 := decide_eq_false (p := ((((c0.Cols.length : Int) > (5 : Int)) ∨ ((c0.Row.length : Int) > (5 : Int))) ∨ ((c0.Sets.length : Int) > (4 : Int))) ∨ ((c0.Query.Items.length : Int) > (4 : Int))) (not_or.2 ⟨(not_or.2 ⟨(not_or.2 ⟨h3, h4⟩), h5⟩), h6⟩)
        refine rn rfl rfl rfl rfl qq12 rfl (u_fa rfl rfl Tryd.underlying43 rfl in_37 (Nat.succ_ne_zero _) rfl rfl (ne_of_lt (n := 0) (Nat.lt_of_lt_of_eq (by decide) (Eq.symm (GCommand.len c0))))) ?_
        refine rn rfl rfl rfl rfl qq12 rfl (u_fa rfl rfl Tryd.underlying37 rfl in_35 (Nat.succ_ne_zero _) rfl rfl (ne_of_lt (n := 0) (Nat.lt_of_lt_of_eq (by decide) (Eq.symm (GCommand.len c0))))) ?_
        refine rn rfl rfl rfl rfl qq12 rfl (u_ld rfl rfl Tryd.underlying35 rfl rfl (((Sub.refl _).trans (GCommand.sub8 c0)).trans (GQuery.sub3 c0.Query))) ?_
        refine rn rfl rfl rfl rfl qq12 rfl (p_lenl rfl Tryd.underlying35 rfl rfl) ?_
        refine rn rfl rfl rfl rfl qq12 rfl (p_bin rfl rfl rfl rfl) ?_
        refine rp rfl rfl (p_pkf rfl rfl qq12 (tb ((or_l (p := ((((c0.Cols.length : Int) > (5 : Int)) ∨ ((c0.Row.length : Int) > (5 : Int))) ∨ ((c0.Sets.length : Int) > (4 : Int))) ∨ ((c0.Query.Items.length : Int) > (4 : Int))) (q := (c0.Query.Sorts.length : Int) > (4 : Int)) (not_or.2 ⟨(not_or.2 ⟨(not_or.2 ⟨h3, h4⟩), h5⟩), h6⟩))))) ?_
        refine rs [(1, .q 1 (0)), (49, .b (decide ((((((c0.Cols.length : Int) > (5 : Int)) ∨ ((c0.Row.length : Int) > (5 : Int))) ∨ ((c0.Sets.length : Int) > (4 : Int))) ∨ ((c0.Query.Items.length : Int) > (4 : Int))) ∨ ((c0.Query.Sorts.length : Int) > (4 : Int)))))] [(1, .pure (GCommand.cs c0))] rfl rfl rfl ?_
        exact RunW_nil rfl
   ·refine gen1 (fun t49'1 => (⟨[(1, .q 1 (0)), (49, .b t49'1)], [(1, .pure (GCommand.cs c0))], 286⟩ : TS)) H ?_
    intro t49'1 H
    refine AW2_cond rfl (fun h7 => ?_) (fun h7 => ?_)
    ·replace H := ite_then h7 H
     refine sg [0] rfl ?_
     refine rp rfl rfl (p_asg rfl rfl) ?_
     refine rz [(2, .i (1 : Int))] [] rfl rfl rfl ?_
     refine AW2_ret ?_
     have hz := some_elim H
     subst hz
     exact ⟨⟨res_tmp (.same _), trivial⟩, trivial⟩
    ·replace H := ite_else (ne_true h7) H
     refine as2 [(1, .q 1 (0))] [(1, .pure (GCommand.cs c0))] rfl rfl rfl ?_
     refine AW2_skip ?_
     refine AW2_seq ?_
     refine sg [0, 1, 2, 3] rfl ?_
     refine rp rfl rfl (u_lda rfl rfl Tryd.underlying43 rfl in_43 rfl (Nat.succ_pos _) (Sub.refl _) (GCommand.len c0)) ?_
     refine bindK H fun r'2 h8 H => ?_
     refine rp rfl rfl (p_callp rfl rfl rfl Tryd.func32 rfl rfl (g_ref_exprs_ac h8) ⟨rfl, trivial⟩) ?_
     refine rp rfl rfl (p_lenl rfl Tryd.underlying25 rfl rfl) ?_
     refine rp rfl rfl (p_move rfl rfl) ?_
     refine rz [(1, .q 1 (0)), (51, .p ((fun q : List GExpr => AV.lst (q.flatMap GExpr.cs) q.length) r'2)), (52, .i (r'2.length : Int)), (53, .i (0 : Int))] [(1, .pure (GCommand.cs c0))] rfl rfl rfl ?_
     refine AW2_block ?_
     refine as2 [(1, .q 1 (0)), (51, .p ((fun q : List GExpr => AV.lst (q.flatMap GExpr.cs) q.length) r'2)), (52, .i (r'2.length : Int)), (53, .i (0 : Int))] [(1, .pure (GCommand.cs c0))] rfl rfl rfl ?_
     refine bindK H fun o'7 h13 H => ?_
     refine AW2_loopO (fun a'4 : Int => (⟨[(1, .q 1 (0)), (51, .p ((fun q : List GExpr => AV.lst (q.flatMap GExpr.cs) q.length) r'2)), (52, .i (r'2.length : Int)), (53, .i a'4)], [(1, .pure (GCommand.cs c0))], 286⟩ : TS)) (fun (o : Int ⊕ Unit) e s' => match o with | .inl y'5 => e = Go.Exit.ret ∧ ResAll Tryd.prog s' [ResultVar.tmp 2] [.i y'5] ∧ HFits s' [] | .inr (y'6) => e = Go.Exit.exit 0 ∧ s' = (⟨[(1, .q 1 (0))], [(1, .pure (GCommand.cs c0))], 286⟩ : TS)) h13 rfl (fun t53_0 x hx => ?_) (fun e s' hs => ?_)
     ·clear H
      have H := hx
      clear hx
      unfold g_ref_CommandFault_l0 at H
      refine sg [0] rfl ?_
      refine rp rfl rfl (p_bin rfl rfl rfl rfl) ?_
      refine rz [(1, .q 1 (0)), (51, .p ((fun q : List GExpr => AV.lst (q.flatMap GExpr.cs) q.length) r'2)), (52, .i (r'2.length : Int)), (53, .i t53_0), (54, .b (decide (t53_0 < (r'2.length : Int))))] [(1, .pure (GCommand.cs c0))] rfl rfl rfl ?_
      refine AW2_seq ?_
      refine AW2_if (p := t53_0 < (r'2.length : Int)) rfl (fun h9 => ?_) (fun h9 => ?_)
      ·replace H := ite_then h9 H
       refine as2 [(1, .q 1 (0)), (51, .p ((fun q : List GExpr => AV.lst (q.flatMap GExpr.cs) q.length) r'2)), (52, .i (r'2.length : Int)), (53, .i t53_0)] [(1, .pure (GCommand.cs c0))] rfl rfl rfl ?_
       refine AW2_skip ?_
       refine AW2_seq ?_
       refine AW2_block ?_
       refine sg [0, 1, 2, 3] rfl ?_
       refine chkK H fun h10 H => ?_
       refine rp rfl rfl (u_ixl rfl rfl Tryd.underlying25 in_27 rfl rfl (ixe h10) (ixn h10) (fne (fun x => (GExpr.len x)) (by decide) (ixn h10))) ?_
       refine rp rfl rfl (u_lda rfl rfl Tryd.underlying27 rfl in_27 rfl (Nat.succ_pos _) (Sub.fm default (fun x => (GExpr.len x)) (ixn h10)) (GExpr.len (lrd r'2 t53_0.toNat))) ?_
       refine r_op rfl rfl (MakeD.opD (u_alloc 4 rfl in_27 one_27 zc_27) rfl rfl rfl rfl) ?_
       refine r_op rfl rfl (u_st rfl rfl rfl rfl rfl in_27 (GExpr.len (lrd r'2 t53_0.toNat)) (ne_of_lt (n := 0) (Nat.lt_of_lt_of_eq (by decide) (Eq.symm (GExpr.len GExpr.zero)))) (Upd.refl ((GExpr.len (lrd r'2 t53_0.toNat)).trans (GExpr.len GExpr.zero).symm))) ?_
       refine rz [(1, .q 1 (0)), (4, .q 4 (0)), (51, .p ((fun q : List GExpr => AV.lst (q.flatMap GExpr.cs) q.length) r'2)), (52, .i (r'2.length : Int)), (53, .i t53_0)] [(1, .pure (GCommand.cs c0)), (4, .pure (GExpr.cs (lrd r'2 t53_0.toNat)))] rfl rfl rfl ?_
       refine sg [0, 1, 2] rfl ?_
       refine rp rfl rfl (u_lda rfl rfl Tryd.underlying27 rfl in_27 rfl (Nat.succ_pos _) (Sub.refl _) (GExpr.len (lrd r'2 t53_0.toNat))) ?_
       refine bindK H fun r'3 h11 H => ?_
       refine rp rfl rfl (p_callp rfl rfl rfl Tryd.func33 rfl rfl (g_ref_within_ac h11) ⟨rfl, trivial⟩) ?_
       refine rp rfl rfl (p_not rfl rfl) ?_
       refine rz [(1, .q 1 (0)), (51, .p ((fun q : List GExpr => AV.lst (q.flatMap GExpr.cs) q.length) r'2)), (52, .i (r'2.length : Int)), (53, .i t53_0), (59, .b (!r'3))] [(1, .pure (GCommand.cs c0))] rfl rfl rfl ?_
       refine AW2_cond rfl (fun h12 => ?_) (fun h12 => ?_)
       ·replace H := ite_then h12 H
        refine sg [0] rfl ?_
        refine rp rfl rfl (p_asg rfl rfl) ?_
        refine rz [(2, .i (1 : Int))] [] rfl rfl rfl ?_
        refine AW2_ret ?_
        have hz := some_elim H
        subst hz
        exact ⟨rfl, ⟨res_tmp (.same _), trivial⟩, trivial⟩
       ·replace H := ite_else (ne_true h12) H
        refine as2 [(1, .q 1 (0)), (51, .p ((fun q : List GExpr => AV.lst (q.flatMap GExpr.cs) q.length) r'2)), (52, .i (r'2.length : Int)), (53, .i t53_0)] [(1, .pure (GCommand.cs c0))] rfl rfl rfl ?_
        refine AW2_skip ?_
        refine AW2_reg [0, 1] rfl ?_
        refine rp rfl rfl (p_bin rfl rfl rfl rfl) ?_
        refine rp rfl rfl (p_move rfl rfl) ?_
        refine rz [(1, .q 1 (0)), (51, .p ((fun q : List GExpr => AV.lst (q.flatMap GExpr.cs) q.length) r'2)), (52, .i (r'2.length : Int)), (53, .i (w64 (t53_0 + (1 : Int))))] [(1, .pure (GCommand.cs c0))] rfl rfl rfl ?_
        have hz := some_elim H
        subst hz
        exact ⟨rfl, rfl⟩
      ·replace H := ite_else h9 H
       refine as2 [(1, .q 1 (0))] [(1, .pure (GCommand.cs c0))] rfl rfl rfl ?_
       refine AW2_exit ?_
       refine thenQ2_exit ?_
       have hz := some_elim H
       subst hz
       exact ⟨rfl, rfl⟩
     ·rcases o'7 with y'8 | y'9
      ·obtain ⟨rfl, hs⟩ := hs
       refine ⟨by simp, ?_⟩
       have hz := some_elim H
       subst hz
       exact ⟨hs.1, hs.2⟩
      ·obtain ⟨rfl, rfl⟩ := hs
       refine ⟨by simp, ?_⟩
       refine blockQ2_exit ?_
       refine AW2_seq ?_
       refine bindK H fun r'10 h14 H => ?_
       refine AW2_mid (⟨[(1, .q 1 (0)), (5, .b (decide ((((r'10 = true) ∧ (c0.Owner ≥ (0 : Int))) ∧ (c0.Drawer ≥ (0 : Int))) ∧ (c0.To ≥ (0 : Int)))))], [(1, .pure (GCommand.cs c0))], 286⟩ : TS) ?_ ?_
       ·refine AW2_reg [0, 1, 2, 3, 4, 5, 6, 7, 8, 9, 10, 11, 12, 13, 14, 15, 16, 17, 18] rfl ?_
        refine rp rfl rfl (u_fa rfl rfl Tryd.underlying43 rfl in_9 (Nat.succ_ne_zero _) rfl rfl (ne_of_lt (n := 0) (Nat.lt_of_lt_of_eq (by decide) (Eq.symm (GCommand.len c0))))) ?_
        refine rp rfl rfl (u_ld rfl rfl Tryd.underlying9 rfl rfl ((Sub.refl _).trans (GCommand.sub2 c0))) ?_
        refine rp rfl rfl (p_callp rfl rfl rfl Tryd.func34 rfl rfl (g_ref_mayName_ac h14) ⟨rfl, trivial⟩) ?_
        refine rp rfl rfl (p_move rfl rfl) ?_
        refine (Classical.em (r'10 = true)).elim (fun h15 => ?_) (fun h15 => ?_)
        ·refine rn rfl rfl rfl rfl h15 rfl (u_fa rfl rfl Tryd.underlying43 rfl in_3 (Nat.succ_ne_zero _) rfl rfl (ne_of_lt (n := 0) (Nat.lt_of_lt_of_eq (by decide) (Eq.symm (GCommand.len c0))))) ?_
         refine rn rfl rfl rfl rfl h15 rfl (u_ld rfl rfl Tryd.underlying3 rfl rfl ((Sub.refl _).trans (GCommand.sub1 c0))) ?_
         refine rn rfl rfl rfl rfl h15 rfl (p_bin rfl rfl rfl rfl) ?_
         refine rp rfl rfl (p_pkt rfl rfl h15 (tb ((and_l (p := r'10 = true) (q := c0.Owner ≥ (0 : Int)) h15)))) ?_
         refine rp rfl rfl (p_move rfl rfl) ?_
         refine (Classical.em (c0.Owner ≥ (0 : Int))).elim (fun h16 => ?_) (fun h16 => ?_)
         ·have qq13 := decide_eq_true (p := (r'10 = true) ∧ (c0.Owner ≥ (0 : Int))) ⟨h15, h16⟩
          refine rn rfl rfl rfl rfl qq13 rfl (u_fa rfl rfl Tryd.underlying43 rfl in_3 (Nat.succ_ne_zero _) rfl rfl (ne_of_lt (n := 0) (Nat.lt_of_lt_of_eq (by decide) (Eq.symm (GCommand.len c0))))) ?_
          refine rn rfl rfl rfl rfl qq13 rfl (u_ld rfl rfl Tryd.underlying3 rfl rfl ((Sub.refl _).trans (GCommand.sub3 c0))) ?_
          refine rn rfl rfl rfl rfl qq13 rfl (p_bin rfl rfl rfl rfl) ?_
          refine rp rfl rfl (p_pkt rfl rfl qq13 (tb ((and_l (p := (r'10 = true) ∧ (c0.Owner ≥ (0 : Int))) (q := c0.Drawer ≥ (0 : Int)) ⟨h15, h16⟩)))) ?_
          refine rp rfl rfl (p_move rfl rfl) ?_
          refine (Classical.em (c0.Drawer ≥ (0 : Int))).elim (fun h17 => ?_) (fun h17 => ?_)
          ·have qq14 := decide_eq_true (p := ((r'10 = true) ∧ (c0.Owner ≥ (0 : Int))) ∧ (c0.Drawer ≥ (0 : Int))) ⟨⟨h15, h16⟩, h17⟩
           refine rn rfl rfl rfl rfl qq14 rfl (u_fa rfl rfl Tryd.underlying43 rfl in_3 (Nat.succ_ne_zero _) rfl rfl (ne_of_lt (n := 0) (Nat.lt_of_lt_of_eq (by decide) (Eq.symm (GCommand.len c0))))) ?_
           refine rn rfl rfl rfl rfl qq14 rfl (u_ld rfl rfl Tryd.underlying3 rfl rfl ((Sub.refl _).trans (GCommand.sub9 c0))) ?_
           refine rn rfl rfl rfl rfl qq14 rfl (p_bin rfl rfl rfl rfl) ?_
           refine rp rfl rfl (p_pkt rfl rfl qq14 (tb ((and_l (p := ((r'10 = true) ∧ (c0.Owner ≥ (0 : Int))) ∧ (c0.Drawer ≥ (0 : Int))) (q := c0.To ≥ (0 : Int)) ⟨⟨h15, h16⟩, h17⟩)))) ?_
           refine rp rfl rfl (p_asg rfl rfl) ?_
           refine rs [(1, .q 1 (0)), (5, .b (decide ((((r'10 = true) ∧ (c0.Owner ≥ (0 : Int))) ∧ (c0.Drawer ≥ (0 : Int))) ∧ (c0.To ≥ (0 : Int)))))] [(1, .pure (GCommand.cs c0))] rfl rfl rfl ?_
           exact RunW_nil rfl
          ·have qq15 := decide_eq_false (p := ((r'10 = true) ∧ (c0.Owner ≥ (0 : Int))) ∧ (c0.Drawer ≥ (0 : Int))) (fun h => h17 h.2)
           iterate 3 (refine r_off rfl rfl rfl rfl qq15 rfl rfl ?_)
           refine rp rfl rfl (p_pkf rfl rfl qq15 (tb (decide_eq_false (p := (((r'10 = true) ∧ (c0.Owner ≥ (0 : Int))) ∧ (c0.Drawer ≥ (0 : Int))) ∧ (c0.To ≥ (0 : Int))) (fun x => (fun h => h17 h.2) x.1)).symm)) ?_
           refine rp rfl rfl (p_asg rfl rfl) ?_
           refine rs [(1, .q 1 (0)), (5, .b (decide ((((r'10 = true) ∧ (c0.Owner ≥ (0 : Int))) ∧ (c0.Drawer ≥ (0 : Int))) ∧ (c0.To ≥ (0 : Int)))))] [(1, .pure (GCommand.cs c0))] rfl rfl rfl ?_
           exact RunW_nil rfl
         ·have qq16 := decide_eq_false (p := (r'10 = true) ∧ (c0.Owner ≥ (0 : Int))) (fun h => h16 h.2)
          iterate 3 (refine r_off rfl rfl rfl rfl qq16 rfl rfl ?_)
          refine rp rfl rfl (p_pkf rfl rfl qq16 (tb (decide_eq_false (p := ((r'10 = true) ∧ (c0.Owner ≥ (0 : Int))) ∧ (c0.Drawer ≥ (0 : Int))) (fun x => (fun h => h16 h.2) x.1)).symm)) ?_
          refine rp rfl rfl (p_move rfl rfl) ?_
          have qq17 := decide_eq_false (p := ((r'10 = true) ∧ (c0.Owner ≥ (0 : Int))) ∧ (c0.Drawer ≥ (0 : Int))) (fun h => (fun h => h16 h.2) h.1)
          iterate 3 (refine r_off rfl rfl rfl rfl qq17 rfl rfl ?_)
          refine rp rfl rfl (p_pkf rfl rfl qq17 (tb (decide_eq_false (p := (((r'10 = true) ∧ (c0.Owner ≥ (0 : Int))) ∧ (c0.Drawer ≥ (0 : Int))) ∧ (c0.To ≥ (0 : Int))) (fun x => (fun h => (fun h => h16 h.2) h.1) x.1)).symm)) ?_
          refine rp rfl rfl (p_asg rfl rfl) ?_
          refine rs [(1, .q 1 (0)), (5, .b (decide ((((r'10 = true) ∧ (c0.Owner ≥ (0 : Int))) ∧ (c0.Drawer ≥ (0 : Int))) ∧ (c0.To ≥ (0 : Int)))))] [(1, .pure (GCommand.cs c0))] rfl rfl rfl ?_
          exact RunW_nil rfl
        ·iterate 3 (refine r_off rfl rfl rfl rfl (bfalse h15) rfl rfl ?_)
         refine rp rfl rfl (p_pkf rfl rfl (bfalse h15) (tb (decide_eq_false (p := (r'10 = true) ∧ (c0.Owner ≥ (0 : Int))) (fun x => h15 x.1)).symm)) ?_
         refine rp rfl rfl (p_move rfl rfl) ?_
         have qq18 := decide_eq_false (p := (r'10 = true) ∧ (c0.Owner ≥ (0 : Int))) (fun h => h15 h.1)
         iterate 3 (refine r_off rfl rfl rfl rfl qq18 rfl rfl ?_)
         refine rp rfl rfl (p_pkf rfl rfl qq18 (tb (decide_eq_false (p := ((r'10 = true) ∧ (c0.Owner ≥ (0 : Int))) ∧ (c0.Drawer ≥ (0 : Int))) (fun x => (fun h => h15 h.1) x.1)).symm)) ?_
         refine rp rfl rfl (p_move rfl rfl) ?_
         have qq19 := decide_eq_false (p := ((r'10 = true) ∧ (c0.Owner ≥ (0 : Int))) ∧ (c0.Drawer ≥ (0 : Int))) (fun h => (fun h => h15 h.1) h.1)
         iterate 3 (refine r_off rfl rfl rfl rfl qq19 rfl rfl ?_)
         refine rp rfl rfl (p_pkf rfl rfl qq19 (tb (decide_eq_false (p := (((r'10 = true) ∧ (c0.Owner ≥ (0 : Int))) ∧ (c0.Drawer ≥ (0 : Int))) ∧ (c0.To ≥ (0 : Int))) (fun x => (fun h => (fun h => h15 h.1) h.1) x.1)).symm)) ?_
         refine rp rfl rfl (p_asg rfl rfl) ?_
         refine rs [(1, .q 1 (0)), (5, .b (decide ((((r'10 = true) ∧ (c0.Owner ≥ (0 : Int))) ∧ (c0.Drawer ≥ (0 : Int))) ∧ (c0.To ≥ (0 : Int)))))] [(1, .pure (GCommand.cs c0))] rfl rfl rfl ?_
         exact RunW_nil rfl
       ·refine AW2_seq ?_
        refine bindK H fun j'11 h18 H => ?_
        refine AW2_mid (⟨[(1, .q 1 (0)), (5, .b j'11.1)], [(1, .pure (GCommand.cs j'11.2))], 286⟩ : TS) ?_ ?_
        ·clear H
         have H := h18
         clear h18
         refine sg [0, 1] rfl ?_
         refine rp rfl rfl (u_fa rfl rfl Tryd.underlying43 rfl in_3 (Nat.succ_ne_zero _) rfl rfl (ne_of_lt (n := 0) (Nat.lt_of_lt_of_eq (by decide) (Eq.symm (GCommand.len c0))))) ?_
         refine rp rfl rfl (u_ld rfl rfl Tryd.underlying3 rfl rfl ((Sub.refl _).trans (GCommand.sub0 c0))) ?_
         refine rz [(1, .q 1 (0)), (5, .b (decide ((((r'10 = true) ∧ (c0.Owner ≥ (0 : Int))) ∧ (c0.Drawer ≥ (0 : Int))) ∧ (c0.To ≥ (0 : Int))))), (80, .i c0.Kind)] [(1, .pure (GCommand.cs c0))] rfl rfl rfl ?_
         refine AW2_block ?_
         refine sg [0, 1] rfl ?_
         refine rp rfl rfl (p_ieq rfl rfl rfl) ?_
         refine rp rfl rfl (p_asg rfl rfl) ?_
         refine rz [(1, .q 1 (0)), (5, .b (decide ((((r'10 = true) ∧ (c0.Owner ≥ (0 : Int))) ∧ (c0.Drawer ≥ (0 : Int))) ∧ (c0.To ≥ (0 : Int))))), (80, .i c0.Kind), (105, .b (decide (c0.Kind = (1 : Int))))] [(1, .pure (GCommand.cs c0))] rfl rfl rfl ?_
         refine AW2_if (p := c0.Kind = (1 : Int)) rfl (fun h19 => ?_) (fun h19 => ?_)
         ·replace H := ite_then h19 H
          refine AW2_seq ?_
          refine AW2_mid (⟨[(1, .q 1 (0)), (5, .b (decide (((((((r'10 = true) ∧ (c0.Owner ≥ (0 : Int))) ∧ (c0.Drawer ≥ (0 : Int))) ∧ (c0.To ≥ (0 : Int))) ∧ ((c0.Cols.length : Int) > (0 : Int))) ∧ (c0.Owner = (0 : Int))) ∧ (c0.Drawer = (0 : Int)))))], [(1, .pure (GCommand.cs c0))], 286⟩ : TS) ?_ ?_
          ·refine AW2_reg [0, 1, 2, 3, 4, 5, 6, 7, 8, 9, 10, 11, 12, 13, 14, 15, 16, 17] rfl ?_
           refine rp rfl rfl (p_move rfl rfl) ?_
           refine rp rfl rfl (p_move rfl rfl) ?_
           refine (Classical.em (r'10 = true)).elim (fun h20 => ?_) (fun h20 => ?_)
           ·refine (Classical.em (c0.Owner ≥ (0 : Int))).elim (fun h21 => ?_) (fun h21 => ?_)
            ·refine (Classical.em (c0.Drawer ≥ (0 : Int))).elim (fun h22 => ?_) (fun h22 => ?_)
             ·refine (Classical.em (c0.To ≥ (0 : Int))).elim (fun h23 => ?_) (fun h23 => ?_)
              ·have qq20 := decide_eq_true (p := (((r'10 = true) ∧ (c0.Owner ≥ (0 : Int))) ∧ (c0.Drawer ≥ (0 : Int))) ∧ (c0.To ≥ (0 : Int))) ⟨⟨⟨h20, h21⟩, h22⟩, h23⟩
               refine rn rfl rfl rfl rfl qq20 rfl (u_fa rfl rfl Tryd.underlying43 rfl in_28 (Nat.succ_ne_zero _) rfl rfl (ne_of_lt (n := 0) (Nat.lt_of_lt_of_eq (by decide) (Eq.symm (GCommand.len c0))))) ?_
               refine rn rfl rfl rfl rfl qq20 rfl (u_ld rfl rfl Tryd.underlying28 rfl rfl ((Sub.refl _).trans (GCommand.sub4 c0))) ?_
               refine rn rfl rfl rfl rfl qq20 rfl (p_lenl rfl Tryd.underlying28 rfl rfl) ?_
               refine rn rfl rfl rfl rfl qq20 rfl (p_bin rfl rfl rfl rfl) ?_
               refine rp rfl rfl (p_pkt rfl rfl qq20 (tb ((and_l (p := (((r'10 = true) ∧ (c0.Owner ≥ (0 : Int))) ∧ (c0.Drawer ≥ (0 : Int))) ∧ (c0.To ≥ (0 : Int))) (q := (c0.Cols.length : Int) > (0 : Int)) ⟨⟨⟨h20, h21⟩, h22⟩, h23⟩)))) ?_
               refine rp rfl rfl (p_move rfl rfl) ?_
               refine (Classical.em ((c0.Cols.length : Int) > (0 : Int))).elim (fun h24 => ?_) (fun h24 => ?_)
               ·have qq21 := decide_eq_true (p := ((((r'10 = true) ∧ (c0.Owner ≥ (0 : Int))) ∧ (c0.Drawer ≥ (0 : Int))) ∧ (c0.To ≥ (0 : Int))) ∧ ((c0.Cols.length : Int) > (0 : Int))) ⟨⟨⟨⟨h20, h21⟩, h22⟩, h23⟩, h24⟩
                refine rn rfl rfl rfl rfl qq21 rfl (u_fa rfl rfl Tryd.underlying43 rfl in_3 (Nat.succ_ne_zero _) rfl rfl (ne_of_lt (n := 0) (Nat.lt_of_lt_of_eq (by decide) (Eq.symm (GCommand.len c0))))) ?_
                refine rn rfl rfl rfl rfl qq21 rfl (u_ld rfl rfl Tryd.underlying3 rfl rfl ((Sub.refl _).trans (GCommand.sub1 c0))) ?_
                refine rn rfl rfl rfl rfl qq21 rfl (p_ieq rfl rfl rfl) ?_
                refine rp rfl rfl (p_pkt rfl rfl qq21 (tb ((and_l (p := ((((r'10 = true) ∧ (c0.Owner ≥ (0 : Int))) ∧ (c0.Drawer ≥ (0 : Int))) ∧ (c0.To ≥ (0 : Int))) ∧ ((c0.Cols.length : Int) > (0 : Int))) (q := c0.Owner = (0 : Int)) ⟨⟨⟨⟨h20, h21⟩, h22⟩, h23⟩, h24⟩)))) ?_
                refine rp rfl rfl (p_move rfl rfl) ?_
                refine (Classical.em (c0.Owner = (0 : Int))).elim (fun h25 => ?_) (fun h25 => ?_)
                ·have qq22 := decide_eq_true (p := (((((r'10 = true) ∧ (c0.Owner ≥ (0 : Int))) ∧ (c0.Drawer ≥ (0 : Int))) ∧ (c0.To ≥ (0 : Int))) ∧ ((c0.Cols.length : Int) > (0 : Int))) ∧ (c0.Owner = (0 : Int))) ⟨⟨⟨⟨⟨h20, h21⟩, h22⟩, h23⟩, h24⟩, h25⟩
                 refine rn rfl rfl rfl rfl qq22 rfl (u_fa rfl rfl Tryd.underlying43 rfl in_3 (Nat.succ_ne_zero _) rfl rfl (ne_of_lt (n := 0) (Nat.lt_of_lt_of_eq (by decide) (Eq.symm (GCommand.len c0))))) ?_
                 refine rn rfl rfl rfl rfl qq22 rfl (u_ld rfl rfl Tryd.underlying3 rfl rfl ((Sub.refl _).trans (GCommand.sub3 c0))) ?_
                 refine rn rfl rfl rfl rfl qq22 rfl (p_ieq rfl rfl rfl) ?_
                 refine rp rfl rfl (p_pkt rfl rfl qq22 (tb ((and_l (p := (((((r'10 = true) ∧ (c0.Owner ≥ (0 : Int))) ∧ (c0.Drawer ≥ (0 : Int))) ∧ (c0.To ≥ (0 : Int))) ∧ ((c0.Cols.length : Int) > (0 : Int))) ∧ (c0.Owner = (0 : Int))) (q := c0.Drawer = (0 : Int)) ⟨⟨⟨⟨⟨h20, h21⟩, h22⟩, h23⟩, h24⟩, h25⟩)))) ?_
                 refine rp rfl rfl (p_asg rfl rfl) ?_
                 refine rs [(1, .q 1 (0)), (5, .b (decide (((((((r'10 = true) ∧ (c0.Owner ≥ (0 : Int))) ∧ (c0.Drawer ≥ (0 : Int))) ∧ (c0.To ≥ (0 : Int))) ∧ ((c0.Cols.length : Int) > (0 : Int))) ∧ (c0.Owner = (0 : Int))) ∧ (c0.Drawer = (0 : Int)))))] [(1, .pure (GCommand.cs c0))] rfl rfl rfl ?_
                 exact RunW_nil rfl
                ·have qq23 := decide_eq_false (p := (((((r'10 = true) ∧ (c0.Owner ≥ (0 : Int))) ∧ (c0.Drawer ≥ (0 : Int))) ∧ (c0.To ≥ (0 : Int))) ∧ ((c0.Cols.length : Int) > (0 : Int))) ∧ (c0.Owner = (0 : Int))) (fun h => h25 h.2)
                 iterate 3 (refine r_off rfl rfl rfl rfl qq23 rfl rfl ?_)
                 refine rp rfl rfl (p_pkf rfl rfl qq23 (tb (decide_eq_false (p := ((((((r'10 = true) ∧ (c0.Owner ≥ (0 : Int))) ∧ (c0.Drawer ≥ (0 : Int))) ∧ (c0.To ≥ (0 : Int))) ∧ ((c0.Cols.length : Int) > (0 : Int))) ∧ (c0.Owner = (0 : Int))) ∧ (c0.Drawer = (0 : Int))) (fun x => (fun h => h25 h.2) x.1)).symm)) ?_
                 refine rp rfl rfl (p_asg rfl rfl) ?_
                 refine rs [(1, .q 1 (0)), (5, .b (decide (((((((r'10 = true) ∧ (c0.Owner ≥ (0 : Int))) ∧ (c0.Drawer ≥ (0 : Int))) ∧ (c0.To ≥ (0 : Int))) ∧ ((c0.Cols.length : Int) > (0 : Int))) ∧ (c0.Owner = (0 : Int))) ∧ (c0.Drawer = (0 : Int)))))] [(1, .pure (GCommand.cs c0))] rfl rfl rfl ?_
                 exact RunW_nil rfl
               ·have qq24 := decide_eq_false (p := ((((r'10 = true) ∧ (c0.Owner ≥ (0 : Int))) ∧ (c0.Drawer ≥ (0 : Int))) ∧ (c0.To ≥ (0 : Int))) ∧ ((c0.Cols.length : Int) > (0 : Int))) (fun h => h24 h.2)
                iterate 3 (refine r_off rfl rfl rfl rfl qq24 rfl rfl ?_)
                refine rp rfl rfl (p_pkf rfl rfl qq24 (tb (decide_eq_false (p := (((((r'10 = true) ∧ (c0.Owner ≥ (0 : Int))) ∧ (c0.Drawer ≥ (0 : Int))) ∧ (c0.To ≥ (0 : Int))) ∧ ((c0.Cols.length : Int) > (0 : Int))) ∧ (c0.Owner = (0 : Int))) (fun x => (fun h => h24 h.2) x.1)).symm)) ?_
                refine rp rfl rfl (p_move rfl rfl) ?_
                have qq25 := decide_eq_false (p := (((((r'10 = true) ∧ (c0.Owner ≥ (0 : Int))) ∧ (c0.Drawer ≥ (0 : Int))) ∧ (c0.To ≥ (0 : Int))) ∧ ((c0.Cols.length : Int) > (0 : Int))) ∧ (c0.Owner = (0 : Int))) (fun h => (fun h => h24 h.2) h.1)
                iterate 3 (refine r_off rfl rfl rfl rfl qq25 rfl rfl ?_)
                refine rp rfl rfl (p_pkf rfl rfl qq25 (tb (decide_eq_false (p := ((((((r'10 = true) ∧ (c0.Owner ≥ (0 : Int))) ∧ (c0.Drawer ≥ (0 : Int))) ∧ (c0.To ≥ (0 : Int))) ∧ ((c0.Cols.length : Int) > (0 : Int))) ∧ (c0.Owner = (0 : Int))) ∧ (c0.Drawer = (0 : Int))) (fun x => (fun h => (fun h => h24 h.2) h.1) x.1)).symm)) ?_
                refine rp rfl rfl (p_asg rfl rfl) ?_
                refine rs [(1, .q 1 (0)), (5, .b (decide (((((((r'10 = true) ∧ (c0.Owner ≥ (0 : Int))) ∧ (c0.Drawer ≥ (0 : Int))) ∧ (c0.To ≥ (0 : Int))) ∧ ((c0.Cols.length : Int) > (0 : Int))) ∧ (c0.Owner = (0 : Int))) ∧ (c0.Drawer = (0 : Int)))))] [(1, .pure (GCommand.cs c0))] rfl rfl rfl ?_
                exact RunW_nil rfl
              ·have qq26 := decide_eq_false (p := (((r'10 = true) ∧ (c0.Owner ≥ (0 : Int))) ∧ (c0.Drawer ≥ (0 : Int))) ∧ (c0.To ≥ (0 : Int))) (fun h => h23 h.2)
               iterate 4 (refine r_off rfl rfl rfl rfl qq26 rfl rfl ?_)
               refine rp rfl rfl (p_pkf rfl rfl qq26 (tb (decide_eq_false (p := ((((r'10 = true) ∧ (c0.Owner ≥ (0 : Int))) ∧ (c0.Drawer ≥ (0 : Int))) ∧ (c0.To ≥ (0 : Int))) ∧ ((c0.Cols.length : Int) > (0 : Int))) (fun x => (fun h => h23 h.2) x.1)).symm)) ?_
               refine rp rfl rfl (p_move rfl rfl) ?_
               have qq27 := decide_eq_false (p := ((((r'10 = true) ∧ (c0.Owner ≥ (0 : Int))) ∧ (c0.Drawer ≥ (0 : Int))) ∧ (c0.To ≥ (0 : Int))) ∧ ((c0.Cols.length : Int) > (0 : Int))) (fun h => (fun h => h23 h.2) h.1)
               iterate 3 (refine r_off rfl rfl rfl rfl qq27 rfl rfl ?_)
               refine rp rfl rfl (p_pkf rfl rfl qq27 (tb (decide_eq_false (p := (((((r'10 = true) ∧ (c0.Owner ≥ (0 : Int))) ∧ (c0.Drawer ≥ (0 : Int))) ∧ (c0.To ≥ (0 : Int))) ∧ ((c0.Cols.length : Int) > (0 : Int))) ∧ (c0.Owner = (0 : Int))) (fun x => (fun h => (fun h => h23 h.2) h.1) x.1)).symm)) ?_
               refine rp rfl rfl (p_move rfl rfl) ?_
               have qq28 := decide_eq_false (p := (((((r'10 = true) ∧ (c0.Owner ≥ (0 : Int))) ∧ (c0.Drawer ≥ (0 : Int))) ∧ (c0.To ≥ (0 : Int))) ∧ ((c0.Cols.length : Int) > (0 : Int))) ∧ (c0.Owner = (0 : Int))) (fun h => (fun h => (fun h => h23 h.2) h.1) h.1)
               iterate 3 (refine r_off rfl rfl rfl rfl qq28 rfl rfl ?_)
               refine rp rfl rfl (p_pkf rfl rfl qq28 (tb (decide_eq_false (p := ((((((r'10 = true) ∧ (c0.Owner ≥ (0 : Int))) ∧ (c0.Drawer ≥ (0 : Int))) ∧ (c0.To ≥ (0 : Int))) ∧ ((c0.Cols.length : Int) > (0 : Int))) ∧ (c0.Owner = (0 : Int))) ∧ (c0.Drawer = (0 : Int))) (fun x => (fun h => (fun h => (fun h => h23 h.2) h.1) h.1) x.1)).symm)) ?_
               refine rp rfl rfl (p_asg rfl rfl) ?_
               refine rs [(1, .q 1 (0)), (5, .b (decide (((((((r'10 = true) ∧ (c0.Owner ≥ (0 : Int))) ∧ (c0.Drawer ≥ (0 : Int))) ∧ (c0.To ≥ (0 : Int))) ∧ ((c0.Cols.length : Int) > (0 : Int))) ∧ (c0.Owner = (0 : Int))) ∧ (c0.Drawer = (0 : Int)))))] [(1, .pure (GCommand.cs c0))] rfl rfl rfl ?_
               exact RunW_nil rfl
             ·have qq29 := decide_eq_false (p := (((r'10 = true) ∧ (c0.Owner ≥ (0 : Int))) ∧ (c0.Drawer ≥ (0 : Int))) ∧ (c0.To ≥ (0 : Int))) (fun h => (fun h => h22 h.2) h.1)
              iterate 4 (refine r_off rfl rfl rfl rfl qq29 rfl rfl ?_)
              refine rp rfl rfl (p_pkf rfl rfl qq29 (tb (decide_eq_false (p := ((((r'10 = true) ∧ (c0.Owner ≥ (0 : Int))) ∧ (c0.Drawer ≥ (0 : Int))) ∧ (c0.To ≥ (0 : Int))) ∧ ((c0.Cols.length : Int) > (0 : Int))) (fun x => (fun h => (fun h => h22 h.2) h.1) x.1)).symm)) ?_
              refine rp rfl rfl (p_move rfl rfl) ?_
              have qq30 := decide_eq_false (p := ((((r'10 = true) ∧ (c0.Owner ≥ (0 : Int))) ∧ (c0.Drawer ≥ (0 : Int))) ∧ (c0.To ≥ (0 : Int))) ∧ ((c0.Cols.length : Int) > (0 : Int))) (fun h => (fun h => (fun h => h22 h.2) h.1) h.1)
              iterate 3 (refine r_off rfl rfl rfl rfl qq30 rfl rfl ?_)
              refine rp rfl rfl (p_pkf rfl rfl qq30 (tb (decide_eq_false (p := (((((r'10 = true) ∧ (c0.Owner ≥ (0 : Int))) ∧ (c0.Drawer ≥ (0 : Int))) ∧ (c0.To ≥ (0 : Int))) ∧ ((c0.Cols.length : Int) > (0 : Int))) ∧ (c0.Owner = (0 : Int))) (fun x => (fun h => (fun h => (fun h => h22 h.2) h.1) h.1) x.1)).symm)) ?_
              refine rp rfl rfl (p_move rfl rfl) ?_
              have qq31 := decide_eq_false (p := (((((r'10 = true) ∧ (c0.Owner ≥ (0 : Int))) ∧ (c0.Drawer ≥ (0 : Int))) ∧ (c0.To ≥ (0 : Int))) ∧ ((c0.Cols.length : Int) > (0 : Int))) ∧ (c0.Owner = (0 : Int))) (fun h => (fun h => (fun h => (fun h => h22 h.2) h.1) h.1) h.1)
              iterate 3 (refine r_off rfl rfl rfl rfl qq31 rfl rfl ?_)
              refine rp rfl rfl (p_pkf rfl rfl qq31 (tb (decide_eq_false (p := ((((((r'10 = true) ∧ (c0.Owner ≥ (0 : Int))) ∧ (c0.Drawer ≥ (0 : Int))) ∧ (c0.To ≥ (0 : Int))) ∧ ((c0.Cols.length : Int) > (0 : Int))) ∧ (c0.Owner = (0 : Int))) ∧ (c0.Drawer = (0 : Int))) (fun x => (fun h => (fun h => (fun h => (fun h => h22 h.2) h.1) h.1) h.1) x.1)).symm)) ?_
              refine rp rfl rfl (p_asg rfl rfl) ?_
              refine rs [(1, .q 1 (0)), (5, .b (decide (((((((r'10 = true) ∧ (c0.Owner ≥ (0 : Int))) ∧ (c0.Drawer ≥ (0 : Int))) ∧ (c0.To ≥ (0 : Int))) ∧ ((c0.Cols.length : Int) > (0 : Int))) ∧ (c0.Owner = (0 : Int))) ∧ (c0.Drawer = (0 : Int)))))] [(1, .pure (GCommand.cs c0))] rfl rfl rfl ?_
              exact RunW_nil rfl
            ·have qq32 := decide_eq_false (p := (((r'10 = true) ∧ (c0.Owner ≥ (0 : Int))) ∧ (c0.Drawer ≥ (0 : Int))) ∧ (c0.To ≥ (0 : Int))) (fun h => (fun h => (fun h => h21 h.2) h.1) h.1)
             iterate 4 (refine r_off rfl rfl rfl rfl qq32 rfl rfl ?_)
             refine rp rfl rfl (p_pkf rfl rfl qq32 (tb (decide_eq_false (p := ((((r'10 = true) ∧ (c0.Owner ≥ (0 : Int))) ∧ (c0.Drawer ≥ (0 : Int))) ∧ (c0.To ≥ (0 : Int))) ∧ ((c0.Cols.length : Int) > (0 : Int))) (fun x => (fun h => (fun h => (fun h => h21 h.2) h.1) h.1) x.1)).symm)) ?_
             refine rp rfl rfl (p_move rfl rfl) ?_
             have qq33 := decide_eq_false (p := ((((r'10 = true) ∧ (c0.Owner ≥ (0 : Int))) ∧ (c0.Drawer ≥ (0 : Int))) ∧ (c0.To ≥ (0 : Int))) ∧ ((c0.Cols.length : Int) > (0 : Int))) (fun h => (fun h => (fun h => (fun h => h21 h.2) h.1) h.1) h.1)
             iterate 3 (refine r_off rfl rfl rfl rfl qq33 rfl rfl ?_)
             refine rp rfl rfl (p_pkf rfl rfl qq33 (tb (decide_eq_false (p := (((((r'10 = true) ∧ (c0.Owner ≥ (0 : Int))) ∧ (c0.Drawer ≥ (0 : Int))) ∧ (c0.To ≥ (0 : Int))) ∧ ((c0.Cols.length : Int) > (0 : Int))) ∧ (c0.Owner = (0 : Int))) (fun x => (fun h => (fun h => (fun h => (fun h => h21 h.2) h.1) h.1) h.1) x.1)).symm)) ?_
             refine rp rfl rfl (p_move rfl rfl) ?_
             have qq34 := decide_eq_false (p := (((((r'10 = true) ∧ (c0.Owner ≥ (0 : Int))) ∧ (c0.Drawer ≥ (0 : Int))) ∧ (c0.To ≥ (0 : Int))) ∧ ((c0.Cols.length : Int) > (0 : Int))) ∧ (c0.Owner = (0 : Int))) (fun h => (fun h => (fun h => (fun h => (fun h => h21 h.2) h.1) h.1) h.1) h.1)
             iterate 3 (refine r_off rfl rfl rfl rfl qq34 rfl rfl ?_)
             refine rp rfl rfl (p_pkf rfl rfl qq34 (tb (decide_eq_false (p := ((((((r'10 = true) ∧ (c0.Owner ≥ (0 : Int))) ∧ (c0.Drawer ≥ (0 : Int))) ∧ (c0.To ≥ (0 : Int))) ∧ ((c0.Cols.length : Int) > (0 : Int))) ∧ (c0.Owner = (0 : Int))) ∧ (c0.Drawer = (0 : Int))) (fun x => (fun h => (fun h => (fun h => (fun h => (fun h => h21 h.2) h.1) h.1) h.1) h.1) x.1)).symm)) ?_
             refine rp rfl rfl (p_asg rfl rfl) ?_
             refine rs [(1, .q 1 (0)), (5, .b (decide (((((((r'10 = true) ∧ (c0.Owner ≥ (0 : Int))) ∧ (c0.Drawer ≥ (0 : Int))) ∧ (c0.To ≥ (0 : Int))) ∧ ((c0.Cols.length : Int) > (0 : Int))) ∧ (c0.Owner = (0 : Int))) ∧ (c0.Drawer = (0 : Int)))))] [(1, .pure (GCommand.cs c0))] rfl rfl rfl ?_
             exact RunW_nil rfl
           ·have qq35 := decide_eq_false (p := (((r'10 = true) ∧ (c0.Owner ≥ (0 : Int))) ∧ (c0.Drawer ≥ (0 : Int))) ∧ (c0.To ≥ (0 : Int))) (fun h => (fun h => (fun h => h20 h.1) h.1) h.1)
            iterate 4 (refine r_off rfl rfl rfl rfl qq35 rfl rfl ?_)
            refine rp rfl rfl (p_pkf rfl rfl qq35 (tb (decide_eq_false (p := ((((r'10 = true) ∧ (c0.Owner ≥ (0 : Int))) ∧ (c0.Drawer ≥ (0 : Int))) ∧ (c0.To ≥ (0 : Int))) ∧ ((c0.Cols.length : Int) > (0 : Int))) (fun x => (fun h => (fun h => (fun h => h20 h.1) h.1) h.1) x.1)).symm)) ?_
            refine rp rfl rfl (p_move rfl rfl) ?_
            have qq36 := decide_eq_false (p := ((((r'10 = true) ∧ (c0.Owner ≥ (0 : Int))) ∧ (c0.Drawer ≥ (0 : Int))) ∧ (c0.To ≥ (0 : Int))) ∧ ((c0.Cols.length : Int) > (0 : Int))) (fun h => (fun h => (fun h => (fun h => h20 h.1) h.1) h.1) h.1)
            iterate 3 (refine r_off rfl rfl rfl rfl qq36 rfl rfl ?_)
            refine rp rfl rfl (p_pkf rfl rfl qq36 (tb (decide_eq_false (p := (((((r'10 = true) ∧ (c0.Owner ≥ (0 : Int))) ∧ (c0.Drawer ≥ (0 : Int))) ∧ (c0.To ≥ (0 : Int))) ∧ ((c0.Cols.length : Int) > (0 : Int))) ∧ (c0.Owner = (0 : Int))) (fun x => (fun h => (fun h => (fun h => (fun h => h20 h.1) h.1) h.1) h.1) x.1)).symm)) ?_
            refine rp rfl rfl (p_move rfl rfl) ?_
            have qq37 := decide_eq_false (p := (((((r'10 = true) ∧ (c0.Owner ≥ (0 : Int))) ∧ (c0.Drawer ≥ (0 : Int))) ∧ (c0.To ≥ (0 : Int))) ∧ ((c0.Cols.length : Int) > (0 : Int))) ∧ (c0.Owner = (0 : Int))) (fun h => (fun h => (fun h => (fun h => (fun h => h20 h.1) h.1) h.1) h.1) h.1)
            iterate 3 (refine r_off rfl rfl rfl rfl qq37 rfl rfl ?_)
            refine rp rfl rfl (p_pkf rfl rfl qq37 (tb (decide_eq_false (p := ((((((r'10 = true) ∧ (c0.Owner ≥ (0 : Int))) ∧ (c0.Drawer ≥ (0 : Int))) ∧ (c0.To ≥ (0 : Int))) ∧ ((c0.Cols.length : Int) > (0 : Int))) ∧ (c0.Owner = (0 : Int))) ∧ (c0.Drawer = (0 : Int))) (fun x => (fun h => (fun h => (fun h => (fun h => (fun h => h20 h.1) h.1) h.1) h.1) h.1) x.1)).symm)) ?_
            refine rp rfl rfl (p_asg rfl rfl) ?_
            refine rs [(1, .q 1 (0)), (5, .b (decide (((((((r'10 = true) ∧ (c0.Owner ≥ (0 : Int))) ∧ (c0.Drawer ≥ (0 : Int))) ∧ (c0.To ≥ (0 : Int))) ∧ ((c0.Cols.length : Int) > (0 : Int))) ∧ (c0.Owner = (0 : Int))) ∧ (c0.Drawer = (0 : Int)))))] [(1, .pure (GCommand.cs c0))] rfl rfl rfl ?_
            exact RunW_nil rfl
          ·refine gen1 (fun ok5'12 => (⟨[(1, .q 1 (0)), (5, .b ok5'12)], [(1, .pure (GCommand.cs c0))], 286⟩ : TS)) H ?_
           intro ok5'12 H
           refine AW2_seq ?_
           refine sg [0, 1, 2, 3] rfl ?_
           refine rp rfl rfl (u_fa rfl rfl Tryd.underlying43 rfl in_28 (Nat.succ_ne_zero _) rfl rfl (ne_of_lt (n := 0) (Nat.lt_of_lt_of_eq (by decide) (Eq.symm (GCommand.len c0))))) ?_
           refine rp rfl rfl (u_ld rfl rfl Tryd.underlying28 rfl rfl ((Sub.refl _).trans (GCommand.sub4 c0))) ?_
           refine rp rfl rfl (p_lenl rfl Tryd.underlying28 rfl rfl) ?_
           refine rp rfl rfl (p_move rfl rfl) ?_
           refine rz [(1, .q 1 (0)), (5, .b ok5'12), (125, .p ((fun q : List GColumn => AV.lst (q.flatMap GColumn.cs) q.length) c0.Cols)), (126, .i (c0.Cols.length : Int)), (127, .i (0 : Int))] [(1, .pure (GCommand.cs c0))] rfl rfl rfl ?_
           refine AW2_block ?_
           refine as2 [(1, .q 1 (0)), (5, .b ok5'12), (125, .p ((fun q : List GColumn => AV.lst (q.flatMap GColumn.cs) q.length) c0.Cols)), (126, .i (c0.Cols.length : Int)), (127, .i (0 : Int))] [(1, .pure (GCommand.cs c0))] rfl rfl rfl ?_
           refine bindK H fun y'19 h35 H => ?_
           refine AW2_loopO (fun a'16 : Bool × Int => (⟨[(1, .q 1 (0)), (5, .b a'16.1), (125, .p ((fun q : List GColumn => AV.lst (q.flatMap GColumn.cs) q.length) c0.Cols)), (126, .i (c0.Cols.length : Int)), (127, .i a'16.2)], [(1, .pure (GCommand.cs c0))], 286⟩ : TS)) (fun (y'17 : Bool) e s' => e = Go.Exit.exit 3 ∧ s' = (⟨[(1, .q 1 (0)), (5, .b y'17)], [(1, .pure (GCommand.cs c0))], 286⟩ : TS)) h35 rfl (fun a x hx => ?_) (fun e s' hs => ?_)
           ·clear H
            obtain ⟨ok5_1, t127_1⟩ := a
            have H := hx
            clear hx
            unfold g_ref_CommandFault_l1 at H
            refine sg [0] rfl ?_
            refine rp rfl rfl (p_bin rfl rfl rfl rfl) ?_
            refine rz [(1, .q 1 (0)), (5, .b ok5_1), (125, .p ((fun q : List GColumn => AV.lst (q.flatMap GColumn.cs) q.length) c0.Cols)), (126, .i (c0.Cols.length : Int)), (127, .i t127_1), (128, .b (decide (t127_1 < (c0.Cols.length : Int))))] [(1, .pure (GCommand.cs c0))] rfl rfl rfl ?_
            refine AW2_seq ?_
            refine AW2_if (p := t127_1 < (c0.Cols.length : Int)) rfl (fun h26 => ?_) (fun h26 => ?_)
            ·replace H := ite_then h26 H
             refine as2 [(1, .q 1 (0)), (5, .b ok5_1), (125, .p ((fun q : List GColumn => AV.lst (q.flatMap GColumn.cs) q.length) c0.Cols)), (126, .i (c0.Cols.length : Int)), (127, .i t127_1)] [(1, .pure (GCommand.cs c0))] rfl rfl rfl ?_
             refine AW2_skip ?_
             refine AW2_seq ?_
             refine AW2_block ?_
             refine sg [0, 1, 2, 3] rfl ?_
             refine chkK H fun h27 H => ?_
             refine rp rfl rfl (u_ixl rfl rfl Tryd.underlying28 in_59 rfl rfl (ixe h27) (ixn h27) (fne (fun x => (GColumn.len x)) (by decide) (ixn h27))) ?_
             refine rp rfl rfl (u_lda rfl rfl Tryd.underlying59 rfl in_59 rfl (Nat.succ_pos _) (Sub.fm default (fun x => (GColumn.len x)) (ixn h27)) (GColumn.len (lrd c0.Cols t127_1.toNat))) ?_
             refine r_op rfl rfl (MakeD.opD (u_alloc 7 rfl in_59 one_59 zc_59) rfl rfl rfl rfl) ?_
             refine r_op rfl rfl (u_st rfl rfl rfl rfl rfl in_59 (GColumn.len (lrd c0.Cols t127_1.toNat)) (ne_of_lt (n := 0) (Nat.lt_of_lt_of_eq (by decide) (Eq.symm (GColumn.len GColumn.zero)))) (Upd.refl ((GColumn.len (lrd c0.Cols t127_1.toNat)).trans (GColumn.len GColumn.zero).symm))) ?_
             refine rz [(1, .q 1 (0)), (5, .b ok5_1), (7, .q 7 (0)), (125, .p ((fun q : List GColumn => AV.lst (q.flatMap GColumn.cs) q.length) c0.Cols)), (126, .i (c0.Cols.length : Int)), (127, .i t127_1)] [(1, .pure (GCommand.cs c0)), (7, .pure (GColumn.cs (lrd c0.Cols t127_1.toNat)))] rfl rfl rfl ?_
             refine bindK H fun g'15 h33 H => ?_
             refine AW2_mid (⟨[(1, .q 1 (0)), (5, .b g'15), (125, .p ((fun q : List GColumn => AV.lst (q.flatMap GColumn.cs) q.length) c0.Cols)), (126, .i (c0.Cols.length : Int)), (127, .i t127_1)], [(1, .pure (GCommand.cs c0))], 286⟩ : TS) ?_ ?_
             ·clear H
              have H := h33
              clear h33
              refine AW2_reg [0, 1, 2, 3, 4, 5, 6, 7, 8, 9, 10, 11, 12, 13, 14, 15, 16] rfl ?_
              refine rp rfl rfl (p_move rfl rfl) ?_
              refine rp rfl rfl (p_move rfl rfl) ?_
              refine (Classical.em (ok5_1 = true)).elim (fun h29 => ?_) (fun h29 => ?_)
              ·replace H := ite_then h29 H
               refine rn rfl rfl rfl rfl h29 rfl (u_fa rfl rfl Tryd.underlying59 rfl in_9 (Nat.succ_ne_zero _) rfl rfl (ne_of_lt (n := 0) (Nat.lt_of_lt_of_eq (by decide) (Eq.symm (GColumn.len (lrd c0.Cols t127_1.toNat)))))) ?_
               refine rn rfl rfl rfl rfl h29 rfl (u_ld rfl rfl Tryd.underlying9 rfl rfl ((Sub.refl _).trans (GColumn.sub0 (lrd c0.Cols t127_1.toNat)))) ?_
               refine bindK H fun r'14 h30 H => ?_
               refine rn rfl rfl rfl rfl h29 rfl (p_callp rfl rfl rfl Tryd.func34 rfl rfl (g_ref_mayName_ac h30) ⟨rfl, trivial⟩) ?_
               refine rp rfl rfl (p_pkt rfl rfl h29 (.same _)) ?_
               refine rp rfl rfl (p_move rfl rfl) ?_
               refine (Classical.em (r'14 = true)).elim (fun h31 => ?_) (fun h31 => ?_)
               ·replace H := ite_then h31 H
                refine rn rfl rfl rfl rfl h31 rfl (u_fa rfl rfl Tryd.underlying59 rfl in_3 (Nat.succ_ne_zero _) rfl rfl (ne_of_lt (n := 0) (Nat.lt_of_lt_of_eq (by decide) (Eq.symm (GColumn.len (lrd c0.Cols t127_1.toNat)))))) ?_
                refine rn rfl rfl rfl rfl h31 rfl (u_ld rfl rfl Tryd.underlying3 rfl rfl ((Sub.refl _).trans (GColumn.sub1 (lrd c0.Cols t127_1.toNat)))) ?_
                refine rn rfl rfl rfl rfl h31 rfl (p_bin rfl rfl rfl rfl) ?_
                refine rp rfl rfl (p_pkt rfl rfl h31 (.same _)) ?_
                refine rp rfl rfl (p_move rfl rfl) ?_
                refine (Classical.em ((lrd c0.Cols t127_1.toNat).Kind ≥ (1 : Int))).elim (fun h32 => ?_) (fun h32 => ?_)
                ·replace H := ite_then h32 H
                 refine r_on rfl rfl rfl rfl (decide_eq_true h32) rfl (PureD.opD (u_fa rfl rfl Tryd.underlying59 rfl in_3 (Nat.succ_ne_zero _) rfl rfl (ne_of_lt (n := 0) (Nat.lt_of_lt_of_eq (by decide) (Eq.symm (GColumn.len (lrd c0.Cols t127_1.toNat))))))) ?_
                 refine r_on rfl rfl rfl rfl (decide_eq_true h32) rfl (PureD.opD (u_ld rfl rfl Tryd.underlying3 rfl rfl ((Sub.refl _).trans (GColumn.sub1 (lrd c0.Cols t127_1.toNat))))) ?_
                 refine r_on rfl rfl rfl rfl (decide_eq_true h32) rfl (PureD.opD (p_bin rfl rfl rfl rfl)) ?_
                 refine rp rfl rfl (p_pkt rfl rfl (decide_eq_true h32) (.same _)) ?_
                 refine rp rfl rfl (p_asg rfl rfl) ?_
                 refine rs [(1, .q 1 (0)), (5, .b (decide ((lrd c0.Cols t127_1.toNat).Kind ≤ (4 : Int)))), (125, .p ((fun q : List GColumn => AV.lst (q.flatMap GColumn.cs) q.length) c0.Cols)), (126, .i (c0.Cols.length : Int)), (127, .i t127_1)] [(1, .pure (GCommand.cs c0))] rfl rfl rfl ?_
                 have hz := some_elim H
                 subst hz
                 exact RunW_nil rfl
                ·replace H := ite_else h32 H
                 iterate 3 (refine r_off rfl rfl rfl rfl (decide_eq_false h32) rfl rfl ?_)
                 refine rp rfl rfl (p_pkf rfl rfl (decide_eq_false h32) (.same _)) ?_
                 refine rp rfl rfl (p_asg rfl rfl) ?_
                 refine rs [(1, .q 1 (0)), (5, .b false), (125, .p ((fun q : List GColumn => AV.lst (q.flatMap GColumn.cs) q.length) c0.Cols)), (126, .i (c0.Cols.length : Int)), (127, .i t127_1)] [(1, .pure (GCommand.cs c0))] rfl rfl rfl ?_
                 have hz := some_elim H
                 subst hz
                 exact RunW_nil rfl
               ·replace H := ite_else h31 H
                iterate 3 (refine r_off rfl rfl rfl rfl (bfalse h31) rfl rfl ?_)
                refine rp rfl rfl (p_pkf rfl rfl (bfalse h31) (.same _)) ?_
                refine rp rfl rfl (p_move rfl rfl) ?_
                iterate 3 (refine r_off rfl rfl rfl rfl (bfalse (by decide)) rfl rfl ?_)
                refine rp rfl rfl (p_pkf rfl rfl (bfalse (by decide)) (.same _)) ?_
                refine rp rfl rfl (p_asg rfl rfl) ?_
                refine rs [(1, .q 1 (0)), (5, .b false), (125, .p ((fun q : List GColumn => AV.lst (q.flatMap GColumn.cs) q.length) c0.Cols)), (126, .i (c0.Cols.length : Int)), (127, .i t127_1)] [(1, .pure (GCommand.cs c0))] rfl rfl rfl ?_
                have hz := some_elim H
                subst hz
                exact RunW_nil rfl
              ·replace H := ite_else h29 H
               iterate 3 (refine r_off rfl rfl rfl rfl (bfalse h29) rfl rfl ?_)
               refine rp rfl rfl (p_pkf rfl rfl (bfalse h29) (.same _)) ?_
               refine rp rfl rfl (p_move rfl rfl) ?_
               iterate 3 (refine r_off rfl rfl rfl rfl (bfalse (by decide)) rfl rfl ?_)
               refine rp rfl rfl (p_pkf rfl rfl (bfalse (by decide)) (.same _)) ?_
               refine rp rfl rfl (p_move rfl rfl) ?_
               iterate 3 (refine r_off rfl rfl rfl rfl (bfalse (by decide)) rfl rfl ?_)
               refine rp rfl rfl (p_pkf rfl rfl (bfalse (by decide)) (.same _)) ?_
               refine rp rfl rfl (p_asg rfl rfl) ?_
               refine rs [(1, .q 1 (0)), (5, .b false), (125, .p ((fun q : List GColumn => AV.lst (q.flatMap GColumn.cs) q.length) c0.Cols)), (126, .i (c0.Cols.length : Int)), (127, .i t127_1)] [(1, .pure (GCommand.cs c0))] rfl rfl rfl ?_
               have hz := some_elim H
               subst hz
               exact RunW_nil rfl
             ·refine AW2_reg [0, 1] rfl ?_
              refine rp rfl rfl (p_bin rfl rfl rfl rfl) ?_
              refine rp rfl rfl (p_move rfl rfl) ?_
              refine rz [(1, .q 1 (0)), (5, .b g'15), (125, .p ((fun q : List GColumn => AV.lst (q.flatMap GColumn.cs) q.length) c0.Cols)), (126, .i (c0.Cols.length : Int)), (127, .i (w64 (t127_1 + (1 : Int))))] [(1, .pure (GCommand.cs c0))] rfl rfl rfl ?_
              have hz := some_elim H
              subst hz
              exact ⟨rfl, rfl⟩
            ·replace H := ite_else h26 H
             refine as2 [(1, .q 1 (0)), (5, .b ok5_1)] [(1, .pure (GCommand.cs c0))] rfl rfl rfl ?_
             refine AW2_exit ?_
             refine thenQ2_exit ?_
             have hz := some_elim H
             subst hz
             exact ⟨rfl, rfl⟩
           ·obtain ⟨rfl, rfl⟩ := hs
            refine ⟨by simp, ?_⟩
            refine blockQ2_exit ?_
            refine AW2_reg [0, 1] rfl ?_
            refine rp rfl rfl (u_fa rfl rfl Tryd.underlying43 rfl in_28 (Nat.succ_ne_zero _) rfl rfl (ne_of_lt (n := 0) (Nat.lt_of_lt_of_eq (by decide) (Eq.symm (GCommand.len c0))))) ?_
            refine r_op rfl rfl (u_st rfl rfl rfl rfl rfl in_28 rfl (ne_of_lt (n := 0) (Nat.lt_of_lt_of_eq (by decide) (Eq.symm (GCommand.len c0)))) (Upd.trans (Sub.refl _) (GCommand.upd4 c0 []) (Upd.refl ((GCommand.len ((GCommand.w4 c0 []))).trans (GCommand.len c0).symm)))) ?_
            refine rz [(1, .q 1 (0)), (5, .b y'19)] [(1, .pure (GCommand.cs ((GCommand.w4 c0 []))))] rfl rfl rfl ?_
            have hz := some_elim H
            subst hz
            exact rfl
         ·replace H := ite_else h19 H
          refine sg [0, 1] rfl ?_
          refine rp rfl rfl (p_ieq rfl rfl rfl) ?_
          refine rp rfl rfl (p_asg rfl rfl) ?_
          refine rz [(1, .q 1 (0)), (5, .b (decide ((((r'10 = true) ∧ (c0.Owner ≥ (0 : Int))) ∧ (c0.Drawer ≥ (0 : Int))) ∧ (c0.To ≥ (0 : Int))))), (80, .i c0.Kind), (149, .b (decide (c0.Kind = (2 : Int))))] [(1, .pure (GCommand.cs c0))] rfl rfl rfl ?_
          refine AW2_if (p := c0.Kind = (2 : Int)) rfl (fun h36 => ?_) (fun h36 => ?_)
          ·replace H := ite_then h36 H
           refine AW2_seq ?_
           refine AW2_mid (⟨[(1, .q 1 (0)), (5, .b (decide (((((r'10 = true) ∧ (c0.Owner ≥ (0 : Int))) ∧ (c0.Drawer ≥ (0 : Int))) ∧ (c0.To ≥ (0 : Int))) ∧ ((c0.Row.length : Int) > (0 : Int)))))], [(1, .pure (GCommand.cs c0))], 286⟩ : TS) ?_ ?_
           ·refine AW2_reg [0, 1, 2, 3, 4, 5, 6, 7] rfl ?_
            refine rp rfl rfl (p_move rfl rfl) ?_
            refine rp rfl rfl (p_move rfl rfl) ?_
            refine (Classical.em (r'10 = true)).elim (fun h37 => ?_) (fun h37 => ?_)
            ·refine (Classical.em (c0.Owner ≥ (0 : Int))).elim (fun h38 => ?_) (fun h38 => ?_)
             ·refine (Classical.em (c0.Drawer ≥ (0 : Int))).elim (fun h39 => ?_) (fun h39 => ?_)
              ·refine (Classical.em (c0.To ≥ (0 : Int))).elim (fun h40 => ?_) (fun h40 => ?_)
               ·have qq38 := decide_eq_true (p := (((r'10 = true) ∧ (c0.Owner ≥ (0 : Int))) ∧ (c0.Drawer ≥ (0 : Int))) ∧ (c0.To ≥ (0 : Int))) ⟨⟨⟨h37, h38⟩, h39⟩, h40⟩
                refine rn rfl rfl rfl rfl qq38 rfl (u_fa rfl rfl Tryd.underlying43 rfl in_40 (Nat.succ_ne_zero _) rfl rfl (ne_of_lt (n := 0) (Nat.lt_of_lt_of_eq (by decide) (Eq.symm (GCommand.len c0))))) ?_
                refine rn rfl rfl rfl rfl qq38 rfl (u_ld rfl rfl Tryd.underlying40 rfl rfl ((Sub.refl _).trans (GCommand.sub5 c0))) ?_
                refine rn rfl rfl rfl rfl qq38 rfl (p_lenl rfl Tryd.underlying40 rfl rfl) ?_
                refine rn rfl rfl rfl rfl qq38 rfl (p_bin rfl rfl rfl rfl) ?_
                refine rp rfl rfl (p_pkt rfl rfl qq38 (tb ((and_l (p := (((r'10 = true) ∧ (c0.Owner ≥ (0 : Int))) ∧ (c0.Drawer ≥ (0 : Int))) ∧ (c0.To ≥ (0 : Int))) (q := (c0.Row.length : Int) > (0 : Int)) ⟨⟨⟨h37, h38⟩, h39⟩, h40⟩)))) ?_
                refine rp rfl rfl (p_asg rfl rfl) ?_
                refine rs [(1, .q 1 (0)), (5, .b (decide (((((r'10 = true) ∧ (c0.Owner ≥ (0 : Int))) ∧ (c0.Drawer ≥ (0 : Int))) ∧ (c0.To ≥ (0 : Int))) ∧ ((c0.Row.length : Int) > (0 : Int)))))] [(1, .pure (GCommand.cs c0))] rfl rfl rfl ?_
                exact RunW_nil rfl
               ·have qq39 := decide_eq_false (p := (((r'10 = true) ∧ (c0.Owner ≥ (0 : Int))) ∧ (c0.Drawer ≥ (0 : Int))) ∧ (c0.To ≥ (0 : Int))) (fun h => h40 h.2)
                iterate 4 (refine r_off rfl rfl rfl rfl qq39 rfl rfl ?_)
                refine rp rfl rfl (p_pkf rfl rfl qq39 (tb (decide_eq_false (p := ((((r'10 = true) ∧ (c0.Owner ≥ (0 : Int))) ∧ (c0.Drawer ≥ (0 : Int))) ∧ (c0.To ≥ (0 : Int))) ∧ ((c0.Row.length : Int) > (0 : Int))) (fun x => (fun h => h40 h.2) x.1)).symm)) ?_
                refine rp rfl rfl (p_asg rfl rfl) ?_
                refine rs [(1, .q 1 (0)), (5, .b (decide (((((r'10 = true) ∧ (c0.Owner ≥ (0 : Int))) ∧ (c0.Drawer ≥ (0 : Int))) ∧ (c0.To ≥ (0 : Int))) ∧ ((c0.Row.length : Int) > (0 : Int)))))] [(1, .pure (GCommand.cs c0))] rfl rfl rfl ?_
                exact RunW_nil rfl
              ·have qq40 := decide_eq_false (p := (((r'10 = true) ∧ (c0.Owner ≥ (0 : Int))) ∧ (c0.Drawer ≥ (0 : Int))) ∧ (c0.To ≥ (0 : Int))) (fun h => (fun h => h39 h.2) h.1)
               iterate 4 (refine r_off rfl rfl rfl rfl qq40 rfl rfl ?_)
               refine rp rfl rfl (p_pkf rfl rfl qq40 (tb (decide_eq_false (p := ((((r'10 = true) ∧ (c0.Owner ≥ (0 : Int))) ∧ (c0.Drawer ≥ (0 : Int))) ∧ (c0.To ≥ (0 : Int))) ∧ ((c0.Row.length : Int) > (0 : Int))) (fun x => (fun h => (fun h => h39 h.2) h.1) x.1)).symm)) ?_
               refine rp rfl rfl (p_asg rfl rfl) ?_
               refine rs [(1, .q 1 (0)), (5, .b (decide (((((r'10 = true) ∧ (c0.Owner ≥ (0 : Int))) ∧ (c0.Drawer ≥ (0 : Int))) ∧ (c0.To ≥ (0 : Int))) ∧ ((c0.Row.length : Int) > (0 : Int)))))] [(1, .pure (GCommand.cs c0))] rfl rfl rfl ?_
               exact RunW_nil rfl
             ·have qq41 := decide_eq_false (p := (((r'10 = true) ∧ (c0.Owner ≥ (0 : Int))) ∧ (c0.Drawer ≥ (0 : Int))) ∧ (c0.To ≥ (0 : Int))) (fun h => (fun h => (fun h => h38 h.2) h.1) h.1)
              iterate 4 (refine r_off rfl rfl rfl rfl qq41 rfl rfl ?_)
              refine rp rfl rfl (p_pkf rfl rfl qq41 (tb (decide_eq_false (p := ((((r'10 = true) ∧ (c0.Owner ≥ (0 : Int))) ∧ (c0.Drawer ≥ (0 : Int))) ∧ (c0.To ≥ (0 : Int))) ∧ ((c0.Row.length : Int) > (0 : Int))) (fun x => (fun h => (fun h => (fun h => h38 h.2) h.1) h.1) x.1)).symm)) ?_
              refine rp rfl rfl (p_asg rfl rfl) ?_
              refine rs [(1, .q 1 (0)), (5, .b (decide (((((r'10 = true) ∧ (c0.Owner ≥ (0 : Int))) ∧ (c0.Drawer ≥ (0 : Int))) ∧ (c0.To ≥ (0 : Int))) ∧ ((c0.Row.length : Int) > (0 : Int)))))] [(1, .pure (GCommand.cs c0))] rfl rfl rfl ?_
              exact RunW_nil rfl
            ·have qq42 := decide_eq_false (p := (((r'10 = true) ∧ (c0.Owner ≥ (0 : Int))) ∧ (c0.Drawer ≥ (0 : Int))) ∧ (c0.To ≥ (0 : Int))) (fun h => (fun h => (fun h => h37 h.1) h.1) h.1)
             iterate 4 (refine r_off rfl rfl rfl rfl qq42 rfl rfl ?_)
             refine rp rfl rfl (p_pkf rfl rfl qq42 (tb (decide_eq_false (p := ((((r'10 = true) ∧ (c0.Owner ≥ (0 : Int))) ∧ (c0.Drawer ≥ (0 : Int))) ∧ (c0.To ≥ (0 : Int))) ∧ ((c0.Row.length : Int) > (0 : Int))) (fun x => (fun h => (fun h => (fun h => h37 h.1) h.1) h.1) x.1)).symm)) ?_
             refine rp rfl rfl (p_asg rfl rfl) ?_
             refine rs [(1, .q 1 (0)), (5, .b (decide (((((r'10 = true) ∧ (c0.Owner ≥ (0 : Int))) ∧ (c0.Drawer ≥ (0 : Int))) ∧ (c0.To ≥ (0 : Int))) ∧ ((c0.Row.length : Int) > (0 : Int)))))] [(1, .pure (GCommand.cs c0))] rfl rfl rfl ?_
             exact RunW_nil rfl
           ·refine AW2_seq ?_
            refine sg [0, 1, 2, 3] rfl ?_
            refine rp rfl rfl (u_fa rfl rfl Tryd.underlying43 rfl in_40 (Nat.succ_ne_zero _) rfl rfl (ne_of_lt (n := 0) (Nat.lt_of_lt_of_eq (by decide) (Eq.symm (GCommand.len c0))))) ?_
            refine rp rfl rfl (u_ld rfl rfl Tryd.underlying40 rfl rfl ((Sub.refl _).trans (GCommand.sub5 c0))) ?_
            refine rp rfl rfl (p_lenl rfl Tryd.underlying40 rfl rfl) ?_
            refine rp rfl rfl (p_move rfl rfl) ?_
            refine rz [(1, .q 1 (0)), (5, .b (decide (((((r'10 = true) ∧ (c0.Owner ≥ (0 : Int))) ∧ (c0.Drawer ≥ (0 : Int))) ∧ (c0.To ≥ (0 : Int))) ∧ ((c0.Row.length : Int) > (0 : Int))))), (159, .p ((fun q : List GValue => AV.lst (q.flatMap GValue.cs) q.length) c0.Row)), (160, .i (c0.Row.length : Int)), (161, .i (0 : Int))] [(1, .pure (GCommand.cs c0))] rfl rfl rfl ?_
            refine AW2_block ?_
            refine as2 [(1, .q 1 (0)), (5, .b (decide (((((r'10 = true) ∧ (c0.Owner ≥ (0 : Int))) ∧ (c0.Drawer ≥ (0 : Int))) ∧ (c0.To ≥ (0 : Int))) ∧ ((c0.Row.length : Int) > (0 : Int))))), (159, .p ((fun q : List GValue => AV.lst (q.flatMap GValue.cs) q.length) c0.Row)), (160, .i (c0.Row.length : Int)), (161, .i (0 : Int))] [(1, .pure (GCommand.cs c0))] rfl rfl rfl ?_
            refine bindK H fun y'26 h49 H => ?_
            refine AW2_loopO (fun a'23 : Bool × Int => (⟨[(1, .q 1 (0)), (5, .b a'23.1), (159, .p ((fun q : List GValue => AV.lst (q.flatMap GValue.cs) q.length) c0.Row)), (160, .i (c0.Row.length : Int)), (161, .i a'23.2)], [(1, .pure (GCommand.cs c0))], 286⟩ : TS)) (fun (y'24 : Bool) e s' => e = Go.Exit.exit 5 ∧ s' = (⟨[(1, .q 1 (0)), (5, .b y'24)], [(1, .pure (GCommand.cs c0))], 286⟩ : TS)) h49 rfl (fun a x hx => ?_) (fun e s' hs => ?_)
            ·clear H
             obtain ⟨ok5_2, t161_2⟩ := a
             have H := hx
             clear hx
             unfold g_ref_CommandFault_l2 at H
             refine sg [0] rfl ?_
             refine rp rfl rfl (p_bin rfl rfl rfl rfl) ?_
             refine rz [(1, .q 1 (0)), (5, .b ok5_2), (159, .p ((fun q : List GValue => AV.lst (q.flatMap GValue.cs) q.length) c0.Row)), (160, .i (c0.Row.length : Int)), (161, .i t161_2), (162, .b (decide (t161_2 < (c0.Row.length : Int))))] [(1, .pure (GCommand.cs c0))] rfl rfl rfl ?_
             refine AW2_seq ?_
             refine AW2_if (p := t161_2 < (c0.Row.length : Int)) rfl (fun h41 => ?_) (fun h41 => ?_)
             ·replace H := ite_then h41 H
              refine as2 [(1, .q 1 (0)), (5, .b ok5_2), (159, .p ((fun q : List GValue => AV.lst (q.flatMap GValue.cs) q.length) c0.Row)), (160, .i (c0.Row.length : Int)), (161, .i t161_2)] [(1, .pure (GCommand.cs c0))] rfl rfl rfl ?_
              refine AW2_skip ?_
              refine AW2_seq ?_
              refine AW2_block ?_
              refine sg [0, 1, 2, 3] rfl ?_
              refine chkK H fun h42 H => ?_
              refine rp rfl rfl (u_ixl rfl rfl Tryd.underlying40 in_24 rfl rfl (ixe h42) (ixn h42) (fne (fun x => (GValue.len x)) (by decide) (ixn h42))) ?_
              refine rp rfl rfl (u_lda rfl rfl Tryd.underlying24 rfl in_24 rfl (Nat.succ_pos _) (Sub.fm default (fun x => (GValue.len x)) (ixn h42)) (GValue.len (lrd c0.Row t161_2.toNat))) ?_
              refine r_op rfl rfl (MakeD.opD (u_alloc 9 rfl in_24 one_24 zc_24) rfl rfl rfl rfl) ?_
              refine r_op rfl rfl (u_st rfl rfl rfl rfl rfl in_24 (GValue.len (lrd c0.Row t161_2.toNat)) (ne_of_lt (n := 0) (Nat.lt_of_lt_of_eq (by decide) (Eq.symm (GValue.len GValue.zero)))) (Upd.refl ((GValue.len (lrd c0.Row t161_2.toNat)).trans (GValue.len GValue.zero).symm))) ?_
              refine rz [(1, .q 1 (0)), (5, .b ok5_2), (9, .q 9 (0)), (159, .p ((fun q : List GValue => AV.lst (q.flatMap GValue.cs) q.length) c0.Row)), (160, .i (c0.Row.length : Int)), (161, .i t161_2)] [(1, .pure (GCommand.cs c0)), (9, .pure (GValue.cs (lrd c0.Row t161_2.toNat)))] rfl rfl rfl ?_
              refine bindK H fun g'22 h47 H => ?_
              refine AW2_mid (⟨[(1, .q 1 (0)), (5, .b g'22), (159, .p ((fun q : List GValue => AV.lst (q.flatMap GValue.cs) q.length) c0.Row)), (160, .i (c0.Row.length : Int)), (161, .i t161_2)], [(1, .pure (GCommand.cs c0))], 286⟩ : TS) ?_ ?_
              ·clear H
               have H := h47
               clear h47
               refine AW2_reg [0, 1, 2, 3, 4, 5, 6, 7, 8, 9, 10, 11] rfl ?_
               refine rp rfl rfl (p_move rfl rfl) ?_
               refine rp rfl rfl (p_move rfl rfl) ?_
               refine (Classical.em (ok5_2 = true)).elim (fun h44 => ?_) (fun h44 => ?_)
               ·replace H := ite_then h44 H
                refine rn rfl rfl rfl rfl h44 rfl (u_lda rfl rfl Tryd.underlying24 rfl in_24 rfl (Nat.succ_pos _) (Sub.refl _) (GValue.len (lrd c0.Row t161_2.toNat))) ?_
                refine bindK H fun r'21 h45 H => ?_
                refine rn rfl rfl rfl rfl h44 rfl (p_callp rfl rfl rfl Tryd.func35 rfl rfl (g_ref_ValueFault_ac h45) ⟨rfl, trivial⟩) ?_
                refine rn rfl rfl rfl rfl h44 rfl (p_ieq rfl rfl rfl) ?_
                refine rp rfl rfl (p_pkt rfl rfl h44 (.same _)) ?_
                refine rp rfl rfl (p_move rfl rfl) ?_
                refine (Classical.em (r'21 = (0 : Int))).elim (fun h46 => ?_) (fun h46 => ?_)
                ·replace H := ite_then h46 H
                 refine r_on rfl rfl rfl rfl (decide_eq_true h46) rfl (PureD.opD (u_fa rfl rfl Tryd.underlying24 rfl in_3 (Nat.succ_ne_zero _) rfl rfl (ne_of_lt (n := 0) (Nat.lt_of_lt_of_eq (by decide) (Eq.symm (GValue.len (lrd c0.Row t161_2.toNat))))))) ?_
                 refine r_on rfl rfl rfl rfl (decide_eq_true h46) rfl (PureD.opD (u_ld rfl rfl Tryd.underlying3 rfl rfl ((Sub.refl _).trans (GValue.sub1 (lrd c0.Row t161_2.toNat))))) ?_
                 refine r_on rfl rfl rfl rfl (decide_eq_true h46) rfl (PureD.opD (p_ine rfl rfl rfl)) ?_
                 refine rp rfl rfl (p_pkt rfl rfl (decide_eq_true h46) (.same _)) ?_
                 refine rp rfl rfl (p_asg rfl rfl) ?_
                 refine rs [(1, .q 1 (0)), (5, .b (decide ((lrd c0.Row t161_2.toNat).Int_ ≠ (-9223372036854775808 : Int)))), (159, .p ((fun q : List GValue => AV.lst (q.flatMap GValue.cs) q.length) c0.Row)), (160, .i (c0.Row.length : Int)), (161, .i t161_2)] [(1, .pure (GCommand.cs c0))] rfl rfl rfl ?_
                 have hz := some_elim H
                 subst hz
                 exact RunW_nil rfl
                ·replace H := ite_else h46 H
                 iterate 3 (refine r_off rfl rfl rfl rfl (decide_eq_false h46) rfl rfl ?_)
                 refine rp rfl rfl (p_pkf rfl rfl (decide_eq_false h46) (.same _)) ?_
                 refine rp rfl rfl (p_asg rfl rfl) ?_
                 refine rs [(1, .q 1 (0)), (5, .b false), (159, .p ((fun q : List GValue => AV.lst (q.flatMap GValue.cs) q.length) c0.Row)), (160, .i (c0.Row.length : Int)), (161, .i t161_2)] [(1, .pure (GCommand.cs c0))] rfl rfl rfl ?_
                 have hz := some_elim H
                 subst hz
                 exact RunW_nil rfl
               ·replace H := ite_else h44 H
                iterate 3 (refine r_off rfl rfl rfl rfl (bfalse h44) rfl rfl ?_)
                refine rp rfl rfl (p_pkf rfl rfl (bfalse h44) (.same _)) ?_
                refine rp rfl rfl (p_move rfl rfl) ?_
                iterate 3 (refine r_off rfl rfl rfl rfl (bfalse (by decide)) rfl rfl ?_)
                refine rp rfl rfl (p_pkf rfl rfl (bfalse (by decide)) (.same _)) ?_
                refine rp rfl rfl (p_asg rfl rfl) ?_
                refine rs [(1, .q 1 (0)), (5, .b false), (159, .p ((fun q : List GValue => AV.lst (q.flatMap GValue.cs) q.length) c0.Row)), (160, .i (c0.Row.length : Int)), (161, .i t161_2)] [(1, .pure (GCommand.cs c0))] rfl rfl rfl ?_
                have hz := some_elim H
                subst hz
                exact RunW_nil rfl
              ·refine AW2_reg [0, 1] rfl ?_
               refine rp rfl rfl (p_bin rfl rfl rfl rfl) ?_
               refine rp rfl rfl (p_move rfl rfl) ?_
               refine rz [(1, .q 1 (0)), (5, .b g'22), (159, .p ((fun q : List GValue => AV.lst (q.flatMap GValue.cs) q.length) c0.Row)), (160, .i (c0.Row.length : Int)), (161, .i (w64 (t161_2 + (1 : Int))))] [(1, .pure (GCommand.cs c0))] rfl rfl rfl ?_
               have hz := some_elim H
               subst hz
               exact ⟨rfl, rfl⟩
             ·replace H := ite_else h41 H
              refine as2 [(1, .q 1 (0)), (5, .b ok5_2)] [(1, .pure (GCommand.cs c0))] rfl rfl rfl ?_
              refine AW2_exit ?_
              refine thenQ2_exit ?_
              have hz := some_elim H
              subst hz
              exact ⟨rfl, rfl⟩
            ·obtain ⟨rfl, rfl⟩ := hs
             refine ⟨by simp, ?_⟩
             refine blockQ2_exit ?_
             refine AW2_reg [0, 1] rfl ?_
             refine rp rfl rfl (u_fa rfl rfl Tryd.underlying43 rfl in_40 (Nat.succ_ne_zero _) rfl rfl (ne_of_lt (n := 0) (Nat.lt_of_lt_of_eq (by decide) (Eq.symm (GCommand.len c0))))) ?_
             refine r_op rfl rfl (u_st rfl rfl rfl rfl rfl in_40 rfl (ne_of_lt (n := 0) (Nat.lt_of_lt_of_eq (by decide) (Eq.symm (GCommand.len c0)))) (Upd.trans (Sub.refl _) (GCommand.upd5 c0 []) (Upd.refl ((GCommand.len ((GCommand.w5 c0 []))).trans (GCommand.len c0).symm)))) ?_
             refine rz [(1, .q 1 (0)), (5, .b y'26)] [(1, .pure (GCommand.cs ((GCommand.w5 c0 []))))] rfl rfl rfl ?_
             have hz := some_elim H
             subst hz
             exact rfl
          ·replace H := ite_else h36 H
           refine sg [0, 1] rfl ?_
           refine rp rfl rfl (p_ieq rfl rfl rfl) ?_
           refine rp rfl rfl (p_asg rfl rfl) ?_
           refine rz [(1, .q 1 (0)), (5, .b (decide ((((r'10 = true) ∧ (c0.Owner ≥ (0 : Int))) ∧ (c0.Drawer ≥ (0 : Int))) ∧ (c0.To ≥ (0 : Int))))), (80, .i c0.Kind), (178, .b (decide (c0.Kind = (3 : Int))))] [(1, .pure (GCommand.cs c0))] rfl rfl rfl ?_
           refine AW2_if (p := c0.Kind = (3 : Int)) rfl (fun h50 => ?_) (fun h50 => ?_)
           ·replace H := ite_then h50 H
            refine AW2_seq ?_
            refine bindK H fun g'29 h58 H => ?_
            refine AW2_mid (⟨[(1, .q 1 (0)), (5, .b g'29)], [(1, .pure (GCommand.cs c0))], 286⟩ : TS) ?_ ?_
            ·clear H
             have H := h58
             clear h58
             refine AW2_reg [0, 1, 2, 3, 4, 5, 6, 7, 8, 9, 10, 11, 12] rfl ?_
             refine rp rfl rfl (p_move rfl rfl) ?_
             refine rp rfl rfl (p_move rfl rfl) ?_
             refine (Classical.em (r'10 = true)).elim (fun h52 => ?_) (fun h52 => ?_)
             ·replace H := ite_then h52 H
              refine (Classical.em (c0.Owner ≥ (0 : Int))).elim (fun h53 => ?_) (fun h53 => ?_)
              ·replace H := ite_then h53 H
               refine (Classical.em (c0.Drawer ≥ (0 : Int))).elim (fun h54 => ?_) (fun h54 => ?_)
               ·replace H := ite_then h54 H
                refine (Classical.em (c0.To ≥ (0 : Int))).elim (fun h55 => ?_) (fun h55 => ?_)
                ·replace H := ite_then h55 H
                 have qq43 := decide_eq_true (p := (((r'10 = true) ∧ (c0.Owner ≥ (0 : Int))) ∧ (c0.Drawer ≥ (0 : Int))) ∧ (c0.To ≥ (0 : Int))) ⟨⟨⟨h52, h53⟩, h54⟩, h55⟩
                 refine rn rfl rfl rfl rfl qq43 rfl (u_fa rfl rfl Tryd.underlying43 rfl in_41 (Nat.succ_ne_zero _) rfl rfl (ne_of_lt (n := 0) (Nat.lt_of_lt_of_eq (by decide) (Eq.symm (GCommand.len c0))))) ?_
                 refine rn rfl rfl rfl rfl qq43 rfl (u_ld rfl rfl Tryd.underlying41 rfl rfl ((Sub.refl _).trans (GCommand.sub6 c0))) ?_
                 refine rn rfl rfl rfl rfl qq43 rfl (p_lenl rfl Tryd.underlying41 rfl rfl) ?_
                 refine rn rfl rfl rfl rfl qq43 rfl (p_bin rfl rfl rfl rfl) ?_
                 refine rp rfl rfl (p_pkt rfl rfl qq43 (.same _)) ?_
                 refine rp rfl rfl (p_move rfl rfl) ?_
                 refine (Classical.em ((c0.Sets.length : Int) > (0 : Int))).elim (fun h56 => ?_) (fun h56 => ?_)
                 ·replace H := ite_then h56 H
                  refine r_on rfl rfl rfl rfl (decide_eq_true h56) rfl (PureD.opD (u_fa rfl rfl Tryd.underlying43 rfl in_27 (Nat.succ_ne_zero _) rfl rfl (ne_of_lt (n := 0) (Nat.lt_of_lt_of_eq (by decide) (Eq.symm (GCommand.len c0)))))) ?_
                  refine r_on rfl rfl rfl rfl (decide_eq_true h56) rfl (PureD.opD (u_lda rfl rfl Tryd.underlying27 rfl in_27 rfl (Nat.succ_pos _) ((Sub.refl _).trans (GCommand.sub7 c0)) (GExpr.len c0.Where))) ?_
                  refine bindK H fun r'28 h57 H => ?_
                  refine r_on rfl rfl rfl rfl (decide_eq_true h56) rfl (PureD.opD (p_callp rfl rfl rfl Tryd.func36 rfl rfl (g_ref_mayWhere_ac h57) ⟨rfl, trivial⟩)) ?_
                  refine rp rfl rfl (p_pkt rfl rfl (decide_eq_true h56) (.same _)) ?_
                  refine rp rfl rfl (p_asg rfl rfl) ?_
                  refine rs [(1, .q 1 (0)), (5, .b r'28)] [(1, .pure (GCommand.cs c0))] rfl rfl rfl ?_
                  have hz := some_elim H
                  subst hz
                  exact RunW_nil rfl
                 ·replace H := ite_else h56 H
                  iterate 3 (refine r_off rfl rfl rfl rfl (decide_eq_false h56) rfl rfl ?_)
                  refine rp rfl rfl (p_pkf rfl rfl (decide_eq_false h56) (.same _)) ?_
                  refine rp rfl rfl (p_asg rfl rfl) ?_
                  refine rs [(1, .q 1 (0)), (5, .b false)] [(1, .pure (GCommand.cs c0))] rfl rfl rfl ?_
                  have hz := some_elim H
                  subst hz
                  exact RunW_nil rfl
                ·replace H := ite_else h55 H
                 have qq44 := decide_eq_false (p := (((r'10 = true) ∧ (c0.Owner ≥ (0 : Int))) ∧ (c0.Drawer ≥ (0 : Int))) ∧ (c0.To ≥ (0 : Int))) (fun h => h55 h.2)
                 iterate 4 (refine r_off rfl rfl rfl rfl qq44 rfl rfl ?_)
                 refine rp rfl rfl (p_pkf rfl rfl qq44 (.same _)) ?_
                 refine rp rfl rfl (p_move rfl rfl) ?_
                 iterate 3 (refine r_off rfl rfl rfl rfl (bfalse (by decide)) rfl rfl ?_)
                 refine rp rfl rfl (p_pkf rfl rfl (bfalse (by decide)) (.same _)) ?_
                 refine rp rfl rfl (p_asg rfl rfl) ?_
                 refine rs [(1, .q 1 (0)), (5, .b false)] [(1, .pure (GCommand.cs c0))] rfl rfl rfl ?_
                 have hz := some_elim H
                 subst hz
                 exact RunW_nil rfl
               ·replace H := ite_else h54 H
                have qq45 := decide_eq_false (p := (((r'10 = true) ∧ (c0.Owner ≥ (0 : Int))) ∧ (c0.Drawer ≥ (0 : Int))) ∧ (c0.To ≥ (0 : Int))) (fun h => (fun h => h54 h.2) h.1)
                iterate 4 (refine r_off rfl rfl rfl rfl qq45 rfl rfl ?_)
                refine rp rfl rfl (p_pkf rfl rfl qq45 (.same _)) ?_
                refine rp rfl rfl (p_move rfl rfl) ?_
                iterate 3 (refine r_off rfl rfl rfl rfl (bfalse (by decide)) rfl rfl ?_)
                refine rp rfl rfl (p_pkf rfl rfl (bfalse (by decide)) (.same _)) ?_
                refine rp rfl rfl (p_asg rfl rfl) ?_
                refine rs [(1, .q 1 (0)), (5, .b false)] [(1, .pure (GCommand.cs c0))] rfl rfl rfl ?_
                have hz := some_elim H
                subst hz
                exact RunW_nil rfl
              ·replace H := ite_else h53 H
               have qq46 := decide_eq_false (p := (((r'10 = true) ∧ (c0.Owner ≥ (0 : Int))) ∧ (c0.Drawer ≥ (0 : Int))) ∧ (c0.To ≥ (0 : Int))) (fun h => (fun h => (fun h => h53 h.2) h.1) h.1)
               iterate 4 (refine r_off rfl rfl rfl rfl qq46 rfl rfl ?_)
               refine rp rfl rfl (p_pkf rfl rfl qq46 (.same _)) ?_
               refine rp rfl rfl (p_move rfl rfl) ?_
               iterate 3 (refine r_off rfl rfl rfl rfl (bfalse (by decide)) rfl rfl ?_)
               refine rp rfl rfl (p_pkf rfl rfl (bfalse (by decide)) (.same _)) ?_
               refine rp rfl rfl (p_asg rfl rfl) ?_
               refine rs [(1, .q 1 (0)), (5, .b false)] [(1, .pure (GCommand.cs c0))] rfl rfl rfl ?_
               have hz := some_elim H
               subst hz
               exact RunW_nil rfl
             ·replace H := ite_else h52 H
              have qq47 := decide_eq_false (p := (((r'10 = true) ∧ (c0.Owner ≥ (0 : Int))) ∧ (c0.Drawer ≥ (0 : Int))) ∧ (c0.To ≥ (0 : Int))) (fun h => (fun h => (fun h => h52 h.1) h.1) h.1)
              iterate 4 (refine r_off rfl rfl rfl rfl qq47 rfl rfl ?_)
              refine rp rfl rfl (p_pkf rfl rfl qq47 (.same _)) ?_
              refine rp rfl rfl (p_move rfl rfl) ?_
              iterate 3 (refine r_off rfl rfl rfl rfl (bfalse (by decide)) rfl rfl ?_)
              refine rp rfl rfl (p_pkf rfl rfl (bfalse (by decide)) (.same _)) ?_
              refine rp rfl rfl (p_asg rfl rfl) ?_
              refine rs [(1, .q 1 (0)), (5, .b false)] [(1, .pure (GCommand.cs c0))] rfl rfl rfl ?_
              have hz := some_elim H
              subst hz
              exact RunW_nil rfl
            ·refine AW2_seq ?_
             refine sg [0, 1, 2, 3] rfl ?_
             refine rp rfl rfl (u_fa rfl rfl Tryd.underlying43 rfl in_41 (Nat.succ_ne_zero _) rfl rfl (ne_of_lt (n := 0) (Nat.lt_of_lt_of_eq (by decide) (Eq.symm (GCommand.len c0))))) ?_
             refine rp rfl rfl (u_ld rfl rfl Tryd.underlying41 rfl rfl ((Sub.refl _).trans (GCommand.sub6 c0))) ?_
             refine rp rfl rfl (p_lenl rfl Tryd.underlying41 rfl rfl) ?_
             refine rp rfl rfl (p_move rfl rfl) ?_
             refine rz [(1, .q 1 (0)), (5, .b g'29), (193, .p ((fun q : List GSet => AV.lst (q.flatMap GSet.cs) q.length) c0.Sets)), (194, .i (c0.Sets.length : Int)), (195, .i (0 : Int))] [(1, .pure (GCommand.cs c0))] rfl rfl rfl ?_
             refine AW2_block ?_
             refine as2 [(1, .q 1 (0)), (5, .b g'29), (193, .p ((fun q : List GSet => AV.lst (q.flatMap GSet.cs) q.length) c0.Sets)), (194, .i (c0.Sets.length : Int)), (195, .i (0 : Int))] [(1, .pure (GCommand.cs c0))] rfl rfl rfl ?_
             refine bindK H fun y'37 h68 H => ?_
             refine AW2_loopO (fun a'34 : Bool × Int => (⟨[(1, .q 1 (0)), (5, .b a'34.1), (193, .p ((fun q : List GSet => AV.lst (q.flatMap GSet.cs) q.length) c0.Sets)), (194, .i (c0.Sets.length : Int)), (195, .i a'34.2)], [(1, .pure (GCommand.cs c0))], 286⟩ : TS)) (fun (y'35 : Bool) e s' => e = Go.Exit.exit 7 ∧ s' = (⟨[(1, .q 1 (0)), (5, .b y'35)], [(1, .pure (GCommand.cs c0))], 286⟩ : TS)) h68 rfl (fun a x hx => ?_) (fun e s' hs => ?_)
             ·clear H
              obtain ⟨ok5_3, t195_3⟩ := a
              have H := hx
              clear hx
              unfold g_ref_CommandFault_l3 at H
              refine sg [0] rfl ?_
              refine rp rfl rfl (p_bin rfl rfl rfl rfl) ?_
              refine rz [(1, .q 1 (0)), (5, .b ok5_3), (193, .p ((fun q : List GSet => AV.lst (q.flatMap GSet.cs) q.length) c0.Sets)), (194, .i (c0.Sets.length : Int)), (195, .i t195_3), (196, .b (decide (t195_3 < (c0.Sets.length : Int))))] [(1, .pure (GCommand.cs c0))] rfl rfl rfl ?_
              refine AW2_seq ?_
              refine AW2_if (p := t195_3 < (c0.Sets.length : Int)) rfl (fun h59 => ?_) (fun h59 => ?_)
              ·replace H := ite_then h59 H
               refine as2 [(1, .q 1 (0)), (5, .b ok5_3), (193, .p ((fun q : List GSet => AV.lst (q.flatMap GSet.cs) q.length) c0.Sets)), (194, .i (c0.Sets.length : Int)), (195, .i t195_3)] [(1, .pure (GCommand.cs c0))] rfl rfl rfl ?_
               refine AW2_skip ?_
               refine AW2_seq ?_
               refine AW2_block ?_
               refine sg [0, 1, 2, 3] rfl ?_
               refine chkK H fun h60 H => ?_
               refine rp rfl rfl (u_ixl rfl rfl Tryd.underlying41 in_71 rfl rfl (ixe h60) (ixn h60) (fne (fun x => (GSet.len x)) (by decide) (ixn h60))) ?_
               refine rp rfl rfl (u_lda rfl rfl Tryd.underlying71 rfl in_71 rfl (Nat.succ_pos _) (Sub.fm default (fun x => (GSet.len x)) (ixn h60)) (GSet.len (lrd c0.Sets t195_3.toNat))) ?_
               refine r_op rfl rfl (MakeD.opD (u_alloc 11 rfl in_71 one_71 zc_71) rfl rfl rfl rfl) ?_
               refine r_op rfl rfl (u_st rfl rfl rfl rfl rfl in_71 (GSet.len (lrd c0.Sets t195_3.toNat)) (ne_of_lt (n := 0) (Nat.lt_of_lt_of_eq (by decide) (Eq.symm (GSet.len GSet.zero)))) (Upd.refl ((GSet.len (lrd c0.Sets t195_3.toNat)).trans (GSet.len GSet.zero).symm))) ?_
               refine rz [(1, .q 1 (0)), (5, .b ok5_3), (11, .q 11 (0)), (193, .p ((fun q : List GSet => AV.lst (q.flatMap GSet.cs) q.length) c0.Sets)), (194, .i (c0.Sets.length : Int)), (195, .i t195_3)] [(1, .pure (GCommand.cs c0)), (11, .pure (GSet.cs (lrd c0.Sets t195_3.toNat)))] rfl rfl rfl ?_
               refine bindK H fun g'33 h66 H => ?_
               refine AW2_mid (⟨[(1, .q 1 (0)), (5, .b g'33), (193, .p ((fun q : List GSet => AV.lst (q.flatMap GSet.cs) q.length) c0.Sets)), (194, .i (c0.Sets.length : Int)), (195, .i t195_3)], [(1, .pure (GCommand.cs c0))], 286⟩ : TS) ?_ ?_
               ·clear H
                have H := h66
                clear h66
                refine AW2_reg [0, 1, 2, 3, 4, 5, 6, 7, 8, 9, 10, 11, 12] rfl ?_
                refine rp rfl rfl (p_move rfl rfl) ?_
                refine rp rfl rfl (p_move rfl rfl) ?_
                refine (Classical.em (ok5_3 = true)).elim (fun h62 => ?_) (fun h62 => ?_)
                ·replace H := ite_then h62 H
                 refine rn rfl rfl rfl rfl h62 rfl (u_fa rfl rfl Tryd.underlying71 rfl in_9 (Nat.succ_ne_zero _) rfl rfl (ne_of_lt (n := 0) (Nat.lt_of_lt_of_eq (by decide) (Eq.symm (GSet.len (lrd c0.Sets t195_3.toNat)))))) ?_
                 refine rn rfl rfl rfl rfl h62 rfl (u_ld rfl rfl Tryd.underlying9 rfl rfl ((Sub.refl _).trans (GSet.sub0 (lrd c0.Sets t195_3.toNat)))) ?_
                 refine bindK H fun r'31 h63 H => ?_
                 refine rn rfl rfl rfl rfl h62 rfl (p_callp rfl rfl rfl Tryd.func34 rfl rfl (g_ref_mayName_ac h63) ⟨rfl, trivial⟩) ?_
                 refine rp rfl rfl (p_pkt rfl rfl h62 (.same _)) ?_
                 refine rp rfl rfl (p_move rfl rfl) ?_
                 refine (Classical.em (r'31 = true)).elim (fun h64 => ?_) (fun h64 => ?_)
                 ·replace H := ite_then h64 H
                  refine rn rfl rfl rfl rfl h64 rfl (u_fa rfl rfl Tryd.underlying71 rfl in_27 (Nat.succ_ne_zero _) rfl rfl (ne_of_lt (n := 0) (Nat.lt_of_lt_of_eq (by decide) (Eq.symm (GSet.len (lrd c0.Sets t195_3.toNat)))))) ?_
                  refine rn rfl rfl rfl rfl h64 rfl (u_lda rfl rfl Tryd.underlying27 rfl in_27 rfl (Nat.succ_pos _) ((Sub.refl _).trans (GSet.sub1 (lrd c0.Sets t195_3.toNat))) (GExpr.len ((lrd c0.Sets t195_3.toNat).Expr))) ?_
                  refine bindK H fun r'32 h65 H => ?_
                  refine rn rfl rfl rfl rfl h64 rfl (p_callp rfl rfl rfl Tryd.func21 rfl rfl (g_ref_ExprFault_ac h65) ⟨rfl, trivial⟩) ?_
                  refine rn rfl rfl rfl rfl h64 rfl (p_ieq rfl rfl rfl) ?_
                  refine rp rfl rfl (p_pkt rfl rfl h64 (.same _)) ?_
                  refine rp rfl rfl (p_asg rfl rfl) ?_
                  refine rs [(1, .q 1 (0)), (5, .b (decide (r'32 = (0 : Int)))), (193, .p ((fun q : List GSet => AV.lst (q.flatMap GSet.cs) q.length) c0.Sets)), (194, .i (c0.Sets.length : Int)), (195, .i t195_3)] [(1, .pure (GCommand.cs c0))] rfl rfl rfl ?_
                  have hz := some_elim H
                  subst hz
                  exact RunW_nil rfl
                 ·replace H := ite_else h64 H
                  iterate 4 (refine r_off rfl rfl rfl rfl (bfalse h64) rfl rfl ?_)
                  refine rp rfl rfl (p_pkf rfl rfl (bfalse h64) (.same _)) ?_
                  refine rp rfl rfl (p_asg rfl rfl) ?_
                  refine rs [(1, .q 1 (0)), (5, .b false), (193, .p ((fun q : List GSet => AV.lst (q.flatMap GSet.cs) q.length) c0.Sets)), (194, .i (c0.Sets.length : Int)), (195, .i t195_3)] [(1, .pure (GCommand.cs c0))] rfl rfl rfl ?_
                  have hz := some_elim H
                  subst hz
                  exact RunW_nil rfl
                ·replace H := ite_else h62 H
                 iterate 3 (refine r_off rfl rfl rfl rfl (bfalse h62) rfl rfl ?_)
                 refine rp rfl rfl (p_pkf rfl rfl (bfalse h62) (.same _)) ?_
                 refine rp rfl rfl (p_move rfl rfl) ?_
                 iterate 4 (refine r_off rfl rfl rfl rfl (bfalse (by decide)) rfl rfl ?_)
                 refine rp rfl rfl (p_pkf rfl rfl (bfalse (by decide)) (.same _)) ?_
                 refine rp rfl rfl (p_asg rfl rfl) ?_
                 refine rs [(1, .q 1 (0)), (5, .b false), (193, .p ((fun q : List GSet => AV.lst (q.flatMap GSet.cs) q.length) c0.Sets)), (194, .i (c0.Sets.length : Int)), (195, .i t195_3)] [(1, .pure (GCommand.cs c0))] rfl rfl rfl ?_
                 have hz := some_elim H
                 subst hz
                 exact RunW_nil rfl
               ·refine AW2_reg [0, 1] rfl ?_
                refine rp rfl rfl (p_bin rfl rfl rfl rfl) ?_
                refine rp rfl rfl (p_move rfl rfl) ?_
                refine rz [(1, .q 1 (0)), (5, .b g'33), (193, .p ((fun q : List GSet => AV.lst (q.flatMap GSet.cs) q.length) c0.Sets)), (194, .i (c0.Sets.length : Int)), (195, .i (w64 (t195_3 + (1 : Int))))] [(1, .pure (GCommand.cs c0))] rfl rfl rfl ?_
                have hz := some_elim H
                subst hz
                exact ⟨rfl, rfl⟩
              ·replace H := ite_else h59 H
               refine as2 [(1, .q 1 (0)), (5, .b ok5_3)] [(1, .pure (GCommand.cs c0))] rfl rfl rfl ?_
               refine AW2_exit ?_
               refine thenQ2_exit ?_
               have hz := some_elim H
               subst hz
               exact ⟨rfl, rfl⟩
             ·obtain ⟨rfl, rfl⟩ := hs
              refine ⟨by simp, ?_⟩
              refine blockQ2_exit ?_
              refine AW2_reg [0, 1, 2, 3, 4] rfl ?_
              refine rp rfl rfl (u_bld rfl in_27 one_27 zc_27 pl_27 rfl rfl) ?_
              refine rp rfl rfl (u_fa rfl rfl Tryd.underlying43 rfl in_41 (Nat.succ_ne_zero _) rfl rfl (ne_of_lt (n := 0) (Nat.lt_of_lt_of_eq (by decide) (Eq.symm (GCommand.len c0))))) ?_
              refine r_op rfl rfl (u_st rfl rfl rfl rfl rfl in_41 rfl (ne_of_lt (n := 0) (Nat.lt_of_lt_of_eq (by decide) (Eq.symm (GCommand.len c0)))) (Upd.trans (Sub.refl _) (GCommand.upd6 c0 []) (Upd.refl ((GCommand.len ((GCommand.w6 c0 []))).trans (GCommand.len c0).symm)))) ?_
              refine rp rfl rfl (u_fa rfl rfl Tryd.underlying43 rfl in_27 (Nat.succ_ne_zero _) rfl rfl (ne_of_lt (n := 0) (Nat.lt_of_lt_of_eq (by decide) (Eq.symm (GCommand.len ((GCommand.w6 c0 []))))))) ?_
              refine r_op rfl rfl (u_st rfl rfl rfl rfl rfl in_27 (GExpr.len GExpr.zero) (ne_of_lt (n := 0) (Nat.lt_of_lt_of_eq (by decide) (Eq.symm (GCommand.len ((GCommand.w6 c0 [])))))) (Upd.trans (Sub.refl _) (GCommand.upd7 ((GCommand.w6 c0 [])) GExpr.zero) (Upd.refl ((GCommand.len ((GCommand.w7 (GCommand.w6 c0 []) GExpr.zero))).trans (GCommand.len ((GCommand.w6 c0 []))).symm)))) ?_
              refine rz [(1, .q 1 (0)), (5, .b y'37)] [(1, .pure (GCommand.cs ((GCommand.w7 (GCommand.w6 c0 []) GExpr.zero))))] rfl rfl rfl ?_
              have hz := some_elim H
              subst hz
              exact rfl
           ·replace H := ite_else h50 H
            refine sg [0, 1] rfl ?_
            refine rp rfl rfl (p_ieq rfl rfl rfl) ?_
            refine rp rfl rfl (p_asg rfl rfl) ?_
            refine rz [(1, .q 1 (0)), (5, .b (decide ((((r'10 = true) ∧ (c0.Owner ≥ (0 : Int))) ∧ (c0.Drawer ≥ (0 : Int))) ∧ (c0.To ≥ (0 : Int))))), (80, .i c0.Kind), (215, .b (decide (c0.Kind = (4 : Int))))] [(1, .pure (GCommand.cs c0))] rfl rfl rfl ?_
            refine AW2_if (p := c0.Kind = (4 : Int)) rfl (fun h70 => ?_) (fun h70 => ?_)
            ·replace H := ite_then h70 H
             refine AW2_seq ?_
             refine bindK H fun g'40 h77 H => ?_
             refine AW2_mid (⟨[(1, .q 1 (0)), (5, .b g'40)], [(1, .pure (GCommand.cs c0))], 286⟩ : TS) ?_ ?_
             ·clear H
              have H := h77
              clear h77
              refine AW2_reg [0, 1, 2, 3, 4, 5, 6] rfl ?_
              refine rp rfl rfl (p_move rfl rfl) ?_
              refine rp rfl rfl (p_move rfl rfl) ?_
              refine (Classical.em (r'10 = true)).elim (fun h72 => ?_) (fun h72 => ?_)
              ·replace H := ite_then h72 H
               refine (Classical.em (c0.Owner ≥ (0 : Int))).elim (fun h73 => ?_) (fun h73 => ?_)
               ·replace H := ite_then h73 H
                refine (Classical.em (c0.Drawer ≥ (0 : Int))).elim (fun h74 => ?_) (fun h74 => ?_)
                ·replace H := ite_then h74 H
                 refine (Classical.em (c0.To ≥ (0 : Int))).elim (fun h75 => ?_) (fun h75 => ?_)
                 ·replace H := ite_then h75 H
                  have qq48 := decide_eq_true (p := (((r'10 = true) ∧ (c0.Owner ≥ (0 : Int))) ∧ (c0.Drawer ≥ (0 : Int))) ∧ (c0.To ≥ (0 : Int))) ⟨⟨⟨h72, h73⟩, h74⟩, h75⟩
                  refine rn rfl rfl rfl rfl qq48 rfl (u_fa rfl rfl Tryd.underlying43 rfl in_27 (Nat.succ_ne_zero _) rfl rfl (ne_of_lt (n := 0) (Nat.lt_of_lt_of_eq (by decide) (Eq.symm (GCommand.len c0))))) ?_
                  refine rn rfl rfl rfl rfl qq48 rfl (u_lda rfl rfl Tryd.underlying27 rfl in_27 rfl (Nat.succ_pos _) ((Sub.refl _).trans (GCommand.sub7 c0)) (GExpr.len c0.Where)) ?_
                  refine bindK H fun r'39 h76 H => ?_
                  refine rn rfl rfl rfl rfl qq48 rfl (p_callp rfl rfl rfl Tryd.func36 rfl rfl (g_ref_mayWhere_ac h76) ⟨rfl, trivial⟩) ?_
                  refine rp rfl rfl (p_pkt rfl rfl qq48 (.same _)) ?_
                  refine rp rfl rfl (p_asg rfl rfl) ?_
                  refine rs [(1, .q 1 (0)), (5, .b r'39)] [(1, .pure (GCommand.cs c0))] rfl rfl rfl ?_
                  have hz := some_elim H
                  subst hz
                  exact RunW_nil rfl
                 ·replace H := ite_else h75 H
                  have qq49 := decide_eq_false (p := (((r'10 = true) ∧ (c0.Owner ≥ (0 : Int))) ∧ (c0.Drawer ≥ (0 : Int))) ∧ (c0.To ≥ (0 : Int))) (fun h => h75 h.2)
                  iterate 3 (refine r_off rfl rfl rfl rfl qq49 rfl rfl ?_)
                  refine rp rfl rfl (p_pkf rfl rfl qq49 (.same _)) ?_
                  refine rp rfl rfl (p_asg rfl rfl) ?_
                  refine rs [(1, .q 1 (0)), (5, .b false)] [(1, .pure (GCommand.cs c0))] rfl rfl rfl ?_
                  have hz := some_elim H
                  subst hz
                  exact RunW_nil rfl
                ·replace H := ite_else h74 H
                 have qq50 := decide_eq_false (p := (((r'10 = true) ∧ (c0.Owner ≥ (0 : Int))) ∧ (c0.Drawer ≥ (0 : Int))) ∧ (c0.To ≥ (0 : Int))) (fun h => (fun h => h74 h.2) h.1)
                 iterate 3 (refine r_off rfl rfl rfl rfl qq50 rfl rfl ?_)
                 refine rp rfl rfl (p_pkf rfl rfl qq50 (.same _)) ?_
                 refine rp rfl rfl (p_asg rfl rfl) ?_
                 refine rs [(1, .q 1 (0)), (5, .b false)] [(1, .pure (GCommand.cs c0))] rfl rfl rfl ?_
                 have hz := some_elim H
                 subst hz
                 exact RunW_nil rfl
               ·replace H := ite_else h73 H
                have qq51 := decide_eq_false (p := (((r'10 = true) ∧ (c0.Owner ≥ (0 : Int))) ∧ (c0.Drawer ≥ (0 : Int))) ∧ (c0.To ≥ (0 : Int))) (fun h => (fun h => (fun h => h73 h.2) h.1) h.1)
                iterate 3 (refine r_off rfl rfl rfl rfl qq51 rfl rfl ?_)
                refine rp rfl rfl (p_pkf rfl rfl qq51 (.same _)) ?_
                refine rp rfl rfl (p_asg rfl rfl) ?_
                refine rs [(1, .q 1 (0)), (5, .b false)] [(1, .pure (GCommand.cs c0))] rfl rfl rfl ?_
                have hz := some_elim H
                subst hz
                exact RunW_nil rfl
              ·replace H := ite_else h72 H
               have qq52 := decide_eq_false (p := (((r'10 = true) ∧ (c0.Owner ≥ (0 : Int))) ∧ (c0.Drawer ≥ (0 : Int))) ∧ (c0.To ≥ (0 : Int))) (fun h => (fun h => (fun h => h72 h.1) h.1) h.1)
               iterate 3 (refine r_off rfl rfl rfl rfl qq52 rfl rfl ?_)
               refine rp rfl rfl (p_pkf rfl rfl qq52 (.same _)) ?_
               refine rp rfl rfl (p_asg rfl rfl) ?_
               refine rs [(1, .q 1 (0)), (5, .b false)] [(1, .pure (GCommand.cs c0))] rfl rfl rfl ?_
               have hz := some_elim H
               subst hz
               exact RunW_nil rfl
             ·refine AW2_reg [0, 1, 2] rfl ?_
              refine rp rfl rfl (u_bld rfl in_27 one_27 zc_27 pl_27 rfl rfl) ?_
              refine rp rfl rfl (u_fa rfl rfl Tryd.underlying43 rfl in_27 (Nat.succ_ne_zero _) rfl rfl (ne_of_lt (n := 0) (Nat.lt_of_lt_of_eq (by decide) (Eq.symm (GCommand.len c0))))) ?_
              refine r_op rfl rfl (u_st rfl rfl rfl rfl rfl in_27 (GExpr.len GExpr.zero) (ne_of_lt (n := 0) (Nat.lt_of_lt_of_eq (by decide) (Eq.symm (GCommand.len c0)))) (Upd.trans (Sub.refl _) (GCommand.upd7 c0 GExpr.zero) (Upd.refl ((GCommand.len ((GCommand.w7 c0 GExpr.zero))).trans (GCommand.len c0).symm)))) ?_
              refine rz [(1, .q 1 (0)), (5, .b g'40)] [(1, .pure (GCommand.cs ((GCommand.w7 c0 GExpr.zero))))] rfl rfl rfl ?_
              have hz := some_elim H
              subst hz
              exact rfl
            ·replace H := ite_else h70 H
             refine sg [0, 1] rfl ?_
             refine rp rfl rfl (p_ieq rfl rfl rfl) ?_
             refine rp rfl rfl (p_asg rfl rfl) ?_
             refine rz [(1, .q 1 (0)), (5, .b (decide ((((r'10 = true) ∧ (c0.Owner ≥ (0 : Int))) ∧ (c0.Drawer ≥ (0 : Int))) ∧ (c0.To ≥ (0 : Int))))), (225, .b (decide (c0.Kind = (5 : Int))))] [(1, .pure (GCommand.cs c0))] rfl rfl rfl ?_
             refine AW2_if (p := c0.Kind = (5 : Int)) rfl (fun h79 => ?_) (fun h79 => ?_)
             ·replace H := ite_then h79 H
              refine AW2_seq ?_
              refine bindK H fun g'43 h87 H => ?_
              refine AW2_mid (⟨[(1, .q 1 (0)), (5, .b g'43)], [(1, .pure (GCommand.cs c0))], 286⟩ : TS) ?_ ?_
              ·clear H
               have H := h87
               clear h87
               refine AW2_reg [0, 1, 2, 3, 4, 5, 6, 7, 8, 9, 10, 11] rfl ?_
               refine rp rfl rfl (p_move rfl rfl) ?_
               refine rp rfl rfl (p_move rfl rfl) ?_
               refine (Classical.em (r'10 = true)).elim (fun h81 => ?_) (fun h81 => ?_)
               ·replace H := ite_then h81 H
                refine (Classical.em (c0.Owner ≥ (0 : Int))).elim (fun h82 => ?_) (fun h82 => ?_)
                ·replace H := ite_then h82 H
                 refine (Classical.em (c0.Drawer ≥ (0 : Int))).elim (fun h83 => ?_) (fun h83 => ?_)
                 ·replace H := ite_then h83 H
                  refine (Classical.em (c0.To ≥ (0 : Int))).elim (fun h84 => ?_) (fun h84 => ?_)
                  ·replace H := ite_then h84 H
                   have qq53 := decide_eq_true (p := (((r'10 = true) ∧ (c0.Owner ≥ (0 : Int))) ∧ (c0.Drawer ≥ (0 : Int))) ∧ (c0.To ≥ (0 : Int))) ⟨⟨⟨h81, h82⟩, h83⟩, h84⟩
                   refine rn rfl rfl rfl rfl qq53 rfl (u_fa rfl rfl Tryd.underlying43 rfl in_37 (Nat.succ_ne_zero _) rfl rfl (ne_of_lt (n := 0) (Nat.lt_of_lt_of_eq (by decide) (Eq.symm (GCommand.len c0))))) ?_
                   refine rn rfl rfl rfl rfl qq53 rfl (u_lda rfl rfl Tryd.underlying37 rfl in_37 rfl (Nat.succ_pos _) ((Sub.refl _).trans (GCommand.sub8 c0)) (GQuery.len c0.Query)) ?_
                   refine bindK H fun r'42 h85 H => ?_
                   refine rn rfl rfl rfl rfl qq53 rfl (p_callp rfl rfl rfl Tryd.func37 rfl rfl (g_ref_mayQuery_ac h85) ⟨rfl, trivial⟩) ?_
                   refine rp rfl rfl (p_pkt rfl rfl qq53 (.same _)) ?_
                   refine rp rfl rfl (p_move rfl rfl) ?_
                   refine (Classical.em (r'42 = true)).elim (fun h86 => ?_) (fun h86 => ?_)
                   ·replace H := ite_then h86 H
                    refine rn rfl rfl rfl rfl h86 rfl (u_fa rfl rfl Tryd.underlying43 rfl in_3 (Nat.succ_ne_zero _) rfl rfl (ne_of_lt (n := 0) (Nat.lt_of_lt_of_eq (by decide) (Eq.symm (GCommand.len c0))))) ?_
                    refine rn rfl rfl rfl rfl h86 rfl (u_ld rfl rfl Tryd.underlying3 rfl rfl ((Sub.refl _).trans (GCommand.sub3 c0))) ?_
                    refine rn rfl rfl rfl rfl h86 rfl (p_ieq rfl rfl rfl) ?_
                    refine rp rfl rfl (p_pkt rfl rfl h86 (.same _)) ?_
                    refine rp rfl rfl (p_asg rfl rfl) ?_
                    refine rs [(1, .q 1 (0)), (5, .b (decide (c0.Drawer = (0 : Int))))] [(1, .pure (GCommand.cs c0))] rfl rfl rfl ?_
                    have hz := some_elim H
                    subst hz
                    exact RunW_nil rfl
                   ·replace H := ite_else h86 H
                    iterate 3 (refine r_off rfl rfl rfl rfl (bfalse h86) rfl rfl ?_)
                    refine rp rfl rfl (p_pkf rfl rfl (bfalse h86) (.same _)) ?_
                    refine rp rfl rfl (p_asg rfl rfl) ?_
                    refine rs [(1, .q 1 (0)), (5, .b false)] [(1, .pure (GCommand.cs c0))] rfl rfl rfl ?_
                    have hz := some_elim H
                    subst hz
                    exact RunW_nil rfl
                  ·replace H := ite_else h84 H
                   have qq54 := decide_eq_false (p := (((r'10 = true) ∧ (c0.Owner ≥ (0 : Int))) ∧ (c0.Drawer ≥ (0 : Int))) ∧ (c0.To ≥ (0 : Int))) (fun h => h84 h.2)
                   iterate 3 (refine r_off rfl rfl rfl rfl qq54 rfl rfl ?_)
                   refine rp rfl rfl (p_pkf rfl rfl qq54 (.same _)) ?_
                   refine rp rfl rfl (p_move rfl rfl) ?_
                   iterate 3 (refine r_off rfl rfl rfl rfl (bfalse (by decide)) rfl rfl ?_)
                   refine rp rfl rfl (p_pkf rfl rfl (bfalse (by decide)) (.same _)) ?_
                   refine rp rfl rfl (p_asg rfl rfl) ?_
                   refine rs [(1, .q 1 (0)), (5, .b false)] [(1, .pure (GCommand.cs c0))] rfl rfl rfl ?_
                   have hz := some_elim H
                   subst hz
                   exact RunW_nil rfl
                 ·replace H := ite_else h83 H
                  have qq55 := decide_eq_false (p := (((r'10 = true) ∧ (c0.Owner ≥ (0 : Int))) ∧ (c0.Drawer ≥ (0 : Int))) ∧ (c0.To ≥ (0 : Int))) (fun h => (fun h => h83 h.2) h.1)
                  iterate 3 (refine r_off rfl rfl rfl rfl qq55 rfl rfl ?_)
                  refine rp rfl rfl (p_pkf rfl rfl qq55 (.same _)) ?_
                  refine rp rfl rfl (p_move rfl rfl) ?_
                  iterate 3 (refine r_off rfl rfl rfl rfl (bfalse (by decide)) rfl rfl ?_)
                  refine rp rfl rfl (p_pkf rfl rfl (bfalse (by decide)) (.same _)) ?_
                  refine rp rfl rfl (p_asg rfl rfl) ?_
                  refine rs [(1, .q 1 (0)), (5, .b false)] [(1, .pure (GCommand.cs c0))] rfl rfl rfl ?_
                  have hz := some_elim H
                  subst hz
                  exact RunW_nil rfl
                ·replace H := ite_else h82 H
                 have qq56 := decide_eq_false (p := (((r'10 = true) ∧ (c0.Owner ≥ (0 : Int))) ∧ (c0.Drawer ≥ (0 : Int))) ∧ (c0.To ≥ (0 : Int))) (fun h => (fun h => (fun h => h82 h.2) h.1) h.1)
                 iterate 3 (refine r_off rfl rfl rfl rfl qq56 rfl rfl ?_)
                 refine rp rfl rfl (p_pkf rfl rfl qq56 (.same _)) ?_
                 refine rp rfl rfl (p_move rfl rfl) ?_
                 iterate 3 (refine r_off rfl rfl rfl rfl (bfalse (by decide)) rfl rfl ?_)
                 refine rp rfl rfl (p_pkf rfl rfl (bfalse (by decide)) (.same _)) ?_
                 refine rp rfl rfl (p_asg rfl rfl) ?_
                 refine rs [(1, .q 1 (0)), (5, .b false)] [(1, .pure (GCommand.cs c0))] rfl rfl rfl ?_
                 have hz := some_elim H
                 subst hz
                 exact RunW_nil rfl
               ·replace H := ite_else h81 H
                have qq57 := decide_eq_false (p := (((r'10 = true) ∧ (c0.Owner ≥ (0 : Int))) ∧ (c0.Drawer ≥ (0 : Int))) ∧ (c0.To ≥ (0 : Int))) (fun h => (fun h => (fun h => h81 h.1) h.1) h.1)
                iterate 3 (refine r_off rfl rfl rfl rfl qq57 rfl rfl ?_)
                refine rp rfl rfl (p_pkf rfl rfl qq57 (.same _)) ?_
                refine rp rfl rfl (p_move rfl rfl) ?_
                iterate 3 (refine r_off rfl rfl rfl rfl (bfalse (by decide)) rfl rfl ?_)
                refine rp rfl rfl (p_pkf rfl rfl (bfalse (by decide)) (.same _)) ?_
                refine rp rfl rfl (p_asg rfl rfl) ?_
                refine rs [(1, .q 1 (0)), (5, .b false)] [(1, .pure (GCommand.cs c0))] rfl rfl rfl ?_
                have hz := some_elim H
                subst hz
                exact RunW_nil rfl
              ·refine AW2_reg [0, 1, 2] rfl ?_
               refine rp rfl rfl (u_bld rfl in_37 one_37 zc_37 pl_37 rfl rfl) ?_
               refine rp rfl rfl (u_fa rfl rfl Tryd.underlying43 rfl in_37 (Nat.succ_ne_zero _) rfl rfl (ne_of_lt (n := 0) (Nat.lt_of_lt_of_eq (by decide) (Eq.symm (GCommand.len c0))))) ?_
               refine r_op rfl rfl (u_st rfl rfl rfl rfl rfl in_37 (GQuery.len GQuery.zero) (ne_of_lt (n := 0) (Nat.lt_of_lt_of_eq (by decide) (Eq.symm (GCommand.len c0)))) (Upd.trans (Sub.refl _) (GCommand.upd8 c0 GQuery.zero) (Upd.refl ((GCommand.len ((GCommand.w8 c0 GQuery.zero))).trans (GCommand.len c0).symm)))) ?_
               refine rz [(1, .q 1 (0)), (5, .b g'43)] [(1, .pure (GCommand.cs ((GCommand.w8 c0 GQuery.zero))))] rfl rfl rfl ?_
               have hz := some_elim H
               subst hz
               exact rfl
             ·replace H := ite_else h79 H
              refine AW2_seq ?_
              refine AW2_mid (⟨[(1, .q 1 (0)), (5, .b (decide ((((((r'10 = true) ∧ (c0.Owner ≥ (0 : Int))) ∧ (c0.Drawer ≥ (0 : Int))) ∧ (c0.To ≥ (0 : Int))) ∧ ((c0.Right = (1 : Int)) ∨ (c0.Right = (2 : Int)))) ∧ ((c0.Kind = (6 : Int)) ∨ ((!c0.Option_) = true)))))], [(1, .pure (GCommand.cs c0))], 286⟩ : TS) ?_ ?_
              ·refine AW2_reg [0, 1, 2, 3, 4, 5, 6, 7, 8, 9, 10, 11, 12, 13, 14, 15, 16, 17, 18, 19, 20, 21] rfl ?_
               refine rp rfl rfl (p_move rfl rfl) ?_
               refine rp rfl rfl (p_move rfl rfl) ?_
               refine (Classical.em (r'10 = true)).elim (fun h89 => ?_) (fun h89 => ?_)
               ·refine (Classical.em (c0.Owner ≥ (0 : Int))).elim (fun h90 => ?_) (fun h90 => ?_)
                ·refine (Classical.em (c0.Drawer ≥ (0 : Int))).elim (fun h91 => ?_) (fun h91 => ?_)
                 ·refine (Classical.em (c0.To ≥ (0 : Int))).elim (fun h92 => ?_) (fun h92 => ?_)
                  ·have qq58 := decide_eq_true (p := (((r'10 = true) ∧ (c0.Owner ≥ (0 : Int))) ∧ (c0.Drawer ≥ (0 : Int))) ∧ (c0.To ≥ (0 : Int))) ⟨⟨⟨h89, h90⟩, h91⟩, h92⟩
                   refine rn rfl rfl rfl rfl qq58 rfl (u_fa rfl rfl Tryd.underlying43 rfl in_3 (Nat.succ_ne_zero _) rfl rfl (ne_of_lt (n := 0) (Nat.lt_of_lt_of_eq (by decide) (Eq.symm (GCommand.len c0))))) ?_
                   refine rn rfl rfl rfl rfl qq58 rfl (u_ld rfl rfl Tryd.underlying3 rfl rfl ((Sub.refl _).trans (GCommand.sub10 c0))) ?_
                   refine rn rfl rfl rfl rfl qq58 rfl (p_ieq rfl rfl rfl) ?_
                   refine rn rfl rfl rfl rfl qq58 rfl (p_move rfl rfl) ?_
                   refine (Classical.em (c0.Right = (1 : Int))).elim (fun h93 => ?_) (fun h93 => ?_)
                   ·iterate 3 (refine r_off rfl rfl rfl rfl (decide_eq_true h93) rfl rfl ?_)
                    refine rn rfl rfl rfl rfl qq58 rfl (p_pkt rfl rfl (decide_eq_true h93) (tb (decide_eq_true (p := (c0.Right = (1 : Int)) ∨ (c0.Right = (2 : Int))) (Or.inl h93)).symm)) ?_
                    refine rp rfl rfl (p_pkt rfl rfl qq58 (tb ((and_l (p := (((r'10 = true) ∧ (c0.Owner ≥ (0 : Int))) ∧ (c0.Drawer ≥ (0 : Int))) ∧ (c0.To ≥ (0 : Int))) (q := (c0.Right = (1 : Int)) ∨ (c0.Right = (2 : Int))) ⟨⟨⟨h89, h90⟩, h91⟩, h92⟩)))) ?_
                    refine rp rfl rfl (p_move rfl rfl) ?_
                    have qq59 := decide_eq_true (p := ((((r'10 = true) ∧ (c0.Owner ≥ (0 : Int))) ∧ (c0.Drawer ≥ (0 : Int))) ∧ (c0.To ≥ (0 : Int))) ∧ ((c0.Right = (1 : Int)) ∨ (c0.Right = (2 : Int)))) ⟨⟨⟨⟨h89, h90⟩, h91⟩, h92⟩, (Or.inl h93)⟩
                    refine rn rfl rfl rfl rfl qq59 rfl (u_fa rfl rfl Tryd.underlying43 rfl in_3 (Nat.succ_ne_zero _) rfl rfl (ne_of_lt (n := 0) (Nat.lt_of_lt_of_eq (by decide) (Eq.symm (GCommand.len c0))))) ?_
                    refine rn rfl rfl rfl rfl qq59 rfl (u_ld rfl rfl Tryd.underlying3 rfl rfl ((Sub.refl _).trans (GCommand.sub0 c0))) ?_
                    refine rn rfl rfl rfl rfl qq59 rfl (p_ieq rfl rfl rfl) ?_
                    refine rn rfl rfl rfl rfl qq59 rfl (p_move rfl rfl) ?_
                    refine (Classical.em (c0.Kind = (6 : Int))).elim (fun h94 => ?_) (fun h94 => ?_)
                    ·iterate 3 (refine r_off rfl rfl rfl rfl (decide_eq_true h94) rfl rfl ?_)
                     refine rn rfl rfl rfl rfl qq59 rfl (p_pkt rfl rfl (decide_eq_true h94) (tb (decide_eq_true (p := (c0.Kind = (6 : Int)) ∨ ((!c0.Option_) = true)) (Or.inl h94)).symm)) ?_
                     refine rp rfl rfl (p_pkt rfl rfl qq59 (tb ((and_l (p := ((((r'10 = true) ∧ (c0.Owner ≥ (0 : Int))) ∧ (c0.Drawer ≥ (0 : Int))) ∧ (c0.To ≥ (0 : Int))) ∧ ((c0.Right = (1 : Int)) ∨ (c0.Right = (2 : Int)))) (q := (c0.Kind = (6 : Int)) ∨ ((!c0.Option_) = true)) ⟨⟨⟨⟨h89, h90⟩, h91⟩, h92⟩, (Or.inl h93)⟩)))) ?_
                     refine rp rfl rfl (p_asg rfl rfl) ?_
                     refine rs [(1, .q 1 (0)), (5, .b (decide ((((((r'10 = true) ∧ (c0.Owner ≥ (0 : Int))) ∧ (c0.Drawer ≥ (0 : Int))) ∧ (c0.To ≥ (0 : Int))) ∧ ((c0.Right = (1 : Int)) ∨ (c0.Right = (2 : Int)))) ∧ ((c0.Kind = (6 : Int)) ∨ ((!c0.Option_) = true)))))] [(1, .pure (GCommand.cs c0))] rfl rfl rfl ?_
                     exact RunW_nil rfl
                    ·refine r_on rfl rfl rfl rfl (decide_eq_false h94) rfl (PureD.opD (u_fa rfl rfl Tryd.underlying43 rfl in_4 (Nat.succ_ne_zero _) rfl rfl (ne_of_lt (n := 0) (Nat.lt_of_lt_of_eq (by decide) (Eq.symm (GCommand.len c0)))))) ?_
                     refine r_on rfl rfl rfl rfl (decide_eq_false h94) rfl (PureD.opD (u_ld rfl rfl Tryd.underlying4 rfl rfl ((Sub.refl _).trans (GCommand.sub11 c0)))) ?_
                     refine r_on rfl rfl rfl rfl (decide_eq_false h94) rfl (PureD.opD (p_not rfl rfl)) ?_
                     refine rn rfl rfl rfl rfl qq59 rfl (p_pkf rfl rfl (decide_eq_false h94) (tb ((bdec _).trans (or_l (p := c0.Kind = (6 : Int)) (q := (!c0.Option_) = true) h94)))) ?_
                     refine rp rfl rfl (p_pkt rfl rfl qq59 (tb ((and_l (p := ((((r'10 = true) ∧ (c0.Owner ≥ (0 : Int))) ∧ (c0.Drawer ≥ (0 : Int))) ∧ (c0.To ≥ (0 : Int))) ∧ ((c0.Right = (1 : Int)) ∨ (c0.Right = (2 : Int)))) (q := (c0.Kind = (6 : Int)) ∨ ((!c0.Option_) = true)) ⟨⟨⟨⟨h89, h90⟩, h91⟩, h92⟩, (Or.inl h93)⟩)))) ?_
                     refine rp rfl rfl (p_asg rfl rfl) ?_
                     refine rs [(1, .q 1 (0)), (5, .b (decide ((((((r'10 = true) ∧ (c0.Owner ≥ (0 : Int))) ∧ (c0.Drawer ≥ (0 : Int))) ∧ (c0.To ≥ (0 : Int))) ∧ ((c0.Right = (1 : Int)) ∨ (c0.Right = (2 : Int)))) ∧ ((c0.Kind = (6 : Int)) ∨ ((!c0.Option_) = true)))))] [(1, .pure (GCommand.cs c0))] rfl rfl rfl ?_
                     exact RunW_nil rfl
                   ·refine r_on rfl rfl rfl rfl (decide_eq_false h93) rfl (PureD.opD (u_fa rfl rfl Tryd.underlying43 rfl in_3 (Nat.succ_ne_zero _) rfl rfl (ne_of_lt (n := 0) (Nat.lt_of_lt_of_eq (by decide) (Eq.symm (GCommand.len c0)))))) ?_
                    refine r_on rfl rfl rfl rfl (decide_eq_false h93) rfl (PureD.opD (u_ld rfl rfl Tryd.underlying3 rfl rfl ((Sub.refl _).trans (GCommand.sub10 c0)))) ?_
                    refine r_on rfl rfl rfl rfl (decide_eq_false h93) rfl (PureD.opD (p_ieq rfl rfl rfl)) ?_
                    refine rn rfl rfl rfl rfl qq58 rfl (p_pkf rfl rfl (decide_eq_false h93) (tb ((or_l (p := c0.Right = (1 : Int)) (q := c0.Right = (2 : Int)) h93)))) ?_
                    refine rp rfl rfl (p_pkt rfl rfl qq58 (tb ((and_l (p := (((r'10 = true) ∧ (c0.Owner ≥ (0 : Int))) ∧ (c0.Drawer ≥ (0 : Int))) ∧ (c0.To ≥ (0 : Int))) (q := (c0.Right = (1 : Int)) ∨ (c0.Right = (2 : Int))) ⟨⟨⟨h89, h90⟩, h91⟩, h92⟩)))) ?_
                    refine rp rfl rfl (p_move rfl rfl) ?_
                    refine (Classical.em (c0.Right = (2 : Int))).elim (fun h95 => ?_) (fun h95 => ?_)
                    ·have qq60 := decide_eq_true (p := ((((r'10 = true) ∧ (c0.Owner ≥ (0 : Int))) ∧ (c0.Drawer ≥ (0 : Int))) ∧ (c0.To ≥ (0 : Int))) ∧ ((c0.Right = (1 : Int)) ∨ (c0.Right = (2 : Int)))) ⟨⟨⟨⟨h89, h90⟩, h91⟩, h92⟩, (Or.inr h95)⟩
                     refine rn rfl rfl rfl rfl qq60 rfl (u_fa rfl rfl Tryd.underlying43 rfl in_3 (Nat.succ_ne_zero _) rfl rfl (ne_of_lt (n := 0) (Nat.lt_of_lt_of_eq (by decide) (Eq.symm (GCommand.len c0))))) ?_
                     refine rn rfl rfl rfl rfl qq60 rfl (u_ld rfl rfl Tryd.underlying3 rfl rfl ((Sub.refl _).trans (GCommand.sub0 c0))) ?_
                     refine rn rfl rfl rfl rfl qq60 rfl (p_ieq rfl rfl rfl) ?_
                     refine rn rfl rfl rfl rfl qq60 rfl (p_move rfl rfl) ?_
                     refine (Classical.em (c0.Kind = (6 : Int))).elim (fun h96 => ?_) (fun h96 => ?_)
                     ·iterate 3 (refine r_off rfl rfl rfl rfl (decide_eq_true h96) rfl rfl ?_)
                      refine rn rfl rfl rfl rfl qq60 rfl (p_pkt rfl rfl (decide_eq_true h96) (tb (decide_eq_true (p := (c0.Kind = (6 : Int)) ∨ ((!c0.Option_) = true)) (Or.inl h96)).symm)) ?_
                      refine rp rfl rfl (p_pkt rfl rfl qq60 (tb ((and_l (p := ((((r'10 = true) ∧ (c0.Owner ≥ (0 : Int))) ∧ (c0.Drawer ≥ (0 : Int))) ∧ (c0.To ≥ (0 : Int))) ∧ ((c0.Right = (1 : Int)) ∨ (c0.Right = (2 : Int)))) (q := (c0.Kind = (6 : Int)) ∨ ((!c0.Option_) = true)) ⟨⟨⟨⟨h89, h90⟩, h91⟩, h92⟩, (Or.inr h95)⟩)))) ?_
                      refine rp rfl rfl (p_asg rfl rfl) ?_
                      refine rs [(1, .q 1 (0)), (5, .b (decide ((((((r'10 = true) ∧ (c0.Owner ≥ (0 : Int))) ∧ (c0.Drawer ≥ (0 : Int))) ∧ (c0.To ≥ (0 : Int))) ∧ ((c0.Right = (1 : Int)) ∨ (c0.Right = (2 : Int)))) ∧ ((c0.Kind = (6 : Int)) ∨ ((!c0.Option_) = true)))))] [(1, .pure (GCommand.cs c0))] rfl rfl rfl ?_
                      exact RunW_nil rfl
                     ·refine r_on rfl rfl rfl rfl (decide_eq_false h96) rfl (PureD.opD (u_fa rfl rfl Tryd.underlying43 rfl in_4 (Nat.succ_ne_zero _) rfl rfl (ne_of_lt (n := 0) (Nat.lt_of_lt_of_eq (by decide) (Eq.symm (GCommand.len c0)))))) ?_
                      refine r_on rfl rfl rfl rfl (decide_eq_false h96) rfl (PureD.opD (u_ld rfl rfl Tryd.underlying4 rfl rfl ((Sub.refl _).trans (GCommand.sub11 c0)))) ?_
                      refine r_on rfl rfl rfl rfl (decide_eq_false h96) rfl (PureD.opD (p_not rfl rfl)) ?_
                      refine rn rfl rfl rfl rfl qq60 rfl (p_pkf rfl rfl (decide_eq_false h96) (tb ((bdec _).trans (or_l (p := c0.Kind = (6 : Int)) (q := (!c0.Option_) = true) h96)))) ?_
                      refine rp rfl rfl (p_pkt rfl rfl qq60 (tb ((and_l (p := ((((r'10 = true) ∧ (c0.Owner ≥ (0 : Int))) ∧ (c0.Drawer ≥ (0 : Int))) ∧ (c0.To ≥ (0 : Int))) ∧ ((c0.Right = (1 : Int)) ∨ (c0.Right = (2 : Int)))) (q := (c0.Kind = (6 : Int)) ∨ ((!c0.Option_) = true)) ⟨⟨⟨⟨h89, h90⟩, h91⟩, h92⟩, (Or.inr h95)⟩)))) ?_
                      refine rp rfl rfl (p_asg rfl rfl) ?_
                      refine rs [(1, .q 1 (0)), (5, .b (decide ((((((r'10 = true) ∧ (c0.Owner ≥ (0 : Int))) ∧ (c0.Drawer ≥ (0 : Int))) ∧ (c0.To ≥ (0 : Int))) ∧ ((c0.Right = (1 : Int)) ∨ (c0.Right = (2 : Int)))) ∧ ((c0.Kind = (6 : Int)) ∨ ((!c0.Option_) = true)))))] [(1, .pure (GCommand.cs c0))] rfl rfl rfl ?_
                      exact RunW_nil rfl
                    ·have qq61 := decide_eq_false (p := ((((r'10 = true) ∧ (c0.Owner ≥ (0 : Int))) ∧ (c0.Drawer ≥ (0 : Int))) ∧ (c0.To ≥ (0 : Int))) ∧ ((c0.Right = (1 : Int)) ∨ (c0.Right = (2 : Int)))) (fun h => (not_or.2 ⟨h93, h95⟩) h.2)
                     iterate 4 (refine r_off rfl rfl rfl rfl qq61 rfl rfl ?_)
                     iterate 3 (refine r_off2 rfl rfl rfl rfl rfl rfl ?_)
                     refine r_off rfl rfl rfl rfl qq61 rfl rfl ?_
                     refine rp rfl rfl (p_pkf rfl rfl qq61 (tb (decide_eq_false (p := (((((r'10 = true) ∧ (c0.Owner ≥ (0 : Int))) ∧ (c0.Drawer ≥ (0 : Int))) ∧ (c0.To ≥ (0 : Int))) ∧ ((c0.Right = (1 : Int)) ∨ (c0.Right = (2 : Int)))) ∧ ((c0.Kind = (6 : Int)) ∨ ((!c0.Option_) = true))) (fun x => (fun h => (not_or.2 ⟨h93, h95⟩) h.2) x.1)).symm)) ?_
                     refine rp rfl rfl (p_asg rfl rfl) ?_
                     refine rs [(1, .q 1 (0)), (5, .b (decide ((((((r'10 = true) ∧ (c0.Owner ≥ (0 : Int))) ∧ (c0.Drawer ≥ (0 : Int))) ∧ (c0.To ≥ (0 : Int))) ∧ ((c0.Right = (1 : Int)) ∨ (c0.Right = (2 : Int)))) ∧ ((c0.Kind = (6 : Int)) ∨ ((!c0.Option_) = true)))))] [(1, .pure (GCommand.cs c0))] rfl rfl rfl ?_
                     exact RunW_nil rfl
                  ·have qq62 := decide_eq_false (p := (((r'10 = true) ∧ (c0.Owner ≥ (0 : Int))) ∧ (c0.Drawer ≥ (0 : Int))) ∧ (c0.To ≥ (0 : Int))) (fun h => h92 h.2)
                   iterate 4 (refine r_off rfl rfl rfl rfl qq62 rfl rfl ?_)
                   iterate 3 (refine r_off2 rfl rfl rfl rfl rfl rfl ?_)
                   refine r_off rfl rfl rfl rfl qq62 rfl rfl ?_
                   refine rp rfl rfl (p_pkf rfl rfl qq62 (tb (decide_eq_false (p := ((((r'10 = true) ∧ (c0.Owner ≥ (0 : Int))) ∧ (c0.Drawer ≥ (0 : Int))) ∧ (c0.To ≥ (0 : Int))) ∧ ((c0.Right = (1 : Int)) ∨ (c0.Right = (2 : Int)))) (fun x => (fun h => h92 h.2) x.1)).symm)) ?_
                   refine rp rfl rfl (p_move rfl rfl) ?_
                   have qq63 := decide_eq_false (p := ((((r'10 = true) ∧ (c0.Owner ≥ (0 : Int))) ∧ (c0.Drawer ≥ (0 : Int))) ∧ (c0.To ≥ (0 : Int))) ∧ ((c0.Right = (1 : Int)) ∨ (c0.Right = (2 : Int)))) (fun h => (fun h => h92 h.2) h.1)
                   iterate 4 (refine r_off rfl rfl rfl rfl qq63 rfl rfl ?_)
                   iterate 3 (refine r_off2 rfl rfl rfl rfl rfl rfl ?_)
                   refine r_off rfl rfl rfl rfl qq63 rfl rfl ?_
                   refine rp rfl rfl (p_pkf rfl rfl qq63 (tb (decide_eq_false (p := (((((r'10 = true) ∧ (c0.Owner ≥ (0 : Int))) ∧ (c0.Drawer ≥ (0 : Int))) ∧ (c0.To ≥ (0 : Int))) ∧ ((c0.Right = (1 : Int)) ∨ (c0.Right = (2 : Int)))) ∧ ((c0.Kind = (6 : Int)) ∨ ((!c0.Option_) = true))) (fun x => (fun h => (fun h => h92 h.2) h.1) x.1)).symm)) ?_
                   refine rp rfl rfl (p_asg rfl rfl) ?_
                   refine rs [(1, .q 1 (0)), (5, .b (decide ((((((r'10 = true) ∧ (c0.Owner ≥ (0 : Int))) ∧ (c0.Drawer ≥ (0 : Int))) ∧ (c0.To ≥ (0 : Int))) ∧ ((c0.Right = (1 : Int)) ∨ (c0.Right = (2 : Int)))) ∧ ((c0.Kind = (6 : Int)) ∨ ((!c0.Option_) = true)))))] [(1, .pure (GCommand.cs c0))] rfl rfl rfl ?_
                   exact RunW_nil rfl
                 ·have qq64 := decide_eq_false (p := (((r'10 = true) ∧ (c0.Owner ≥ (0 : Int))) ∧ (c0.Drawer ≥ (0 : Int))) ∧ (c0.To ≥ (0 : Int))) (fun h => (fun h => h91 h.2) h.1)
                  iterate 4 (refine r_off rfl rfl rfl rfl qq64 rfl rfl ?_)
                  iterate 3 (refine r_off2 rfl rfl rfl rfl rfl rfl ?_)
                  refine r_off rfl rfl rfl rfl qq64 rfl rfl ?_
                  refine rp rfl rfl (p_pkf rfl rfl qq64 (tb (decide_eq_false (p := ((((r'10 = true) ∧ (c0.Owner ≥ (0 : Int))) ∧ (c0.Drawer ≥ (0 : Int))) ∧ (c0.To ≥ (0 : Int))) ∧ ((c0.Right = (1 : Int)) ∨ (c0.Right = (2 : Int)))) (fun x => (fun h => (fun h => h91 h.2) h.1) x.1)).symm)) ?_
                  refine rp rfl rfl (p_move rfl rfl) ?_
                  have qq65 := decide_eq_false (p := ((((r'10 = true) ∧ (c0.Owner ≥ (0 : Int))) ∧ (c0.Drawer ≥ (0 : Int))) ∧ (c0.To ≥ (0 : Int))) ∧ ((c0.Right = (1 : Int)) ∨ (c0.Right = (2 : Int)))) (fun h => (fun h => (fun h => h91 h.2) h.1) h.1)
                  iterate 4 (refine r_off rfl rfl rfl rfl qq65 rfl rfl ?_)
                  iterate 3 (refine r_off2 rfl rfl rfl rfl rfl rfl ?_)
                  refine r_off rfl rfl rfl rfl qq65 rfl rfl ?_
                  refine rp rfl rfl (p_pkf rfl rfl qq65 (tb (decide_eq_false (p := (((((r'10 = true) ∧ (c0.Owner ≥ (0 : Int))) ∧ (c0.Drawer ≥ (0 : Int))) ∧ (c0.To ≥ (0 : Int))) ∧ ((c0.Right = (1 : Int)) ∨ (c0.Right = (2 : Int)))) ∧ ((c0.Kind = (6 : Int)) ∨ ((!c0.Option_) = true))) (fun x => (fun h => (fun h => (fun h => h91 h.2) h.1) h.1) x.1)).symm)) ?_
                  refine rp rfl rfl (p_asg rfl rfl) ?_
                  refine rs [(1, .q 1 (0)), (5, .b (decide ((((((r'10 = true) ∧ (c0.Owner ≥ (0 : Int))) ∧ (c0.Drawer ≥ (0 : Int))) ∧ (c0.To ≥ (0 : Int))) ∧ ((c0.Right = (1 : Int)) ∨ (c0.Right = (2 : Int)))) ∧ ((c0.Kind = (6 : Int)) ∨ ((!c0.Option_) = true)))))] [(1, .pure (GCommand.cs c0))] rfl rfl rfl ?_
                  exact RunW_nil rfl
                ·have qq66 := decide_eq_false (p := (((r'10 = true) ∧ (c0.Owner ≥ (0 : Int))) ∧ (c0.Drawer ≥ (0 : Int))) ∧ (c0.To ≥ (0 : Int))) (fun h => (fun h => (fun h => h90 h.2) h.1) h.1)
                 iterate 4 (refine r_off rfl rfl rfl rfl qq66 rfl rfl ?_)
                 iterate 3 (refine r_off2 rfl rfl rfl rfl rfl rfl ?_)
                 refine r_off rfl rfl rfl rfl qq66 rfl rfl ?_
                 refine rp rfl rfl (p_pkf rfl rfl qq66 (tb (decide_eq_false (p := ((((r'10 = true) ∧ (c0.Owner ≥ (0 : Int))) ∧ (c0.Drawer ≥ (0 : Int))) ∧ (c0.To ≥ (0 : Int))) ∧ ((c0.Right = (1 : Int)) ∨ (c0.Right = (2 : Int)))) (fun x => (fun h => (fun h => (fun h => h90 h.2) h.1) h.1) x.1)).symm)) ?_
                 refine rp rfl rfl (p_move rfl rfl) ?_
                 have qq67 := decide_eq_false (p := ((((r'10 = true) ∧ (c0.Owner ≥ (0 : Int))) ∧ (c0.Drawer ≥ (0 : Int))) ∧ (c0.To ≥ (0 : Int))) ∧ ((c0.Right = (1 : Int)) ∨ (c0.Right = (2 : Int)))) (fun h => (fun h => (fun h => (fun h => h90 h.2) h.1) h.1) h.1)
                 iterate 4 (refine r_off rfl rfl rfl rfl qq67 rfl rfl ?_)
                 iterate 3 (refine r_off2 rfl rfl rfl rfl rfl rfl ?_)
                 refine r_off rfl rfl rfl rfl qq67 rfl rfl ?_
                 refine rp rfl rfl (p_pkf rfl rfl qq67 (tb (decide_eq_false (p := (((((r'10 = true) ∧ (c0.Owner ≥ (0 : Int))) ∧ (c0.Drawer ≥ (0 : Int))) ∧ (c0.To ≥ (0 : Int))) ∧ ((c0.Right = (1 : Int)) ∨ (c0.Right = (2 : Int)))) ∧ ((c0.Kind = (6 : Int)) ∨ ((!c0.Option_) = true))) (fun x => (fun h => (fun h => (fun h => (fun h => h90 h.2) h.1) h.1) h.1) x.1)).symm)) ?_
                 refine rp rfl rfl (p_asg rfl rfl) ?_
                 refine rs [(1, .q 1 (0)), (5, .b (decide ((((((r'10 = true) ∧ (c0.Owner ≥ (0 : Int))) ∧ (c0.Drawer ≥ (0 : Int))) ∧ (c0.To ≥ (0 : Int))) ∧ ((c0.Right = (1 : Int)) ∨ (c0.Right = (2 : Int)))) ∧ ((c0.Kind = (6 : Int)) ∨ ((!c0.Option_) = true)))))] [(1, .pure (GCommand.cs c0))] rfl rfl rfl ?_
                 exact RunW_nil rfl
               ·have qq68 := decide_eq_false (p := (((r'10 = true) ∧ (c0.Owner ≥ (0 : Int))) ∧ (c0.Drawer ≥ (0 : Int))) ∧ (c0.To ≥ (0 : Int))) (fun h => (fun h => (fun h => h89 h.1) h.1) h.1)
                iterate 4 (refine r_off rfl rfl rfl rfl qq68 rfl rfl ?_)
                iterate 3 (refine r_off2 rfl rfl rfl rfl rfl rfl ?_)
                refine r_off rfl rfl rfl rfl qq68 rfl rfl ?_
                refine rp rfl rfl (p_pkf rfl rfl qq68 (tb (decide_eq_false (p := ((((r'10 = true) ∧ (c0.Owner ≥ (0 : Int))) ∧ (c0.Drawer ≥ (0 : Int))) ∧ (c0.To ≥ (0 : Int))) ∧ ((c0.Right = (1 : Int)) ∨ (c0.Right = (2 : Int)))) (fun x => (fun h => (fun h => (fun h => h89 h.1) h.1) h.1) x.1)).symm)) ?_
                refine rp rfl rfl (p_move rfl rfl) ?_
                have qq69 := decide_eq_false (p := ((((r'10 = true) ∧ (c0.Owner ≥ (0 : Int))) ∧ (c0.Drawer ≥ (0 : Int))) ∧ (c0.To ≥ (0 : Int))) ∧ ((c0.Right = (1 : Int)) ∨ (c0.Right = (2 : Int)))) (fun h => (fun h => (fun h => (fun h => h89 h.1) h.1) h.1) h.1)
                iterate 4 (refine r_off rfl rfl rfl rfl qq69 rfl rfl ?_)
                iterate 3 (refine r_off2 rfl rfl rfl rfl rfl rfl ?_)
                refine r_off rfl rfl rfl rfl qq69 rfl rfl ?_
                refine rp rfl rfl (p_pkf rfl rfl qq69 (tb (decide_eq_false (p := (((((r'10 = true) ∧ (c0.Owner ≥ (0 : Int))) ∧ (c0.Drawer ≥ (0 : Int))) ∧ (c0.To ≥ (0 : Int))) ∧ ((c0.Right = (1 : Int)) ∨ (c0.Right = (2 : Int)))) ∧ ((c0.Kind = (6 : Int)) ∨ ((!c0.Option_) = true))) (fun x => (fun h => (fun h => (fun h => (fun h => h89 h.1) h.1) h.1) h.1) x.1)).symm)) ?_
                refine rp rfl rfl (p_asg rfl rfl) ?_
                refine rs [(1, .q 1 (0)), (5, .b (decide ((((((r'10 = true) ∧ (c0.Owner ≥ (0 : Int))) ∧ (c0.Drawer ≥ (0 : Int))) ∧ (c0.To ≥ (0 : Int))) ∧ ((c0.Right = (1 : Int)) ∨ (c0.Right = (2 : Int)))) ∧ ((c0.Kind = (6 : Int)) ∨ ((!c0.Option_) = true)))))] [(1, .pure (GCommand.cs c0))] rfl rfl rfl ?_
                exact RunW_nil rfl
              ·refine gen1 (fun ok5'44 => (⟨[(1, .q 1 (0)), (5, .b ok5'44)], [(1, .pure (GCommand.cs c0))], 286⟩ : TS)) H ?_
               intro ok5'44 H
               refine AW2_reg [0, 1, 2, 3, 4, 5] rfl ?_
               refine rp rfl rfl (u_fa rfl rfl Tryd.underlying43 rfl in_3 (Nat.succ_ne_zero _) rfl rfl (ne_of_lt (n := 0) (Nat.lt_of_lt_of_eq (by decide) (Eq.symm (GCommand.len c0))))) ?_
               refine r_op rfl rfl (u_st rfl rfl rfl rfl rfl in_3 rfl (ne_of_lt (n := 0) (Nat.lt_of_lt_of_eq (by decide) (Eq.symm (GCommand.len c0)))) (Upd.trans (Sub.refl _) (GCommand.upd9 c0 (0 : Int)) (Upd.refl ((GCommand.len ((GCommand.w9 c0 (0 : Int)))).trans (GCommand.len c0).symm)))) ?_
               refine rp rfl rfl (u_fa rfl rfl Tryd.underlying43 rfl in_3 (Nat.succ_ne_zero _) rfl rfl (ne_of_lt (n := 0) (Nat.lt_of_lt_of_eq (by decide) (Eq.symm (GCommand.len ((GCommand.w9 c0 (0 : Int)))))))) ?_
               refine r_op rfl rfl (u_st rfl rfl rfl rfl rfl in_3 rfl (ne_of_lt (n := 0) (Nat.lt_of_lt_of_eq (by decide) (Eq.symm (GCommand.len ((GCommand.w9 c0 (0 : Int))))))) (Upd.trans (Sub.refl _) (GCommand.upd10 ((GCommand.w9 c0 (0 : Int))) (0 : Int)) (Upd.refl ((GCommand.len ((GCommand.w10 (GCommand.w9 c0 (0 : Int)) (0 : Int)))).trans (GCommand.len ((GCommand.w9 c0 (0 : Int)))).symm)))) ?_
               refine rp rfl rfl (u_fa rfl rfl Tryd.underlying43 rfl in_4 (Nat.succ_ne_zero _) rfl rfl (ne_of_lt (n := 0) (Nat.lt_of_lt_of_eq (by decide) (Eq.symm (GCommand.len ((GCommand.w10 (GCommand.w9 c0 (0 : Int)) (0 : Int)))))))) ?_
               refine r_op rfl rfl (u_st rfl rfl rfl rfl rfl in_4 rfl (ne_of_lt (n := 0) (Nat.lt_of_lt_of_eq (by decide) (Eq.symm (GCommand.len ((GCommand.w10 (GCommand.w9 c0 (0 : Int)) (0 : Int))))))) (Upd.trans (Sub.refl _) (GCommand.upd11 ((GCommand.w10 (GCommand.w9 c0 (0 : Int)) (0 : Int))) false) (Upd.refl ((GCommand.len ((GCommand.w11 (GCommand.w10 (GCommand.w9 c0 (0 : Int)) (0 : Int)) false))).trans (GCommand.len ((GCommand.w10 (GCommand.w9 c0 (0 : Int)) (0 : Int)))).symm)))) ?_
               refine rz [(1, .q 1 (0)), (5, .b ok5'44)] [(1, .pure (GCommand.cs ((GCommand.w11 (GCommand.w10 (GCommand.w9 c0 (0 : Int)) (0 : Int)) false))))] rfl rfl rfl ?_
               refine gen1 (fun c1'45 => (⟨[(1, .q 1 (0)), (5, .b ok5'44)], [(1, .pure (GCommand.cs c1'45))], 286⟩ : TS)) H ?_
               intro c1'45 H
               have hz := some_elim H
               subst hz
               exact rfl
        ·refine AW2_seq ?_
         refine AW2_seq ?_
         refine bindK H fun g'49 h108 H => ?_
         refine AW2_mid (⟨[(285, .b g'49)], [], 286⟩ : TS) ?_ ?_
         ·clear H
          have H := h108
          clear h108
          refine AW2_reg [0, 1, 2, 3, 4, 5, 6, 7, 8, 9, 10, 11, 12, 13, 14, 15, 16, 17, 18, 19, 20, 21, 22, 23, 24, 25, 26, 27, 28, 29, 30, 31, 32, 33, 34, 35, 36, 37, 38, 39, 40, 41, 42, 43, 44, 45] rfl ?_
          refine rp rfl rfl (p_move rfl rfl) ?_
          refine rp rfl rfl (p_not rfl rfl) ?_
          refine rp rfl rfl (p_move rfl rfl) ?_
          refine (Classical.em ((!j'11.1) = true)).elim (fun h98 => ?_) (fun h98 => ?_)
          ·replace H := ite_then h98 H
           iterate 4 (refine r_off rfl rfl rfl rfl h98 rfl rfl ?_)
           refine rp rfl rfl (p_pkt rfl rfl h98 (.same _)) ?_
           refine rp rfl rfl (p_move rfl rfl) ?_
           iterate 4 (refine r_off rfl rfl rfl rfl rfl rfl rfl ?_)
           refine rp rfl rfl (p_pkt rfl rfl rfl (.same _)) ?_
           refine rp rfl rfl (p_move rfl rfl) ?_
           iterate 4 (refine r_off rfl rfl rfl rfl rfl rfl rfl ?_)
           refine rp rfl rfl (p_pkt rfl rfl rfl (.same _)) ?_
           refine rp rfl rfl (p_move rfl rfl) ?_
           iterate 4 (refine r_off rfl rfl rfl rfl rfl rfl rfl ?_)
           refine rp rfl rfl (p_pkt rfl rfl rfl (.same _)) ?_
           refine rp rfl rfl (p_move rfl rfl) ?_
           iterate 4 (refine r_off rfl rfl rfl rfl rfl rfl rfl ?_)
           refine rp rfl rfl (p_pkt rfl rfl rfl (.same _)) ?_
           refine rp rfl rfl (p_move rfl rfl) ?_
           iterate 3 (refine r_off rfl rfl rfl rfl rfl rfl rfl ?_)
           refine rp rfl rfl (p_pkt rfl rfl rfl (.same _)) ?_
           refine rp rfl rfl (p_move rfl rfl) ?_
           iterate 3 (refine r_off rfl rfl rfl rfl rfl rfl rfl ?_)
           refine rp rfl rfl (p_pkt rfl rfl rfl (.same _)) ?_
           refine rp rfl rfl (p_move rfl rfl) ?_
           iterate 2 (refine r_off rfl rfl rfl rfl rfl rfl rfl ?_)
           refine rp rfl rfl (p_pkt rfl rfl rfl (.same _)) ?_
           refine rs [(285, .b true)] [] rfl rfl rfl ?_
           have hz := some_elim H
           subst hz
           exact RunW_nil rfl
          ·replace H := ite_else h98 H
           refine r_on rfl rfl rfl rfl (bfalse h98) rfl (PureD.opD (u_fa rfl rfl Tryd.underlying43 rfl in_28 (Nat.succ_ne_zero _) rfl rfl (ne_of_lt (n := 0) (Nat.lt_of_lt_of_eq (by decide) (Eq.symm (GCommand.len j'11.2)))))) ?_
           refine r_on rfl rfl rfl rfl (bfalse h98) rfl (PureD.opD (u_ld rfl rfl Tryd.underlying28 rfl rfl ((Sub.refl _).trans (GCommand.sub4 j'11.2)))) ?_
           refine r_on rfl rfl rfl rfl (bfalse h98) rfl (PureD.opD (p_lenl rfl Tryd.underlying28 rfl rfl)) ?_
           refine r_on rfl rfl rfl rfl (bfalse h98) rfl (PureD.opD (p_bin rfl rfl rfl rfl)) ?_
           refine rp rfl rfl (p_pkf rfl rfl (bfalse h98) (.same _)) ?_
           refine rp rfl rfl (p_move rfl rfl) ?_
           refine (Classical.em ((j'11.2.Cols.length : Int) > (0 : Int))).elim (fun h99 => ?_) (fun h99 => ?_)
           ·replace H := ite_then h99 H
            iterate 4 (refine r_off rfl rfl rfl rfl (decide_eq_true h99) rfl rfl ?_)
            refine rp rfl rfl (p_pkt rfl rfl (decide_eq_true h99) (.same _)) ?_
            refine rp rfl rfl (p_move rfl rfl) ?_
            iterate 4 (refine r_off rfl rfl rfl rfl rfl rfl rfl ?_)
            refine rp rfl rfl (p_pkt rfl rfl rfl (.same _)) ?_
            refine rp rfl rfl (p_move rfl rfl) ?_
            iterate 4 (refine r_off rfl rfl rfl rfl rfl rfl rfl ?_)
            refine rp rfl rfl (p_pkt rfl rfl rfl (.same _)) ?_
            refine rp rfl rfl (p_move rfl rfl) ?_
            iterate 4 (refine r_off rfl rfl rfl rfl rfl rfl rfl ?_)
            refine rp rfl rfl (p_pkt rfl rfl rfl (.same _)) ?_
            refine rp rfl rfl (p_move rfl rfl) ?_
            iterate 3 (refine r_off rfl rfl rfl rfl rfl rfl rfl ?_)
            refine rp rfl rfl (p_pkt rfl rfl rfl (.same _)) ?_
            refine rp rfl rfl (p_move rfl rfl) ?_
            iterate 3 (refine r_off rfl rfl rfl rfl rfl rfl rfl ?_)
            refine rp rfl rfl (p_pkt rfl rfl rfl (.same _)) ?_
            refine rp rfl rfl (p_move rfl rfl) ?_
            iterate 2 (refine r_off rfl rfl rfl rfl rfl rfl rfl ?_)
            refine rp rfl rfl (p_pkt rfl rfl rfl (.same _)) ?_
            refine rs [(285, .b true)] [] rfl rfl rfl ?_
            have hz := some_elim H
            subst hz
            exact RunW_nil rfl
           ·replace H := ite_else h99 H
            refine r_on rfl rfl rfl rfl (decide_eq_false h99) rfl (PureD.opD (u_fa rfl rfl Tryd.underlying43 rfl in_40 (Nat.succ_ne_zero _) rfl rfl (ne_of_lt (n := 0) (Nat.lt_of_lt_of_eq (by decide) (Eq.symm (GCommand.len j'11.2)))))) ?_
            refine r_on rfl rfl rfl rfl (decide_eq_false h99) rfl (PureD.opD (u_ld rfl rfl Tryd.underlying40 rfl rfl ((Sub.refl _).trans (GCommand.sub5 j'11.2)))) ?_
            refine r_on rfl rfl rfl rfl (decide_eq_false h99) rfl (PureD.opD (p_lenl rfl Tryd.underlying40 rfl rfl)) ?_
            refine r_on rfl rfl rfl rfl (decide_eq_false h99) rfl (PureD.opD (p_bin rfl rfl rfl rfl)) ?_
            refine rp rfl rfl (p_pkf rfl rfl (decide_eq_false h99) (.same _)) ?_
            refine rp rfl rfl (p_move rfl rfl) ?_
            refine (Classical.em ((j'11.2.Row.length : Int) > (0 : Int))).elim (fun h100 => ?_) (fun h100 => ?_)
            ·replace H := ite_then h100 H
             iterate 4 (refine r_off rfl rfl rfl rfl (decide_eq_true h100) rfl rfl ?_)
             refine rp rfl rfl (p_pkt rfl rfl (decide_eq_true h100) (.same _)) ?_
             refine rp rfl rfl (p_move rfl rfl) ?_
             iterate 4 (refine r_off rfl rfl rfl rfl rfl rfl rfl ?_)
             refine rp rfl rfl (p_pkt rfl rfl rfl (.same _)) ?_
             refine rp rfl rfl (p_move rfl rfl) ?_
             iterate 4 (refine r_off rfl rfl rfl rfl rfl rfl rfl ?_)
             refine rp rfl rfl (p_pkt rfl rfl rfl (.same _)) ?_
             refine rp rfl rfl (p_move rfl rfl) ?_
             iterate 3 (refine r_off rfl rfl rfl rfl rfl rfl rfl ?_)
             refine rp rfl rfl (p_pkt rfl rfl rfl (.same _)) ?_
             refine rp rfl rfl (p_move rfl rfl) ?_
             iterate 3 (refine r_off rfl rfl rfl rfl rfl rfl rfl ?_)
             refine rp rfl rfl (p_pkt rfl rfl rfl (.same _)) ?_
             refine rp rfl rfl (p_move rfl rfl) ?_
             iterate 2 (refine r_off rfl rfl rfl rfl rfl rfl rfl ?_)
             refine rp rfl rfl (p_pkt rfl rfl rfl (.same _)) ?_
             refine rs [(285, .b true)] [] rfl rfl rfl ?_
             have hz := some_elim H
             subst hz
             exact RunW_nil rfl
            ·replace H := ite_else h100 H
             refine r_on rfl rfl rfl rfl (decide_eq_false h100) rfl (PureD.opD (u_fa rfl rfl Tryd.underlying43 rfl in_41 (Nat.succ_ne_zero _) rfl rfl (ne_of_lt (n := 0) (Nat.lt_of_lt_of_eq (by decide) (Eq.symm (GCommand.len j'11.2)))))) ?_
             refine r_on rfl rfl rfl rfl (decide_eq_false h100) rfl (PureD.opD (u_ld rfl rfl Tryd.underlying41 rfl rfl ((Sub.refl _).trans (GCommand.sub6 j'11.2)))) ?_
             refine r_on rfl rfl rfl rfl (decide_eq_false h100) rfl (PureD.opD (p_lenl rfl Tryd.underlying41 rfl rfl)) ?_
             refine r_on rfl rfl rfl rfl (decide_eq_false h100) rfl (PureD.opD (p_bin rfl rfl rfl rfl)) ?_
             refine rp rfl rfl (p_pkf rfl rfl (decide_eq_false h100) (.same _)) ?_
             refine rp rfl rfl (p_move rfl rfl) ?_
             refine (Classical.em ((j'11.2.Sets.length : Int) > (0 : Int))).elim (fun h101 => ?_) (fun h101 => ?_)
             ·replace H := ite_then h101 H
              iterate 4 (refine r_off rfl rfl rfl rfl (decide_eq_true h101) rfl rfl ?_)
              refine rp rfl rfl (p_pkt rfl rfl (decide_eq_true h101) (.same _)) ?_
              refine rp rfl rfl (p_move rfl rfl) ?_
              iterate 4 (refine r_off rfl rfl rfl rfl rfl rfl rfl ?_)
              refine rp rfl rfl (p_pkt rfl rfl rfl (.same _)) ?_
              refine rp rfl rfl (p_move rfl rfl) ?_
              iterate 3 (refine r_off rfl rfl rfl rfl rfl rfl rfl ?_)
              refine rp rfl rfl (p_pkt rfl rfl rfl (.same _)) ?_
              refine rp rfl rfl (p_move rfl rfl) ?_
              iterate 3 (refine r_off rfl rfl rfl rfl rfl rfl rfl ?_)
              refine rp rfl rfl (p_pkt rfl rfl rfl (.same _)) ?_
              refine rp rfl rfl (p_move rfl rfl) ?_
              iterate 2 (refine r_off rfl rfl rfl rfl rfl rfl rfl ?_)
              refine rp rfl rfl (p_pkt rfl rfl rfl (.same _)) ?_
              refine rs [(285, .b true)] [] rfl rfl rfl ?_
              have hz := some_elim H
              subst hz
              exact RunW_nil rfl
             ·replace H := ite_else h101 H
              refine r_on rfl rfl rfl rfl (decide_eq_false h101) rfl (PureD.opD (u_fa rfl rfl Tryd.underlying43 rfl in_27 (Nat.succ_ne_zero _) rfl rfl (ne_of_lt (n := 0) (Nat.lt_of_lt_of_eq (by decide) (Eq.symm (GCommand.len j'11.2)))))) ?_
              refine r_on rfl rfl rfl rfl (decide_eq_false h101) rfl (PureD.opD (u_lda rfl rfl Tryd.underlying27 rfl in_27 rfl (Nat.succ_pos _) ((Sub.refl _).trans (GCommand.sub7 j'11.2)) (GExpr.len j'11.2.Where))) ?_
              refine bindK H fun r'47 h102 H => ?_
              refine r_on rfl rfl rfl rfl (decide_eq_false h101) rfl (PureD.opD (p_callp rfl rfl rfl Tryd.func25 rfl rfl (g_ref_noExpr_ac h102) ⟨rfl, trivial⟩)) ?_
              refine r_on rfl rfl rfl rfl (decide_eq_false h101) rfl (PureD.opD (p_not rfl rfl)) ?_
              refine rp rfl rfl (p_pkf rfl rfl (decide_eq_false h101) (.same _)) ?_
              refine rp rfl rfl (p_move rfl rfl) ?_
              refine (Classical.em ((!r'47) = true)).elim (fun h103 => ?_) (fun h103 => ?_)
              ·replace H := ite_then h103 H
               iterate 4 (refine r_off rfl rfl rfl rfl h103 rfl rfl ?_)
               refine rp rfl rfl (p_pkt rfl rfl h103 (.same _)) ?_
               refine rp rfl rfl (p_move rfl rfl) ?_
               iterate 3 (refine r_off rfl rfl rfl rfl rfl rfl rfl ?_)
               refine rp rfl rfl (p_pkt rfl rfl rfl (.same _)) ?_
               refine rp rfl rfl (p_move rfl rfl) ?_
               iterate 3 (refine r_off rfl rfl rfl rfl rfl rfl rfl ?_)
               refine rp rfl rfl (p_pkt rfl rfl rfl (.same _)) ?_
               refine rp rfl rfl (p_move rfl rfl) ?_
               iterate 2 (refine r_off rfl rfl rfl rfl rfl rfl rfl ?_)
               refine rp rfl rfl (p_pkt rfl rfl rfl (.same _)) ?_
               refine rs [(285, .b true)] [] rfl rfl rfl ?_
               have hz := some_elim H
               subst hz
               exact RunW_nil rfl
              ·replace H := ite_else h103 H
               refine r_on rfl rfl rfl rfl (bfalse h103) rfl (PureD.opD (u_fa rfl rfl Tryd.underlying43 rfl in_37 (Nat.succ_ne_zero _) rfl rfl (ne_of_lt (n := 0) (Nat.lt_of_lt_of_eq (by decide) (Eq.symm (GCommand.len j'11.2)))))) ?_
               refine r_on rfl rfl rfl rfl (bfalse h103) rfl (PureD.opD (u_lda rfl rfl Tryd.underlying37 rfl in_37 rfl (Nat.succ_pos _) ((Sub.refl _).trans (GCommand.sub8 j'11.2)) (GQuery.len j'11.2.Query))) ?_
               refine bindK H fun r'48 h104 H => ?_
               refine r_on rfl rfl rfl rfl (bfalse h103) rfl (PureD.opD (p_callp rfl rfl rfl Tryd.func38 rfl rfl (g_ref_noQuery_ac h104) ⟨rfl, trivial⟩)) ?_
               refine r_on rfl rfl rfl rfl (bfalse h103) rfl (PureD.opD (p_not rfl rfl)) ?_
               refine rp rfl rfl (p_pkf rfl rfl (bfalse h103) (.same _)) ?_
               refine rp rfl rfl (p_move rfl rfl) ?_
               refine (Classical.em ((!r'48) = true)).elim (fun h105 => ?_) (fun h105 => ?_)
               ·replace H := ite_then h105 H
                iterate 3 (refine r_off rfl rfl rfl rfl h105 rfl rfl ?_)
                refine rp rfl rfl (p_pkt rfl rfl h105 (.same _)) ?_
                refine rp rfl rfl (p_move rfl rfl) ?_
                iterate 3 (refine r_off rfl rfl rfl rfl rfl rfl rfl ?_)
                refine rp rfl rfl (p_pkt rfl rfl rfl (.same _)) ?_
                refine rp rfl rfl (p_move rfl rfl) ?_
                iterate 2 (refine r_off rfl rfl rfl rfl rfl rfl rfl ?_)
                refine rp rfl rfl (p_pkt rfl rfl rfl (.same _)) ?_
                refine rs [(285, .b true)] [] rfl rfl rfl ?_
                have hz := some_elim H
                subst hz
                exact RunW_nil rfl
               ·replace H := ite_else h105 H
                refine r_on rfl rfl rfl rfl (bfalse h105) rfl (PureD.opD (u_fa rfl rfl Tryd.underlying43 rfl in_3 (Nat.succ_ne_zero _) rfl rfl (ne_of_lt (n := 0) (Nat.lt_of_lt_of_eq (by decide) (Eq.symm (GCommand.len j'11.2)))))) ?_
                refine r_on rfl rfl rfl rfl (bfalse h105) rfl (PureD.opD (u_ld rfl rfl Tryd.underlying3 rfl rfl ((Sub.refl _).trans (GCommand.sub9 j'11.2)))) ?_
                refine r_on rfl rfl rfl rfl (bfalse h105) rfl (PureD.opD (p_ine rfl rfl rfl)) ?_
                refine rp rfl rfl (p_pkf rfl rfl (bfalse h105) (.same _)) ?_
                refine rp rfl rfl (p_move rfl rfl) ?_
                refine (Classical.em (j'11.2.To ≠ (0 : Int))).elim (fun h106 => ?_) (fun h106 => ?_)
                ·replace H := ite_then h106 H
                 iterate 3 (refine r_off rfl rfl rfl rfl (decide_eq_true h106) rfl rfl ?_)
                 refine rp rfl rfl (p_pkt rfl rfl (decide_eq_true h106) (.same _)) ?_
                 refine rp rfl rfl (p_move rfl rfl) ?_
                 iterate 2 (refine r_off rfl rfl rfl rfl rfl rfl rfl ?_)
                 refine rp rfl rfl (p_pkt rfl rfl rfl (.same _)) ?_
                 refine rs [(285, .b true)] [] rfl rfl rfl ?_
                 have hz := some_elim H
                 subst hz
                 exact RunW_nil rfl
                ·replace H := ite_else h106 H
                 refine r_on rfl rfl rfl rfl (decide_eq_false h106) rfl (PureD.opD (u_fa rfl rfl Tryd.underlying43 rfl in_3 (Nat.succ_ne_zero _) rfl rfl (ne_of_lt (n := 0) (Nat.lt_of_lt_of_eq (by decide) (Eq.symm (GCommand.len j'11.2)))))) ?_
                 refine r_on rfl rfl rfl rfl (decide_eq_false h106) rfl (PureD.opD (u_ld rfl rfl Tryd.underlying3 rfl rfl ((Sub.refl _).trans (GCommand.sub10 j'11.2)))) ?_
                 refine r_on rfl rfl rfl rfl (decide_eq_false h106) rfl (PureD.opD (p_ine rfl rfl rfl)) ?_
                 refine rp rfl rfl (p_pkf rfl rfl (decide_eq_false h106) (.same _)) ?_
                 refine rp rfl rfl (p_move rfl rfl) ?_
                 refine (Classical.em (j'11.2.Right ≠ (0 : Int))).elim (fun h107 => ?_) (fun h107 => ?_)
                 ·replace H := ite_then h107 H
                  iterate 2 (refine r_off rfl rfl rfl rfl (decide_eq_true h107) rfl rfl ?_)
                  refine rp rfl rfl (p_pkt rfl rfl (decide_eq_true h107) (.same _)) ?_
                  refine rs [(285, .b true)] [] rfl rfl rfl ?_
                  have hz := some_elim H
                  subst hz
                  exact RunW_nil rfl
                 ·replace H := ite_else h107 H
                  refine r_on rfl rfl rfl rfl (decide_eq_false h107) rfl (PureD.opD (u_fa rfl rfl Tryd.underlying43 rfl in_4 (Nat.succ_ne_zero _) rfl rfl (ne_of_lt (n := 0) (Nat.lt_of_lt_of_eq (by decide) (Eq.symm (GCommand.len j'11.2)))))) ?_
                  refine r_on rfl rfl rfl rfl (decide_eq_false h107) rfl (PureD.opD (u_ld rfl rfl Tryd.underlying4 rfl rfl ((Sub.refl _).trans (GCommand.sub11 j'11.2)))) ?_
                  refine rp rfl rfl (p_pkf rfl rfl (decide_eq_false h107) (.same _)) ?_
                  refine rs [(285, .b j'11.2.Option_)] [] rfl rfl rfl ?_
                  have hz := some_elim H
                  subst hz
                  exact RunW_nil rfl
         ·refine AW2_cond rfl (fun h109 => ?_) (fun h109 => ?_)
          ·replace H := ite_then h109 H
           refine sg [0] rfl ?_
           refine rp rfl rfl (p_asg rfl rfl) ?_
           refine rz [(2, .i (3 : Int))] [] rfl rfl rfl ?_
           refine AW2_ret ?_
           have hz := some_elim H
           subst hz
           exact ⟨⟨res_tmp (.same _), trivial⟩, trivial⟩
          ·replace H := ite_else (ne_true h109) H
           refine as2 [] [] rfl rfl rfl ?_
           refine AW2_skip ?_
           refine sg [0] rfl ?_
           refine rp rfl rfl (p_asg rfl rfl) ?_
           refine rz [(2, .i (0 : Int))] [] rfl rfl rfl ?_
           refine AW2_ret ?_
           have hz := some_elim H
           subst hz
           exact ⟨⟨res_tmp (.same _), trivial⟩, trivial⟩
end Go.Proofs.YtcahembojhmpbaaDoor.VM
