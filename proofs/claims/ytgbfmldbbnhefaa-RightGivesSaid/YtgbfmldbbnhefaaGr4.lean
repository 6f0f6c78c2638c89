/- Functions of the program, as they answer, and that their code comes to these answers. -/
import Derived.Test.YtgbfmldbbnhefaaGr3
namespace Go.Proofs.Ytgbfmldbbnhefaa.VM
open Go Go.RowKit



/-! chirographref.Stands -/
noncomputable def g_ref_Stands_l0 (l0 : List GGrant) : Int × (List GGrant) → Option ((Int × (List GGrant)) ⊕ (((List GGrant))))
  | (t8_0, out3_0) => (if t8_0 < (l0.length : Int) then (if 0 ≤ t8_0 ∧ t8_0 < (l0.length : Int) then (g_ref_Reached l0 ((lrd l0 t8_0.toNat).From) ((lrd l0 t8_0.toNat).Object) ((lrd l0 t8_0.toNat).Right)).bind fun r'2 => (if r'2 = true then if room (out3_0.length + ([(lrd l0 t8_0.toNat)] : List GGrant).length) 40 then some (out3_0 ++ ([(lrd l0 t8_0.toNat)] : List GGrant)) else none else some out3_0) else none).bind fun j'1 => some (.inl (w64 (t8_0 + (1 : Int)), j'1)) else some (.inr out3_0))
noncomputable def g_ref_Stands (l0 : List GGrant) : Option ((List GGrant)) :=
  (loopO (g_ref_Stands_l0 l0) ((0 : Int), ([] : List GGrant))).bind fun y'6 => some y'6
set_option maxHeartbeats 4000000 in
set_option maxRecDepth 100000 in
theorem g_ref_Stands_ac {l0 : List GGrant} {r : (List GGrant)} (H : g_ref_Stands l0 = some r) : ACp Try.prog 25 [((fun q : List GGrant => AV.lst (q.flatMap GGrant.cs) q.length) l0)] ((fun q : List GGrant => AV.lst (q.flatMap GGrant.cs) q.length) r) := by
  refine ACp_of (AC2_of_body (vs := [.c (.p ((fun q : List GGrant => AV.lst (q.flatMap GGrant.cs) q.length) r))]) Try.func25 rfl rfl (Nat.le_of_ble_eq_true rfl) rfl ?_) (fun _ => .same _)
  unfold g_ref_Stands at H
  refine AW2_st [(0, .c (.p ((fun q : List GGrant => AV.lst (q.flatMap GGrant.cs) q.length) l0)))] [] rfl ⟨TLes.same _, trivial⟩ trivial ?_
  refine AW2_seq ?_
  refine AW2_reg [0] rfl ?_
  refine r_op rfl rfl (PureD.opD (p_asgn rfl)) ?_
  refine RunW_st [(0, .c (.p ((fun q : List GGrant => AV.lst (q.flatMap GGrant.cs) q.length) l0)))] [] rfl ⟨TLes.same _, trivial⟩ trivial ?_
  refine RunW_nil ?_
  refine AW2_seq ?_
  refine AW2_reg [0] rfl ?_
  refine r_op rfl rfl (PureD.opD (p_asgn rfl)) ?_
  refine RunW_st [(0, .c (.p ((fun q : List GGrant => AV.lst (q.flatMap GGrant.cs) q.length) l0))), (3, .c (.p .nil))] [] rfl ⟨TLes.same _, TLes.same _, trivial⟩ trivial ?_
  refine RunW_nil ?_
  refine AW2_seq ?_
  refine AW2_seq ?_
  refine AW2_reg [0, 1, 2] rfl ?_
  refine r_op rfl rfl (PureD.opD (p_move rfl rfl)) ?_
  refine r_op rfl rfl (PureD.opD (p_lenl rfl Try.underlying22 rfl rfl)) ?_
  refine r_op rfl rfl (PureD.opD (p_move rfl rfl)) ?_
  refine RunW_st [(0, .c (.p ((fun q : List GGrant => AV.lst (q.flatMap GGrant.cs) q.length) l0))), (3, .c (.p .nil)), (6, .c (.p ((fun q : List GGrant => AV.lst (q.flatMap GGrant.cs) q.length) l0))), (7, .c (.p (AV.int (l0.length : Int)))), (8, .c (.p (AV.int (0 : Int))))] [] rfl ⟨TLes.same _, TLes.same _, TLes.same _, TLes.same _, TLes.same _, trivial⟩ trivial ?_
  refine RunW_nil ?_
  refine AW2_block ?_
  refine AW2_st [(0, .c (.p ((fun q : List GGrant => AV.lst (q.flatMap GGrant.cs) q.length) l0))), (3, .c (.p .nil)), (6, .c (.p ((fun q : List GGrant => AV.lst (q.flatMap GGrant.cs) q.length) l0))), (7, .c (.p (AV.int (l0.length : Int)))), (8, .c (.p (AV.int (0 : Int))))] [] rfl ⟨TLes.same _, TLes.same _, TLes.same _, TLes.same _, TLes.same _, trivial⟩ trivial ?_
  refine AW2_gho (Gho_own (d := 3) (b := 3) (z := 5) rfl rfl rfl rfl) ?_
  refine AW2_st [(0, .c (.p ((fun q : List GGrant => AV.lst (q.flatMap GGrant.cs) q.length) l0))), (3, .c (.own 3 ([] : List GGrant).length 5)), (6, .c (.p ((fun q : List GGrant => AV.lst (q.flatMap GGrant.cs) q.length) l0))), (7, .c (.p (AV.int (l0.length : Int)))), (8, .c (.p (AV.int (0 : Int))))] [(3, .pure (([] : List GGrant).flatMap GGrant.cs))] rfl ⟨TLes.same _, TLes.own rfl, TLes.same _, TLes.same _, TLes.same _, trivial⟩ ⟨rfl, trivial⟩ ?_
  refine bindK H fun y'6 h7 H => ?_
  refine AW2_loopO (fun a'3 : Int × (List GGrant) => (⟨[(0, .c (.p ((fun q : List GGrant => AV.lst (q.flatMap GGrant.cs) q.length) l0))), (3, .c (.own 3 a'3.2.length 5)), (6, .c (.p ((fun q : List GGrant => AV.lst (q.flatMap GGrant.cs) q.length) l0))), (7, .c (.p (AV.int (l0.length : Int)))), (8, .c (.p (AV.int a'3.1)))], [(3, .pure (a'3.2.flatMap GGrant.cs))], 26⟩ : TS)) (fun (y'4 : ((List GGrant))) e s' => e = Go.Exit.exit 0 ∧ s' = (⟨[(3, .c (.own 3 y'4.length 5))], [(3, .pure (y'4.flatMap GGrant.cs))], 26⟩ : TS)) h7 rfl (fun a x hx => ?_) (fun e s' hs => ?_)
  · clear H
    obtain ⟨t8_0, out3_0⟩ := a
    have H := hx
    clear hx
    unfold g_ref_Stands_l0 at H
    refine AW2_seq ?_
    refine AW2_reg [0] rfl ?_
    refine r_op rfl rfl (PureD.opD (p_bin rfl rfl rfl rfl)) ?_
    refine RunW_st [(0, .c (.p ((fun q : List GGrant => AV.lst (q.flatMap GGrant.cs) q.length) l0))), (3, .c (.own 3 out3_0.length 5)), (6, .c (.p ((fun q : List GGrant => AV.lst (q.flatMap GGrant.cs) q.length) l0))), (7, .c (.p (AV.int (l0.length : Int)))), (8, .c (.p (AV.int t8_0))), (9, .c (.p (.bool (decide (t8_0 < (l0.length : Int))))))] [(3, .pure (out3_0.flatMap GGrant.cs))] rfl ⟨TLes.same _, TLes.same _, TLes.same _, TLes.same _, TLes.same _, TLes.same _, trivial⟩ ⟨rfl, trivial⟩ ?_
    refine RunW_nil ?_
    refine AW2_seq ?_
    refine AW2_if (p := t8_0 < (l0.length : Int)) rfl (fun h1 => ?_) (fun h1 => ?_)
    · replace H := ite_then h1 H
      refine AW2_st [(0, .c (.p ((fun q : List GGrant => AV.lst (q.flatMap GGrant.cs) q.length) l0))), (3, .c (.own 3 out3_0.length 5)), (6, .c (.p ((fun q : List GGrant => AV.lst (q.flatMap GGrant.cs) q.length) l0))), (7, .c (.p (AV.int (l0.length : Int)))), (8, .c (.p (AV.int t8_0)))] [(3, .pure (out3_0.flatMap GGrant.cs))] rfl ⟨TLes.same _, TLes.same _, TLes.same _, TLes.same _, TLes.same _, trivial⟩ ⟨rfl, trivial⟩ ?_
      refine AW2_skip ?_
      refine AW2_seq ?_
      refine bindK H fun j'1 h2 H => ?_
      refine AW2_mid (⟨[(0, .c (.p ((fun q : List GGrant => AV.lst (q.flatMap GGrant.cs) q.length) l0))), (3, .c (.own 3 j'1.length 5)), (6, .c (.p ((fun q : List GGrant => AV.lst (q.flatMap GGrant.cs) q.length) l0))), (7, .c (.p (AV.int (l0.length : Int)))), (8, .c (.p (AV.int t8_0)))], [(3, .pure (j'1.flatMap GGrant.cs))], 26⟩ : TS) ?_ ?_
      · clear H
        have H := h2
        clear h2
        refine AW2_block ?_
        refine AW2_seq ?_
        refine AW2_reg [0, 1, 2, 3] rfl ?_
        refine chkK H fun h3 H => ?_
        refine r_op rfl rfl (PureD.opD (u_ixl rfl rfl Try.underlying22 in_27 rfl rfl (ixe h3) (ixn h3) (fne (fun x => (GGrant.len x)) (by decide) (ixn h3)))) ?_
        refine r_op rfl rfl (PureD.opD (u_lda rfl rfl Try.underlying27 rfl in_27 rfl (Nat.succ_pos _) (Sub.fm default (fun x => (GGrant.len x)) (ixn h3)) (GGrant.len (lrd l0 t8_0.toNat)))) ?_
        refine r_op rfl rfl (MakeD.opD (u_alloc 5 rfl in_27 one_27 zc_27) rfl rfl rfl rfl) ?_
        refine r_op rfl rfl (u_st rfl rfl rfl rfl rfl in_27 (GGrant.len (lrd l0 t8_0.toNat)) (ne_of_lt (n := 0) (Nat.lt_of_lt_of_eq (by decide) (Eq.symm (GGrant.len GGrant.zero)))) (Upd.refl ((GGrant.len (lrd l0 t8_0.toNat)).trans (GGrant.len GGrant.zero).symm))) ?_
        refine RunW_st [(0, .c (.p ((fun q : List GGrant => AV.lst (q.flatMap GGrant.cs) q.length) l0))), (3, .c (.own 3 out3_0.length 5)), (5, .c (.ptr 5 (0))), (6, .c (.p ((fun q : List GGrant => AV.lst (q.flatMap GGrant.cs) q.length) l0))), (7, .c (.p (AV.int (l0.length : Int)))), (8, .c (.p (AV.int t8_0)))] [(3, .pure (out3_0.flatMap GGrant.cs)), (5, .pure (GGrant.cs (lrd l0 t8_0.toNat)))] rfl ⟨TLes.same _, TLes.same _, TLes.same _, TLes.same _, TLes.same _, TLes.same _, trivial⟩ ⟨rfl, rfl, trivial⟩ ?_
        refine RunW_nil ?_
        refine AW2_seq ?_
        refine AW2_reg [0, 1, 2, 3, 4, 5, 6, 7] rfl ?_
        refine r_op rfl rfl (PureD.opD (p_move rfl rfl)) ?_
        refine r_op rfl rfl (PureD.opD (u_fa rfl rfl Try.underlying27 rfl in_3 (Nat.succ_ne_zero _) rfl rfl (ne_of_lt (n := 0) (Nat.lt_of_lt_of_eq (by decide) (Eq.symm (GGrant.len (lrd l0 t8_0.toNat))))))) ?_
        refine r_op rfl rfl (PureD.opD (u_ld rfl rfl Try.underlying3 rfl rfl ((Sub.refl _).trans (GGrant.sub0 (lrd l0 t8_0.toNat))))) ?_
        refine r_op rfl rfl (PureD.opD (u_fa rfl rfl Try.underlying27 rfl in_3 (Nat.succ_ne_zero _) rfl rfl (ne_of_lt (n := 0) (Nat.lt_of_lt_of_eq (by decide) (Eq.symm (GGrant.len (lrd l0 t8_0.toNat))))))) ?_
        refine r_op rfl rfl (PureD.opD (u_ld rfl rfl Try.underlying3 rfl rfl ((Sub.refl _).trans (GGrant.sub2 (lrd l0 t8_0.toNat))))) ?_
        refine r_op rfl rfl (PureD.opD (u_fa rfl rfl Try.underlying27 rfl in_3 (Nat.succ_ne_zero _) rfl rfl (ne_of_lt (n := 0) (Nat.lt_of_lt_of_eq (by decide) (Eq.symm (GGrant.len (lrd l0 t8_0.toNat))))))) ?_
        refine r_op rfl rfl (PureD.opD (u_ld rfl rfl Try.underlying3 rfl rfl ((Sub.refl _).trans (GGrant.sub3 (lrd l0 t8_0.toNat))))) ?_
        refine bindK H fun r'2 h4 H => ?_
        refine r_op rfl rfl (PureD.opD (p_callp rfl rfl rfl Try.func31 rfl rfl (g_ref_Reached_ac h4) ⟨rfl, rfl, rfl, rfl, trivial⟩)) ?_
        refine RunW_st [(0, .c (.p ((fun q : List GGrant => AV.lst (q.flatMap GGrant.cs) q.length) l0))), (3, .c (.own 3 out3_0.length 5)), (5, .c (.ptr 5 (0))), (6, .c (.p ((fun q : List GGrant => AV.lst (q.flatMap GGrant.cs) q.length) l0))), (7, .c (.p (AV.int (l0.length : Int)))), (8, .c (.p (AV.int t8_0))), (19, .c (.p (AV.bool r'2)))] [(3, .pure (out3_0.flatMap GGrant.cs)), (5, .pure (GGrant.cs (lrd l0 t8_0.toNat)))] rfl ⟨TLes.same _, TLes.same _, TLes.same _, TLes.same _, TLes.same _, TLes.same _, TLes.same _, trivial⟩ ⟨rfl, rfl, trivial⟩ ?_
        refine RunW_nil ?_
        refine AW2_cond rfl (fun h5 => ?_) (fun h5 => ?_)
        · replace H := ite_then h5 H
          refine AW2_reg [0, 1, 2, 3, 4] rfl ?_
          refine r_op rfl rfl (PureD.opD (p_move rfl rfl)) ?_
          refine r_op rfl rfl (PureD.opD (u_lda rfl rfl Try.underlying27 rfl in_27 rfl (Nat.succ_pos _) (Sub.refl _) (GGrant.len (lrd l0 t8_0.toNat)))) ?_
          refine r_op rfl rfl (MakeD.opD (u_bs 22 rfl Try.underlying22 in_27 rfl one_27 (by decide) (by decide) rfl rfl rfl) rfl rfl rfl rfl) ?_
          refine chkK H fun h6 H => ?_
          refine r_op rfl rfl (u_app [3, 20] rfl rfl rfl rfl Try.underlying22 Try.underlying22 in_27 rfl rfl rfl (fm_length (fun x => (GGrant.len x)) out3_0) (by decide) (srcT_o rfl rfl (fm_length (fun x => (GGrant.len x)) ([(lrd l0 t8_0.toNat)] : List GGrant)) (by decide)) (fm_length (fun x => (GGrant.len x)) ([(lrd l0 t8_0.toNat)] : List GGrant)) h6 (by decide) rfl rfl (fapp GGrant.cs out3_0 ([(lrd l0 t8_0.toNat)] : List GGrant)) (lapp out3_0 ([(lrd l0 t8_0.toNat)] : List GGrant))) ?_
          refine r_op rfl rfl (PureD.opD (p_asg rfl rfl)) ?_
          refine RunW_st [(0, .c (.p ((fun q : List GGrant => AV.lst (q.flatMap GGrant.cs) q.length) l0))), (3, .c (.own 3 (out3_0 ++ ([(lrd l0 t8_0.toNat)] : List GGrant)).length 5)), (6, .c (.p ((fun q : List GGrant => AV.lst (q.flatMap GGrant.cs) q.length) l0))), (7, .c (.p (AV.int (l0.length : Int)))), (8, .c (.p (AV.int t8_0)))] [(3, .pure ((out3_0 ++ ([(lrd l0 t8_0.toNat)] : List GGrant)).flatMap GGrant.cs))] rfl ⟨TLes.same _, TLes.same _, TLes.same _, TLes.same _, TLes.same _, trivial⟩ ⟨rfl, trivial⟩ ?_
          refine RunW_nil ?_
          have hz := some_elim H
          subst hz
          exact rfl
        · replace H := ite_else (ne_true h5) H
          refine AW2_st [(0, .c (.p ((fun q : List GGrant => AV.lst (q.flatMap GGrant.cs) q.length) l0))), (3, .c (.own 3 out3_0.length 5)), (6, .c (.p ((fun q : List GGrant => AV.lst (q.flatMap GGrant.cs) q.length) l0))), (7, .c (.p (AV.int (l0.length : Int)))), (8, .c (.p (AV.int t8_0)))] [(3, .pure (out3_0.flatMap GGrant.cs))] rfl ⟨TLes.same _, TLes.same _, TLes.same _, TLes.same _, TLes.same _, trivial⟩ ⟨rfl, trivial⟩ ?_
          refine AW2_skip ?_
          have hz := some_elim H
          subst hz
          exact rfl
      · refine AW2_reg [0, 1] rfl ?_
        refine r_op rfl rfl (PureD.opD (p_bin rfl rfl rfl rfl)) ?_
        refine r_op rfl rfl (PureD.opD (p_move rfl rfl)) ?_
        refine RunW_st [(0, .c (.p ((fun q : List GGrant => AV.lst (q.flatMap GGrant.cs) q.length) l0))), (3, .c (.own 3 j'1.length 5)), (6, .c (.p ((fun q : List GGrant => AV.lst (q.flatMap GGrant.cs) q.length) l0))), (7, .c (.p (AV.int (l0.length : Int)))), (8, .c (.p (AV.int (w64 (t8_0 + (1 : Int))))))] [(3, .pure (j'1.flatMap GGrant.cs))] rfl ⟨TLes.same _, TLes.same _, TLes.same _, TLes.same _, TLes.same _, trivial⟩ ⟨rfl, trivial⟩ ?_
        refine RunW_nil ?_
        have hz := some_elim H
        subst hz
        exact ⟨rfl, rfl⟩
    · replace H := ite_else h1 H
      refine AW2_st [(3, .c (.own 3 out3_0.length 5))] [(3, .pure (out3_0.flatMap GGrant.cs))] rfl ⟨TLes.same _, trivial⟩ ⟨rfl, trivial⟩ ?_
      refine AW2_exit ?_
      refine thenQ2_exit ?_
      have hz := some_elim H
      subst hz
      exact ⟨rfl, rfl⟩
  · obtain ⟨rfl, rfl⟩ := hs
    refine ⟨by simp, ?_⟩
    refine blockQ2_exit ?_
    refine AW2_seq ?_
    refine AW2_reg [0, 1] rfl ?_
    refine r_op rfl rfl (PureD.opD (p_move rfl rfl)) ?_
    refine r_op rfl rfl (PureD.opD (p_asg rfl rfl)) ?_
    refine RunW_st [(2, .c (.own 3 y'6.length 5))] [(3, .pure (y'6.flatMap GGrant.cs))] rfl ⟨TLes.same _, trivial⟩ ⟨rfl, trivial⟩ ?_
    refine RunW_gho (Gho_ren 3 2 rfl rfl rfl rfl rfl) ?_
    refine RunW_st [(2, .c (.own 2 y'6.length 5))] [(2, .pure (y'6.flatMap GGrant.cs))] rfl ⟨TLes.same _, trivial⟩ ⟨rfl, trivial⟩ ?_
    refine RunW_nil ?_
    refine AW2_gho (Gho_pubs [2] ⟨rfl, trivial⟩ rfl (fm_length (fun x => (GGrant.len x)) y'6) (by decide)) ?_
    refine AW2_ret ?_
    have hz := some_elim H
    subst hz
    exact ⟨⟨res_tmp (.same _), trivial⟩, trivial⟩

/-! chirographref.GrantsFault -/
noncomputable def g_ref_GrantsFault_l0 (l0 : List GGrant) : Int × Int → Option ((Int × Int) ⊕ (Int ⊕ Unit))
  | (last3_0, t12_0) => (if t12_0 < (l0.length : Int) then if 0 ≤ t12_0 ∧ t12_0 < (l0.length : Int) then (g_ref_grantBounds (lrd l0 t12_0.toNat)).bind fun r'1 => (if r'1 ≠ (0 : Int) then some (.inr (.inl r'1)) else (g_ref_rank (lrd l0 t12_0.toNat)).bind fun r'2 => (if r'2 ≤ last3_0 then some (.inr (.inl (3 : Int))) else (g_ref_rank (lrd l0 t12_0.toNat)).bind fun r'3 => some (.inl (r'3, w64 (t12_0 + (1 : Int)))))) else none else some (.inr (.inr ())))
noncomputable def g_ref_GrantsFault (l0 : List GGrant) : Option (Int) :=
  (if (l0.length : Int) > (96 : Int) then some (1 : Int) else (loopO (g_ref_GrantsFault_l0 l0) ((-1 : Int), (0 : Int))).bind fun o'7 => match o'7 with | .inl y'8 => some y'8 | .inr (y'9) => (g_ref_Stands l0).bind fun r'10 => (if (r'10.length : Int) < (l0.length : Int) then some (11 : Int) else some (0 : Int)))
set_option maxHeartbeats 4000000 in
set_option maxRecDepth 100000 in
theorem g_ref_GrantsFault_ac {l0 : List GGrant} {r : Int} (H : g_ref_GrantsFault l0 = some r) : ACp Try.prog 9 [((fun q : List GGrant => AV.lst (q.flatMap GGrant.cs) q.length) l0)] (AV.int r) := by
  refine ACp_of (AC2_of_body (vs := [.c (.p (AV.int r))]) Try.func9 rfl rfl (Nat.le_of_ble_eq_true rfl) rfl ?_) (fun _ => .same _)
  unfold g_ref_GrantsFault at H
  refine AW2_st [(0, .c (.p ((fun q : List GGrant => AV.lst (q.flatMap GGrant.cs) q.length) l0)))] [] rfl ⟨TLes.same _, trivial⟩ trivial ?_
  refine AW2_seq ?_
  refine AW2_reg [0] rfl ?_
  refine r_op rfl rfl (PureD.opD (p_asg rfl rfl)) ?_
  refine RunW_st [(0, .c (.p ((fun q : List GGrant => AV.lst (q.flatMap GGrant.cs) q.length) l0)))] [] rfl ⟨TLes.same _, trivial⟩ trivial ?_
  refine RunW_nil ?_
  refine AW2_seq ?_
  refine AW2_seq ?_
  refine AW2_reg [0, 1, 2] rfl ?_
  refine r_op rfl rfl (PureD.opD (p_move rfl rfl)) ?_
  refine r_op rfl rfl (PureD.opD (p_lenl rfl Try.underlying22 rfl rfl)) ?_
  refine r_op rfl rfl (PureD.opD (p_bin rfl rfl rfl rfl)) ?_
  refine RunW_st [(0, .c (.p ((fun q : List GGrant => AV.lst (q.flatMap GGrant.cs) q.length) l0))), (9, .c (.p (.bool (decide ((l0.length : Int) > (96 : Int))))))] [] rfl ⟨TLes.same _, TLes.same _, trivial⟩ trivial ?_
  refine RunW_nil ?_
  refine AW2_if (p := (l0.length : Int) > (96 : Int)) rfl (fun h1 => ?_) (fun h1 => ?_)
  · replace H := ite_then h1 H
    refine AW2_seq ?_
    refine AW2_reg [0] rfl ?_
    refine r_op rfl rfl (PureD.opD (p_asg rfl rfl)) ?_
    refine RunW_st [(2, .c (.p (AV.int (1 : Int))))] [] rfl ⟨TLes.same _, trivial⟩ trivial ?_
    refine RunW_nil ?_
    refine AW2_ret ?_
    have hz := some_elim H
    subst hz
    exact ⟨⟨res_tmp (.same _), trivial⟩, trivial⟩
  · replace H := ite_else h1 H
    refine AW2_st [(0, .c (.p ((fun q : List GGrant => AV.lst (q.flatMap GGrant.cs) q.length) l0)))] [] rfl ⟨TLes.same _, trivial⟩ trivial ?_
    refine AW2_skip ?_
    refine AW2_seq ?_
    refine AW2_reg [0] rfl ?_
    refine r_op rfl rfl (PureD.opD (p_asg rfl rfl)) ?_
    refine RunW_st [(0, .c (.p ((fun q : List GGrant => AV.lst (q.flatMap GGrant.cs) q.length) l0))), (3, .c (.p (AV.int (-1 : Int))))] [] rfl ⟨TLes.same _, TLes.same _, trivial⟩ trivial ?_
    refine RunW_nil ?_
    refine AW2_seq ?_
    refine AW2_seq ?_
    refine AW2_reg [0, 1, 2] rfl ?_
    refine r_op rfl rfl (PureD.opD (p_move rfl rfl)) ?_
    refine r_op rfl rfl (PureD.opD (p_lenl rfl Try.underlying22 rfl rfl)) ?_
    refine r_op rfl rfl (PureD.opD (p_move rfl rfl)) ?_
    refine RunW_st [(0, .c (.p ((fun q : List GGrant => AV.lst (q.flatMap GGrant.cs) q.length) l0))), (3, .c (.p (AV.int (-1 : Int)))), (10, .c (.p ((fun q : List GGrant => AV.lst (q.flatMap GGrant.cs) q.length) l0))), (11, .c (.p (AV.int (l0.length : Int)))), (12, .c (.p (AV.int (0 : Int))))] [] rfl ⟨TLes.same _, TLes.same _, TLes.same _, TLes.same _, TLes.same _, trivial⟩ trivial ?_
    refine RunW_nil ?_
    refine AW2_block ?_
    refine AW2_st [(0, .c (.p ((fun q : List GGrant => AV.lst (q.flatMap GGrant.cs) q.length) l0))), (3, .c (.p (AV.int (-1 : Int)))), (10, .c (.p ((fun q : List GGrant => AV.lst (q.flatMap GGrant.cs) q.length) l0))), (11, .c (.p (AV.int (l0.length : Int)))), (12, .c (.p (AV.int (0 : Int))))] [] rfl ⟨TLes.same _, TLes.same _, TLes.same _, TLes.same _, TLes.same _, trivial⟩ trivial ?_
    refine bindK H fun o'7 h9 H => ?_
    refine AW2_loopO (fun a'4 : Int × Int => (⟨[(0, .c (.p ((fun q : List GGrant => AV.lst (q.flatMap GGrant.cs) q.length) l0))), (3, .c (.p (AV.int a'4.1))), (10, .c (.p ((fun q : List GGrant => AV.lst (q.flatMap GGrant.cs) q.length) l0))), (11, .c (.p (AV.int (l0.length : Int)))), (12, .c (.p (AV.int a'4.2)))], [], 34⟩ : TS)) (fun (o : Int ⊕ Unit) e s' => match o with | .inl y'5 => e = Go.Exit.ret ∧ ResAll Try.prog s' [ResultVar.tmp 2] [.c (.p (AV.int y'5))] ∧ HFits s' [] | .inr (y'6) => e = Go.Exit.exit 0 ∧ s' = (⟨[(0, .c (.p ((fun q : List GGrant => AV.lst (q.flatMap GGrant.cs) q.length) l0)))], [], 34⟩ : TS)) h9 rfl (fun a x hx => ?_) (fun e s' hs => ?_)
    · clear H
      obtain ⟨last3_0, t12_0⟩ := a
      have H := hx
      clear hx
      unfold g_ref_GrantsFault_l0 at H
      refine AW2_seq ?_
      refine AW2_reg [0] rfl ?_
      refine r_op rfl rfl (PureD.opD (p_bin rfl rfl rfl rfl)) ?_
      refine RunW_st [(0, .c (.p ((fun q : List GGrant => AV.lst (q.flatMap GGrant.cs) q.length) l0))), (3, .c (.p (AV.int last3_0))), (10, .c (.p ((fun q : List GGrant => AV.lst (q.flatMap GGrant.cs) q.length) l0))), (11, .c (.p (AV.int (l0.length : Int)))), (12, .c (.p (AV.int t12_0))), (13, .c (.p (.bool (decide (t12_0 < (l0.length : Int))))))] [] rfl ⟨TLes.same _, TLes.same _, TLes.same _, TLes.same _, TLes.same _, TLes.same _, trivial⟩ trivial ?_
      refine RunW_nil ?_
      refine AW2_seq ?_
      refine AW2_if (p := t12_0 < (l0.length : Int)) rfl (fun h2 => ?_) (fun h2 => ?_)
      · replace H := ite_then h2 H
        refine AW2_st [(0, .c (.p ((fun q : List GGrant => AV.lst (q.flatMap GGrant.cs) q.length) l0))), (3, .c (.p (AV.int last3_0))), (10, .c (.p ((fun q : List GGrant => AV.lst (q.flatMap GGrant.cs) q.length) l0))), (11, .c (.p (AV.int (l0.length : Int)))), (12, .c (.p (AV.int t12_0)))] [] rfl ⟨TLes.same _, TLes.same _, TLes.same _, TLes.same _, TLes.same _, trivial⟩ trivial ?_
        refine AW2_skip ?_
        refine AW2_seq ?_
        refine AW2_block ?_
        refine AW2_seq ?_
        refine AW2_reg [0, 1, 2, 3] rfl ?_
        refine chkK H fun h3 H => ?_
        refine r_op rfl rfl (PureD.opD (u_ixl rfl rfl Try.underlying22 in_27 rfl rfl (ixe h3) (ixn h3) (fne (fun x => (GGrant.len x)) (by decide) (ixn h3)))) ?_
        refine r_op rfl rfl (PureD.opD (u_lda rfl rfl Try.underlying27 rfl in_27 rfl (Nat.succ_pos _) (Sub.fm default (fun x => (GGrant.len x)) (ixn h3)) (GGrant.len (lrd l0 t12_0.toNat)))) ?_
        refine r_op rfl rfl (MakeD.opD (u_alloc 5 rfl in_27 one_27 zc_27) rfl rfl rfl rfl) ?_
        refine r_op rfl rfl (u_st rfl rfl rfl rfl rfl in_27 (GGrant.len (lrd l0 t12_0.toNat)) (ne_of_lt (n := 0) (Nat.lt_of_lt_of_eq (by decide) (Eq.symm (GGrant.len GGrant.zero)))) (Upd.refl ((GGrant.len (lrd l0 t12_0.toNat)).trans (GGrant.len GGrant.zero).symm))) ?_
        refine RunW_st [(0, .c (.p ((fun q : List GGrant => AV.lst (q.flatMap GGrant.cs) q.length) l0))), (3, .c (.p (AV.int last3_0))), (5, .c (.ptr 5 (0))), (10, .c (.p ((fun q : List GGrant => AV.lst (q.flatMap GGrant.cs) q.length) l0))), (11, .c (.p (AV.int (l0.length : Int)))), (12, .c (.p (AV.int t12_0)))] [(5, .pure (GGrant.cs (lrd l0 t12_0.toNat)))] rfl ⟨TLes.same _, TLes.same _, TLes.same _, TLes.same _, TLes.same _, TLes.same _, trivial⟩ ⟨rfl, trivial⟩ ?_
        refine RunW_nil ?_
        refine AW2_seq ?_
        refine AW2_seq ?_
        refine AW2_reg [0, 1, 2] rfl ?_
        refine r_op rfl rfl (PureD.opD (u_lda rfl rfl Try.underlying27 rfl in_27 rfl (Nat.succ_pos _) (Sub.refl _) (GGrant.len (lrd l0 t12_0.toNat)))) ?_
        refine bindK H fun r'1 h4 H => ?_
        refine r_op rfl rfl (PureD.opD (p_callp rfl rfl rfl Try.func23 rfl rfl (g_ref_grantBounds_ac h4) ⟨rfl, trivial⟩)) ?_
        refine r_op rfl rfl (PureD.opD (p_asg rfl rfl)) ?_
        refine RunW_st [(0, .c (.p ((fun q : List GGrant => AV.lst (q.flatMap GGrant.cs) q.length) l0))), (3, .c (.p (AV.int last3_0))), (5, .c (.ptr 5 (0))), (6, .c (.p (AV.int r'1))), (10, .c (.p ((fun q : List GGrant => AV.lst (q.flatMap GGrant.cs) q.length) l0))), (11, .c (.p (AV.int (l0.length : Int)))), (12, .c (.p (AV.int t12_0)))] [(5, .pure (GGrant.cs (lrd l0 t12_0.toNat)))] rfl ⟨TLes.same _, TLes.same _, TLes.same _, TLes.same _, TLes.same _, TLes.same _, TLes.same _, trivial⟩ ⟨rfl, trivial⟩ ?_
        refine RunW_nil ?_
        refine AW2_seq ?_
        refine AW2_reg [0, 1] rfl ?_
        refine r_op rfl rfl (PureD.opD (p_move rfl rfl)) ?_
        refine r_op rfl rfl (PureD.opD (p_ine rfl rfl rfl)) ?_
        refine RunW_st [(0, .c (.p ((fun q : List GGrant => AV.lst (q.flatMap GGrant.cs) q.length) l0))), (3, .c (.p (AV.int last3_0))), (5, .c (.ptr 5 (0))), (6, .c (.p (AV.int r'1))), (10, .c (.p ((fun q : List GGrant => AV.lst (q.flatMap GGrant.cs) q.length) l0))), (11, .c (.p (AV.int (l0.length : Int)))), (12, .c (.p (AV.int t12_0))), (19, .c (.p (.bool (decide (r'1 ≠ (0 : Int))))))] [(5, .pure (GGrant.cs (lrd l0 t12_0.toNat)))] rfl ⟨TLes.same _, TLes.same _, TLes.same _, TLes.same _, TLes.same _, TLes.same _, TLes.same _, TLes.same _, trivial⟩ ⟨rfl, trivial⟩ ?_
        refine RunW_nil ?_
        refine AW2_if (p := r'1 ≠ (0 : Int)) rfl (fun h5 => ?_) (fun h5 => ?_)
        · replace H := ite_then h5 H
          refine AW2_seq ?_
          refine AW2_reg [0, 1] rfl ?_
          refine r_op rfl rfl (PureD.opD (p_move rfl rfl)) ?_
          refine r_op rfl rfl (PureD.opD (p_asg rfl rfl)) ?_
          refine RunW_st [(2, .c (.p (AV.int r'1)))] [] rfl ⟨TLes.same _, trivial⟩ trivial ?_
          refine RunW_nil ?_
          refine AW2_ret ?_
          have hz := some_elim H
          subst hz
          exact ⟨rfl, ⟨res_tmp (.same _), trivial⟩, trivial⟩
        · replace H := ite_else h5 H
          refine AW2_st [(0, .c (.p ((fun q : List GGrant => AV.lst (q.flatMap GGrant.cs) q.length) l0))), (3, .c (.p (AV.int last3_0))), (5, .c (.ptr 5 (0))), (10, .c (.p ((fun q : List GGrant => AV.lst (q.flatMap GGrant.cs) q.length) l0))), (11, .c (.p (AV.int (l0.length : Int)))), (12, .c (.p (AV.int t12_0)))] [(5, .pure (GGrant.cs (lrd l0 t12_0.toNat)))] rfl ⟨TLes.same _, TLes.same _, TLes.same _, TLes.same _, TLes.same _, TLes.same _, trivial⟩ ⟨rfl, trivial⟩ ?_
          refine AW2_skip ?_
          refine AW2_seq ?_
          refine AW2_seq ?_
          refine AW2_reg [0, 1, 2, 3] rfl ?_
          refine r_op rfl rfl (PureD.opD (u_lda rfl rfl Try.underlying27 rfl in_27 rfl (Nat.succ_pos _) (Sub.refl _) (GGrant.len (lrd l0 t12_0.toNat)))) ?_
          refine bindK H fun r'2 h6 H => ?_
          refine r_op rfl rfl (PureD.opD (p_callp rfl rfl rfl Try.func24 rfl rfl (g_ref_rank_ac h6) ⟨rfl, trivial⟩)) ?_
          refine r_op rfl rfl (PureD.opD (p_move rfl rfl)) ?_
          refine r_op rfl rfl (PureD.opD (p_bin rfl rfl rfl rfl)) ?_
          refine RunW_st [(0, .c (.p ((fun q : List GGrant => AV.lst (q.flatMap GGrant.cs) q.length) l0))), (5, .c (.ptr 5 (0))), (10, .c (.p ((fun q : List GGrant => AV.lst (q.flatMap GGrant.cs) q.length) l0))), (11, .c (.p (AV.int (l0.length : Int)))), (12, .c (.p (AV.int t12_0))), (24, .c (.p (.bool (decide (r'2 ≤ last3_0)))))] [(5, .pure (GGrant.cs (lrd l0 t12_0.toNat)))] rfl ⟨TLes.same _, TLes.same _, TLes.same _, TLes.same _, TLes.same _, TLes.same _, trivial⟩ ⟨rfl, trivial⟩ ?_
          refine RunW_nil ?_
          refine AW2_if (p := r'2 ≤ last3_0) rfl (fun h7 => ?_) (fun h7 => ?_)
          · replace H := ite_then h7 H
            refine AW2_seq ?_
            refine AW2_reg [0] rfl ?_
            refine r_op rfl rfl (PureD.opD (p_asg rfl rfl)) ?_
            refine RunW_st [(2, .c (.p (AV.int (3 : Int))))] [] rfl ⟨TLes.same _, trivial⟩ trivial ?_
            refine RunW_nil ?_
            refine AW2_ret ?_
            have hz := some_elim H
            subst hz
            exact ⟨rfl, ⟨res_tmp (.same _), trivial⟩, trivial⟩
          · replace H := ite_else h7 H
            refine AW2_st [(0, .c (.p ((fun q : List GGrant => AV.lst (q.flatMap GGrant.cs) q.length) l0))), (5, .c (.ptr 5 (0))), (10, .c (.p ((fun q : List GGrant => AV.lst (q.flatMap GGrant.cs) q.length) l0))), (11, .c (.p (AV.int (l0.length : Int)))), (12, .c (.p (AV.int t12_0)))] [(5, .pure (GGrant.cs (lrd l0 t12_0.toNat)))] rfl ⟨TLes.same _, TLes.same _, TLes.same _, TLes.same _, TLes.same _, trivial⟩ ⟨rfl, trivial⟩ ?_
            refine AW2_skip ?_
            refine AW2_reg [0, 1, 2] rfl ?_
            refine r_op rfl rfl (PureD.opD (u_lda rfl rfl Try.underlying27 rfl in_27 rfl (Nat.succ_pos _) (Sub.refl _) (GGrant.len (lrd l0 t12_0.toNat)))) ?_
            refine bindK H fun r'3 h8 H => ?_
            refine r_op rfl rfl (PureD.opD (p_callp rfl rfl rfl Try.func24 rfl rfl (g_ref_rank_ac h8) ⟨rfl, trivial⟩)) ?_
            refine r_op rfl rfl (PureD.opD (p_asg rfl rfl)) ?_
            refine RunW_st [(0, .c (.p ((fun q : List GGrant => AV.lst (q.flatMap GGrant.cs) q.length) l0))), (3, .c (.p (AV.int r'3))), (10, .c (.p ((fun q : List GGrant => AV.lst (q.flatMap GGrant.cs) q.length) l0))), (11, .c (.p (AV.int (l0.length : Int)))), (12, .c (.p (AV.int t12_0)))] [] rfl ⟨TLes.same _, TLes.same _, TLes.same _, TLes.same _, TLes.same _, trivial⟩ trivial ?_
            refine RunW_nil ?_
            refine AW2_reg [0, 1] rfl ?_
            refine r_op rfl rfl (PureD.opD (p_bin rfl rfl rfl rfl)) ?_
            refine r_op rfl rfl (PureD.opD (p_move rfl rfl)) ?_
            refine RunW_st [(0, .c (.p ((fun q : List GGrant => AV.lst (q.flatMap GGrant.cs) q.length) l0))), (3, .c (.p (AV.int r'3))), (10, .c (.p ((fun q : List GGrant => AV.lst (q.flatMap GGrant.cs) q.length) l0))), (11, .c (.p (AV.int (l0.length : Int)))), (12, .c (.p (AV.int (w64 (t12_0 + (1 : Int))))))] [] rfl ⟨TLes.same _, TLes.same _, TLes.same _, TLes.same _, TLes.same _, trivial⟩ trivial ?_
            refine RunW_nil ?_
            have hz := some_elim H
            subst hz
            exact ⟨rfl, rfl⟩
      · replace H := ite_else h2 H
        refine AW2_st [(0, .c (.p ((fun q : List GGrant => AV.lst (q.flatMap GGrant.cs) q.length) l0)))] [] rfl ⟨TLes.same _, trivial⟩ trivial ?_
        refine AW2_exit ?_
        refine thenQ2_exit ?_
        have hz := some_elim H
        subst hz
        exact ⟨rfl, rfl⟩
    · rcases o'7 with y'8 | y'9
      · obtain ⟨rfl, hs⟩ := hs
        refine ⟨by simp, ?_⟩
        have hz := some_elim H
        subst hz
        exact ⟨hs.1, hs.2⟩
      · obtain ⟨rfl, rfl⟩ := hs
        refine ⟨by simp, ?_⟩
        refine blockQ2_exit ?_
        refine AW2_seq ?_
        refine AW2_seq ?_
        refine AW2_reg [0, 1, 2, 3, 4, 5] rfl ?_
        refine r_op rfl rfl (PureD.opD (p_move rfl rfl)) ?_
        refine bindK H fun r'10 h10 H => ?_
        refine r_op rfl rfl (PureD.opD (p_callp rfl rfl rfl Try.func25 rfl rfl (g_ref_Stands_ac h10) ⟨rfl, trivial⟩)) ?_
        refine r_op rfl rfl (PureD.opD (p_lenl rfl Try.underlying22 rfl rfl)) ?_
        refine r_op rfl rfl (PureD.opD (p_move rfl rfl)) ?_
        refine r_op rfl rfl (PureD.opD (p_lenl rfl Try.underlying22 rfl rfl)) ?_
        refine r_op rfl rfl (PureD.opD (p_bin rfl rfl rfl rfl)) ?_
        refine RunW_st [(33, .c (.p (.bool (decide ((r'10.length : Int) < (l0.length : Int))))))] [] rfl ⟨TLes.same _, trivial⟩ trivial ?_
        refine RunW_nil ?_
        refine AW2_if (p := (r'10.length : Int) < (l0.length : Int)) rfl (fun h11 => ?_) (fun h11 => ?_)
        · replace H := ite_then h11 H
          refine AW2_seq ?_
          refine AW2_reg [0] rfl ?_
          refine r_op rfl rfl (PureD.opD (p_asg rfl rfl)) ?_
          refine RunW_st [(2, .c (.p (AV.int (11 : Int))))] [] rfl ⟨TLes.same _, trivial⟩ trivial ?_
          refine RunW_nil ?_
          refine AW2_ret ?_
          have hz := some_elim H
          subst hz
          exact ⟨⟨res_tmp (.same _), trivial⟩, trivial⟩
        · replace H := ite_else h11 H
          refine AW2_st [] [] rfl trivial trivial ?_
          refine AW2_skip ?_
          refine AW2_seq ?_
          refine AW2_reg [0] rfl ?_
          refine r_op rfl rfl (PureD.opD (p_asg rfl rfl)) ?_
          refine RunW_st [(2, .c (.p (AV.int (0 : Int))))] [] rfl ⟨TLes.same _, trivial⟩ trivial ?_
          refine RunW_nil ?_
          refine AW2_ret ?_
          have hz := some_elim H
          subst hz
          exact ⟨⟨res_tmp (.same _), trivial⟩, trivial⟩
end Go.Proofs.Ytgbfmldbbnhefaa.VM
