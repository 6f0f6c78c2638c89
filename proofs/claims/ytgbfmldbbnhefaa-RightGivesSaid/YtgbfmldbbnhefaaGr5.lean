/- Functions of the program, as they answer, and that their code comes to these answers. -/
import Derived.Test.YtgbfmldbbnhefaaGr4
namespace Go.Proofs.Ytgbfmldbbnhefaa.VM
open Go Go.RowKit

theorem eq_37 : EqT Try.prog 37 2 (fun x : Gright_place => .agg (Gright_place.cs x)) :=
  eqt_struct [fun a b => a.object_ = b.object_, fun a b => a.right_ = b.right_, fun a b => a.from_ = b.from_, fun a b => a.to_ = b.to_] Try.underlying37 (by kernel_rfl) ⟨(FieldEq.more (fe_one (by decide) Try.underlying3 rfl (eqt_int Try.underlying3) (fun a => Gright_place.sub0 a)) (by decide : 1 ≤ 1)), (FieldEq.more (fe_one (by decide) Try.underlying3 rfl (eqt_int Try.underlying3) (fun a => Gright_place.sub1 a)) (by decide : 1 ≤ 1)), (FieldEq.more (fe_one (by decide) Try.underlying3 rfl (eqt_int Try.underlying3) (fun a => Gright_place.sub2 a)) (by decide : 1 ≤ 1)), (FieldEq.more (fe_one (by decide) Try.underlying3 rfl (eqt_int Try.underlying3) (fun a => Gright_place.sub3 a)) (by decide : 1 ≤ 1)), trivial⟩ (fun a b => by
    cases a; cases b
    simp)
set_option maxRecDepth 100000 in
theorem ty_3 {d : Nat} {cs : List AV} (h : Typed Try.prog (d + 1) 3 cs) : ∃ x : Int, cs = [(AV.int x)] ∧ okI x := ty_int Try.underlying3 h
set_option maxRecDepth 100000 in
theorem ty_4 {d : Nat} {cs : List AV} (h : Typed Try.prog (d + 1) 4 cs) : ∃ x : Bool, cs = [(AV.bool x)] ∧ okA x := ty_bool Try.underlying4 h
def GGrant.ok (x : GGrant) : Prop := okI x.From ∧ okI x.To ∧ okI x.Object ∧ okI x.Right ∧ okA x.Option
set_option maxRecDepth 100000 in
theorem ty_27 {d : Nat} {cs : List AV} (h : Typed Try.prog (d + 2) 27 cs) : ∃ x : GGrant, cs = GGrant.cs x ∧ GGrant.ok x := by
  obtain ⟨es, rfl, hl, hf⟩ := ty_struct Try.underlying27 h
  match es, hl, hf with
  | [e0, e1, e2, e3, e4], _, hf =>
    obtain ⟨x0, h0, q0⟩ := ty_3 (hf 0 _ e0 rfl rfl)
    obtain ⟨x1, h1, q1⟩ := ty_3 (hf 1 _ e1 rfl rfl)
    obtain ⟨x2, h2, q2⟩ := ty_3 (hf 2 _ e2 rfl rfl)
    obtain ⟨x3, h3, q3⟩ := ty_3 (hf 3 _ e3 rfl rfl)
    obtain ⟨x4, h4, q4⟩ := ty_4 (hf 4 _ e4 rfl rfl)
    refine ⟨⟨x0, x1, x2, x3, x4⟩, ?_, ⟨q0, q1, q2, q3, q4⟩⟩
    rw [h0, h1, h2, h3, h4]
    simp only [List.flatten_cons, List.flatten_nil, List.append_nil, GGrant.cs]
set_option maxRecDepth 100000 in
theorem ty_22 {d : Nat} {cs : List AV} (h : Typed Try.prog (d + 3) 22 cs) : ∃ x : List GGrant, cs = [((fun q : List GGrant => AV.lst (q.flatMap GGrant.cs) q.length) x)] ∧ (okL 40 GGrant.ok) x := ty_slicef (g := fun b : GGrant => GGrant.cs b) Try.underlying22 (bytes_of in_27) (fun _ hx => ty_27 hx) h

/-! chirographlaw.RightChecks -/
noncomputable def g_law_RightChecks (l0 : List GGrant) : Option (Bool) :=
  (g_right_Check l0).bind fun r'1 => (g_ref_GrantsFault l0).bind fun r'2 => some (decide (r'1 = r'2))
set_option maxHeartbeats 4000000 in
set_option maxRecDepth 100000 in
theorem g_law_RightChecks_ac {l0 : List GGrant} {r : Bool} (H : g_law_RightChecks l0 = some r) : ACp Try.prog 3 [((fun q : List GGrant => AV.lst (q.flatMap GGrant.cs) q.length) l0)] (AV.bool r) := by
  refine ACp_of (AC2_of_body (vs := [.c (.p (AV.bool r))]) Try.func3 rfl rfl (Nat.le_of_ble_eq_true rfl) rfl ?_) (fun _ => .same _)
  unfold g_law_RightChecks at H
  refine AW2_st [(0, .c (.p ((fun q : List GGrant => AV.lst (q.flatMap GGrant.cs) q.length) l0)))] [] rfl ⟨TLes.same _, trivial⟩ trivial ?_
  refine AW2_seq ?_
  refine AW2_reg [0] rfl ?_
  refine r_op rfl rfl (PureD.opD (p_asg rfl rfl)) ?_
  refine RunW_st [(0, .c (.p ((fun q : List GGrant => AV.lst (q.flatMap GGrant.cs) q.length) l0)))] [] rfl ⟨TLes.same _, trivial⟩ trivial ?_
  refine RunW_nil ?_
  refine AW2_seq ?_
  refine AW2_reg [0, 1, 2] rfl ?_
  refine r_op rfl rfl (PureD.opD (p_move rfl rfl)) ?_
  refine bindK H fun r'1 h1 H => ?_
  refine r_op rfl rfl (PureD.opD (p_callp rfl rfl rfl Try.func8 rfl rfl (g_right_Check_ac h1) ⟨rfl, trivial⟩)) ?_
  refine r_op rfl rfl (PureD.opD (p_asg rfl rfl)) ?_
  refine RunW_st [(0, .c (.p ((fun q : List GGrant => AV.lst (q.flatMap GGrant.cs) q.length) l0))), (3, .c (.p (AV.int r'1)))] [] rfl ⟨TLes.same _, TLes.same _, trivial⟩ trivial ?_
  refine RunW_nil ?_
  refine AW2_seq ?_
  refine AW2_reg [0, 1, 2] rfl ?_
  refine r_op rfl rfl (PureD.opD (p_move rfl rfl)) ?_
  refine bindK H fun r'2 h2 H => ?_
  refine r_op rfl rfl (PureD.opD (p_callp rfl rfl rfl Try.func9 rfl rfl (g_ref_GrantsFault_ac h2) ⟨rfl, trivial⟩)) ?_
  refine r_op rfl rfl (PureD.opD (p_asg rfl rfl)) ?_
  refine RunW_st [(3, .c (.p (AV.int r'1))), (4, .c (.p (AV.int r'2)))] [] rfl ⟨TLes.same _, TLes.same _, trivial⟩ trivial ?_
  refine RunW_nil ?_
  refine AW2_seq ?_
  refine AW2_reg [0, 1, 2, 3] rfl ?_
  refine r_op rfl rfl (PureD.opD (p_move rfl rfl)) ?_
  refine r_op rfl rfl (PureD.opD (p_move rfl rfl)) ?_
  refine r_op rfl rfl (PureD.opD (p_ieq rfl rfl rfl)) ?_
  refine r_op rfl rfl (PureD.opD (p_asg rfl rfl)) ?_
  refine RunW_st [(2, .c (.p (.bool (decide (r'1 = r'2)))))] [] rfl ⟨TLes.same _, trivial⟩ trivial ?_
  refine RunW_nil ?_
  refine AW2_ret ?_
  have hz := some_elim H
  subst hz
  exact ⟨⟨res_tmp (.same _), trivial⟩, trivial⟩

/-! right.Take -/
noncomputable def g_right_Take_l0 (l0 : List GGrant) (g1 : GGrant) : Int × (List GGrant) → Option ((Int × (List GGrant)) ⊕ (((List GGrant))))
  | (t23_0, left8_0) => (if t23_0 < (l0.length : Int) then (if 0 ≤ t23_0 ∧ t23_0 < (l0.length : Int) then (g_right_placed (lrd l0 t23_0.toNat)).bind fun r'4 => (g_right_placed g1).bind fun r'5 => (if r'4 ≠ r'5 then if room (left8_0.length + ([(lrd l0 t23_0.toNat)] : List GGrant).length) 40 then some (left8_0 ++ ([(lrd l0 t23_0.toNat)] : List GGrant)) else none else some left8_0) else none).bind fun j'3 => some (.inl (w64 (t23_0 + (1 : Int)), j'3)) else some (.inr left8_0))
noncomputable def g_right_Take (l0 : List GGrant) (g1 : GGrant) : Option ((List GGrant) × Int) :=
  (g_right_Check l0).bind fun r'1 => (if r'1 ≠ (0 : Int) then some ([], r'1) else (g_right_bounds g1).bind fun r'2 => (if r'2 ≠ (0 : Int) then some ([], r'2) else (loopO (g_right_Take_l0 l0 g1) ((0 : Int), ([] : List GGrant))).bind fun y'9 => (if (y'9.length : Int) = (l0.length : Int) then some ([], (5 : Int)) else (g_right_held y'9).bind fun r'10 => some (r'10, (0 : Int)))))
set_option maxHeartbeats 4000000 in
set_option maxRecDepth 100000 in
theorem g_right_Take_ac {l0 : List GGrant} {g1 : GGrant} {r : (List GGrant) × Int} (H : g_right_Take l0 g1 = some r) : ACp Try.prog 10 [((fun q : List GGrant => AV.lst (q.flatMap GGrant.cs) q.length) l0), (.agg (GGrant.cs g1))] (.tup [((fun q : List GGrant => AV.lst (q.flatMap GGrant.cs) q.length) r.1), (AV.int r.2)]) := by
  refine ACp_of (AC2_of_body (vs := [.c (.p ((fun q : List GGrant => AV.lst (q.flatMap GGrant.cs) q.length) r.1)), .c (.p (AV.int r.2))]) Try.func10 rfl rfl (Nat.le_of_ble_eq_true rfl) rfl ?_) (fun _ => .same _)
  unfold g_right_Take at H
  refine AW2_st [(0, .c (.p ((fun q : List GGrant => AV.lst (q.flatMap GGrant.cs) q.length) l0))), (1, .c (.p (.agg (GGrant.cs g1))))] [] rfl ⟨TLes.same _, TLes.same _, trivial⟩ trivial ?_
  refine AW2_seq ?_
  refine AW2_reg [0, 1, 2] rfl ?_
  refine r_op rfl rfl (MakeD.opD (n_box 3 rfl rfl) rfl rfl rfl rfl) ?_
  refine r_op rfl rfl (PureD.opD (p_asgn rfl)) ?_
  refine r_op rfl rfl (PureD.opD (p_asg rfl rfl)) ?_
  refine RunW_st [(0, .c (.p ((fun q : List GGrant => AV.lst (q.flatMap GGrant.cs) q.length) l0))), (3, .c (.ptr 3 (0)))] [(3, .pure (GGrant.cs g1))] rfl ⟨TLes.same _, TLes.same _, trivial⟩ ⟨rfl, trivial⟩ ?_
  refine RunW_nil ?_
  refine AW2_seq ?_
  refine AW2_seq ?_
  refine AW2_reg [0, 1, 2] rfl ?_
  refine r_op rfl rfl (PureD.opD (p_move rfl rfl)) ?_
  refine bindK H fun r'1 h1 H => ?_
  refine r_op rfl rfl (PureD.opD (p_callp rfl rfl rfl Try.func8 rfl rfl (g_right_Check_ac h1) ⟨rfl, trivial⟩)) ?_
  refine r_op rfl rfl (PureD.opD (p_asg rfl rfl)) ?_
  refine RunW_st [(0, .c (.p ((fun q : List GGrant => AV.lst (q.flatMap GGrant.cs) q.length) l0))), (3, .c (.ptr 3 (0))), (6, .c (.p (AV.int r'1)))] [(3, .pure (GGrant.cs g1))] rfl ⟨TLes.same _, TLes.same _, TLes.same _, trivial⟩ ⟨rfl, trivial⟩ ?_
  refine RunW_nil ?_
  refine AW2_seq ?_
  refine AW2_reg [0, 1] rfl ?_
  refine r_op rfl rfl (PureD.opD (p_move rfl rfl)) ?_
  refine r_op rfl rfl (PureD.opD (p_ine rfl rfl rfl)) ?_
  refine RunW_st [(0, .c (.p ((fun q : List GGrant => AV.lst (q.flatMap GGrant.cs) q.length) l0))), (3, .c (.ptr 3 (0))), (6, .c (.p (AV.int r'1))), (14, .c (.p (.bool (decide (r'1 ≠ (0 : Int))))))] [(3, .pure (GGrant.cs g1))] rfl ⟨TLes.same _, TLes.same _, TLes.same _, TLes.same _, trivial⟩ ⟨rfl, trivial⟩ ?_
  refine RunW_nil ?_
  refine AW2_if (p := r'1 ≠ (0 : Int)) rfl (fun h2 => ?_) (fun h2 => ?_)
  · replace H := ite_then h2 H
    refine AW2_seq ?_
    refine AW2_reg [0, 1, 2] rfl ?_
    refine r_op rfl rfl (PureD.opD (p_move rfl rfl)) ?_
    refine r_op rfl rfl (PureD.opD (p_asgn rfl)) ?_
    refine r_op rfl rfl (PureD.opD (p_asg rfl rfl)) ?_
    refine RunW_st [(4, .c (.p .nil)), (5, .c (.p (AV.int r'1)))] [] rfl ⟨TLes.same _, TLes.same _, trivial⟩ trivial ?_
    refine RunW_nil ?_
    refine AW2_ret ?_
    have hz := some_elim H
    subst hz
    exact ⟨⟨res_tmp TLes.nil0, res_tmp (.same _), trivial⟩, trivial⟩
  · replace H := ite_else h2 H
    refine AW2_st [(0, .c (.p ((fun q : List GGrant => AV.lst (q.flatMap GGrant.cs) q.length) l0))), (3, .c (.ptr 3 (0)))] [(3, .pure (GGrant.cs g1))] rfl ⟨TLes.same _, TLes.same _, trivial⟩ ⟨rfl, trivial⟩ ?_
    refine AW2_skip ?_
    refine AW2_seq ?_
    refine AW2_seq ?_
    refine AW2_reg [0, 1, 2] rfl ?_
    refine r_op rfl rfl (PureD.opD (u_lda rfl rfl Try.underlying27 rfl in_27 rfl (Nat.succ_pos _) (Sub.refl _) (GGrant.len g1))) ?_
    refine bindK H fun r'2 h3 H => ?_
    refine r_op rfl rfl (PureD.opD (p_callp rfl rfl rfl Try.func19 rfl rfl (g_right_bounds_ac h3) ⟨rfl, trivial⟩)) ?_
    refine r_op rfl rfl (PureD.opD (p_asg rfl rfl)) ?_
    refine RunW_st [(0, .c (.p ((fun q : List GGrant => AV.lst (q.flatMap GGrant.cs) q.length) l0))), (3, .c (.ptr 3 (0))), (7, .c (.p (AV.int r'2)))] [(3, .pure (GGrant.cs g1))] rfl ⟨TLes.same _, TLes.same _, TLes.same _, trivial⟩ ⟨rfl, trivial⟩ ?_
    refine RunW_nil ?_
    refine AW2_seq ?_
    refine AW2_reg [0, 1] rfl ?_
    refine r_op rfl rfl (PureD.opD (p_move rfl rfl)) ?_
    refine r_op rfl rfl (PureD.opD (p_ine rfl rfl rfl)) ?_
    refine RunW_st [(0, .c (.p ((fun q : List GGrant => AV.lst (q.flatMap GGrant.cs) q.length) l0))), (3, .c (.ptr 3 (0))), (7, .c (.p (AV.int r'2))), (19, .c (.p (.bool (decide (r'2 ≠ (0 : Int))))))] [(3, .pure (GGrant.cs g1))] rfl ⟨TLes.same _, TLes.same _, TLes.same _, TLes.same _, trivial⟩ ⟨rfl, trivial⟩ ?_
    refine RunW_nil ?_
    refine AW2_if (p := r'2 ≠ (0 : Int)) rfl (fun h4 => ?_) (fun h4 => ?_)
    · replace H := ite_then h4 H
      refine AW2_seq ?_
      refine AW2_reg [0, 1, 2] rfl ?_
      refine r_op rfl rfl (PureD.opD (p_move rfl rfl)) ?_
      refine r_op rfl rfl (PureD.opD (p_asgn rfl)) ?_
      refine r_op rfl rfl (PureD.opD (p_asg rfl rfl)) ?_
      refine RunW_st [(4, .c (.p .nil)), (5, .c (.p (AV.int r'2)))] [] rfl ⟨TLes.same _, TLes.same _, trivial⟩ trivial ?_
      refine RunW_nil ?_
      refine AW2_ret ?_
      have hz := some_elim H
      subst hz
      exact ⟨⟨res_tmp TLes.nil0, res_tmp (.same _), trivial⟩, trivial⟩
    · replace H := ite_else h4 H
      refine AW2_st [(0, .c (.p ((fun q : List GGrant => AV.lst (q.flatMap GGrant.cs) q.length) l0))), (3, .c (.ptr 3 (0)))] [(3, .pure (GGrant.cs g1))] rfl ⟨TLes.same _, TLes.same _, trivial⟩ ⟨rfl, trivial⟩ ?_
      refine AW2_skip ?_
      refine AW2_seq ?_
      refine AW2_reg [0] rfl ?_
      refine r_op rfl rfl (PureD.opD (p_asgn rfl)) ?_
      refine RunW_st [(0, .c (.p ((fun q : List GGrant => AV.lst (q.flatMap GGrant.cs) q.length) l0))), (3, .c (.ptr 3 (0))), (8, .c (.p .nil))] [(3, .pure (GGrant.cs g1))] rfl ⟨TLes.same _, TLes.same _, TLes.same _, trivial⟩ ⟨rfl, trivial⟩ ?_
      refine RunW_nil ?_
      refine AW2_seq ?_
      refine AW2_seq ?_
      refine AW2_reg [0, 1, 2] rfl ?_
      refine r_op rfl rfl (PureD.opD (p_move rfl rfl)) ?_
      refine r_op rfl rfl (PureD.opD (p_lenl rfl Try.underlying22 rfl rfl)) ?_
      refine r_op rfl rfl (PureD.opD (p_move rfl rfl)) ?_
      refine RunW_st [(0, .c (.p ((fun q : List GGrant => AV.lst (q.flatMap GGrant.cs) q.length) l0))), (3, .c (.ptr 3 (0))), (8, .c (.p .nil)), (21, .c (.p ((fun q : List GGrant => AV.lst (q.flatMap GGrant.cs) q.length) l0))), (22, .c (.p (AV.int (l0.length : Int)))), (23, .c (.p (AV.int (0 : Int))))] [(3, .pure (GGrant.cs g1))] rfl ⟨TLes.same _, TLes.same _, TLes.same _, TLes.same _, TLes.same _, TLes.same _, trivial⟩ ⟨rfl, trivial⟩ ?_
      refine RunW_nil ?_
      refine AW2_block ?_
      refine AW2_st [(0, .c (.p ((fun q : List GGrant => AV.lst (q.flatMap GGrant.cs) q.length) l0))), (3, .c (.ptr 3 (0))), (8, .c (.p .nil)), (21, .c (.p ((fun q : List GGrant => AV.lst (q.flatMap GGrant.cs) q.length) l0))), (22, .c (.p (AV.int (l0.length : Int)))), (23, .c (.p (AV.int (0 : Int))))] [(3, .pure (GGrant.cs g1))] rfl ⟨TLes.same _, TLes.same _, TLes.same _, TLes.same _, TLes.same _, TLes.same _, trivial⟩ ⟨rfl, trivial⟩ ?_
      refine AW2_gho (Gho_own (d := 8) (b := 8) (z := 5) rfl rfl rfl rfl) ?_
      refine AW2_st [(0, .c (.p ((fun q : List GGrant => AV.lst (q.flatMap GGrant.cs) q.length) l0))), (3, .c (.ptr 3 (0))), (8, .c (.own 8 ([] : List GGrant).length 5)), (21, .c (.p ((fun q : List GGrant => AV.lst (q.flatMap GGrant.cs) q.length) l0))), (22, .c (.p (AV.int (l0.length : Int)))), (23, .c (.p (AV.int (0 : Int))))] [(3, .pure (GGrant.cs g1)), (8, .pure (([] : List GGrant).flatMap GGrant.cs))] rfl ⟨TLes.same _, TLes.same _, TLes.own rfl, TLes.same _, TLes.same _, TLes.same _, trivial⟩ ⟨rfl, rfl, trivial⟩ ?_
      refine bindK H fun y'9 h12 H => ?_
      refine AW2_loopO (fun a'6 : Int × (List GGrant) => (⟨[(0, .c (.p ((fun q : List GGrant => AV.lst (q.flatMap GGrant.cs) q.length) l0))), (3, .c (.ptr 3 (0))), (8, .c (.own 8 a'6.2.length 5)), (21, .c (.p ((fun q : List GGrant => AV.lst (q.flatMap GGrant.cs) q.length) l0))), (22, .c (.p (AV.int (l0.length : Int)))), (23, .c (.p (AV.int a'6.1)))], [(3, .pure (GGrant.cs g1)), (8, .pure (a'6.2.flatMap GGrant.cs))], 44⟩ : TS)) (fun (y'7 : ((List GGrant))) e s' => e = Go.Exit.exit 0 ∧ s' = (⟨[(0, .c (.p ((fun q : List GGrant => AV.lst (q.flatMap GGrant.cs) q.length) l0))), (8, .c (.own 8 y'7.length 5))], [(8, .pure (y'7.flatMap GGrant.cs))], 44⟩ : TS)) h12 rfl (fun a x hx => ?_) (fun e s' hs => ?_)
      · clear H
        obtain ⟨t23_0, left8_0⟩ := a
        have H := hx
        clear hx
        unfold g_right_Take_l0 at H
        refine AW2_seq ?_
        refine AW2_reg [0] rfl ?_
        refine r_op rfl rfl (PureD.opD (p_bin rfl rfl rfl rfl)) ?_
        refine RunW_st [(0, .c (.p ((fun q : List GGrant => AV.lst (q.flatMap GGrant.cs) q.length) l0))), (3, .c (.ptr 3 (0))), (8, .c (.own 8 left8_0.length 5)), (21, .c (.p ((fun q : List GGrant => AV.lst (q.flatMap GGrant.cs) q.length) l0))), (22, .c (.p (AV.int (l0.length : Int)))), (23, .c (.p (AV.int t23_0))), (24, .c (.p (.bool (decide (t23_0 < (l0.length : Int))))))] [(3, .pure (GGrant.cs g1)), (8, .pure (left8_0.flatMap GGrant.cs))] rfl ⟨TLes.same _, TLes.same _, TLes.same _, TLes.same _, TLes.same _, TLes.same _, TLes.same _, trivial⟩ ⟨rfl, rfl, trivial⟩ ?_
        refine RunW_nil ?_
        refine AW2_seq ?_
        refine AW2_if (p := t23_0 < (l0.length : Int)) rfl (fun h5 => ?_) (fun h5 => ?_)
        · replace H := ite_then h5 H
          refine AW2_st [(0, .c (.p ((fun q : List GGrant => AV.lst (q.flatMap GGrant.cs) q.length) l0))), (3, .c (.ptr 3 (0))), (8, .c (.own 8 left8_0.length 5)), (21, .c (.p ((fun q : List GGrant => AV.lst (q.flatMap GGrant.cs) q.length) l0))), (22, .c (.p (AV.int (l0.length : Int)))), (23, .c (.p (AV.int t23_0)))] [(3, .pure (GGrant.cs g1)), (8, .pure (left8_0.flatMap GGrant.cs))] rfl ⟨TLes.same _, TLes.same _, TLes.same _, TLes.same _, TLes.same _, TLes.same _, trivial⟩ ⟨rfl, rfl, trivial⟩ ?_
          refine AW2_skip ?_
          refine AW2_seq ?_
          refine bindK H fun j'3 h6 H => ?_
          refine AW2_mid (⟨[(0, .c (.p ((fun q : List GGrant => AV.lst (q.flatMap GGrant.cs) q.length) l0))), (3, .c (.ptr 3 (0))), (8, .c (.own 8 j'3.length 5)), (21, .c (.p ((fun q : List GGrant => AV.lst (q.flatMap GGrant.cs) q.length) l0))), (22, .c (.p (AV.int (l0.length : Int)))), (23, .c (.p (AV.int t23_0)))], [(3, .pure (GGrant.cs g1)), (8, .pure (j'3.flatMap GGrant.cs))], 44⟩ : TS) ?_ ?_
          · clear H
            have H := h6
            clear h6
            refine AW2_block ?_
            refine AW2_seq ?_
            refine AW2_reg [0, 1, 2, 3] rfl ?_
            refine chkK H fun h7 H => ?_
            refine r_op rfl rfl (PureD.opD (u_ixl rfl rfl Try.underlying22 in_27 rfl rfl (ixe h7) (ixn h7) (fne (fun x => (GGrant.len x)) (by decide) (ixn h7)))) ?_
            refine r_op rfl rfl (PureD.opD (u_lda rfl rfl Try.underlying27 rfl in_27 rfl (Nat.succ_pos _) (Sub.fm default (fun x => (GGrant.len x)) (ixn h7)) (GGrant.len (lrd l0 t23_0.toNat)))) ?_
            refine r_op rfl rfl (MakeD.opD (u_alloc 10 rfl in_27 one_27 zc_27) rfl rfl rfl rfl) ?_
            refine r_op rfl rfl (u_st rfl rfl rfl rfl rfl in_27 (GGrant.len (lrd l0 t23_0.toNat)) (ne_of_lt (n := 0) (Nat.lt_of_lt_of_eq (by decide) (Eq.symm (GGrant.len GGrant.zero)))) (Upd.refl ((GGrant.len (lrd l0 t23_0.toNat)).trans (GGrant.len GGrant.zero).symm))) ?_
            refine RunW_st [(0, .c (.p ((fun q : List GGrant => AV.lst (q.flatMap GGrant.cs) q.length) l0))), (3, .c (.ptr 3 (0))), (8, .c (.own 8 left8_0.length 5)), (10, .c (.ptr 10 (0))), (21, .c (.p ((fun q : List GGrant => AV.lst (q.flatMap GGrant.cs) q.length) l0))), (22, .c (.p (AV.int (l0.length : Int)))), (23, .c (.p (AV.int t23_0)))] [(3, .pure (GGrant.cs g1)), (8, .pure (left8_0.flatMap GGrant.cs)), (10, .pure (GGrant.cs (lrd l0 t23_0.toNat)))] rfl ⟨TLes.same _, TLes.same _, TLes.same _, TLes.same _, TLes.same _, TLes.same _, TLes.same _, trivial⟩ ⟨rfl, rfl, rfl, trivial⟩ ?_
            refine RunW_nil ?_
            refine AW2_seq ?_
            refine bindK H fun r'4 h8 H => ?_
            refine bindK H fun r'5 h9 H => ?_
            refine AW2_ghoQ ?_
            refine AW2_draw 3 [3, 4] (fun k => ([.c (.p (.agg (GGrant.cs (lrd l0 t23_0.toNat)))), .c (.p (.agg (Gright_place.cs r'4))), .c (.p (.agg (GGrant.cs g1)))] : List TV).getD k TV.any) (fun k => ([[(10, none)], [(27, some 0)], [(3, none)]] : List (List (Nat × Option Nat))).getD k []) [(0, none), (3, none), (8, none), (10, none), (21, none), (22, none), (23, none), (28, some 1), (29, some 2)] [] (fun k => ([[], [0], [], [0, 1, 2], [0, 1, 2, 3]] : List (List Nat)).getD k []) mixed (by kernel_rfl) rfl rfl (a_op (g_x rfl (x_p rfl (u_lda rfl rfl Try.underlying27 rfl in_27 rfl (Nat.succ_pos _) (Sub.refl _) (GGrant.len (lrd l0 t23_0.toNat))) rfl)) (a_op (g_x rfl (x_p rfl (p_callp rfl rfl rfl Try.func20 rfl rfl (g_right_placed_ac h8) ⟨rfl, trivial⟩) rfl)) (a_op (g_x rfl (x_p rfl (u_lda rfl rfl Try.underlying27 rfl in_27 rfl (Nat.succ_pos _) (Sub.refl _) (GGrant.len g1)) rfl)) (a_nil)))) ?_
            refine t_op rfl rfl (PureD.opD (p_callp rfl rfl rfl Try.func20 rfl rfl (g_right_placed_ac h9) ⟨rfl, trivial⟩)) ?_
            refine t_op rfl rfl (PureD.opD (p_nea (a := r'4) (b := r'5) rfl eq_37 rfl (by kernel_rfl) rfl rfl)) ?_
            refine t_gho (Gho_st (L := [(0, .c (.p ((fun q : List GGrant => AV.lst (q.flatMap GGrant.cs) q.length) l0))), (3, .c (.ptr 3 (0))), (8, .c (.own 8 left8_0.length 5)), (10, .c (.ptr 10 (0))), (21, .c (.p ((fun q : List GGrant => AV.lst (q.flatMap GGrant.cs) q.length) l0))), (22, .c (.p (AV.int (l0.length : Int)))), (23, .c (.p (AV.int t23_0))), (31, .c (.p (.bool (decide (r'4 ≠ r'5)))))]) (H := [(3, .pure (GGrant.cs g1)), (8, .pure (left8_0.flatMap GGrant.cs)), (10, .pure (GGrant.cs (lrd l0 t23_0.toNat)))]) rfl ⟨TLes.same _, TLes.same _, TLes.same _, TLes.same _, TLes.same _, TLes.same _, TLes.same _, TLes.same _, trivial⟩ ⟨rfl, rfl, rfl, trivial⟩) ?_
            refine AW2_if (p := r'4 ≠ r'5) rfl (fun h10 => ?_) (fun h10 => ?_)
            · replace H := ite_then h10 H
              refine AW2_reg [0, 1, 2, 3, 4] rfl ?_
              refine r_op rfl rfl (PureD.opD (p_move rfl rfl)) ?_
              refine r_op rfl rfl (PureD.opD (u_lda rfl rfl Try.underlying27 rfl in_27 rfl (Nat.succ_pos _) (Sub.refl _) (GGrant.len (lrd l0 t23_0.toNat)))) ?_
              refine r_op rfl rfl (MakeD.opD (u_bs 34 rfl Try.underlying22 in_27 rfl one_27 (by decide) (by decide) rfl rfl rfl) rfl rfl rfl rfl) ?_
              refine chkK H fun h11 H => ?_
              refine r_op rfl rfl (u_app [8, 32] rfl rfl rfl rfl Try.underlying22 Try.underlying22 in_27 rfl rfl rfl (fm_length (fun x => (GGrant.len x)) left8_0) (by decide) (srcT_o rfl rfl (fm_length (fun x => (GGrant.len x)) ([(lrd l0 t23_0.toNat)] : List GGrant)) (by decide)) (fm_length (fun x => (GGrant.len x)) ([(lrd l0 t23_0.toNat)] : List GGrant)) h11 (by decide) rfl rfl (fapp GGrant.cs left8_0 ([(lrd l0 t23_0.toNat)] : List GGrant)) (lapp left8_0 ([(lrd l0 t23_0.toNat)] : List GGrant))) ?_
              refine r_op rfl rfl (PureD.opD (p_asg rfl rfl)) ?_
              refine RunW_st [(0, .c (.p ((fun q : List GGrant => AV.lst (q.flatMap GGrant.cs) q.length) l0))), (3, .c (.ptr 3 (0))), (8, .c (.own 8 (left8_0 ++ ([(lrd l0 t23_0.toNat)] : List GGrant)).length 5)), (21, .c (.p ((fun q : List GGrant => AV.lst (q.flatMap GGrant.cs) q.length) l0))), (22, .c (.p (AV.int (l0.length : Int)))), (23, .c (.p (AV.int t23_0)))] [(3, .pure (GGrant.cs g1)), (8, .pure ((left8_0 ++ ([(lrd l0 t23_0.toNat)] : List GGrant)).flatMap GGrant.cs))] rfl ⟨TLes.same _, TLes.same _, TLes.same _, TLes.same _, TLes.same _, TLes.same _, trivial⟩ ⟨rfl, rfl, trivial⟩ ?_
              refine RunW_nil ?_
              have hz := some_elim H
              subst hz
              exact rfl
            · replace H := ite_else h10 H
              refine AW2_st [(0, .c (.p ((fun q : List GGrant => AV.lst (q.flatMap GGrant.cs) q.length) l0))), (3, .c (.ptr 3 (0))), (8, .c (.own 8 left8_0.length 5)), (21, .c (.p ((fun q : List GGrant => AV.lst (q.flatMap GGrant.cs) q.length) l0))), (22, .c (.p (AV.int (l0.length : Int)))), (23, .c (.p (AV.int t23_0)))] [(3, .pure (GGrant.cs g1)), (8, .pure (left8_0.flatMap GGrant.cs))] rfl ⟨TLes.same _, TLes.same _, TLes.same _, TLes.same _, TLes.same _, TLes.same _, trivial⟩ ⟨rfl, rfl, trivial⟩ ?_
              refine AW2_skip ?_
              have hz := some_elim H
              subst hz
              exact rfl
          · refine AW2_reg [0, 1] rfl ?_
            refine r_op rfl rfl (PureD.opD (p_bin rfl rfl rfl rfl)) ?_
            refine r_op rfl rfl (PureD.opD (p_move rfl rfl)) ?_
            refine RunW_st [(0, .c (.p ((fun q : List GGrant => AV.lst (q.flatMap GGrant.cs) q.length) l0))), (3, .c (.ptr 3 (0))), (8, .c (.own 8 j'3.length 5)), (21, .c (.p ((fun q : List GGrant => AV.lst (q.flatMap GGrant.cs) q.length) l0))), (22, .c (.p (AV.int (l0.length : Int)))), (23, .c (.p (AV.int (w64 (t23_0 + (1 : Int))))))] [(3, .pure (GGrant.cs g1)), (8, .pure (j'3.flatMap GGrant.cs))] rfl ⟨TLes.same _, TLes.same _, TLes.same _, TLes.same _, TLes.same _, TLes.same _, trivial⟩ ⟨rfl, rfl, trivial⟩ ?_
            refine RunW_nil ?_
            have hz := some_elim H
            subst hz
            exact ⟨rfl, rfl⟩
        · replace H := ite_else h5 H
          refine AW2_st [(0, .c (.p ((fun q : List GGrant => AV.lst (q.flatMap GGrant.cs) q.length) l0))), (8, .c (.own 8 left8_0.length 5))] [(8, .pure (left8_0.flatMap GGrant.cs))] rfl ⟨TLes.same _, TLes.same _, trivial⟩ ⟨rfl, trivial⟩ ?_
          refine AW2_exit ?_
          refine thenQ2_exit ?_
          have hz := some_elim H
          subst hz
          exact ⟨rfl, rfl⟩
      · obtain ⟨rfl, rfl⟩ := hs
        refine ⟨by simp, ?_⟩
        refine blockQ2_exit ?_
        refine AW2_seq ?_
        refine AW2_seq ?_
        refine AW2_reg [0, 1, 2, 3, 4] rfl ?_
        refine r_op rfl rfl (PureD.opD (p_move rfl rfl)) ?_
        refine r_op rfl rfl (PureD.opD (p_leno rfl Try.underlying22 rfl rfl rfl (fm_length (fun x => (GGrant.len x)) y'9) (by decide))) ?_
        refine r_op rfl rfl (PureD.opD (p_move rfl rfl)) ?_
        refine r_op rfl rfl (PureD.opD (p_lenl rfl Try.underlying22 rfl rfl)) ?_
        refine r_op rfl rfl (PureD.opD (p_ieq rfl rfl rfl)) ?_
        refine RunW_st [(8, .c (.own 8 y'9.length 5)), (41, .c (.p (.bool (decide ((y'9.length : Int) = (l0.length : Int))))))] [(8, .pure (y'9.flatMap GGrant.cs))] rfl ⟨TLes.same _, TLes.same _, trivial⟩ ⟨rfl, trivial⟩ ?_
        refine RunW_nil ?_
        refine AW2_if (p := (y'9.length : Int) = (l0.length : Int)) rfl (fun h13 => ?_) (fun h13 => ?_)
        · replace H := ite_then h13 H
          refine AW2_seq ?_
          refine AW2_reg [0, 1] rfl ?_
          refine r_op rfl rfl (PureD.opD (p_asgn rfl)) ?_
          refine r_op rfl rfl (PureD.opD (p_asg rfl rfl)) ?_
          refine RunW_st [(4, .c (.p .nil)), (5, .c (.p (AV.int (5 : Int))))] [] rfl ⟨TLes.same _, TLes.same _, trivial⟩ trivial ?_
          refine RunW_nil ?_
          refine AW2_ret ?_
          have hz := some_elim H
          subst hz
          exact ⟨⟨res_tmp TLes.nil0, res_tmp (.same _), trivial⟩, trivial⟩
        · replace H := ite_else h13 H
          refine AW2_st [(8, .c (.own 8 y'9.length 5))] [(8, .pure (y'9.flatMap GGrant.cs))] rfl ⟨TLes.same _, trivial⟩ ⟨rfl, trivial⟩ ?_
          refine AW2_skip ?_
          refine AW2_seq ?_
          refine AW2_reg [0, 1, 2, 3] rfl ?_
          refine r_op rfl rfl (PureD.opD (p_move rfl rfl)) ?_
          refine RunW_gho (Gho_pubs [8, 42] ⟨rfl, rfl, trivial⟩ rfl (fm_length (fun x => (GGrant.len x)) y'9) (by decide)) ?_
          refine bindK H fun r'10 h14 H => ?_
          refine r_op rfl rfl (PureD.opD (p_callp rfl rfl rfl Try.func22 rfl rfl (g_right_held_ac h14) ⟨rfl, trivial⟩)) ?_
          refine r_op rfl rfl (PureD.opD (p_asg rfl rfl)) ?_
          refine r_op rfl rfl (PureD.opD (p_asg rfl rfl)) ?_
          refine RunW_st [(4, .c (.p ((fun q : List GGrant => AV.lst (q.flatMap GGrant.cs) q.length) r'10))), (5, .c (.p (AV.int (0 : Int))))] [] rfl ⟨TLes.same _, TLes.same _, trivial⟩ trivial ?_
          refine RunW_nil ?_
          refine AW2_ret ?_
          have hz := some_elim H
          subst hz
          exact ⟨⟨res_tmp (.same _), res_tmp (.same _), trivial⟩, trivial⟩

/-! chirographref.Taken -/
noncomputable def g_ref_Taken_l0 (l0 : List GGrant) (g1 : GGrant) : Int × (List GGrant) → Option ((Int × (List GGrant)) ⊕ (((List GGrant))))
  | (t23_0, out8_0) => (if t23_0 < (l0.length : Int) then (if 0 ≤ t23_0 ∧ t23_0 < (l0.length : Int) then (g_ref_rank (lrd l0 t23_0.toNat)).bind fun r'4 => (g_ref_rank g1).bind fun r'5 => (if r'4 ≠ r'5 then if room (out8_0.length + ([(lrd l0 t23_0.toNat)] : List GGrant).length) 40 then some (out8_0 ++ ([(lrd l0 t23_0.toNat)] : List GGrant)) else none else some out8_0) else none).bind fun j'3 => some (.inl (w64 (t23_0 + (1 : Int)), j'3)) else some (.inr out8_0))
noncomputable def g_ref_Taken (l0 : List GGrant) (g1 : GGrant) : Option ((List GGrant) × Int) :=
  (g_ref_GrantsFault l0).bind fun r'1 => (if r'1 ≠ (0 : Int) then some ([], r'1) else (g_ref_grantBounds g1).bind fun r'2 => (if r'2 ≠ (0 : Int) then some ([], r'2) else (loopO (g_ref_Taken_l0 l0 g1) ((0 : Int), ([] : List GGrant))).bind fun y'9 => (if (y'9.length : Int) = (l0.length : Int) then some ([], (5 : Int)) else (g_ref_Stands y'9).bind fun r'10 => some (r'10, (0 : Int)))))
set_option maxHeartbeats 4000000 in
set_option maxRecDepth 100000 in
theorem g_ref_Taken_ac {l0 : List GGrant} {g1 : GGrant} {r : (List GGrant) × Int} (H : g_ref_Taken l0 g1 = some r) : ACp Try.prog 11 [((fun q : List GGrant => AV.lst (q.flatMap GGrant.cs) q.length) l0), (.agg (GGrant.cs g1))] (.tup [((fun q : List GGrant => AV.lst (q.flatMap GGrant.cs) q.length) r.1), (AV.int r.2)]) := by
  refine ACp_of (AC2_of_body (vs := [.c (.p ((fun q : List GGrant => AV.lst (q.flatMap GGrant.cs) q.length) r.1)), .c (.p (AV.int r.2))]) Try.func11 rfl rfl (Nat.le_of_ble_eq_true rfl) rfl ?_) (fun _ => .same _)
  unfold g_ref_Taken at H
  refine AW2_st [(0, .c (.p ((fun q : List GGrant => AV.lst (q.flatMap GGrant.cs) q.length) l0))), (1, .c (.p (.agg (GGrant.cs g1))))] [] rfl ⟨TLes.same _, TLes.same _, trivial⟩ trivial ?_
  refine AW2_seq ?_
  refine AW2_reg [0, 1, 2] rfl ?_
  refine r_op rfl rfl (MakeD.opD (n_box 3 rfl rfl) rfl rfl rfl rfl) ?_
  refine r_op rfl rfl (PureD.opD (p_asgn rfl)) ?_
  refine r_op rfl rfl (PureD.opD (p_asg rfl rfl)) ?_
  refine RunW_st [(0, .c (.p ((fun q : List GGrant => AV.lst (q.flatMap GGrant.cs) q.length) l0))), (3, .c (.ptr 3 (0)))] [(3, .pure (GGrant.cs g1))] rfl ⟨TLes.same _, TLes.same _, trivial⟩ ⟨rfl, trivial⟩ ?_
  refine RunW_nil ?_
  refine AW2_seq ?_
  refine AW2_seq ?_
  refine AW2_reg [0, 1, 2] rfl ?_
  refine r_op rfl rfl (PureD.opD (p_move rfl rfl)) ?_
  refine bindK H fun r'1 h1 H => ?_
  refine r_op rfl rfl (PureD.opD (p_callp rfl rfl rfl Try.func9 rfl rfl (g_ref_GrantsFault_ac h1) ⟨rfl, trivial⟩)) ?_
  refine r_op rfl rfl (PureD.opD (p_asg rfl rfl)) ?_
  refine RunW_st [(0, .c (.p ((fun q : List GGrant => AV.lst (q.flatMap GGrant.cs) q.length) l0))), (3, .c (.ptr 3 (0))), (6, .c (.p (AV.int r'1)))] [(3, .pure (GGrant.cs g1))] rfl ⟨TLes.same _, TLes.same _, TLes.same _, trivial⟩ ⟨rfl, trivial⟩ ?_
  refine RunW_nil ?_
  refine AW2_seq ?_
  refine AW2_reg [0, 1] rfl ?_
  refine r_op rfl rfl (PureD.opD (p_move rfl rfl)) ?_
  refine r_op rfl rfl (PureD.opD (p_ine rfl rfl rfl)) ?_
  refine RunW_st [(0, .c (.p ((fun q : List GGrant => AV.lst (q.flatMap GGrant.cs) q.length) l0))), (3, .c (.ptr 3 (0))), (6, .c (.p (AV.int r'1))), (14, .c (.p (.bool (decide (r'1 ≠ (0 : Int))))))] [(3, .pure (GGrant.cs g1))] rfl ⟨TLes.same _, TLes.same _, TLes.same _, TLes.same _, trivial⟩ ⟨rfl, trivial⟩ ?_
  refine RunW_nil ?_
  refine AW2_if (p := r'1 ≠ (0 : Int)) rfl (fun h2 => ?_) (fun h2 => ?_)
  · replace H := ite_then h2 H
    refine AW2_seq ?_
    refine AW2_reg [0, 1, 2] rfl ?_
    refine r_op rfl rfl (PureD.opD (p_move rfl rfl)) ?_
    refine r_op rfl rfl (PureD.opD (p_asgn rfl)) ?_
    refine r_op rfl rfl (PureD.opD (p_asg rfl rfl)) ?_
    refine RunW_st [(4, .c (.p .nil)), (5, .c (.p (AV.int r'1)))] [] rfl ⟨TLes.same _, TLes.same _, trivial⟩ trivial ?_
    refine RunW_nil ?_
    refine AW2_ret ?_
    have hz := some_elim H
    subst hz
    exact ⟨⟨res_tmp TLes.nil0, res_tmp (.same _), trivial⟩, trivial⟩
  · replace H := ite_else h2 H
    refine AW2_st [(0, .c (.p ((fun q : List GGrant => AV.lst (q.flatMap GGrant.cs) q.length) l0))), (3, .c (.ptr 3 (0)))] [(3, .pure (GGrant.cs g1))] rfl ⟨TLes.same _, TLes.same _, trivial⟩ ⟨rfl, trivial⟩ ?_
    refine AW2_skip ?_
    refine AW2_seq ?_
    refine AW2_seq ?_
    refine AW2_reg [0, 1, 2] rfl ?_
    refine r_op rfl rfl (PureD.opD (u_lda rfl rfl Try.underlying27 rfl in_27 rfl (Nat.succ_pos _) (Sub.refl _) (GGrant.len g1))) ?_
    refine bindK H fun r'2 h3 H => ?_
    refine r_op rfl rfl (PureD.opD (p_callp rfl rfl rfl Try.func23 rfl rfl (g_ref_grantBounds_ac h3) ⟨rfl, trivial⟩)) ?_
    refine r_op rfl rfl (PureD.opD (p_asg rfl rfl)) ?_
    refine RunW_st [(0, .c (.p ((fun q : List GGrant => AV.lst (q.flatMap GGrant.cs) q.length) l0))), (3, .c (.ptr 3 (0))), (7, .c (.p (AV.int r'2)))] [(3, .pure (GGrant.cs g1))] rfl ⟨TLes.same _, TLes.same _, TLes.same _, trivial⟩ ⟨rfl, trivial⟩ ?_
    refine RunW_nil ?_
    refine AW2_seq ?_
    refine AW2_reg [0, 1] rfl ?_
    refine r_op rfl rfl (PureD.opD (p_move rfl rfl)) ?_
    refine r_op rfl rfl (PureD.opD (p_ine rfl rfl rfl)) ?_
    refine RunW_st [(0, .c (.p ((fun q : List GGrant => AV.lst (q.flatMap GGrant.cs) q.length) l0))), (3, .c (.ptr 3 (0))), (7, .c (.p (AV.int r'2))), (19, .c (.p (.bool (decide (r'2 ≠ (0 : Int))))))] [(3, .pure (GGrant.cs g1))] rfl ⟨TLes.same _, TLes.same _, TLes.same _, TLes.same _, trivial⟩ ⟨rfl, trivial⟩ ?_
    refine RunW_nil ?_
    refine AW2_if (p := r'2 ≠ (0 : Int)) rfl (fun h4 => ?_) (fun h4 => ?_)
    · replace H := ite_then h4 H
      refine AW2_seq ?_
      refine AW2_reg [0, 1, 2] rfl ?_
      refine r_op rfl rfl (PureD.opD (p_move rfl rfl)) ?_
      refine r_op rfl rfl (PureD.opD (p_asgn rfl)) ?_
      refine r_op rfl rfl (PureD.opD (p_asg rfl rfl)) ?_
      refine RunW_st [(4, .c (.p .nil)), (5, .c (.p (AV.int r'2)))] [] rfl ⟨TLes.same _, TLes.same _, trivial⟩ trivial ?_
      refine RunW_nil ?_
      refine AW2_ret ?_
      have hz := some_elim H
      subst hz
      exact ⟨⟨res_tmp TLes.nil0, res_tmp (.same _), trivial⟩, trivial⟩
    · replace H := ite_else h4 H
      refine AW2_st [(0, .c (.p ((fun q : List GGrant => AV.lst (q.flatMap GGrant.cs) q.length) l0))), (3, .c (.ptr 3 (0)))] [(3, .pure (GGrant.cs g1))] rfl ⟨TLes.same _, TLes.same _, trivial⟩ ⟨rfl, trivial⟩ ?_
      refine AW2_skip ?_
      refine AW2_seq ?_
      refine AW2_reg [0] rfl ?_
      refine r_op rfl rfl (PureD.opD (p_asgn rfl)) ?_
      refine RunW_st [(0, .c (.p ((fun q : List GGrant => AV.lst (q.flatMap GGrant.cs) q.length) l0))), (3, .c (.ptr 3 (0))), (8, .c (.p .nil))] [(3, .pure (GGrant.cs g1))] rfl ⟨TLes.same _, TLes.same _, TLes.same _, trivial⟩ ⟨rfl, trivial⟩ ?_
      refine RunW_nil ?_
      refine AW2_seq ?_
      refine AW2_seq ?_
      refine AW2_reg [0, 1, 2] rfl ?_
      refine r_op rfl rfl (PureD.opD (p_move rfl rfl)) ?_
      refine r_op rfl rfl (PureD.opD (p_lenl rfl Try.underlying22 rfl rfl)) ?_
      refine r_op rfl rfl (PureD.opD (p_move rfl rfl)) ?_
      refine RunW_st [(0, .c (.p ((fun q : List GGrant => AV.lst (q.flatMap GGrant.cs) q.length) l0))), (3, .c (.ptr 3 (0))), (8, .c (.p .nil)), (21, .c (.p ((fun q : List GGrant => AV.lst (q.flatMap GGrant.cs) q.length) l0))), (22, .c (.p (AV.int (l0.length : Int)))), (23, .c (.p (AV.int (0 : Int))))] [(3, .pure (GGrant.cs g1))] rfl ⟨TLes.same _, TLes.same _, TLes.same _, TLes.same _, TLes.same _, TLes.same _, trivial⟩ ⟨rfl, trivial⟩ ?_
      refine RunW_nil ?_
      refine AW2_block ?_
      refine AW2_st [(0, .c (.p ((fun q : List GGrant => AV.lst (q.flatMap GGrant.cs) q.length) l0))), (3, .c (.ptr 3 (0))), (8, .c (.p .nil)), (21, .c (.p ((fun q : List GGrant => AV.lst (q.flatMap GGrant.cs) q.length) l0))), (22, .c (.p (AV.int (l0.length : Int)))), (23, .c (.p (AV.int (0 : Int))))] [(3, .pure (GGrant.cs g1))] rfl ⟨TLes.same _, TLes.same _, TLes.same _, TLes.same _, TLes.same _, TLes.same _, trivial⟩ ⟨rfl, trivial⟩ ?_
      refine AW2_gho (Gho_own (d := 8) (b := 8) (z := 5) rfl rfl rfl rfl) ?_
      refine AW2_st [(0, .c (.p ((fun q : List GGrant => AV.lst (q.flatMap GGrant.cs) q.length) l0))), (3, .c (.ptr 3 (0))), (8, .c (.own 8 ([] : List GGrant).length 5)), (21, .c (.p ((fun q : List GGrant => AV.lst (q.flatMap GGrant.cs) q.length) l0))), (22, .c (.p (AV.int (l0.length : Int)))), (23, .c (.p (AV.int (0 : Int))))] [(3, .pure (GGrant.cs g1)), (8, .pure (([] : List GGrant).flatMap GGrant.cs))] rfl ⟨TLes.same _, TLes.same _, TLes.own rfl, TLes.same _, TLes.same _, TLes.same _, trivial⟩ ⟨rfl, rfl, trivial⟩ ?_
      refine bindK H fun y'9 h12 H => ?_
      refine AW2_loopO (fun a'6 : Int × (List GGrant) => (⟨[(0, .c (.p ((fun q : List GGrant => AV.lst (q.flatMap GGrant.cs) q.length) l0))), (3, .c (.ptr 3 (0))), (8, .c (.own 8 a'6.2.length 5)), (21, .c (.p ((fun q : List GGrant => AV.lst (q.flatMap GGrant.cs) q.length) l0))), (22, .c (.p (AV.int (l0.length : Int)))), (23, .c (.p (AV.int a'6.1)))], [(3, .pure (GGrant.cs g1)), (8, .pure (a'6.2.flatMap GGrant.cs))], 44⟩ : TS)) (fun (y'7 : ((List GGrant))) e s' => e = Go.Exit.exit 0 ∧ s' = (⟨[(0, .c (.p ((fun q : List GGrant => AV.lst (q.flatMap GGrant.cs) q.length) l0))), (8, .c (.own 8 y'7.length 5))], [(8, .pure (y'7.flatMap GGrant.cs))], 44⟩ : TS)) h12 rfl (fun a x hx => ?_) (fun e s' hs => ?_)
      · clear H
        obtain ⟨t23_0, out8_0⟩ := a
        have H := hx
        clear hx
        unfold g_ref_Taken_l0 at H
        refine AW2_seq ?_
        refine AW2_reg [0] rfl ?_
        refine r_op rfl rfl (PureD.opD (p_bin rfl rfl rfl rfl)) ?_
        refine RunW_st [(0, .c (.p ((fun q : List GGrant => AV.lst (q.flatMap GGrant.cs) q.length) l0))), (3, .c (.ptr 3 (0))), (8, .c (.own 8 out8_0.length 5)), (21, .c (.p ((fun q : List GGrant => AV.lst (q.flatMap GGrant.cs) q.length) l0))), (22, .c (.p (AV.int (l0.length : Int)))), (23, .c (.p (AV.int t23_0))), (24, .c (.p (.bool (decide (t23_0 < (l0.length : Int))))))] [(3, .pure (GGrant.cs g1)), (8, .pure (out8_0.flatMap GGrant.cs))] rfl ⟨TLes.same _, TLes.same _, TLes.same _, TLes.same _, TLes.same _, TLes.same _, TLes.same _, trivial⟩ ⟨rfl, rfl, trivial⟩ ?_
        refine RunW_nil ?_
        refine AW2_seq ?_
        refine AW2_if (p := t23_0 < (l0.length : Int)) rfl (fun h5 => ?_) (fun h5 => ?_)
        · replace H := ite_then h5 H
          refine AW2_st [(0, .c (.p ((fun q : List GGrant => AV.lst (q.flatMap GGrant.cs) q.length) l0))), (3, .c (.ptr 3 (0))), (8, .c (.own 8 out8_0.length 5)), (21, .c (.p ((fun q : List GGrant => AV.lst (q.flatMap GGrant.cs) q.length) l0))), (22, .c (.p (AV.int (l0.length : Int)))), (23, .c (.p (AV.int t23_0)))] [(3, .pure (GGrant.cs g1)), (8, .pure (out8_0.flatMap GGrant.cs))] rfl ⟨TLes.same _, TLes.same _, TLes.same _, TLes.same _, TLes.same _, TLes.same _, trivial⟩ ⟨rfl, rfl, trivial⟩ ?_
          refine AW2_skip ?_
          refine AW2_seq ?_
          refine bindK H fun j'3 h6 H => ?_
          refine AW2_mid (⟨[(0, .c (.p ((fun q : List GGrant => AV.lst (q.flatMap GGrant.cs) q.length) l0))), (3, .c (.ptr 3 (0))), (8, .c (.own 8 j'3.length 5)), (21, .c (.p ((fun q : List GGrant => AV.lst (q.flatMap GGrant.cs) q.length) l0))), (22, .c (.p (AV.int (l0.length : Int)))), (23, .c (.p (AV.int t23_0)))], [(3, .pure (GGrant.cs g1)), (8, .pure (j'3.flatMap GGrant.cs))], 44⟩ : TS) ?_ ?_
          · clear H
            have H := h6
            clear h6
            refine AW2_block ?_
            refine AW2_seq ?_
            refine AW2_reg [0, 1, 2, 3] rfl ?_
            refine chkK H fun h7 H => ?_
            refine r_op rfl rfl (PureD.opD (u_ixl rfl rfl Try.underlying22 in_27 rfl rfl (ixe h7) (ixn h7) (fne (fun x => (GGrant.len x)) (by decide) (ixn h7)))) ?_
            refine r_op rfl rfl (PureD.opD (u_lda rfl rfl Try.underlying27 rfl in_27 rfl (Nat.succ_pos _) (Sub.fm default (fun x => (GGrant.len x)) (ixn h7)) (GGrant.len (lrd l0 t23_0.toNat)))) ?_
            refine r_op rfl rfl (MakeD.opD (u_alloc 10 rfl in_27 one_27 zc_27) rfl rfl rfl rfl) ?_
            refine r_op rfl rfl (u_st rfl rfl rfl rfl rfl in_27 (GGrant.len (lrd l0 t23_0.toNat)) (ne_of_lt (n := 0) (Nat.lt_of_lt_of_eq (by decide) (Eq.symm (GGrant.len GGrant.zero)))) (Upd.refl ((GGrant.len (lrd l0 t23_0.toNat)).trans (GGrant.len GGrant.zero).symm))) ?_
            refine RunW_st [(0, .c (.p ((fun q : List GGrant => AV.lst (q.flatMap GGrant.cs) q.length) l0))), (3, .c (.ptr 3 (0))), (8, .c (.own 8 out8_0.length 5)), (10, .c (.ptr 10 (0))), (21, .c (.p ((fun q : List GGrant => AV.lst (q.flatMap GGrant.cs) q.length) l0))), (22, .c (.p (AV.int (l0.length : Int)))), (23, .c (.p (AV.int t23_0)))] [(3, .pure (GGrant.cs g1)), (8, .pure (out8_0.flatMap GGrant.cs)), (10, .pure (GGrant.cs (lrd l0 t23_0.toNat)))] rfl ⟨TLes.same _, TLes.same _, TLes.same _, TLes.same _, TLes.same _, TLes.same _, TLes.same _, trivial⟩ ⟨rfl, rfl, rfl, trivial⟩ ?_
            refine RunW_nil ?_
            refine AW2_seq ?_
            refine bindK H fun r'4 h8 H => ?_
            refine bindK H fun r'5 h9 H => ?_
            refine AW2_ghoQ ?_
            refine AW2_draw 3 [3, 4] (fun k => ([.c (.p (.agg (GGrant.cs (lrd l0 t23_0.toNat)))), .c (.p (AV.int r'4)), .c (.p (.agg (GGrant.cs g1)))] : List TV).getD k TV.any) (fun k => ([[(10, none)], [(27, some 0)], [(3, none)]] : List (List (Nat × Option Nat))).getD k []) [(0, none), (3, none), (8, none), (10, none), (21, none), (22, none), (23, none), (28, some 1), (29, some 2)] [] (fun k => ([[], [0], [], [0, 1, 2], [0, 1, 2, 3]] : List (List Nat)).getD k []) mixed (by kernel_rfl) rfl rfl (a_op (g_x rfl (x_p rfl (u_lda rfl rfl Try.underlying27 rfl in_27 rfl (Nat.succ_pos _) (Sub.refl _) (GGrant.len (lrd l0 t23_0.toNat))) rfl)) (a_op (g_x rfl (x_p rfl (p_callp rfl rfl rfl Try.func24 rfl rfl (g_ref_rank_ac h8) ⟨rfl, trivial⟩) rfl)) (a_op (g_x rfl (x_p rfl (u_lda rfl rfl Try.underlying27 rfl in_27 rfl (Nat.succ_pos _) (Sub.refl _) (GGrant.len g1)) rfl)) (a_nil)))) ?_
            refine t_op rfl rfl (PureD.opD (p_callp rfl rfl rfl Try.func24 rfl rfl (g_ref_rank_ac h9) ⟨rfl, trivial⟩)) ?_
            refine t_op rfl rfl (PureD.opD (p_ine rfl rfl rfl)) ?_
            refine t_gho (Gho_st (L := [(0, .c (.p ((fun q : List GGrant => AV.lst (q.flatMap GGrant.cs) q.length) l0))), (3, .c (.ptr 3 (0))), (8, .c (.own 8 out8_0.length 5)), (10, .c (.ptr 10 (0))), (21, .c (.p ((fun q : List GGrant => AV.lst (q.flatMap GGrant.cs) q.length) l0))), (22, .c (.p (AV.int (l0.length : Int)))), (23, .c (.p (AV.int t23_0))), (31, .c (.p (.bool (decide (r'4 ≠ r'5)))))]) (H := [(3, .pure (GGrant.cs g1)), (8, .pure (out8_0.flatMap GGrant.cs)), (10, .pure (GGrant.cs (lrd l0 t23_0.toNat)))]) rfl ⟨TLes.same _, TLes.same _, TLes.same _, TLes.same _, TLes.same _, TLes.same _, TLes.same _, TLes.same _, trivial⟩ ⟨rfl, rfl, rfl, trivial⟩) ?_
            refine AW2_if (p := r'4 ≠ r'5) rfl (fun h10 => ?_) (fun h10 => ?_)
            · replace H := ite_then h10 H
              refine AW2_reg [0, 1, 2, 3, 4] rfl ?_
              refine r_op rfl rfl (PureD.opD (p_move rfl rfl)) ?_
              refine r_op rfl rfl (PureD.opD (u_lda rfl rfl Try.underlying27 rfl in_27 rfl (Nat.succ_pos _) (Sub.refl _) (GGrant.len (lrd l0 t23_0.toNat)))) ?_
              refine r_op rfl rfl (MakeD.opD (u_bs 34 rfl Try.underlying22 in_27 rfl one_27 (by decide) (by decide) rfl rfl rfl) rfl rfl rfl rfl) ?_
              refine chkK H fun h11 H => ?_
              refine r_op rfl rfl (u_app [8, 32] rfl rfl rfl rfl Try.underlying22 Try.underlying22 in_27 rfl rfl rfl (fm_length (fun x => (GGrant.len x)) out8_0) (by decide) (srcT_o rfl rfl (fm_length (fun x => (GGrant.len x)) ([(lrd l0 t23_0.toNat)] : List GGrant)) (by decide)) (fm_length (fun x => (GGrant.len x)) ([(lrd l0 t23_0.toNat)] : List GGrant)) h11 (by decide) rfl rfl (fapp GGrant.cs out8_0 ([(lrd l0 t23_0.toNat)] : List GGrant)) (lapp out8_0 ([(lrd l0 t23_0.toNat)] : List GGrant))) ?_
              refine r_op rfl rfl (PureD.opD (p_asg rfl rfl)) ?_
              refine RunW_st [(0, .c (.p ((fun q : List GGrant => AV.lst (q.flatMap GGrant.cs) q.length) l0))), (3, .c (.ptr 3 (0))), (8, .c (.own 8 (out8_0 ++ ([(lrd l0 t23_0.toNat)] : List GGrant)).length 5)), (21, .c (.p ((fun q : List GGrant => AV.lst (q.flatMap GGrant.cs) q.length) l0))), (22, .c (.p (AV.int (l0.length : Int)))), (23, .c (.p (AV.int t23_0)))] [(3, .pure (GGrant.cs g1)), (8, .pure ((out8_0 ++ ([(lrd l0 t23_0.toNat)] : List GGrant)).flatMap GGrant.cs))] rfl ⟨TLes.same _, TLes.same _, TLes.same _, TLes.same _, TLes.same _, TLes.same _, trivial⟩ ⟨rfl, rfl, trivial⟩ ?_
              refine RunW_nil ?_
              have hz := some_elim H
              subst hz
              exact rfl
            · replace H := ite_else h10 H
              refine AW2_st [(0, .c (.p ((fun q : List GGrant => AV.lst (q.flatMap GGrant.cs) q.length) l0))), (3, .c (.ptr 3 (0))), (8, .c (.own 8 out8_0.length 5)), (21, .c (.p ((fun q : List GGrant => AV.lst (q.flatMap GGrant.cs) q.length) l0))), (22, .c (.p (AV.int (l0.length : Int)))), (23, .c (.p (AV.int t23_0)))] [(3, .pure (GGrant.cs g1)), (8, .pure (out8_0.flatMap GGrant.cs))] rfl ⟨TLes.same _, TLes.same _, TLes.same _, TLes.same _, TLes.same _, TLes.same _, trivial⟩ ⟨rfl, rfl, trivial⟩ ?_
              refine AW2_skip ?_
              have hz := some_elim H
              subst hz
              exact rfl
          · refine AW2_reg [0, 1] rfl ?_
            refine r_op rfl rfl (PureD.opD (p_bin rfl rfl rfl rfl)) ?_
            refine r_op rfl rfl (PureD.opD (p_move rfl rfl)) ?_
            refine RunW_st [(0, .c (.p ((fun q : List GGrant => AV.lst (q.flatMap GGrant.cs) q.length) l0))), (3, .c (.ptr 3 (0))), (8, .c (.own 8 j'3.length 5)), (21, .c (.p ((fun q : List GGrant => AV.lst (q.flatMap GGrant.cs) q.length) l0))), (22, .c (.p (AV.int (l0.length : Int)))), (23, .c (.p (AV.int (w64 (t23_0 + (1 : Int))))))] [(3, .pure (GGrant.cs g1)), (8, .pure (j'3.flatMap GGrant.cs))] rfl ⟨TLes.same _, TLes.same _, TLes.same _, TLes.same _, TLes.same _, TLes.same _, trivial⟩ ⟨rfl, rfl, trivial⟩ ?_
            refine RunW_nil ?_
            have hz := some_elim H
            subst hz
            exact ⟨rfl, rfl⟩
        · replace H := ite_else h5 H
          refine AW2_st [(0, .c (.p ((fun q : List GGrant => AV.lst (q.flatMap GGrant.cs) q.length) l0))), (8, .c (.own 8 out8_0.length 5))] [(8, .pure (out8_0.flatMap GGrant.cs))] rfl ⟨TLes.same _, TLes.same _, trivial⟩ ⟨rfl, trivial⟩ ?_
          refine AW2_exit ?_
          refine thenQ2_exit ?_
          have hz := some_elim H
          subst hz
          exact ⟨rfl, rfl⟩
      · obtain ⟨rfl, rfl⟩ := hs
        refine ⟨by simp, ?_⟩
        refine blockQ2_exit ?_
        refine AW2_seq ?_
        refine AW2_seq ?_
        refine AW2_reg [0, 1, 2, 3, 4] rfl ?_
        refine r_op rfl rfl (PureD.opD (p_move rfl rfl)) ?_
        refine r_op rfl rfl (PureD.opD (p_leno rfl Try.underlying22 rfl rfl rfl (fm_length (fun x => (GGrant.len x)) y'9) (by decide))) ?_
        refine r_op rfl rfl (PureD.opD (p_move rfl rfl)) ?_
        refine r_op rfl rfl (PureD.opD (p_lenl rfl Try.underlying22 rfl rfl)) ?_
        refine r_op rfl rfl (PureD.opD (p_ieq rfl rfl rfl)) ?_
        refine RunW_st [(8, .c (.own 8 y'9.length 5)), (41, .c (.p (.bool (decide ((y'9.length : Int) = (l0.length : Int))))))] [(8, .pure (y'9.flatMap GGrant.cs))] rfl ⟨TLes.same _, TLes.same _, trivial⟩ ⟨rfl, trivial⟩ ?_
        refine RunW_nil ?_
        refine AW2_if (p := (y'9.length : Int) = (l0.length : Int)) rfl (fun h13 => ?_) (fun h13 => ?_)
        · replace H := ite_then h13 H
          refine AW2_seq ?_
          refine AW2_reg [0, 1] rfl ?_
          refine r_op rfl rfl (PureD.opD (p_asgn rfl)) ?_
          refine r_op rfl rfl (PureD.opD (p_asg rfl rfl)) ?_
          refine RunW_st [(4, .c (.p .nil)), (5, .c (.p (AV.int (5 : Int))))] [] rfl ⟨TLes.same _, TLes.same _, trivial⟩ trivial ?_
          refine RunW_nil ?_
          refine AW2_ret ?_
          have hz := some_elim H
          subst hz
          exact ⟨⟨res_tmp TLes.nil0, res_tmp (.same _), trivial⟩, trivial⟩
        · replace H := ite_else h13 H
          refine AW2_st [(8, .c (.own 8 y'9.length 5))] [(8, .pure (y'9.flatMap GGrant.cs))] rfl ⟨TLes.same _, trivial⟩ ⟨rfl, trivial⟩ ?_
          refine AW2_skip ?_
          refine AW2_seq ?_
          refine AW2_reg [0, 1, 2, 3] rfl ?_
          refine r_op rfl rfl (PureD.opD (p_move rfl rfl)) ?_
          refine RunW_gho (Gho_pubs [8, 42] ⟨rfl, rfl, trivial⟩ rfl (fm_length (fun x => (GGrant.len x)) y'9) (by decide)) ?_
          refine bindK H fun r'10 h14 H => ?_
          refine r_op rfl rfl (PureD.opD (p_callp rfl rfl rfl Try.func25 rfl rfl (g_ref_Stands_ac h14) ⟨rfl, trivial⟩)) ?_
          refine r_op rfl rfl (PureD.opD (p_asg rfl rfl)) ?_
          refine r_op rfl rfl (PureD.opD (p_asg rfl rfl)) ?_
          refine RunW_st [(4, .c (.p ((fun q : List GGrant => AV.lst (q.flatMap GGrant.cs) q.length) r'10))), (5, .c (.p (AV.int (0 : Int))))] [] rfl ⟨TLes.same _, TLes.same _, trivial⟩ trivial ?_
          refine RunW_nil ?_
          refine AW2_ret ?_
          have hz := some_elim H
          subst hz
          exact ⟨⟨res_tmp (.same _), res_tmp (.same _), trivial⟩, trivial⟩
end Go.Proofs.Ytgbfmldbbnhefaa.VM
