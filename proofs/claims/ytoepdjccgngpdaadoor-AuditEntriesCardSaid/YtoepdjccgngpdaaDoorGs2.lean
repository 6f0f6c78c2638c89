/- Functions of the program, as they answer, and that their code comes to these answers. -/
import Derived.Test.YtoepdjccgngpdaaDoorGs1
namespace Go.Proofs.YtoepdjccgngpdaaDoor.VM
open Go Go.RowKit



/-! sum.Sum -/
noncomputable def g_sum_Sum (b0 : List UInt8) : Option ((Vector UInt8 32)) :=
  (g_sum_Begin).bind fun r'1 => (g_sum_feed r'1 b0).bind fun r'2 => (g_sum_end r'2).bind fun r'3 => some r'3
set_option maxHeartbeats 4000000 in
set_option maxRecDepth 100000 in
theorem g_sum_Sum_ac {b0 : List UInt8} {r : (Vector UInt8 32)} (H : g_sum_Sum b0 = some r) : ACp Tryd.prog 12 [(AV.bytes b0)] (.agg (bcells r.toList)) := by
  refine ACp_of (AC2_of_body (vs := [.c (.p (.agg (bcells r.toList)))]) Tryd.func12 rfl rfl (Nat.le_of_ble_eq_true rfl) rfl ?_) (fun _ => .same _)
  unfold g_sum_Sum at H
  refine AW2_st [(0, .c (.p (AV.bytes b0)))] [] rfl ⟨TLes.same _, trivial⟩ trivial ?_
  refine AW2_seq ?_
  refine AW2_reg [0] rfl ?_
  refine r_op rfl rfl (MakeD.opD (u_alloc 2 rfl in_23 one_23 zc_23) rfl rfl rfl rfl) ?_
  refine RunW_st [(0, .c (.p (AV.bytes b0))), (2, .c (.ptr 2 (0)))] [(2, .pure (bcells ((Vector.replicate 32 (0 : UInt8)).toList)))] rfl ⟨TLes.same _, TLes.same _, trivial⟩ ⟨rfl, trivial⟩ ?_
  refine RunW_nil ?_
  refine AW2_seq ?_
  refine AW2_reg [0, 1, 2, 3, 4] rfl ?_
  refine bindK H fun r'1 h1 H => ?_
  refine r_op rfl rfl (PureD.opD (p_callp rfl rfl rfl Tryd.func16 rfl rfl (g_sum_Begin_ac h1) trivial)) ?_
  refine r_op rfl rfl (PureD.opD (p_move rfl rfl)) ?_
  refine bindK H fun r'2 h2 H => ?_
  refine r_op rfl rfl (PureD.opD (p_callp rfl rfl rfl Tryd.func34 rfl rfl (g_sum_feed_ac h2) ⟨rfl, rfl, trivial⟩)) ?_
  refine bindK H fun r'3 h3 H => ?_
  refine r_op rfl rfl (PureD.opD (p_callp rfl rfl rfl Tryd.func33 rfl rfl (g_sum_end_ac h3) ⟨rfl, trivial⟩)) ?_
  refine r_op rfl rfl (u_st rfl rfl rfl rfl rfl in_23 ((bcells_length _).trans (vlen r'3)) (ne_of_lt (n := 0) (Nat.lt_of_lt_of_eq (by decide) (Eq.symm ((bcells_length _).trans (vlen (Vector.replicate 32 (0 : UInt8))))))) (Upd.refl (((bcells_length _).trans (vlen r'3)).trans ((bcells_length _).trans (vlen (Vector.replicate 32 (0 : UInt8)))).symm))) ?_
  refine RunW_st [(2, .c (.ptr 2 (0)))] [(2, .pure (bcells r'3.toList))] rfl ⟨TLes.same _, trivial⟩ ⟨rfl, trivial⟩ ?_
  refine RunW_nil ?_
  refine AW2_ret ?_
  have hz := some_elim H
  subst hz
  exact ⟨⟨res_cella Tryd.underlying23 rfl in_23.sz rfl (Sub.le (Sub.refl _) ((bcells_length _).trans (vlen r'3))) (by decide) (Sub.take (Sub.refl _) ((bcells_length _).trans (vlen r'3))), trivial⟩, trivial⟩

/-! chirographref.hexWord -/
noncomputable def g_ref_hexWord_l0 (t17'1 : Int) (t16'2 : List UInt8) : UInt32 × Int → Option ((UInt32 × Int) ⊕ (UInt32))
  | (n5_0, t18_0) => (if t18_0 < t17'1 then if 0 ≤ t18_0 ∧ t18_0 < (t16'2.length : Int) then ((if (97 : UInt8) ≤ (lrd t16'2 t18_0.toNat) then some (((lrd t16'2 t18_0.toNat) - (97 : UInt8)) + (10 : UInt8)) else some ((lrd t16'2 t18_0.toNat) - (48 : UInt8)))).bind fun j'3 => some (.inl ((n5_0 * (16 : UInt32)) + j'3.toUInt32, w64 (t18_0 + (1 : Int)))) else none else some (.inr n5_0))
noncomputable def g_ref_hexWord (s0 : List UInt8) (i1 : Int) : Option (UInt32) :=
  if 0 ≤ w64 ((8 : Int) * i1) ∧ w64 ((8 : Int) * i1) ≤ w64 ((w64 ((8 : Int) * i1)) + (8 : Int)) ∧ w64 ((w64 ((8 : Int) * i1)) + (8 : Int)) ≤ (s0.length : Int) then letO (((cut s0 (w64 ((8 : Int) * i1)) (w64 ((w64 ((8 : Int) * i1)) + (8 : Int)))).length : Int)) fun t17'1 => letO ((cut s0 (w64 ((8 : Int) * i1)) (w64 ((w64 ((8 : Int) * i1)) + (8 : Int))))) fun t16'2 => (loopO (g_ref_hexWord_l0 t17'1 t16'2) ((0 : UInt32), (0 : Int))).bind fun y'7 => some y'7 else none
set_option maxHeartbeats 4000000 in
set_option maxRecDepth 100000 in
theorem g_ref_hexWord_ac {s0 : List UInt8} {i1 : Int} {r : UInt32} (H : g_ref_hexWord s0 i1 = some r) : ACp Tryd.prog 40 [(AV.txt s0), (AV.int i1)] (AV.u32 r) := by
  refine ACp_of (AC2_of_body (vs := [.c (.p (AV.u32 r))]) Tryd.func40 rfl rfl (Nat.le_of_ble_eq_true rfl) rfl ?_) (fun _ => .same _)
  unfold g_ref_hexWord at H
  refine AW2_st [(0, .c (.p (AV.txt s0))), (1, .c (.p (AV.int i1)))] [] rfl ⟨TLes.same _, TLes.same _, trivial⟩ trivial ?_
  refine AW2_seq ?_
  refine AW2_reg [0] rfl ?_
  refine r_op rfl rfl (PureD.opD (p_asg rfl rfl)) ?_
  refine RunW_st [(0, .c (.p (AV.txt s0))), (1, .c (.p (AV.int i1)))] [] rfl ⟨TLes.same _, TLes.same _, trivial⟩ trivial ?_
  refine RunW_nil ?_
  refine AW2_seq ?_
  refine AW2_reg [0] rfl ?_
  refine r_op rfl rfl (PureD.opD (p_asg rfl rfl)) ?_
  refine RunW_st [(0, .c (.p (AV.txt s0))), (1, .c (.p (AV.int i1))), (5, .c (.p (AV.u32 (0 : UInt32))))] [] rfl ⟨TLes.same _, TLes.same _, TLes.same _, trivial⟩ trivial ?_
  refine RunW_nil ?_
  refine AW2_seq ?_
  refine AW2_seq ?_
  refine AW2_reg [0, 1, 2, 3, 4, 5, 6, 7, 8, 9] rfl ?_
  refine r_op rfl rfl (PureD.opD (p_move rfl rfl)) ?_
  refine r_op rfl rfl (PureD.opD (p_move rfl rfl)) ?_
  refine r_op rfl rfl (PureD.opD (p_bin rfl rfl rfl rfl)) ?_
  refine r_op rfl rfl (PureD.opD (p_move rfl rfl)) ?_
  refine r_op rfl rfl (PureD.opD (p_bin rfl rfl rfl rfl)) ?_
  refine r_op rfl rfl (PureD.opD (p_bin rfl rfl rfl rfl)) ?_
  refine chkK H fun h1 H => ?_
  refine r_op rfl rfl (PureD.opD (u_cutt (a := w64 ((8 : Int) * i1)) (b := w64 ((w64 ((8 : Int) * i1)) + (8 : Int))) rfl Tryd.underlying9 rfl (bT_i (show 0 ≤ w64 ((8 : Int) * i1) ∧ w64 ((8 : Int) * i1) ≤ w64 ((w64 ((8 : Int) * i1)) + (8 : Int)) ∧ w64 ((w64 ((8 : Int) * i1)) + (8 : Int)) ≤ (s0.length : Int) from h1).1 rfl) (bT_i (Int.le_trans (show 0 ≤ w64 ((8 : Int) * i1) ∧ w64 ((8 : Int) * i1) ≤ w64 ((w64 ((8 : Int) * i1)) + (8 : Int)) ∧ w64 ((w64 ((8 : Int) * i1)) + (8 : Int)) ≤ (s0.length : Int) from h1).1 (show 0 ≤ w64 ((8 : Int) * i1) ∧ w64 ((8 : Int) * i1) ≤ w64 ((w64 ((8 : Int) * i1)) + (8 : Int)) ∧ w64 ((w64 ((8 : Int) * i1)) + (8 : Int)) ≤ (s0.length : Int) from h1).2.1) rfl) (show 0 ≤ w64 ((8 : Int) * i1) ∧ w64 ((8 : Int) * i1) ≤ w64 ((w64 ((8 : Int) * i1)) + (8 : Int)) ∧ w64 ((w64 ((8 : Int) * i1)) + (8 : Int)) ≤ (s0.length : Int) from h1))) ?_
  refine r_op rfl rfl (MakeD.opD (n_sb 16 rfl Tryd.underlying9 Tryd.underlying22 Tryd.underlying5 rfl) rfl rfl rfl rfl) ?_
  refine r_op rfl rfl (PureD.opD (p_leno rfl Tryd.underlying22 rfl rfl rfl (bl (cut s0 (w64 ((8 : Int) * i1)) (w64 ((w64 ((8 : Int) * i1)) + (8 : Int))))) (by decide))) ?_
  refine r_op rfl rfl (PureD.opD (p_move rfl rfl)) ?_
  refine RunW_st [(5, .c (.p (AV.u32 (0 : UInt32)))), (16, .c (.own 16 (cut s0 (w64 ((8 : Int) * i1)) (w64 ((w64 ((8 : Int) * i1)) + (8 : Int)))).length 1)), (17, .c (.p (AV.int ((cut s0 (w64 ((8 : Int) * i1)) (w64 ((w64 ((8 : Int) * i1)) + (8 : Int)))).length : Int)))), (18, .c (.p (AV.int (0 : Int))))] [(16, .pure (bcells (cut s0 (w64 ((8 : Int) * i1)) (w64 ((w64 ((8 : Int) * i1)) + (8 : Int))))))] rfl ⟨TLes.same _, TLes.same _, TLes.same _, TLes.same _, trivial⟩ ⟨rfl, trivial⟩ ?_
  refine RunW_nil ?_
  refine gen1 (fun t17'1 => (⟨[(5, .c (.p (AV.u32 (0 : UInt32)))), (16, .c (.own 16 (cut s0 (w64 ((8 : Int) * i1)) (w64 ((w64 ((8 : Int) * i1)) + (8 : Int)))).length 1)), (17, .c (.p (AV.int t17'1))), (18, .c (.p (AV.int (0 : Int))))], [(16, .pure (bcells (cut s0 (w64 ((8 : Int) * i1)) (w64 ((w64 ((8 : Int) * i1)) + (8 : Int))))))], 36⟩ : TS)) H ?_
  intro t17'1 H
  refine gen1 (fun t16'2 => (⟨[(5, .c (.p (AV.u32 (0 : UInt32)))), (16, .c (.own 16 t16'2.length 1)), (17, .c (.p (AV.int t17'1))), (18, .c (.p (AV.int (0 : Int))))], [(16, .pure (bcells t16'2))], 36⟩ : TS)) H ?_
  intro t16'2 H
  refine AW2_block ?_
  refine AW2_st [(5, .c (.p (AV.u32 (0 : UInt32)))), (16, .c (.own 16 t16'2.length 1)), (17, .c (.p (AV.int t17'1))), (18, .c (.p (AV.int (0 : Int))))] [(16, .pure (bcells t16'2))] rfl ⟨TLes.same _, TLes.same _, TLes.same _, TLes.same _, trivial⟩ ⟨rfl, trivial⟩ ?_
  refine bindK H fun y'7 h6 H => ?_
  refine AW2_loopO (fun a'4 : UInt32 × Int => (⟨[(5, .c (.p (AV.u32 a'4.1))), (16, .c (.own 16 t16'2.length 1)), (17, .c (.p (AV.int t17'1))), (18, .c (.p (AV.int a'4.2)))], [(16, .pure (bcells t16'2))], 36⟩ : TS)) (fun (y'5 : UInt32) e s' => e = Go.Exit.exit 0 ∧ s' = (⟨[(5, .c (.p (AV.u32 y'5)))], [], 36⟩ : TS)) h6 rfl (fun a x hx => ?_) (fun e s' hs => ?_)
  · clear H
    obtain ⟨n5_0, t18_0⟩ := a
    have H := hx
    clear hx
    unfold g_ref_hexWord_l0 at H
    refine AW2_seq ?_
    refine AW2_reg [0] rfl ?_
    refine r_op rfl rfl (PureD.opD (p_bin rfl rfl rfl rfl)) ?_
    refine RunW_st [(5, .c (.p (AV.u32 n5_0))), (16, .c (.own 16 t16'2.length 1)), (17, .c (.p (AV.int t17'1))), (18, .c (.p (AV.int t18_0))), (19, .c (.p (.bool (decide (t18_0 < t17'1)))))] [(16, .pure (bcells t16'2))] rfl ⟨TLes.same _, TLes.same _, TLes.same _, TLes.same _, TLes.same _, trivial⟩ ⟨rfl, trivial⟩ ?_
    refine RunW_nil ?_
    refine AW2_seq ?_
    refine AW2_if (p := t18_0 < t17'1) rfl (fun h2 => ?_) (fun h2 => ?_)
    · replace H := ite_then h2 H
      refine AW2_st [(5, .c (.p (AV.u32 n5_0))), (16, .c (.own 16 t16'2.length 1)), (17, .c (.p (AV.int t17'1))), (18, .c (.p (AV.int t18_0)))] [(16, .pure (bcells t16'2))] rfl ⟨TLes.same _, TLes.same _, TLes.same _, TLes.same _, trivial⟩ ⟨rfl, trivial⟩ ?_
      refine AW2_skip ?_
      refine AW2_seq ?_
      refine AW2_block ?_
      refine AW2_seq ?_
      refine AW2_reg [0, 1, 2] rfl ?_
      refine chkK H fun h3 H => ?_
      refine r_op rfl rfl (PureD.opD (u_ixo rfl rfl Tryd.underlying22 in_5 rfl rfl (lne (ixn h3)) rfl (ixe h3) (ixn h3))) ?_
      refine r_op rfl rfl (PureD.opD (u_ld rfl rfl Tryd.underlying5 rfl rfl ((Sub.refl _).trans (Sub.map default (ixn h3))))) ?_
      refine r_op rfl rfl (PureD.opD (p_asg rfl rfl)) ?_
      refine RunW_st [(5, .c (.p (AV.u32 n5_0))), (7, .c (.p (AV.b8 (lrd t16'2 t18_0.toNat)))), (16, .c (.own 16 t16'2.length 1)), (17, .c (.p (AV.int t17'1))), (18, .c (.p (AV.int t18_0)))] [(16, .pure (bcells t16'2))] rfl ⟨TLes.same _, TLes.same _, TLes.same _, TLes.same _, TLes.same _, trivial⟩ ⟨rfl, trivial⟩ ?_
      refine RunW_nil ?_
      refine AW2_seq ?_
      refine AW2_reg [0, 1, 2] rfl ?_
      refine r_op rfl rfl (PureD.opD (p_move rfl rfl)) ?_
      refine r_op rfl rfl (PureD.opD (p_u8sub (a := (lrd t16'2 t18_0.toNat)) (b := (48 : UInt8)) rfl rfl rfl)) ?_
      refine r_op rfl rfl (PureD.opD (p_asg rfl rfl)) ?_
      refine RunW_st [(5, .c (.p (AV.u32 n5_0))), (7, .c (.p (AV.b8 (lrd t16'2 t18_0.toNat)))), (8, .c (.p (AV.b8 ((lrd t16'2 t18_0.toNat) - (48 : UInt8))))), (16, .c (.own 16 t16'2.length 1)), (17, .c (.p (AV.int t17'1))), (18, .c (.p (AV.int t18_0)))] [(16, .pure (bcells t16'2))] rfl ⟨TLes.same _, TLes.same _, TLes.same _, TLes.same _, TLes.same _, TLes.same _, trivial⟩ ⟨rfl, trivial⟩ ?_
      refine RunW_nil ?_
      refine AW2_seq ?_
      refine bindK H fun j'3 h4 H => ?_
      refine AW2_mid (⟨[(5, .c (.p (AV.u32 n5_0))), (8, .c (.p (AV.b8 j'3))), (16, .c (.own 16 t16'2.length 1)), (17, .c (.p (AV.int t17'1))), (18, .c (.p (AV.int t18_0)))], [(16, .pure (bcells t16'2))], 36⟩ : TS) ?_ ?_
      · clear H
        have H := h4
        clear h4
        refine AW2_seq ?_
        refine AW2_reg [0, 1] rfl ?_
        refine r_op rfl rfl (PureD.opD (p_move rfl rfl)) ?_
        refine r_op rfl rfl (PureD.opD (p_u8ge (a := (lrd t16'2 t18_0.toNat)) (b := (97 : UInt8)) rfl rfl rfl)) ?_
        refine RunW_st [(5, .c (.p (AV.u32 n5_0))), (7, .c (.p (AV.b8 (lrd t16'2 t18_0.toNat)))), (8, .c (.p (AV.b8 ((lrd t16'2 t18_0.toNat) - (48 : UInt8))))), (16, .c (.own 16 t16'2.length 1)), (17, .c (.p (AV.int t17'1))), (18, .c (.p (AV.int t18_0))), (25, .c (.p (.bool (decide ((97 : UInt8) ≤ (lrd t16'2 t18_0.toNat))))))] [(16, .pure (bcells t16'2))] rfl ⟨TLes.same _, TLes.same _, TLes.same _, TLes.same _, TLes.same _, TLes.same _, TLes.same _, trivial⟩ ⟨rfl, trivial⟩ ?_
        refine RunW_nil ?_
        refine AW2_if (p := (97 : UInt8) ≤ (lrd t16'2 t18_0.toNat)) rfl (fun h5 => ?_) (fun h5 => ?_)
        · replace H := ite_then h5 H
          refine AW2_reg [0, 1, 2, 3] rfl ?_
          refine r_op rfl rfl (PureD.opD (p_move rfl rfl)) ?_
          refine r_op rfl rfl (PureD.opD (p_u8sub (a := (lrd t16'2 t18_0.toNat)) (b := (97 : UInt8)) rfl rfl rfl)) ?_
          refine r_op rfl rfl (PureD.opD (p_u8add (a := (lrd t16'2 t18_0.toNat) - (97 : UInt8)) (b := (10 : UInt8)) rfl rfl rfl)) ?_
          refine r_op rfl rfl (PureD.opD (p_asg rfl rfl)) ?_
          refine RunW_st [(5, .c (.p (AV.u32 n5_0))), (8, .c (.p (AV.b8 (((lrd t16'2 t18_0.toNat) - (97 : UInt8)) + (10 : UInt8))))), (16, .c (.own 16 t16'2.length 1)), (17, .c (.p (AV.int t17'1))), (18, .c (.p (AV.int t18_0)))] [(16, .pure (bcells t16'2))] rfl ⟨TLes.same _, TLes.same _, TLes.same _, TLes.same _, TLes.same _, trivial⟩ ⟨rfl, trivial⟩ ?_
          refine RunW_nil ?_
          have hz := some_elim H
          subst hz
          exact rfl
        · replace H := ite_else h5 H
          refine AW2_st [(5, .c (.p (AV.u32 n5_0))), (8, .c (.p (AV.b8 ((lrd t16'2 t18_0.toNat) - (48 : UInt8))))), (16, .c (.own 16 t16'2.length 1)), (17, .c (.p (AV.int t17'1))), (18, .c (.p (AV.int t18_0)))] [(16, .pure (bcells t16'2))] rfl ⟨TLes.same _, TLes.same _, TLes.same _, TLes.same _, TLes.same _, trivial⟩ ⟨rfl, trivial⟩ ?_
          refine AW2_skip ?_
          have hz := some_elim H
          subst hz
          exact rfl
      · refine AW2_reg [0, 1, 2, 3, 4, 5] rfl ?_
        refine r_op rfl rfl (PureD.opD (p_move rfl rfl)) ?_
        refine r_op rfl rfl (PureD.opD (p_u32mul (a := n5_0) (b := (16 : UInt32)) rfl rfl rfl)) ?_
        refine r_op rfl rfl (PureD.opD (p_move rfl rfl)) ?_
        refine r_op rfl rfl (PureD.opD (p_u8_u32 (a := j'3) rfl Tryd.underlying5 Tryd.underlying26 rfl)) ?_
        refine r_op rfl rfl (PureD.opD (p_u32add (a := n5_0 * (16 : UInt32)) (b := j'3.toUInt32) rfl rfl rfl)) ?_
        refine r_op rfl rfl (PureD.opD (p_asg rfl rfl)) ?_
        refine RunW_st [(5, .c (.p (AV.u32 ((n5_0 * (16 : UInt32)) + j'3.toUInt32)))), (16, .c (.own 16 t16'2.length 1)), (17, .c (.p (AV.int t17'1))), (18, .c (.p (AV.int t18_0)))] [(16, .pure (bcells t16'2))] rfl ⟨TLes.same _, TLes.same _, TLes.same _, TLes.same _, trivial⟩ ⟨rfl, trivial⟩ ?_
        refine RunW_nil ?_
        refine AW2_reg [0, 1] rfl ?_
        refine r_op rfl rfl (PureD.opD (p_bin rfl rfl rfl rfl)) ?_
        refine r_op rfl rfl (PureD.opD (p_move rfl rfl)) ?_
        refine RunW_st [(5, .c (.p (AV.u32 ((n5_0 * (16 : UInt32)) + j'3.toUInt32)))), (16, .c (.own 16 t16'2.length 1)), (17, .c (.p (AV.int t17'1))), (18, .c (.p (AV.int (w64 (t18_0 + (1 : Int))))))] [(16, .pure (bcells t16'2))] rfl ⟨TLes.same _, TLes.same _, TLes.same _, TLes.same _, trivial⟩ ⟨rfl, trivial⟩ ?_
        refine RunW_nil ?_
        have hz := some_elim H
        subst hz
        exact ⟨rfl, rfl⟩
    · replace H := ite_else h2 H
      refine AW2_st [(5, .c (.p (AV.u32 n5_0)))] [] rfl ⟨TLes.same _, trivial⟩ trivial ?_
      refine AW2_exit ?_
      refine thenQ2_exit ?_
      have hz := some_elim H
      subst hz
      exact ⟨rfl, rfl⟩
  · obtain ⟨rfl, rfl⟩ := hs
    refine ⟨by simp, ?_⟩
    refine blockQ2_exit ?_
    refine AW2_seq ?_
    refine AW2_reg [0, 1] rfl ?_
    refine r_op rfl rfl (PureD.opD (p_move rfl rfl)) ?_
    refine r_op rfl rfl (PureD.opD (p_asg rfl rfl)) ?_
    refine RunW_st [(4, .c (.p (AV.u32 y'7)))] [] rfl ⟨TLes.same _, trivial⟩ trivial ?_
    refine RunW_nil ?_
    refine AW2_ret ?_
    have hz := some_elim H
    subst hz
    exact ⟨⟨res_tmp (.same _), trivial⟩, trivial⟩

/-! chirographref.Begun -/
def g_ref_Begun_t0 : List UInt8 := [54, 97, 48, 57, 101, 54, 54, 55, 98, 98, 54, 55, 97, 101, 56, 53, 51, 99, 54, 101, 102, 51, 55, 50, 97, 53, 52, 102, 102, 53, 51, 97, 53, 49, 48, 101, 53, 50, 55, 102, 57, 98, 48, 53, 54, 56, 56, 99, 49, 102, 56, 51, 100, 57, 97, 98, 53, 98, 101, 48, 99, 100, 49, 57]
noncomputable def g_ref_Begun_l0 : Int × GStream → Option ((Int × GStream) ⊕ (GStream))
  | (t3_0, s1_0) => (if t3_0 < (8 : Int) then (g_ref_hexWord g_ref_Begun_t0 t3_0).bind fun r'1 => if 0 ≤ t3_0 ∧ t3_0 < (8 : Int) then some (.inl (w64 (t3_0 + (1 : Int)), { s1_0 with H := (vwr s1_0.H t3_0.toNat r'1) })) else none else some (.inr s1_0))
noncomputable def g_ref_Begun : Option (GStream) :=
  (loopO (g_ref_Begun_l0) ((0 : Int), GStream.zero)).bind fun y'5 => some y'5
set_option maxHeartbeats 4000000 in
set_option maxRecDepth 100000 in
theorem g_ref_Begun_ac {r : GStream} (H : g_ref_Begun = some r) : ACp Tryd.prog 17 [] (.agg (GStream.cs r)) := by
  refine ACp_of (AC2_of_body (vs := [.c (.p (.agg (GStream.cs r)))]) Tryd.func17 rfl rfl (Nat.le_of_ble_eq_true rfl) rfl ?_) (fun _ => .same _)
  unfold g_ref_Begun at H
  refine AW2_st [] [] rfl trivial trivial ?_
  refine AW2_seq ?_
  refine AW2_reg [0] rfl ?_
  refine r_op rfl rfl (MakeD.opD (u_alloc 0 rfl in_30 one_30 zc_30) rfl rfl rfl rfl) ?_
  refine RunW_st [(0, .c (.ptr 0 (0)))] [(0, .pure (GStream.cs GStream.zero))] rfl ⟨TLes.same _, trivial⟩ ⟨rfl, trivial⟩ ?_
  refine RunW_nil ?_
  refine AW2_seq ?_
  refine AW2_reg [0] rfl ?_
  refine r_op rfl rfl (MakeD.opD (u_alloc 1 rfl in_30 one_30 zc_30) rfl rfl rfl rfl) ?_
  refine RunW_st [(0, .c (.ptr 0 (0))), (1, .c (.ptr 1 (0)))] [(0, .pure (GStream.cs GStream.zero)), (1, .pure (GStream.cs GStream.zero))] rfl ⟨TLes.same _, TLes.same _, trivial⟩ ⟨rfl, rfl, trivial⟩ ?_
  refine RunW_nil ?_
  refine AW2_seq ?_
  refine AW2_seq ?_
  refine AW2_reg [0] rfl ?_
  refine r_op rfl rfl (PureD.opD (p_move rfl rfl)) ?_
  refine RunW_st [(0, .c (.ptr 0 (0))), (1, .c (.ptr 1 (0))), (3, .c (.p (AV.int (0 : Int))))] [(0, .pure (GStream.cs GStream.zero)), (1, .pure (GStream.cs GStream.zero))] rfl ⟨TLes.same _, TLes.same _, TLes.same _, trivial⟩ ⟨rfl, rfl, trivial⟩ ?_
  refine RunW_nil ?_
  refine AW2_block ?_
  refine AW2_st [(0, .c (.ptr 0 (0))), (1, .c (.ptr 1 (0))), (3, .c (.p (AV.int (0 : Int))))] [(0, .pure (GStream.cs GStream.zero)), (1, .pure (GStream.cs GStream.zero))] rfl ⟨TLes.same _, TLes.same _, TLes.same _, trivial⟩ ⟨rfl, rfl, trivial⟩ ?_
  refine bindK H fun y'5 h4 H => ?_
  refine AW2_loopO (fun a'2 : Int × GStream => (⟨[(0, .c (.ptr 0 (0))), (1, .c (.ptr 1 (0))), (3, .c (.p (AV.int a'2.1)))], [(0, .pure (GStream.cs GStream.zero)), (1, .pure (GStream.cs a'2.2))], 13⟩ : TS)) (fun (y'3 : GStream) e s' => e = Go.Exit.exit 0 ∧ s' = (⟨[(0, .c (.ptr 0 (0))), (1, .c (.ptr 1 (0)))], [(0, .pure (GStream.cs GStream.zero)), (1, .pure (GStream.cs y'3))], 13⟩ : TS)) h4 rfl (fun a x hx => ?_) (fun e s' hs => ?_)
  · clear H
    obtain ⟨t3_0, s1_0⟩ := a
    have H := hx
    clear hx
    unfold g_ref_Begun_l0 at H
    refine AW2_seq ?_
    refine AW2_reg [0] rfl ?_
    refine r_op rfl rfl (PureD.opD (p_bin rfl rfl rfl rfl)) ?_
    refine RunW_st [(0, .c (.ptr 0 (0))), (1, .c (.ptr 1 (0))), (3, .c (.p (AV.int t3_0))), (4, .c (.p (.bool (decide (t3_0 < (8 : Int))))))] [(0, .pure (GStream.cs GStream.zero)), (1, .pure (GStream.cs s1_0))] rfl ⟨TLes.same _, TLes.same _, TLes.same _, TLes.same _, trivial⟩ ⟨rfl, rfl, trivial⟩ ?_
    refine RunW_nil ?_
    refine AW2_seq ?_
    refine AW2_if (p := t3_0 < (8 : Int)) rfl (fun h1 => ?_) (fun h1 => ?_)
    · replace H := ite_then h1 H
      refine AW2_st [(0, .c (.ptr 0 (0))), (1, .c (.ptr 1 (0))), (3, .c (.p (AV.int t3_0)))] [(0, .pure (GStream.cs GStream.zero)), (1, .pure (GStream.cs s1_0))] rfl ⟨TLes.same _, TLes.same _, TLes.same _, trivial⟩ ⟨rfl, rfl, trivial⟩ ?_
      refine AW2_skip ?_
      refine AW2_seq ?_
      refine AW2_block ?_
      refine AW2_seq ?_
      refine AW2_reg [0, 1] rfl ?_
      refine r_op rfl rfl (PureD.opD (p_move rfl rfl)) ?_
      refine r_op rfl rfl (PureD.opD (p_asg rfl rfl)) ?_
      refine RunW_st [(0, .c (.ptr 0 (0))), (1, .c (.ptr 1 (0))), (2, .c (.p (AV.int t3_0))), (3, .c (.p (AV.int t3_0)))] [(0, .pure (GStream.cs GStream.zero)), (1, .pure (GStream.cs s1_0))] rfl ⟨TLes.same _, TLes.same _, TLes.same _, TLes.same _, trivial⟩ ⟨rfl, rfl, trivial⟩ ?_
      refine RunW_nil ?_
      refine AW2_reg [0, 1, 2, 3, 4, 5] rfl ?_
      refine r_op rfl rfl (PureD.opD (p_move rfl rfl)) ?_
      refine r_op rfl rfl (PureD.opD (p_move rfl rfl)) ?_
      refine bindK H fun r'1 h2 H => ?_
      refine r_op rfl rfl (PureD.opD (p_callp rfl rfl rfl Tryd.func40 rfl rfl (g_ref_hexWord_ac h2) ⟨by kernel_rfl, rfl, trivial⟩)) ?_
      refine r_op rfl rfl (PureD.opD (u_fa rfl rfl Tryd.underlying30 rfl in_27 (Nat.succ_ne_zero _) rfl rfl (ne_of_lt (n := 0) (Nat.lt_of_lt_of_eq (by decide) (Eq.symm (GStream.len s1_0)))))) ?_
      refine chkK H fun h3 H => ?_
      refine r_op rfl rfl (PureD.opD (u_ixp rfl rfl Tryd.underlying27 in_26 rfl rfl (ne_of_lt (n := 0) (Nat.lt_of_lt_of_eq (by decide) (Eq.symm (GStream.len s1_0)))) rfl (ixe h3) (ixn h3))) ?_
      refine r_op rfl rfl (u_st rfl rfl rfl rfl rfl in_26 rfl (ne_of_lt (n := 0) (Nat.lt_of_lt_of_eq (by decide) (Eq.symm (GStream.len s1_0)))) (Upd.trans ((Sub.refl _).trans (GStream.sub0 s1_0)) (Upd.vmap (ixn h3)) (Upd.trans (Sub.refl _) (GStream.upd0 s1_0 (vwr s1_0.H t3_0.toNat r'1)) (Upd.refl ((GStream.len ({ s1_0 with H := (vwr s1_0.H t3_0.toNat r'1) })).trans (GStream.len s1_0).symm))))) ?_
      refine RunW_st [(0, .c (.ptr 0 (0))), (1, .c (.ptr 1 (0))), (3, .c (.p (AV.int t3_0)))] [(0, .pure (GStream.cs GStream.zero)), (1, .pure (GStream.cs ({ s1_0 with H := (vwr s1_0.H t3_0.toNat r'1) })))] rfl ⟨TLes.same _, TLes.same _, TLes.same _, trivial⟩ ⟨rfl, rfl, trivial⟩ ?_
      refine RunW_nil ?_
      refine AW2_reg [0, 1] rfl ?_
      refine r_op rfl rfl (PureD.opD (p_bin rfl rfl rfl rfl)) ?_
      refine r_op rfl rfl (PureD.opD (p_move rfl rfl)) ?_
      refine RunW_st [(0, .c (.ptr 0 (0))), (1, .c (.ptr 1 (0))), (3, .c (.p (AV.int (w64 (t3_0 + (1 : Int))))))] [(0, .pure (GStream.cs GStream.zero)), (1, .pure (GStream.cs ({ s1_0 with H := (vwr s1_0.H t3_0.toNat r'1) })))] rfl ⟨TLes.same _, TLes.same _, TLes.same _, trivial⟩ ⟨rfl, rfl, trivial⟩ ?_
      refine RunW_nil ?_
      have hz := some_elim H
      subst hz
      exact ⟨rfl, rfl⟩
    · replace H := ite_else h1 H
      refine AW2_st [(0, .c (.ptr 0 (0))), (1, .c (.ptr 1 (0)))] [(0, .pure (GStream.cs GStream.zero)), (1, .pure (GStream.cs s1_0))] rfl ⟨TLes.same _, TLes.same _, trivial⟩ ⟨rfl, rfl, trivial⟩ ?_
      refine AW2_exit ?_
      refine thenQ2_exit ?_
      have hz := some_elim H
      subst hz
      exact ⟨rfl, rfl⟩
  · obtain ⟨rfl, rfl⟩ := hs
    refine ⟨by simp, ?_⟩
    refine blockQ2_exit ?_
    refine AW2_seq ?_
    refine AW2_reg [0, 1] rfl ?_
    refine r_op rfl rfl (PureD.opD (u_lda rfl rfl Tryd.underlying30 rfl in_30 rfl (Nat.succ_pos _) (Sub.refl _) (GStream.len y'5))) ?_
    refine r_op rfl rfl (u_st rfl rfl rfl rfl rfl in_30 (GStream.len y'5) (ne_of_lt (n := 0) (Nat.lt_of_lt_of_eq (by decide) (Eq.symm (GStream.len GStream.zero)))) (Upd.refl ((GStream.len y'5).trans (GStream.len GStream.zero).symm))) ?_
    refine RunW_st [(0, .c (.ptr 0 (0)))] [(0, .pure (GStream.cs y'5))] rfl ⟨TLes.same _, trivial⟩ ⟨rfl, trivial⟩ ?_
    refine RunW_nil ?_
    refine AW2_ret ?_
    have hz := some_elim H
    subst hz
    exact ⟨⟨res_cella Tryd.underlying30 rfl in_30.sz rfl (Sub.le (Sub.refl _) (GStream.len y'5)) (by decide) (Sub.take (Sub.refl _) (GStream.len y'5)), trivial⟩, trivial⟩

/-! chirographref.badStream -/
noncomputable def g_ref_badStream_l0 (s0 : GStream) : Int → Option (Int ⊕ (Bool ⊕ Unit))
  | t23_0 => (if t23_0 < (64 : Int) then if 0 ≤ t23_0 ∧ t23_0 < (64 : Int) then (if (t23_0 ≥ s0.N) ∧ ((vrd s0.Held t23_0.toNat) ≠ (0 : UInt8)) then some (.inr (.inl true)) else some (.inl (w64 (t23_0 + (1 : Int))))) else none else some (.inr (.inr ())))
noncomputable def g_ref_badStream (s0 : GStream) : Option (Bool) :=
  (if ((s0.Len < (0 : Int)) ∨ (s0.Len > (1152921504606846976 : Int))) ∨ (s0.N ≠ s0.Len.tmod (64 : Int)) then some true else (loopO (g_ref_badStream_l0 s0) (0 : Int)).bind fun o'4 => match o'4 with | .inl y'5 => some y'5 | .inr (y'6) => some false)
set_option maxHeartbeats 4000000 in
set_option maxRecDepth 100000 in
theorem g_ref_badStream_ac {s0 : GStream} {r : Bool} (H : g_ref_badStream s0 = some r) : ACp Tryd.prog 37 [(.agg (GStream.cs s0))] (AV.bool r) := by
  refine ACp_of (AC2_of_body (vs := [.c (.p (AV.bool r))]) Tryd.func37 rfl rfl (Nat.le_of_ble_eq_true rfl) rfl ?_) (fun _ => .same _)
  unfold g_ref_badStream at H
  refine AW2_st [(0, .c (.p (.agg (GStream.cs s0))))] [] rfl ⟨TLes.same _, trivial⟩ trivial ?_
  refine AW2_seq ?_
  refine AW2_reg [0, 1] rfl ?_
  refine r_op rfl rfl (MakeD.opD (n_box 1 rfl rfl) rfl rfl rfl rfl) ?_
  refine r_op rfl rfl (PureD.opD (p_asg rfl rfl)) ?_
  refine RunW_st [(1, .c (.ptr 1 (0)))] [(1, .pure (GStream.cs s0))] rfl ⟨TLes.same _, trivial⟩ ⟨rfl, trivial⟩ ?_
  refine RunW_nil ?_
  refine AW2_seq ?_
  refine AW2_seq ?_
  refine AW2_mid (⟨[(1, .c (.ptr 1 (0))), (20, .c (.p (.bool (decide (((s0.Len < (0 : Int)) ∨ (s0.Len > (1152921504606846976 : Int))) ∨ (s0.N ≠ s0.Len.tmod (64 : Int)))))))], [(1, .pure (GStream.cs s0))], 36⟩ : TS) ?_ ?_
  · refine AW2_reg [0, 1, 2, 3, 4, 5, 6, 7, 8, 9, 10, 11, 12, 13, 14, 15] rfl ?_
    refine r_op rfl rfl (PureD.opD (u_fa rfl rfl Tryd.underlying30 rfl in_3 (Nat.succ_ne_zero _) rfl rfl (ne_of_lt (n := 0) (Nat.lt_of_lt_of_eq (by decide) (Eq.symm (GStream.len s0)))))) ?_
    refine r_op rfl rfl (PureD.opD (u_ld rfl rfl Tryd.underlying3 rfl rfl ((Sub.refl _).trans (GStream.sub3 s0)))) ?_
    refine r_op rfl rfl (PureD.opD (p_bin rfl rfl rfl rfl)) ?_
    refine r_op rfl rfl (PureD.opD (p_move rfl rfl)) ?_
    refine (Classical.em (s0.Len < (0 : Int))).elim (fun h1 => ?_) (fun h1 => ?_)
    · refine r_off rfl rfl rfl rfl (decide_eq_true (p := s0.Len < (0 : Int)) h1) rfl rfl ?_
      refine r_off rfl rfl rfl rfl (decide_eq_true (p := s0.Len < (0 : Int)) h1) rfl rfl ?_
      refine r_off rfl rfl rfl rfl (decide_eq_true (p := s0.Len < (0 : Int)) h1) rfl rfl ?_
      refine r_op rfl rfl (PureD.opD (p_pkt rfl rfl (decide_eq_true (p := s0.Len < (0 : Int)) h1) (tb (decide_eq_true (p := (s0.Len < (0 : Int)) ∨ (s0.Len > (1152921504606846976 : Int))) (Or.inl h1)).symm))) ?_
      refine r_op rfl rfl (PureD.opD (p_move rfl rfl)) ?_
      refine r_off rfl rfl rfl rfl (decide_eq_true (p := (s0.Len < (0 : Int)) ∨ (s0.Len > (1152921504606846976 : Int))) (Or.inl h1)) rfl rfl ?_
      refine r_off rfl rfl rfl rfl (decide_eq_true (p := (s0.Len < (0 : Int)) ∨ (s0.Len > (1152921504606846976 : Int))) (Or.inl h1)) rfl rfl ?_
      refine r_off rfl rfl rfl rfl (decide_eq_true (p := (s0.Len < (0 : Int)) ∨ (s0.Len > (1152921504606846976 : Int))) (Or.inl h1)) rfl rfl ?_
      refine r_off rfl rfl rfl rfl (decide_eq_true (p := (s0.Len < (0 : Int)) ∨ (s0.Len > (1152921504606846976 : Int))) (Or.inl h1)) rfl rfl ?_
      refine r_off rfl rfl rfl rfl (decide_eq_true (p := (s0.Len < (0 : Int)) ∨ (s0.Len > (1152921504606846976 : Int))) (Or.inl h1)) rfl rfl ?_
      refine r_off rfl rfl rfl rfl (decide_eq_true (p := (s0.Len < (0 : Int)) ∨ (s0.Len > (1152921504606846976 : Int))) (Or.inl h1)) rfl rfl ?_
      refine r_op rfl rfl (PureD.opD (p_pkt rfl rfl (decide_eq_true (p := (s0.Len < (0 : Int)) ∨ (s0.Len > (1152921504606846976 : Int))) (Or.inl h1)) (tb (decide_eq_true (p := ((s0.Len < (0 : Int)) ∨ (s0.Len > (1152921504606846976 : Int))) ∨ (s0.N ≠ s0.Len.tmod (64 : Int))) (Or.inl (Or.inl h1))).symm))) ?_
      refine RunW_st [(1, .c (.ptr 1 (0))), (20, .c (.p (.bool (decide (((s0.Len < (0 : Int)) ∨ (s0.Len > (1152921504606846976 : Int))) ∨ (s0.N ≠ s0.Len.tmod (64 : Int)))))))] [(1, .pure (GStream.cs s0))] rfl ⟨TLes.same _, TLes.same _, trivial⟩ ⟨rfl, trivial⟩ ?_
      exact RunW_nil rfl
    · refine r_on rfl rfl rfl rfl (decide_eq_false (p := s0.Len < (0 : Int)) h1) rfl (PureD.opD (u_fa rfl rfl Tryd.underlying30 rfl in_3 (Nat.succ_ne_zero _) rfl rfl (ne_of_lt (n := 0) (Nat.lt_of_lt_of_eq (by decide) (Eq.symm (GStream.len s0)))))) ?_
      refine r_on rfl rfl rfl rfl (decide_eq_false (p := s0.Len < (0 : Int)) h1) rfl (PureD.opD (u_ld rfl rfl Tryd.underlying3 rfl rfl ((Sub.refl _).trans (GStream.sub3 s0)))) ?_
      refine r_on rfl rfl rfl rfl (decide_eq_false (p := s0.Len < (0 : Int)) h1) rfl (PureD.opD (p_bin rfl rfl rfl rfl)) ?_
      refine r_op rfl rfl (PureD.opD (p_pkf rfl rfl (decide_eq_false (p := s0.Len < (0 : Int)) h1) (tb ((or_l (p := s0.Len < (0 : Int)) (q := s0.Len > (1152921504606846976 : Int)) h1))))) ?_
      refine r_op rfl rfl (PureD.opD (p_move rfl rfl)) ?_
      refine (Classical.em (s0.Len > (1152921504606846976 : Int))).elim (fun h2 => ?_) (fun h2 => ?_)
      · refine r_off rfl rfl rfl rfl (decide_eq_true (p := (s0.Len < (0 : Int)) ∨ (s0.Len > (1152921504606846976 : Int))) (Or.inr h2)) rfl rfl ?_
        refine r_off rfl rfl rfl rfl (decide_eq_true (p := (s0.Len < (0 : Int)) ∨ (s0.Len > (1152921504606846976 : Int))) (Or.inr h2)) rfl rfl ?_
        refine r_off rfl rfl rfl rfl (decide_eq_true (p := (s0.Len < (0 : Int)) ∨ (s0.Len > (1152921504606846976 : Int))) (Or.inr h2)) rfl rfl ?_
        refine r_off rfl rfl rfl rfl (decide_eq_true (p := (s0.Len < (0 : Int)) ∨ (s0.Len > (1152921504606846976 : Int))) (Or.inr h2)) rfl rfl ?_
        refine r_off rfl rfl rfl rfl (decide_eq_true (p := (s0.Len < (0 : Int)) ∨ (s0.Len > (1152921504606846976 : Int))) (Or.inr h2)) rfl rfl ?_
        refine r_off rfl rfl rfl rfl (decide_eq_true (p := (s0.Len < (0 : Int)) ∨ (s0.Len > (1152921504606846976 : Int))) (Or.inr h2)) rfl rfl ?_
        refine r_op rfl rfl (PureD.opD (p_pkt rfl rfl (decide_eq_true (p := (s0.Len < (0 : Int)) ∨ (s0.Len > (1152921504606846976 : Int))) (Or.inr h2)) (tb (decide_eq_true (p := ((s0.Len < (0 : Int)) ∨ (s0.Len > (1152921504606846976 : Int))) ∨ (s0.N ≠ s0.Len.tmod (64 : Int))) (Or.inl (Or.inr h2))).symm))) ?_
        refine RunW_st [(1, .c (.ptr 1 (0))), (20, .c (.p (.bool (decide (((s0.Len < (0 : Int)) ∨ (s0.Len > (1152921504606846976 : Int))) ∨ (s0.N ≠ s0.Len.tmod (64 : Int)))))))] [(1, .pure (GStream.cs s0))] rfl ⟨TLes.same _, TLes.same _, trivial⟩ ⟨rfl, trivial⟩ ?_
        exact RunW_nil rfl
      · refine r_on rfl rfl rfl rfl (decide_eq_false (p := (s0.Len < (0 : Int)) ∨ (s0.Len > (1152921504606846976 : Int))) (not_or.2 ⟨h1, h2⟩)) rfl (PureD.opD (u_fa rfl rfl Tryd.underlying30 rfl in_3 (Nat.succ_ne_zero _) rfl rfl (ne_of_lt (n := 0) (Nat.lt_of_lt_of_eq (by decide) (Eq.symm (GStream.len s0)))))) ?_
        refine r_on rfl rfl rfl rfl (decide_eq_false (p := (s0.Len < (0 : Int)) ∨ (s0.Len > (1152921504606846976 : Int))) (not_or.2 ⟨h1, h2⟩)) rfl (PureD.opD (u_ld rfl rfl Tryd.underlying3 rfl rfl ((Sub.refl _).trans (GStream.sub2 s0)))) ?_
        refine r_on rfl rfl rfl rfl (decide_eq_false (p := (s0.Len < (0 : Int)) ∨ (s0.Len > (1152921504606846976 : Int))) (not_or.2 ⟨h1, h2⟩)) rfl (PureD.opD (u_fa rfl rfl Tryd.underlying30 rfl in_3 (Nat.succ_ne_zero _) rfl rfl (ne_of_lt (n := 0) (Nat.lt_of_lt_of_eq (by decide) (Eq.symm (GStream.len s0)))))) ?_
        refine r_on rfl rfl rfl rfl (decide_eq_false (p := (s0.Len < (0 : Int)) ∨ (s0.Len > (1152921504606846976 : Int))) (not_or.2 ⟨h1, h2⟩)) rfl (PureD.opD (u_ld rfl rfl Tryd.underlying3 rfl rfl ((Sub.refl _).trans (GStream.sub3 s0)))) ?_
        refine r_on rfl rfl rfl rfl (decide_eq_false (p := (s0.Len < (0 : Int)) ∨ (s0.Len > (1152921504606846976 : Int))) (not_or.2 ⟨h1, h2⟩)) rfl (PureD.opD (p_irem rfl rfl rfl (by decide))) ?_
        refine r_on rfl rfl rfl rfl (decide_eq_false (p := (s0.Len < (0 : Int)) ∨ (s0.Len > (1152921504606846976 : Int))) (not_or.2 ⟨h1, h2⟩)) rfl (PureD.opD (p_ine rfl rfl rfl)) ?_
        refine r_op rfl rfl (PureD.opD (p_pkf rfl rfl (decide_eq_false (p := (s0.Len < (0 : Int)) ∨ (s0.Len > (1152921504606846976 : Int))) (not_or.2 ⟨h1, h2⟩)) (tb ((or_l (p := (s0.Len < (0 : Int)) ∨ (s0.Len > (1152921504606846976 : Int))) (q := s0.N ≠ s0.Len.tmod (64 : Int)) (not_or.2 ⟨h1, h2⟩)))))) ?_
        refine RunW_st [(1, .c (.ptr 1 (0))), (20, .c (.p (.bool (decide (((s0.Len < (0 : Int)) ∨ (s0.Len > (1152921504606846976 : Int))) ∨ (s0.N ≠ s0.Len.tmod (64 : Int)))))))] [(1, .pure (GStream.cs s0))] rfl ⟨TLes.same _, TLes.same _, trivial⟩ ⟨rfl, trivial⟩ ?_
        exact RunW_nil rfl
  · refine AW2_if (p := ((s0.Len < (0 : Int)) ∨ (s0.Len > (1152921504606846976 : Int))) ∨ (s0.N ≠ s0.Len.tmod (64 : Int))) rfl (fun h3 => ?_) (fun h3 => ?_)
    · replace H := ite_then h3 H
      refine AW2_seq ?_
      refine AW2_reg [0] rfl ?_
      refine r_op rfl rfl (PureD.opD (p_asg rfl rfl)) ?_
      refine RunW_st [(2, .c (.p (AV.bool true)))] [] rfl ⟨TLes.same _, trivial⟩ trivial ?_
      refine RunW_nil ?_
      refine AW2_ret ?_
      have hz := some_elim H
      subst hz
      exact ⟨⟨res_tmp (.same _), trivial⟩, trivial⟩
    · replace H := ite_else h3 H
      refine AW2_st [(1, .c (.ptr 1 (0)))] [(1, .pure (GStream.cs s0))] rfl ⟨TLes.same _, trivial⟩ ⟨rfl, trivial⟩ ?_
      refine AW2_skip ?_
      refine AW2_seq ?_
      refine AW2_seq ?_
      refine AW2_reg [0, 1, 2] rfl ?_
      refine r_op rfl rfl (PureD.opD (u_fa rfl rfl Tryd.underlying30 rfl in_28 (Nat.succ_ne_zero _) rfl rfl (ne_of_lt (n := 0) (Nat.lt_of_lt_of_eq (by decide) (Eq.symm (GStream.len s0)))))) ?_
      refine r_op rfl rfl (PureD.opD (u_lda rfl rfl Tryd.underlying28 rfl in_28 rfl (Nat.succ_pos _) ((Sub.refl _).trans (GStream.sub1 s0)) ((bcells_length _).trans (vlen s0.Held)))) ?_
      refine r_op rfl rfl (PureD.opD (p_move rfl rfl)) ?_
      refine RunW_st [(1, .c (.ptr 1 (0))), (22, .c (.p (.agg (bcells s0.Held.toList)))), (23, .c (.p (AV.int (0 : Int))))] [(1, .pure (GStream.cs s0))] rfl ⟨TLes.same _, TLes.same _, TLes.same _, trivial⟩ ⟨rfl, trivial⟩ ?_
      refine RunW_nil ?_
      refine AW2_block ?_
      refine AW2_st [(1, .c (.ptr 1 (0))), (22, .c (.p (.agg (bcells s0.Held.toList)))), (23, .c (.p (AV.int (0 : Int))))] [(1, .pure (GStream.cs s0))] rfl ⟨TLes.same _, TLes.same _, TLes.same _, trivial⟩ ⟨rfl, trivial⟩ ?_
      refine bindK H fun o'4 h8 H => ?_
      refine AW2_loopO (fun a'1 : Int => (⟨[(1, .c (.ptr 1 (0))), (22, .c (.p (.agg (bcells s0.Held.toList)))), (23, .c (.p (AV.int a'1)))], [(1, .pure (GStream.cs s0))], 36⟩ : TS)) (fun (o : Bool ⊕ Unit) e s' => match o with | .inl y'2 => e = Go.Exit.ret ∧ ResAll Tryd.prog s' [ResultVar.tmp 2] [.c (.p (AV.bool y'2))] ∧ HFits s' [] | .inr (y'3) => e = Go.Exit.exit 0 ∧ s' = (⟨[], [], 36⟩ : TS)) h8 rfl (fun t23_0 x hx => ?_) (fun e s' hs => ?_)
      · clear H
        have H := hx
        clear hx
        unfold g_ref_badStream_l0 at H
        refine AW2_seq ?_
        refine AW2_reg [0] rfl ?_
        refine r_op rfl rfl (PureD.opD (p_bin rfl rfl rfl rfl)) ?_
        refine RunW_st [(1, .c (.ptr 1 (0))), (22, .c (.p (.agg (bcells s0.Held.toList)))), (23, .c (.p (AV.int t23_0))), (24, .c (.p (.bool (decide (t23_0 < (64 : Int))))))] [(1, .pure (GStream.cs s0))] rfl ⟨TLes.same _, TLes.same _, TLes.same _, TLes.same _, trivial⟩ ⟨rfl, trivial⟩ ?_
        refine RunW_nil ?_
        refine AW2_seq ?_
        refine AW2_if (p := t23_0 < (64 : Int)) rfl (fun h4 => ?_) (fun h4 => ?_)
        · replace H := ite_then h4 H
          refine AW2_st [(1, .c (.ptr 1 (0))), (22, .c (.p (.agg (bcells s0.Held.toList)))), (23, .c (.p (AV.int t23_0)))] [(1, .pure (GStream.cs s0))] rfl ⟨TLes.same _, TLes.same _, TLes.same _, trivial⟩ ⟨rfl, trivial⟩ ?_
          refine AW2_skip ?_
          refine AW2_seq ?_
          refine AW2_block ?_
          refine AW2_seq ?_
          refine AW2_reg [0, 1, 2, 3] rfl ?_
          refine r_op rfl rfl (PureD.opD (p_move rfl rfl)) ?_
          refine chkK H fun h5 H => ?_
          refine r_op rfl rfl (PureD.opD (u_ixa rfl rfl Tryd.underlying28 in_5 Tryd.underlying5 rfl rfl rfl (ixe h5) (ixn h5) (Sub.vmap (ixn h5)))) ?_
          refine r_op rfl rfl (PureD.opD (p_asg rfl rfl)) ?_
          refine r_op rfl rfl (PureD.opD (p_asg rfl rfl)) ?_
          refine RunW_st [(1, .c (.ptr 1 (0))), (3, .c (.p (AV.int t23_0))), (4, .c (.p (AV.b8 (vrd s0.Held t23_0.toNat)))), (22, .c (.p (.agg (bcells s0.Held.toList)))), (23, .c (.p (AV.int t23_0)))] [(1, .pure (GStream.cs s0))] rfl ⟨TLes.same _, TLes.same _, TLes.same _, TLes.same _, TLes.same _, trivial⟩ ⟨rfl, trivial⟩ ?_
          refine RunW_nil ?_
          refine AW2_seq ?_
          refine AW2_mid (⟨[(1, .c (.ptr 1 (0))), (22, .c (.p (.agg (bcells s0.Held.toList)))), (23, .c (.p (AV.int t23_0))), (34, .c (.p (.bool (decide ((t23_0 ≥ s0.N) ∧ ((vrd s0.Held t23_0.toNat) ≠ (0 : UInt8)))))))], [(1, .pure (GStream.cs s0))], 36⟩ : TS) ?_ ?_
          · refine AW2_reg [0, 1, 2, 3, 4, 5, 6, 7] rfl ?_
            refine r_op rfl rfl (PureD.opD (p_move rfl rfl)) ?_
            refine r_op rfl rfl (PureD.opD (u_fa rfl rfl Tryd.underlying30 rfl in_3 (Nat.succ_ne_zero _) rfl rfl (ne_of_lt (n := 0) (Nat.lt_of_lt_of_eq (by decide) (Eq.symm (GStream.len s0)))))) ?_
            refine r_op rfl rfl (PureD.opD (u_ld rfl rfl Tryd.underlying3 rfl rfl ((Sub.refl _).trans (GStream.sub2 s0)))) ?_
            refine r_op rfl rfl (PureD.opD (p_bin rfl rfl rfl rfl)) ?_
            refine r_op rfl rfl (PureD.opD (p_move rfl rfl)) ?_
            refine (Classical.em (t23_0 ≥ s0.N)).elim (fun h6 => ?_) (fun h6 => ?_)
            · refine r_on rfl rfl rfl rfl (decide_eq_true (p := t23_0 ≥ s0.N) h6) rfl (PureD.opD (p_move rfl rfl)) ?_
              refine r_on rfl rfl rfl rfl (decide_eq_true (p := t23_0 ≥ s0.N) h6) rfl (PureD.opD (p_u8ne (a := (vrd s0.Held t23_0.toNat)) (b := (0 : UInt8)) rfl rfl rfl)) ?_
              refine r_op rfl rfl (PureD.opD (p_pkt rfl rfl (decide_eq_true (p := t23_0 ≥ s0.N) h6) (tb ((and_l (p := t23_0 ≥ s0.N) (q := (vrd s0.Held t23_0.toNat) ≠ (0 : UInt8)) h6))))) ?_
              refine RunW_st [(1, .c (.ptr 1 (0))), (22, .c (.p (.agg (bcells s0.Held.toList)))), (23, .c (.p (AV.int t23_0))), (34, .c (.p (.bool (decide ((t23_0 ≥ s0.N) ∧ ((vrd s0.Held t23_0.toNat) ≠ (0 : UInt8)))))))] [(1, .pure (GStream.cs s0))] rfl ⟨TLes.same _, TLes.same _, TLes.same _, TLes.same _, trivial⟩ ⟨rfl, trivial⟩ ?_
              exact RunW_nil rfl
            · refine r_off rfl rfl rfl rfl (decide_eq_false (p := t23_0 ≥ s0.N) h6) rfl rfl ?_
              refine r_off rfl rfl rfl rfl (decide_eq_false (p := t23_0 ≥ s0.N) h6) rfl rfl ?_
              refine r_op rfl rfl (PureD.opD (p_pkf rfl rfl (decide_eq_false (p := t23_0 ≥ s0.N) h6) (tb (decide_eq_false (p := (t23_0 ≥ s0.N) ∧ ((vrd s0.Held t23_0.toNat) ≠ (0 : UInt8))) (fun x => h6 x.1)).symm))) ?_
              refine RunW_st [(1, .c (.ptr 1 (0))), (22, .c (.p (.agg (bcells s0.Held.toList)))), (23, .c (.p (AV.int t23_0))), (34, .c (.p (.bool (decide ((t23_0 ≥ s0.N) ∧ ((vrd s0.Held t23_0.toNat) ≠ (0 : UInt8)))))))] [(1, .pure (GStream.cs s0))] rfl ⟨TLes.same _, TLes.same _, TLes.same _, TLes.same _, trivial⟩ ⟨rfl, trivial⟩ ?_
              exact RunW_nil rfl
          · refine AW2_if (p := (t23_0 ≥ s0.N) ∧ ((vrd s0.Held t23_0.toNat) ≠ (0 : UInt8))) rfl (fun h7 => ?_) (fun h7 => ?_)
            · replace H := ite_then h7 H
              refine AW2_seq ?_
              refine AW2_reg [0] rfl ?_
              refine r_op rfl rfl (PureD.opD (p_asg rfl rfl)) ?_
              refine RunW_st [(2, .c (.p (AV.bool true)))] [] rfl ⟨TLes.same _, trivial⟩ trivial ?_
              refine RunW_nil ?_
              refine AW2_ret ?_
              have hz := some_elim H
              subst hz
              exact ⟨rfl, ⟨res_tmp (.same _), trivial⟩, trivial⟩
            · replace H := ite_else h7 H
              refine AW2_st [(1, .c (.ptr 1 (0))), (22, .c (.p (.agg (bcells s0.Held.toList)))), (23, .c (.p (AV.int t23_0)))] [(1, .pure (GStream.cs s0))] rfl ⟨TLes.same _, TLes.same _, TLes.same _, trivial⟩ ⟨rfl, trivial⟩ ?_
              refine AW2_skip ?_
              refine AW2_reg [0, 1] rfl ?_
              refine r_op rfl rfl (PureD.opD (p_bin rfl rfl rfl rfl)) ?_
              refine r_op rfl rfl (PureD.opD (p_move rfl rfl)) ?_
              refine RunW_st [(1, .c (.ptr 1 (0))), (22, .c (.p (.agg (bcells s0.Held.toList)))), (23, .c (.p (AV.int (w64 (t23_0 + (1 : Int))))))] [(1, .pure (GStream.cs s0))] rfl ⟨TLes.same _, TLes.same _, TLes.same _, trivial⟩ ⟨rfl, trivial⟩ ?_
              refine RunW_nil ?_
              have hz := some_elim H
              subst hz
              exact ⟨rfl, rfl⟩
        · replace H := ite_else h4 H
          refine AW2_st [] [] rfl trivial trivial ?_
          refine AW2_exit ?_
          refine thenQ2_exit ?_
          have hz := some_elim H
          subst hz
          exact ⟨rfl, rfl⟩
      · rcases o'4 with y'5 | y'6
        · obtain ⟨rfl, hs⟩ := hs
          refine ⟨by simp, ?_⟩
          have hz := some_elim H
          subst hz
          exact ⟨hs.1, hs.2⟩
        · obtain ⟨rfl, rfl⟩ := hs
          refine ⟨by simp, ?_⟩
          refine blockQ2_exit ?_
          refine AW2_seq ?_
          refine AW2_reg [0] rfl ?_
          refine r_op rfl rfl (PureD.opD (p_asg rfl rfl)) ?_
          refine RunW_st [(2, .c (.p (AV.bool false)))] [] rfl ⟨TLes.same _, trivial⟩ trivial ?_
          refine RunW_nil ?_
          refine AW2_ret ?_
          have hz := some_elim H
          subst hz
          exact ⟨⟨res_tmp (.same _), trivial⟩, trivial⟩
end Go.Proofs.YtoepdjccgngpdaaDoor.VM
