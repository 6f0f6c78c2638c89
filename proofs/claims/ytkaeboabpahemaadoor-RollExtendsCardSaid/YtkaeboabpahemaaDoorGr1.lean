/- Functions of the program, as they answer, and that their code comes to these answers. -/
import Derived.Test.YtkaeboabpahemaaDoorGr0
namespace Go.Proofs.YtkaeboabpahemaaDoor.VM
open Go Go.RowKit



/-! roll.Root -/
noncomputable def g_roll_Root (mode0 : Int) (l1 : List (List UInt8)) : Option ((List UInt8) × Int) :=
  (g_roll_fault mode0 l1).bind fun r'1 => (if r'1 ≠ (0 : Int) then some ([], r'1) else (g_roll_root 100000 mode0 l1).bind fun r'2 => some (r'2.1, r'2.2))
set_option maxHeartbeats 4000000 in
set_option maxRecDepth 100000 in
theorem g_roll_Root_ac {mode0 : Int} {l1 : List (List UInt8)} {r : (List UInt8) × Int} (H : g_roll_Root mode0 l1 = some r) : ACp Tryd.prog 29 [(AV.int mode0), (AV.lists l1)] (.tup [(AV.bytes r.1), (AV.int r.2)]) := by
  refine ACp_of (AC2_of_body (vs := [.y r.1, .i r.2]) Tryd.func29 rfl rfl (Nat.le_of_ble_eq_true rfl) rfl ?_) (fun _ => .same _)
  unfold g_roll_Root at H
  refine as2 [(0, .i mode0), (1, .p (AV.lists l1))] [] rfl rfl rfl ?_
  refine sg [0, 1] rfl ?_
  refine rp rfl rfl (p_asgn rfl) ?_
  refine rp rfl rfl (p_asg rfl rfl) ?_
  refine rz [(0, .i mode0), (1, .p (AV.lists l1))] [] rfl rfl rfl ?_
  refine AW2_seq ?_
  refine sg [0, 1, 2, 3] rfl ?_
  refine rp rfl rfl (p_move rfl rfl) ?_
  refine rp rfl rfl (p_move rfl rfl) ?_
  refine bindK H fun r'1 h1 H => ?_
  refine rp rfl rfl (p_callp rfl rfl rfl Tryd.func60 rfl rfl (g_roll_fault_ac h1) ⟨rfl, rfl, trivial⟩) ?_
  refine rp rfl rfl (p_asg rfl rfl) ?_
  refine rz [(0, .i mode0), (1, .p (AV.lists l1)), (6, .i r'1)] [] rfl rfl rfl ?_
  refine sg [0, 1] rfl ?_
  refine rp rfl rfl (p_move rfl rfl) ?_
  refine rp rfl rfl (p_ine rfl rfl rfl) ?_
  refine rz [(0, .i mode0), (1, .p (AV.lists l1)), (6, .i r'1), (11, .b (decide (r'1 ≠ (0 : Int))))] [] rfl rfl rfl ?_
  refine AW2_if (p := r'1 ≠ (0 : Int)) rfl (fun h2 => ?_) (fun h2 => ?_)
  · replace H := ite_then h2 H
    refine sg [0, 1, 2] rfl ?_
    refine rp rfl rfl (p_move rfl rfl) ?_
    refine rp rfl rfl (p_asgn rfl) ?_
    refine rp rfl rfl (p_asg rfl rfl) ?_
    refine rz [(4, .p .nil), (5, .i r'1)] [] rfl rfl rfl ?_
    refine AW2_ret ?_
    have hz := some_elim H
    subst hz
    exact ⟨⟨res_tmp TLes.nil0, res_tmp (.same _), trivial⟩, trivial⟩
  · replace H := ite_else h2 H
    refine as2 [(0, .i mode0), (1, .p (AV.lists l1))] [] rfl rfl rfl ?_
    refine AW2_skip ?_
    refine sg [0, 1, 2, 3, 4, 5, 6] rfl ?_
    refine rp rfl rfl (p_move rfl rfl) ?_
    refine rp rfl rfl (p_move rfl rfl) ?_
    refine bindK H fun r'2 h3 H => ?_
    refine rp rfl rfl (p_callp rfl rfl rfl Tryd.func61 rfl rfl (g_roll_root_ac h3) ⟨rfl, rfl, trivial⟩) ?_
    refine rp rfl rfl (p_ext rfl rfl rfl rfl) ?_
    refine rp rfl rfl (p_ext rfl rfl rfl rfl) ?_
    refine rp rfl rfl (p_asg rfl rfl) ?_
    refine rp rfl rfl (p_asg rfl rfl) ?_
    refine rz [(4, .y r'2.1), (5, .i r'2.2)] [] rfl rfl rfl ?_
    refine AW2_ret ?_
    have hz := some_elim H
    subst hz
    exact ⟨⟨res_tmp (.same _), res_tmp (.same _), trivial⟩, trivial⟩

/-! chirographref.badMode -/
noncomputable def g_ref_badMode (mode0 : Int) : Option (Bool) :=
  some (decide ((mode0 ≠ (1 : Int)) ∧ (mode0 ≠ (2 : Int))))
set_option maxHeartbeats 4000000 in
set_option maxRecDepth 100000 in
theorem g_ref_badMode_ac {mode0 : Int} {r : Bool} (H : g_ref_badMode mode0 = some r) : ACp Tryd.prog 41 [(AV.int mode0)] (AV.bool r) := by
  refine ACp_of (AC2_of_body (vs := [.b r]) Tryd.func41 rfl rfl (Nat.le_of_ble_eq_true rfl) rfl ?_) (fun _ => .same _)
  unfold g_ref_badMode at H
  refine as2 [(0, .i mode0)] [] rfl rfl rfl ?_
  refine sg [0] rfl ?_
  refine rp rfl rfl (p_asg rfl rfl) ?_
  refine rz [(0, .i mode0)] [] rfl rfl rfl ?_
  refine AW2_seq ?_
  refine AW2_mid (⟨[(2, .b (decide ((mode0 ≠ (1 : Int)) ∧ (mode0 ≠ (2 : Int)))))], [], 9⟩ : TS) ?_ ?_
  · refine AW2_reg [0, 1, 2, 3, 4, 5, 6] rfl ?_
    refine rp rfl rfl (p_move rfl rfl) ?_
    refine rp rfl rfl (p_ine rfl rfl rfl) ?_
    refine rp rfl rfl (p_move rfl rfl) ?_
    refine (Classical.em (mode0 ≠ (1 : Int))).elim (fun h1 => ?_) (fun h1 => ?_)
    · refine r_on rfl rfl rfl rfl (decide_eq_true (p := mode0 ≠ (1 : Int)) h1) rfl (PureD.opD (p_move rfl rfl)) ?_
      refine r_on rfl rfl rfl rfl (decide_eq_true (p := mode0 ≠ (1 : Int)) h1) rfl (PureD.opD (p_ine rfl rfl rfl)) ?_
      refine rp rfl rfl (p_pkt rfl rfl (decide_eq_true (p := mode0 ≠ (1 : Int)) h1) (tb ((and_l (p := mode0 ≠ (1 : Int)) (q := mode0 ≠ (2 : Int)) h1)))) ?_
      refine rp rfl rfl (p_asg rfl rfl) ?_
      refine rs [(2, .b (decide ((mode0 ≠ (1 : Int)) ∧ (mode0 ≠ (2 : Int)))))] [] rfl rfl rfl ?_
      exact RunW_nil rfl
    · refine r_off rfl rfl rfl rfl (decide_eq_false (p := mode0 ≠ (1 : Int)) h1) rfl rfl ?_
      refine r_off rfl rfl rfl rfl (decide_eq_false (p := mode0 ≠ (1 : Int)) h1) rfl rfl ?_
      refine rp rfl rfl (p_pkf rfl rfl (decide_eq_false (p := mode0 ≠ (1 : Int)) h1) (tb (decide_eq_false (p := (mode0 ≠ (1 : Int)) ∧ (mode0 ≠ (2 : Int))) (fun x => h1 x.1)).symm)) ?_
      refine rp rfl rfl (p_asg rfl rfl) ?_
      refine rs [(2, .b (decide ((mode0 ≠ (1 : Int)) ∧ (mode0 ≠ (2 : Int)))))] [] rfl rfl rfl ?_
      exact RunW_nil rfl
  · refine AW2_ret ?_
    have hz := some_elim H
    subst hz
    exact ⟨⟨res_tmp (.same _), trivial⟩, trivial⟩

/-! chirographref.rollFault -/
noncomputable def g_ref_rollFault (mode0 : Int) (l1 : List (List UInt8)) : Option (Int) :=
  (g_ref_badMode mode0).bind fun r'1 => (if r'1 = true then some (2 : Int) else (if (l1.length : Int) > (64 : Int) then some (1 : Int) else some (0 : Int)))
set_option maxHeartbeats 4000000 in
set_option maxRecDepth 100000 in
theorem g_ref_rollFault_ac {mode0 : Int} {l1 : List (List UInt8)} {r : Int} (H : g_ref_rollFault mode0 l1 = some r) : ACp Tryd.prog 62 [(AV.int mode0), (AV.lists l1)] (AV.int r) := by
  refine ACp_of (AC2_of_body (vs := [.i r]) Tryd.func62 rfl rfl (Nat.le_of_ble_eq_true rfl) rfl ?_) (fun _ => .same _)
  unfold g_ref_rollFault at H
  refine as2 [(0, .i mode0), (1, .p (AV.lists l1))] [] rfl rfl rfl ?_
  refine sg [0] rfl ?_
  refine rp rfl rfl (p_asg rfl rfl) ?_
  refine rz [(0, .i mode0), (1, .p (AV.lists l1))] [] rfl rfl rfl ?_
  refine AW2_seq ?_
  refine sg [0, 1] rfl ?_
  refine rp rfl rfl (p_move rfl rfl) ?_
  refine bindK H fun r'1 h1 H => ?_
  refine rp rfl rfl (p_callp rfl rfl rfl Tryd.func41 rfl rfl (g_ref_badMode_ac h1) ⟨rfl, trivial⟩) ?_
  refine rz [(1, .p (AV.lists l1)), (6, .b r'1)] [] rfl rfl rfl ?_
  refine AW2_cond rfl (fun h2 => ?_) (fun h2 => ?_)
  · replace H := ite_then h2 H
    refine sg [0] rfl ?_
    refine rp rfl rfl (p_asg rfl rfl) ?_
    refine rz [(4, .i (2 : Int))] [] rfl rfl rfl ?_
    refine AW2_ret ?_
    have hz := some_elim H
    subst hz
    exact ⟨⟨res_tmp (.same _), trivial⟩, trivial⟩
  · replace H := ite_else (ne_true h2) H
    refine as2 [(1, .p (AV.lists l1))] [] rfl rfl rfl ?_
    refine AW2_skip ?_
    refine AW2_seq ?_
    refine sg [0, 1, 2] rfl ?_
    refine rp rfl rfl (p_move rfl rfl) ?_
    refine rp rfl rfl (p_lenl rfl Tryd.underlying33 rfl rfl) ?_
    refine rp rfl rfl (p_bin rfl rfl rfl rfl) ?_
    refine rz [(9, .b (decide ((l1.length : Int) > (64 : Int))))] [] rfl rfl rfl ?_
    refine AW2_if (p := (l1.length : Int) > (64 : Int)) rfl (fun h3 => ?_) (fun h3 => ?_)
    · replace H := ite_then h3 H
      refine sg [0] rfl ?_
      refine rp rfl rfl (p_asg rfl rfl) ?_
      refine rz [(4, .i (1 : Int))] [] rfl rfl rfl ?_
      refine AW2_ret ?_
      have hz := some_elim H
      subst hz
      exact ⟨⟨res_tmp (.same _), trivial⟩, trivial⟩
    · replace H := ite_else h3 H
      refine as2 [] [] rfl rfl rfl ?_
      refine AW2_skip ?_
      refine sg [0] rfl ?_
      refine rp rfl rfl (p_asg rfl rfl) ?_
      refine rz [(4, .i (0 : Int))] [] rfl rfl rfl ?_
      refine AW2_ret ?_
      have hz := some_elim H
      subst hz
      exact ⟨⟨res_tmp (.same _), trivial⟩, trivial⟩

/-! chirographref.big -/
noncomputable def g_ref_big_l0 (size1 : Int) : UInt64 × (List UInt8) × Int → Option ((UInt64 × (List UInt8) × Int) ⊕ (((List UInt8))))
  | (n0_0, s5_0, t7_0) => (if t7_0 < size1 then if ([n0_0.toUInt8] : List UInt8).length + s5_0.length ≤ 9223372036854775807 then some (.inl (shr_u64 n0_0 8, ([n0_0.toUInt8] : List UInt8) ++ s5_0, w64 (t7_0 + (1 : Int)))) else none else some (.inr s5_0))
noncomputable def g_ref_big (n0 : UInt64) (size1 : Int) : Option ((List UInt8)) :=
  (loopO (g_ref_big_l0 size1) (n0, [], (0 : Int))).bind fun y'4 => some y'4
set_option maxHeartbeats 4000000 in
set_option maxRecDepth 100000 in
theorem g_ref_big_ac {n0 : UInt64} {size1 : Int} {r : (List UInt8)} (H : g_ref_big n0 size1 = some r) : ACp Tryd.prog 90 [(AV.u64 n0), (AV.int size1)] (AV.txt r) := by
  refine ACp_of (AC2_of_body (vs := [.t r]) Tryd.func90 rfl rfl (Nat.le_of_ble_eq_true rfl) rfl ?_) (fun _ => .same _)
  unfold g_ref_big at H
  refine as2 [(0, .p (AV.u64 n0)), (1, .i size1)] [] rfl rfl rfl ?_
  refine sg [0] rfl ?_
  refine rp rfl rfl (p_asg rfl rfl) ?_
  refine rz [(0, .p (AV.u64 n0)), (1, .i size1)] [] rfl rfl rfl ?_
  refine sg [0] rfl ?_
  refine rp rfl rfl (p_asg rfl rfl) ?_
  refine rz [(0, .p (AV.u64 n0)), (1, .i size1), (5, .t [])] [] rfl rfl rfl ?_
  refine AW2_seq ?_
  refine sg [0, 1] rfl ?_
  refine rp rfl rfl (p_move rfl rfl) ?_
  refine rp rfl rfl (p_move rfl rfl) ?_
  refine rz [(0, .p (AV.u64 n0)), (5, .t []), (6, .i size1), (7, .i (0 : Int))] [] rfl rfl rfl ?_
  refine AW2_block ?_
  refine as2 [(0, .p (AV.u64 n0)), (5, .t []), (6, .i size1), (7, .i (0 : Int))] [] rfl rfl rfl ?_
  refine bindK H fun y'4 h3 H => ?_
  refine AW2_loopO (fun a'1 : UInt64 × (List UInt8) × Int => (⟨[(0, .p (AV.u64 a'1.1)), (5, .t a'1.2.1), (6, .i size1), (7, .i a'1.2.2)], [], 19⟩ : TS)) (fun (y'2 : ((List UInt8))) e s' => e = Go.Exit.exit 0 ∧ s' = (⟨[(5, .t y'2)], [], 19⟩ : TS)) h3 rfl (fun a x hx => ?_) (fun e s' hs => ?_)
  · clear H
    obtain ⟨n0_0, s5_0, t7_0⟩ := a
    have H := hx
    clear hx
    unfold g_ref_big_l0 at H
    refine sg [0] rfl ?_
    refine rp rfl rfl (p_bin rfl rfl rfl rfl) ?_
    refine rz [(0, .p (AV.u64 n0_0)), (5, .t s5_0), (6, .i size1), (7, .i t7_0), (8, .b (decide (t7_0 < size1)))] [] rfl rfl rfl ?_
    refine AW2_seq ?_
    refine AW2_if (p := t7_0 < size1) rfl (fun h1 => ?_) (fun h1 => ?_)
    · replace H := ite_then h1 H
      refine as2 [(0, .p (AV.u64 n0_0)), (5, .t s5_0), (6, .i size1), (7, .i t7_0)] [] rfl rfl rfl ?_
      refine AW2_skip ?_
      refine AW2_seq ?_
      refine AW2_block ?_
      refine sg [0, 1, 2, 3, 4, 5, 6] rfl ?_
      refine rp rfl rfl (p_move rfl rfl) ?_
      refine rp rfl rfl (p_u64_u8 (a := n0_0) rfl Tryd.underlying103 Tryd.underlying5 rfl) ?_
      refine r_op rfl rfl (MakeD.opD (u_bs 11 rfl Tryd.underlying22 in_5 rfl one_5 (by decide) (by decide) rfl rfl rfl) rfl rfl rfl rfl) ?_
      refine rp rfl rfl (p_cbo (bs := ([n0_0.toUInt8] : List UInt8)) rfl rfl Tryd.underlying22 Tryd.underlying5 Tryd.underlying9 rfl rfl) ?_
      refine rp rfl rfl (p_move rfl rfl) ?_
      refine chkK H fun h2 H => ?_
      refine rp rfl rfl (p_cat rfl rfl rfl h2) ?_
      refine rp rfl rfl (p_asg rfl rfl) ?_
      refine rz [(0, .p (AV.u64 n0_0)), (5, .t (([n0_0.toUInt8] : List UInt8) ++ s5_0)), (6, .i size1), (7, .i t7_0)] [] rfl rfl rfl ?_
      refine AW2_reg [0, 1, 2] rfl ?_
      refine rp rfl rfl (p_move rfl rfl) ?_
      refine rp rfl rfl (p_u64shr (n := 8) rfl rfl rfl rfl) ?_
      refine rp rfl rfl (p_asg rfl rfl) ?_
      refine rz [(0, .p (AV.u64 (shr_u64 n0_0 8))), (5, .t (([n0_0.toUInt8] : List UInt8) ++ s5_0)), (6, .i size1), (7, .i t7_0)] [] rfl rfl rfl ?_
      refine AW2_reg [0, 1] rfl ?_
      refine rp rfl rfl (p_bin rfl rfl rfl rfl) ?_
      refine rp rfl rfl (p_move rfl rfl) ?_
      refine rz [(0, .p (AV.u64 (shr_u64 n0_0 8))), (5, .t (([n0_0.toUInt8] : List UInt8) ++ s5_0)), (6, .i size1), (7, .i (w64 (t7_0 + (1 : Int))))] [] rfl rfl rfl ?_
      have hz := some_elim H
      subst hz
      exact ⟨rfl, rfl⟩
    · replace H := ite_else h1 H
      refine as2 [(5, .t s5_0)] [] rfl rfl rfl ?_
      refine AW2_exit ?_
      refine thenQ2_exit ?_
      have hz := some_elim H
      subst hz
      exact ⟨rfl, rfl⟩
  · obtain ⟨rfl, rfl⟩ := hs
    refine ⟨by simp, ?_⟩
    refine blockQ2_exit ?_
    refine sg [0, 1] rfl ?_
    refine rp rfl rfl (p_move rfl rfl) ?_
    refine rp rfl rfl (p_asg rfl rfl) ?_
    refine rz [(4, .t y'4)] [] rfl rfl rfl ?_
    refine AW2_ret ?_
    have hz := some_elim H
    subst hz
    exact ⟨⟨res_tmp (.same _), trivial⟩, trivial⟩

/-! chirographref.framed -/
noncomputable def g_ref_framed_l0 (parts1 : List (List UInt8)) : (List UInt8) × Int → Option (((List UInt8) × Int) ⊕ (((List UInt8))))
  | (s5_0, t17_0) => (if t17_0 < (parts1.length : Int) then if 0 ≤ t17_0 ∧ t17_0 < (parts1.length : Int) then (g_ref_big (UInt64.ofInt ((lrd parts1 t17_0.toNat).length : Int)) (4 : Int)).bind fun r'1 => if r'1.length + (lrd parts1 t17_0.toNat).length ≤ 9223372036854775807 then if s5_0.length + (r'1 ++ (lrd parts1 t17_0.toNat)).length ≤ 9223372036854775807 then some (.inl (s5_0 ++ (r'1 ++ (lrd parts1 t17_0.toNat)), w64 (t17_0 + (1 : Int)))) else none else none else none else some (.inr s5_0))
noncomputable def g_ref_framed (tag0 : Int) (parts1 : List (List UInt8)) : Option ((List UInt8)) :=
  (loopO (g_ref_framed_l0 parts1) (([UInt8.ofInt tag0, UInt8.ofInt (parts1.length : Int)] : List UInt8), (0 : Int))).bind fun y'5 => some y'5
set_option maxHeartbeats 4000000 in
set_option maxRecDepth 100000 in
theorem g_ref_framed_ac {tag0 : Int} {parts1 : List (List UInt8)} {r : (List UInt8)} (H : g_ref_framed tag0 parts1 = some r) : ACp Tryd.prog 84 [(AV.int tag0), (AV.lists parts1)] (AV.txt r) := by
  refine ACp_of (AC2_of_body (vs := [.t r]) Tryd.func84 rfl rfl (Nat.le_of_ble_eq_true rfl) rfl ?_) (fun _ => .same _)
  unfold g_ref_framed at H
  refine as2 [(0, .i tag0), (1, .p (AV.lists parts1))] [] rfl rfl rfl ?_
  refine sg [0] rfl ?_
  refine rp rfl rfl (p_asg rfl rfl) ?_
  refine rz [(0, .i tag0), (1, .p (AV.lists parts1))] [] rfl rfl rfl ?_
  refine sg [0, 1, 2, 3, 4, 5, 6, 7] rfl ?_
  refine rp rfl rfl (p_move rfl rfl) ?_
  refine rp rfl rfl (p_i_u8 rfl Tryd.underlying3 Tryd.underlying5 rfl) ?_
  refine rp rfl rfl (p_move rfl rfl) ?_
  refine rp rfl rfl (p_lenl rfl Tryd.underlying33 rfl rfl) ?_
  refine rp rfl rfl (p_i_u8 rfl Tryd.underlying3 Tryd.underlying5 rfl) ?_
  refine r_op rfl rfl (MakeD.opD (u_bs 13 rfl Tryd.underlying22 in_5 rfl one_5 (by decide) (by decide) rfl rfl rfl) rfl rfl rfl rfl) ?_
  refine rp rfl rfl (p_cbo (bs := ([UInt8.ofInt tag0, UInt8.ofInt (parts1.length : Int)] : List UInt8)) rfl rfl Tryd.underlying22 Tryd.underlying5 Tryd.underlying9 rfl rfl) ?_
  refine rp rfl rfl (p_asg rfl rfl) ?_
  refine rz [(1, .p (AV.lists parts1)), (5, .t ([UInt8.ofInt tag0, UInt8.ofInt (parts1.length : Int)] : List UInt8))] [] rfl rfl rfl ?_
  refine AW2_seq ?_
  refine sg [0, 1, 2] rfl ?_
  refine rp rfl rfl (p_move rfl rfl) ?_
  refine rp rfl rfl (p_lenl rfl Tryd.underlying33 rfl rfl) ?_
  refine rp rfl rfl (p_move rfl rfl) ?_
  refine rz [(5, .t ([UInt8.ofInt tag0, UInt8.ofInt (parts1.length : Int)] : List UInt8)), (15, .p (AV.lists parts1)), (16, .i (parts1.length : Int)), (17, .i (0 : Int))] [] rfl rfl rfl ?_
  refine AW2_block ?_
  refine as2 [(5, .t ([UInt8.ofInt tag0, UInt8.ofInt (parts1.length : Int)] : List UInt8)), (15, .p (AV.lists parts1)), (16, .i (parts1.length : Int)), (17, .i (0 : Int))] [] rfl rfl rfl ?_
  refine bindK H fun y'5 h6 H => ?_
  refine AW2_loopO (fun a'2 : (List UInt8) × Int => (⟨[(5, .t a'2.1), (15, .p (AV.lists parts1)), (16, .i (parts1.length : Int)), (17, .i a'2.2)], [], 32⟩ : TS)) (fun (y'3 : ((List UInt8))) e s' => e = Go.Exit.exit 0 ∧ s' = (⟨[(5, .t y'3)], [], 32⟩ : TS)) h6 rfl (fun a x hx => ?_) (fun e s' hs => ?_)
  · clear H
    obtain ⟨s5_0, t17_0⟩ := a
    have H := hx
    clear hx
    unfold g_ref_framed_l0 at H
    refine sg [0] rfl ?_
    refine rp rfl rfl (p_bin rfl rfl rfl rfl) ?_
    refine rz [(5, .t s5_0), (15, .p (AV.lists parts1)), (16, .i (parts1.length : Int)), (17, .i t17_0), (18, .b (decide (t17_0 < (parts1.length : Int))))] [] rfl rfl rfl ?_
    refine AW2_seq ?_
    refine AW2_if (p := t17_0 < (parts1.length : Int)) rfl (fun h1 => ?_) (fun h1 => ?_)
    · replace H := ite_then h1 H
      refine as2 [(5, .t s5_0), (15, .p (AV.lists parts1)), (16, .i (parts1.length : Int)), (17, .i t17_0)] [] rfl rfl rfl ?_
      refine AW2_skip ?_
      refine AW2_seq ?_
      refine AW2_block ?_
      refine sg [0, 1, 2] rfl ?_
      refine chkK H fun h2 H => ?_
      refine rp rfl rfl (u_ixl rfl rfl Tryd.underlying33 in_22 rfl rfl (ixe h2) (ixn h2) (lne (ixn h2))) ?_
      refine rp rfl rfl (u_ld rfl rfl Tryd.underlying22 rfl rfl (Sub.map default (ixn h2))) ?_
      refine rp rfl rfl (p_asg rfl rfl) ?_
      refine rz [(5, .t s5_0), (7, .y (lrd parts1 t17_0.toNat)), (15, .p (AV.lists parts1)), (16, .i (parts1.length : Int)), (17, .i t17_0)] [] rfl rfl rfl ?_
      refine bindK H fun r'1 h3 H => ?_
      refine chkK H fun h4 H => ?_
      refine chkK H fun h5 H => ?_
      refine AW2_ghoQ ?_
      refine AW2_draw 8 [8, 9] (fun k => ([.t s5_0, .y (lrd parts1 t17_0.toNat), .i ((lrd parts1 t17_0.toNat).length : Int), .p (AV.u64 (UInt64.ofInt ((lrd parts1 t17_0.toNat).length : Int))), .t r'1, .y (lrd parts1 t17_0.toNat), .t (lrd parts1 t17_0.toNat), .t (r'1 ++ (lrd parts1 t17_0.toNat))] : List TV).getD k TV.any) (fun k => ([[(5, none)], [(7, none)], [(22, some 1)], [(23, some 2)], [(24, some 3)], [(7, none)], [(26, some 5)], [(25, some 4), (27, some 6)]] : List (List (Nat × Option Nat))).getD k []) [(5, none), (15, none), (16, none), (17, none), (21, some 0), (28, some 7)] [] (fun k => ([[], [], [1], [1, 2], [1, 2, 3], [], [5], [1, 2, 3, 4, 5, 6], [0, 1, 2, 3, 4, 5, 6, 7], [0, 1, 2, 3, 4, 5, 6, 7, 8]] : List (List Nat)).getD k []) mixed (by kernel_rfl) rfl rfl (a_op (g_x rfl (x_p rfl (p_move rfl rfl) rfl)) (a_op (g_x rfl (x_p rfl (p_move rfl rfl) rfl)) (a_op (g_x rfl (x_p rfl (p_lenl rfl Tryd.underlying22 rfl rfl) rfl)) (a_op (g_x rfl (x_p rfl (p_i_u64 rfl Tryd.underlying3 Tryd.underlying103 rfl) rfl)) (a_op (g_x rfl (x_p rfl (p_callp rfl rfl rfl Tryd.func90 rfl rfl (g_ref_big_ac h3) ⟨rfl, rfl, trivial⟩) rfl)) (a_op (g_x rfl (x_p rfl (p_move rfl rfl) rfl)) (a_op (g_x rfl (x_p rfl (p_cb rfl rfl Tryd.underlying22 Tryd.underlying5 Tryd.underlying9 rfl) rfl)) (a_op (g_x rfl (x_p rfl (p_cat rfl rfl rfl h4) rfl)) (a_nil))))))))) ?_
      refine t_op rfl rfl (PureD.opD (p_cat rfl rfl rfl h5)) ?_
      refine t_op rfl rfl (PureD.opD (p_asg rfl rfl)) ?_
      refine t_gho (Gho_st (L := [(5, .t (s5_0 ++ (r'1 ++ (lrd parts1 t17_0.toNat)))), (15, .p (AV.lists parts1)), (16, .i (parts1.length : Int)), (17, .i t17_0)]) (H := []) (N := 32) rfl ⟨TLes.same _, TLes.same _, TLes.same _, TLes.same _, trivial⟩ trivial) ?_
      refine AW2_reg [0, 1] rfl ?_
      refine rp rfl rfl (p_bin rfl rfl rfl rfl) ?_
      refine rp rfl rfl (p_move rfl rfl) ?_
      refine rz [(5, .t (s5_0 ++ (r'1 ++ (lrd parts1 t17_0.toNat)))), (15, .p (AV.lists parts1)), (16, .i (parts1.length : Int)), (17, .i (w64 (t17_0 + (1 : Int))))] [] rfl rfl rfl ?_
      have hz := some_elim H
      subst hz
      exact ⟨rfl, rfl⟩
    · replace H := ite_else h1 H
      refine as2 [(5, .t s5_0)] [] rfl rfl rfl ?_
      refine AW2_exit ?_
      refine thenQ2_exit ?_
      have hz := some_elim H
      subst hz
      exact ⟨rfl, rfl⟩
  · obtain ⟨rfl, rfl⟩ := hs
    refine ⟨by simp, ?_⟩
    refine blockQ2_exit ?_
    refine sg [0, 1] rfl ?_
    refine rp rfl rfl (p_move rfl rfl) ?_
    refine rp rfl rfl (p_asg rfl rfl) ?_
    refine rz [(4, .t y'5)] [] rfl rfl rfl ?_
    refine AW2_ret ?_
    have hz := some_elim H
    subst hz
    exact ⟨⟨res_tmp (.same _), trivial⟩, trivial⟩

/-! chirographref.FrameOf -/
noncomputable def g_ref_FrameOf_l0 (parts1 : List (List UInt8)) : Int × Int → Option ((Int × Int) ⊕ (((List UInt8) × Int) ⊕ Unit))
  | (room6_0, t24_0) => (if t24_0 < (parts1.length : Int) then if 0 ≤ t24_0 ∧ t24_0 < (parts1.length : Int) then (if ((lrd parts1 t24_0.toNat).length : Int) > room6_0 then some (.inr (.inl (([] : List UInt8), (1 : Int)))) else some (.inl (w64 (room6_0 - ((lrd parts1 t24_0.toNat).length : Int)), w64 (t24_0 + (1 : Int))))) else none else some (.inr (.inr ())))
noncomputable def g_ref_FrameOf (tag0 : Int) (parts1 : List (List UInt8)) : Option ((List UInt8) × Int) :=
  (if (tag0 < (1 : Int)) ∨ (tag0 > (9 : Int)) then some (([] : List UInt8), (6 : Int)) else (if (parts1.length : Int) > (8 : Int) then some (([] : List UInt8), (1 : Int)) else (loopO (g_ref_FrameOf_l0 parts1) (w64 ((16777214 : Int) - (w64 ((4 : Int) * (parts1.length : Int)))), (0 : Int))).bind fun o'4 => match o'4 with | .inl y'5 => some y'5 | .inr (y'6) => (g_ref_framed tag0 parts1).bind fun r'7 => some (r'7, (0 : Int))))
set_option maxHeartbeats 4000000 in
set_option maxRecDepth 100000 in
theorem g_ref_FrameOf_ac2 {tag0 : Int} {parts1 : List (List UInt8)} {r : (List UInt8) × Int} (H : g_ref_FrameOf tag0 parts1 = some r) : AC2 Tryd.prog 74 (pureT [(AV.int tag0), (AV.lists parts1)]) [] (retV [.c (.own 4 r.1.length 1), .i r.2]) [(4, .pure (bcells r.1))] := by
  refine AC2_of_body (vs := [.c (.own 4 r.1.length 1), .i r.2]) Tryd.func74 rfl rfl (Nat.le_of_ble_eq_true rfl) rfl ?_
  unfold g_ref_FrameOf at H
  refine as2 [(0, .i tag0), (1, .p (AV.lists parts1))] [] rfl rfl rfl ?_
  refine sg [0, 1] rfl ?_
  refine rp rfl rfl (p_asgn rfl) ?_
  refine rp rfl rfl (p_asg rfl rfl) ?_
  refine rz [(0, .i tag0), (1, .p (AV.lists parts1))] [] rfl rfl rfl ?_
  refine AW2_seq ?_
  refine AW2_seq ?_
  refine AW2_mid (⟨[(0, .i tag0), (1, .p (AV.lists parts1)), (14, .b (decide ((tag0 < (1 : Int)) ∨ (tag0 > (9 : Int)))))], [], 41⟩ : TS) ?_ ?_
  · refine AW2_reg [0, 1, 2, 3, 4, 5] rfl ?_
    refine rp rfl rfl (p_move rfl rfl) ?_
    refine rp rfl rfl (p_bin rfl rfl rfl rfl) ?_
    refine rp rfl rfl (p_move rfl rfl) ?_
    refine (Classical.em (tag0 < (1 : Int))).elim (fun h1 => ?_) (fun h1 => ?_)
    · refine r_off rfl rfl rfl rfl (decide_eq_true (p := tag0 < (1 : Int)) h1) rfl rfl ?_
      refine r_off rfl rfl rfl rfl (decide_eq_true (p := tag0 < (1 : Int)) h1) rfl rfl ?_
      refine rp rfl rfl (p_pkt rfl rfl (decide_eq_true (p := tag0 < (1 : Int)) h1) (tb (decide_eq_true (p := (tag0 < (1 : Int)) ∨ (tag0 > (9 : Int))) (Or.inl h1)).symm)) ?_
      refine rs [(0, .i tag0), (1, .p (AV.lists parts1)), (14, .b (decide ((tag0 < (1 : Int)) ∨ (tag0 > (9 : Int)))))] [] rfl rfl rfl ?_
      exact RunW_nil rfl
    · refine r_on rfl rfl rfl rfl (decide_eq_false (p := tag0 < (1 : Int)) h1) rfl (PureD.opD (p_move rfl rfl)) ?_
      refine r_on rfl rfl rfl rfl (decide_eq_false (p := tag0 < (1 : Int)) h1) rfl (PureD.opD (p_bin rfl rfl rfl rfl)) ?_
      refine rp rfl rfl (p_pkf rfl rfl (decide_eq_false (p := tag0 < (1 : Int)) h1) (tb ((or_l (p := tag0 < (1 : Int)) (q := tag0 > (9 : Int)) h1)))) ?_
      refine rs [(0, .i tag0), (1, .p (AV.lists parts1)), (14, .b (decide ((tag0 < (1 : Int)) ∨ (tag0 > (9 : Int)))))] [] rfl rfl rfl ?_
      exact RunW_nil rfl
  · refine AW2_if (p := (tag0 < (1 : Int)) ∨ (tag0 > (9 : Int))) rfl (fun h2 => ?_) (fun h2 => ?_)
    · replace H := ite_then h2 H
      refine sg [0, 1] rfl ?_
      refine rp rfl rfl (p_asgn rfl) ?_
      refine rp rfl rfl (p_asg rfl rfl) ?_
      refine rz [(4, .p .nil), (5, .i (6 : Int))] [] rfl rfl rfl ?_
      refine as2 [(4, .p .nil), (5, .i (6 : Int))] [] rfl rfl rfl ?_
      refine AW2_gho (Gho_own (d := 4) (b := 4) (z := 1) rfl rfl rfl rfl) ?_
      refine AW2_st [(4, .c (.own 4 ([] : List UInt8).length 1)), (5, .i (6 : Int))] [(4, .pure (bcells ([] : List UInt8)))] rfl ⟨TLes.own rfl, TLes.same _, trivial⟩ ⟨rfl, trivial⟩ ?_
      refine AW2_ret ?_
      have hz := some_elim H
      subst hz
      exact ⟨⟨res_tmp (.same _), res_tmp (.same _), trivial⟩, ⟨rfl, trivial⟩⟩
    · replace H := ite_else h2 H
      refine as2 [(0, .i tag0), (1, .p (AV.lists parts1))] [] rfl rfl rfl ?_
      refine AW2_skip ?_
      refine AW2_seq ?_
      refine sg [0, 1, 2] rfl ?_
      refine rp rfl rfl (p_move rfl rfl) ?_
      refine rp rfl rfl (p_lenl rfl Tryd.underlying33 rfl rfl) ?_
      refine rp rfl rfl (p_bin rfl rfl rfl rfl) ?_
      refine rz [(0, .i tag0), (1, .p (AV.lists parts1)), (17, .b (decide ((parts1.length : Int) > (8 : Int))))] [] rfl rfl rfl ?_
      refine AW2_if (p := (parts1.length : Int) > (8 : Int)) rfl (fun h3 => ?_) (fun h3 => ?_)
      · replace H := ite_then h3 H
        refine sg [0, 1] rfl ?_
        refine rp rfl rfl (p_asgn rfl) ?_
        refine rp rfl rfl (p_asg rfl rfl) ?_
        refine rz [(4, .p .nil), (5, .i (1 : Int))] [] rfl rfl rfl ?_
        refine as2 [(4, .p .nil), (5, .i (1 : Int))] [] rfl rfl rfl ?_
        refine AW2_gho (Gho_own (d := 4) (b := 4) (z := 1) rfl rfl rfl rfl) ?_
        refine AW2_st [(4, .c (.own 4 ([] : List UInt8).length 1)), (5, .i (1 : Int))] [(4, .pure (bcells ([] : List UInt8)))] rfl ⟨TLes.own rfl, TLes.same _, trivial⟩ ⟨rfl, trivial⟩ ?_
        refine AW2_ret ?_
        have hz := some_elim H
        subst hz
        exact ⟨⟨res_tmp (.same _), res_tmp (.same _), trivial⟩, ⟨rfl, trivial⟩⟩
      · replace H := ite_else h3 H
        refine as2 [(0, .i tag0), (1, .p (AV.lists parts1))] [] rfl rfl rfl ?_
        refine AW2_skip ?_
        refine sg [0, 1, 2, 3, 4] rfl ?_
        refine rp rfl rfl (p_move rfl rfl) ?_
        refine rp rfl rfl (p_lenl rfl Tryd.underlying33 rfl rfl) ?_
        refine rp rfl rfl (p_bin rfl rfl rfl rfl) ?_
        refine rp rfl rfl (p_bin rfl rfl rfl rfl) ?_
        refine rp rfl rfl (p_asg rfl rfl) ?_
        refine rz [(0, .i tag0), (1, .p (AV.lists parts1)), (6, .i (w64 ((16777214 : Int) - (w64 ((4 : Int) * (parts1.length : Int))))))] [] rfl rfl rfl ?_
        refine AW2_seq ?_
        refine sg [0, 1, 2] rfl ?_
        refine rp rfl rfl (p_move rfl rfl) ?_
        refine rp rfl rfl (p_lenl rfl Tryd.underlying33 rfl rfl) ?_
        refine rp rfl rfl (p_move rfl rfl) ?_
        refine rz [(0, .i tag0), (1, .p (AV.lists parts1)), (6, .i (w64 ((16777214 : Int) - (w64 ((4 : Int) * (parts1.length : Int)))))), (22, .p (AV.lists parts1)), (23, .i (parts1.length : Int)), (24, .i (0 : Int))] [] rfl rfl rfl ?_
        refine AW2_block ?_
        refine as2 [(0, .i tag0), (1, .p (AV.lists parts1)), (6, .i (w64 ((16777214 : Int) - (w64 ((4 : Int) * (parts1.length : Int)))))), (22, .p (AV.lists parts1)), (23, .i (parts1.length : Int)), (24, .i (0 : Int))] [] rfl rfl rfl ?_
        refine bindK H fun o'4 h7 H => ?_
        refine AW2_loopO (fun a'1 : Int × Int => (⟨[(0, .i tag0), (1, .p (AV.lists parts1)), (6, .i a'1.1), (22, .p (AV.lists parts1)), (23, .i (parts1.length : Int)), (24, .i a'1.2)], [], 41⟩ : TS)) (fun (o : ((List UInt8) × Int) ⊕ Unit) e s' => match o with | .inl y'2 => e = Go.Exit.ret ∧ ResAll Tryd.prog s' [ResultVar.tmp 4, ResultVar.tmp 5] [.c (.own 4 y'2.1.length 1), .i y'2.2] ∧ HFits s' [(4, .pure (bcells y'2.1))] | .inr (y'3) => e = Go.Exit.exit 0 ∧ s' = (⟨[(0, .i tag0), (1, .p (AV.lists parts1))], [], 41⟩ : TS)) h7 rfl (fun a x hx => ?_) (fun e s' hs => ?_)
        · clear H
          obtain ⟨room6_0, t24_0⟩ := a
          have H := hx
          clear hx
          unfold g_ref_FrameOf_l0 at H
          refine sg [0] rfl ?_
          refine rp rfl rfl (p_bin rfl rfl rfl rfl) ?_
          refine rz [(0, .i tag0), (1, .p (AV.lists parts1)), (6, .i room6_0), (22, .p (AV.lists parts1)), (23, .i (parts1.length : Int)), (24, .i t24_0), (25, .b (decide (t24_0 < (parts1.length : Int))))] [] rfl rfl rfl ?_
          refine AW2_seq ?_
          refine AW2_if (p := t24_0 < (parts1.length : Int)) rfl (fun h4 => ?_) (fun h4 => ?_)
          · replace H := ite_then h4 H
            refine as2 [(0, .i tag0), (1, .p (AV.lists parts1)), (6, .i room6_0), (22, .p (AV.lists parts1)), (23, .i (parts1.length : Int)), (24, .i t24_0)] [] rfl rfl rfl ?_
            refine AW2_skip ?_
            refine AW2_seq ?_
            refine AW2_block ?_
            refine sg [0, 1, 2] rfl ?_
            refine chkK H fun h5 H => ?_
            refine rp rfl rfl (u_ixl rfl rfl Tryd.underlying33 in_22 rfl rfl (ixe h5) (ixn h5) (lne (ixn h5))) ?_
            refine rp rfl rfl (u_ld rfl rfl Tryd.underlying22 rfl rfl (Sub.map default (ixn h5))) ?_
            refine rp rfl rfl (p_asg rfl rfl) ?_
            refine rz [(0, .i tag0), (1, .p (AV.lists parts1)), (6, .i room6_0), (8, .y (lrd parts1 t24_0.toNat)), (22, .p (AV.lists parts1)), (23, .i (parts1.length : Int)), (24, .i t24_0)] [] rfl rfl rfl ?_
            refine AW2_seq ?_
            refine sg [0, 1, 2, 3] rfl ?_
            refine rp rfl rfl (p_move rfl rfl) ?_
            refine rp rfl rfl (p_lenl rfl Tryd.underlying22 rfl rfl) ?_
            refine rp rfl rfl (p_move rfl rfl) ?_
            refine rp rfl rfl (p_bin rfl rfl rfl rfl) ?_
            refine rz [(0, .i tag0), (1, .p (AV.lists parts1)), (6, .i room6_0), (8, .y (lrd parts1 t24_0.toNat)), (22, .p (AV.lists parts1)), (23, .i (parts1.length : Int)), (24, .i t24_0), (31, .b (decide (((lrd parts1 t24_0.toNat).length : Int) > room6_0)))] [] rfl rfl rfl ?_
            refine AW2_if (p := ((lrd parts1 t24_0.toNat).length : Int) > room6_0) rfl (fun h6 => ?_) (fun h6 => ?_)
            · replace H := ite_then h6 H
              refine sg [0, 1] rfl ?_
              refine rp rfl rfl (p_asgn rfl) ?_
              refine rp rfl rfl (p_asg rfl rfl) ?_
              refine rz [(4, .p .nil), (5, .i (1 : Int))] [] rfl rfl rfl ?_
              refine as2 [(4, .p .nil), (5, .i (1 : Int))] [] rfl rfl rfl ?_
              refine AW2_gho (Gho_own (d := 4) (b := 4) (z := 1) rfl rfl rfl rfl) ?_
              refine AW2_st [(4, .c (.own 4 ([] : List UInt8).length 1)), (5, .i (1 : Int))] [(4, .pure (bcells ([] : List UInt8)))] rfl ⟨TLes.own rfl, TLes.same _, trivial⟩ ⟨rfl, trivial⟩ ?_
              refine AW2_ret ?_
              have hz := some_elim H
              subst hz
              exact ⟨rfl, ⟨res_tmp (.same _), res_tmp (.same _), trivial⟩, ⟨rfl, trivial⟩⟩
            · replace H := ite_else h6 H
              refine as2 [(0, .i tag0), (1, .p (AV.lists parts1)), (6, .i room6_0), (8, .y (lrd parts1 t24_0.toNat)), (22, .p (AV.lists parts1)), (23, .i (parts1.length : Int)), (24, .i t24_0)] [] rfl rfl rfl ?_
              refine AW2_skip ?_
              refine AW2_reg [0, 1, 2, 3, 4] rfl ?_
              refine rp rfl rfl (p_move rfl rfl) ?_
              refine rp rfl rfl (p_move rfl rfl) ?_
              refine rp rfl rfl (p_lenl rfl Tryd.underlying22 rfl rfl) ?_
              refine rp rfl rfl (p_bin rfl rfl rfl rfl) ?_
              refine rp rfl rfl (p_asg rfl rfl) ?_
              refine rz [(0, .i tag0), (1, .p (AV.lists parts1)), (6, .i (w64 (room6_0 - ((lrd parts1 t24_0.toNat).length : Int)))), (22, .p (AV.lists parts1)), (23, .i (parts1.length : Int)), (24, .i t24_0)] [] rfl rfl rfl ?_
              refine AW2_reg [0, 1] rfl ?_
              refine rp rfl rfl (p_bin rfl rfl rfl rfl) ?_
              refine rp rfl rfl (p_move rfl rfl) ?_
              refine rz [(0, .i tag0), (1, .p (AV.lists parts1)), (6, .i (w64 (room6_0 - ((lrd parts1 t24_0.toNat).length : Int)))), (22, .p (AV.lists parts1)), (23, .i (parts1.length : Int)), (24, .i (w64 (t24_0 + (1 : Int))))] [] rfl rfl rfl ?_
              have hz := some_elim H
              subst hz
              exact ⟨rfl, rfl⟩
          · replace H := ite_else h4 H
            refine as2 [(0, .i tag0), (1, .p (AV.lists parts1))] [] rfl rfl rfl ?_
            refine AW2_exit ?_
            refine thenQ2_exit ?_
            have hz := some_elim H
            subst hz
            exact ⟨rfl, rfl⟩
        · rcases o'4 with y'5 | y'6
          · obtain ⟨rfl, hs⟩ := hs
            refine ⟨by simp, ?_⟩
            have hz := some_elim H
            subst hz
            exact ⟨hs.1, hs.2⟩
          · obtain ⟨rfl, rfl⟩ := hs
            refine ⟨by simp, ?_⟩
            refine blockQ2_exit ?_
            refine sg [0, 1, 2, 3, 4, 5] rfl ?_
            refine rp rfl rfl (p_move rfl rfl) ?_
            refine rp rfl rfl (p_move rfl rfl) ?_
            refine bindK H fun r'7 h8 H => ?_
            refine rp rfl rfl (p_callp rfl rfl rfl Tryd.func84 rfl rfl (g_ref_framed_ac h8) ⟨rfl, rfl, trivial⟩) ?_
            refine r_op rfl rfl (MakeD.opD (n_sb 40 rfl Tryd.underlying9 Tryd.underlying22 Tryd.underlying5 rfl) rfl rfl rfl rfl) ?_
            refine rp rfl rfl (p_asg rfl rfl) ?_
            refine rp rfl rfl (p_asg rfl rfl) ?_
            refine rs [(4, .c (.own 40 r'7.length 1)), (5, .i (0 : Int))] [(40, .pure (bcells r'7))] rfl rfl rfl ?_
            refine RunW_gho (Gho_ren 40 4 rfl rfl rfl rfl rfl) ?_
            refine rz [(4, .c (.own 4 r'7.length 1)), (5, .i (0 : Int))] [(4, .pure (bcells r'7))] rfl rfl rfl ?_
            refine as2 [(4, .c (.own 4 r'7.length 1)), (5, .i (0 : Int))] [(4, .pure (bcells r'7))] rfl rfl rfl ?_
            refine AW2_ret ?_
            have hz := some_elim H
            subst hz
            exact ⟨⟨res_tmp (.same _), res_tmp (.same _), trivial⟩, ⟨rfl, trivial⟩⟩
theorem g_ref_FrameOf_ac {tag0 : Int} {parts1 : List (List UInt8)} {r : (List UInt8) × Int} (H : g_ref_FrameOf tag0 parts1 = some r) : ACp Tryd.prog 74 [(AV.int tag0), (AV.lists parts1)] (.tup [(AV.bytes r.1), (AV.int r.2)]) := ACp_pub (g_ref_FrameOf_ac2 H) (fun _ _ hm => lent_tup ⟨lent_own hm rfl (bl r.1) (by decide), .same _, trivial⟩)

/-! chirographref.hexWord -/
noncomputable def g_ref_hexWord_l0 (t17'1 : Int) (t16'2 : List UInt8) : UInt32 × Int → Option ((UInt32 × Int) ⊕ (UInt32))
  | (n5_0, t18_0) => (if t18_0 < t17'1 then if 0 ≤ t18_0 ∧ t18_0 < (t16'2.length : Int) then ((if (97 : UInt8) ≤ (lrd t16'2 t18_0.toNat) then some (((lrd t16'2 t18_0.toNat) - (97 : UInt8)) + (10 : UInt8)) else some ((lrd t16'2 t18_0.toNat) - (48 : UInt8)))).bind fun j'3 => some (.inl ((n5_0 * (16 : UInt32)) + j'3.toUInt32, w64 (t18_0 + (1 : Int)))) else none else some (.inr n5_0))
noncomputable def g_ref_hexWord (s0 : List UInt8) (i1 : Int) : Option (UInt32) :=
  if 0 ≤ w64 ((8 : Int) * i1) ∧ w64 ((8 : Int) * i1) ≤ w64 ((w64 ((8 : Int) * i1)) + (8 : Int)) ∧ w64 ((w64 ((8 : Int) * i1)) + (8 : Int)) ≤ (s0.length : Int) then letO (((cut s0 (w64 ((8 : Int) * i1)) (w64 ((w64 ((8 : Int) * i1)) + (8 : Int)))).length : Int)) fun t17'1 => letO ((cut s0 (w64 ((8 : Int) * i1)) (w64 ((w64 ((8 : Int) * i1)) + (8 : Int))))) fun t16'2 => (loopO (g_ref_hexWord_l0 t17'1 t16'2) ((0 : UInt32), (0 : Int))).bind fun y'7 => some y'7 else none
set_option maxHeartbeats 4000000 in
set_option maxRecDepth 100000 in
theorem g_ref_hexWord_ac {s0 : List UInt8} {i1 : Int} {r : UInt32} (H : g_ref_hexWord s0 i1 = some r) : ACp Tryd.prog 94 [(AV.txt s0), (AV.int i1)] (AV.u32 r) := by
  refine ACp_of (AC2_of_body (vs := [.p (AV.u32 r)]) Tryd.func94 rfl rfl (Nat.le_of_ble_eq_true rfl) rfl ?_) (fun _ => .same _)
  unfold g_ref_hexWord at H
  refine as2 [(0, .t s0), (1, .i i1)] [] rfl rfl rfl ?_
  refine sg [0] rfl ?_
  refine rp rfl rfl (p_asg rfl rfl) ?_
  refine rz [(0, .t s0), (1, .i i1)] [] rfl rfl rfl ?_
  refine sg [0] rfl ?_
  refine rp rfl rfl (p_asg rfl rfl) ?_
  refine rz [(0, .t s0), (1, .i i1), (5, .p (AV.u32 (0 : UInt32)))] [] rfl rfl rfl ?_
  refine AW2_seq ?_
  refine sg [0, 1, 2, 3, 4, 5, 6, 7, 8, 9] rfl ?_
  refine rp rfl rfl (p_move rfl rfl) ?_
  refine rp rfl rfl (p_move rfl rfl) ?_
  refine rp rfl rfl (p_bin rfl rfl rfl rfl) ?_
  refine rp rfl rfl (p_move rfl rfl) ?_
  refine rp rfl rfl (p_bin rfl rfl rfl rfl) ?_
  refine rp rfl rfl (p_bin rfl rfl rfl rfl) ?_
  refine chkK H fun h1 H => ?_
  refine rp rfl rfl (u_cutt (a := w64 ((8 : Int) * i1)) (b := w64 ((w64 ((8 : Int) * i1)) + (8 : Int))) rfl Tryd.underlying9 rfl (bT_i (show 0 ≤ w64 ((8 : Int) * i1) ∧ w64 ((8 : Int) * i1) ≤ w64 ((w64 ((8 : Int) * i1)) + (8 : Int)) ∧ w64 ((w64 ((8 : Int) * i1)) + (8 : Int)) ≤ (s0.length : Int) from h1).1 rfl) (bT_i (Int.le_trans (show 0 ≤ w64 ((8 : Int) * i1) ∧ w64 ((8 : Int) * i1) ≤ w64 ((w64 ((8 : Int) * i1)) + (8 : Int)) ∧ w64 ((w64 ((8 : Int) * i1)) + (8 : Int)) ≤ (s0.length : Int) from h1).1 (show 0 ≤ w64 ((8 : Int) * i1) ∧ w64 ((8 : Int) * i1) ≤ w64 ((w64 ((8 : Int) * i1)) + (8 : Int)) ∧ w64 ((w64 ((8 : Int) * i1)) + (8 : Int)) ≤ (s0.length : Int) from h1).2.1) rfl) (show 0 ≤ w64 ((8 : Int) * i1) ∧ w64 ((8 : Int) * i1) ≤ w64 ((w64 ((8 : Int) * i1)) + (8 : Int)) ∧ w64 ((w64 ((8 : Int) * i1)) + (8 : Int)) ≤ (s0.length : Int) from h1)) ?_
  refine r_op rfl rfl (MakeD.opD (n_sb 16 rfl Tryd.underlying9 Tryd.underlying22 Tryd.underlying5 rfl) rfl rfl rfl rfl) ?_
  refine rp rfl rfl (p_leno rfl Tryd.underlying22 rfl rfl rfl (bl (cut s0 (w64 ((8 : Int) * i1)) (w64 ((w64 ((8 : Int) * i1)) + (8 : Int))))) (by decide)) ?_
  refine rp rfl rfl (p_move rfl rfl) ?_
  refine rz [(5, .p (AV.u32 (0 : UInt32))), (16, .c (.own 16 (cut s0 (w64 ((8 : Int) * i1)) (w64 ((w64 ((8 : Int) * i1)) + (8 : Int)))).length 1)), (17, .i ((cut s0 (w64 ((8 : Int) * i1)) (w64 ((w64 ((8 : Int) * i1)) + (8 : Int)))).length : Int)), (18, .i (0 : Int))] [(16, .pure (bcells (cut s0 (w64 ((8 : Int) * i1)) (w64 ((w64 ((8 : Int) * i1)) + (8 : Int))))))] rfl rfl rfl ?_
  refine gen1 (fun t17'1 => (⟨[(5, .p (AV.u32 (0 : UInt32))), (16, .c (.own 16 (cut s0 (w64 ((8 : Int) * i1)) (w64 ((w64 ((8 : Int) * i1)) + (8 : Int)))).length 1)), (17, .i t17'1), (18, .i (0 : Int))], [(16, .pure (bcells (cut s0 (w64 ((8 : Int) * i1)) (w64 ((w64 ((8 : Int) * i1)) + (8 : Int))))))], 36⟩ : TS)) H ?_
  intro t17'1 H
  refine gen1 (fun t16'2 => (⟨[(5, .p (AV.u32 (0 : UInt32))), (16, .c (.own 16 t16'2.length 1)), (17, .i t17'1), (18, .i (0 : Int))], [(16, .pure (bcells t16'2))], 36⟩ : TS)) H ?_
  intro t16'2 H
  refine AW2_block ?_
  refine as2 [(5, .p (AV.u32 (0 : UInt32))), (16, .c (.own 16 t16'2.length 1)), (17, .i t17'1), (18, .i (0 : Int))] [(16, .pure (bcells t16'2))] rfl rfl rfl ?_
  refine bindK H fun y'7 h6 H => ?_
  refine AW2_loopO (fun a'4 : UInt32 × Int => (⟨[(5, .p (AV.u32 a'4.1)), (16, .c (.own 16 t16'2.length 1)), (17, .i t17'1), (18, .i a'4.2)], [(16, .pure (bcells t16'2))], 36⟩ : TS)) (fun (y'5 : UInt32) e s' => e = Go.Exit.exit 0 ∧ s' = (⟨[(5, .p (AV.u32 y'5))], [], 36⟩ : TS)) h6 rfl (fun a x hx => ?_) (fun e s' hs => ?_)
  · clear H
    obtain ⟨n5_0, t18_0⟩ := a
    have H := hx
    clear hx
    unfold g_ref_hexWord_l0 at H
    refine sg [0] rfl ?_
    refine rp rfl rfl (p_bin rfl rfl rfl rfl) ?_
    refine rz [(5, .p (AV.u32 n5_0)), (16, .c (.own 16 t16'2.length 1)), (17, .i t17'1), (18, .i t18_0), (19, .b (decide (t18_0 < t17'1)))] [(16, .pure (bcells t16'2))] rfl rfl rfl ?_
    refine AW2_seq ?_
    refine AW2_if (p := t18_0 < t17'1) rfl (fun h2 => ?_) (fun h2 => ?_)
    · replace H := ite_then h2 H
      refine as2 [(5, .p (AV.u32 n5_0)), (16, .c (.own 16 t16'2.length 1)), (17, .i t17'1), (18, .i t18_0)] [(16, .pure (bcells t16'2))] rfl rfl rfl ?_
      refine AW2_skip ?_
      refine AW2_seq ?_
      refine AW2_block ?_
      refine sg [0, 1, 2] rfl ?_
      refine chkK H fun h3 H => ?_
      refine rp rfl rfl (u_ixo rfl rfl Tryd.underlying22 in_5 rfl rfl (lne (ixn h3)) rfl (ixe h3) (ixn h3)) ?_
      refine rp rfl rfl (u_ld rfl rfl Tryd.underlying5 rfl rfl ((Sub.refl _).trans (Sub.map default (ixn h3)))) ?_
      refine rp rfl rfl (p_asg rfl rfl) ?_
      refine rz [(5, .p (AV.u32 n5_0)), (7, .p (AV.b8 (lrd t16'2 t18_0.toNat))), (16, .c (.own 16 t16'2.length 1)), (17, .i t17'1), (18, .i t18_0)] [(16, .pure (bcells t16'2))] rfl rfl rfl ?_
      refine sg [0, 1, 2] rfl ?_
      refine rp rfl rfl (p_move rfl rfl) ?_
      refine rp rfl rfl (p_u8sub (a := (lrd t16'2 t18_0.toNat)) (b := (48 : UInt8)) rfl rfl rfl) ?_
      refine rp rfl rfl (p_asg rfl rfl) ?_
      refine rz [(5, .p (AV.u32 n5_0)), (7, .p (AV.b8 (lrd t16'2 t18_0.toNat))), (8, .p (AV.b8 ((lrd t16'2 t18_0.toNat) - (48 : UInt8)))), (16, .c (.own 16 t16'2.length 1)), (17, .i t17'1), (18, .i t18_0)] [(16, .pure (bcells t16'2))] rfl rfl rfl ?_
      refine AW2_seq ?_
      refine bindK H fun j'3 h4 H => ?_
      refine AW2_mid (⟨[(5, .p (AV.u32 n5_0)), (8, .p (AV.b8 j'3)), (16, .c (.own 16 t16'2.length 1)), (17, .i t17'1), (18, .i t18_0)], [(16, .pure (bcells t16'2))], 36⟩ : TS) ?_ ?_
      · clear H
        have H := h4
        clear h4
        refine sg [0, 1] rfl ?_
        refine rp rfl rfl (p_move rfl rfl) ?_
        refine rp rfl rfl (p_u8ge (a := (lrd t16'2 t18_0.toNat)) (b := (97 : UInt8)) rfl rfl rfl) ?_
        refine rz [(5, .p (AV.u32 n5_0)), (7, .p (AV.b8 (lrd t16'2 t18_0.toNat))), (8, .p (AV.b8 ((lrd t16'2 t18_0.toNat) - (48 : UInt8)))), (16, .c (.own 16 t16'2.length 1)), (17, .i t17'1), (18, .i t18_0), (25, .b (decide ((97 : UInt8) ≤ (lrd t16'2 t18_0.toNat))))] [(16, .pure (bcells t16'2))] rfl rfl rfl ?_
        refine AW2_if (p := (97 : UInt8) ≤ (lrd t16'2 t18_0.toNat)) rfl (fun h5 => ?_) (fun h5 => ?_)
        · replace H := ite_then h5 H
          refine AW2_reg [0, 1, 2, 3] rfl ?_
          refine rp rfl rfl (p_move rfl rfl) ?_
          refine rp rfl rfl (p_u8sub (a := (lrd t16'2 t18_0.toNat)) (b := (97 : UInt8)) rfl rfl rfl) ?_
          refine rp rfl rfl (p_u8add (a := (lrd t16'2 t18_0.toNat) - (97 : UInt8)) (b := (10 : UInt8)) rfl rfl rfl) ?_
          refine rp rfl rfl (p_asg rfl rfl) ?_
          refine rz [(5, .p (AV.u32 n5_0)), (8, .p (AV.b8 (((lrd t16'2 t18_0.toNat) - (97 : UInt8)) + (10 : UInt8)))), (16, .c (.own 16 t16'2.length 1)), (17, .i t17'1), (18, .i t18_0)] [(16, .pure (bcells t16'2))] rfl rfl rfl ?_
          have hz := some_elim H
          subst hz
          exact rfl
        · replace H := ite_else h5 H
          refine as2 [(5, .p (AV.u32 n5_0)), (8, .p (AV.b8 ((lrd t16'2 t18_0.toNat) - (48 : UInt8)))), (16, .c (.own 16 t16'2.length 1)), (17, .i t17'1), (18, .i t18_0)] [(16, .pure (bcells t16'2))] rfl rfl rfl ?_
          refine AW2_skip ?_
          have hz := some_elim H
          subst hz
          exact rfl
      · refine AW2_reg [0, 1, 2, 3, 4, 5] rfl ?_
        refine rp rfl rfl (p_move rfl rfl) ?_
        refine rp rfl rfl (p_u32mul (a := n5_0) (b := (16 : UInt32)) rfl rfl rfl) ?_
        refine rp rfl rfl (p_move rfl rfl) ?_
        refine rp rfl rfl (p_u8_u32 (a := j'3) rfl Tryd.underlying5 Tryd.underlying92 rfl) ?_
        refine rp rfl rfl (p_u32add (a := n5_0 * (16 : UInt32)) (b := j'3.toUInt32) rfl rfl rfl) ?_
        refine rp rfl rfl (p_asg rfl rfl) ?_
        refine rz [(5, .p (AV.u32 ((n5_0 * (16 : UInt32)) + j'3.toUInt32))), (16, .c (.own 16 t16'2.length 1)), (17, .i t17'1), (18, .i t18_0)] [(16, .pure (bcells t16'2))] rfl rfl rfl ?_
        refine AW2_reg [0, 1] rfl ?_
        refine rp rfl rfl (p_bin rfl rfl rfl rfl) ?_
        refine rp rfl rfl (p_move rfl rfl) ?_
        refine rz [(5, .p (AV.u32 ((n5_0 * (16 : UInt32)) + j'3.toUInt32))), (16, .c (.own 16 t16'2.length 1)), (17, .i t17'1), (18, .i (w64 (t18_0 + (1 : Int))))] [(16, .pure (bcells t16'2))] rfl rfl rfl ?_
        have hz := some_elim H
        subst hz
        exact ⟨rfl, rfl⟩
    · replace H := ite_else h2 H
      refine as2 [(5, .p (AV.u32 n5_0))] [] rfl rfl rfl ?_
      refine AW2_exit ?_
      refine thenQ2_exit ?_
      have hz := some_elim H
      subst hz
      exact ⟨rfl, rfl⟩
  · obtain ⟨rfl, rfl⟩ := hs
    refine ⟨by simp, ?_⟩
    refine blockQ2_exit ?_
    refine sg [0, 1] rfl ?_
    refine rp rfl rfl (p_move rfl rfl) ?_
    refine rp rfl rfl (p_asg rfl rfl) ?_
    refine rz [(4, .p (AV.u32 y'7))] [] rfl rfl rfl ?_
    refine AW2_ret ?_
    have hz := some_elim H
    subst hz
    exact ⟨⟨res_tmp (.same _), trivial⟩, trivial⟩

/-! chirographref.Begun -/
def g_ref_Begun_t0 : List UInt8 := [54, 97, 48, 57, 101, 54, 54, 55, 98, 98, 54, 55, 97, 101, 56, 53, 51, 99, 54, 101, 102, 51, 55, 50, 97, 53, 52, 102, 102, 53, 51, 97, 53, 49, 48, 101, 53, 50, 55, 102, 57, 98, 48, 53, 54, 56, 56, 99, 49, 102, 56, 51, 100, 57, 97, 98, 53, 98, 101, 48, 99, 100, 49, 57]
noncomputable def g_ref_Begun_l0 : Int × GStream → Option ((Int × GStream) ⊕ (GStream))
  | (t3_0, s1_0) => (if t3_0 < (8 : Int) then (g_ref_hexWord g_ref_Begun_t0 t3_0).bind fun r'1 => if 0 ≤ t3_0 ∧ t3_0 < (8 : Int) then some (.inl (w64 (t3_0 + (1 : Int)), { s1_0 with H := (vwr s1_0.H t3_0.toNat r'1) })) else none else some (.inr s1_0))
noncomputable def g_ref_Begun : Option (GStream) :=
  (loopO (g_ref_Begun_l0) ((0 : Int), GStream.zero)).bind fun y'5 => some y'5
set_option maxHeartbeats 4000000 in
set_option maxRecDepth 100000 in
theorem g_ref_Begun_ac {r : GStream} (H : g_ref_Begun = some r) : ACp Tryd.prog 86 [] (.agg (GStream.cs r)) := by
  refine ACp_of (AC2_of_body (vs := [.g (GStream.cs r)]) Tryd.func86 rfl rfl (Nat.le_of_ble_eq_true rfl) rfl ?_) (fun _ => .same _)
  unfold g_ref_Begun at H
  refine as2 [] [] rfl rfl rfl ?_
  refine sg [0] rfl ?_
  refine r_op rfl rfl (MakeD.opD (u_alloc 0 rfl in_96 one_96 zc_96) rfl rfl rfl rfl) ?_
  refine rz [(0, .q 0 (0))] [(0, .pure (GStream.cs GStream.zero))] rfl rfl rfl ?_
  refine sg [0] rfl ?_
  refine r_op rfl rfl (MakeD.opD (u_alloc 1 rfl in_96 one_96 zc_96) rfl rfl rfl rfl) ?_
  refine rz [(0, .q 0 (0)), (1, .q 1 (0))] [(0, .pure (GStream.cs GStream.zero)), (1, .pure (GStream.cs GStream.zero))] rfl rfl rfl ?_
  refine AW2_seq ?_
  refine sg [0] rfl ?_
  refine rp rfl rfl (p_move rfl rfl) ?_
  refine rz [(0, .q 0 (0)), (1, .q 1 (0)), (3, .i (0 : Int))] [(0, .pure (GStream.cs GStream.zero)), (1, .pure (GStream.cs GStream.zero))] rfl rfl rfl ?_
  refine AW2_block ?_
  refine as2 [(0, .q 0 (0)), (1, .q 1 (0)), (3, .i (0 : Int))] [(0, .pure (GStream.cs GStream.zero)), (1, .pure (GStream.cs GStream.zero))] rfl rfl rfl ?_
  refine bindK H fun y'5 h4 H => ?_
  refine AW2_loopO (fun a'2 : Int × GStream => (⟨[(0, .q 0 (0)), (1, .q 1 (0)), (3, .i a'2.1)], [(0, .pure (GStream.cs GStream.zero)), (1, .pure (GStream.cs a'2.2))], 13⟩ : TS)) (fun (y'3 : GStream) e s' => e = Go.Exit.exit 0 ∧ s' = (⟨[(0, .q 0 (0)), (1, .q 1 (0))], [(0, .pure (GStream.cs GStream.zero)), (1, .pure (GStream.cs y'3))], 13⟩ : TS)) h4 rfl (fun a x hx => ?_) (fun e s' hs => ?_)
  · clear H
    obtain ⟨t3_0, s1_0⟩ := a
    have H := hx
    clear hx
    unfold g_ref_Begun_l0 at H
    refine sg [0] rfl ?_
    refine rp rfl rfl (p_bin rfl rfl rfl rfl) ?_
    refine rz [(0, .q 0 (0)), (1, .q 1 (0)), (3, .i t3_0), (4, .b (decide (t3_0 < (8 : Int))))] [(0, .pure (GStream.cs GStream.zero)), (1, .pure (GStream.cs s1_0))] rfl rfl rfl ?_
    refine AW2_seq ?_
    refine AW2_if (p := t3_0 < (8 : Int)) rfl (fun h1 => ?_) (fun h1 => ?_)
    · replace H := ite_then h1 H
      refine as2 [(0, .q 0 (0)), (1, .q 1 (0)), (3, .i t3_0)] [(0, .pure (GStream.cs GStream.zero)), (1, .pure (GStream.cs s1_0))] rfl rfl rfl ?_
      refine AW2_skip ?_
      refine AW2_seq ?_
      refine AW2_block ?_
      refine sg [0, 1] rfl ?_
      refine rp rfl rfl (p_move rfl rfl) ?_
      refine rp rfl rfl (p_asg rfl rfl) ?_
      refine rz [(0, .q 0 (0)), (1, .q 1 (0)), (2, .i t3_0), (3, .i t3_0)] [(0, .pure (GStream.cs GStream.zero)), (1, .pure (GStream.cs s1_0))] rfl rfl rfl ?_
      refine AW2_reg [0, 1, 2, 3, 4, 5] rfl ?_
      refine rp rfl rfl (p_move rfl rfl) ?_
      refine rp rfl rfl (p_move rfl rfl) ?_
      refine bindK H fun r'1 h2 H => ?_
      refine rp rfl rfl (p_callp rfl rfl rfl Tryd.func94 rfl rfl (g_ref_hexWord_ac h2) ⟨by kernel_rfl, rfl, trivial⟩) ?_
      refine rp rfl rfl (u_fa rfl rfl Tryd.underlying96 rfl in_93 (Nat.succ_ne_zero _) rfl rfl (ne_of_lt (n := 0) (Nat.lt_of_lt_of_eq (by decide) (Eq.symm (GStream.len s1_0))))) ?_
      refine chkK H fun h3 H => ?_
      refine rp rfl rfl (u_ixp rfl rfl Tryd.underlying93 in_92 rfl rfl (ne_of_lt (n := 0) (Nat.lt_of_lt_of_eq (by decide) (Eq.symm (GStream.len s1_0)))) rfl (ixe h3) (ixn h3)) ?_
      refine r_op rfl rfl (u_st rfl rfl rfl rfl rfl in_92 rfl (ne_of_lt (n := 0) (Nat.lt_of_lt_of_eq (by decide) (Eq.symm (GStream.len s1_0)))) (Upd.trans ((Sub.refl _).trans (GStream.sub0 s1_0)) (Upd.vmap (ixn h3)) (Upd.trans (Sub.refl _) (GStream.upd0 s1_0 (vwr s1_0.H t3_0.toNat r'1)) (Upd.refl ((GStream.len ({ s1_0 with H := (vwr s1_0.H t3_0.toNat r'1) })).trans (GStream.len s1_0).symm))))) ?_
      refine rz [(0, .q 0 (0)), (1, .q 1 (0)), (3, .i t3_0)] [(0, .pure (GStream.cs GStream.zero)), (1, .pure (GStream.cs ({ s1_0 with H := (vwr s1_0.H t3_0.toNat r'1) })))] rfl rfl rfl ?_
      refine AW2_reg [0, 1] rfl ?_
      refine rp rfl rfl (p_bin rfl rfl rfl rfl) ?_
      refine rp rfl rfl (p_move rfl rfl) ?_
      refine rz [(0, .q 0 (0)), (1, .q 1 (0)), (3, .i (w64 (t3_0 + (1 : Int))))] [(0, .pure (GStream.cs GStream.zero)), (1, .pure (GStream.cs ({ s1_0 with H := (vwr s1_0.H t3_0.toNat r'1) })))] rfl rfl rfl ?_
      have hz := some_elim H
      subst hz
      exact ⟨rfl, rfl⟩
    · replace H := ite_else h1 H
      refine as2 [(0, .q 0 (0)), (1, .q 1 (0))] [(0, .pure (GStream.cs GStream.zero)), (1, .pure (GStream.cs s1_0))] rfl rfl rfl ?_
      refine AW2_exit ?_
      refine thenQ2_exit ?_
      have hz := some_elim H
      subst hz
      exact ⟨rfl, rfl⟩
  · obtain ⟨rfl, rfl⟩ := hs
    refine ⟨by simp, ?_⟩
    refine blockQ2_exit ?_
    refine sg [0, 1] rfl ?_
    refine rp rfl rfl (u_lda rfl rfl Tryd.underlying96 rfl in_96 rfl (Nat.succ_pos _) (Sub.refl _) (GStream.len y'5)) ?_
    refine r_op rfl rfl (u_st rfl rfl rfl rfl rfl in_96 (GStream.len y'5) (ne_of_lt (n := 0) (Nat.lt_of_lt_of_eq (by decide) (Eq.symm (GStream.len GStream.zero)))) (Upd.refl ((GStream.len y'5).trans (GStream.len GStream.zero).symm))) ?_
    refine rz [(0, .q 0 (0))] [(0, .pure (GStream.cs y'5))] rfl rfl rfl ?_
    refine AW2_ret ?_
    have hz := some_elim H
    subst hz
    exact ⟨⟨res_cella Tryd.underlying96 rfl in_96.sz rfl (Sub.le (Sub.refl _) (GStream.len y'5)) (by decide) (Sub.take (Sub.refl _) (GStream.len y'5)), trivial⟩, trivial⟩

/-! chirographref.badStream -/
noncomputable def g_ref_badStream_l0 (s0 : GStream) : Int → Option (Int ⊕ (Bool ⊕ Unit))
  | t23_0 => (if t23_0 < (64 : Int) then if 0 ≤ t23_0 ∧ t23_0 < (64 : Int) then (if (t23_0 ≥ s0.N) ∧ ((vrd s0.Held t23_0.toNat) ≠ (0 : UInt8)) then some (.inr (.inl true)) else some (.inl (w64 (t23_0 + (1 : Int))))) else none else some (.inr (.inr ())))
noncomputable def g_ref_badStream (s0 : GStream) : Option (Bool) :=
  (if ((s0.Len < (0 : Int)) ∨ (s0.Len > (1152921504606846976 : Int))) ∨ (s0.N ≠ s0.Len.tmod (64 : Int)) then some true else (loopO (g_ref_badStream_l0 s0) (0 : Int)).bind fun o'4 => match o'4 with | .inl y'5 => some y'5 | .inr (y'6) => some false)
set_option maxHeartbeats 4000000 in
set_option maxRecDepth 100000 in
theorem g_ref_badStream_ac {s0 : GStream} {r : Bool} (H : g_ref_badStream s0 = some r) : ACp Tryd.prog 91 [(.agg (GStream.cs s0))] (AV.bool r) := by
  refine ACp_of (AC2_of_body (vs := [.b r]) Tryd.func91 rfl rfl (Nat.le_of_ble_eq_true rfl) rfl ?_) (fun _ => .same _)
  unfold g_ref_badStream at H
  refine as2 [(0, .g (GStream.cs s0))] [] rfl rfl rfl ?_
  refine sg [0, 1] rfl ?_
  refine r_op rfl rfl (MakeD.opD (n_box 1 rfl rfl) rfl rfl rfl rfl) ?_
  refine rp rfl rfl (p_asg rfl rfl) ?_
  refine rz [(1, .q 1 (0))] [(1, .pure (GStream.cs s0))] rfl rfl rfl ?_
  refine AW2_seq ?_
  refine AW2_seq ?_
  refine AW2_mid (⟨[(1, .q 1 (0)), (20, .b (decide (((s0.Len < (0 : Int)) ∨ (s0.Len > (1152921504606846976 : Int))) ∨ (s0.N ≠ s0.Len.tmod (64 : Int)))))], [(1, .pure (GStream.cs s0))], 36⟩ : TS) ?_ ?_
  · refine AW2_reg [0, 1, 2, 3, 4, 5, 6, 7, 8, 9, 10, 11, 12, 13, 14, 15] rfl ?_
    refine rp rfl rfl (u_fa rfl rfl Tryd.underlying96 rfl in_3 (Nat.succ_ne_zero _) rfl rfl (ne_of_lt (n := 0) (Nat.lt_of_lt_of_eq (by decide) (Eq.symm (GStream.len s0))))) ?_
    refine rp rfl rfl (u_ld rfl rfl Tryd.underlying3 rfl rfl ((Sub.refl _).trans (GStream.sub3 s0))) ?_
    refine rp rfl rfl (p_bin rfl rfl rfl rfl) ?_
    refine rp rfl rfl (p_move rfl rfl) ?_
    refine (Classical.em (s0.Len < (0 : Int))).elim (fun h1 => ?_) (fun h1 => ?_)
    · refine r_off rfl rfl rfl rfl (decide_eq_true (p := s0.Len < (0 : Int)) h1) rfl rfl ?_
      refine r_off rfl rfl rfl rfl (decide_eq_true (p := s0.Len < (0 : Int)) h1) rfl rfl ?_
      refine r_off rfl rfl rfl rfl (decide_eq_true (p := s0.Len < (0 : Int)) h1) rfl rfl ?_
      refine rp rfl rfl (p_pkt rfl rfl (decide_eq_true (p := s0.Len < (0 : Int)) h1) (tb (decide_eq_true (p := (s0.Len < (0 : Int)) ∨ (s0.Len > (1152921504606846976 : Int))) (Or.inl h1)).symm)) ?_
      refine rp rfl rfl (p_move rfl rfl) ?_
      refine r_off rfl rfl rfl rfl (decide_eq_true (p := (s0.Len < (0 : Int)) ∨ (s0.Len > (1152921504606846976 : Int))) (Or.inl h1)) rfl rfl ?_
      refine r_off rfl rfl rfl rfl (decide_eq_true (p := (s0.Len < (0 : Int)) ∨ (s0.Len > (1152921504606846976 : Int))) (Or.inl h1)) rfl rfl ?_
      refine r_off rfl rfl rfl rfl (decide_eq_true (p := (s0.Len < (0 : Int)) ∨ (s0.Len > (1152921504606846976 : Int))) (Or.inl h1)) rfl rfl ?_
      refine r_off rfl rfl rfl rfl (decide_eq_true (p := (s0.Len < (0 : Int)) ∨ (s0.Len > (1152921504606846976 : Int))) (Or.inl h1)) rfl rfl ?_
      refine r_off rfl rfl rfl rfl (decide_eq_true (p := (s0.Len < (0 : Int)) ∨ (s0.Len > (1152921504606846976 : Int))) (Or.inl h1)) rfl rfl ?_
      refine r_off rfl rfl rfl rfl (decide_eq_true (p := (s0.Len < (0 : Int)) ∨ (s0.Len > (1152921504606846976 : Int))) (Or.inl h1)) rfl rfl ?_
      refine rp rfl rfl (p_pkt rfl rfl (decide_eq_true (p := (s0.Len < (0 : Int)) ∨ (s0.Len > (1152921504606846976 : Int))) (Or.inl h1)) (tb (decide_eq_true (p := ((s0.Len < (0 : Int)) ∨ (s0.Len > (1152921504606846976 : Int))) ∨ (s0.N ≠ s0.Len.tmod (64 : Int))) (Or.inl (Or.inl h1))).symm)) ?_
      refine rs [(1, .q 1 (0)), (20, .b (decide (((s0.Len < (0 : Int)) ∨ (s0.Len > (1152921504606846976 : Int))) ∨ (s0.N ≠ s0.Len.tmod (64 : Int)))))] [(1, .pure (GStream.cs s0))] rfl rfl rfl ?_
      exact RunW_nil rfl
    · refine r_on rfl rfl rfl rfl (decide_eq_false (p := s0.Len < (0 : Int)) h1) rfl (PureD.opD (u_fa rfl rfl Tryd.underlying96 rfl in_3 (Nat.succ_ne_zero _) rfl rfl (ne_of_lt (n := 0) (Nat.lt_of_lt_of_eq (by decide) (Eq.symm (GStream.len s0)))))) ?_
      refine r_on rfl rfl rfl rfl (decide_eq_false (p := s0.Len < (0 : Int)) h1) rfl (PureD.opD (u_ld rfl rfl Tryd.underlying3 rfl rfl ((Sub.refl _).trans (GStream.sub3 s0)))) ?_
      refine r_on rfl rfl rfl rfl (decide_eq_false (p := s0.Len < (0 : Int)) h1) rfl (PureD.opD (p_bin rfl rfl rfl rfl)) ?_
      refine rp rfl rfl (p_pkf rfl rfl (decide_eq_false (p := s0.Len < (0 : Int)) h1) (tb ((or_l (p := s0.Len < (0 : Int)) (q := s0.Len > (1152921504606846976 : Int)) h1)))) ?_
      refine rp rfl rfl (p_move rfl rfl) ?_
      refine (Classical.em (s0.Len > (1152921504606846976 : Int))).elim (fun h2 => ?_) (fun h2 => ?_)
      · refine r_off rfl rfl rfl rfl (decide_eq_true (p := (s0.Len < (0 : Int)) ∨ (s0.Len > (1152921504606846976 : Int))) (Or.inr h2)) rfl rfl ?_
        refine r_off rfl rfl rfl rfl (decide_eq_true (p := (s0.Len < (0 : Int)) ∨ (s0.Len > (1152921504606846976 : Int))) (Or.inr h2)) rfl rfl ?_
        refine r_off rfl rfl rfl rfl (decide_eq_true (p := (s0.Len < (0 : Int)) ∨ (s0.Len > (1152921504606846976 : Int))) (Or.inr h2)) rfl rfl ?_
        refine r_off rfl rfl rfl rfl (decide_eq_true (p := (s0.Len < (0 : Int)) ∨ (s0.Len > (1152921504606846976 : Int))) (Or.inr h2)) rfl rfl ?_
        refine r_off rfl rfl rfl rfl (decide_eq_true (p := (s0.Len < (0 : Int)) ∨ (s0.Len > (1152921504606846976 : Int))) (Or.inr h2)) rfl rfl ?_
        refine r_off rfl rfl rfl rfl (decide_eq_true (p := (s0.Len < (0 : Int)) ∨ (s0.Len > (1152921504606846976 : Int))) (Or.inr h2)) rfl rfl ?_
        refine rp rfl rfl (p_pkt rfl rfl (decide_eq_true (p := (s0.Len < (0 : Int)) ∨ (s0.Len > (1152921504606846976 : Int))) (Or.inr h2)) (tb (decide_eq_true (p := ((s0.Len < (0 : Int)) ∨ (s0.Len > (1152921504606846976 : Int))) ∨ (s0.N ≠ s0.Len.tmod (64 : Int))) (Or.inl (Or.inr h2))).symm)) ?_
        refine rs [(1, .q 1 (0)), (20, .b (decide (((s0.Len < (0 : Int)) ∨ (s0.Len > (1152921504606846976 : Int))) ∨ (s0.N ≠ s0.Len.tmod (64 : Int)))))] [(1, .pure (GStream.cs s0))] rfl rfl rfl ?_
        exact RunW_nil rfl
      · refine r_on rfl rfl rfl rfl (decide_eq_false (p := (s0.Len < (0 : Int)) ∨ (s0.Len > (1152921504606846976 : Int))) (not_or.2 ⟨h1, h2⟩)) rfl (PureD.opD (u_fa rfl rfl Tryd.underlying96 rfl in_3 (Nat.succ_ne_zero _) rfl rfl (ne_of_lt (n := 0) (Nat.lt_of_lt_of_eq (by decide) (Eq.symm (GStream.len s0)))))) ?_
        refine r_on rfl rfl rfl rfl (decide_eq_false (p := (s0.Len < (0 : Int)) ∨ (s0.Len > (1152921504606846976 : Int))) (not_or.2 ⟨h1, h2⟩)) rfl (PureD.opD (u_ld rfl rfl Tryd.underlying3 rfl rfl ((Sub.refl _).trans (GStream.sub2 s0)))) ?_
        refine r_on rfl rfl rfl rfl (decide_eq_false (p := (s0.Len < (0 : Int)) ∨ (s0.Len > (1152921504606846976 : Int))) (not_or.2 ⟨h1, h2⟩)) rfl (PureD.opD (u_fa rfl rfl Tryd.underlying96 rfl in_3 (Nat.succ_ne_zero _) rfl rfl (ne_of_lt (n := 0) (Nat.lt_of_lt_of_eq (by decide) (Eq.symm (GStream.len s0)))))) ?_
        refine r_on rfl rfl rfl rfl (decide_eq_false (p := (s0.Len < (0 : Int)) ∨ (s0.Len > (1152921504606846976 : Int))) (not_or.2 ⟨h1, h2⟩)) rfl (PureD.opD (u_ld rfl rfl Tryd.underlying3 rfl rfl ((Sub.refl _).trans (GStream.sub3 s0)))) ?_
        refine r_on rfl rfl rfl rfl (decide_eq_false (p := (s0.Len < (0 : Int)) ∨ (s0.Len > (1152921504606846976 : Int))) (not_or.2 ⟨h1, h2⟩)) rfl (PureD.opD (p_irem rfl rfl rfl (by decide))) ?_
        refine r_on rfl rfl rfl rfl (decide_eq_false (p := (s0.Len < (0 : Int)) ∨ (s0.Len > (1152921504606846976 : Int))) (not_or.2 ⟨h1, h2⟩)) rfl (PureD.opD (p_ine rfl rfl rfl)) ?_
        refine rp rfl rfl (p_pkf rfl rfl (decide_eq_false (p := (s0.Len < (0 : Int)) ∨ (s0.Len > (1152921504606846976 : Int))) (not_or.2 ⟨h1, h2⟩)) (tb ((or_l (p := (s0.Len < (0 : Int)) ∨ (s0.Len > (1152921504606846976 : Int))) (q := s0.N ≠ s0.Len.tmod (64 : Int)) (not_or.2 ⟨h1, h2⟩))))) ?_
        refine rs [(1, .q 1 (0)), (20, .b (decide (((s0.Len < (0 : Int)) ∨ (s0.Len > (1152921504606846976 : Int))) ∨ (s0.N ≠ s0.Len.tmod (64 : Int)))))] [(1, .pure (GStream.cs s0))] rfl rfl rfl ?_
        exact RunW_nil rfl
  · refine AW2_if (p := ((s0.Len < (0 : Int)) ∨ (s0.Len > (1152921504606846976 : Int))) ∨ (s0.N ≠ s0.Len.tmod (64 : Int))) rfl (fun h3 => ?_) (fun h3 => ?_)
    · replace H := ite_then h3 H
      refine sg [0] rfl ?_
      refine rp rfl rfl (p_asg rfl rfl) ?_
      refine rz [(2, .b true)] [] rfl rfl rfl ?_
      refine AW2_ret ?_
      have hz := some_elim H
      subst hz
      exact ⟨⟨res_tmp (.same _), trivial⟩, trivial⟩
    · replace H := ite_else h3 H
      refine as2 [(1, .q 1 (0))] [(1, .pure (GStream.cs s0))] rfl rfl rfl ?_
      refine AW2_skip ?_
      refine AW2_seq ?_
      refine sg [0, 1, 2] rfl ?_
      refine rp rfl rfl (u_fa rfl rfl Tryd.underlying96 rfl in_94 (Nat.succ_ne_zero _) rfl rfl (ne_of_lt (n := 0) (Nat.lt_of_lt_of_eq (by decide) (Eq.symm (GStream.len s0))))) ?_
      refine rp rfl rfl (u_lda rfl rfl Tryd.underlying94 rfl in_94 rfl (Nat.succ_pos _) ((Sub.refl _).trans (GStream.sub1 s0)) ((bcells_length _).trans (vlen s0.Held))) ?_
      refine rp rfl rfl (p_move rfl rfl) ?_
      refine rz [(1, .q 1 (0)), (22, .g (bcells s0.Held.toList)), (23, .i (0 : Int))] [(1, .pure (GStream.cs s0))] rfl rfl rfl ?_
      refine AW2_block ?_
      refine as2 [(1, .q 1 (0)), (22, .g (bcells s0.Held.toList)), (23, .i (0 : Int))] [(1, .pure (GStream.cs s0))] rfl rfl rfl ?_
      refine bindK H fun o'4 h8 H => ?_
      refine AW2_loopO (fun a'1 : Int => (⟨[(1, .q 1 (0)), (22, .g (bcells s0.Held.toList)), (23, .i a'1)], [(1, .pure (GStream.cs s0))], 36⟩ : TS)) (fun (o : Bool ⊕ Unit) e s' => match o with | .inl y'2 => e = Go.Exit.ret ∧ ResAll Tryd.prog s' [ResultVar.tmp 2] [.b y'2] ∧ HFits s' [] | .inr (y'3) => e = Go.Exit.exit 0 ∧ s' = (⟨[], [], 36⟩ : TS)) h8 rfl (fun t23_0 x hx => ?_) (fun e s' hs => ?_)
      · clear H
        have H := hx
        clear hx
        unfold g_ref_badStream_l0 at H
        refine sg [0] rfl ?_
        refine rp rfl rfl (p_bin rfl rfl rfl rfl) ?_
        refine rz [(1, .q 1 (0)), (22, .g (bcells s0.Held.toList)), (23, .i t23_0), (24, .b (decide (t23_0 < (64 : Int))))] [(1, .pure (GStream.cs s0))] rfl rfl rfl ?_
        refine AW2_seq ?_
        refine AW2_if (p := t23_0 < (64 : Int)) rfl (fun h4 => ?_) (fun h4 => ?_)
        · replace H := ite_then h4 H
          refine as2 [(1, .q 1 (0)), (22, .g (bcells s0.Held.toList)), (23, .i t23_0)] [(1, .pure (GStream.cs s0))] rfl rfl rfl ?_
          refine AW2_skip ?_
          refine AW2_seq ?_
          refine AW2_block ?_
          refine sg [0, 1, 2, 3] rfl ?_
          refine rp rfl rfl (p_move rfl rfl) ?_
          refine chkK H fun h5 H => ?_
          refine rp rfl rfl (u_ixa rfl rfl Tryd.underlying94 in_5 Tryd.underlying5 rfl rfl rfl (ixe h5) (ixn h5) (Sub.vmap (ixn h5))) ?_
          refine rp rfl rfl (p_asg rfl rfl) ?_
          refine rp rfl rfl (p_asg rfl rfl) ?_
          refine rz [(1, .q 1 (0)), (3, .i t23_0), (4, .p (AV.b8 (vrd s0.Held t23_0.toNat))), (22, .g (bcells s0.Held.toList)), (23, .i t23_0)] [(1, .pure (GStream.cs s0))] rfl rfl rfl ?_
          refine AW2_seq ?_
          refine AW2_mid (⟨[(1, .q 1 (0)), (22, .g (bcells s0.Held.toList)), (23, .i t23_0), (34, .b (decide ((t23_0 ≥ s0.N) ∧ ((vrd s0.Held t23_0.toNat) ≠ (0 : UInt8)))))], [(1, .pure (GStream.cs s0))], 36⟩ : TS) ?_ ?_
          · refine AW2_reg [0, 1, 2, 3, 4, 5, 6, 7] rfl ?_
            refine rp rfl rfl (p_move rfl rfl) ?_
            refine rp rfl rfl (u_fa rfl rfl Tryd.underlying96 rfl in_3 (Nat.succ_ne_zero _) rfl rfl (ne_of_lt (n := 0) (Nat.lt_of_lt_of_eq (by decide) (Eq.symm (GStream.len s0))))) ?_
            refine rp rfl rfl (u_ld rfl rfl Tryd.underlying3 rfl rfl ((Sub.refl _).trans (GStream.sub2 s0))) ?_
            refine rp rfl rfl (p_bin rfl rfl rfl rfl) ?_
            refine rp rfl rfl (p_move rfl rfl) ?_
            refine (Classical.em (t23_0 ≥ s0.N)).elim (fun h6 => ?_) (fun h6 => ?_)
            · refine r_on rfl rfl rfl rfl (decide_eq_true (p := t23_0 ≥ s0.N) h6) rfl (PureD.opD (p_move rfl rfl)) ?_
              refine r_on rfl rfl rfl rfl (decide_eq_true (p := t23_0 ≥ s0.N) h6) rfl (PureD.opD (p_u8ne (a := (vrd s0.Held t23_0.toNat)) (b := (0 : UInt8)) rfl rfl rfl)) ?_
              refine rp rfl rfl (p_pkt rfl rfl (decide_eq_true (p := t23_0 ≥ s0.N) h6) (tb ((and_l (p := t23_0 ≥ s0.N) (q := (vrd s0.Held t23_0.toNat) ≠ (0 : UInt8)) h6)))) ?_
              refine rs [(1, .q 1 (0)), (22, .g (bcells s0.Held.toList)), (23, .i t23_0), (34, .b (decide ((t23_0 ≥ s0.N) ∧ ((vrd s0.Held t23_0.toNat) ≠ (0 : UInt8)))))] [(1, .pure (GStream.cs s0))] rfl rfl rfl ?_
              exact RunW_nil rfl
            · refine r_off rfl rfl rfl rfl (decide_eq_false (p := t23_0 ≥ s0.N) h6) rfl rfl ?_
              refine r_off rfl rfl rfl rfl (decide_eq_false (p := t23_0 ≥ s0.N) h6) rfl rfl ?_
              refine rp rfl rfl (p_pkf rfl rfl (decide_eq_false (p := t23_0 ≥ s0.N) h6) (tb (decide_eq_false (p := (t23_0 ≥ s0.N) ∧ ((vrd s0.Held t23_0.toNat) ≠ (0 : UInt8))) (fun x => h6 x.1)).symm)) ?_
              refine rs [(1, .q 1 (0)), (22, .g (bcells s0.Held.toList)), (23, .i t23_0), (34, .b (decide ((t23_0 ≥ s0.N) ∧ ((vrd s0.Held t23_0.toNat) ≠ (0 : UInt8)))))] [(1, .pure (GStream.cs s0))] rfl rfl rfl ?_
              exact RunW_nil rfl
          · refine AW2_if (p := (t23_0 ≥ s0.N) ∧ ((vrd s0.Held t23_0.toNat) ≠ (0 : UInt8))) rfl (fun h7 => ?_) (fun h7 => ?_)
            · replace H := ite_then h7 H
              refine sg [0] rfl ?_
              refine rp rfl rfl (p_asg rfl rfl) ?_
              refine rz [(2, .b true)] [] rfl rfl rfl ?_
              refine AW2_ret ?_
              have hz := some_elim H
              subst hz
              exact ⟨rfl, ⟨res_tmp (.same _), trivial⟩, trivial⟩
            · replace H := ite_else h7 H
              refine as2 [(1, .q 1 (0)), (22, .g (bcells s0.Held.toList)), (23, .i t23_0)] [(1, .pure (GStream.cs s0))] rfl rfl rfl ?_
              refine AW2_skip ?_
              refine AW2_reg [0, 1] rfl ?_
              refine rp rfl rfl (p_bin rfl rfl rfl rfl) ?_
              refine rp rfl rfl (p_move rfl rfl) ?_
              refine rz [(1, .q 1 (0)), (22, .g (bcells s0.Held.toList)), (23, .i (w64 (t23_0 + (1 : Int))))] [(1, .pure (GStream.cs s0))] rfl rfl rfl ?_
              have hz := some_elim H
              subst hz
              exact ⟨rfl, rfl⟩
        · replace H := ite_else h4 H
          refine as2 [] [] rfl rfl rfl ?_
          refine AW2_exit ?_
          refine thenQ2_exit ?_
          have hz := some_elim H
          subst hz
          exact ⟨rfl, rfl⟩
      · rcases o'4 with y'5 | y'6
        · obtain ⟨rfl, hs⟩ := hs
          refine ⟨by simp, ?_⟩
          have hz := some_elim H
          subst hz
          exact ⟨hs.1, hs.2⟩
        · obtain ⟨rfl, rfl⟩ := hs
          refine ⟨by simp, ?_⟩
          refine blockQ2_exit ?_
          refine sg [0] rfl ?_
          refine rp rfl rfl (p_asg rfl rfl) ?_
          refine rz [(2, .b false)] [] rfl rfl rfl ?_
          refine AW2_ret ?_
          have hz := some_elim H
          subst hz
          exact ⟨⟨res_tmp (.same _), trivial⟩, trivial⟩

/-! chirographref.heldOf -/
noncomputable def g_ref_heldOf (s0 : GStream) : Option ((List UInt8)) :=
  if 0 ≤ s0.N ∧ s0.N ≤ (s0.Held.toList.length : Int) then some (cut s0.Held.toList (0 : Int) s0.N) else none
set_option maxHeartbeats 4000000 in
set_option maxRecDepth 100000 in
theorem g_ref_heldOf_ac {s0 : GStream} {r : (List UInt8)} (H : g_ref_heldOf s0 = some r) : ACp Tryd.prog 92 [(.agg (GStream.cs s0))] (AV.txt r) := by
  refine ACp_of (AC2_of_body (vs := [.t r]) Tryd.func92 rfl rfl (Nat.le_of_ble_eq_true rfl) rfl ?_) (fun _ => .same _)
  unfold g_ref_heldOf at H
  refine as2 [(0, .g (GStream.cs s0))] [] rfl rfl rfl ?_
  refine sg [0, 1] rfl ?_
  refine r_op rfl rfl (MakeD.opD (n_box 1 rfl rfl) rfl rfl rfl rfl) ?_
  refine rp rfl rfl (p_asg rfl rfl) ?_
  refine rz [(1, .q 1 (0))] [(1, .pure (GStream.cs s0))] rfl rfl rfl ?_
  refine sg [0, 1, 2, 3] rfl ?_
  refine rp rfl rfl (u_fa rfl rfl Tryd.underlying96 rfl in_94 (Nat.succ_ne_zero _) rfl rfl (ne_of_lt (n := 0) (Nat.lt_of_lt_of_eq (by decide) (Eq.symm (GStream.len s0))))) ?_
  refine rp rfl rfl (u_lda rfl rfl Tryd.underlying94 rfl in_94 rfl (Nat.succ_pos _) ((Sub.refl _).trans (GStream.sub1 s0)) ((bcells_length _).trans (vlen s0.Held))) ?_
  refine r_op rfl rfl (MakeD.opD (u_alloc 3 rfl in_94 one_94 zc_94) rfl rfl rfl rfl) ?_
  refine r_op rfl rfl (u_st rfl rfl rfl rfl rfl in_94 ((bcells_length _).trans (vlen s0.Held)) (ne_of_lt (n := 0) (Nat.lt_of_lt_of_eq (by decide) (Eq.symm ((bcells_length _).trans (vlen (Vector.replicate 64 (0 : UInt8))))))) (Upd.refl (((bcells_length _).trans (vlen s0.Held)).trans ((bcells_length _).trans (vlen (Vector.replicate 64 (0 : UInt8)))).symm))) ?_
  refine rz [(1, .q 1 (0)), (3, .q 3 (0))] [(1, .pure (GStream.cs s0)), (3, .pure (bcells s0.Held.toList))] rfl rfl rfl ?_
  refine AW2_seq ?_
  refine chkK H fun h1 H => ?_
  refine AW2_ghoQ ?_
  refine AW2_draw 4 [4, 5] (fun k => ([.c (.sl 3 (0 + 0 * 1) 64 1), .t s0.Held.toList, .q 1 (0 + 72), .i s0.N] : List TV).getD k TV.any) (fun k => ([[(3, none)], [(6, some 0)], [(1, none)], [(8, some 2)]] : List (List (Nat × Option Nat))).getD k []) [(7, some 1), (9, some 3)] [] (fun k => ([[], [0], [], [2], [0, 1, 2, 3], [0, 1, 2, 3, 4]] : List (List Nat)).getD k []) mixed (by kernel_rfl) rfl rfl (a_op (g_x rfl (x_p rfl (u_cuta rfl rfl Tryd.underlying94 in_5 rfl rfl (ne_of_lt (n := 0) (Nat.lt_of_lt_of_eq (by decide) (Eq.symm ((bcells_length _).trans (vlen s0.Held))))) (Sub.refl _) (((bcells_length _).trans (vlen s0.Held)).trans (by decide))) rfl)) (a_op (g_x rfl (x_p rfl (u_cbl rfl rfl Tryd.underlying22 Tryd.underlying5 Tryd.underlying9 (bs := s0.Held.toList) (vlen _) rfl rfl (ne_of_lt (n := 0) (Nat.lt_of_lt_of_eq (by decide) (Eq.symm ((bcells_length _).trans (vlen s0.Held))))) (Sub.refl _)) rfl)) (a_op (g_x rfl (x_p rfl (u_fa rfl rfl Tryd.underlying96 rfl in_3 (Nat.succ_ne_zero _) rfl rfl (ne_of_lt (n := 0) (Nat.lt_of_lt_of_eq (by decide) (Eq.symm (GStream.len s0))))) rfl)) (a_op (g_x rfl (x_p rfl (u_ld rfl rfl Tryd.underlying3 rfl rfl ((Sub.refl _).trans (GStream.sub2 s0))) rfl)) (a_nil))))) ?_
  refine t_op rfl rfl (PureD.opD (u_cutt (a := (0 : Int)) (b := s0.N) rfl Tryd.underlying9 rfl bT_zero (bT_i (Int.le_trans (show 0 ≤ (0 : Int) ∧ (0 : Int) ≤ s0.N ∧ s0.N ≤ (s0.Held.toList.length : Int) from ⟨Int.le_refl _, h1.1, h1.2⟩).1 (show 0 ≤ (0 : Int) ∧ (0 : Int) ≤ s0.N ∧ s0.N ≤ (s0.Held.toList.length : Int) from ⟨Int.le_refl _, h1.1, h1.2⟩).2.1) rfl) (show 0 ≤ (0 : Int) ∧ (0 : Int) ≤ s0.N ∧ s0.N ≤ (s0.Held.toList.length : Int) from ⟨Int.le_refl _, h1.1, h1.2⟩))) ?_
  refine t_op rfl rfl (PureD.opD (p_asg rfl rfl)) ?_
  refine t_gho (Gho_st (L := [(2, .t (cut s0.Held.toList (0 : Int) s0.N))]) (H := []) (N := 11) rfl ⟨TLes.same _, trivial⟩ trivial) ?_
  refine AW2_ret ?_
  have hz := some_elim H
  subst hz
  exact ⟨⟨res_tmp (.same _), trivial⟩, trivial⟩

/-! chirographref.number -/
noncomputable def g_ref_number_l0 (s0 : List UInt8) : UInt64 × Int → Option ((UInt64 × Int) ⊕ (UInt64))
  | (n3_0, i4_0) => (if i4_0 < (s0.length : Int) then if 0 ≤ i4_0 ∧ i4_0 < (s0.length : Int) then some (.inl ((n3_0 * (256 : UInt64)) + ((lrd s0 i4_0.toNat).toUInt64), w64 (i4_0 + (1 : Int)))) else none else some (.inr n3_0))
noncomputable def g_ref_number (s0 : List UInt8) : Option (UInt64) :=
  (loopO (g_ref_number_l0 s0) ((0 : UInt64), (0 : Int))).bind fun y'4 => some y'4
set_option maxHeartbeats 4000000 in
set_option maxRecDepth 100000 in
theorem g_ref_number_ac {s0 : List UInt8} {r : UInt64} (H : g_ref_number s0 = some r) : ACp Tryd.prog 99 [(AV.txt s0)] (AV.u64 r) := by
  refine ACp_of (AC2_of_body (vs := [.p (AV.u64 r)]) Tryd.func99 rfl rfl (Nat.le_of_ble_eq_true rfl) rfl ?_) (fun _ => .same _)
  unfold g_ref_number at H
  refine as2 [(0, .t s0)] [] rfl rfl rfl ?_
  refine sg [0] rfl ?_
  refine rp rfl rfl (p_asg rfl rfl) ?_
  refine rz [(0, .t s0)] [] rfl rfl rfl ?_
  refine sg [0] rfl ?_
  refine rp rfl rfl (p_asg rfl rfl) ?_
  refine rz [(0, .t s0), (3, .p (AV.u64 (0 : UInt64)))] [] rfl rfl rfl ?_
  refine AW2_seq ?_
  refine sg [0] rfl ?_
  refine rp rfl rfl (p_asg rfl rfl) ?_
  refine rz [(0, .t s0), (3, .p (AV.u64 (0 : UInt64))), (4, .i (0 : Int))] [] rfl rfl rfl ?_
  refine AW2_block ?_
  refine as2 [(0, .t s0), (3, .p (AV.u64 (0 : UInt64))), (4, .i (0 : Int))] [] rfl rfl rfl ?_
  refine bindK H fun y'4 h3 H => ?_
  refine AW2_loopO (fun a'1 : UInt64 × Int => (⟨[(0, .t s0), (3, .p (AV.u64 a'1.1)), (4, .i a'1.2)], [], 19⟩ : TS)) (fun (y'2 : UInt64) e s' => e = Go.Exit.exit 0 ∧ s' = (⟨[(3, .p (AV.u64 y'2))], [], 19⟩ : TS)) h3 rfl (fun a x hx => ?_) (fun e s' hs => ?_)
  · clear H
    obtain ⟨n3_0, i4_0⟩ := a
    have H := hx
    clear hx
    unfold g_ref_number_l0 at H
    refine AW2_seq ?_
    refine sg [0, 1, 2, 3] rfl ?_
    refine rp rfl rfl (p_move rfl rfl) ?_
    refine rp rfl rfl (p_move rfl rfl) ?_
    refine rp rfl rfl (p_lent rfl Tryd.underlying9 rfl) ?_
    refine rp rfl rfl (p_bin rfl rfl rfl rfl) ?_
    refine rz [(0, .t s0), (3, .p (AV.u64 n3_0)), (4, .i i4_0), (8, .b (decide (i4_0 < (s0.length : Int))))] [] rfl rfl rfl ?_
    refine AW2_if (p := i4_0 < (s0.length : Int)) rfl (fun h1 => ?_) (fun h1 => ?_)
    · replace H := ite_then h1 H
      refine as2 [(0, .t s0), (3, .p (AV.u64 n3_0)), (4, .i i4_0)] [] rfl rfl rfl ?_
      refine AW2_skip ?_
      refine AW2_seq ?_
      refine AW2_block ?_
      refine AW2_reg [0, 1, 2, 3, 4, 5, 6, 7] rfl ?_
      refine rp rfl rfl (p_move rfl rfl) ?_
      refine rp rfl rfl (p_u64mul (a := n3_0) (b := (256 : UInt64)) rfl rfl rfl) ?_
      refine rp rfl rfl (p_move rfl rfl) ?_
      refine rp rfl rfl (p_move rfl rfl) ?_
      refine chkK H fun h2 H => ?_
      refine rp rfl rfl (p_ixt rfl Tryd.underlying9 rfl rfl (ixe h2) (lrd_get (ixn h2))) ?_
      refine rp rfl rfl (p_u8_u64 (a := (lrd s0 i4_0.toNat)) rfl Tryd.underlying5 Tryd.underlying103 rfl) ?_
      refine rp rfl rfl (p_u64add (a := n3_0 * (256 : UInt64)) (b := (lrd s0 i4_0.toNat).toUInt64) rfl rfl rfl) ?_
      refine rp rfl rfl (p_asg rfl rfl) ?_
      refine rz [(0, .t s0), (3, .p (AV.u64 ((n3_0 * (256 : UInt64)) + ((lrd s0 i4_0.toNat).toUInt64)))), (4, .i i4_0)] [] rfl rfl rfl ?_
      refine AW2_reg [0, 1, 2] rfl ?_
      refine rp rfl rfl (p_move rfl rfl) ?_
      refine rp rfl rfl (p_bin rfl rfl rfl rfl) ?_
      refine rp rfl rfl (p_asg rfl rfl) ?_
      refine rz [(0, .t s0), (3, .p (AV.u64 ((n3_0 * (256 : UInt64)) + ((lrd s0 i4_0.toNat).toUInt64)))), (4, .i (w64 (i4_0 + (1 : Int))))] [] rfl rfl rfl ?_
      have hz := some_elim H
      subst hz
      exact ⟨rfl, rfl⟩
    · replace H := ite_else h1 H
      refine as2 [(3, .p (AV.u64 n3_0))] [] rfl rfl rfl ?_
      refine AW2_exit ?_
      refine thenQ2_exit ?_
      have hz := some_elim H
      subst hz
      exact ⟨rfl, rfl⟩
  · obtain ⟨rfl, rfl⟩ := hs
    refine ⟨by simp, ?_⟩
    refine blockQ2_exit ?_
    refine sg [0, 1] rfl ?_
    refine rp rfl rfl (p_move rfl rfl) ?_
    refine rp rfl rfl (p_asg rfl rfl) ?_
    refine rz [(2, .p (AV.u64 y'4))] [] rfl rfl rfl ?_
    refine AW2_ret ?_
    have hz := some_elim H
    subst hz
    exact ⟨⟨res_tmp (.same _), trivial⟩, trivial⟩

/-! chirographref.rot -/
noncomputable def g_ref_rot (x0 : UInt32) (n1 : Int) : Option (UInt32) :=
  if 0 ≤ n1 then if 0 ≤ w64 ((32 : Int) - n1) then some ((shr_u32 x0 n1.toNat) ||| (shl_u32 x0 ((w64 ((32 : Int) - n1)).toNat))) else none else none
set_option maxHeartbeats 4000000 in
set_option maxRecDepth 100000 in
theorem g_ref_rot_ac {x0 : UInt32} {n1 : Int} {r : UInt32} (H : g_ref_rot x0 n1 = some r) : ACp Tryd.prog 98 [(AV.u32 x0), (AV.int n1)] (AV.u32 r) := by
  refine ACp_of (AC2_of_body (vs := [.p (AV.u32 r)]) Tryd.func98 rfl rfl (Nat.le_of_ble_eq_true rfl) rfl ?_) (fun _ => .same _)
  unfold g_ref_rot at H
  refine as2 [(0, .p (AV.u32 x0)), (1, .i n1)] [] rfl rfl rfl ?_
  refine sg [0] rfl ?_
  refine rp rfl rfl (p_asg rfl rfl) ?_
  refine rz [(0, .p (AV.u32 x0)), (1, .i n1)] [] rfl rfl rfl ?_
  refine AW2_seq ?_
  refine chkK H fun h1 H => ?_
  refine chkK H fun h2 H => ?_
  refine AW2_ghoQ ?_
  refine AW2_draw 7 [7, 8] (fun k => ([.p (AV.u32 x0), .i n1, .p (AV.u32 (shr_u32 x0 n1.toNat)), .p (AV.u32 x0), .i n1, .i (w64 ((32 : Int) - n1)), .p (AV.u32 (shl_u32 x0 ((w64 ((32 : Int) - n1)).toNat)))] : List TV).getD k TV.any) (fun k => ([[(0, none)], [(1, none)], [(5, some 0), (6, some 1)], [(0, none)], [(1, none)], [(9, some 4)], [(8, some 3), (10, some 5)]] : List (List (Nat × Option Nat))).getD k []) [(7, some 2), (11, some 6)] [] (fun k => ([[], [], [0, 1], [], [], [4], [3, 4, 5], [0, 1, 2, 3, 4, 5, 6], [0, 1, 2, 3, 4, 5, 6, 7]] : List (List Nat)).getD k []) mixed (by kernel_rfl) rfl rfl (a_op (g_x rfl (x_p rfl (p_move rfl rfl) rfl)) (a_op (g_x rfl (x_p rfl (p_move rfl rfl) rfl)) (a_op (g_x rfl (x_p rfl (p_u32shr (n := n1.toNat) rfl rfl rfl (Int.toNat_of_nonneg h1).symm) rfl)) (a_op (g_x rfl (x_p rfl (p_move rfl rfl) rfl)) (a_op (g_x rfl (x_p rfl (p_move rfl rfl) rfl)) (a_op (g_x rfl (x_p rfl (p_bin rfl rfl rfl rfl) rfl)) (a_op (g_x rfl (x_p rfl (p_u32shl (n := (w64 ((32 : Int) - n1)).toNat) rfl rfl rfl (Int.toNat_of_nonneg h2).symm) rfl)) (a_nil)))))))) ?_
  refine t_op rfl rfl (PureD.opD (p_u32or (a := shr_u32 x0 n1.toNat) (b := shl_u32 x0 ((w64 ((32 : Int) - n1)).toNat)) rfl rfl rfl)) ?_
  refine t_op rfl rfl (PureD.opD (p_asg rfl rfl)) ?_
  refine t_gho (Gho_st (L := [(4, .p (AV.u32 ((shr_u32 x0 n1.toNat) ||| (shl_u32 x0 ((w64 ((32 : Int) - n1)).toNat)))))]) (H := []) (N := 13) rfl ⟨TLes.same _, trivial⟩ trivial) ?_
  refine AW2_ret ?_
  have hz := some_elim H
  subst hz
  exact ⟨⟨res_tmp (.same _), trivial⟩, trivial⟩

/-! chirographref.schedule -/
noncomputable def g_ref_schedule_l0 (b0 : List UInt8) : Int × (List UInt32) → Option ((Int × (List UInt32)) ⊕ (((List UInt32))))
  | (i4_0, w3_0) => (if i4_0 < (16 : Int) then if 0 ≤ w64 ((4 : Int) * i4_0) ∧ w64 ((4 : Int) * i4_0) ≤ w64 ((w64 ((4 : Int) * i4_0)) + (4 : Int)) ∧ w64 ((w64 ((4 : Int) * i4_0)) + (4 : Int)) ≤ (b0.length : Int) then (g_ref_number (cut b0 (w64 ((4 : Int) * i4_0)) (w64 ((w64 ((4 : Int) * i4_0)) + (4 : Int))))).bind fun r'1 => if room (w3_0.length + ([r'1.toUInt32] : List UInt32).length) 4 then some (.inl (w64 (i4_0 + (1 : Int)), w3_0 ++ ([r'1.toUInt32] : List UInt32))) else none else none else some (.inr w3_0))
noncomputable def g_ref_schedule_l1 : (List UInt32) → Option (((List UInt32)) ⊕ (((List UInt32))))
  | w3_1 => (if (w3_1.length : Int) < (64 : Int) then if 0 ≤ w64 ((w3_1.length : Int) - (15 : Int)) ∧ w64 ((w3_1.length : Int) - (15 : Int)) < (w3_1.length : Int) then if 0 ≤ w64 ((w3_1.length : Int) - (2 : Int)) ∧ w64 ((w3_1.length : Int) - (2 : Int)) < (w3_1.length : Int) then if 0 ≤ w64 ((w3_1.length : Int) - (16 : Int)) ∧ w64 ((w3_1.length : Int) - (16 : Int)) < (w3_1.length : Int) then if 0 ≤ w64 ((w3_1.length : Int) - (7 : Int)) ∧ w64 ((w3_1.length : Int) - (7 : Int)) < (w3_1.length : Int) then (g_ref_rot (lrd w3_1 ((w64 ((w3_1.length : Int) - (15 : Int))).toNat)) (7 : Int)).bind fun r'6 => (g_ref_rot (lrd w3_1 ((w64 ((w3_1.length : Int) - (15 : Int))).toNat)) (18 : Int)).bind fun r'7 => (g_ref_rot (lrd w3_1 ((w64 ((w3_1.length : Int) - (2 : Int))).toNat)) (17 : Int)).bind fun r'8 => (g_ref_rot (lrd w3_1 ((w64 ((w3_1.length : Int) - (2 : Int))).toNat)) (19 : Int)).bind fun r'9 => if room (w3_1.length + ([(((lrd w3_1 ((w64 ((w3_1.length : Int) - (16 : Int))).toNat)) + (lrd w3_1 ((w64 ((w3_1.length : Int) - (7 : Int))).toNat))) + ((r'6 ^^^ r'7) ^^^ (shr_u32 (lrd w3_1 ((w64 ((w3_1.length : Int) - (15 : Int))).toNat)) 3))) + ((r'8 ^^^ r'9) ^^^ (shr_u32 (lrd w3_1 ((w64 ((w3_1.length : Int) - (2 : Int))).toNat)) 10))] : List UInt32).length) 4 then letO (w3_1 ++ ([(((lrd w3_1 ((w64 ((w3_1.length : Int) - (16 : Int))).toNat)) + (lrd w3_1 ((w64 ((w3_1.length : Int) - (7 : Int))).toNat))) + ((r'6 ^^^ r'7) ^^^ (shr_u32 (lrd w3_1 ((w64 ((w3_1.length : Int) - (15 : Int))).toNat)) 3))) + ((r'8 ^^^ r'9) ^^^ (shr_u32 (lrd w3_1 ((w64 ((w3_1.length : Int) - (2 : Int))).toNat)) 10))] : List UInt32)) fun w3'10 => some (.inl w3'10) else none else none else none else none else none else some (.inr w3_1))
noncomputable def g_ref_schedule (b0 : List UInt8) : Option ((List UInt32)) :=
  (loopO (g_ref_schedule_l0 b0) ((0 : Int), ([] : List UInt32))).bind fun y'5 => (loopO (g_ref_schedule_l1) y'5).bind fun y'14 => some y'14
set_option maxHeartbeats 4000000 in
set_option maxRecDepth 100000 in
theorem g_ref_schedule_ac2 {b0 : List UInt8} {r : (List UInt32)} (H : g_ref_schedule b0 = some r) : AC2 Tryd.prog 97 (pureT [(AV.txt b0)]) [] (.c (.own 2 r.length 1)) [(2, .pure (r.map AV.u32))] := by
  refine AC2_of_body (vs := [.c (.own 2 r.length 1)]) Tryd.func97 rfl rfl (Nat.le_of_ble_eq_true rfl) rfl ?_
  unfold g_ref_schedule at H
  refine as2 [(0, .t b0)] [] rfl rfl rfl ?_
  refine sg [0] rfl ?_
  refine rp rfl rfl (p_asgn rfl) ?_
  refine rz [(0, .t b0)] [] rfl rfl rfl ?_
  refine sg [0] rfl ?_
  refine rp rfl rfl (p_asgn rfl) ?_
  refine rz [(0, .t b0), (3, .p .nil)] [] rfl rfl rfl ?_
  refine AW2_seq ?_
  refine sg [0] rfl ?_
  refine rp rfl rfl (p_asg rfl rfl) ?_
  refine rz [(0, .t b0), (3, .p .nil), (4, .i (0 : Int))] [] rfl rfl rfl ?_
  refine AW2_block ?_
  refine as2 [(0, .t b0), (3, .p .nil), (4, .i (0 : Int))] [] rfl rfl rfl ?_
  refine AW2_gho (Gho_own (d := 3) (b := 3) (z := 1) rfl rfl rfl rfl) ?_
  refine AW2_st [(0, .t b0), (3, .c (.own 3 ([] : List UInt32).length 1)), (4, .i (0 : Int))] [(3, .pure (([] : List UInt32).map AV.u32))] rfl ⟨TLes.same _, TLes.own rfl, TLes.same _, trivial⟩ ⟨rfl, trivial⟩ ?_
  refine bindK H fun y'5 h5 H => ?_
  refine AW2_loopO (fun a'2 : Int × (List UInt32) => (⟨[(0, .t b0), (3, .c (.own 3 a'2.2.length 1)), (4, .i a'2.1)], [(3, .pure (a'2.2.map AV.u32))], 72⟩ : TS)) (fun (y'3 : ((List UInt32))) e s' => e = Go.Exit.exit 0 ∧ s' = (⟨[(3, .c (.own 3 y'3.length 1))], [(3, .pure (y'3.map AV.u32))], 72⟩ : TS)) h5 rfl (fun a x hx => ?_) (fun e s' hs => ?_)
  · clear H
    obtain ⟨i4_0, w3_0⟩ := a
    have H := hx
    clear hx
    unfold g_ref_schedule_l0 at H
    refine AW2_seq ?_
    refine sg [0, 1] rfl ?_
    refine rp rfl rfl (p_move rfl rfl) ?_
    refine rp rfl rfl (p_bin rfl rfl rfl rfl) ?_
    refine rz [(0, .t b0), (3, .c (.own 3 w3_0.length 1)), (4, .i i4_0), (9, .b (decide (i4_0 < (16 : Int))))] [(3, .pure (w3_0.map AV.u32))] rfl rfl rfl ?_
    refine AW2_if (p := i4_0 < (16 : Int)) rfl (fun h1 => ?_) (fun h1 => ?_)
    · replace H := ite_then h1 H
      refine as2 [(0, .t b0), (3, .c (.own 3 w3_0.length 1)), (4, .i i4_0)] [(3, .pure (w3_0.map AV.u32))] rfl rfl rfl ?_
      refine AW2_skip ?_
      refine AW2_seq ?_
      refine AW2_block ?_
      refine AW2_reg [0, 1, 2, 3, 4, 5, 6, 7, 8, 9, 10, 11, 12] rfl ?_
      refine rp rfl rfl (p_move rfl rfl) ?_
      refine rp rfl rfl (p_move rfl rfl) ?_
      refine rp rfl rfl (p_move rfl rfl) ?_
      refine rp rfl rfl (p_bin rfl rfl rfl rfl) ?_
      refine rp rfl rfl (p_move rfl rfl) ?_
      refine rp rfl rfl (p_bin rfl rfl rfl rfl) ?_
      refine rp rfl rfl (p_bin rfl rfl rfl rfl) ?_
      refine chkK H fun h2 H => ?_
      refine rp rfl rfl (u_cutt (a := w64 ((4 : Int) * i4_0)) (b := w64 ((w64 ((4 : Int) * i4_0)) + (4 : Int))) rfl Tryd.underlying9 rfl (bT_i (show 0 ≤ w64 ((4 : Int) * i4_0) ∧ w64 ((4 : Int) * i4_0) ≤ w64 ((w64 ((4 : Int) * i4_0)) + (4 : Int)) ∧ w64 ((w64 ((4 : Int) * i4_0)) + (4 : Int)) ≤ (b0.length : Int) from h2).1 rfl) (bT_i (Int.le_trans (show 0 ≤ w64 ((4 : Int) * i4_0) ∧ w64 ((4 : Int) * i4_0) ≤ w64 ((w64 ((4 : Int) * i4_0)) + (4 : Int)) ∧ w64 ((w64 ((4 : Int) * i4_0)) + (4 : Int)) ≤ (b0.length : Int) from h2).1 (show 0 ≤ w64 ((4 : Int) * i4_0) ∧ w64 ((4 : Int) * i4_0) ≤ w64 ((w64 ((4 : Int) * i4_0)) + (4 : Int)) ∧ w64 ((w64 ((4 : Int) * i4_0)) + (4 : Int)) ≤ (b0.length : Int) from h2).2.1) rfl) (show 0 ≤ w64 ((4 : Int) * i4_0) ∧ w64 ((4 : Int) * i4_0) ≤ w64 ((w64 ((4 : Int) * i4_0)) + (4 : Int)) ∧ w64 ((w64 ((4 : Int) * i4_0)) + (4 : Int)) ≤ (b0.length : Int) from h2)) ?_
      refine bindK H fun r'1 h3 H => ?_
      refine rp rfl rfl (p_callp rfl rfl rfl Tryd.func99 rfl rfl (g_ref_number_ac h3) ⟨rfl, trivial⟩) ?_
      refine rp rfl rfl (p_u64_u32 (a := r'1) rfl Tryd.underlying103 Tryd.underlying92 rfl) ?_
      refine r_op rfl rfl (MakeD.opD (u_bs 22 rfl Tryd.underlying113 in_92 rfl one_92 (by decide) (by decide) rfl rfl rfl) rfl rfl rfl rfl) ?_
      refine chkK H fun h4 H => ?_
      refine r_op rfl rfl (u_app [3, 12] rfl rfl rfl rfl Tryd.underlying113 Tryd.underlying113 in_92 rfl rfl rfl (ml AV.u32 w3_0) (by decide) (srcT_o rfl rfl (ml AV.u32 ([r'1.toUInt32] : List UInt32)) (by decide)) (ml AV.u32 ([r'1.toUInt32] : List UInt32)) h4 (by decide) rfl rfl (mapp AV.u32 w3_0 ([r'1.toUInt32] : List UInt32)) (lapp w3_0 ([r'1.toUInt32] : List UInt32))) ?_
      refine rp rfl rfl (p_asg rfl rfl) ?_
      refine rz [(0, .t b0), (3, .c (.own 3 (w3_0 ++ ([r'1.toUInt32] : List UInt32)).length 1)), (4, .i i4_0)] [(3, .pure ((w3_0 ++ ([r'1.toUInt32] : List UInt32)).map AV.u32))] rfl rfl rfl ?_
      refine AW2_reg [0, 1, 2] rfl ?_
      refine rp rfl rfl (p_move rfl rfl) ?_
      refine rp rfl rfl (p_bin rfl rfl rfl rfl) ?_
      refine rp rfl rfl (p_asg rfl rfl) ?_
      refine rz [(0, .t b0), (3, .c (.own 3 (w3_0 ++ ([r'1.toUInt32] : List UInt32)).length 1)), (4, .i (w64 (i4_0 + (1 : Int))))] [(3, .pure ((w3_0 ++ ([r'1.toUInt32] : List UInt32)).map AV.u32))] rfl rfl rfl ?_
      have hz := some_elim H
      subst hz
      exact ⟨rfl, rfl⟩
    · replace H := ite_else h1 H
      refine as2 [(3, .c (.own 3 w3_0.length 1))] [(3, .pure (w3_0.map AV.u32))] rfl rfl rfl ?_
      refine AW2_exit ?_
      refine thenQ2_exit ?_
      have hz := some_elim H
      subst hz
      exact ⟨rfl, rfl⟩
  · obtain ⟨rfl, rfl⟩ := hs
    refine ⟨by simp, ?_⟩
    refine blockQ2_exit ?_
    refine AW2_seq ?_
    refine AW2_block ?_
    refine as2 [(3, .c (.own 3 y'5.length 1))] [(3, .pure (y'5.map AV.u32))] rfl rfl rfl ?_
    refine bindK H fun y'14 h16 H => ?_
    refine AW2_loopO (fun a'11 : (List UInt32) => (⟨[(3, .c (.own 3 a'11.length 1))], [(3, .pure (a'11.map AV.u32))], 72⟩ : TS)) (fun (y'12 : ((List UInt32))) e s' => e = Go.Exit.exit 2 ∧ s' = (⟨[(3, .c (.own 3 y'12.length 1))], [(3, .pure (y'12.map AV.u32))], 72⟩ : TS)) h16 rfl (fun w3_1 x hx => ?_) (fun e s' hs => ?_)
    · clear H
      have H := hx
      clear hx
      unfold g_ref_schedule_l1 at H
      refine AW2_seq ?_
      refine sg [0, 1, 2] rfl ?_
      refine rp rfl rfl (p_move rfl rfl) ?_
      refine rp rfl rfl (p_leno rfl Tryd.underlying113 rfl rfl rfl (ml AV.u32 w3_1) (by decide)) ?_
      refine rp rfl rfl (p_bin rfl rfl rfl rfl) ?_
      refine rz [(3, .c (.own 3 w3_1.length 1)), (26, .b (decide ((w3_1.length : Int) < (64 : Int))))] [(3, .pure (w3_1.map AV.u32))] rfl rfl rfl ?_
      refine AW2_if (p := (w3_1.length : Int) < (64 : Int)) rfl (fun h6 => ?_) (fun h6 => ?_)
      · replace H := ite_then h6 H
        refine as2 [(3, .c (.own 3 w3_1.length 1))] [(3, .pure (w3_1.map AV.u32))] rfl rfl rfl ?_
        refine AW2_skip ?_
        refine AW2_block ?_
        refine sg [0, 1, 2] rfl ?_
        refine rp rfl rfl (p_move rfl rfl) ?_
        refine rp rfl rfl (p_leno rfl Tryd.underlying113 rfl rfl rfl (ml AV.u32 w3_1) (by decide)) ?_
        refine rp rfl rfl (p_asg rfl rfl) ?_
        refine rz [(3, .c (.own 3 w3_1.length 1)), (5, .i (w3_1.length : Int))] [(3, .pure (w3_1.map AV.u32))] rfl rfl rfl ?_
        refine AW2_seq ?_
        refine chkK H fun h7 H => ?_
        refine chkK H fun h8 H => ?_
        refine AW2_ghoQ ?_
        refine AW2_draw 11 [11] (fun k => ([.c (.own 3 w3_1.length 1), .i (w3_1.length : Int), .i (w64 ((w3_1.length : Int) - (15 : Int))), .q 3 (0 + ((w64 ((w3_1.length : Int) - (15 : Int))).toNat) * 1), .p (AV.u32 (lrd w3_1 ((w64 ((w3_1.length : Int) - (15 : Int))).toNat))), .c (.own 3 w3_1.length 1), .i (w3_1.length : Int), .i (w64 ((w3_1.length : Int) - (2 : Int))), .q 3 (0 + ((w64 ((w3_1.length : Int) - (2 : Int))).toNat) * 1), .p (AV.u32 (lrd w3_1 ((w64 ((w3_1.length : Int) - (2 : Int))).toNat))), .p (AV.u32 (lrd w3_1 ((w64 ((w3_1.length : Int) - (15 : Int))).toNat)))] : List TV).getD k TV.any) (fun k => ([[(3, none)], [(5, none)], [(30, some 1)], [(29, some 0), (31, some 2)], [(32, some 3)], [(3, none)], [(5, none)], [(35, some 6)], [(34, some 5), (36, some 7)], [(37, some 8)], [(33, some 4)]] : List (List (Nat × Option Nat))).getD k []) [(3, none), (5, none), (6, some 10), (38, some 9)] [] (fun k => ([[], [], [1], [0, 1, 2], [0, 1, 2, 3], [], [], [6], [5, 6, 7], [5, 6, 7, 8], [0, 1, 2, 3, 4], [0, 1, 2, 3, 4, 5, 6, 7, 8, 9, 10]] : List (List Nat)).getD k []) mixed (by kernel_rfl) rfl rfl (a_op (g_x rfl (x_p rfl (p_move rfl rfl) rfl)) (a_op (g_x rfl (x_p rfl (p_move rfl rfl) rfl)) (a_op (g_x rfl (x_p rfl (p_bin rfl rfl rfl rfl) rfl)) (a_op (g_x rfl (x_p rfl (u_ixo rfl rfl Tryd.underlying113 in_92 rfl rfl (lne (ixn h7)) rfl (ixe h7) (ixn h7)) rfl)) (a_op (g_x rfl (x_p rfl (u_ld rfl rfl Tryd.underlying92 rfl rfl ((Sub.refl _).trans (Sub.map default (ixn h7)))) rfl)) (a_op (g_x rfl (x_p rfl (p_move rfl rfl) rfl)) (a_op (g_x rfl (x_p rfl (p_move rfl rfl) rfl)) (a_op (g_x rfl (x_p rfl (p_bin rfl rfl rfl rfl) rfl)) (a_op (g_x rfl (x_p rfl (u_ixo rfl rfl Tryd.underlying113 in_92 rfl rfl (lne (ixn h8)) rfl (ixe h8) (ixn h8)) rfl)) (a_op (g_x rfl (x_p rfl (u_ld rfl rfl Tryd.underlying92 rfl rfl ((Sub.refl _).trans (Sub.map default (ixn h8)))) rfl)) (a_op (g_x rfl (x_p rfl (p_asg rfl rfl) rfl)) (a_nil)))))))))))) ?_
        refine t_op rfl rfl (PureD.opD (p_asg rfl rfl)) ?_
        refine t_gho (Gho_st (L := [(3, .c (.own 3 w3_1.length 1)), (5, .i (w3_1.length : Int)), (6, .p (AV.u32 (lrd w3_1 ((w64 ((w3_1.length : Int) - (15 : Int))).toNat)))), (7, .p (AV.u32 (lrd w3_1 ((w64 ((w3_1.length : Int) - (2 : Int))).toNat))))]) (H := [(3, .pure (w3_1.map AV.u32))]) (N := 72) rfl ⟨TLes.same _, TLes.same _, TLes.same _, TLes.same _, trivial⟩ ⟨rfl, trivial⟩) ?_
        refine chkK H fun h9 H => ?_
        refine chkK H fun h10 H => ?_
        refine bindK H fun r'6 h11 H => ?_
        refine bindK H fun r'7 h12 H => ?_
        refine bindK H fun r'8 h13 H => ?_
        refine bindK H fun r'9 h14 H => ?_
        refine chkK H fun h15 H => ?_
        refine AW2_ghoQ ?_
        refine AW2_draw 31 [31, 32] (fun k => ([.c (.own 3 w3_1.length 1), .c (.own 3 w3_1.length 1), .i (w3_1.length : Int), .i (w64 ((w3_1.length : Int) - (16 : Int))), .q 3 (0 + ((w64 ((w3_1.length : Int) - (16 : Int))).toNat) * 1), .p (AV.u32 (lrd w3_1 ((w64 ((w3_1.length : Int) - (16 : Int))).toNat))), .c (.own 3 w3_1.length 1), .i (w3_1.length : Int), .i (w64 ((w3_1.length : Int) - (7 : Int))), .q 3 (0 + ((w64 ((w3_1.length : Int) - (7 : Int))).toNat) * 1), .p (AV.u32 (lrd w3_1 ((w64 ((w3_1.length : Int) - (7 : Int))).toNat))), .p (AV.u32 ((lrd w3_1 ((w64 ((w3_1.length : Int) - (16 : Int))).toNat)) + (lrd w3_1 ((w64 ((w3_1.length : Int) - (7 : Int))).toNat)))), .p (AV.u32 (lrd w3_1 ((w64 ((w3_1.length : Int) - (15 : Int))).toNat))), .p (AV.u32 r'6), .p (AV.u32 (lrd w3_1 ((w64 ((w3_1.length : Int) - (15 : Int))).toNat))), .p (AV.u32 r'7), .p (AV.u32 (r'6 ^^^ r'7)), .p (AV.u32 (lrd w3_1 ((w64 ((w3_1.length : Int) - (15 : Int))).toNat))), .p (AV.u32 (shr_u32 (lrd w3_1 ((w64 ((w3_1.length : Int) - (15 : Int))).toNat)) 3)), .p (AV.u32 ((r'6 ^^^ r'7) ^^^ (shr_u32 (lrd w3_1 ((w64 ((w3_1.length : Int) - (15 : Int))).toNat)) 3))), .p (AV.u32 (((lrd w3_1 ((w64 ((w3_1.length : Int) - (16 : Int))).toNat)) + (lrd w3_1 ((w64 ((w3_1.length : Int) - (7 : Int))).toNat))) + ((r'6 ^^^ r'7) ^^^ (shr_u32 (lrd w3_1 ((w64 ((w3_1.length : Int) - (15 : Int))).toNat)) 3)))), .p (AV.u32 (lrd w3_1 ((w64 ((w3_1.length : Int) - (2 : Int))).toNat))), .p (AV.u32 r'8), .p (AV.u32 (lrd w3_1 ((w64 ((w3_1.length : Int) - (2 : Int))).toNat))), .p (AV.u32 r'9), .p (AV.u32 (r'8 ^^^ r'9)), .p (AV.u32 (lrd w3_1 ((w64 ((w3_1.length : Int) - (2 : Int))).toNat))), .p (AV.u32 (shr_u32 (lrd w3_1 ((w64 ((w3_1.length : Int) - (2 : Int))).toNat)) 10)), .p (AV.u32 ((r'8 ^^^ r'9) ^^^ (shr_u32 (lrd w3_1 ((w64 ((w3_1.length : Int) - (2 : Int))).toNat)) 10))), .p (AV.u32 ((((lrd w3_1 ((w64 ((w3_1.length : Int) - (16 : Int))).toNat)) + (lrd w3_1 ((w64 ((w3_1.length : Int) - (7 : Int))).toNat))) + ((r'6 ^^^ r'7) ^^^ (shr_u32 (lrd w3_1 ((w64 ((w3_1.length : Int) - (15 : Int))).toNat)) 3))) + ((r'8 ^^^ r'9) ^^^ (shr_u32 (lrd w3_1 ((w64 ((w3_1.length : Int) - (2 : Int))).toNat)) 10)))), .c (.own 69 1 1)] : List TV).getD k TV.any) (fun k => ([[(3, none)], [(3, none)], [(5, none)], [(41, some 2)], [(40, some 1), (42, some 3)], [(43, some 4)], [(3, none)], [(5, none)], [(46, some 7)], [(45, some 6), (47, some 8)], [(48, some 9)], [(44, some 5), (49, some 10)], [(6, none)], [(51, some 12)], [(6, none)], [(53, some 14)], [(52, some 13), (54, some 15)], [(6, none)], [(56, some 17)], [(55, some 16), (57, some 18)], [(50, some 11), (58, some 19)], [(7, none)], [(60, some 21)], [(7, none)], [(62, some 23)], [(61, some 22), (63, some 24)], [(7, none)], [(65, some 26)], [(64, some 25), (66, some 27)], [(59, some 20), (67, some 28)], [(68, some 29)]] : List (List (Nat × Option Nat))).getD k []) [(3, none), (39, some 0), (69, some 30)] [(30, 69, (([(((lrd w3_1 ((w64 ((w3_1.length : Int) - (16 : Int))).toNat)) + (lrd w3_1 ((w64 ((w3_1.length : Int) - (7 : Int))).toNat))) + ((r'6 ^^^ r'7) ^^^ (shr_u32 (lrd w3_1 ((w64 ((w3_1.length : Int) - (15 : Int))).toNat)) 3))) + ((r'8 ^^^ r'9) ^^^ (shr_u32 (lrd w3_1 ((w64 ((w3_1.length : Int) - (2 : Int))).toNat)) 10))] : List UInt32).map AV.u32))] (fun k => ([[], [], [], [2], [1, 2, 3], [1, 2, 3, 4], [], [], [7], [6, 7, 8], [6, 7, 8, 9], [1, 2, 3, 4, 5, 6, 7, 8, 9, 10], [], [12], [], [12, 13, 14], [12, 13, 14, 15], [], [17], [12, 13, 14, 15, 16, 17, 18], [1, 2, 3, 4, 5, 6, 7, 8, 9, 10, 11, 12, 13, 14, 15, 16, 17, 18, 19], [], [12, 13, 14, 15, 21], [], [12, 13, 14, 15, 21, 22, 23], [12, 13, 14, 15, 21, 22, 23, 24], [], [26], [12, 13, 14, 15, 21, 22, 23, 24, 25, 26, 27], [1, 2, 3, 4, 5, 6, 7, 8, 9, 10, 11, 12, 13, 14, 15, 16, 17, 18, 19, 20, 21, 22, 23, 24, 25, 26, 27, 28], [1, 2, 3, 4, 5, 6, 7, 8, 9, 10, 11, 12, 13, 14, 15, 16, 17, 18, 19, 20, 21, 22, 23, 24, 25, 26, 27, 28, 29], [0, 1, 2, 3, 4, 5, 6, 7, 8, 9, 10, 11, 12, 13, 14, 15, 16, 17, 18, 19, 20, 21, 22, 23, 24, 25, 26, 27, 28, 29, 30], [0, 1, 2, 3, 4, 5, 6, 7, 8, 9, 10, 11, 12, 13, 14, 15, 16, 17, 18, 19, 20, 21, 22, 23, 24, 25, 26, 27, 28, 29, 30, 31]] : List (List Nat)).getD k []) mixed (by kernel_rfl) rfl rfl (a_op (g_x rfl (x_p rfl (p_move rfl rfl) rfl)) (a_op (g_x rfl (x_p rfl (p_move rfl rfl) rfl)) (a_op (g_x rfl (x_p rfl (p_move rfl rfl) rfl)) (a_op (g_x rfl (x_p rfl (p_bin rfl rfl rfl rfl) rfl)) (a_op (g_x rfl (x_p rfl (u_ixo rfl rfl Tryd.underlying113 in_92 rfl rfl (lne (ixn h9)) rfl (ixe h9) (ixn h9)) rfl)) (a_op (g_x rfl (x_p rfl (u_ld rfl rfl Tryd.underlying92 rfl rfl ((Sub.refl _).trans (Sub.map default (ixn h9)))) rfl)) (a_op (g_x rfl (x_p rfl (p_move rfl rfl) rfl)) (a_op (g_x rfl (x_p rfl (p_move rfl rfl) rfl)) (a_op (g_x rfl (x_p rfl (p_bin rfl rfl rfl rfl) rfl)) (a_op (g_x rfl (x_p rfl (u_ixo rfl rfl Tryd.underlying113 in_92 rfl rfl (lne (ixn h10)) rfl (ixe h10) (ixn h10)) rfl)) (a_op (g_x rfl (x_p rfl (u_ld rfl rfl Tryd.underlying92 rfl rfl ((Sub.refl _).trans (Sub.map default (ixn h10)))) rfl)) (a_op (g_x rfl (x_p rfl (p_u32add (a := (lrd w3_1 ((w64 ((w3_1.length : Int) - (16 : Int))).toNat))) (b := (lrd w3_1 ((w64 ((w3_1.length : Int) - (7 : Int))).toNat))) rfl rfl rfl) rfl)) (a_op (g_x rfl (x_p rfl (p_move rfl rfl) rfl)) (a_op (g_x rfl (x_p rfl (p_callp rfl rfl rfl Tryd.func98 rfl rfl (g_ref_rot_ac h11) ⟨rfl, rfl, trivial⟩) rfl)) (a_op (g_x rfl (x_p rfl (p_move rfl rfl) rfl)) (a_op (g_x rfl (x_p rfl (p_callp rfl rfl rfl Tryd.func98 rfl rfl (g_ref_rot_ac h12) ⟨rfl, rfl, trivial⟩) rfl)) (a_op (g_x rfl (x_p rfl (p_u32xor (a := r'6) (b := r'7) rfl rfl rfl) rfl)) (a_op (g_x rfl (x_p rfl (p_move rfl rfl) rfl)) (a_op (g_x rfl (x_p rfl (p_u32shr (n := 3) rfl rfl rfl rfl) rfl)) (a_op (g_x rfl (x_p rfl (p_u32xor (a := r'6 ^^^ r'7) (b := shr_u32 (lrd w3_1 ((w64 ((w3_1.length : Int) - (15 : Int))).toNat)) 3) rfl rfl rfl) rfl)) (a_op (g_x rfl (x_p rfl (p_u32add (a := (lrd w3_1 ((w64 ((w3_1.length : Int) - (16 : Int))).toNat)) + (lrd w3_1 ((w64 ((w3_1.length : Int) - (7 : Int))).toNat))) (b := (r'6 ^^^ r'7) ^^^ (shr_u32 (lrd w3_1 ((w64 ((w3_1.length : Int) - (15 : Int))).toNat)) 3)) rfl rfl rfl) rfl)) (a_op (g_x rfl (x_p rfl (p_move rfl rfl) rfl)) (a_op (g_x rfl (x_p rfl (p_callp rfl rfl rfl Tryd.func98 rfl rfl (g_ref_rot_ac h13) ⟨rfl, rfl, trivial⟩) rfl)) (a_op (g_x rfl (x_p rfl (p_move rfl rfl) rfl)) (a_op (g_x rfl (x_p rfl (p_callp rfl rfl rfl Tryd.func98 rfl rfl (g_ref_rot_ac h14) ⟨rfl, rfl, trivial⟩) rfl)) (a_op (g_x rfl (x_p rfl (p_u32xor (a := r'8) (b := r'9) rfl rfl rfl) rfl)) (a_op (g_x rfl (x_p rfl (p_move rfl rfl) rfl)) (a_op (g_x rfl (x_p rfl (p_u32shr (n := 10) rfl rfl rfl rfl) rfl)) (a_op (g_x rfl (x_p rfl (p_u32xor (a := r'8 ^^^ r'9) (b := shr_u32 (lrd w3_1 ((w64 ((w3_1.length : Int) - (2 : Int))).toNat)) 10) rfl rfl rfl) rfl)) (a_op (g_x rfl (x_p rfl (p_u32add (a := ((lrd w3_1 ((w64 ((w3_1.length : Int) - (16 : Int))).toNat)) + (lrd w3_1 ((w64 ((w3_1.length : Int) - (7 : Int))).toNat))) + ((r'6 ^^^ r'7) ^^^ (shr_u32 (lrd w3_1 ((w64 ((w3_1.length : Int) - (15 : Int))).toNat)) 3))) (b := (r'8 ^^^ r'9) ^^^ (shr_u32 (lrd w3_1 ((w64 ((w3_1.length : Int) - (2 : Int))).toNat)) 10)) rfl rfl rfl) rfl)) (a_op (g_x rfl (x_m rfl (u_bs 69 rfl Tryd.underlying113 in_92 rfl one_92 (by decide) (by decide) rfl rfl rfl) rfl rfl)) (a_nil)))))))))))))))))))))))))))))))) ?_
        refine t_op rfl rfl (u_app [3, 39] rfl rfl rfl rfl Tryd.underlying113 Tryd.underlying113 in_92 rfl rfl rfl (ml AV.u32 w3_1) (by decide) (srcT_o rfl rfl (ml AV.u32 ([(((lrd w3_1 ((w64 ((w3_1.length : Int) - (16 : Int))).toNat)) + (lrd w3_1 ((w64 ((w3_1.length : Int) - (7 : Int))).toNat))) + ((r'6 ^^^ r'7) ^^^ (shr_u32 (lrd w3_1 ((w64 ((w3_1.length : Int) - (15 : Int))).toNat)) 3))) + ((r'8 ^^^ r'9) ^^^ (shr_u32 (lrd w3_1 ((w64 ((w3_1.length : Int) - (2 : Int))).toNat)) 10))] : List UInt32)) (by decide)) (ml AV.u32 ([(((lrd w3_1 ((w64 ((w3_1.length : Int) - (16 : Int))).toNat)) + (lrd w3_1 ((w64 ((w3_1.length : Int) - (7 : Int))).toNat))) + ((r'6 ^^^ r'7) ^^^ (shr_u32 (lrd w3_1 ((w64 ((w3_1.length : Int) - (15 : Int))).toNat)) 3))) + ((r'8 ^^^ r'9) ^^^ (shr_u32 (lrd w3_1 ((w64 ((w3_1.length : Int) - (2 : Int))).toNat)) 10))] : List UInt32)) h15 (by decide) rfl rfl (mapp AV.u32 w3_1 ([(((lrd w3_1 ((w64 ((w3_1.length : Int) - (16 : Int))).toNat)) + (lrd w3_1 ((w64 ((w3_1.length : Int) - (7 : Int))).toNat))) + ((r'6 ^^^ r'7) ^^^ (shr_u32 (lrd w3_1 ((w64 ((w3_1.length : Int) - (15 : Int))).toNat)) 3))) + ((r'8 ^^^ r'9) ^^^ (shr_u32 (lrd w3_1 ((w64 ((w3_1.length : Int) - (2 : Int))).toNat)) 10))] : List UInt32)) (lapp w3_1 ([(((lrd w3_1 ((w64 ((w3_1.length : Int) - (16 : Int))).toNat)) + (lrd w3_1 ((w64 ((w3_1.length : Int) - (7 : Int))).toNat))) + ((r'6 ^^^ r'7) ^^^ (shr_u32 (lrd w3_1 ((w64 ((w3_1.length : Int) - (15 : Int))).toNat)) 3))) + ((r'8 ^^^ r'9) ^^^ (shr_u32 (lrd w3_1 ((w64 ((w3_1.length : Int) - (2 : Int))).toNat)) 10))] : List UInt32))) ?_
        refine t_op rfl rfl (PureD.opD (p_asg rfl rfl)) ?_
        refine t_gho (Gho_st (L := [(3, .c (.own 3 (w3_1 ++ ([(((lrd w3_1 ((w64 ((w3_1.length : Int) - (16 : Int))).toNat)) + (lrd w3_1 ((w64 ((w3_1.length : Int) - (7 : Int))).toNat))) + ((r'6 ^^^ r'7) ^^^ (shr_u32 (lrd w3_1 ((w64 ((w3_1.length : Int) - (15 : Int))).toNat)) 3))) + ((r'8 ^^^ r'9) ^^^ (shr_u32 (lrd w3_1 ((w64 ((w3_1.length : Int) - (2 : Int))).toNat)) 10))] : List UInt32)).length 1))]) (H := [(3, .pure ((w3_1 ++ ([(((lrd w3_1 ((w64 ((w3_1.length : Int) - (16 : Int))).toNat)) + (lrd w3_1 ((w64 ((w3_1.length : Int) - (7 : Int))).toNat))) + ((r'6 ^^^ r'7) ^^^ (shr_u32 (lrd w3_1 ((w64 ((w3_1.length : Int) - (15 : Int))).toNat)) 3))) + ((r'8 ^^^ r'9) ^^^ (shr_u32 (lrd w3_1 ((w64 ((w3_1.length : Int) - (2 : Int))).toNat)) 10))] : List UInt32)).map AV.u32))]) (N := 72) rfl ⟨TLes.same _, trivial⟩ ⟨rfl, trivial⟩) ?_
        refine gen1 (fun w3'10 => (⟨[(3, .c (.own 3 w3'10.length 1))], [(3, .pure (w3'10.map AV.u32))], 72⟩ : TS)) H ?_
        intro w3'10 H
        have hz := some_elim H
        subst hz
        exact ⟨rfl, rfl⟩
      · replace H := ite_else h6 H
        refine as2 [(3, .c (.own 3 w3_1.length 1))] [(3, .pure (w3_1.map AV.u32))] rfl rfl rfl ?_
        refine AW2_exit ?_
        refine thenQ2_exit ?_
        have hz := some_elim H
        subst hz
        exact ⟨rfl, rfl⟩
    · obtain ⟨rfl, rfl⟩ := hs
      refine ⟨by simp, ?_⟩
      refine blockQ2_exit ?_
      refine sg [0, 1] rfl ?_
      refine rp rfl rfl (p_move rfl rfl) ?_
      refine rp rfl rfl (p_asg rfl rfl) ?_
      refine rs [(2, .c (.own 3 y'14.length 1))] [(3, .pure (y'14.map AV.u32))] rfl rfl rfl ?_
      refine RunW_gho (Gho_ren 3 2 rfl rfl rfl rfl rfl) ?_
      refine rz [(2, .c (.own 2 y'14.length 1))] [(2, .pure (y'14.map AV.u32))] rfl rfl rfl ?_
      refine as2 [(2, .c (.own 2 y'14.length 1))] [(2, .pure (y'14.map AV.u32))] rfl rfl rfl ?_
      refine AW2_ret ?_
      have hz := some_elim H
      subst hz
      exact ⟨⟨res_tmp (.same _), trivial⟩, ⟨rfl, trivial⟩⟩
theorem g_ref_schedule_ac {b0 : List UInt8} {r : (List UInt32)} (H : g_ref_schedule b0 = some r) : ACp Tryd.prog 97 [(AV.txt b0)] ((fun q : List UInt32 => AV.lst (q.map AV.u32) q.length) r) := ACp_pub (g_ref_schedule_ac2 H) (fun _ _ hm => lent_own hm rfl (ml AV.u32 r) (by decide))

/-! chirographref.block -/
def g_ref_block_t0 : List UInt8 := [52, 50, 56, 97, 50, 102, 57, 56, 55, 49, 51, 55, 52, 52, 57, 49, 98, 53, 99, 48, 102, 98, 99, 102, 101, 57, 98, 53, 100, 98, 97, 53, 51, 57, 53, 54, 99, 50, 53, 98, 53, 57, 102, 49, 49, 49, 102, 49, 57, 50, 51, 102, 56, 50, 97, 52, 97, 98, 49, 99, 53, 101, 100, 53, 100, 56, 48, 55, 97, 97, 57, 56, 49, 50, 56, 51, 53, 98, 48, 49, 50, 52, 51, 49, 56, 53, 98, 101, 53, 53, 48, 99, 55, 100, 99, 51, 55, 50, 98, 101, 53, 100, 55, 52, 56, 48, 100, 101, 98, 49, 102, 101, 57, 98, 100, 99, 48, 54, 97, 55, 99, 49, 57, 98, 102, 49, 55, 52, 101, 52, 57, 98, 54, 57, 99, 49, 101, 102, 98, 101, 52, 55, 56, 54, 48, 102, 99, 49, 57, 100, 99, 54, 50, 52, 48, 99, 97, 49, 99, 99, 50, 100, 101, 57, 50, 99, 54, 102, 52, 97, 55, 52, 56, 52, 97, 97, 53, 99, 98, 48, 97, 57, 100, 99, 55, 54, 102, 57, 56, 56, 100, 97, 57, 56, 51, 101, 53, 49, 53, 50, 97, 56, 51, 49, 99, 54, 54, 100, 98, 48, 48, 51, 50, 55, 99, 56, 98, 102, 53, 57, 55, 102, 99, 55, 99, 54, 101, 48, 48, 98, 102, 51, 100, 53, 97, 55, 57, 49, 52, 55, 48, 54, 99, 97, 54, 51, 53, 49, 49, 52, 50, 57, 50, 57, 54, 55, 50, 55, 98, 55, 48, 97, 56, 53, 50, 101, 49, 98, 50, 49, 51, 56, 52, 100, 50, 99, 54, 100, 102, 99, 53, 51, 51, 56, 48, 100, 49, 51, 54, 53, 48, 97, 55, 51, 53, 52, 55, 54, 54, 97, 48, 97, 98, 98, 56, 49, 99, 50, 99, 57, 50, 101, 57, 50, 55, 50, 50, 99, 56, 53, 97, 50, 98, 102, 101, 56, 97, 49, 97, 56, 49, 97, 54, 54, 52, 98, 99, 50, 52, 98, 56, 98, 55, 48, 99, 55, 54, 99, 53, 49, 97, 51, 100, 49, 57, 50, 101, 56, 49, 57, 100, 54, 57, 57, 48, 54, 50, 52, 102, 52, 48, 101, 51, 53, 56, 53, 49, 48, 54, 97, 97, 48, 55, 48, 49, 57, 97, 52, 99, 49, 49, 54, 49, 101, 51, 55, 54, 99, 48, 56, 50, 55, 52, 56, 55, 55, 52, 99, 51, 52, 98, 48, 98, 99, 98, 53, 51, 57, 49, 99, 48, 99, 98, 51, 52, 101, 100, 56, 97, 97, 52, 97, 53, 98, 57, 99, 99, 97, 52, 102, 54, 56, 50, 101, 54, 102, 102, 51, 55, 52, 56, 102, 56, 50, 101, 101, 55, 56, 97, 53, 54, 51, 54, 102, 56, 52, 99, 56, 55, 56, 49, 52, 56, 99, 99, 55, 48, 50, 48, 56, 57, 48, 98, 101, 102, 102, 102, 97, 97, 52, 53, 48, 54, 99, 101, 98, 98, 101, 102, 57, 97, 51, 102, 55, 99, 54, 55, 49, 55, 56, 102, 50]
noncomputable def g_ref_block_l0 (r'1 : List UInt32) : UInt32 × UInt32 × UInt32 × UInt32 × UInt32 × UInt32 × UInt32 × UInt32 × Int → Option ((UInt32 × UInt32 × UInt32 × UInt32 × UInt32 × UInt32 × UInt32 × UInt32 × Int) ⊕ ((UInt32 × UInt32 × UInt32 × UInt32 × UInt32 × UInt32 × UInt32 × UInt32)))
  | (p6_0, q7_0, r8_0, s9_0, t10_0, u11_0, v12_0, x13_0, i14_0) => (if i14_0 < (64 : Int) then (g_ref_rot t10_0 (6 : Int)).bind fun r'2 => (g_ref_rot t10_0 (11 : Int)).bind fun r'3 => (g_ref_rot t10_0 (25 : Int)).bind fun r'4 => (g_ref_hexWord g_ref_block_t0 i14_0).bind fun r'5 => if 0 ≤ i14_0 ∧ i14_0 < (r'1.length : Int) then letO ((((x13_0 + ((r'2 ^^^ r'3) ^^^ r'4)) + ((t10_0 &&& u11_0) ||| ((~~~ t10_0) &&& v12_0))) + r'5) + (lrd r'1 i14_0.toNat)) fun one17'6 => (g_ref_rot p6_0 (2 : Int)).bind fun r'7 => (g_ref_rot p6_0 (13 : Int)).bind fun r'8 => (g_ref_rot p6_0 (22 : Int)).bind fun r'9 => letO (((r'7 ^^^ r'8) ^^^ r'9) + (((p6_0 &&& q7_0) ||| (p6_0 &&& r8_0)) ||| (q7_0 &&& r8_0))) fun two18'10 => some (.inl (one17'6 + two18'10, p6_0, q7_0, r8_0, s9_0 + one17'6, t10_0, u11_0, v12_0, w64 (i14_0 + (1 : Int)))) else none else some (.inr (p6_0, q7_0, r8_0, s9_0, t10_0, u11_0, v12_0, x13_0)))
noncomputable def g_ref_block (h0 : Vector UInt32 8) (b1 : List UInt8) : Option ((Vector UInt32 8)) :=
  (g_ref_schedule b1).bind fun r'1 => (loopO (g_ref_block_l0 r'1) ((vrd h0 0), (vrd h0 1), (vrd h0 2), (vrd h0 3), (vrd h0 4), (vrd h0 5), (vrd h0 6), (vrd h0 7), (0 : Int))).bind fun y'14 => letO (#v[(vrd h0 0) + y'14.1, (vrd h0 1) + y'14.2.1, (vrd h0 2) + y'14.2.2.1, (vrd h0 3) + y'14.2.2.2.1, (vrd h0 4) + y'14.2.2.2.2.1, (vrd h0 5) + y'14.2.2.2.2.2.1, (vrd h0 6) + y'14.2.2.2.2.2.2.1, (vrd h0 7) + y'14.2.2.2.2.2.2.2]) fun t4'15 => some t4'15
set_option maxHeartbeats 4000000 in
set_option maxRecDepth 100000 in
theorem g_ref_block_ac {h0 : Vector UInt32 8} {b1 : List UInt8} {r : (Vector UInt32 8)} (H : g_ref_block h0 b1 = some r) : ACp Tryd.prog 96 [(.agg (h0.toList.map AV.u32)), (AV.txt b1)] (.agg (r.toList.map AV.u32)) := by
  refine ACp_of (AC2_of_body (vs := [.g (r.toList.map AV.u32)]) Tryd.func96 rfl rfl (Nat.le_of_ble_eq_true rfl) rfl ?_) (fun _ => .same _)
  unfold g_ref_block at H
  refine as2 [(0, .g (h0.toList.map AV.u32)), (1, .t b1)] [] rfl rfl rfl ?_
  refine sg [0, 1] rfl ?_
  refine r_op rfl rfl (MakeD.opD (n_box 2 rfl rfl) rfl rfl rfl rfl) ?_
  refine r_op rfl rfl (MakeD.opD (u_alloc 4 rfl in_93 one_93 zc_93) rfl rfl rfl rfl) ?_
  refine rz [(1, .t b1), (2, .q 2 (0)), (4, .q 4 (0))] [(2, .pure (h0.toList.map AV.u32)), (4, .pure (((Vector.replicate 8 (0 : UInt32)).toList).map AV.u32))] rfl rfl rfl ?_
  refine sg [0, 1, 2] rfl ?_
  refine rp rfl rfl (p_move rfl rfl) ?_
  refine bindK H fun r'1 h1 H => ?_
  refine rp rfl rfl (p_callp rfl rfl rfl Tryd.func97 rfl rfl (g_ref_schedule_ac h1) ⟨rfl, trivial⟩) ?_
  refine rp rfl rfl (p_asg rfl rfl) ?_
  refine rz [(2, .q 2 (0)), (4, .q 4 (0)), (5, .p ((fun q : List UInt32 => AV.lst (q.map AV.u32) q.length) r'1))] [(2, .pure (h0.toList.map AV.u32)), (4, .pure (((Vector.replicate 8 (0 : UInt32)).toList).map AV.u32))] rfl rfl rfl ?_
  refine AW2_seq ?_
  refine AW2_ghoQ ?_
  refine AW2_draw 23 [23] (fun k => ([.q 2 (0 + 0 * 1), .p (AV.u32 (vrd h0 0)), .q 2 (0 + 1 * 1), .p (AV.u32 (vrd h0 1)), .q 2 (0 + 2 * 1), .p (AV.u32 (vrd h0 2)), .q 2 (0 + 3 * 1), .p (AV.u32 (vrd h0 3)), .q 2 (0 + 4 * 1), .p (AV.u32 (vrd h0 4)), .q 2 (0 + 5 * 1), .p (AV.u32 (vrd h0 5)), .q 2 (0 + 6 * 1), .p (AV.u32 (vrd h0 6)), .q 2 (0 + 7 * 1), .p (AV.u32 (vrd h0 7)), .p (AV.u32 (vrd h0 0)), .p (AV.u32 (vrd h0 1)), .p (AV.u32 (vrd h0 2)), .p (AV.u32 (vrd h0 3)), .p (AV.u32 (vrd h0 4)), .p (AV.u32 (vrd h0 5)), .p (AV.u32 (vrd h0 6))] : List TV).getD k TV.any) (fun k => ([[(2, none)], [(21, some 0)], [(2, none)], [(23, some 2)], [(2, none)], [(25, some 4)], [(2, none)], [(27, some 6)], [(2, none)], [(29, some 8)], [(2, none)], [(31, some 10)], [(2, none)], [(33, some 12)], [(2, none)], [(35, some 14)], [(22, some 1)], [(24, some 3)], [(26, some 5)], [(28, some 7)], [(30, some 9)], [(32, some 11)], [(34, some 13)]] : List (List (Nat × Option Nat))).getD k []) [(2, none), (4, none), (5, none), (6, some 16), (7, some 17), (8, some 18), (9, some 19), (10, some 20), (11, some 21), (12, some 22), (36, some 15)] [] (fun k => ([[], [0], [], [2], [], [4], [], [6], [], [8], [], [10], [], [12], [], [14], [0, 1], [0, 1, 2, 3, 16], [0, 1, 2, 3, 4, 5, 16, 17], [0, 1, 2, 3, 4, 5, 6, 7, 16, 17, 18], [0, 1, 2, 3, 4, 5, 6, 7, 8, 9, 16, 17, 18, 19], [0, 1, 2, 3, 4, 5, 6, 7, 8, 9, 10, 11, 16, 17, 18, 19, 20], [0, 1, 2, 3, 4, 5, 6, 7, 8, 9, 10, 11, 12, 13, 16, 17, 18, 19, 20, 21], [0, 1, 2, 3, 4, 5, 6, 7, 8, 9, 10, 11, 12, 13, 14, 15, 16, 17, 18, 19, 20, 21, 22]] : List (List Nat)).getD k []) mixed (by kernel_rfl) rfl rfl (a_op (g_x rfl (x_p rfl (u_ixp rfl rfl Tryd.underlying93 in_92 rfl rfl (ne_of_lt (n := 0) (Nat.lt_of_lt_of_eq (by decide) (Eq.symm (vmap_len (f := AV.u32) h0)))) rfl rfl (by decide)) rfl)) (a_op (g_x rfl (x_p rfl (u_ld rfl rfl Tryd.underlying92 rfl rfl ((Sub.refl _).trans (Sub.vmap (by decide)))) rfl)) (a_op (g_x rfl (x_p rfl (u_ixp rfl rfl Tryd.underlying93 in_92 rfl rfl (ne_of_lt (n := 0) (Nat.lt_of_lt_of_eq (by decide) (Eq.symm (vmap_len (f := AV.u32) h0)))) rfl rfl (by decide)) rfl)) (a_op (g_x rfl (x_p rfl (u_ld rfl rfl Tryd.underlying92 rfl rfl ((Sub.refl _).trans (Sub.vmap (by decide)))) rfl)) (a_op (g_x rfl (x_p rfl (u_ixp rfl rfl Tryd.underlying93 in_92 rfl rfl (ne_of_lt (n := 0) (Nat.lt_of_lt_of_eq (by decide) (Eq.symm (vmap_len (f := AV.u32) h0)))) rfl rfl (by decide)) rfl)) (a_op (g_x rfl (x_p rfl (u_ld rfl rfl Tryd.underlying92 rfl rfl ((Sub.refl _).trans (Sub.vmap (by decide)))) rfl)) (a_op (g_x rfl (x_p rfl (u_ixp rfl rfl Tryd.underlying93 in_92 rfl rfl (ne_of_lt (n := 0) (Nat.lt_of_lt_of_eq (by decide) (Eq.symm (vmap_len (f := AV.u32) h0)))) rfl rfl (by decide)) rfl)) (a_op (g_x rfl (x_p rfl (u_ld rfl rfl Tryd.underlying92 rfl rfl ((Sub.refl _).trans (Sub.vmap (by decide)))) rfl)) (a_op (g_x rfl (x_p rfl (u_ixp rfl rfl Tryd.underlying93 in_92 rfl rfl (ne_of_lt (n := 0) (Nat.lt_of_lt_of_eq (by decide) (Eq.symm (vmap_len (f := AV.u32) h0)))) rfl rfl (by decide)) rfl)) (a_op (g_x rfl (x_p rfl (u_ld rfl rfl Tryd.underlying92 rfl rfl ((Sub.refl _).trans (Sub.vmap (by decide)))) rfl)) (a_op (g_x rfl (x_p rfl (u_ixp rfl rfl Tryd.underlying93 in_92 rfl rfl (ne_of_lt (n := 0) (Nat.lt_of_lt_of_eq (by decide) (Eq.symm (vmap_len (f := AV.u32) h0)))) rfl rfl (by decide)) rfl)) (a_op (g_x rfl (x_p rfl (u_ld rfl rfl Tryd.underlying92 rfl rfl ((Sub.refl _).trans (Sub.vmap (by decide)))) rfl)) (a_op (g_x rfl (x_p rfl (u_ixp rfl rfl Tryd.underlying93 in_92 rfl rfl (ne_of_lt (n := 0) (Nat.lt_of_lt_of_eq (by decide) (Eq.symm (vmap_len (f := AV.u32) h0)))) rfl rfl (by decide)) rfl)) (a_op (g_x rfl (x_p rfl (u_ld rfl rfl Tryd.underlying92 rfl rfl ((Sub.refl _).trans (Sub.vmap (by decide)))) rfl)) (a_op (g_x rfl (x_p rfl (u_ixp rfl rfl Tryd.underlying93 in_92 rfl rfl (ne_of_lt (n := 0) (Nat.lt_of_lt_of_eq (by decide) (Eq.symm (vmap_len (f := AV.u32) h0)))) rfl rfl (by decide)) rfl)) (a_op (g_x rfl (x_p rfl (u_ld rfl rfl Tryd.underlying92 rfl rfl ((Sub.refl _).trans (Sub.vmap (by decide)))) rfl)) (a_op (g_x rfl (x_p rfl (p_asg rfl rfl) rfl)) (a_op (g_x rfl (x_p rfl (p_asg rfl rfl) rfl)) (a_op (g_x rfl (x_p rfl (p_asg rfl rfl) rfl)) (a_op (g_x rfl (x_p rfl (p_asg rfl rfl) rfl)) (a_op (g_x rfl (x_p rfl (p_asg rfl rfl) rfl)) (a_op (g_x rfl (x_p rfl (p_asg rfl rfl) rfl)) (a_op (g_x rfl (x_p rfl (p_asg rfl rfl) rfl)) (a_nil)))))))))))))))))))))))) ?_
  refine t_op rfl rfl (PureD.opD (p_asg rfl rfl)) ?_
  refine t_gho (Gho_st (L := [(2, .q 2 (0)), (4, .q 4 (0)), (5, .p ((fun q : List UInt32 => AV.lst (q.map AV.u32) q.length) r'1)), (6, .p (AV.u32 (vrd h0 0))), (7, .p (AV.u32 (vrd h0 1))), (8, .p (AV.u32 (vrd h0 2))), (9, .p (AV.u32 (vrd h0 3))), (10, .p (AV.u32 (vrd h0 4))), (11, .p (AV.u32 (vrd h0 5))), (12, .p (AV.u32 (vrd h0 6))), (13, .p (AV.u32 (vrd h0 7)))]) (H := [(2, .pure (h0.toList.map AV.u32)), (4, .pure (((Vector.replicate 8 (0 : UInt32)).toList).map AV.u32))]) (N := 135) rfl ⟨TLes.same _, TLes.same _, TLes.same _, TLes.same _, TLes.same _, TLes.same _, TLes.same _, TLes.same _, TLes.same _, TLes.same _, TLes.same _, trivial⟩ ⟨rfl, rfl, trivial⟩) ?_
  refine AW2_seq ?_
  refine sg [0] rfl ?_
  refine rp rfl rfl (p_asg rfl rfl) ?_
  refine rz [(2, .q 2 (0)), (4, .q 4 (0)), (5, .p ((fun q : List UInt32 => AV.lst (q.map AV.u32) q.length) r'1)), (6, .p (AV.u32 (vrd h0 0))), (7, .p (AV.u32 (vrd h0 1))), (8, .p (AV.u32 (vrd h0 2))), (9, .p (AV.u32 (vrd h0 3))), (10, .p (AV.u32 (vrd h0 4))), (11, .p (AV.u32 (vrd h0 5))), (12, .p (AV.u32 (vrd h0 6))), (13, .p (AV.u32 (vrd h0 7))), (14, .i (0 : Int))] [(2, .pure (h0.toList.map AV.u32)), (4, .pure (((Vector.replicate 8 (0 : UInt32)).toList).map AV.u32))] rfl rfl rfl ?_
  refine AW2_block ?_
  refine as2 [(2, .q 2 (0)), (4, .q 4 (0)), (5, .p ((fun q : List UInt32 => AV.lst (q.map AV.u32) q.length) r'1)), (6, .p (AV.u32 (vrd h0 0))), (7, .p (AV.u32 (vrd h0 1))), (8, .p (AV.u32 (vrd h0 2))), (9, .p (AV.u32 (vrd h0 3))), (10, .p (AV.u32 (vrd h0 4))), (11, .p (AV.u32 (vrd h0 5))), (12, .p (AV.u32 (vrd h0 6))), (13, .p (AV.u32 (vrd h0 7))), (14, .i (0 : Int))] [(2, .pure (h0.toList.map AV.u32)), (4, .pure (((Vector.replicate 8 (0 : UInt32)).toList).map AV.u32))] rfl rfl rfl ?_
  refine bindK H fun y'14 h11 H => ?_
  refine AW2_loopO (fun a'11 : UInt32 × UInt32 × UInt32 × UInt32 × UInt32 × UInt32 × UInt32 × UInt32 × Int => (⟨[(2, .q 2 (0)), (4, .q 4 (0)), (5, .p ((fun q : List UInt32 => AV.lst (q.map AV.u32) q.length) r'1)), (6, .p (AV.u32 a'11.1)), (7, .p (AV.u32 a'11.2.1)), (8, .p (AV.u32 a'11.2.2.1)), (9, .p (AV.u32 a'11.2.2.2.1)), (10, .p (AV.u32 a'11.2.2.2.2.1)), (11, .p (AV.u32 a'11.2.2.2.2.2.1)), (12, .p (AV.u32 a'11.2.2.2.2.2.2.1)), (13, .p (AV.u32 a'11.2.2.2.2.2.2.2.1)), (14, .i a'11.2.2.2.2.2.2.2.2)], [(2, .pure (h0.toList.map AV.u32)), (4, .pure (((Vector.replicate 8 (0 : UInt32)).toList).map AV.u32))], 135⟩ : TS)) (fun (y'12 : (UInt32 × UInt32 × UInt32 × UInt32 × UInt32 × UInt32 × UInt32 × UInt32)) e s' => e = Go.Exit.exit 0 ∧ s' = (⟨[(2, .q 2 (0)), (4, .q 4 (0)), (6, .p (AV.u32 y'12.1)), (7, .p (AV.u32 y'12.2.1)), (8, .p (AV.u32 y'12.2.2.1)), (9, .p (AV.u32 y'12.2.2.2.1)), (10, .p (AV.u32 y'12.2.2.2.2.1)), (11, .p (AV.u32 y'12.2.2.2.2.2.1)), (12, .p (AV.u32 y'12.2.2.2.2.2.2.1)), (13, .p (AV.u32 y'12.2.2.2.2.2.2.2))], [(2, .pure (h0.toList.map AV.u32)), (4, .pure (((Vector.replicate 8 (0 : UInt32)).toList).map AV.u32))], 135⟩ : TS)) h11 rfl (fun a x hx => ?_) (fun e s' hs => ?_)
  · clear H
    obtain ⟨p6_0, q7_0, r8_0, s9_0, t10_0, u11_0, v12_0, x13_0, i14_0⟩ := a
    have H := hx
    clear hx
    unfold g_ref_block_l0 at H
    refine AW2_seq ?_
    refine sg [0, 1] rfl ?_
    refine rp rfl rfl (p_move rfl rfl) ?_
    refine rp rfl rfl (p_bin rfl rfl rfl rfl) ?_
    refine rz [(2, .q 2 (0)), (4, .q 4 (0)), (5, .p ((fun q : List UInt32 => AV.lst (q.map AV.u32) q.length) r'1)), (6, .p (AV.u32 p6_0)), (7, .p (AV.u32 q7_0)), (8, .p (AV.u32 r8_0)), (9, .p (AV.u32 s9_0)), (10, .p (AV.u32 t10_0)), (11, .p (AV.u32 u11_0)), (12, .p (AV.u32 v12_0)), (13, .p (AV.u32 x13_0)), (14, .i i14_0), (38, .b (decide (i14_0 < (64 : Int))))] [(2, .pure (h0.toList.map AV.u32)), (4, .pure (((Vector.replicate 8 (0 : UInt32)).toList).map AV.u32))] rfl rfl rfl ?_
    refine AW2_if (p := i14_0 < (64 : Int)) rfl (fun h2 => ?_) (fun h2 => ?_)
    · replace H := ite_then h2 H
      refine as2 [(2, .q 2 (0)), (4, .q 4 (0)), (5, .p ((fun q : List UInt32 => AV.lst (q.map AV.u32) q.length) r'1)), (6, .p (AV.u32 p6_0)), (7, .p (AV.u32 q7_0)), (8, .p (AV.u32 r8_0)), (9, .p (AV.u32 s9_0)), (10, .p (AV.u32 t10_0)), (11, .p (AV.u32 u11_0)), (12, .p (AV.u32 v12_0)), (13, .p (AV.u32 x13_0)), (14, .i i14_0)] [(2, .pure (h0.toList.map AV.u32)), (4, .pure (((Vector.replicate 8 (0 : UInt32)).toList).map AV.u32))] rfl rfl rfl ?_
      refine AW2_skip ?_
      refine AW2_seq ?_
      refine AW2_block ?_
      refine sg [0, 1, 2, 3, 4, 5, 6, 7, 8] rfl ?_
      refine rp rfl rfl (p_move rfl rfl) ?_
      refine rp rfl rfl (p_move rfl rfl) ?_
      refine rp rfl rfl (p_u32and (a := t10_0) (b := u11_0) rfl rfl rfl) ?_
      refine rp rfl rfl (p_move rfl rfl) ?_
      refine rp rfl rfl (p_u32cpl rfl rfl) ?_
      refine rp rfl rfl (p_move rfl rfl) ?_
      refine rp rfl rfl (p_u32and (a := ~~~ t10_0) (b := v12_0) rfl rfl rfl) ?_
      refine rp rfl rfl (p_u32or (a := t10_0 &&& u11_0) (b := (~~~ t10_0) &&& v12_0) rfl rfl rfl) ?_
      refine rp rfl rfl (p_asg rfl rfl) ?_
      refine rz [(2, .q 2 (0)), (4, .q 4 (0)), (5, .p ((fun q : List UInt32 => AV.lst (q.map AV.u32) q.length) r'1)), (6, .p (AV.u32 p6_0)), (7, .p (AV.u32 q7_0)), (8, .p (AV.u32 r8_0)), (9, .p (AV.u32 s9_0)), (10, .p (AV.u32 t10_0)), (11, .p (AV.u32 u11_0)), (12, .p (AV.u32 v12_0)), (13, .p (AV.u32 x13_0)), (14, .i i14_0), (15, .p (AV.u32 ((t10_0 &&& u11_0) ||| ((~~~ t10_0) &&& v12_0))))] [(2, .pure (h0.toList.map AV.u32)), (4, .pure (((Vector.replicate 8 (0 : UInt32)).toList).map AV.u32))] rfl rfl rfl ?_
      refine sg [0, 1, 2, 3, 4, 5, 6, 7, 8, 9, 10, 11] rfl ?_
      refine rp rfl rfl (p_move rfl rfl) ?_
      refine rp rfl rfl (p_move rfl rfl) ?_
      refine rp rfl rfl (p_u32and (a := p6_0) (b := q7_0) rfl rfl rfl) ?_
      refine rp rfl rfl (p_move rfl rfl) ?_
      refine rp rfl rfl (p_move rfl rfl) ?_
      refine rp rfl rfl (p_u32and (a := p6_0) (b := r8_0) rfl rfl rfl) ?_
      refine rp rfl rfl (p_u32or (a := p6_0 &&& q7_0) (b := p6_0 &&& r8_0) rfl rfl rfl) ?_
      refine rp rfl rfl (p_move rfl rfl) ?_
      refine rp rfl rfl (p_move rfl rfl) ?_
      refine rp rfl rfl (p_u32and (a := q7_0) (b := r8_0) rfl rfl rfl) ?_
      refine rp rfl rfl (p_u32or (a := (p6_0 &&& q7_0) ||| (p6_0 &&& r8_0)) (b := q7_0 &&& r8_0) rfl rfl rfl) ?_
      refine rp rfl rfl (p_asg rfl rfl) ?_
      refine rz [(2, .q 2 (0)), (4, .q 4 (0)), (5, .p ((fun q : List UInt32 => AV.lst (q.map AV.u32) q.length) r'1)), (6, .p (AV.u32 p6_0)), (7, .p (AV.u32 q7_0)), (8, .p (AV.u32 r8_0)), (9, .p (AV.u32 s9_0)), (10, .p (AV.u32 t10_0)), (11, .p (AV.u32 u11_0)), (12, .p (AV.u32 v12_0)), (13, .p (AV.u32 x13_0)), (14, .i i14_0), (15, .p (AV.u32 ((t10_0 &&& u11_0) ||| ((~~~ t10_0) &&& v12_0)))), (16, .p (AV.u32 (((p6_0 &&& q7_0) ||| (p6_0 &&& r8_0)) ||| (q7_0 &&& r8_0))))] [(2, .pure (h0.toList.map AV.u32)), (4, .pure (((Vector.replicate 8 (0 : UInt32)).toList).map AV.u32))] rfl rfl rfl ?_
      refine AW2_seq ?_
      refine bindK H fun r'2 h3 H => ?_
      refine bindK H fun r'3 h4 H => ?_
      refine bindK H fun r'4 h5 H => ?_
      refine bindK H fun r'5 h6 H => ?_
      refine chkK H fun h7 H => ?_
      refine AW2_ghoQ ?_
      refine AW2_draw 19 [19, 20] (fun k => ([.p (AV.u32 x13_0), .p (AV.u32 t10_0), .p (AV.u32 r'2), .p (AV.u32 t10_0), .p (AV.u32 r'3), .p (AV.u32 (r'2 ^^^ r'3)), .p (AV.u32 t10_0), .p (AV.u32 r'4), .p (AV.u32 ((r'2 ^^^ r'3) ^^^ r'4)), .p (AV.u32 (x13_0 + ((r'2 ^^^ r'3) ^^^ r'4))), .p (AV.u32 ((t10_0 &&& u11_0) ||| ((~~~ t10_0) &&& v12_0))), .p (AV.u32 ((x13_0 + ((r'2 ^^^ r'3) ^^^ r'4)) + ((t10_0 &&& u11_0) ||| ((~~~ t10_0) &&& v12_0)))), .i i14_0, .p (AV.u32 r'5), .p (AV.u32 (((x13_0 + ((r'2 ^^^ r'3) ^^^ r'4)) + ((t10_0 &&& u11_0) ||| ((~~~ t10_0) &&& v12_0))) + r'5)), .p ((fun q : List UInt32 => AV.lst (q.map AV.u32) q.length) r'1), .i i14_0, .p (.rptr (r'1.map AV.u32) (i14_0.toNat * 1)), .p (AV.u32 (lrd r'1 i14_0.toNat))] : List TV).getD k TV.any) (fun k => ([[(13, none)], [(10, none)], [(61, some 1)], [(10, none)], [(63, some 3)], [(62, some 2), (64, some 4)], [(10, none)], [(66, some 6)], [(65, some 5), (67, some 7)], [(60, some 0), (68, some 8)], [(15, none)], [(69, some 9), (70, some 10)], [(14, none)], [(72, some 12)], [(71, some 11), (73, some 13)], [(5, none)], [(14, none)], [(75, some 15), (76, some 16)], [(77, some 17)]] : List (List (Nat × Option Nat))).getD k []) [(2, none), (4, none), (5, none), (6, none), (7, none), (8, none), (9, none), (10, none), (11, none), (12, none), (14, none), (16, none), (74, some 14), (78, some 18)] [] (fun k => ([[], [], [1], [], [1, 2, 3], [1, 2, 3, 4], [], [1, 2, 3, 4, 6], [1, 2, 3, 4, 5, 6, 7], [0, 1, 2, 3, 4, 5, 6, 7, 8], [], [0, 1, 2, 3, 4, 5, 6, 7, 8, 9, 10], [], [1, 2, 3, 4, 6, 7, 12], [0, 1, 2, 3, 4, 5, 6, 7, 8, 9, 10, 11, 12, 13], [], [], [15, 16], [15, 16, 17], [0, 1, 2, 3, 4, 5, 6, 7, 8, 9, 10, 11, 12, 13, 14, 15, 16, 17, 18], [0, 1, 2, 3, 4, 5, 6, 7, 8, 9, 10, 11, 12, 13, 14, 15, 16, 17, 18, 19]] : List (List Nat)).getD k []) mixed (by kernel_rfl) rfl rfl (a_op (g_x rfl (x_p rfl (p_move rfl rfl) rfl)) (a_op (g_x rfl (x_p rfl (p_move rfl rfl) rfl)) (a_op (g_x rfl (x_p rfl (p_callp rfl rfl rfl Tryd.func98 rfl rfl (g_ref_rot_ac h3) ⟨rfl, rfl, trivial⟩) rfl)) (a_op (g_x rfl (x_p rfl (p_move rfl rfl) rfl)) (a_op (g_x rfl (x_p rfl (p_callp rfl rfl rfl Tryd.func98 rfl rfl (g_ref_rot_ac h4) ⟨rfl, rfl, trivial⟩) rfl)) (a_op (g_x rfl (x_p rfl (p_u32xor (a := r'2) (b := r'3) rfl rfl rfl) rfl)) (a_op (g_x rfl (x_p rfl (p_move rfl rfl) rfl)) (a_op (g_x rfl (x_p rfl (p_callp rfl rfl rfl Tryd.func98 rfl rfl (g_ref_rot_ac h5) ⟨rfl, rfl, trivial⟩) rfl)) (a_op (g_x rfl (x_p rfl (p_u32xor (a := r'2 ^^^ r'3) (b := r'4) rfl rfl rfl) rfl)) (a_op (g_x rfl (x_p rfl (p_u32add (a := x13_0) (b := (r'2 ^^^ r'3) ^^^ r'4) rfl rfl rfl) rfl)) (a_op (g_x rfl (x_p rfl (p_move rfl rfl) rfl)) (a_op (g_x rfl (x_p rfl (p_u32add (a := x13_0 + ((r'2 ^^^ r'3) ^^^ r'4)) (b := (t10_0 &&& u11_0) ||| ((~~~ t10_0) &&& v12_0)) rfl rfl rfl) rfl)) (a_op (g_x rfl (x_p rfl (p_move rfl rfl) rfl)) (a_op (g_x rfl (x_p rfl (p_callp rfl rfl rfl Tryd.func94 rfl rfl (g_ref_hexWord_ac h6) ⟨by kernel_rfl, rfl, trivial⟩) rfl)) (a_op (g_x rfl (x_p rfl (p_u32add (a := (x13_0 + ((r'2 ^^^ r'3) ^^^ r'4)) + ((t10_0 &&& u11_0) ||| ((~~~ t10_0) &&& v12_0))) (b := r'5) rfl rfl rfl) rfl)) (a_op (g_x rfl (x_p rfl (p_move rfl rfl) rfl)) (a_op (g_x rfl (x_p rfl (p_move rfl rfl) rfl)) (a_op (g_x rfl (x_p rfl (u_ixl rfl rfl Tryd.underlying113 in_92 rfl rfl (ixe h7) (ixn h7) (lne (ixn h7))) rfl)) (a_op (g_x rfl (x_p rfl (u_ld rfl rfl Tryd.underlying92 rfl rfl (Sub.map default (ixn h7))) rfl)) (a_nil)))))))))))))))))))) ?_
      refine t_op rfl rfl (PureD.opD (p_u32add (a := ((x13_0 + ((r'2 ^^^ r'3) ^^^ r'4)) + ((t10_0 &&& u11_0) ||| ((~~~ t10_0) &&& v12_0))) + r'5) (b := (lrd r'1 i14_0.toNat)) rfl rfl rfl)) ?_
      refine t_op rfl rfl (PureD.opD (p_asg rfl rfl)) ?_
      refine t_gho (Gho_st (L := [(2, .q 2 (0)), (4, .q 4 (0)), (5, .p ((fun q : List UInt32 => AV.lst (q.map AV.u32) q.length) r'1)), (6, .p (AV.u32 p6_0)), (7, .p (AV.u32 q7_0)), (8, .p (AV.u32 r8_0)), (9, .p (AV.u32 s9_0)), (10, .p (AV.u32 t10_0)), (11, .p (AV.u32 u11_0)), (12, .p (AV.u32 v12_0)), (14, .i i14_0), (16, .p (AV.u32 (((p6_0 &&& q7_0) ||| (p6_0 &&& r8_0)) ||| (q7_0 &&& r8_0)))), (17, .p (AV.u32 ((((x13_0 + ((r'2 ^^^ r'3) ^^^ r'4)) + ((t10_0 &&& u11_0) ||| ((~~~ t10_0) &&& v12_0))) + r'5) + (lrd r'1 i14_0.toNat))))]) (H := [(2, .pure (h0.toList.map AV.u32)), (4, .pure (((Vector.replicate 8 (0 : UInt32)).toList).map AV.u32))]) (N := 135) rfl ⟨TLes.same _, TLes.same _, TLes.same _, TLes.same _, TLes.same _, TLes.same _, TLes.same _, TLes.same _, TLes.same _, TLes.same _, TLes.same _, TLes.same _, TLes.same _, trivial⟩ ⟨rfl, rfl, trivial⟩) ?_
      refine gen1 (fun one17'6 => (⟨[(2, .q 2 (0)), (4, .q 4 (0)), (5, .p ((fun q : List UInt32 => AV.lst (q.map AV.u32) q.length) r'1)), (6, .p (AV.u32 p6_0)), (7, .p (AV.u32 q7_0)), (8, .p (AV.u32 r8_0)), (9, .p (AV.u32 s9_0)), (10, .p (AV.u32 t10_0)), (11, .p (AV.u32 u11_0)), (12, .p (AV.u32 v12_0)), (14, .i i14_0), (16, .p (AV.u32 (((p6_0 &&& q7_0) ||| (p6_0 &&& r8_0)) ||| (q7_0 &&& r8_0)))), (17, .p (AV.u32 one17'6))], [(2, .pure (h0.toList.map AV.u32)), (4, .pure (((Vector.replicate 8 (0 : UInt32)).toList).map AV.u32))], 135⟩ : TS)) H ?_
      intro one17'6 H
      refine sg [0, 1, 2, 3, 4, 5, 6, 7, 8, 9, 10] rfl ?_
      refine rp rfl rfl (p_move rfl rfl) ?_
      refine bindK H fun r'7 h8 H => ?_
      refine rp rfl rfl (p_callp rfl rfl rfl Tryd.func98 rfl rfl (g_ref_rot_ac h8) ⟨rfl, rfl, trivial⟩) ?_
      refine rp rfl rfl (p_move rfl rfl) ?_
      refine bindK H fun r'8 h9 H => ?_
      refine rp rfl rfl (p_callp rfl rfl rfl Tryd.func98 rfl rfl (g_ref_rot_ac h9) ⟨rfl, rfl, trivial⟩) ?_
      refine rp rfl rfl (p_u32xor (a := r'7) (b := r'8) rfl rfl rfl) ?_
      refine rp rfl rfl (p_move rfl rfl) ?_
      refine bindK H fun r'9 h10 H => ?_
      refine rp rfl rfl (p_callp rfl rfl rfl Tryd.func98 rfl rfl (g_ref_rot_ac h10) ⟨rfl, rfl, trivial⟩) ?_
      refine rp rfl rfl (p_u32xor (a := r'7 ^^^ r'8) (b := r'9) rfl rfl rfl) ?_
      refine rp rfl rfl (p_move rfl rfl) ?_
      refine rp rfl rfl (p_u32add (a := (r'7 ^^^ r'8) ^^^ r'9) (b := ((p6_0 &&& q7_0) ||| (p6_0 &&& r8_0)) ||| (q7_0 &&& r8_0)) rfl rfl rfl) ?_
      refine rp rfl rfl (p_asg rfl rfl) ?_
      refine rz [(2, .q 2 (0)), (4, .q 4 (0)), (5, .p ((fun q : List UInt32 => AV.lst (q.map AV.u32) q.length) r'1)), (6, .p (AV.u32 p6_0)), (7, .p (AV.u32 q7_0)), (8, .p (AV.u32 r8_0)), (9, .p (AV.u32 s9_0)), (10, .p (AV.u32 t10_0)), (11, .p (AV.u32 u11_0)), (12, .p (AV.u32 v12_0)), (14, .i i14_0), (17, .p (AV.u32 one17'6)), (18, .p (AV.u32 (((r'7 ^^^ r'8) ^^^ r'9) + (((p6_0 &&& q7_0) ||| (p6_0 &&& r8_0)) ||| (q7_0 &&& r8_0)))))] [(2, .pure (h0.toList.map AV.u32)), (4, .pure (((Vector.replicate 8 (0 : UInt32)).toList).map AV.u32))] rfl rfl rfl ?_
      refine gen1 (fun two18'10 => (⟨[(2, .q 2 (0)), (4, .q 4 (0)), (5, .p ((fun q : List UInt32 => AV.lst (q.map AV.u32) q.length) r'1)), (6, .p (AV.u32 p6_0)), (7, .p (AV.u32 q7_0)), (8, .p (AV.u32 r8_0)), (9, .p (AV.u32 s9_0)), (10, .p (AV.u32 t10_0)), (11, .p (AV.u32 u11_0)), (12, .p (AV.u32 v12_0)), (14, .i i14_0), (17, .p (AV.u32 one17'6)), (18, .p (AV.u32 two18'10))], [(2, .pure (h0.toList.map AV.u32)), (4, .pure (((Vector.replicate 8 (0 : UInt32)).toList).map AV.u32))], 135⟩ : TS)) H ?_
      intro two18'10 H
      refine AW2_reg [0, 1, 2, 3, 4, 5, 6, 7, 8, 9, 10, 11, 12, 13, 14, 15, 16, 17, 18, 19] rfl ?_
      refine rp rfl rfl (p_move rfl rfl) ?_
      refine rp rfl rfl (p_move rfl rfl) ?_
      refine rp rfl rfl (p_u32add (a := one17'6) (b := two18'10) rfl rfl rfl) ?_
      refine rp rfl rfl (p_move rfl rfl) ?_
      refine rp rfl rfl (p_move rfl rfl) ?_
      refine rp rfl rfl (p_move rfl rfl) ?_
      refine rp rfl rfl (p_move rfl rfl) ?_
      refine rp rfl rfl (p_move rfl rfl) ?_
      refine rp rfl rfl (p_u32add (a := s9_0) (b := one17'6) rfl rfl rfl) ?_
      refine rp rfl rfl (p_move rfl rfl) ?_
      refine rp rfl rfl (p_move rfl rfl) ?_
      refine rp rfl rfl (p_move rfl rfl) ?_
      refine rp rfl rfl (p_asg rfl rfl) ?_
      refine rp rfl rfl (p_asg rfl rfl) ?_
      refine rp rfl rfl (p_asg rfl rfl) ?_
      refine rp rfl rfl (p_asg rfl rfl) ?_
      refine rp rfl rfl (p_asg rfl rfl) ?_
      refine rp rfl rfl (p_asg rfl rfl) ?_
      refine rp rfl rfl (p_asg rfl rfl) ?_
      refine rp rfl rfl (p_asg rfl rfl) ?_
      refine rz [(2, .q 2 (0)), (4, .q 4 (0)), (5, .p ((fun q : List UInt32 => AV.lst (q.map AV.u32) q.length) r'1)), (6, .p (AV.u32 (one17'6 + two18'10))), (7, .p (AV.u32 p6_0)), (8, .p (AV.u32 q7_0)), (9, .p (AV.u32 r8_0)), (10, .p (AV.u32 (s9_0 + one17'6))), (11, .p (AV.u32 t10_0)), (12, .p (AV.u32 u11_0)), (13, .p (AV.u32 v12_0)), (14, .i i14_0)] [(2, .pure (h0.toList.map AV.u32)), (4, .pure (((Vector.replicate 8 (0 : UInt32)).toList).map AV.u32))] rfl rfl rfl ?_
      refine AW2_reg [0, 1, 2] rfl ?_
      refine rp rfl rfl (p_move rfl rfl) ?_
      refine rp rfl rfl (p_bin rfl rfl rfl rfl) ?_
      refine rp rfl rfl (p_asg rfl rfl) ?_
      refine rz [(2, .q 2 (0)), (4, .q 4 (0)), (5, .p ((fun q : List UInt32 => AV.lst (q.map AV.u32) q.length) r'1)), (6, .p (AV.u32 (one17'6 + two18'10))), (7, .p (AV.u32 p6_0)), (8, .p (AV.u32 q7_0)), (9, .p (AV.u32 r8_0)), (10, .p (AV.u32 (s9_0 + one17'6))), (11, .p (AV.u32 t10_0)), (12, .p (AV.u32 u11_0)), (13, .p (AV.u32 v12_0)), (14, .i (w64 (i14_0 + (1 : Int))))] [(2, .pure (h0.toList.map AV.u32)), (4, .pure (((Vector.replicate 8 (0 : UInt32)).toList).map AV.u32))] rfl rfl rfl ?_
      have hz := some_elim H
      subst hz
      exact ⟨rfl, rfl⟩
    · replace H := ite_else h2 H
      refine as2 [(2, .q 2 (0)), (4, .q 4 (0)), (6, .p (AV.u32 p6_0)), (7, .p (AV.u32 q7_0)), (8, .p (AV.u32 r8_0)), (9, .p (AV.u32 s9_0)), (10, .p (AV.u32 t10_0)), (11, .p (AV.u32 u11_0)), (12, .p (AV.u32 v12_0)), (13, .p (AV.u32 x13_0))] [(2, .pure (h0.toList.map AV.u32)), (4, .pure (((Vector.replicate 8 (0 : UInt32)).toList).map AV.u32))] rfl rfl rfl ?_
      refine AW2_exit ?_
      refine thenQ2_exit ?_
      have hz := some_elim H
      subst hz
      exact ⟨rfl, rfl⟩
  · obtain ⟨rfl, rfl⟩ := hs
    refine ⟨by simp, ?_⟩
    refine blockQ2_exit ?_
    refine sg [0, 1, 2, 3, 4, 5, 6, 7, 8, 9, 10, 11, 12, 13, 14, 15, 16, 17, 18, 19, 20, 21, 22, 23, 24, 25, 26, 27, 28, 29, 30, 31, 32, 33] rfl ?_
    refine rp rfl rfl (u_ixp rfl rfl Tryd.underlying93 in_92 rfl rfl (ne_of_lt (n := 0) (Nat.lt_of_lt_of_eq (by decide) (Eq.symm (vmap_len (f := AV.u32) h0)))) rfl rfl (by decide)) ?_
    refine rp rfl rfl (u_ld rfl rfl Tryd.underlying92 rfl rfl ((Sub.refl _).trans (Sub.vmap (by decide)))) ?_
    refine rp rfl rfl (p_move rfl rfl) ?_
    refine rp rfl rfl (p_u32add (a := (vrd h0 0)) (b := y'14.1) rfl rfl rfl) ?_
    refine rp rfl rfl (u_ixp rfl rfl Tryd.underlying93 in_92 rfl rfl (ne_of_lt (n := 0) (Nat.lt_of_lt_of_eq (by decide) (Eq.symm (vmap_len (f := AV.u32) h0)))) rfl rfl (by decide)) ?_
    refine rp rfl rfl (u_ld rfl rfl Tryd.underlying92 rfl rfl ((Sub.refl _).trans (Sub.vmap (by decide)))) ?_
    refine rp rfl rfl (p_move rfl rfl) ?_
    refine rp rfl rfl (p_u32add (a := (vrd h0 1)) (b := y'14.2.1) rfl rfl rfl) ?_
    refine rp rfl rfl (u_ixp rfl rfl Tryd.underlying93 in_92 rfl rfl (ne_of_lt (n := 0) (Nat.lt_of_lt_of_eq (by decide) (Eq.symm (vmap_len (f := AV.u32) h0)))) rfl rfl (by decide)) ?_
    refine rp rfl rfl (u_ld rfl rfl Tryd.underlying92 rfl rfl ((Sub.refl _).trans (Sub.vmap (by decide)))) ?_
    refine rp rfl rfl (p_move rfl rfl) ?_
    refine rp rfl rfl (p_u32add (a := (vrd h0 2)) (b := y'14.2.2.1) rfl rfl rfl) ?_
    refine rp rfl rfl (u_ixp rfl rfl Tryd.underlying93 in_92 rfl rfl (ne_of_lt (n := 0) (Nat.lt_of_lt_of_eq (by decide) (Eq.symm (vmap_len (f := AV.u32) h0)))) rfl rfl (by decide)) ?_
    refine rp rfl rfl (u_ld rfl rfl Tryd.underlying92 rfl rfl ((Sub.refl _).trans (Sub.vmap (by decide)))) ?_
    refine rp rfl rfl (p_move rfl rfl) ?_
    refine rp rfl rfl (p_u32add (a := (vrd h0 3)) (b := y'14.2.2.2.1) rfl rfl rfl) ?_
    refine rp rfl rfl (u_ixp rfl rfl Tryd.underlying93 in_92 rfl rfl (ne_of_lt (n := 0) (Nat.lt_of_lt_of_eq (by decide) (Eq.symm (vmap_len (f := AV.u32) h0)))) rfl rfl (by decide)) ?_
    refine rp rfl rfl (u_ld rfl rfl Tryd.underlying92 rfl rfl ((Sub.refl _).trans (Sub.vmap (by decide)))) ?_
    refine rp rfl rfl (p_move rfl rfl) ?_
    refine rp rfl rfl (p_u32add (a := (vrd h0 4)) (b := y'14.2.2.2.2.1) rfl rfl rfl) ?_
    refine rp rfl rfl (u_ixp rfl rfl Tryd.underlying93 in_92 rfl rfl (ne_of_lt (n := 0) (Nat.lt_of_lt_of_eq (by decide) (Eq.symm (vmap_len (f := AV.u32) h0)))) rfl rfl (by decide)) ?_
    refine rp rfl rfl (u_ld rfl rfl Tryd.underlying92 rfl rfl ((Sub.refl _).trans (Sub.vmap (by decide)))) ?_
    refine rp rfl rfl (p_move rfl rfl) ?_
    refine rp rfl rfl (p_u32add (a := (vrd h0 5)) (b := y'14.2.2.2.2.2.1) rfl rfl rfl) ?_
    refine rp rfl rfl (u_ixp rfl rfl Tryd.underlying93 in_92 rfl rfl (ne_of_lt (n := 0) (Nat.lt_of_lt_of_eq (by decide) (Eq.symm (vmap_len (f := AV.u32) h0)))) rfl rfl (by decide)) ?_
    refine rp rfl rfl (u_ld rfl rfl Tryd.underlying92 rfl rfl ((Sub.refl _).trans (Sub.vmap (by decide)))) ?_
    refine rp rfl rfl (p_move rfl rfl) ?_
    refine rp rfl rfl (p_u32add (a := (vrd h0 6)) (b := y'14.2.2.2.2.2.2.1) rfl rfl rfl) ?_
    refine rp rfl rfl (u_ixp rfl rfl Tryd.underlying93 in_92 rfl rfl (ne_of_lt (n := 0) (Nat.lt_of_lt_of_eq (by decide) (Eq.symm (vmap_len (f := AV.u32) h0)))) rfl rfl (by decide)) ?_
    refine rp rfl rfl (u_ld rfl rfl Tryd.underlying92 rfl rfl ((Sub.refl _).trans (Sub.vmap (by decide)))) ?_
    refine rp rfl rfl (p_move rfl rfl) ?_
    refine rp rfl rfl (p_u32add (a := (vrd h0 7)) (b := y'14.2.2.2.2.2.2.2) rfl rfl rfl) ?_
    refine rp rfl rfl (u_blda rfl in_93 one_93 rfl Tryd.underlying93 in_92 rfl rfl) ?_
    refine r_op rfl rfl (u_st rfl rfl rfl rfl rfl in_93 (vmap_len (f := AV.u32) (#v[(vrd h0 0) + y'14.1, (vrd h0 1) + y'14.2.1, (vrd h0 2) + y'14.2.2.1, (vrd h0 3) + y'14.2.2.2.1, (vrd h0 4) + y'14.2.2.2.2.1, (vrd h0 5) + y'14.2.2.2.2.2.1, (vrd h0 6) + y'14.2.2.2.2.2.2.1, (vrd h0 7) + y'14.2.2.2.2.2.2.2])) (ne_of_lt (n := 0) (Nat.lt_of_lt_of_eq (by decide) (Eq.symm (vmap_len (f := AV.u32) (Vector.replicate 8 (0 : UInt32)))))) (Upd.refl ((vmap_len (f := AV.u32) (#v[(vrd h0 0) + y'14.1, (vrd h0 1) + y'14.2.1, (vrd h0 2) + y'14.2.2.1, (vrd h0 3) + y'14.2.2.2.1, (vrd h0 4) + y'14.2.2.2.2.1, (vrd h0 5) + y'14.2.2.2.2.2.1, (vrd h0 6) + y'14.2.2.2.2.2.2.1, (vrd h0 7) + y'14.2.2.2.2.2.2.2])).trans (vmap_len (f := AV.u32) (Vector.replicate 8 (0 : UInt32))).symm))) ?_
    refine rz [(4, .q 4 (0))] [(4, .pure (((#v[(vrd h0 0) + y'14.1, (vrd h0 1) + y'14.2.1, (vrd h0 2) + y'14.2.2.1, (vrd h0 3) + y'14.2.2.2.1, (vrd h0 4) + y'14.2.2.2.2.1, (vrd h0 5) + y'14.2.2.2.2.2.1, (vrd h0 6) + y'14.2.2.2.2.2.2.1, (vrd h0 7) + y'14.2.2.2.2.2.2.2]).toList).map AV.u32))] rfl rfl rfl ?_
    refine gen1 (fun t4'15 => (⟨[(4, .q 4 (0))], [(4, .pure (t4'15.toList.map AV.u32))], 135⟩ : TS)) H ?_
    intro t4'15 H
    refine AW2_ret ?_
    have hz := some_elim H
    subst hz
    exact ⟨⟨res_cella Tryd.underlying93 rfl in_93.sz rfl (Sub.le (Sub.refl _) (vmap_len (f := AV.u32) t4'15)) (by decide) (Sub.take (Sub.refl _) (vmap_len (f := AV.u32) t4'15)), trivial⟩, trivial⟩

/-! chirographref.blocks -/
noncomputable def g_ref_blocks_l0 : (List UInt8) × (Vector UInt32 8) → Option (((List UInt8) × (Vector UInt32 8)) ⊕ (((Vector UInt32 8))))
  | (s1_0, h2_0) => (if (s1_0.length : Int) ≥ (64 : Int) then if 0 ≤ (64 : Int) ∧ (64 : Int) ≤ (s1_0.length : Int) then (g_ref_block h2_0 (cut s1_0 (0 : Int) (64 : Int))).bind fun r'1 => if 0 ≤ (64 : Int) ∧ (64 : Int) ≤ (s1_0.length : Int) then some (.inl ((cut s1_0 (64 : Int) (s1_0.length : Int)), r'1)) else none else none else some (.inr h2_0))
noncomputable def g_ref_blocks (h0 : Vector UInt32 8) (s1 : List UInt8) : Option ((Vector UInt32 8)) :=
  (loopO (g_ref_blocks_l0) (s1, h0)).bind fun y'5 => some y'5
set_option maxHeartbeats 4000000 in
set_option maxRecDepth 100000 in
theorem g_ref_blocks_ac {h0 : Vector UInt32 8} {s1 : List UInt8} {r : (Vector UInt32 8)} (H : g_ref_blocks h0 s1 = some r) : ACp Tryd.prog 93 [(.agg (h0.toList.map AV.u32)), (AV.txt s1)] (.agg (r.toList.map AV.u32)) := by
  refine ACp_of (AC2_of_body (vs := [.g (r.toList.map AV.u32)]) Tryd.func93 rfl rfl (Nat.le_of_ble_eq_true rfl) rfl ?_) (fun _ => .same _)
  unfold g_ref_blocks at H
  refine as2 [(0, .g (h0.toList.map AV.u32)), (1, .t s1)] [] rfl rfl rfl ?_
  refine sg [0, 1] rfl ?_
  refine r_op rfl rfl (MakeD.opD (n_box 2 rfl rfl) rfl rfl rfl rfl) ?_
  refine r_op rfl rfl (MakeD.opD (u_alloc 4 rfl in_93 one_93 zc_93) rfl rfl rfl rfl) ?_
  refine rz [(1, .t s1), (2, .q 2 (0)), (4, .q 4 (0))] [(2, .pure (h0.toList.map AV.u32)), (4, .pure (((Vector.replicate 8 (0 : UInt32)).toList).map AV.u32))] rfl rfl rfl ?_
  refine AW2_seq ?_
  refine AW2_block ?_
  refine as2 [(1, .t s1), (2, .q 2 (0)), (4, .q 4 (0))] [(2, .pure (h0.toList.map AV.u32)), (4, .pure (((Vector.replicate 8 (0 : UInt32)).toList).map AV.u32))] rfl rfl rfl ?_
  refine bindK H fun y'5 h5 H => ?_
  refine AW2_loopO (fun a'2 : (List UInt8) × (Vector UInt32 8) => (⟨[(1, .t a'2.1), (2, .q 2 (0)), (4, .q 4 (0))], [(2, .pure (a'2.2.toList.map AV.u32)), (4, .pure (((Vector.replicate 8 (0 : UInt32)).toList).map AV.u32))], 15⟩ : TS)) (fun (y'3 : ((Vector UInt32 8))) e s' => e = Go.Exit.exit 0 ∧ s' = (⟨[(2, .q 2 (0)), (4, .q 4 (0))], [(2, .pure (y'3.toList.map AV.u32)), (4, .pure (((Vector.replicate 8 (0 : UInt32)).toList).map AV.u32))], 15⟩ : TS)) h5 rfl (fun a x hx => ?_) (fun e s' hs => ?_)
  · clear H
    obtain ⟨s1_0, h2_0⟩ := a
    have H := hx
    clear hx
    unfold g_ref_blocks_l0 at H
    refine AW2_seq ?_
    refine sg [0, 1, 2] rfl ?_
    refine rp rfl rfl (p_move rfl rfl) ?_
    refine rp rfl rfl (p_lent rfl Tryd.underlying9 rfl) ?_
    refine rp rfl rfl (p_bin rfl rfl rfl rfl) ?_
    refine rz [(1, .t s1_0), (2, .q 2 (0)), (4, .q 4 (0)), (7, .b (decide ((s1_0.length : Int) ≥ (64 : Int))))] [(2, .pure (h2_0.toList.map AV.u32)), (4, .pure (((Vector.replicate 8 (0 : UInt32)).toList).map AV.u32))] rfl rfl rfl ?_
    refine AW2_if (p := (s1_0.length : Int) ≥ (64 : Int)) rfl (fun h1 => ?_) (fun h1 => ?_)
    · replace H := ite_then h1 H
      refine as2 [(1, .t s1_0), (2, .q 2 (0)), (4, .q 4 (0))] [(2, .pure (h2_0.toList.map AV.u32)), (4, .pure (((Vector.replicate 8 (0 : UInt32)).toList).map AV.u32))] rfl rfl rfl ?_
      refine AW2_skip ?_
      refine AW2_seq ?_
      refine AW2_block ?_
      refine chkK H fun h2 H => ?_
      refine bindK H fun r'1 h3 H => ?_
      refine AW2_ghoQ ?_
      refine AW2_draw 3 [3, 4] (fun k => ([.g (h2_0.toList.map AV.u32), .t s1_0, .t (cut s1_0 (0 : Int) (64 : Int))] : List TV).getD k TV.any) (fun k => ([[(2, none)], [(1, none)], [(11, some 1)]] : List (List (Nat × Option Nat))).getD k []) [(1, none), (2, none), (4, none), (10, some 0), (12, some 2)] [] (fun k => ([[], [], [1], [0, 1, 2], [0, 1, 2, 3]] : List (List Nat)).getD k []) mixed (by kernel_rfl) rfl rfl (a_op (g_x rfl (x_p rfl (u_lda rfl rfl Tryd.underlying93 rfl in_93 rfl (Nat.succ_pos _) (Sub.refl _) (vmap_len (f := AV.u32) h2_0)) rfl)) (a_op (g_x rfl (x_p rfl (p_move rfl rfl) rfl)) (a_op (g_x rfl (x_p rfl (u_cutt (a := (0 : Int)) (b := (64 : Int)) rfl Tryd.underlying9 rfl bT_zero (bT_i (Int.le_trans (show 0 ≤ (0 : Int) ∧ (0 : Int) ≤ (64 : Int) ∧ (64 : Int) ≤ (s1_0.length : Int) from ⟨Int.le_refl _, h2.1, h2.2⟩).1 (show 0 ≤ (0 : Int) ∧ (0 : Int) ≤ (64 : Int) ∧ (64 : Int) ≤ (s1_0.length : Int) from ⟨Int.le_refl _, h2.1, h2.2⟩).2.1) rfl) (show 0 ≤ (0 : Int) ∧ (0 : Int) ≤ (64 : Int) ∧ (64 : Int) ≤ (s1_0.length : Int) from ⟨Int.le_refl _, h2.1, h2.2⟩)) rfl)) (a_nil)))) ?_
      refine t_op rfl rfl (PureD.opD (p_callp rfl rfl rfl Tryd.func96 rfl rfl (g_ref_block_ac h3) ⟨rfl, rfl, trivial⟩)) ?_
      refine t_op rfl rfl (u_st rfl rfl rfl rfl rfl in_93 (vmap_len (f := AV.u32) r'1) (ne_of_lt (n := 0) (Nat.lt_of_lt_of_eq (by decide) (Eq.symm (vmap_len (f := AV.u32) h2_0)))) (Upd.refl ((vmap_len (f := AV.u32) r'1).trans (vmap_len (f := AV.u32) h2_0).symm))) ?_
      refine t_gho (Gho_st (L := [(1, .t s1_0), (2, .q 2 (0)), (4, .q 4 (0))]) (H := [(2, .pure (r'1.toList.map AV.u32)), (4, .pure (((Vector.replicate 8 (0 : UInt32)).toList).map AV.u32))]) (N := 15) rfl ⟨TLes.same _, TLes.same _, TLes.same _, trivial⟩ ⟨rfl, rfl, trivial⟩) ?_
      refine AW2_reg [0, 1, 2] rfl ?_
      refine rp rfl rfl (p_move rfl rfl) ?_
      refine chkK H fun h4 H => ?_
      refine rp rfl rfl (u_cutt (a := (64 : Int)) (b := (s1_0.length : Int)) rfl Tryd.underlying9 rfl (bT_i (show 0 ≤ (64 : Int) ∧ (64 : Int) ≤ (s1_0.length : Int) ∧ (s1_0.length : Int) ≤ (s1_0.length : Int) from ⟨h4.1, h4.2, Int.le_refl _⟩).1 rfl) (bT_len _) (show 0 ≤ (64 : Int) ∧ (64 : Int) ≤ (s1_0.length : Int) ∧ (s1_0.length : Int) ≤ (s1_0.length : Int) from ⟨h4.1, h4.2, Int.le_refl _⟩)) ?_
      refine rp rfl rfl (p_asg rfl rfl) ?_
      refine rz [(1, .t (cut s1_0 (64 : Int) (s1_0.length : Int))), (2, .q 2 (0)), (4, .q 4 (0))] [(2, .pure (r'1.toList.map AV.u32)), (4, .pure (((Vector.replicate 8 (0 : UInt32)).toList).map AV.u32))] rfl rfl rfl ?_
      have hz := some_elim H
      subst hz
      exact ⟨rfl, rfl⟩
    · replace H := ite_else h1 H
      refine as2 [(2, .q 2 (0)), (4, .q 4 (0))] [(2, .pure (h2_0.toList.map AV.u32)), (4, .pure (((Vector.replicate 8 (0 : UInt32)).toList).map AV.u32))] rfl rfl rfl ?_
      refine AW2_exit ?_
      refine thenQ2_exit ?_
      have hz := some_elim H
      subst hz
      exact ⟨rfl, rfl⟩
  · obtain ⟨rfl, rfl⟩ := hs
    refine ⟨by simp, ?_⟩
    refine blockQ2_exit ?_
    refine sg [0, 1] rfl ?_
    refine rp rfl rfl (u_lda rfl rfl Tryd.underlying93 rfl in_93 rfl (Nat.succ_pos _) (Sub.refl _) (vmap_len (f := AV.u32) y'5)) ?_
    refine r_op rfl rfl (u_st rfl rfl rfl rfl rfl in_93 (vmap_len (f := AV.u32) y'5) (ne_of_lt (n := 0) (Nat.lt_of_lt_of_eq (by decide) (Eq.symm (vmap_len (f := AV.u32) (Vector.replicate 8 (0 : UInt32)))))) (Upd.refl ((vmap_len (f := AV.u32) y'5).trans (vmap_len (f := AV.u32) (Vector.replicate 8 (0 : UInt32))).symm))) ?_
    refine rz [(4, .q 4 (0))] [(4, .pure (y'5.toList.map AV.u32))] rfl rfl rfl ?_
    refine AW2_ret ?_
    have hz := some_elim H
    subst hz
    exact ⟨⟨res_cella Tryd.underlying93 rfl in_93.sz rfl (Sub.le (Sub.refl _) (vmap_len (f := AV.u32) y'5)) (by decide) (Sub.take (Sub.refl _) (vmap_len (f := AV.u32) y'5)), trivial⟩, trivial⟩

/-! chirographref.Added -/
noncomputable def g_ref_Added_l0 (rest8'5 : List UInt8) : Int × GStream → Option ((Int × GStream) ⊕ (GStream))
  | (i9_0, out7_0) => (if i9_0 < (rest8'5.length : Int) then if 0 ≤ i9_0 ∧ i9_0 < (rest8'5.length : Int) then if 0 ≤ i9_0 ∧ i9_0 < (64 : Int) then letO ({ out7_0 with Held := (vwr out7_0.Held i9_0.toNat (lrd rest8'5 i9_0.toNat)) }) fun out7'6 => some (.inl (w64 (i9_0 + (1 : Int)), out7'6)) else none else none else some (.inr out7_0))
noncomputable def g_ref_Added (s0 : GStream) (b1 : List UInt8) : Option (GStream × Int) :=
  (g_ref_badStream s0).bind fun r'1 => (if r'1 = true then some (GStream.zero, (11 : Int)) else (if s0.Len > w64 ((1152921504606846976 : Int) - (b1.length : Int)) then some (GStream.zero, (1 : Int)) else (g_ref_heldOf s0).bind fun r'2 => if r'2.length + b1.length ≤ 9223372036854775807 then (g_ref_blocks s0.H (r'2 ++ b1)).bind fun r'3 => letO ({ { GStream.zero with H := r'3 } with Len := w64 (s0.Len + (b1.length : Int)) }) fun out7'4 => if 0 ≤ w64 (((r'2 ++ b1).length : Int) - (((r'2 ++ b1).length : Int).tmod (64 : Int))) ∧ w64 (((r'2 ++ b1).length : Int) - (((r'2 ++ b1).length : Int).tmod (64 : Int))) ≤ ((r'2 ++ b1).length : Int) then letO ((cut (r'2 ++ b1) (w64 (((r'2 ++ b1).length : Int) - (((r'2 ++ b1).length : Int).tmod (64 : Int)))) ((r'2 ++ b1).length : Int))) fun rest8'5 => (loopO (g_ref_Added_l0 rest8'5) ((0 : Int), { out7'4 with N := (rest8'5.length : Int) })).bind fun y'10 => some (y'10, (0 : Int)) else none else none))
set_option maxHeartbeats 4000000 in
set_option maxRecDepth 100000 in
theorem g_ref_Added_ac {s0 : GStream} {b1 : List UInt8} {r : GStream × Int} (H : g_ref_Added s0 b1 = some r) : ACp Tryd.prog 85 [(.agg (GStream.cs s0)), (AV.bytes b1)] (.tup [(.agg (GStream.cs r.1)), (AV.int r.2)]) := by
  refine ACp_of (AC2_of_body (vs := [.g (GStream.cs r.1), .i r.2]) Tryd.func85 rfl rfl (Nat.le_of_ble_eq_true rfl) rfl ?_) (fun _ => .same _)
  unfold g_ref_Added at H
  refine as2 [(0, .g (GStream.cs s0)), (1, .y b1)] [] rfl rfl rfl ?_
  refine sg [0, 1, 2] rfl ?_
  refine r_op rfl rfl (MakeD.opD (n_box 2 rfl rfl) rfl rfl rfl rfl) ?_
  refine r_op rfl rfl (MakeD.opD (u_alloc 4 rfl in_96 one_96 zc_96) rfl rfl rfl rfl) ?_
  refine rp rfl rfl (p_asg rfl rfl) ?_
  refine rz [(1, .y b1), (2, .q 2 (0)), (4, .q 4 (0))] [(2, .pure (GStream.cs s0)), (4, .pure (GStream.cs GStream.zero))] rfl rfl rfl ?_
  refine AW2_seq ?_
  refine sg [0, 1] rfl ?_
  refine rp rfl rfl (u_lda rfl rfl Tryd.underlying96 rfl in_96 rfl (Nat.succ_pos _) (Sub.refl _) (GStream.len s0)) ?_
  refine bindK H fun r'1 h1 H => ?_
  refine rp rfl rfl (p_callp rfl rfl rfl Tryd.func91 rfl rfl (g_ref_badStream_ac h1) ⟨rfl, trivial⟩) ?_
  refine rz [(1, .y b1), (2, .q 2 (0)), (4, .q 4 (0)), (11, .b r'1)] [(2, .pure (GStream.cs s0)), (4, .pure (GStream.cs GStream.zero))] rfl rfl rfl ?_
  refine AW2_cond rfl (fun h2 => ?_) (fun h2 => ?_)
  · replace H := ite_then h2 H
    refine sg [0, 1, 2] rfl ?_
    refine rp rfl rfl (u_bld rfl in_96 one_96 zc_96 pl_96 rfl rfl) ?_
    refine r_op rfl rfl (u_st rfl rfl rfl rfl rfl in_96 (GStream.len GStream.zero) (ne_of_lt (n := 0) (Nat.lt_of_lt_of_eq (by decide) (Eq.symm (GStream.len GStream.zero)))) (Upd.refl ((GStream.len GStream.zero).trans (GStream.len GStream.zero).symm))) ?_
    refine rp rfl rfl (p_asg rfl rfl) ?_
    refine rz [(4, .q 4 (0)), (5, .i (11 : Int))] [(4, .pure (GStream.cs GStream.zero))] rfl rfl rfl ?_
    refine AW2_ret ?_
    have hz := some_elim H
    subst hz
    exact ⟨⟨res_cella Tryd.underlying96 rfl in_96.sz rfl (Sub.le (Sub.refl _) (GStream.len GStream.zero)) (by decide) (Sub.take (Sub.refl _) (GStream.len GStream.zero)), res_tmp (.same _), trivial⟩, trivial⟩
  · replace H := ite_else (ne_true h2) H
    refine as2 [(1, .y b1), (2, .q 2 (0)), (4, .q 4 (0))] [(2, .pure (GStream.cs s0)), (4, .pure (GStream.cs GStream.zero))] rfl rfl rfl ?_
    refine AW2_skip ?_
    refine AW2_seq ?_
    refine sg [0, 1, 2, 3, 4, 5] rfl ?_
    refine rp rfl rfl (u_fa rfl rfl Tryd.underlying96 rfl in_3 (Nat.succ_ne_zero _) rfl rfl (ne_of_lt (n := 0) (Nat.lt_of_lt_of_eq (by decide) (Eq.symm (GStream.len s0))))) ?_
    refine rp rfl rfl (u_ld rfl rfl Tryd.underlying3 rfl rfl ((Sub.refl _).trans (GStream.sub3 s0))) ?_
    refine rp rfl rfl (p_move rfl rfl) ?_
    refine rp rfl rfl (p_lenl rfl Tryd.underlying22 rfl rfl) ?_
    refine rp rfl rfl (p_bin rfl rfl rfl rfl) ?_
    refine rp rfl rfl (p_bin rfl rfl rfl rfl) ?_
    refine rz [(1, .y b1), (2, .q 2 (0)), (4, .q 4 (0)), (18, .b (decide (s0.Len > w64 ((1152921504606846976 : Int) - (b1.length : Int)))))] [(2, .pure (GStream.cs s0)), (4, .pure (GStream.cs GStream.zero))] rfl rfl rfl ?_
    refine AW2_if (p := s0.Len > w64 ((1152921504606846976 : Int) - (b1.length : Int))) rfl (fun h3 => ?_) (fun h3 => ?_)
    · replace H := ite_then h3 H
      refine sg [0, 1, 2] rfl ?_
      refine rp rfl rfl (u_bld rfl in_96 one_96 zc_96 pl_96 rfl rfl) ?_
      refine r_op rfl rfl (u_st rfl rfl rfl rfl rfl in_96 (GStream.len GStream.zero) (ne_of_lt (n := 0) (Nat.lt_of_lt_of_eq (by decide) (Eq.symm (GStream.len GStream.zero)))) (Upd.refl ((GStream.len GStream.zero).trans (GStream.len GStream.zero).symm))) ?_
      refine rp rfl rfl (p_asg rfl rfl) ?_
      refine rz [(4, .q 4 (0)), (5, .i (1 : Int))] [(4, .pure (GStream.cs GStream.zero))] rfl rfl rfl ?_
      refine AW2_ret ?_
      have hz := some_elim H
      subst hz
      exact ⟨⟨res_cella Tryd.underlying96 rfl in_96.sz rfl (Sub.le (Sub.refl _) (GStream.len GStream.zero)) (by decide) (Sub.take (Sub.refl _) (GStream.len GStream.zero)), res_tmp (.same _), trivial⟩, trivial⟩
    · replace H := ite_else h3 H
      refine as2 [(1, .y b1), (2, .q 2 (0)), (4, .q 4 (0))] [(2, .pure (GStream.cs s0)), (4, .pure (GStream.cs GStream.zero))] rfl rfl rfl ?_
      refine AW2_skip ?_
      refine AW2_seq ?_
      refine bindK H fun r'2 h4 H => ?_
      refine chkK H fun h5 H => ?_
      refine AW2_ghoQ ?_
      refine AW2_draw 4 [4, 5] (fun k => ([.g (GStream.cs s0), .t r'2, .y b1, .t b1] : List TV).getD k TV.any) (fun k => ([[(2, none)], [(20, some 0)], [(1, none)], [(22, some 2)]] : List (List (Nat × Option Nat))).getD k []) [(1, none), (2, none), (4, none), (21, some 1), (23, some 3)] [] (fun k => ([[], [0], [], [2], [0, 1, 2, 3], [0, 1, 2, 3, 4]] : List (List Nat)).getD k []) mixed (by kernel_rfl) rfl rfl (a_op (g_x rfl (x_p rfl (u_lda rfl rfl Tryd.underlying96 rfl in_96 rfl (Nat.succ_pos _) (Sub.refl _) (GStream.len s0)) rfl)) (a_op (g_x rfl (x_p rfl (p_callp rfl rfl rfl Tryd.func92 rfl rfl (g_ref_heldOf_ac h4) ⟨rfl, trivial⟩) rfl)) (a_op (g_x rfl (x_p rfl (p_move rfl rfl) rfl)) (a_op (g_x rfl (x_p rfl (p_cb rfl rfl Tryd.underlying22 Tryd.underlying5 Tryd.underlying9 rfl) rfl)) (a_nil))))) ?_
      refine t_op rfl rfl (PureD.opD (p_cat rfl rfl rfl h5)) ?_
      refine t_op rfl rfl (PureD.opD (p_asg rfl rfl)) ?_
      refine t_gho (Gho_st (L := [(1, .y b1), (2, .q 2 (0)), (4, .q 4 (0)), (6, .t (r'2 ++ b1))]) (H := [(2, .pure (GStream.cs s0)), (4, .pure (GStream.cs GStream.zero))]) (N := 59) rfl ⟨TLes.same _, TLes.same _, TLes.same _, TLes.same _, trivial⟩ ⟨rfl, rfl, trivial⟩) ?_
      refine AW2_seq ?_
      refine bindK H fun r'3 h6 H => ?_
      refine AW2_ghoQ ?_
      refine AW2_draw 11 [11] (fun k => ([.q 2 (0 + 0), .g (s0.H.toList.map AV.u32), .t (r'2 ++ b1), .g (r'3.toList.map AV.u32), .q 2 (0 + 73), .i s0.Len, .y b1, .i (b1.length : Int), .i (w64 (s0.Len + (b1.length : Int))), .g (GStream.cs ({ { GStream.zero with H := r'3 } with Len := w64 (s0.Len + (b1.length : Int)) })), .q 7 (0)] : List TV).getD k TV.any) (fun k => ([[(2, none)], [(25, some 0)], [(6, none)], [(26, some 1), (27, some 2)], [(2, none)], [(29, some 4)], [(1, none)], [(31, some 6)], [(30, some 5), (32, some 7)], [(28, some 3), (33, some 8)], []] : List (List (Nat × Option Nat))).getD k []) [(4, none), (6, none), (7, some 10), (34, some 9)] [(10, 7, (GStream.cs GStream.zero))] (fun k => ([[], [0], [], [0, 1, 2], [], [4], [], [6], [4, 5, 6, 7], [0, 1, 2, 3, 4, 5, 6, 7, 8], [], [0, 1, 2, 3, 4, 5, 6, 7, 8, 9, 10]] : List (List Nat)).getD k []) mixed (by kernel_rfl) rfl rfl (a_op (g_x rfl (x_p rfl (u_fa rfl rfl Tryd.underlying96 rfl in_93 (Nat.succ_ne_zero _) rfl rfl (ne_of_lt (n := 0) (Nat.lt_of_lt_of_eq (by decide) (Eq.symm (GStream.len s0))))) rfl)) (a_op (g_x rfl (x_p rfl (u_lda rfl rfl Tryd.underlying93 rfl in_93 rfl (Nat.succ_pos _) ((Sub.refl _).trans (GStream.sub0 s0)) (vmap_len (f := AV.u32) s0.H)) rfl)) (a_op (g_x rfl (x_p rfl (p_move rfl rfl) rfl)) (a_op (g_x rfl (x_p rfl (p_callp rfl rfl rfl Tryd.func93 rfl rfl (g_ref_blocks_ac h6) ⟨rfl, rfl, trivial⟩) rfl)) (a_op (g_x rfl (x_p rfl (u_fa rfl rfl Tryd.underlying96 rfl in_3 (Nat.succ_ne_zero _) rfl rfl (ne_of_lt (n := 0) (Nat.lt_of_lt_of_eq (by decide) (Eq.symm (GStream.len s0))))) rfl)) (a_op (g_x rfl (x_p rfl (u_ld rfl rfl Tryd.underlying3 rfl rfl ((Sub.refl _).trans (GStream.sub3 s0))) rfl)) (a_op (g_x rfl (x_p rfl (p_move rfl rfl) rfl)) (a_op (g_x rfl (x_p rfl (p_lenl rfl Tryd.underlying22 rfl rfl) rfl)) (a_op (g_x rfl (x_p rfl (p_bin rfl rfl rfl rfl) rfl)) (a_op (g_x rfl (x_p rfl (u_bld rfl in_96 one_96 zc_96 pl_96 rfl (af_cons rfl (vmap_len (f := AV.u32) r'3) (GStream.upd0 GStream.zero r'3) (af_cons rfl rfl (GStream.upd3 ({ GStream.zero with H := r'3 }) (w64 (s0.Len + (b1.length : Int)))) rfl))) rfl)) (a_op (g_x rfl (x_m rfl (u_alloc 7 rfl in_96 one_96 zc_96) rfl rfl)) (a_nil)))))))))))) ?_
      refine t_op rfl rfl (u_st rfl rfl rfl rfl rfl in_96 (GStream.len ({ { GStream.zero with H := r'3 } with Len := w64 (s0.Len + (b1.length : Int)) })) (ne_of_lt (n := 0) (Nat.lt_of_lt_of_eq (by decide) (Eq.symm (GStream.len GStream.zero)))) (Upd.refl ((GStream.len ({ { GStream.zero with H := r'3 } with Len := w64 (s0.Len + (b1.length : Int)) })).trans (GStream.len GStream.zero).symm))) ?_
      refine t_gho (Gho_st (L := [(4, .q 4 (0)), (6, .t (r'2 ++ b1)), (7, .q 7 (0))]) (H := [(4, .pure (GStream.cs GStream.zero)), (7, .pure (GStream.cs ({ { GStream.zero with H := r'3 } with Len := w64 (s0.Len + (b1.length : Int)) })))]) (N := 59) rfl ⟨TLes.same _, TLes.same _, TLes.same _, trivial⟩ ⟨rfl, rfl, trivial⟩) ?_
      refine gen1 (fun out7'4 => (⟨[(4, .q 4 (0)), (6, .t (r'2 ++ b1)), (7, .q 7 (0))], [(4, .pure (GStream.cs GStream.zero)), (7, .pure (GStream.cs out7'4))], 59⟩ : TS)) H ?_
      intro out7'4 H
      refine sg [0, 1, 2, 3, 4, 5, 6, 7, 8] rfl ?_
      refine rp rfl rfl (p_move rfl rfl) ?_
      refine rp rfl rfl (p_move rfl rfl) ?_
      refine rp rfl rfl (p_lent rfl Tryd.underlying9 rfl) ?_
      refine rp rfl rfl (p_move rfl rfl) ?_
      refine rp rfl rfl (p_lent rfl Tryd.underlying9 rfl) ?_
      refine rp rfl rfl (p_irem rfl rfl rfl (by decide)) ?_
      refine rp rfl rfl (p_bin rfl rfl rfl rfl) ?_
      refine chkK H fun h7 H => ?_
      refine rp rfl rfl (u_cutt (a := w64 (((r'2 ++ b1).length : Int) - (((r'2 ++ b1).length : Int).tmod (64 : Int)))) (b := ((r'2 ++ b1).length : Int)) rfl Tryd.underlying9 rfl (bT_i (show 0 ≤ w64 (((r'2 ++ b1).length : Int) - (((r'2 ++ b1).length : Int).tmod (64 : Int))) ∧ w64 (((r'2 ++ b1).length : Int) - (((r'2 ++ b1).length : Int).tmod (64 : Int))) ≤ ((r'2 ++ b1).length : Int) ∧ ((r'2 ++ b1).length : Int) ≤ ((r'2 ++ b1).length : Int) from ⟨h7.1, h7.2, Int.le_refl _⟩).1 rfl) (bT_len _) (show 0 ≤ w64 (((r'2 ++ b1).length : Int) - (((r'2 ++ b1).length : Int).tmod (64 : Int))) ∧ w64 (((r'2 ++ b1).length : Int) - (((r'2 ++ b1).length : Int).tmod (64 : Int))) ≤ ((r'2 ++ b1).length : Int) ∧ ((r'2 ++ b1).length : Int) ≤ ((r'2 ++ b1).length : Int) from ⟨h7.1, h7.2, Int.le_refl _⟩)) ?_
      refine rp rfl rfl (p_asg rfl rfl) ?_
      refine rz [(4, .q 4 (0)), (7, .q 7 (0)), (8, .t (cut (r'2 ++ b1) (w64 (((r'2 ++ b1).length : Int) - (((r'2 ++ b1).length : Int).tmod (64 : Int)))) ((r'2 ++ b1).length : Int)))] [(4, .pure (GStream.cs GStream.zero)), (7, .pure (GStream.cs out7'4))] rfl rfl rfl ?_
      refine gen1 (fun rest8'5 => (⟨[(4, .q 4 (0)), (7, .q 7 (0)), (8, .t rest8'5)], [(4, .pure (GStream.cs GStream.zero)), (7, .pure (GStream.cs out7'4))], 59⟩ : TS)) H ?_
      intro rest8'5 H
      refine sg [0, 1, 2, 3] rfl ?_
      refine rp rfl rfl (p_move rfl rfl) ?_
      refine rp rfl rfl (p_lent rfl Tryd.underlying9 rfl) ?_
      refine rp rfl rfl (u_fa rfl rfl Tryd.underlying96 rfl in_3 (Nat.succ_ne_zero _) rfl rfl (ne_of_lt (n := 0) (Nat.lt_of_lt_of_eq (by decide) (Eq.symm (GStream.len out7'4))))) ?_
      refine r_op rfl rfl (u_st rfl rfl rfl rfl rfl in_3 rfl (ne_of_lt (n := 0) (Nat.lt_of_lt_of_eq (by decide) (Eq.symm (GStream.len out7'4)))) (Upd.trans (Sub.refl _) (GStream.upd2 out7'4 (rest8'5.length : Int)) (Upd.refl ((GStream.len ({ out7'4 with N := (rest8'5.length : Int) })).trans (GStream.len out7'4).symm)))) ?_
      refine rz [(4, .q 4 (0)), (7, .q 7 (0)), (8, .t rest8'5)] [(4, .pure (GStream.cs GStream.zero)), (7, .pure (GStream.cs ({ out7'4 with N := (rest8'5.length : Int) })))] rfl rfl rfl ?_
      refine AW2_seq ?_
      refine sg [0] rfl ?_
      refine rp rfl rfl (p_asg rfl rfl) ?_
      refine rz [(4, .q 4 (0)), (7, .q 7 (0)), (8, .t rest8'5), (9, .i (0 : Int))] [(4, .pure (GStream.cs GStream.zero)), (7, .pure (GStream.cs ({ out7'4 with N := (rest8'5.length : Int) })))] rfl rfl rfl ?_
      refine AW2_block ?_
      refine as2 [(4, .q 4 (0)), (7, .q 7 (0)), (8, .t rest8'5), (9, .i (0 : Int))] [(4, .pure (GStream.cs GStream.zero)), (7, .pure (GStream.cs ({ out7'4 with N := (rest8'5.length : Int) })))] rfl rfl rfl ?_
      refine bindK H fun y'10 h11 H => ?_
      refine AW2_loopO (fun a'7 : Int × GStream => (⟨[(4, .q 4 (0)), (7, .q 7 (0)), (8, .t rest8'5), (9, .i a'7.1)], [(4, .pure (GStream.cs GStream.zero)), (7, .pure (GStream.cs a'7.2))], 59⟩ : TS)) (fun (y'8 : GStream) e s' => e = Go.Exit.exit 0 ∧ s' = (⟨[(4, .q 4 (0)), (7, .q 7 (0))], [(4, .pure (GStream.cs GStream.zero)), (7, .pure (GStream.cs y'8))], 59⟩ : TS)) h11 rfl (fun a x hx => ?_) (fun e s' hs => ?_)
      · clear H
        obtain ⟨i9_0, out7_0⟩ := a
        have H := hx
        clear hx
        unfold g_ref_Added_l0 at H
        refine AW2_seq ?_
        refine sg [0, 1, 2, 3] rfl ?_
        refine rp rfl rfl (p_move rfl rfl) ?_
        refine rp rfl rfl (p_move rfl rfl) ?_
        refine rp rfl rfl (p_lent rfl Tryd.underlying9 rfl) ?_
        refine rp rfl rfl (p_bin rfl rfl rfl rfl) ?_
        refine rz [(4, .q 4 (0)), (7, .q 7 (0)), (8, .t rest8'5), (9, .i i9_0), (49, .b (decide (i9_0 < (rest8'5.length : Int))))] [(4, .pure (GStream.cs GStream.zero)), (7, .pure (GStream.cs out7_0))] rfl rfl rfl ?_
        refine AW2_if (p := i9_0 < (rest8'5.length : Int)) rfl (fun h8 => ?_) (fun h8 => ?_)
        · replace H := ite_then h8 H
          refine as2 [(4, .q 4 (0)), (7, .q 7 (0)), (8, .t rest8'5), (9, .i i9_0)] [(4, .pure (GStream.cs GStream.zero)), (7, .pure (GStream.cs out7_0))] rfl rfl rfl ?_
          refine AW2_skip ?_
          refine AW2_seq ?_
          refine AW2_block ?_
          refine AW2_reg [0, 1, 2, 3, 4, 5, 6] rfl ?_
          refine rp rfl rfl (p_move rfl rfl) ?_
          refine rp rfl rfl (p_move rfl rfl) ?_
          refine rp rfl rfl (p_move rfl rfl) ?_
          refine chkK H fun h9 H => ?_
          refine rp rfl rfl (p_ixt rfl Tryd.underlying9 rfl rfl (ixe h9) (lrd_get (ixn h9))) ?_
          refine rp rfl rfl (u_fa rfl rfl Tryd.underlying96 rfl in_94 (Nat.succ_ne_zero _) rfl rfl (ne_of_lt (n := 0) (Nat.lt_of_lt_of_eq (by decide) (Eq.symm (GStream.len out7_0))))) ?_
          refine chkK H fun h10 H => ?_
          refine rp rfl rfl (u_ixp rfl rfl Tryd.underlying94 in_5 rfl rfl (ne_of_lt (n := 0) (Nat.lt_of_lt_of_eq (by decide) (Eq.symm (GStream.len out7_0)))) rfl (ixe h10) (ixn h10)) ?_
          refine r_op rfl rfl (u_st rfl rfl rfl rfl rfl in_5 rfl (ne_of_lt (n := 0) (Nat.lt_of_lt_of_eq (by decide) (Eq.symm (GStream.len out7_0)))) (Upd.trans ((Sub.refl _).trans (GStream.sub1 out7_0)) (Upd.vmap (ixn h10)) (Upd.trans (Sub.refl _) (GStream.upd1 out7_0 (vwr out7_0.Held i9_0.toNat (lrd rest8'5 i9_0.toNat))) (Upd.refl ((GStream.len ({ out7_0 with Held := (vwr out7_0.Held i9_0.toNat (lrd rest8'5 i9_0.toNat)) })).trans (GStream.len out7_0).symm))))) ?_
          refine rz [(4, .q 4 (0)), (7, .q 7 (0)), (8, .t rest8'5), (9, .i i9_0)] [(4, .pure (GStream.cs GStream.zero)), (7, .pure (GStream.cs ({ out7_0 with Held := (vwr out7_0.Held i9_0.toNat (lrd rest8'5 i9_0.toNat)) })))] rfl rfl rfl ?_
          refine gen1 (fun out7'6 => (⟨[(4, .q 4 (0)), (7, .q 7 (0)), (8, .t rest8'5), (9, .i i9_0)], [(4, .pure (GStream.cs GStream.zero)), (7, .pure (GStream.cs out7'6))], 59⟩ : TS)) H ?_
          intro out7'6 H
          refine AW2_reg [0, 1, 2] rfl ?_
          refine rp rfl rfl (p_move rfl rfl) ?_
          refine rp rfl rfl (p_bin rfl rfl rfl rfl) ?_
          refine rp rfl rfl (p_asg rfl rfl) ?_
          refine rz [(4, .q 4 (0)), (7, .q 7 (0)), (8, .t rest8'5), (9, .i (w64 (i9_0 + (1 : Int))))] [(4, .pure (GStream.cs GStream.zero)), (7, .pure (GStream.cs out7'6))] rfl rfl rfl ?_
          have hz := some_elim H
          subst hz
          exact ⟨rfl, rfl⟩
        · replace H := ite_else h8 H
          refine as2 [(4, .q 4 (0)), (7, .q 7 (0))] [(4, .pure (GStream.cs GStream.zero)), (7, .pure (GStream.cs out7_0))] rfl rfl rfl ?_
          refine AW2_exit ?_
          refine thenQ2_exit ?_
          have hz := some_elim H
          subst hz
          exact ⟨rfl, rfl⟩
      · obtain ⟨rfl, rfl⟩ := hs
        refine ⟨by simp, ?_⟩
        refine blockQ2_exit ?_
        refine sg [0, 1, 2] rfl ?_
        refine rp rfl rfl (u_lda rfl rfl Tryd.underlying96 rfl in_96 rfl (Nat.succ_pos _) (Sub.refl _) (GStream.len y'10)) ?_
        refine r_op rfl rfl (u_st rfl rfl rfl rfl rfl in_96 (GStream.len y'10) (ne_of_lt (n := 0) (Nat.lt_of_lt_of_eq (by decide) (Eq.symm (GStream.len GStream.zero)))) (Upd.refl ((GStream.len y'10).trans (GStream.len GStream.zero).symm))) ?_
        refine rp rfl rfl (p_asg rfl rfl) ?_
        refine rz [(4, .q 4 (0)), (5, .i (0 : Int))] [(4, .pure (GStream.cs y'10))] rfl rfl rfl ?_
        refine AW2_ret ?_
        have hz := some_elim H
        subst hz
        exact ⟨⟨res_cella Tryd.underlying96 rfl in_96.sz rfl (Sub.le (Sub.refl _) (GStream.len y'10)) (by decide) (Sub.take (Sub.refl _) (GStream.len y'10)), res_tmp (.same _), trivial⟩, trivial⟩
end Go.Proofs.YtkaeboabpahemaaDoor.VM
