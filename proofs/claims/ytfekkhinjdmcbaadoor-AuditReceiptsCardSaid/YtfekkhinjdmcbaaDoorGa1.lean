/- Functions of the program, as they answer, and that their code comes to these answers. -/
import Derived.Test.YtfekkhinjdmcbaaDoorGa0
namespace Go.Proofs.YtfekkhinjdmcbaaDoor.VM
open Go Go.RowKit

theorem in_52 : Info Tryd.prog 52 3 56 (.agg #[.bool false, .slice none 0 0, .slice none 0 0]) := by unfold Info; kernel_rfl
theorem one_52 : (.agg #[.bool false, .slice none 0 0, .slice none 0 0] : Value).cells.all (·.oneCell') = true := by kernel_rfl
theorem zc_52 : ((.agg #[.bool false, .slice none 0 0, .slice none 0 0] : Value).cells.toList.map zcell) = GSlot.cs GSlot.zero := by rfl
theorem pl_52 : placesOf Tryd.prog 52 = some [(0, 1), (1, 1), (2, 1)] := by kernel_rfl

/-! audit.Entry -/
noncomputable def g_audit_Entry (mode0 : Int) (state1 : List UInt8) (s2 : GSlot) : Option ((List UInt8) × Int) :=
  (g_slots_Leaf mode0 s2).bind fun r'1 => (if r'1.2 ≠ (0 : Int) then some ([], r'1.2) else (g_oracle_Digest mode0 (8 : Int) ([state1, r'1.1] : List (List UInt8))).bind fun r'2 => some (r'2.1, r'2.2))
set_option maxHeartbeats 4000000 in
set_option maxRecDepth 100000 in
theorem g_audit_Entry_ac {mode0 : Int} {state1 : List UInt8} {s2 : GSlot} {r : (List UInt8) × Int} (H : g_audit_Entry mode0 state1 s2 = some r) : ACp Tryd.prog 36 [(AV.int mode0), (AV.bytes state1), (.agg (GSlot.cs s2))] (.tup [(AV.bytes r.1), (AV.int r.2)]) := by
  refine ACp_of (AC2_of_body (vs := [.y r.1, .i r.2]) Tryd.func36 rfl rfl (Nat.le_of_ble_eq_true rfl) rfl ?_) (fun _ => .same _)
  unfold g_audit_Entry at H
  refine as2 [(0, .i mode0), (1, .y state1), (2, .g (GSlot.cs s2))] [] rfl rfl rfl ?_
  refine sg [0, 1, 2] rfl ?_
  refine r_op rfl rfl (MakeD.opD (n_box 5 rfl rfl) rfl rfl rfl rfl) ?_
  refine rp rfl rfl (p_asgn rfl) ?_
  refine rp rfl rfl (p_asg rfl rfl) ?_
  refine rz [(0, .i mode0), (1, .y state1), (5, .q 5 (0))] [(5, .pure (GSlot.cs s2))] rfl rfl rfl ?_
  refine sg [0, 1, 2, 3, 4, 5, 6, 7] rfl ?_
  refine rp rfl rfl (p_move rfl rfl) ?_
  refine rp rfl rfl (u_lda rfl rfl Tryd.underlying52 rfl in_52 rfl (Nat.succ_pos _) (Sub.refl _) (GSlot.len s2)) ?_
  refine bindK H fun r'1 h1 H => ?_
  refine rp rfl rfl (p_callp rfl rfl rfl Tryd.func63 rfl rfl (g_slots_Leaf_ac h1) ⟨rfl, rfl, trivial⟩) ?_
  refine rp rfl rfl (p_move rfl rfl) ?_
  refine rp rfl rfl (p_ext rfl rfl rfl rfl) ?_
  refine rp rfl rfl (p_ext rfl rfl rfl rfl) ?_
  refine rp rfl rfl (p_asg rfl rfl) ?_
  refine rp rfl rfl (p_asg rfl rfl) ?_
  refine rz [(0, .i mode0), (1, .y state1), (8, .y r'1.1), (9, .i r'1.2)] [] rfl rfl rfl ?_
  refine AW2_seq ?_
  refine sg [0, 1] rfl ?_
  refine rp rfl rfl (p_move rfl rfl) ?_
  refine rp rfl rfl (p_ine rfl rfl rfl) ?_
  refine rz [(0, .i mode0), (1, .y state1), (8, .y r'1.1), (9, .i r'1.2), (17, .b (decide (r'1.2 ≠ (0 : Int))))] [] rfl rfl rfl ?_
  refine AW2_if (p := r'1.2 ≠ (0 : Int)) rfl (fun h2 => ?_) (fun h2 => ?_)
  · replace H := ite_then h2 H
    refine sg [0, 1, 2] rfl ?_
    refine rp rfl rfl (p_move rfl rfl) ?_
    refine rp rfl rfl (p_asgn rfl) ?_
    refine rp rfl rfl (p_asg rfl rfl) ?_
    refine rz [(6, .p .nil), (7, .i r'1.2)] [] rfl rfl rfl ?_
    refine AW2_ret ?_
    have hz := some_elim H
    subst hz
    exact ⟨⟨res_tmp TLes.nil0, res_tmp (.same _), trivial⟩, trivial⟩
  · replace H := ite_else h2 H
    refine as2 [(0, .i mode0), (1, .y state1), (8, .y r'1.1)] [] rfl rfl rfl ?_
    refine AW2_skip ?_
    refine sg [0, 1, 2, 3, 4, 5, 6, 7, 8] rfl ?_
    refine rp rfl rfl (p_move rfl rfl) ?_
    refine rp rfl rfl (p_move rfl rfl) ?_
    refine rp rfl rfl (p_move rfl rfl) ?_
    refine r_op rfl rfl (MakeD.opD (u_bs 22 rfl Tryd.underlying53 in_33 rfl one_33 (by decide) (by decide) rfl rfl rfl) rfl rfl rfl rfl) ?_
    refine RunW_st [(0, .i mode0), (1, .y state1), (8, .y r'1.1), (19, .i mode0), (20, .y state1), (21, .y r'1.1), (22, .c (.own 22 ([state1, r'1.1] : List (List UInt8)).length 1))] [(22, .pure (([state1, r'1.1] : List (List UInt8)).map AV.bytes))] rfl ⟨TLes.same _, TLes.same _, TLes.same _, TLes.same _, TLes.same _, TLes.same _, TLes.own rfl, trivial⟩ ⟨rfl, trivial⟩ ?_
    refine RunW_gho (Gho_pubs [22] ⟨rfl, trivial⟩ rfl (ml AV.bytes ([state1, r'1.1] : List (List UInt8))) (by decide)) ?_
    refine bindK H fun r'2 h3 H => ?_
    refine rp rfl rfl (p_callp rfl rfl rfl Tryd.func61 rfl rfl (g_oracle_Digest_ac h3) ⟨rfl, rfl, rfl, trivial⟩) ?_
    refine rp rfl rfl (p_ext rfl rfl rfl rfl) ?_
    refine rp rfl rfl (p_ext rfl rfl rfl rfl) ?_
    refine rp rfl rfl (p_asg rfl rfl) ?_
    refine rp rfl rfl (p_asg rfl rfl) ?_
    refine rz [(6, .y r'2.1), (7, .i r'2.2)] [] rfl rfl rfl ?_
    refine AW2_ret ?_
    have hz := some_elim H
    subst hz
    exact ⟨⟨res_tmp (.same _), res_tmp (.same _), trivial⟩, trivial⟩

/-! roll.modes -/
noncomputable def g_roll_modes (mode0 : Int) : Option (Bool) :=
  some (decide ((mode0 = (1 : Int)) ∨ (mode0 = (2 : Int))))
set_option maxHeartbeats 4000000 in
set_option maxRecDepth 100000 in
theorem g_roll_modes_ac {mode0 : Int} {r : Bool} (H : g_roll_modes mode0 = some r) : ACp Tryd.prog 77 [(AV.int mode0)] (AV.bool r) := by
  refine ACp_of (AC2_of_body (vs := [.b r]) Tryd.func77 rfl rfl (Nat.le_of_ble_eq_true rfl) rfl ?_) (fun _ => .same _)
  unfold g_roll_modes at H
  refine as2 [(0, .i mode0)] [] rfl rfl rfl ?_
  refine sg [0] rfl ?_
  refine rp rfl rfl (p_asg rfl rfl) ?_
  refine rz [(0, .i mode0)] [] rfl rfl rfl ?_
  refine AW2_seq ?_
  refine AW2_mid (⟨[(2, .b (decide ((mode0 = (1 : Int)) ∨ (mode0 = (2 : Int)))))], [], 9⟩ : TS) ?_ ?_
  · refine AW2_reg [0, 1, 2, 3, 4, 5, 6] rfl ?_
    refine rp rfl rfl (p_move rfl rfl) ?_
    refine rp rfl rfl (p_ieq rfl rfl rfl) ?_
    refine rp rfl rfl (p_move rfl rfl) ?_
    refine (Classical.em (mode0 = (1 : Int))).elim (fun h1 => ?_) (fun h1 => ?_)
    · refine r_off rfl rfl rfl rfl (decide_eq_true (p := mode0 = (1 : Int)) h1) rfl rfl ?_
      refine r_off rfl rfl rfl rfl (decide_eq_true (p := mode0 = (1 : Int)) h1) rfl rfl ?_
      refine rp rfl rfl (p_pkt rfl rfl (decide_eq_true (p := mode0 = (1 : Int)) h1) (tb (decide_eq_true (p := (mode0 = (1 : Int)) ∨ (mode0 = (2 : Int))) (Or.inl h1)).symm)) ?_
      refine rp rfl rfl (p_asg rfl rfl) ?_
      refine rs [(2, .b (decide ((mode0 = (1 : Int)) ∨ (mode0 = (2 : Int)))))] [] rfl rfl rfl ?_
      exact RunW_nil rfl
    · refine r_on rfl rfl rfl rfl (decide_eq_false (p := mode0 = (1 : Int)) h1) rfl (PureD.opD (p_move rfl rfl)) ?_
      refine r_on rfl rfl rfl rfl (decide_eq_false (p := mode0 = (1 : Int)) h1) rfl (PureD.opD (p_ieq rfl rfl rfl)) ?_
      refine rp rfl rfl (p_pkf rfl rfl (decide_eq_false (p := mode0 = (1 : Int)) h1) (tb ((or_l (p := mode0 = (1 : Int)) (q := mode0 = (2 : Int)) h1)))) ?_
      refine rp rfl rfl (p_asg rfl rfl) ?_
      refine rs [(2, .b (decide ((mode0 = (1 : Int)) ∨ (mode0 = (2 : Int)))))] [] rfl rfl rfl ?_
      exact RunW_nil rfl
  · refine AW2_ret ?_
    have hz := some_elim H
    subst hz
    exact ⟨⟨res_tmp (.same _), trivial⟩, trivial⟩

/-! roll.half -/
noncomputable def g_roll_half_l0 (n0 : Int) : Int → Option (Int ⊕ (Int))
  | k3_0 => (if w64 ((2 : Int) * k3_0) < n0 then some (.inl (w64 (k3_0 * (2 : Int)))) else some (.inr k3_0))
noncomputable def g_roll_half (n0 : Int) : Option (Int) :=
  (loopO (g_roll_half_l0 n0) (1 : Int)).bind fun y'4 => some y'4
set_option maxHeartbeats 4000000 in
set_option maxRecDepth 100000 in
theorem g_roll_half_ac {n0 : Int} {r : Int} (H : g_roll_half n0 = some r) : ACp Tryd.prog 88 [(AV.int n0)] (AV.int r) := by
  refine ACp_of (AC2_of_body (vs := [.i r]) Tryd.func88 rfl rfl (Nat.le_of_ble_eq_true rfl) rfl ?_) (fun _ => .same _)
  unfold g_roll_half at H
  refine as2 [(0, .i n0)] [] rfl rfl rfl ?_
  refine sg [0] rfl ?_
  refine rp rfl rfl (p_asg rfl rfl) ?_
  refine rz [(0, .i n0)] [] rfl rfl rfl ?_
  refine sg [0] rfl ?_
  refine rp rfl rfl (p_asg rfl rfl) ?_
  refine rz [(0, .i n0), (3, .i (1 : Int))] [] rfl rfl rfl ?_
  refine AW2_seq ?_
  refine AW2_block ?_
  refine as2 [(0, .i n0), (3, .i (1 : Int))] [] rfl rfl rfl ?_
  refine bindK H fun y'4 h2 H => ?_
  refine AW2_loopO (fun a'1 : Int => (⟨[(0, .i n0), (3, .i a'1)], [], 11⟩ : TS)) (fun (y'2 : Int) e s' => e = Go.Exit.exit 0 ∧ s' = (⟨[(3, .i y'2)], [], 11⟩ : TS)) h2 rfl (fun k3_0 x hx => ?_) (fun e s' hs => ?_)
  · clear H
    have H := hx
    clear hx
    unfold g_roll_half_l0 at H
    refine AW2_seq ?_
    refine sg [0, 1, 2, 3] rfl ?_
    refine rp rfl rfl (p_move rfl rfl) ?_
    refine rp rfl rfl (p_bin rfl rfl rfl rfl) ?_
    refine rp rfl rfl (p_move rfl rfl) ?_
    refine rp rfl rfl (p_bin rfl rfl rfl rfl) ?_
    refine rz [(0, .i n0), (3, .i k3_0), (7, .b (decide (w64 ((2 : Int) * k3_0) < n0)))] [] rfl rfl rfl ?_
    refine AW2_if (p := w64 ((2 : Int) * k3_0) < n0) rfl (fun h1 => ?_) (fun h1 => ?_)
    · replace H := ite_then h1 H
      refine as2 [(0, .i n0), (3, .i k3_0)] [] rfl rfl rfl ?_
      refine AW2_skip ?_
      refine AW2_block ?_
      refine AW2_reg [0, 1, 2] rfl ?_
      refine rp rfl rfl (p_move rfl rfl) ?_
      refine rp rfl rfl (p_bin rfl rfl rfl rfl) ?_
      refine rp rfl rfl (p_asg rfl rfl) ?_
      refine rz [(0, .i n0), (3, .i (w64 (k3_0 * (2 : Int))))] [] rfl rfl rfl ?_
      have hz := some_elim H
      subst hz
      exact ⟨rfl, rfl⟩
    · replace H := ite_else h1 H
      refine as2 [(3, .i k3_0)] [] rfl rfl rfl ?_
      refine AW2_exit ?_
      refine thenQ2_exit ?_
      have hz := some_elim H
      subst hz
      exact ⟨rfl, rfl⟩
  · obtain ⟨rfl, rfl⟩ := hs
    refine ⟨by simp, ?_⟩
    refine blockQ2_exit ?_
    refine sg [0, 1] rfl ?_
    refine rp rfl rfl (p_move rfl rfl) ?_
    refine rp rfl rfl (p_asg rfl rfl) ?_
    refine rz [(2, .i y'4)] [] rfl rfl rfl ?_
    refine AW2_ret ?_
    have hz := some_elim H
    subst hz
    exact ⟨⟨res_tmp (.same _), trivial⟩, trivial⟩

/-! roll.pair -/
noncomputable def g_roll_pair (mode0 : Int) (l1 : List UInt8) (r2 : List UInt8) : Option ((List UInt8) × Int) :=
  (g_oracle_Digest mode0 (6 : Int) ([l1, r2] : List (List UInt8))).bind fun r'1 => some (r'1.1, r'1.2)
set_option maxHeartbeats 4000000 in
set_option maxRecDepth 100000 in
theorem g_roll_pair_ac {mode0 : Int} {l1 : List UInt8} {r2 : List UInt8} {r : (List UInt8) × Int} (H : g_roll_pair mode0 l1 r2 = some r) : ACp Tryd.prog 89 [(AV.int mode0), (AV.bytes l1), (AV.bytes r2)] (.tup [(AV.bytes r.1), (AV.int r.2)]) := by
  refine ACp_of (AC2_of_body (vs := [.y r.1, .i r.2]) Tryd.func89 rfl rfl (Nat.le_of_ble_eq_true rfl) rfl ?_) (fun _ => .same _)
  unfold g_roll_pair at H
  refine as2 [(0, .i mode0), (1, .y l1), (2, .y r2)] [] rfl rfl rfl ?_
  refine sg [0, 1] rfl ?_
  refine rp rfl rfl (p_asgn rfl) ?_
  refine rp rfl rfl (p_asg rfl rfl) ?_
  refine rz [(0, .i mode0), (1, .y l1), (2, .y r2)] [] rfl rfl rfl ?_
  refine sg [0, 1, 2, 3, 4, 5, 6, 7, 8] rfl ?_
  refine rp rfl rfl (p_move rfl rfl) ?_
  refine rp rfl rfl (p_move rfl rfl) ?_
  refine rp rfl rfl (p_move rfl rfl) ?_
  refine r_op rfl rfl (MakeD.opD (u_bs 11 rfl Tryd.underlying53 in_33 rfl one_33 (by decide) (by decide) rfl rfl rfl) rfl rfl rfl rfl) ?_
  refine RunW_st [(0, .i mode0), (1, .y l1), (2, .y r2), (8, .i mode0), (9, .y l1), (10, .y r2), (11, .c (.own 11 ([l1, r2] : List (List UInt8)).length 1))] [(11, .pure (([l1, r2] : List (List UInt8)).map AV.bytes))] rfl ⟨TLes.same _, TLes.same _, TLes.same _, TLes.same _, TLes.same _, TLes.same _, TLes.own rfl, trivial⟩ ⟨rfl, trivial⟩ ?_
  refine RunW_gho (Gho_pubs [11] ⟨rfl, trivial⟩ rfl (ml AV.bytes ([l1, r2] : List (List UInt8))) (by decide)) ?_
  refine bindK H fun r'1 h1 H => ?_
  refine rp rfl rfl (p_callp rfl rfl rfl Tryd.func61 rfl rfl (g_oracle_Digest_ac h1) ⟨rfl, rfl, rfl, trivial⟩) ?_
  refine rp rfl rfl (p_ext rfl rfl rfl rfl) ?_
  refine rp rfl rfl (p_ext rfl rfl rfl rfl) ?_
  refine rp rfl rfl (p_asg rfl rfl) ?_
  refine rp rfl rfl (p_asg rfl rfl) ?_
  refine rz [(6, .y r'1.1), (7, .i r'1.2)] [] rfl rfl rfl ?_
  refine AW2_ret ?_
  have hz := some_elim H
  subst hz
  exact ⟨⟨res_tmp (.same _), res_tmp (.same _), trivial⟩, trivial⟩

/-! roll.included -/
noncomputable def g_roll_included_b (R' : Int → Int → Int → (List UInt8) → (List (List UInt8)) → Option ((List UInt8) × Bool)) (mode0 : Int) (n1 : Int) (i2 : Int) (entry3 : List UInt8) (path4 : List (List UInt8)) : Option ((List UInt8) × Bool) :=
  (if n1 = (1 : Int) then (g_oracle_Digest mode0 (5 : Int) ([entry3] : List (List UInt8))).bind fun r'1 => some (r'1.1, (decide ((r'1.2 = (0 : Int)) ∧ ((path4.length : Int) = (0 : Int))))) else (if (path4.length : Int) = (0 : Int) then some ([], false) else (g_roll_half n1).bind fun r'2 => (if i2 < r'2 then if 0 ≤ w64 ((path4.length : Int) - (1 : Int)) ∧ w64 ((path4.length : Int) - (1 : Int)) ≤ (path4.length : Int) then (R' mode0 r'2 i2 entry3 (cut path4 (0 : Int) (w64 ((path4.length : Int) - (1 : Int))))).bind fun r'3 => (if (!r'3.2) = true then some ([], false) else if 0 ≤ w64 ((path4.length : Int) - (1 : Int)) ∧ w64 ((path4.length : Int) - (1 : Int)) < (path4.length : Int) then (g_roll_pair mode0 r'3.1 (lrd path4 ((w64 ((path4.length : Int) - (1 : Int))).toNat))).bind fun r'4 => some (r'4.1, (decide (r'4.2 = (0 : Int)))) else none) else none else if 0 ≤ w64 ((path4.length : Int) - (1 : Int)) ∧ w64 ((path4.length : Int) - (1 : Int)) ≤ (path4.length : Int) then (R' mode0 (w64 (n1 - r'2)) (w64 (i2 - r'2)) entry3 (cut path4 (0 : Int) (w64 ((path4.length : Int) - (1 : Int))))).bind fun r'5 => (if (!r'5.2) = true then some ([], false) else if 0 ≤ w64 ((path4.length : Int) - (1 : Int)) ∧ w64 ((path4.length : Int) - (1 : Int)) < (path4.length : Int) then (g_roll_pair mode0 (lrd path4 ((w64 ((path4.length : Int) - (1 : Int))).toNat)) r'5.1).bind fun r'6 => some (r'6.1, (decide (r'6.2 = (0 : Int)))) else none) else none)))
noncomputable def g_roll_included : Nat → Int → Int → Int → (List UInt8) → (List (List UInt8)) → Option ((List UInt8) × Bool)
  | 0, _, _, _, _, _ => none
  | fu + 1, mode0, n1, i2, entry3, path4 => g_roll_included_b (g_roll_included fu) mode0 n1 i2 entry3 path4
set_option maxHeartbeats 4000000 in
set_option maxRecDepth 100000 in
theorem g_roll_included_ac0 {R' : Int → Int → Int → (List UInt8) → (List (List UInt8)) → Option ((List UInt8) × Bool)} (hR : ∀ {mode0 : Int} {n1 : Int} {i2 : Int} {entry3 : List UInt8} {path4 : List (List UInt8)} {r : (List UInt8) × Bool}, R' mode0 n1 i2 entry3 path4 = some r → ACp Tryd.prog 78 [(AV.int mode0), (AV.int n1), (AV.int i2), (AV.bytes entry3), (AV.lists path4)] (.tup [(AV.bytes r.1), (AV.bool r.2)])) {mode0 : Int} {n1 : Int} {i2 : Int} {entry3 : List UInt8} {path4 : List (List UInt8)} {r : (List UInt8) × Bool} (H : g_roll_included_b R' mode0 n1 i2 entry3 path4 = some r) : ACp Tryd.prog 78 [(AV.int mode0), (AV.int n1), (AV.int i2), (AV.bytes entry3), (AV.lists path4)] (.tup [(AV.bytes r.1), (AV.bool r.2)]) := by
  refine ACp_of (AC2_of_body (vs := [.y r.1, .b r.2]) Tryd.func78 rfl rfl (Nat.le_of_ble_eq_true rfl) rfl ?_) (fun _ => .same _)
  unfold g_roll_included_b at H
  refine as2 [(0, .i mode0), (1, .i n1), (2, .i i2), (3, .y entry3), (4, .p (AV.lists path4))] [] rfl rfl rfl ?_
  refine sg [0, 1] rfl ?_
  refine rp rfl rfl (p_asgn rfl) ?_
  refine rp rfl rfl (p_asg rfl rfl) ?_
  refine rz [(0, .i mode0), (1, .i n1), (2, .i i2), (3, .y entry3), (4, .p (AV.lists path4))] [] rfl rfl rfl ?_
  refine AW2_seq ?_
  refine sg [0, 1] rfl ?_
  refine rp rfl rfl (p_move rfl rfl) ?_
  refine rp rfl rfl (p_ieq rfl rfl rfl) ?_
  refine rz [(0, .i mode0), (1, .i n1), (2, .i i2), (3, .y entry3), (4, .p (AV.lists path4)), (23, .b (decide (n1 = (1 : Int))))] [] rfl rfl rfl ?_
  refine AW2_if (p := n1 = (1 : Int)) rfl (fun h1 => ?_) (fun h1 => ?_)
  · replace H := ite_then h1 H
    refine sg [0, 1, 2, 3, 4, 5, 6, 7, 8] rfl ?_
    refine rp rfl rfl (p_move rfl rfl) ?_
    refine rp rfl rfl (p_move rfl rfl) ?_
    refine r_op rfl rfl (MakeD.opD (u_bs 27 rfl Tryd.underlying53 in_33 rfl one_33 (by decide) (by decide) rfl rfl rfl) rfl rfl rfl rfl) ?_
    refine RunW_st [(0, .i mode0), (1, .i n1), (2, .i i2), (3, .y entry3), (4, .p (AV.lists path4)), (23, .b (decide (n1 = (1 : Int)))), (25, .i mode0), (26, .y entry3), (27, .c (.own 27 ([entry3] : List (List UInt8)).length 1))] [(27, .pure (([entry3] : List (List UInt8)).map AV.bytes))] rfl ⟨TLes.same _, TLes.same _, TLes.same _, TLes.same _, TLes.same _, TLes.same _, TLes.same _, TLes.same _, TLes.own rfl, trivial⟩ ⟨rfl, trivial⟩ ?_
    refine RunW_gho (Gho_pubs [27] ⟨rfl, trivial⟩ rfl (ml AV.bytes ([entry3] : List (List UInt8))) (by decide)) ?_
    refine bindK H fun r'1 h2 H => ?_
    refine rp rfl rfl (p_callp rfl rfl rfl Tryd.func61 rfl rfl (g_oracle_Digest_ac h2) ⟨rfl, rfl, rfl, trivial⟩) ?_
    refine rp rfl rfl (p_move rfl rfl) ?_
    refine rp rfl rfl (p_ext rfl rfl rfl rfl) ?_
    refine rp rfl rfl (p_ext rfl rfl rfl rfl) ?_
    refine rp rfl rfl (p_asg rfl rfl) ?_
    refine rp rfl rfl (p_asg rfl rfl) ?_
    refine rz [(4, .p (AV.lists path4)), (12, .y r'1.1), (13, .i r'1.2)] [] rfl rfl rfl ?_
    refine AW2_seq ?_
    refine AW2_mid (⟨[(10, .y r'1.1), (11, .b (decide ((r'1.2 = (0 : Int)) ∧ ((path4.length : Int) = (0 : Int)))))], [], 106⟩ : TS) ?_ ?_
    · refine AW2_reg [0, 1, 2, 3, 4, 5, 6, 7, 8, 9] rfl ?_
      refine rp rfl rfl (p_move rfl rfl) ?_
      refine rp rfl rfl (p_move rfl rfl) ?_
      refine rp rfl rfl (p_ieq rfl rfl rfl) ?_
      refine rp rfl rfl (p_move rfl rfl) ?_
      refine (Classical.em (r'1.2 = (0 : Int))).elim (fun h3 => ?_) (fun h3 => ?_)
      · refine r_on rfl rfl rfl rfl (decide_eq_true (p := r'1.2 = (0 : Int)) h3) rfl (PureD.opD (p_move rfl rfl)) ?_
        refine r_on rfl rfl rfl rfl (decide_eq_true (p := r'1.2 = (0 : Int)) h3) rfl (PureD.opD (p_lenl rfl Tryd.underlying53 rfl rfl)) ?_
        refine r_on rfl rfl rfl rfl (decide_eq_true (p := r'1.2 = (0 : Int)) h3) rfl (PureD.opD (p_ieq rfl rfl rfl)) ?_
        refine rp rfl rfl (p_pkt rfl rfl (decide_eq_true (p := r'1.2 = (0 : Int)) h3) (tb ((and_l (p := r'1.2 = (0 : Int)) (q := (path4.length : Int) = (0 : Int)) h3)))) ?_
        refine rp rfl rfl (p_asg rfl rfl) ?_
        refine rp rfl rfl (p_asg rfl rfl) ?_
        refine rs [(10, .y r'1.1), (11, .b (decide ((r'1.2 = (0 : Int)) ∧ ((path4.length : Int) = (0 : Int)))))] [] rfl rfl rfl ?_
        exact RunW_nil rfl
      · refine r_off rfl rfl rfl rfl (decide_eq_false (p := r'1.2 = (0 : Int)) h3) rfl rfl ?_
        refine r_off rfl rfl rfl rfl (decide_eq_false (p := r'1.2 = (0 : Int)) h3) rfl rfl ?_
        refine r_off rfl rfl rfl rfl (decide_eq_false (p := r'1.2 = (0 : Int)) h3) rfl rfl ?_
        refine rp rfl rfl (p_pkf rfl rfl (decide_eq_false (p := r'1.2 = (0 : Int)) h3) (tb (decide_eq_false (p := (r'1.2 = (0 : Int)) ∧ ((path4.length : Int) = (0 : Int))) (fun x => h3 x.1)).symm)) ?_
        refine rp rfl rfl (p_asg rfl rfl) ?_
        refine rp rfl rfl (p_asg rfl rfl) ?_
        refine rs [(10, .y r'1.1), (11, .b (decide ((r'1.2 = (0 : Int)) ∧ ((path4.length : Int) = (0 : Int)))))] [] rfl rfl rfl ?_
        exact RunW_nil rfl
    · refine AW2_ret ?_
      have hz := some_elim H
      subst hz
      exact ⟨⟨res_tmp (.same _), res_tmp (.same _), trivial⟩, trivial⟩
  · replace H := ite_else h1 H
    refine as2 [(0, .i mode0), (1, .i n1), (2, .i i2), (3, .y entry3), (4, .p (AV.lists path4))] [] rfl rfl rfl ?_
    refine AW2_skip ?_
    refine AW2_seq ?_
    refine sg [0, 1, 2] rfl ?_
    refine rp rfl rfl (p_move rfl rfl) ?_
    refine rp rfl rfl (p_lenl rfl Tryd.underlying53 rfl rfl) ?_
    refine rp rfl rfl (p_ieq rfl rfl rfl) ?_
    refine rz [(0, .i mode0), (1, .i n1), (2, .i i2), (3, .y entry3), (4, .p (AV.lists path4)), (41, .b (decide ((path4.length : Int) = (0 : Int))))] [] rfl rfl rfl ?_
    refine AW2_if (p := (path4.length : Int) = (0 : Int)) rfl (fun h4 => ?_) (fun h4 => ?_)
    · replace H := ite_then h4 H
      refine sg [0, 1] rfl ?_
      refine rp rfl rfl (p_asgn rfl) ?_
      refine rp rfl rfl (p_asg rfl rfl) ?_
      refine rz [(10, .p .nil), (11, .b false)] [] rfl rfl rfl ?_
      refine AW2_ret ?_
      have hz := some_elim H
      subst hz
      exact ⟨⟨res_tmp TLes.nil0, res_tmp (.same _), trivial⟩, trivial⟩
    · replace H := ite_else h4 H
      refine as2 [(0, .i mode0), (1, .i n1), (2, .i i2), (3, .y entry3), (4, .p (AV.lists path4))] [] rfl rfl rfl ?_
      refine AW2_skip ?_
      refine sg [0, 1, 2, 3, 4, 5, 6] rfl ?_
      refine rp rfl rfl (p_move rfl rfl) ?_
      refine bindK H fun r'2 h5 H => ?_
      refine rp rfl rfl (p_callp rfl rfl rfl Tryd.func88 rfl rfl (g_roll_half_ac h5) ⟨rfl, trivial⟩) ?_
      refine rp rfl rfl (p_move rfl rfl) ?_
      refine rp rfl rfl (p_lenl rfl Tryd.underlying53 rfl rfl) ?_
      refine rp rfl rfl (p_bin rfl rfl rfl rfl) ?_
      refine rp rfl rfl (p_asg rfl rfl) ?_
      refine rp rfl rfl (p_asg rfl rfl) ?_
      refine rz [(0, .i mode0), (1, .i n1), (2, .i i2), (3, .y entry3), (4, .p (AV.lists path4)), (14, .i r'2), (15, .i (w64 ((path4.length : Int) - (1 : Int))))] [] rfl rfl rfl ?_
      refine AW2_seq ?_
      refine sg [0, 1, 2] rfl ?_
      refine rp rfl rfl (p_move rfl rfl) ?_
      refine rp rfl rfl (p_move rfl rfl) ?_
      refine rp rfl rfl (p_bin rfl rfl rfl rfl) ?_
      refine rz [(0, .i mode0), (1, .i n1), (2, .i i2), (3, .y entry3), (4, .p (AV.lists path4)), (14, .i r'2), (15, .i (w64 ((path4.length : Int) - (1 : Int)))), (49, .b (decide (i2 < r'2)))] [] rfl rfl rfl ?_
      refine AW2_if (p := i2 < r'2) rfl (fun h6 => ?_) (fun h6 => ?_)
      · replace H := ite_then h6 H
        refine sg [0, 1, 2, 3, 4, 5, 6, 7, 8, 9, 10, 11, 12] rfl ?_
        refine rp rfl rfl (p_move rfl rfl) ?_
        refine rp rfl rfl (p_move rfl rfl) ?_
        refine rp rfl rfl (p_move rfl rfl) ?_
        refine rp rfl rfl (p_move rfl rfl) ?_
        refine rp rfl rfl (p_move rfl rfl) ?_
        refine rp rfl rfl (p_move rfl rfl) ?_
        refine chkK H fun h7 H => ?_
        refine rp rfl rfl (u_cutl (g := (fun l => l.map AV.bytes)) (a := (0 : Int)) (b := w64 ((path4.length : Int) - (1 : Int))) rfl rfl Tryd.underlying53 in_33 rfl bT_zero (bT_i (Int.le_trans (show 0 ≤ (0 : Int) ∧ (0 : Int) ≤ w64 ((path4.length : Int) - (1 : Int)) ∧ w64 ((path4.length : Int) - (1 : Int)) ≤ (path4.length : Int) from ⟨Int.le_refl _, h7.1, h7.2⟩).1 (show 0 ≤ (0 : Int) ∧ (0 : Int) ≤ w64 ((path4.length : Int) - (1 : Int)) ∧ w64 ((path4.length : Int) - (1 : Int)) ≤ (path4.length : Int) from ⟨Int.le_refl _, h7.1, h7.2⟩).2.1) rfl) (.inl rfl) (show 0 ≤ (0 : Int) ∧ (0 : Int) ≤ w64 ((path4.length : Int) - (1 : Int)) ∧ w64 ((path4.length : Int) - (1 : Int)) ≤ (path4.length : Int) from ⟨Int.le_refl _, h7.1, h7.2⟩) (g_map AV.bytes)) ?_
        refine bindK H fun r'3 h8 H => ?_
        refine rp rfl rfl (p_callp rfl rfl rfl Tryd.func78 rfl rfl (hR h8) ⟨rfl, rfl, rfl, rfl, rfl, trivial⟩) ?_
        refine rp rfl rfl (p_move rfl rfl) ?_
        refine rp rfl rfl (p_ext rfl rfl rfl rfl) ?_
        refine rp rfl rfl (p_ext rfl rfl rfl rfl) ?_
        refine rp rfl rfl (p_asg rfl rfl) ?_
        refine rp rfl rfl (p_asg rfl rfl) ?_
        refine rz [(0, .i mode0), (4, .p (AV.lists path4)), (15, .i (w64 ((path4.length : Int) - (1 : Int)))), (16, .y r'3.1), (17, .b r'3.2)] [] rfl rfl rfl ?_
        refine AW2_seq ?_
        refine sg [0, 1] rfl ?_
        refine rp rfl rfl (p_move rfl rfl) ?_
        refine rp rfl rfl (p_not rfl rfl) ?_
        refine rz [(0, .i mode0), (4, .p (AV.lists path4)), (15, .i (w64 ((path4.length : Int) - (1 : Int)))), (16, .y r'3.1), (62, .b (!r'3.2))] [] rfl rfl rfl ?_
        refine AW2_cond rfl (fun h9 => ?_) (fun h9 => ?_)
        · replace H := ite_then h9 H
          refine sg [0, 1] rfl ?_
          refine rp rfl rfl (p_asgn rfl) ?_
          refine rp rfl rfl (p_asg rfl rfl) ?_
          refine rz [(10, .p .nil), (11, .b false)] [] rfl rfl rfl ?_
          refine AW2_ret ?_
          have hz := some_elim H
          subst hz
          exact ⟨⟨res_tmp TLes.nil0, res_tmp (.same _), trivial⟩, trivial⟩
        · replace H := ite_else (ne_true h9) H
          refine as2 [(0, .i mode0), (4, .p (AV.lists path4)), (15, .i (w64 ((path4.length : Int) - (1 : Int)))), (16, .y r'3.1)] [] rfl rfl rfl ?_
          refine AW2_skip ?_
          refine sg [0, 1, 2, 3, 4, 5, 6, 7, 8, 9, 10, 11] rfl ?_
          refine rp rfl rfl (p_move rfl rfl) ?_
          refine rp rfl rfl (p_move rfl rfl) ?_
          refine rp rfl rfl (p_move rfl rfl) ?_
          refine rp rfl rfl (p_move rfl rfl) ?_
          refine chkK H fun h10 H => ?_
          refine rp rfl rfl (u_ixl rfl rfl Tryd.underlying53 in_33 rfl rfl (ixe h10) (ixn h10) (lne (ixn h10))) ?_
          refine rp rfl rfl (u_ld rfl rfl Tryd.underlying33 rfl rfl (Sub.map default (ixn h10))) ?_
          refine bindK H fun r'4 h11 H => ?_
          refine rp rfl rfl (p_callp rfl rfl rfl Tryd.func89 rfl rfl (g_roll_pair_ac h11) ⟨rfl, rfl, rfl, trivial⟩) ?_
          refine rp rfl rfl (p_move rfl rfl) ?_
          refine rp rfl rfl (p_ext rfl rfl rfl rfl) ?_
          refine rp rfl rfl (p_ext rfl rfl rfl rfl) ?_
          refine rp rfl rfl (p_asg rfl rfl) ?_
          refine rp rfl rfl (p_asg rfl rfl) ?_
          refine rz [(16, .y r'4.1), (18, .i r'4.2)] [] rfl rfl rfl ?_
          refine sg [0, 1, 2, 3, 4] rfl ?_
          refine rp rfl rfl (p_move rfl rfl) ?_
          refine rp rfl rfl (p_move rfl rfl) ?_
          refine rp rfl rfl (p_ieq rfl rfl rfl) ?_
          refine rp rfl rfl (p_asg rfl rfl) ?_
          refine rp rfl rfl (p_asg rfl rfl) ?_
          refine rz [(10, .y r'4.1), (11, .b (decide (r'4.2 = (0 : Int))))] [] rfl rfl rfl ?_
          refine AW2_ret ?_
          have hz := some_elim H
          subst hz
          exact ⟨⟨res_tmp (.same _), res_tmp (.same _), trivial⟩, trivial⟩
      · replace H := ite_else h6 H
        refine as2 [(0, .i mode0), (1, .i n1), (2, .i i2), (3, .y entry3), (4, .p (AV.lists path4)), (14, .i r'2), (15, .i (w64 ((path4.length : Int) - (1 : Int))))] [] rfl rfl rfl ?_
        refine AW2_skip ?_
        refine sg [0, 1, 2, 3, 4, 5, 6, 7, 8, 9, 10, 11, 12, 13, 14, 15, 16] rfl ?_
        refine rp rfl rfl (p_move rfl rfl) ?_
        refine rp rfl rfl (p_move rfl rfl) ?_
        refine rp rfl rfl (p_move rfl rfl) ?_
        refine rp rfl rfl (p_bin rfl rfl rfl rfl) ?_
        refine rp rfl rfl (p_move rfl rfl) ?_
        refine rp rfl rfl (p_move rfl rfl) ?_
        refine rp rfl rfl (p_bin rfl rfl rfl rfl) ?_
        refine rp rfl rfl (p_move rfl rfl) ?_
        refine rp rfl rfl (p_move rfl rfl) ?_
        refine rp rfl rfl (p_move rfl rfl) ?_
        refine chkK H fun h12 H => ?_
        refine rp rfl rfl (u_cutl (g := (fun l => l.map AV.bytes)) (a := (0 : Int)) (b := w64 ((path4.length : Int) - (1 : Int))) rfl rfl Tryd.underlying53 in_33 rfl bT_zero (bT_i (Int.le_trans (show 0 ≤ (0 : Int) ∧ (0 : Int) ≤ w64 ((path4.length : Int) - (1 : Int)) ∧ w64 ((path4.length : Int) - (1 : Int)) ≤ (path4.length : Int) from ⟨Int.le_refl _, h12.1, h12.2⟩).1 (show 0 ≤ (0 : Int) ∧ (0 : Int) ≤ w64 ((path4.length : Int) - (1 : Int)) ∧ w64 ((path4.length : Int) - (1 : Int)) ≤ (path4.length : Int) from ⟨Int.le_refl _, h12.1, h12.2⟩).2.1) rfl) (.inl rfl) (show 0 ≤ (0 : Int) ∧ (0 : Int) ≤ w64 ((path4.length : Int) - (1 : Int)) ∧ w64 ((path4.length : Int) - (1 : Int)) ≤ (path4.length : Int) from ⟨Int.le_refl _, h12.1, h12.2⟩) (g_map AV.bytes)) ?_
        refine bindK H fun r'5 h13 H => ?_
        refine rp rfl rfl (p_callp rfl rfl rfl Tryd.func78 rfl rfl (hR h13) ⟨rfl, rfl, rfl, rfl, rfl, trivial⟩) ?_
        refine rp rfl rfl (p_move rfl rfl) ?_
        refine rp rfl rfl (p_ext rfl rfl rfl rfl) ?_
        refine rp rfl rfl (p_ext rfl rfl rfl rfl) ?_
        refine rp rfl rfl (p_asg rfl rfl) ?_
        refine rp rfl rfl (p_asg rfl rfl) ?_
        refine rz [(0, .i mode0), (4, .p (AV.lists path4)), (15, .i (w64 ((path4.length : Int) - (1 : Int)))), (19, .y r'5.1), (20, .b r'5.2)] [] rfl rfl rfl ?_
        refine AW2_seq ?_
        refine sg [0, 1] rfl ?_
        refine rp rfl rfl (p_move rfl rfl) ?_
        refine rp rfl rfl (p_not rfl rfl) ?_
        refine rz [(0, .i mode0), (4, .p (AV.lists path4)), (15, .i (w64 ((path4.length : Int) - (1 : Int)))), (19, .y r'5.1), (92, .b (!r'5.2))] [] rfl rfl rfl ?_
        refine AW2_cond rfl (fun h14 => ?_) (fun h14 => ?_)
        · replace H := ite_then h14 H
          refine sg [0, 1] rfl ?_
          refine rp rfl rfl (p_asgn rfl) ?_
          refine rp rfl rfl (p_asg rfl rfl) ?_
          refine rz [(10, .p .nil), (11, .b false)] [] rfl rfl rfl ?_
          refine AW2_ret ?_
          have hz := some_elim H
          subst hz
          exact ⟨⟨res_tmp TLes.nil0, res_tmp (.same _), trivial⟩, trivial⟩
        · replace H := ite_else (ne_true h14) H
          refine as2 [(0, .i mode0), (4, .p (AV.lists path4)), (15, .i (w64 ((path4.length : Int) - (1 : Int)))), (19, .y r'5.1)] [] rfl rfl rfl ?_
          refine AW2_skip ?_
          refine sg [0, 1, 2, 3, 4, 5, 6, 7, 8, 9, 10, 11] rfl ?_
          refine rp rfl rfl (p_move rfl rfl) ?_
          refine rp rfl rfl (p_move rfl rfl) ?_
          refine rp rfl rfl (p_move rfl rfl) ?_
          refine chkK H fun h15 H => ?_
          refine rp rfl rfl (u_ixl rfl rfl Tryd.underlying53 in_33 rfl rfl (ixe h15) (ixn h15) (lne (ixn h15))) ?_
          refine rp rfl rfl (u_ld rfl rfl Tryd.underlying33 rfl rfl (Sub.map default (ixn h15))) ?_
          refine rp rfl rfl (p_move rfl rfl) ?_
          refine bindK H fun r'6 h16 H => ?_
          refine rp rfl rfl (p_callp rfl rfl rfl Tryd.func89 rfl rfl (g_roll_pair_ac h16) ⟨rfl, rfl, rfl, trivial⟩) ?_
          refine rp rfl rfl (p_move rfl rfl) ?_
          refine rp rfl rfl (p_ext rfl rfl rfl rfl) ?_
          refine rp rfl rfl (p_ext rfl rfl rfl rfl) ?_
          refine rp rfl rfl (p_asg rfl rfl) ?_
          refine rp rfl rfl (p_asg rfl rfl) ?_
          refine rz [(19, .y r'6.1), (21, .i r'6.2)] [] rfl rfl rfl ?_
          refine sg [0, 1, 2, 3, 4] rfl ?_
          refine rp rfl rfl (p_move rfl rfl) ?_
          refine rp rfl rfl (p_move rfl rfl) ?_
          refine rp rfl rfl (p_ieq rfl rfl rfl) ?_
          refine rp rfl rfl (p_asg rfl rfl) ?_
          refine rp rfl rfl (p_asg rfl rfl) ?_
          refine rz [(10, .y r'6.1), (11, .b (decide (r'6.2 = (0 : Int))))] [] rfl rfl rfl ?_
          refine AW2_ret ?_
          have hz := some_elim H
          subst hz
          exact ⟨⟨res_tmp (.same _), res_tmp (.same _), trivial⟩, trivial⟩
theorem g_roll_included_acN : ∀ (fu : Nat) {mode0 : Int} {n1 : Int} {i2 : Int} {entry3 : List UInt8} {path4 : List (List UInt8)} {r : (List UInt8) × Bool}, g_roll_included fu mode0 n1 i2 entry3 path4 = some r → ACp Tryd.prog 78 [(AV.int mode0), (AV.int n1), (AV.int i2), (AV.bytes entry3), (AV.lists path4)] (.tup [(AV.bytes r.1), (AV.bool r.2)])
  | 0, _, _, _, _, _, _, H => (by cases H)
  | fu + 1, _, _, _, _, _, _, H => g_roll_included_ac0 (g_roll_included_acN fu) H
theorem g_roll_included_ac {mode0 : Int} {n1 : Int} {i2 : Int} {entry3 : List UInt8} {path4 : List (List UInt8)} {r : (List UInt8) × Bool} (H : g_roll_included 100000 mode0 n1 i2 entry3 path4 = some r) : ACp Tryd.prog 78 [(AV.int mode0), (AV.int n1), (AV.int i2), (AV.bytes entry3), (AV.lists path4)] (.tup [(AV.bytes r.1), (AV.bool r.2)]) := g_roll_included_acN 100000 H

/-! bytes.Equal -/
noncomputable def g_bytes_Equal (a0 : List UInt8) (b1 : List UInt8) : Option (Bool) :=
  some (decide (a0 = b1))
set_option maxHeartbeats 4000000 in
set_option maxRecDepth 100000 in
theorem g_bytes_Equal_ac {a0 : List UInt8} {b1 : List UInt8} {r : Bool} (H : g_bytes_Equal a0 b1 = some r) : ACp Tryd.prog 79 [(AV.bytes a0), (AV.bytes b1)] (AV.bool r) := by
  refine ACp_of (AC2_of_body (vs := [.b r]) Tryd.func79 rfl rfl (Nat.le_of_ble_eq_true rfl) rfl ?_) (fun _ => .same _)
  unfold g_bytes_Equal at H
  refine as2 [(0, .y a0), (1, .y b1)] [] rfl rfl rfl ?_
  refine sg [0] rfl ?_
  refine rp rfl rfl (p_asg rfl rfl) ?_
  refine rz [(0, .y a0), (1, .y b1)] [] rfl rfl rfl ?_
  refine sg [0, 1, 2, 3, 4, 5] rfl ?_
  refine rp rfl rfl (p_move rfl rfl) ?_
  refine rp rfl rfl (p_cb rfl rfl Tryd.underlying33 Tryd.underlying5 Tryd.underlying9 rfl) ?_
  refine rp rfl rfl (p_move rfl rfl) ?_
  refine rp rfl rfl (p_cb rfl rfl Tryd.underlying33 Tryd.underlying5 Tryd.underlying9 rfl) ?_
  refine rp rfl rfl (p_seq rfl rfl rfl) ?_
  refine rp rfl rfl (p_asg rfl rfl) ?_
  refine rz [(4, .b (decide (a0 = b1)))] [] rfl rfl rfl ?_
  refine AW2_ret ?_
  have hz := some_elim H
  subst hz
  exact ⟨⟨res_tmp (.same _), trivial⟩, trivial⟩

/-! roll.CheckInclude -/
noncomputable def g_roll_CheckInclude (mode0 : Int) (top1 : List UInt8) (n2 : Int) (i3 : Int) (entry4 : List UInt8) (path5 : List (List UInt8)) : Option (Int) :=
  (g_roll_modes mode0).bind fun r'1 => (if (!r'1) = true then some (2 : Int) else (if (n2 < (0 : Int)) ∨ (n2 > (64 : Int)) then some (1 : Int) else (if (i3 < (0 : Int)) ∨ (i3 ≥ n2) then some (6 : Int) else (g_roll_included 100000 mode0 n2 i3 entry4 path5).bind fun r'2 => ((if (!r'2.2) = true then some true else (g_bytes_Equal r'2.1 top1).bind fun r'4 => some (!r'4))).bind fun g'5 => (if g'5 = true then some (10 : Int) else some (0 : Int)))))
set_option maxHeartbeats 4000000 in
set_option maxRecDepth 100000 in
theorem g_roll_CheckInclude_ac {mode0 : Int} {top1 : List UInt8} {n2 : Int} {i3 : Int} {entry4 : List UInt8} {path5 : List (List UInt8)} {r : Int} (H : g_roll_CheckInclude mode0 top1 n2 i3 entry4 path5 = some r) : ACp Tryd.prog 59 [(AV.int mode0), (AV.bytes top1), (AV.int n2), (AV.int i3), (AV.bytes entry4), (AV.lists path5)] (AV.int r) := by
  refine ACp_of (AC2_of_body (vs := [.i r]) Tryd.func59 rfl rfl (Nat.le_of_ble_eq_true rfl) rfl ?_) (fun _ => .same _)
  unfold g_roll_CheckInclude at H
  refine as2 [(0, .i mode0), (1, .y top1), (2, .i n2), (3, .i i3), (4, .y entry4), (5, .p (AV.lists path5))] [] rfl rfl rfl ?_
  refine sg [0] rfl ?_
  refine rp rfl rfl (p_asg rfl rfl) ?_
  refine rz [(0, .i mode0), (1, .y top1), (2, .i n2), (3, .i i3), (4, .y entry4), (5, .p (AV.lists path5))] [] rfl rfl rfl ?_
  refine AW2_seq ?_
  refine sg [0, 1, 2] rfl ?_
  refine rp rfl rfl (p_move rfl rfl) ?_
  refine bindK H fun r'1 h1 H => ?_
  refine rp rfl rfl (p_callp rfl rfl rfl Tryd.func77 rfl rfl (g_roll_modes_ac h1) ⟨rfl, trivial⟩) ?_
  refine rp rfl rfl (p_not rfl rfl) ?_
  refine rz [(0, .i mode0), (1, .y top1), (2, .i n2), (3, .i i3), (4, .y entry4), (5, .p (AV.lists path5)), (17, .b (!r'1))] [] rfl rfl rfl ?_
  refine AW2_cond rfl (fun h2 => ?_) (fun h2 => ?_)
  · replace H := ite_then h2 H
    refine sg [0] rfl ?_
    refine rp rfl rfl (p_asg rfl rfl) ?_
    refine rz [(12, .i (2 : Int))] [] rfl rfl rfl ?_
    refine AW2_ret ?_
    have hz := some_elim H
    subst hz
    exact ⟨⟨res_tmp (.same _), trivial⟩, trivial⟩
  · replace H := ite_else (ne_true h2) H
    refine as2 [(0, .i mode0), (1, .y top1), (2, .i n2), (3, .i i3), (4, .y entry4), (5, .p (AV.lists path5))] [] rfl rfl rfl ?_
    refine AW2_skip ?_
    refine AW2_seq ?_
    refine AW2_seq ?_
    refine AW2_mid (⟨[(0, .i mode0), (1, .y top1), (2, .i n2), (3, .i i3), (4, .y entry4), (5, .p (AV.lists path5)), (23, .b (decide ((n2 < (0 : Int)) ∨ (n2 > (64 : Int)))))], [], 48⟩ : TS) ?_ ?_
    · refine AW2_reg [0, 1, 2, 3, 4, 5] rfl ?_
      refine rp rfl rfl (p_move rfl rfl) ?_
      refine rp rfl rfl (p_bin rfl rfl rfl rfl) ?_
      refine rp rfl rfl (p_move rfl rfl) ?_
      refine (Classical.em (n2 < (0 : Int))).elim (fun h3 => ?_) (fun h3 => ?_)
      · refine r_off rfl rfl rfl rfl (decide_eq_true (p := n2 < (0 : Int)) h3) rfl rfl ?_
        refine r_off rfl rfl rfl rfl (decide_eq_true (p := n2 < (0 : Int)) h3) rfl rfl ?_
        refine rp rfl rfl (p_pkt rfl rfl (decide_eq_true (p := n2 < (0 : Int)) h3) (tb (decide_eq_true (p := (n2 < (0 : Int)) ∨ (n2 > (64 : Int))) (Or.inl h3)).symm)) ?_
        refine rs [(0, .i mode0), (1, .y top1), (2, .i n2), (3, .i i3), (4, .y entry4), (5, .p (AV.lists path5)), (23, .b (decide ((n2 < (0 : Int)) ∨ (n2 > (64 : Int)))))] [] rfl rfl rfl ?_
        exact RunW_nil rfl
      · refine r_on rfl rfl rfl rfl (decide_eq_false (p := n2 < (0 : Int)) h3) rfl (PureD.opD (p_move rfl rfl)) ?_
        refine r_on rfl rfl rfl rfl (decide_eq_false (p := n2 < (0 : Int)) h3) rfl (PureD.opD (p_bin rfl rfl rfl rfl)) ?_
        refine rp rfl rfl (p_pkf rfl rfl (decide_eq_false (p := n2 < (0 : Int)) h3) (tb ((or_l (p := n2 < (0 : Int)) (q := n2 > (64 : Int)) h3)))) ?_
        refine rs [(0, .i mode0), (1, .y top1), (2, .i n2), (3, .i i3), (4, .y entry4), (5, .p (AV.lists path5)), (23, .b (decide ((n2 < (0 : Int)) ∨ (n2 > (64 : Int)))))] [] rfl rfl rfl ?_
        exact RunW_nil rfl
    · refine AW2_if (p := (n2 < (0 : Int)) ∨ (n2 > (64 : Int))) rfl (fun h4 => ?_) (fun h4 => ?_)
      · replace H := ite_then h4 H
        refine sg [0] rfl ?_
        refine rp rfl rfl (p_asg rfl rfl) ?_
        refine rz [(12, .i (1 : Int))] [] rfl rfl rfl ?_
        refine AW2_ret ?_
        have hz := some_elim H
        subst hz
        exact ⟨⟨res_tmp (.same _), trivial⟩, trivial⟩
      · replace H := ite_else h4 H
        refine as2 [(0, .i mode0), (1, .y top1), (2, .i n2), (3, .i i3), (4, .y entry4), (5, .p (AV.lists path5))] [] rfl rfl rfl ?_
        refine AW2_skip ?_
        refine AW2_seq ?_
        refine AW2_seq ?_
        refine AW2_mid (⟨[(0, .i mode0), (1, .y top1), (2, .i n2), (3, .i i3), (4, .y entry4), (5, .p (AV.lists path5)), (30, .b (decide ((i3 < (0 : Int)) ∨ (i3 ≥ n2))))], [], 48⟩ : TS) ?_ ?_
        · refine AW2_reg [0, 1, 2, 3, 4, 5, 6] rfl ?_
          refine rp rfl rfl (p_move rfl rfl) ?_
          refine rp rfl rfl (p_bin rfl rfl rfl rfl) ?_
          refine rp rfl rfl (p_move rfl rfl) ?_
          refine (Classical.em (i3 < (0 : Int))).elim (fun h5 => ?_) (fun h5 => ?_)
          · refine r_off rfl rfl rfl rfl (decide_eq_true (p := i3 < (0 : Int)) h5) rfl rfl ?_
            refine r_off rfl rfl rfl rfl (decide_eq_true (p := i3 < (0 : Int)) h5) rfl rfl ?_
            refine r_off rfl rfl rfl rfl (decide_eq_true (p := i3 < (0 : Int)) h5) rfl rfl ?_
            refine rp rfl rfl (p_pkt rfl rfl (decide_eq_true (p := i3 < (0 : Int)) h5) (tb (decide_eq_true (p := (i3 < (0 : Int)) ∨ (i3 ≥ n2)) (Or.inl h5)).symm)) ?_
            refine rs [(0, .i mode0), (1, .y top1), (2, .i n2), (3, .i i3), (4, .y entry4), (5, .p (AV.lists path5)), (30, .b (decide ((i3 < (0 : Int)) ∨ (i3 ≥ n2))))] [] rfl rfl rfl ?_
            exact RunW_nil rfl
          · refine r_on rfl rfl rfl rfl (decide_eq_false (p := i3 < (0 : Int)) h5) rfl (PureD.opD (p_move rfl rfl)) ?_
            refine r_on rfl rfl rfl rfl (decide_eq_false (p := i3 < (0 : Int)) h5) rfl (PureD.opD (p_move rfl rfl)) ?_
            refine r_on rfl rfl rfl rfl (decide_eq_false (p := i3 < (0 : Int)) h5) rfl (PureD.opD (p_bin rfl rfl rfl rfl)) ?_
            refine rp rfl rfl (p_pkf rfl rfl (decide_eq_false (p := i3 < (0 : Int)) h5) (tb ((or_l (p := i3 < (0 : Int)) (q := i3 ≥ n2) h5)))) ?_
            refine rs [(0, .i mode0), (1, .y top1), (2, .i n2), (3, .i i3), (4, .y entry4), (5, .p (AV.lists path5)), (30, .b (decide ((i3 < (0 : Int)) ∨ (i3 ≥ n2))))] [] rfl rfl rfl ?_
            exact RunW_nil rfl
        · refine AW2_if (p := (i3 < (0 : Int)) ∨ (i3 ≥ n2)) rfl (fun h6 => ?_) (fun h6 => ?_)
          · replace H := ite_then h6 H
            refine sg [0] rfl ?_
            refine rp rfl rfl (p_asg rfl rfl) ?_
            refine rz [(12, .i (6 : Int))] [] rfl rfl rfl ?_
            refine AW2_ret ?_
            have hz := some_elim H
            subst hz
            exact ⟨⟨res_tmp (.same _), trivial⟩, trivial⟩
          · replace H := ite_else h6 H
            refine as2 [(0, .i mode0), (1, .y top1), (2, .i n2), (3, .i i3), (4, .y entry4), (5, .p (AV.lists path5))] [] rfl rfl rfl ?_
            refine AW2_skip ?_
            refine sg [0, 1, 2, 3, 4, 5, 6, 7, 8, 9, 10] rfl ?_
            refine rp rfl rfl (p_move rfl rfl) ?_
            refine rp rfl rfl (p_move rfl rfl) ?_
            refine rp rfl rfl (p_move rfl rfl) ?_
            refine rp rfl rfl (p_move rfl rfl) ?_
            refine rp rfl rfl (p_move rfl rfl) ?_
            refine bindK H fun r'2 h7 H => ?_
            refine rp rfl rfl (p_callp rfl rfl rfl Tryd.func78 rfl rfl (g_roll_included_ac h7) ⟨rfl, rfl, rfl, rfl, rfl, trivial⟩) ?_
            refine rp rfl rfl (p_move rfl rfl) ?_
            refine rp rfl rfl (p_ext rfl rfl rfl rfl) ?_
            refine rp rfl rfl (p_ext rfl rfl rfl rfl) ?_
            refine rp rfl rfl (p_asg rfl rfl) ?_
            refine rp rfl rfl (p_asg rfl rfl) ?_
            refine rz [(1, .y top1), (13, .y r'2.1), (14, .b r'2.2)] [] rfl rfl rfl ?_
            refine AW2_seq ?_
            refine AW2_seq ?_
            refine bindK H fun g'5 h11 H => ?_
            refine AW2_mid (⟨[(47, .b g'5)], [], 48⟩ : TS) ?_ ?_
            · clear H
              have H := h11
              clear h11
              refine AW2_reg [0, 1, 2, 3, 4, 5, 6, 7] rfl ?_
              refine rp rfl rfl (p_move rfl rfl) ?_
              refine rp rfl rfl (p_not rfl rfl) ?_
              refine rp rfl rfl (p_move rfl rfl) ?_
              refine (Classical.em ((!r'2.2) = true)).elim (fun h9 => ?_) (fun h9 => ?_)
              · replace H := ite_then h9 H
                refine r_off rfl rfl rfl rfl h9 rfl rfl ?_
                refine r_off rfl rfl rfl rfl h9 rfl rfl ?_
                refine r_off rfl rfl rfl rfl h9 rfl rfl ?_
                refine r_off rfl rfl rfl rfl h9 rfl rfl ?_
                refine rp rfl rfl (p_pkt rfl rfl h9 (.same _)) ?_
                refine rs [(47, .b true)] [] rfl rfl rfl ?_
                have hz := some_elim H
                subst hz
                exact RunW_nil rfl
              · replace H := ite_else h9 H
                refine r_on rfl rfl rfl rfl (bfalse h9) rfl (PureD.opD (p_move rfl rfl)) ?_
                refine r_on rfl rfl rfl rfl (bfalse h9) rfl (PureD.opD (p_move rfl rfl)) ?_
                refine bindK H fun r'4 h10 H => ?_
                refine r_on rfl rfl rfl rfl (bfalse h9) rfl (PureD.opD (p_callp rfl rfl rfl Tryd.func79 rfl rfl (g_bytes_Equal_ac h10) ⟨rfl, rfl, trivial⟩)) ?_
                refine r_on rfl rfl rfl rfl (bfalse h9) rfl (PureD.opD (p_not rfl rfl)) ?_
                refine rp rfl rfl (p_pkf rfl rfl (bfalse h9) (.same _)) ?_
                refine rs [(47, .b (!r'4))] [] rfl rfl rfl ?_
                have hz := some_elim H
                subst hz
                exact RunW_nil rfl
            · refine AW2_cond rfl (fun h12 => ?_) (fun h12 => ?_)
              · replace H := ite_then h12 H
                refine sg [0] rfl ?_
                refine rp rfl rfl (p_asg rfl rfl) ?_
                refine rz [(12, .i (10 : Int))] [] rfl rfl rfl ?_
                refine AW2_ret ?_
                have hz := some_elim H
                subst hz
                exact ⟨⟨res_tmp (.same _), trivial⟩, trivial⟩
              · replace H := ite_else (ne_true h12) H
                refine as2 [] [] rfl rfl rfl ?_
                refine AW2_skip ?_
                refine sg [0] rfl ?_
                refine rp rfl rfl (p_asg rfl rfl) ?_
                refine rz [(12, .i (0 : Int))] [] rfl rfl rfl ?_
                refine AW2_ret ?_
                have hz := some_elim H
                subst hz
                exact ⟨⟨res_tmp (.same _), trivial⟩, trivial⟩

/-! audit.Receipt -/
noncomputable def g_audit_Receipt (mode0 : Int) (head1 : List UInt8) (n2 : Int) (i3 : Int) (state4 : List UInt8) (s5 : GSlot) (path6 : List (List UInt8)) : Option (Int) :=
  (g_audit_Entry mode0 state4 s5).bind fun r'1 => (if r'1.2 ≠ (0 : Int) then some r'1.2 else (g_roll_CheckInclude mode0 head1 n2 i3 r'1.1 path6).bind fun r'2 => some r'2)
set_option maxHeartbeats 4000000 in
set_option maxRecDepth 100000 in
theorem g_audit_Receipt_ac {mode0 : Int} {head1 : List UInt8} {n2 : Int} {i3 : Int} {state4 : List UInt8} {s5 : GSlot} {path6 : List (List UInt8)} {r : Int} (H : g_audit_Receipt mode0 head1 n2 i3 state4 s5 path6 = some r) : ACp Tryd.prog 32 [(AV.int mode0), (AV.bytes head1), (AV.int n2), (AV.int i3), (AV.bytes state4), (.agg (GSlot.cs s5)), (AV.lists path6)] (AV.int r) := by
  refine ACp_of (AC2_of_body (vs := [.i r]) Tryd.func32 rfl rfl (Nat.le_of_ble_eq_true rfl) rfl ?_) (fun _ => .same _)
  unfold g_audit_Receipt at H
  refine as2 [(0, .i mode0), (1, .y head1), (2, .i n2), (3, .i i3), (4, .y state4), (5, .g (GSlot.cs s5)), (6, .p (AV.lists path6))] [] rfl rfl rfl ?_
  refine sg [0, 1] rfl ?_
  refine r_op rfl rfl (MakeD.opD (n_box 12 rfl rfl) rfl rfl rfl rfl) ?_
  refine rp rfl rfl (p_asg rfl rfl) ?_
  refine rz [(0, .i mode0), (1, .y head1), (2, .i n2), (3, .i i3), (4, .y state4), (6, .p (AV.lists path6)), (12, .q 12 (0))] [(12, .pure (GSlot.cs s5))] rfl rfl rfl ?_
  refine sg [0, 1, 2, 3, 4, 5, 6, 7, 8] rfl ?_
  refine rp rfl rfl (p_move rfl rfl) ?_
  refine rp rfl rfl (p_move rfl rfl) ?_
  refine rp rfl rfl (u_lda rfl rfl Tryd.underlying52 rfl in_52 rfl (Nat.succ_pos _) (Sub.refl _) (GSlot.len s5)) ?_
  refine bindK H fun r'1 h1 H => ?_
  refine rp rfl rfl (p_callp rfl rfl rfl Tryd.func36 rfl rfl (g_audit_Entry_ac h1) ⟨rfl, rfl, rfl, trivial⟩) ?_
  refine rp rfl rfl (p_move rfl rfl) ?_
  refine rp rfl rfl (p_ext rfl rfl rfl rfl) ?_
  refine rp rfl rfl (p_ext rfl rfl rfl rfl) ?_
  refine rp rfl rfl (p_asg rfl rfl) ?_
  refine rp rfl rfl (p_asg rfl rfl) ?_
  refine rz [(0, .i mode0), (1, .y head1), (2, .i n2), (3, .i i3), (6, .p (AV.lists path6)), (15, .y r'1.1), (16, .i r'1.2)] [] rfl rfl rfl ?_
  refine AW2_seq ?_
  refine sg [0, 1] rfl ?_
  refine rp rfl rfl (p_move rfl rfl) ?_
  refine rp rfl rfl (p_ine rfl rfl rfl) ?_
  refine rz [(0, .i mode0), (1, .y head1), (2, .i n2), (3, .i i3), (6, .p (AV.lists path6)), (15, .y r'1.1), (16, .i r'1.2), (25, .b (decide (r'1.2 ≠ (0 : Int))))] [] rfl rfl rfl ?_
  refine AW2_if (p := r'1.2 ≠ (0 : Int)) rfl (fun h2 => ?_) (fun h2 => ?_)
  · replace H := ite_then h2 H
    refine sg [0, 1] rfl ?_
    refine rp rfl rfl (p_move rfl rfl) ?_
    refine rp rfl rfl (p_asg rfl rfl) ?_
    refine rz [(14, .i r'1.2)] [] rfl rfl rfl ?_
    refine AW2_ret ?_
    have hz := some_elim H
    subst hz
    exact ⟨⟨res_tmp (.same _), trivial⟩, trivial⟩
  · replace H := ite_else h2 H
    refine as2 [(0, .i mode0), (1, .y head1), (2, .i n2), (3, .i i3), (6, .p (AV.lists path6)), (15, .y r'1.1)] [] rfl rfl rfl ?_
    refine AW2_skip ?_
    refine sg [0, 1, 2, 3, 4, 5, 6, 7] rfl ?_
    refine rp rfl rfl (p_move rfl rfl) ?_
    refine rp rfl rfl (p_move rfl rfl) ?_
    refine rp rfl rfl (p_move rfl rfl) ?_
    refine rp rfl rfl (p_move rfl rfl) ?_
    refine rp rfl rfl (p_move rfl rfl) ?_
    refine rp rfl rfl (p_move rfl rfl) ?_
    refine bindK H fun r'2 h3 H => ?_
    refine rp rfl rfl (p_callp rfl rfl rfl Tryd.func59 rfl rfl (g_roll_CheckInclude_ac h3) ⟨rfl, rfl, rfl, rfl, rfl, rfl, trivial⟩) ?_
    refine rp rfl rfl (p_asg rfl rfl) ?_
    refine rz [(14, .i r'2)] [] rfl rfl rfl ?_
    refine AW2_ret ?_
    have hz := some_elim H
    subst hz
    exact ⟨⟨res_tmp (.same _), trivial⟩, trivial⟩

/-! chirographref.badMode -/
noncomputable def g_ref_badMode (mode0 : Int) : Option (Bool) :=
  some (decide ((mode0 ≠ (1 : Int)) ∧ (mode0 ≠ (2 : Int))))
set_option maxHeartbeats 4000000 in
set_option maxRecDepth 100000 in
theorem g_ref_badMode_ac {mode0 : Int} {r : Bool} (H : g_ref_badMode mode0 = some r) : ACp Tryd.prog 80 [(AV.int mode0)] (AV.bool r) := by
  refine ACp_of (AC2_of_body (vs := [.b r]) Tryd.func80 rfl rfl (Nat.le_of_ble_eq_true rfl) rfl ?_) (fun _ => .same _)
  unfold g_ref_badMode at H
  refine as2 [(0, .i mode0)] [] rfl rfl rfl ?_
  refine sg [0] rfl ?_
  refine rp rfl rfl (p_asg rfl rfl) ?_
  refine rz [(0, .i mode0)] [] rfl rfl rfl ?_
  refine AW2_seq ?_
  refine AW2_mid (⟨[(2, .b (decide ((mode0 ≠ (1 : Int)) ∧ (mode0 ≠ (2 : Int)))))], [], 9⟩ : TS) ?_ ?_
  · refine AW2_reg [0, 1, 2, 3, 4, 5, 6] rfl ?_
    refine rp rfl rfl (p_move rfl rfl) ?_
    refine rp rfl rfl (p_ine rfl rfl rfl) ?_
    refine rp rfl rfl (p_move rfl rfl) ?_
    refine (Classical.em (mode0 ≠ (1 : Int))).elim (fun h1 => ?_) (fun h1 => ?_)
    · refine r_on rfl rfl rfl rfl (decide_eq_true (p := mode0 ≠ (1 : Int)) h1) rfl (PureD.opD (p_move rfl rfl)) ?_
      refine r_on rfl rfl rfl rfl (decide_eq_true (p := mode0 ≠ (1 : Int)) h1) rfl (PureD.opD (p_ine rfl rfl rfl)) ?_
      refine rp rfl rfl (p_pkt rfl rfl (decide_eq_true (p := mode0 ≠ (1 : Int)) h1) (tb ((and_l (p := mode0 ≠ (1 : Int)) (q := mode0 ≠ (2 : Int)) h1)))) ?_
      refine rp rfl rfl (p_asg rfl rfl) ?_
      refine rs [(2, .b (decide ((mode0 ≠ (1 : Int)) ∧ (mode0 ≠ (2 : Int)))))] [] rfl rfl rfl ?_
      exact RunW_nil rfl
    · refine r_off rfl rfl rfl rfl (decide_eq_false (p := mode0 ≠ (1 : Int)) h1) rfl rfl ?_
      refine r_off rfl rfl rfl rfl (decide_eq_false (p := mode0 ≠ (1 : Int)) h1) rfl rfl ?_
      refine rp rfl rfl (p_pkf rfl rfl (decide_eq_false (p := mode0 ≠ (1 : Int)) h1) (tb (decide_eq_false (p := (mode0 ≠ (1 : Int)) ∧ (mode0 ≠ (2 : Int))) (fun x => h1 x.1)).symm)) ?_
      refine rp rfl rfl (p_asg rfl rfl) ?_
      refine rs [(2, .b (decide ((mode0 ≠ (1 : Int)) ∧ (mode0 ≠ (2 : Int)))))] [] rfl rfl rfl ?_
      exact RunW_nil rfl
  · refine AW2_ret ?_
    have hz := some_elim H
    subst hz
    exact ⟨⟨res_tmp (.same _), trivial⟩, trivial⟩

/-! chirographref.big -/
noncomputable def g_ref_big_l0 (size1 : Int) : UInt64 × (List UInt8) × Int → Option ((UInt64 × (List UInt8) × Int) ⊕ (((List UInt8))))
  | (n0_0, s5_0, t7_0) => (if t7_0 < size1 then if ([n0_0.toUInt8] : List UInt8).length + s5_0.length ≤ 9223372036854775807 then some (.inl (shr_u64 n0_0 8, ([n0_0.toUInt8] : List UInt8) ++ s5_0, w64 (t7_0 + (1 : Int)))) else none else some (.inr s5_0))
noncomputable def g_ref_big (n0 : UInt64) (size1 : Int) : Option ((List UInt8)) :=
  (loopO (g_ref_big_l0 size1) (n0, [], (0 : Int))).bind fun y'4 => some y'4
set_option maxHeartbeats 4000000 in
set_option maxRecDepth 100000 in
theorem g_ref_big_ac {n0 : UInt64} {size1 : Int} {r : (List UInt8)} (H : g_ref_big n0 size1 = some r) : ACp Tryd.prog 56 [(AV.u64 n0), (AV.int size1)] (AV.txt r) := by
  refine ACp_of (AC2_of_body (vs := [.t r]) Tryd.func56 rfl rfl (Nat.le_of_ble_eq_true rfl) rfl ?_) (fun _ => .same _)
  unfold g_ref_big at H
  refine as2 [(0, .p (AV.u64 n0)), (1, .i size1)] [] rfl rfl rfl ?_
  refine sg [0] rfl ?_
  refine rp rfl rfl (p_asg rfl rfl) ?_
  refine rz [(0, .p (AV.u64 n0)), (1, .i size1)] [] rfl rfl rfl ?_
  refine sg [0] rfl ?_
  refine rp rfl rfl (p_asg rfl rfl) ?_
  refine rz [(0, .p (AV.u64 n0)), (1, .i size1), (5, .t [])] [] rfl rfl rfl ?_
  refine AW2_seq ?_
  refine sg [0, 1] rfl ?_
  refine rp rfl rfl (p_move rfl rfl) ?_
  refine rp rfl rfl (p_move rfl rfl) ?_
  refine rz [(0, .p (AV.u64 n0)), (5, .t []), (6, .i size1), (7, .i (0 : Int))] [] rfl rfl rfl ?_
  refine AW2_block ?_
  refine as2 [(0, .p (AV.u64 n0)), (5, .t []), (6, .i size1), (7, .i (0 : Int))] [] rfl rfl rfl ?_
  refine bindK H fun y'4 h3 H => ?_
  refine AW2_loopO (fun a'1 : UInt64 × (List UInt8) × Int => (⟨[(0, .p (AV.u64 a'1.1)), (5, .t a'1.2.1), (6, .i size1), (7, .i a'1.2.2)], [], 19⟩ : TS)) (fun (y'2 : ((List UInt8))) e s' => e = Go.Exit.exit 0 ∧ s' = (⟨[(5, .t y'2)], [], 19⟩ : TS)) h3 rfl (fun a x hx => ?_) (fun e s' hs => ?_)
  · clear H
    obtain ⟨n0_0, s5_0, t7_0⟩ := a
    have H := hx
    clear hx
    unfold g_ref_big_l0 at H
    refine sg [0] rfl ?_
    refine rp rfl rfl (p_bin rfl rfl rfl rfl) ?_
    refine rz [(0, .p (AV.u64 n0_0)), (5, .t s5_0), (6, .i size1), (7, .i t7_0), (8, .b (decide (t7_0 < size1)))] [] rfl rfl rfl ?_
    refine AW2_seq ?_
    refine AW2_if (p := t7_0 < size1) rfl (fun h1 => ?_) (fun h1 => ?_)
    · replace H := ite_then h1 H
      refine as2 [(0, .p (AV.u64 n0_0)), (5, .t s5_0), (6, .i size1), (7, .i t7_0)] [] rfl rfl rfl ?_
      refine AW2_skip ?_
      refine AW2_seq ?_
      refine AW2_block ?_
      refine sg [0, 1, 2, 3, 4, 5, 6] rfl ?_
      refine rp rfl rfl (p_move rfl rfl) ?_
      refine rp rfl rfl (p_u64_u8 (a := n0_0) rfl Tryd.underlying22 Tryd.underlying5 rfl) ?_
      refine r_op rfl rfl (MakeD.opD (u_bs 11 rfl Tryd.underlying33 in_5 rfl one_5 (by decide) (by decide) rfl rfl rfl) rfl rfl rfl rfl) ?_
      refine rp rfl rfl (p_cbo (bs := ([n0_0.toUInt8] : List UInt8)) rfl rfl Tryd.underlying33 Tryd.underlying5 Tryd.underlying9 rfl rfl) ?_
      refine rp rfl rfl (p_move rfl rfl) ?_
      refine chkK H fun h2 H => ?_
      refine rp rfl rfl (p_cat rfl rfl rfl h2) ?_
      refine rp rfl rfl (p_asg rfl rfl) ?_
      refine rz [(0, .p (AV.u64 n0_0)), (5, .t (([n0_0.toUInt8] : List UInt8) ++ s5_0)), (6, .i size1), (7, .i t7_0)] [] rfl rfl rfl ?_
      refine AW2_reg [0, 1, 2] rfl ?_
      refine rp rfl rfl (p_move rfl rfl) ?_
      refine rp rfl rfl (p_u64shr (n := 8) rfl rfl rfl rfl) ?_
      refine rp rfl rfl (p_asg rfl rfl) ?_
      refine rz [(0, .p (AV.u64 (shr_u64 n0_0 8))), (5, .t (([n0_0.toUInt8] : List UInt8) ++ s5_0)), (6, .i size1), (7, .i t7_0)] [] rfl rfl rfl ?_
      refine AW2_reg [0, 1] rfl ?_
      refine rp rfl rfl (p_bin rfl rfl rfl rfl) ?_
      refine rp rfl rfl (p_move rfl rfl) ?_
      refine rz [(0, .p (AV.u64 (shr_u64 n0_0 8))), (5, .t (([n0_0.toUInt8] : List UInt8) ++ s5_0)), (6, .i size1), (7, .i (w64 (t7_0 + (1 : Int))))] [] rfl rfl rfl ?_
      have hz := some_elim H
      subst hz
      exact ⟨rfl, rfl⟩
    · replace H := ite_else h1 H
      refine as2 [(5, .t s5_0)] [] rfl rfl rfl ?_
      refine AW2_exit ?_
      refine thenQ2_exit ?_
      have hz := some_elim H
      subst hz
      exact ⟨rfl, rfl⟩
  · obtain ⟨rfl, rfl⟩ := hs
    refine ⟨by simp, ?_⟩
    refine blockQ2_exit ?_
    refine sg [0, 1] rfl ?_
    refine rp rfl rfl (p_move rfl rfl) ?_
    refine rp rfl rfl (p_asg rfl rfl) ?_
    refine rz [(4, .t y'4)] [] rfl rfl rfl ?_
    refine AW2_ret ?_
    have hz := some_elim H
    subst hz
    exact ⟨⟨res_tmp (.same _), trivial⟩, trivial⟩

/-! chirographref.framed -/
noncomputable def g_ref_framed_l0 (parts1 : List (List UInt8)) : (List UInt8) × Int → Option (((List UInt8) × Int) ⊕ (((List UInt8))))
  | (s5_0, t17_0) => (if t17_0 < (parts1.length : Int) then if 0 ≤ t17_0 ∧ t17_0 < (parts1.length : Int) then (g_ref_big (UInt64.ofInt ((lrd parts1 t17_0.toNat).length : Int)) (4 : Int)).bind fun r'1 => if r'1.length + (lrd parts1 t17_0.toNat).length ≤ 9223372036854775807 then if s5_0.length + (r'1 ++ (lrd parts1 t17_0.toNat)).length ≤ 9223372036854775807 then some (.inl (s5_0 ++ (r'1 ++ (lrd parts1 t17_0.toNat)), w64 (t17_0 + (1 : Int)))) else none else none else none else some (.inr s5_0))
noncomputable def g_ref_framed (tag0 : Int) (parts1 : List (List UInt8)) : Option ((List UInt8)) :=
  (loopO (g_ref_framed_l0 parts1) (([UInt8.ofInt tag0, UInt8.ofInt (parts1.length : Int)] : List UInt8), (0 : Int))).bind fun y'5 => some y'5
set_option maxHeartbeats 4000000 in
set_option maxRecDepth 100000 in
theorem g_ref_framed_ac {tag0 : Int} {parts1 : List (List UInt8)} {r : (List UInt8)} (H : g_ref_framed tag0 parts1 = some r) : ACp Tryd.prog 94 [(AV.int tag0), (AV.lists parts1)] (AV.txt r) := by
  refine ACp_of (AC2_of_body (vs := [.t r]) Tryd.func94 rfl rfl (Nat.le_of_ble_eq_true rfl) rfl ?_) (fun _ => .same _)
  unfold g_ref_framed at H
  refine as2 [(0, .i tag0), (1, .p (AV.lists parts1))] [] rfl rfl rfl ?_
  refine sg [0] rfl ?_
  refine rp rfl rfl (p_asg rfl rfl) ?_
  refine rz [(0, .i tag0), (1, .p (AV.lists parts1))] [] rfl rfl rfl ?_
  refine sg [0, 1, 2, 3, 4, 5, 6, 7] rfl ?_
  refine rp rfl rfl (p_move rfl rfl) ?_
  refine rp rfl rfl (p_i_u8 rfl Tryd.underlying3 Tryd.underlying5 rfl) ?_
  refine rp rfl rfl (p_move rfl rfl) ?_
  refine rp rfl rfl (p_lenl rfl Tryd.underlying53 rfl rfl) ?_
  refine rp rfl rfl (p_i_u8 rfl Tryd.underlying3 Tryd.underlying5 rfl) ?_
  refine r_op rfl rfl (MakeD.opD (u_bs 13 rfl Tryd.underlying33 in_5 rfl one_5 (by decide) (by decide) rfl rfl rfl) rfl rfl rfl rfl) ?_
  refine rp rfl rfl (p_cbo (bs := ([UInt8.ofInt tag0, UInt8.ofInt (parts1.length : Int)] : List UInt8)) rfl rfl Tryd.underlying33 Tryd.underlying5 Tryd.underlying9 rfl rfl) ?_
  refine rp rfl rfl (p_asg rfl rfl) ?_
  refine rz [(1, .p (AV.lists parts1)), (5, .t ([UInt8.ofInt tag0, UInt8.ofInt (parts1.length : Int)] : List UInt8))] [] rfl rfl rfl ?_
  refine AW2_seq ?_
  refine sg [0, 1, 2] rfl ?_
  refine rp rfl rfl (p_move rfl rfl) ?_
  refine rp rfl rfl (p_lenl rfl Tryd.underlying53 rfl rfl) ?_
  refine rp rfl rfl (p_move rfl rfl) ?_
  refine rz [(5, .t ([UInt8.ofInt tag0, UInt8.ofInt (parts1.length : Int)] : List UInt8)), (15, .p (AV.lists parts1)), (16, .i (parts1.length : Int)), (17, .i (0 : Int))] [] rfl rfl rfl ?_
  refine AW2_block ?_
  refine as2 [(5, .t ([UInt8.ofInt tag0, UInt8.ofInt (parts1.length : Int)] : List UInt8)), (15, .p (AV.lists parts1)), (16, .i (parts1.length : Int)), (17, .i (0 : Int))] [] rfl rfl rfl ?_
  refine bindK H fun y'5 h6 H => ?_
  refine AW2_loopO (fun a'2 : (List UInt8) × Int => (⟨[(5, .t a'2.1), (15, .p (AV.lists parts1)), (16, .i (parts1.length : Int)), (17, .i a'2.2)], [], 32⟩ : TS)) (fun (y'3 : ((List UInt8))) e s' => e = Go.Exit.exit 0 ∧ s' = (⟨[(5, .t y'3)], [], 32⟩ : TS)) h6 rfl (fun a x hx => ?_) (fun e s' hs => ?_)
  · clear H
    obtain ⟨s5_0, t17_0⟩ := a
    have H := hx
    clear hx
    unfold g_ref_framed_l0 at H
    refine sg [0] rfl ?_
    refine rp rfl rfl (p_bin rfl rfl rfl rfl) ?_
    refine rz [(5, .t s5_0), (15, .p (AV.lists parts1)), (16, .i (parts1.length : Int)), (17, .i t17_0), (18, .b (decide (t17_0 < (parts1.length : Int))))] [] rfl rfl rfl ?_
    refine AW2_seq ?_
    refine AW2_if (p := t17_0 < (parts1.length : Int)) rfl (fun h1 => ?_) (fun h1 => ?_)
    · replace H := ite_then h1 H
      refine as2 [(5, .t s5_0), (15, .p (AV.lists parts1)), (16, .i (parts1.length : Int)), (17, .i t17_0)] [] rfl rfl rfl ?_
      refine AW2_skip ?_
      refine AW2_seq ?_
      refine AW2_block ?_
      refine sg [0, 1, 2] rfl ?_
      refine chkK H fun h2 H => ?_
      refine rp rfl rfl (u_ixl rfl rfl Tryd.underlying53 in_33 rfl rfl (ixe h2) (ixn h2) (lne (ixn h2))) ?_
      refine rp rfl rfl (u_ld rfl rfl Tryd.underlying33 rfl rfl (Sub.map default (ixn h2))) ?_
      refine rp rfl rfl (p_asg rfl rfl) ?_
      refine rz [(5, .t s5_0), (7, .y (lrd parts1 t17_0.toNat)), (15, .p (AV.lists parts1)), (16, .i (parts1.length : Int)), (17, .i t17_0)] [] rfl rfl rfl ?_
      refine bindK H fun r'1 h3 H => ?_
      refine chkK H fun h4 H => ?_
      refine chkK H fun h5 H => ?_
      refine AW2_ghoQ ?_
      refine AW2_draw 8 [8, 9] (fun k => ([.t s5_0, .y (lrd parts1 t17_0.toNat), .i ((lrd parts1 t17_0.toNat).length : Int), .p (AV.u64 (UInt64.ofInt ((lrd parts1 t17_0.toNat).length : Int))), .t r'1, .y (lrd parts1 t17_0.toNat), .t (lrd parts1 t17_0.toNat), .t (r'1 ++ (lrd parts1 t17_0.toNat))] : List TV).getD k TV.any) (fun k => ([[(5, none)], [(7, none)], [(22, some 1)], [(23, some 2)], [(24, some 3)], [(7, none)], [(26, some 5)], [(25, some 4), (27, some 6)]] : List (List (Nat × Option Nat))).getD k []) [(5, none), (15, none), (16, none), (17, none), (21, some 0), (28, some 7)] [] (fun k => ([[], [], [1], [1, 2], [1, 2, 3], [], [5], [1, 2, 3, 4, 5, 6], [0, 1, 2, 3, 4, 5, 6, 7], [0, 1, 2, 3, 4, 5, 6, 7, 8]] : List (List Nat)).getD k []) mixed (by kernel_rfl) rfl rfl (a_op (g_x rfl (x_p rfl (p_move rfl rfl) rfl)) (a_op (g_x rfl (x_p rfl (p_move rfl rfl) rfl)) (a_op (g_x rfl (x_p rfl (p_lenl rfl Tryd.underlying33 rfl rfl) rfl)) (a_op (g_x rfl (x_p rfl (p_i_u64 rfl Tryd.underlying3 Tryd.underlying22 rfl) rfl)) (a_op (g_x rfl (x_p rfl (p_callp rfl rfl rfl Tryd.func56 rfl rfl (g_ref_big_ac h3) ⟨rfl, rfl, trivial⟩) rfl)) (a_op (g_x rfl (x_p rfl (p_move rfl rfl) rfl)) (a_op (g_x rfl (x_p rfl (p_cb rfl rfl Tryd.underlying33 Tryd.underlying5 Tryd.underlying9 rfl) rfl)) (a_op (g_x rfl (x_p rfl (p_cat rfl rfl rfl h4) rfl)) (a_nil))))))))) ?_
      refine t_op rfl rfl (PureD.opD (p_cat rfl rfl rfl h5)) ?_
      refine t_op rfl rfl (PureD.opD (p_asg rfl rfl)) ?_
      refine t_gho (Gho_st (L := [(5, .t (s5_0 ++ (r'1 ++ (lrd parts1 t17_0.toNat)))), (15, .p (AV.lists parts1)), (16, .i (parts1.length : Int)), (17, .i t17_0)]) (H := []) (N := 32) rfl ⟨TLes.same _, TLes.same _, TLes.same _, TLes.same _, trivial⟩ trivial) ?_
      refine AW2_reg [0, 1] rfl ?_
      refine rp rfl rfl (p_bin rfl rfl rfl rfl) ?_
      refine rp rfl rfl (p_move rfl rfl) ?_
      refine rz [(5, .t (s5_0 ++ (r'1 ++ (lrd parts1 t17_0.toNat)))), (15, .p (AV.lists parts1)), (16, .i (parts1.length : Int)), (17, .i (w64 (t17_0 + (1 : Int))))] [] rfl rfl rfl ?_
      have hz := some_elim H
      subst hz
      exact ⟨rfl, rfl⟩
    · replace H := ite_else h1 H
      refine as2 [(5, .t s5_0)] [] rfl rfl rfl ?_
      refine AW2_exit ?_
      refine thenQ2_exit ?_
      have hz := some_elim H
      subst hz
      exact ⟨rfl, rfl⟩
  · obtain ⟨rfl, rfl⟩ := hs
    refine ⟨by simp, ?_⟩
    refine blockQ2_exit ?_
    refine sg [0, 1] rfl ?_
    refine rp rfl rfl (p_move rfl rfl) ?_
    refine rp rfl rfl (p_asg rfl rfl) ?_
    refine rz [(4, .t y'5)] [] rfl rfl rfl ?_
    refine AW2_ret ?_
    have hz := some_elim H
    subst hz
    exact ⟨⟨res_tmp (.same _), trivial⟩, trivial⟩

/-! chirographref.FrameOf -/
noncomputable def g_ref_FrameOf_l0 (parts1 : List (List UInt8)) : Int × Int → Option ((Int × Int) ⊕ (((List UInt8) × Int) ⊕ Unit))
  | (room6_0, t24_0) => (if t24_0 < (parts1.length : Int) then if 0 ≤ t24_0 ∧ t24_0 < (parts1.length : Int) then (if ((lrd parts1 t24_0.toNat).length : Int) > room6_0 then some (.inr (.inl (([] : List UInt8), (1 : Int)))) else some (.inl (w64 (room6_0 - ((lrd parts1 t24_0.toNat).length : Int)), w64 (t24_0 + (1 : Int))))) else none else some (.inr (.inr ())))
noncomputable def g_ref_FrameOf (tag0 : Int) (parts1 : List (List UInt8)) : Option ((List UInt8) × Int) :=
  (if (tag0 < (1 : Int)) ∨ (tag0 > (9 : Int)) then some (([] : List UInt8), (6 : Int)) else (if (parts1.length : Int) > (8 : Int) then some (([] : List UInt8), (1 : Int)) else (loopO (g_ref_FrameOf_l0 parts1) (w64 ((16777214 : Int) - (w64 ((4 : Int) * (parts1.length : Int)))), (0 : Int))).bind fun o'4 => match o'4 with | .inl y'5 => some y'5 | .inr (y'6) => (g_ref_framed tag0 parts1).bind fun r'7 => some (r'7, (0 : Int))))
set_option maxHeartbeats 4000000 in
set_option maxRecDepth 100000 in
theorem g_ref_FrameOf_ac2 {tag0 : Int} {parts1 : List (List UInt8)} {r : (List UInt8) × Int} (H : g_ref_FrameOf tag0 parts1 = some r) : AC2 Tryd.prog 83 (pureT [(AV.int tag0), (AV.lists parts1)]) [] (retV [.c (.own 4 r.1.length 1), .i r.2]) [(4, .pure (bcells r.1))] := by
  refine AC2_of_body (vs := [.c (.own 4 r.1.length 1), .i r.2]) Tryd.func83 rfl rfl (Nat.le_of_ble_eq_true rfl) rfl ?_
  unfold g_ref_FrameOf at H
  refine as2 [(0, .i tag0), (1, .p (AV.lists parts1))] [] rfl rfl rfl ?_
  refine sg [0, 1] rfl ?_
  refine rp rfl rfl (p_asgn rfl) ?_
  refine rp rfl rfl (p_asg rfl rfl) ?_
  refine rz [(0, .i tag0), (1, .p (AV.lists parts1))] [] rfl rfl rfl ?_
  refine AW2_seq ?_
  refine AW2_seq ?_
  refine AW2_mid (⟨[(0, .i tag0), (1, .p (AV.lists parts1)), (14, .b (decide ((tag0 < (1 : Int)) ∨ (tag0 > (9 : Int)))))], [], 41⟩ : TS) ?_ ?_
  · refine AW2_reg [0, 1, 2, 3, 4, 5] rfl ?_
    refine rp rfl rfl (p_move rfl rfl) ?_
    refine rp rfl rfl (p_bin rfl rfl rfl rfl) ?_
    refine rp rfl rfl (p_move rfl rfl) ?_
    refine (Classical.em (tag0 < (1 : Int))).elim (fun h1 => ?_) (fun h1 => ?_)
    · refine r_off rfl rfl rfl rfl (decide_eq_true (p := tag0 < (1 : Int)) h1) rfl rfl ?_
      refine r_off rfl rfl rfl rfl (decide_eq_true (p := tag0 < (1 : Int)) h1) rfl rfl ?_
      refine rp rfl rfl (p_pkt rfl rfl (decide_eq_true (p := tag0 < (1 : Int)) h1) (tb (decide_eq_true (p := (tag0 < (1 : Int)) ∨ (tag0 > (9 : Int))) (Or.inl h1)).symm)) ?_
      refine rs [(0, .i tag0), (1, .p (AV.lists parts1)), (14, .b (decide ((tag0 < (1 : Int)) ∨ (tag0 > (9 : Int)))))] [] rfl rfl rfl ?_
      exact RunW_nil rfl
    · refine r_on rfl rfl rfl rfl (decide_eq_false (p := tag0 < (1 : Int)) h1) rfl (PureD.opD (p_move rfl rfl)) ?_
      refine r_on rfl rfl rfl rfl (decide_eq_false (p := tag0 < (1 : Int)) h1) rfl (PureD.opD (p_bin rfl rfl rfl rfl)) ?_
      refine rp rfl rfl (p_pkf rfl rfl (decide_eq_false (p := tag0 < (1 : Int)) h1) (tb ((or_l (p := tag0 < (1 : Int)) (q := tag0 > (9 : Int)) h1)))) ?_
      refine rs [(0, .i tag0), (1, .p (AV.lists parts1)), (14, .b (decide ((tag0 < (1 : Int)) ∨ (tag0 > (9 : Int)))))] [] rfl rfl rfl ?_
      exact RunW_nil rfl
  · refine AW2_if (p := (tag0 < (1 : Int)) ∨ (tag0 > (9 : Int))) rfl (fun h2 => ?_) (fun h2 => ?_)
    · replace H := ite_then h2 H
      refine sg [0, 1] rfl ?_
      refine rp rfl rfl (p_asgn rfl) ?_
      refine rp rfl rfl (p_asg rfl rfl) ?_
      refine rz [(4, .p .nil), (5, .i (6 : Int))] [] rfl rfl rfl ?_
      refine as2 [(4, .p .nil), (5, .i (6 : Int))] [] rfl rfl rfl ?_
      refine AW2_gho (Gho_own (d := 4) (b := 4) (z := 1) rfl rfl rfl rfl) ?_
      refine AW2_st [(4, .c (.own 4 ([] : List UInt8).length 1)), (5, .i (6 : Int))] [(4, .pure (bcells ([] : List UInt8)))] rfl ⟨TLes.own rfl, TLes.same _, trivial⟩ ⟨rfl, trivial⟩ ?_
      refine AW2_ret ?_
      have hz := some_elim H
      subst hz
      exact ⟨⟨res_tmp (.same _), res_tmp (.same _), trivial⟩, ⟨rfl, trivial⟩⟩
    · replace H := ite_else h2 H
      refine as2 [(0, .i tag0), (1, .p (AV.lists parts1))] [] rfl rfl rfl ?_
      refine AW2_skip ?_
      refine AW2_seq ?_
      refine sg [0, 1, 2] rfl ?_
      refine rp rfl rfl (p_move rfl rfl) ?_
      refine rp rfl rfl (p_lenl rfl Tryd.underlying53 rfl rfl) ?_
      refine rp rfl rfl (p_bin rfl rfl rfl rfl) ?_
      refine rz [(0, .i tag0), (1, .p (AV.lists parts1)), (17, .b (decide ((parts1.length : Int) > (8 : Int))))] [] rfl rfl rfl ?_
      refine AW2_if (p := (parts1.length : Int) > (8 : Int)) rfl (fun h3 => ?_) (fun h3 => ?_)
      · replace H := ite_then h3 H
        refine sg [0, 1] rfl ?_
        refine rp rfl rfl (p_asgn rfl) ?_
        refine rp rfl rfl (p_asg rfl rfl) ?_
        refine rz [(4, .p .nil), (5, .i (1 : Int))] [] rfl rfl rfl ?_
        refine as2 [(4, .p .nil), (5, .i (1 : Int))] [] rfl rfl rfl ?_
        refine AW2_gho (Gho_own (d := 4) (b := 4) (z := 1) rfl rfl rfl rfl) ?_
        refine AW2_st [(4, .c (.own 4 ([] : List UInt8).length 1)), (5, .i (1 : Int))] [(4, .pure (bcells ([] : List UInt8)))] rfl ⟨TLes.own rfl, TLes.same _, trivial⟩ ⟨rfl, trivial⟩ ?_
        refine AW2_ret ?_
        have hz := some_elim H
        subst hz
        exact ⟨⟨res_tmp (.same _), res_tmp (.same _), trivial⟩, ⟨rfl, trivial⟩⟩
      · replace H := ite_else h3 H
        refine as2 [(0, .i tag0), (1, .p (AV.lists parts1))] [] rfl rfl rfl ?_
        refine AW2_skip ?_
        refine sg [0, 1, 2, 3, 4] rfl ?_
        refine rp rfl rfl (p_move rfl rfl) ?_
        refine rp rfl rfl (p_lenl rfl Tryd.underlying53 rfl rfl) ?_
        refine rp rfl rfl (p_bin rfl rfl rfl rfl) ?_
        refine rp rfl rfl (p_bin rfl rfl rfl rfl) ?_
        refine rp rfl rfl (p_asg rfl rfl) ?_
        refine rz [(0, .i tag0), (1, .p (AV.lists parts1)), (6, .i (w64 ((16777214 : Int) - (w64 ((4 : Int) * (parts1.length : Int))))))] [] rfl rfl rfl ?_
        refine AW2_seq ?_
        refine sg [0, 1, 2] rfl ?_
        refine rp rfl rfl (p_move rfl rfl) ?_
        refine rp rfl rfl (p_lenl rfl Tryd.underlying53 rfl rfl) ?_
        refine rp rfl rfl (p_move rfl rfl) ?_
        refine rz [(0, .i tag0), (1, .p (AV.lists parts1)), (6, .i (w64 ((16777214 : Int) - (w64 ((4 : Int) * (parts1.length : Int)))))), (22, .p (AV.lists parts1)), (23, .i (parts1.length : Int)), (24, .i (0 : Int))] [] rfl rfl rfl ?_
        refine AW2_block ?_
        refine as2 [(0, .i tag0), (1, .p (AV.lists parts1)), (6, .i (w64 ((16777214 : Int) - (w64 ((4 : Int) * (parts1.length : Int)))))), (22, .p (AV.lists parts1)), (23, .i (parts1.length : Int)), (24, .i (0 : Int))] [] rfl rfl rfl ?_
        refine bindK H fun o'4 h7 H => ?_
        refine AW2_loopO (fun a'1 : Int × Int => (⟨[(0, .i tag0), (1, .p (AV.lists parts1)), (6, .i a'1.1), (22, .p (AV.lists parts1)), (23, .i (parts1.length : Int)), (24, .i a'1.2)], [], 41⟩ : TS)) (fun (o : ((List UInt8) × Int) ⊕ Unit) e s' => match o with | .inl y'2 => e = Go.Exit.ret ∧ ResAll Tryd.prog s' [ResultVar.tmp 4, ResultVar.tmp 5] [.c (.own 4 y'2.1.length 1), .i y'2.2] ∧ HFits s' [(4, .pure (bcells y'2.1))] | .inr (y'3) => e = Go.Exit.exit 0 ∧ s' = (⟨[(0, .i tag0), (1, .p (AV.lists parts1))], [], 41⟩ : TS)) h7 rfl (fun a x hx => ?_) (fun e s' hs => ?_)
        · clear H
          obtain ⟨room6_0, t24_0⟩ := a
          have H := hx
          clear hx
          unfold g_ref_FrameOf_l0 at H
          refine sg [0] rfl ?_
          refine rp rfl rfl (p_bin rfl rfl rfl rfl) ?_
          refine rz [(0, .i tag0), (1, .p (AV.lists parts1)), (6, .i room6_0), (22, .p (AV.lists parts1)), (23, .i (parts1.length : Int)), (24, .i t24_0), (25, .b (decide (t24_0 < (parts1.length : Int))))] [] rfl rfl rfl ?_
          refine AW2_seq ?_
          refine AW2_if (p := t24_0 < (parts1.length : Int)) rfl (fun h4 => ?_) (fun h4 => ?_)
          · replace H := ite_then h4 H
            refine as2 [(0, .i tag0), (1, .p (AV.lists parts1)), (6, .i room6_0), (22, .p (AV.lists parts1)), (23, .i (parts1.length : Int)), (24, .i t24_0)] [] rfl rfl rfl ?_
            refine AW2_skip ?_
            refine AW2_seq ?_
            refine AW2_block ?_
            refine sg [0, 1, 2] rfl ?_
            refine chkK H fun h5 H => ?_
            refine rp rfl rfl (u_ixl rfl rfl Tryd.underlying53 in_33 rfl rfl (ixe h5) (ixn h5) (lne (ixn h5))) ?_
            refine rp rfl rfl (u_ld rfl rfl Tryd.underlying33 rfl rfl (Sub.map default (ixn h5))) ?_
            refine rp rfl rfl (p_asg rfl rfl) ?_
            refine rz [(0, .i tag0), (1, .p (AV.lists parts1)), (6, .i room6_0), (8, .y (lrd parts1 t24_0.toNat)), (22, .p (AV.lists parts1)), (23, .i (parts1.length : Int)), (24, .i t24_0)] [] rfl rfl rfl ?_
            refine AW2_seq ?_
            refine sg [0, 1, 2, 3] rfl ?_
            refine rp rfl rfl (p_move rfl rfl) ?_
            refine rp rfl rfl (p_lenl rfl Tryd.underlying33 rfl rfl) ?_
            refine rp rfl rfl (p_move rfl rfl) ?_
            refine rp rfl rfl (p_bin rfl rfl rfl rfl) ?_
            refine rz [(0, .i tag0), (1, .p (AV.lists parts1)), (6, .i room6_0), (8, .y (lrd parts1 t24_0.toNat)), (22, .p (AV.lists parts1)), (23, .i (parts1.length : Int)), (24, .i t24_0), (31, .b (decide (((lrd parts1 t24_0.toNat).length : Int) > room6_0)))] [] rfl rfl rfl ?_
            refine AW2_if (p := ((lrd parts1 t24_0.toNat).length : Int) > room6_0) rfl (fun h6 => ?_) (fun h6 => ?_)
            · replace H := ite_then h6 H
              refine sg [0, 1] rfl ?_
              refine rp rfl rfl (p_asgn rfl) ?_
              refine rp rfl rfl (p_asg rfl rfl) ?_
              refine rz [(4, .p .nil), (5, .i (1 : Int))] [] rfl rfl rfl ?_
              refine as2 [(4, .p .nil), (5, .i (1 : Int))] [] rfl rfl rfl ?_
              refine AW2_gho (Gho_own (d := 4) (b := 4) (z := 1) rfl rfl rfl rfl) ?_
              refine AW2_st [(4, .c (.own 4 ([] : List UInt8).length 1)), (5, .i (1 : Int))] [(4, .pure (bcells ([] : List UInt8)))] rfl ⟨TLes.own rfl, TLes.same _, trivial⟩ ⟨rfl, trivial⟩ ?_
              refine AW2_ret ?_
              have hz := some_elim H
              subst hz
              exact ⟨rfl, ⟨res_tmp (.same _), res_tmp (.same _), trivial⟩, ⟨rfl, trivial⟩⟩
            · replace H := ite_else h6 H
              refine as2 [(0, .i tag0), (1, .p (AV.lists parts1)), (6, .i room6_0), (8, .y (lrd parts1 t24_0.toNat)), (22, .p (AV.lists parts1)), (23, .i (parts1.length : Int)), (24, .i t24_0)] [] rfl rfl rfl ?_
              refine AW2_skip ?_
              refine AW2_reg [0, 1, 2, 3, 4] rfl ?_
              refine rp rfl rfl (p_move rfl rfl) ?_
              refine rp rfl rfl (p_move rfl rfl) ?_
              refine rp rfl rfl (p_lenl rfl Tryd.underlying33 rfl rfl) ?_
              refine rp rfl rfl (p_bin rfl rfl rfl rfl) ?_
              refine rp rfl rfl (p_asg rfl rfl) ?_
              refine rz [(0, .i tag0), (1, .p (AV.lists parts1)), (6, .i (w64 (room6_0 - ((lrd parts1 t24_0.toNat).length : Int)))), (22, .p (AV.lists parts1)), (23, .i (parts1.length : Int)), (24, .i t24_0)] [] rfl rfl rfl ?_
              refine AW2_reg [0, 1] rfl ?_
              refine rp rfl rfl (p_bin rfl rfl rfl rfl) ?_
              refine rp rfl rfl (p_move rfl rfl) ?_
              refine rz [(0, .i tag0), (1, .p (AV.lists parts1)), (6, .i (w64 (room6_0 - ((lrd parts1 t24_0.toNat).length : Int)))), (22, .p (AV.lists parts1)), (23, .i (parts1.length : Int)), (24, .i (w64 (t24_0 + (1 : Int))))] [] rfl rfl rfl ?_
              have hz := some_elim H
              subst hz
              exact ⟨rfl, rfl⟩
          · replace H := ite_else h4 H
            refine as2 [(0, .i tag0), (1, .p (AV.lists parts1))] [] rfl rfl rfl ?_
            refine AW2_exit ?_
            refine thenQ2_exit ?_
            have hz := some_elim H
            subst hz
            exact ⟨rfl, rfl⟩
        · rcases o'4 with y'5 | y'6
          · obtain ⟨rfl, hs⟩ := hs
            refine ⟨by simp, ?_⟩
            have hz := some_elim H
            subst hz
            exact ⟨hs.1, hs.2⟩
          · obtain ⟨rfl, rfl⟩ := hs
            refine ⟨by simp, ?_⟩
            refine blockQ2_exit ?_
            refine sg [0, 1, 2, 3, 4, 5] rfl ?_
            refine rp rfl rfl (p_move rfl rfl) ?_
            refine rp rfl rfl (p_move rfl rfl) ?_
            refine bindK H fun r'7 h8 H => ?_
            refine rp rfl rfl (p_callp rfl rfl rfl Tryd.func94 rfl rfl (g_ref_framed_ac h8) ⟨rfl, rfl, trivial⟩) ?_
            refine r_op rfl rfl (MakeD.opD (n_sb 40 rfl Tryd.underlying9 Tryd.underlying33 Tryd.underlying5 rfl) rfl rfl rfl rfl) ?_
            refine rp rfl rfl (p_asg rfl rfl) ?_
            refine rp rfl rfl (p_asg rfl rfl) ?_
            refine rs [(4, .c (.own 40 r'7.length 1)), (5, .i (0 : Int))] [(40, .pure (bcells r'7))] rfl rfl rfl ?_
            refine RunW_gho (Gho_ren 40 4 rfl rfl rfl rfl rfl) ?_
            refine rz [(4, .c (.own 4 r'7.length 1)), (5, .i (0 : Int))] [(4, .pure (bcells r'7))] rfl rfl rfl ?_
            refine as2 [(4, .c (.own 4 r'7.length 1)), (5, .i (0 : Int))] [(4, .pure (bcells r'7))] rfl rfl rfl ?_
            refine AW2_ret ?_
            have hz := some_elim H
            subst hz
            exact ⟨⟨res_tmp (.same _), res_tmp (.same _), trivial⟩, ⟨rfl, trivial⟩⟩
theorem g_ref_FrameOf_ac {tag0 : Int} {parts1 : List (List UInt8)} {r : (List UInt8) × Int} (H : g_ref_FrameOf tag0 parts1 = some r) : ACp Tryd.prog 83 [(AV.int tag0), (AV.lists parts1)] (.tup [(AV.bytes r.1), (AV.int r.2)]) := ACp_pub (g_ref_FrameOf_ac2 H) (fun _ _ hm => lent_tup ⟨lent_own hm rfl (bl r.1) (by decide), .same _, trivial⟩)

/-! chirographref.hexWord -/
noncomputable def g_ref_hexWord_l0 (t17'1 : Int) (t16'2 : List UInt8) : UInt32 × Int → Option ((UInt32 × Int) ⊕ (UInt32))
  | (n5_0, t18_0) => (if t18_0 < t17'1 then if 0 ≤ t18_0 ∧ t18_0 < (t16'2.length : Int) then ((if (97 : UInt8) ≤ (lrd t16'2 t18_0.toNat) then some (((lrd t16'2 t18_0.toNat) - (97 : UInt8)) + (10 : UInt8)) else some ((lrd t16'2 t18_0.toNat) - (48 : UInt8)))).bind fun j'3 => some (.inl ((n5_0 * (16 : UInt32)) + j'3.toUInt32, w64 (t18_0 + (1 : Int)))) else none else some (.inr n5_0))
noncomputable def g_ref_hexWord (s0 : List UInt8) (i1 : Int) : Option (UInt32) :=
  if 0 ≤ w64 ((8 : Int) * i1) ∧ w64 ((8 : Int) * i1) ≤ w64 ((w64 ((8 : Int) * i1)) + (8 : Int)) ∧ w64 ((w64 ((8 : Int) * i1)) + (8 : Int)) ≤ (s0.length : Int) then letO (((cut s0 (w64 ((8 : Int) * i1)) (w64 ((w64 ((8 : Int) * i1)) + (8 : Int)))).length : Int)) fun t17'1 => letO ((cut s0 (w64 ((8 : Int) * i1)) (w64 ((w64 ((8 : Int) * i1)) + (8 : Int))))) fun t16'2 => (loopO (g_ref_hexWord_l0 t17'1 t16'2) ((0 : UInt32), (0 : Int))).bind fun y'7 => some y'7 else none
set_option maxHeartbeats 4000000 in
set_option maxRecDepth 100000 in
theorem g_ref_hexWord_ac {s0 : List UInt8} {i1 : Int} {r : UInt32} (H : g_ref_hexWord s0 i1 = some r) : ACp Tryd.prog 110 [(AV.txt s0), (AV.int i1)] (AV.u32 r) := by
  refine ACp_of (AC2_of_body (vs := [.p (AV.u32 r)]) Tryd.func110 rfl rfl (Nat.le_of_ble_eq_true rfl) rfl ?_) (fun _ => .same _)
  unfold g_ref_hexWord at H
  refine as2 [(0, .t s0), (1, .i i1)] [] rfl rfl rfl ?_
  refine sg [0] rfl ?_
  refine rp rfl rfl (p_asg rfl rfl) ?_
  refine rz [(0, .t s0), (1, .i i1)] [] rfl rfl rfl ?_
  refine sg [0] rfl ?_
  refine rp rfl rfl (p_asg rfl rfl) ?_
  refine rz [(0, .t s0), (1, .i i1), (5, .p (AV.u32 (0 : UInt32)))] [] rfl rfl rfl ?_
  refine AW2_seq ?_
  refine sg [0, 1, 2, 3, 4, 5, 6, 7, 8, 9] rfl ?_
  refine rp rfl rfl (p_move rfl rfl) ?_
  refine rp rfl rfl (p_move rfl rfl) ?_
  refine rp rfl rfl (p_bin rfl rfl rfl rfl) ?_
  refine rp rfl rfl (p_move rfl rfl) ?_
  refine rp rfl rfl (p_bin rfl rfl rfl rfl) ?_
  refine rp rfl rfl (p_bin rfl rfl rfl rfl) ?_
  refine chkK H fun h1 H => ?_
  refine rp rfl rfl (u_cutt (a := w64 ((8 : Int) * i1)) (b := w64 ((w64 ((8 : Int) * i1)) + (8 : Int))) rfl Tryd.underlying9 rfl (bT_i (show 0 ≤ w64 ((8 : Int) * i1) ∧ w64 ((8 : Int) * i1) ≤ w64 ((w64 ((8 : Int) * i1)) + (8 : Int)) ∧ w64 ((w64 ((8 : Int) * i1)) + (8 : Int)) ≤ (s0.length : Int) from h1).1 rfl) (bT_i (Int.le_trans (show 0 ≤ w64 ((8 : Int) * i1) ∧ w64 ((8 : Int) * i1) ≤ w64 ((w64 ((8 : Int) * i1)) + (8 : Int)) ∧ w64 ((w64 ((8 : Int) * i1)) + (8 : Int)) ≤ (s0.length : Int) from h1).1 (show 0 ≤ w64 ((8 : Int) * i1) ∧ w64 ((8 : Int) * i1) ≤ w64 ((w64 ((8 : Int) * i1)) + (8 : Int)) ∧ w64 ((w64 ((8 : Int) * i1)) + (8 : Int)) ≤ (s0.length : Int) from h1).2.1) rfl) (show 0 ≤ w64 ((8 : Int) * i1) ∧ w64 ((8 : Int) * i1) ≤ w64 ((w64 ((8 : Int) * i1)) + (8 : Int)) ∧ w64 ((w64 ((8 : Int) * i1)) + (8 : Int)) ≤ (s0.length : Int) from h1)) ?_
  refine r_op rfl rfl (MakeD.opD (n_sb 16 rfl Tryd.underlying9 Tryd.underlying33 Tryd.underlying5 rfl) rfl rfl rfl rfl) ?_
  refine rp rfl rfl (p_leno rfl Tryd.underlying33 rfl rfl rfl (bl (cut s0 (w64 ((8 : Int) * i1)) (w64 ((w64 ((8 : Int) * i1)) + (8 : Int))))) (by decide)) ?_
  refine rp rfl rfl (p_move rfl rfl) ?_
  refine rz [(5, .p (AV.u32 (0 : UInt32))), (16, .c (.own 16 (cut s0 (w64 ((8 : Int) * i1)) (w64 ((w64 ((8 : Int) * i1)) + (8 : Int)))).length 1)), (17, .i ((cut s0 (w64 ((8 : Int) * i1)) (w64 ((w64 ((8 : Int) * i1)) + (8 : Int)))).length : Int)), (18, .i (0 : Int))] [(16, .pure (bcells (cut s0 (w64 ((8 : Int) * i1)) (w64 ((w64 ((8 : Int) * i1)) + (8 : Int))))))] rfl rfl rfl ?_
  refine gen1 (fun t17'1 => (⟨[(5, .p (AV.u32 (0 : UInt32))), (16, .c (.own 16 (cut s0 (w64 ((8 : Int) * i1)) (w64 ((w64 ((8 : Int) * i1)) + (8 : Int)))).length 1)), (17, .i t17'1), (18, .i (0 : Int))], [(16, .pure (bcells (cut s0 (w64 ((8 : Int) * i1)) (w64 ((w64 ((8 : Int) * i1)) + (8 : Int))))))], 36⟩ : TS)) H ?_
  intro t17'1 H
  refine gen1 (fun t16'2 => (⟨[(5, .p (AV.u32 (0 : UInt32))), (16, .c (.own 16 t16'2.length 1)), (17, .i t17'1), (18, .i (0 : Int))], [(16, .pure (bcells t16'2))], 36⟩ : TS)) H ?_
  intro t16'2 H
  refine AW2_block ?_
  refine as2 [(5, .p (AV.u32 (0 : UInt32))), (16, .c (.own 16 t16'2.length 1)), (17, .i t17'1), (18, .i (0 : Int))] [(16, .pure (bcells t16'2))] rfl rfl rfl ?_
  refine bindK H fun y'7 h6 H => ?_
  refine AW2_loopO (fun a'4 : UInt32 × Int => (⟨[(5, .p (AV.u32 a'4.1)), (16, .c (.own 16 t16'2.length 1)), (17, .i t17'1), (18, .i a'4.2)], [(16, .pure (bcells t16'2))], 36⟩ : TS)) (fun (y'5 : UInt32) e s' => e = Go.Exit.exit 0 ∧ s' = (⟨[(5, .p (AV.u32 y'5))], [], 36⟩ : TS)) h6 rfl (fun a x hx => ?_) (fun e s' hs => ?_)
  · clear H
    obtain ⟨n5_0, t18_0⟩ := a
    have H := hx
    clear hx
    unfold g_ref_hexWord_l0 at H
    refine sg [0] rfl ?_
    refine rp rfl rfl (p_bin rfl rfl rfl rfl) ?_
    refine rz [(5, .p (AV.u32 n5_0)), (16, .c (.own 16 t16'2.length 1)), (17, .i t17'1), (18, .i t18_0), (19, .b (decide (t18_0 < t17'1)))] [(16, .pure (bcells t16'2))] rfl rfl rfl ?_
    refine AW2_seq ?_
    refine AW2_if (p := t18_0 < t17'1) rfl (fun h2 => ?_) (fun h2 => ?_)
    · replace H := ite_then h2 H
      refine as2 [(5, .p (AV.u32 n5_0)), (16, .c (.own 16 t16'2.length 1)), (17, .i t17'1), (18, .i t18_0)] [(16, .pure (bcells t16'2))] rfl rfl rfl ?_
      refine AW2_skip ?_
      refine AW2_seq ?_
      refine AW2_block ?_
      refine sg [0, 1, 2] rfl ?_
      refine chkK H fun h3 H => ?_
      refine rp rfl rfl (u_ixo rfl rfl Tryd.underlying33 in_5 rfl rfl (lne (ixn h3)) rfl (ixe h3) (ixn h3)) ?_
      refine rp rfl rfl (u_ld rfl rfl Tryd.underlying5 rfl rfl ((Sub.refl _).trans (Sub.map default (ixn h3)))) ?_
      refine rp rfl rfl (p_asg rfl rfl) ?_
      refine rz [(5, .p (AV.u32 n5_0)), (7, .p (AV.b8 (lrd t16'2 t18_0.toNat))), (16, .c (.own 16 t16'2.length 1)), (17, .i t17'1), (18, .i t18_0)] [(16, .pure (bcells t16'2))] rfl rfl rfl ?_
      refine sg [0, 1, 2] rfl ?_
      refine rp rfl rfl (p_move rfl rfl) ?_
      refine rp rfl rfl (p_u8sub (a := (lrd t16'2 t18_0.toNat)) (b := (48 : UInt8)) rfl rfl rfl) ?_
      refine rp rfl rfl (p_asg rfl rfl) ?_
      refine rz [(5, .p (AV.u32 n5_0)), (7, .p (AV.b8 (lrd t16'2 t18_0.toNat))), (8, .p (AV.b8 ((lrd t16'2 t18_0.toNat) - (48 : UInt8)))), (16, .c (.own 16 t16'2.length 1)), (17, .i t17'1), (18, .i t18_0)] [(16, .pure (bcells t16'2))] rfl rfl rfl ?_
      refine AW2_seq ?_
      refine bindK H fun j'3 h4 H => ?_
      refine AW2_mid (⟨[(5, .p (AV.u32 n5_0)), (8, .p (AV.b8 j'3)), (16, .c (.own 16 t16'2.length 1)), (17, .i t17'1), (18, .i t18_0)], [(16, .pure (bcells t16'2))], 36⟩ : TS) ?_ ?_
      · clear H
        have H := h4
        clear h4
        refine sg [0, 1] rfl ?_
        refine rp rfl rfl (p_move rfl rfl) ?_
        refine rp rfl rfl (p_u8ge (a := (lrd t16'2 t18_0.toNat)) (b := (97 : UInt8)) rfl rfl rfl) ?_
        refine rz [(5, .p (AV.u32 n5_0)), (7, .p (AV.b8 (lrd t16'2 t18_0.toNat))), (8, .p (AV.b8 ((lrd t16'2 t18_0.toNat) - (48 : UInt8)))), (16, .c (.own 16 t16'2.length 1)), (17, .i t17'1), (18, .i t18_0), (25, .b (decide ((97 : UInt8) ≤ (lrd t16'2 t18_0.toNat))))] [(16, .pure (bcells t16'2))] rfl rfl rfl ?_
        refine AW2_if (p := (97 : UInt8) ≤ (lrd t16'2 t18_0.toNat)) rfl (fun h5 => ?_) (fun h5 => ?_)
        · replace H := ite_then h5 H
          refine AW2_reg [0, 1, 2, 3] rfl ?_
          refine rp rfl rfl (p_move rfl rfl) ?_
          refine rp rfl rfl (p_u8sub (a := (lrd t16'2 t18_0.toNat)) (b := (97 : UInt8)) rfl rfl rfl) ?_
          refine rp rfl rfl (p_u8add (a := (lrd t16'2 t18_0.toNat) - (97 : UInt8)) (b := (10 : UInt8)) rfl rfl rfl) ?_
          refine rp rfl rfl (p_asg rfl rfl) ?_
          refine rz [(5, .p (AV.u32 n5_0)), (8, .p (AV.b8 (((lrd t16'2 t18_0.toNat) - (97 : UInt8)) + (10 : UInt8)))), (16, .c (.own 16 t16'2.length 1)), (17, .i t17'1), (18, .i t18_0)] [(16, .pure (bcells t16'2))] rfl rfl rfl ?_
          have hz := some_elim H
          subst hz
          exact rfl
        · replace H := ite_else h5 H
          refine as2 [(5, .p (AV.u32 n5_0)), (8, .p (AV.b8 ((lrd t16'2 t18_0.toNat) - (48 : UInt8)))), (16, .c (.own 16 t16'2.length 1)), (17, .i t17'1), (18, .i t18_0)] [(16, .pure (bcells t16'2))] rfl rfl rfl ?_
          refine AW2_skip ?_
          have hz := some_elim H
          subst hz
          exact rfl
      · refine AW2_reg [0, 1, 2, 3, 4, 5] rfl ?_
        refine rp rfl rfl (p_move rfl rfl) ?_
        refine rp rfl rfl (p_u32mul (a := n5_0) (b := (16 : UInt32)) rfl rfl rfl) ?_
        refine rp rfl rfl (p_move rfl rfl) ?_
        refine rp rfl rfl (p_u8_u32 (a := j'3) rfl Tryd.underlying5 Tryd.underlying111 rfl) ?_
        refine rp rfl rfl (p_u32add (a := n5_0 * (16 : UInt32)) (b := j'3.toUInt32) rfl rfl rfl) ?_
        refine rp rfl rfl (p_asg rfl rfl) ?_
        refine rz [(5, .p (AV.u32 ((n5_0 * (16 : UInt32)) + j'3.toUInt32))), (16, .c (.own 16 t16'2.length 1)), (17, .i t17'1), (18, .i t18_0)] [(16, .pure (bcells t16'2))] rfl rfl rfl ?_
        refine AW2_reg [0, 1] rfl ?_
        refine rp rfl rfl (p_bin rfl rfl rfl rfl) ?_
        refine rp rfl rfl (p_move rfl rfl) ?_
        refine rz [(5, .p (AV.u32 ((n5_0 * (16 : UInt32)) + j'3.toUInt32))), (16, .c (.own 16 t16'2.length 1)), (17, .i t17'1), (18, .i (w64 (t18_0 + (1 : Int))))] [(16, .pure (bcells t16'2))] rfl rfl rfl ?_
        have hz := some_elim H
        subst hz
        exact ⟨rfl, rfl⟩
    · replace H := ite_else h2 H
      refine as2 [(5, .p (AV.u32 n5_0))] [] rfl rfl rfl ?_
      refine AW2_exit ?_
      refine thenQ2_exit ?_
      have hz := some_elim H
      subst hz
      exact ⟨rfl, rfl⟩
  · obtain ⟨rfl, rfl⟩ := hs
    refine ⟨by simp, ?_⟩
    refine blockQ2_exit ?_
    refine sg [0, 1] rfl ?_
    refine rp rfl rfl (p_move rfl rfl) ?_
    refine rp rfl rfl (p_asg rfl rfl) ?_
    refine rz [(4, .p (AV.u32 y'7))] [] rfl rfl rfl ?_
    refine AW2_ret ?_
    have hz := some_elim H
    subst hz
    exact ⟨⟨res_tmp (.same _), trivial⟩, trivial⟩

/-! chirographref.Begun -/
def g_ref_Begun_t0 : List UInt8 := [54, 97, 48, 57, 101, 54, 54, 55, 98, 98, 54, 55, 97, 101, 56, 53, 51, 99, 54, 101, 102, 51, 55, 50, 97, 53, 52, 102, 102, 53, 51, 97, 53, 49, 48, 101, 53, 50, 55, 102, 57, 98, 48, 53, 54, 56, 56, 99, 49, 102, 56, 51, 100, 57, 97, 98, 53, 98, 101, 48, 99, 100, 49, 57]
noncomputable def g_ref_Begun_l0 : Int × GStream → Option ((Int × GStream) ⊕ (GStream))
  | (t3_0, s1_0) => (if t3_0 < (8 : Int) then (g_ref_hexWord g_ref_Begun_t0 t3_0).bind fun r'1 => if 0 ≤ t3_0 ∧ t3_0 < (8 : Int) then some (.inl (w64 (t3_0 + (1 : Int)), { s1_0 with H := (vwr s1_0.H t3_0.toNat r'1) })) else none else some (.inr s1_0))
noncomputable def g_ref_Begun : Option (GStream) :=
  (loopO (g_ref_Begun_l0) ((0 : Int), GStream.zero)).bind fun y'5 => some y'5
set_option maxHeartbeats 4000000 in
set_option maxRecDepth 100000 in
theorem g_ref_Begun_ac {r : GStream} (H : g_ref_Begun = some r) : ACp Tryd.prog 96 [] (.agg (GStream.cs r)) := by
  refine ACp_of (AC2_of_body (vs := [.g (GStream.cs r)]) Tryd.func96 rfl rfl (Nat.le_of_ble_eq_true rfl) rfl ?_) (fun _ => .same _)
  unfold g_ref_Begun at H
  refine as2 [] [] rfl rfl rfl ?_
  refine sg [0] rfl ?_
  refine r_op rfl rfl (MakeD.opD (u_alloc 0 rfl in_115 one_115 zc_115) rfl rfl rfl rfl) ?_
  refine rz [(0, .q 0 (0))] [(0, .pure (GStream.cs GStream.zero))] rfl rfl rfl ?_
  refine sg [0] rfl ?_
  refine r_op rfl rfl (MakeD.opD (u_alloc 1 rfl in_115 one_115 zc_115) rfl rfl rfl rfl) ?_
  refine rz [(0, .q 0 (0)), (1, .q 1 (0))] [(0, .pure (GStream.cs GStream.zero)), (1, .pure (GStream.cs GStream.zero))] rfl rfl rfl ?_
  refine AW2_seq ?_
  refine sg [0] rfl ?_
  refine rp rfl rfl (p_move rfl rfl) ?_
  refine rz [(0, .q 0 (0)), (1, .q 1 (0)), (3, .i (0 : Int))] [(0, .pure (GStream.cs GStream.zero)), (1, .pure (GStream.cs GStream.zero))] rfl rfl rfl ?_
  refine AW2_block ?_
  refine as2 [(0, .q 0 (0)), (1, .q 1 (0)), (3, .i (0 : Int))] [(0, .pure (GStream.cs GStream.zero)), (1, .pure (GStream.cs GStream.zero))] rfl rfl rfl ?_
  refine bindK H fun y'5 h4 H => ?_
  refine AW2_loopO (fun a'2 : Int × GStream => (⟨[(0, .q 0 (0)), (1, .q 1 (0)), (3, .i a'2.1)], [(0, .pure (GStream.cs GStream.zero)), (1, .pure (GStream.cs a'2.2))], 13⟩ : TS)) (fun (y'3 : GStream) e s' => e = Go.Exit.exit 0 ∧ s' = (⟨[(0, .q 0 (0)), (1, .q 1 (0))], [(0, .pure (GStream.cs GStream.zero)), (1, .pure (GStream.cs y'3))], 13⟩ : TS)) h4 rfl (fun a x hx => ?_) (fun e s' hs => ?_)
  · clear H
    obtain ⟨t3_0, s1_0⟩ := a
    have H := hx
    clear hx
    unfold g_ref_Begun_l0 at H
    refine sg [0] rfl ?_
    refine rp rfl rfl (p_bin rfl rfl rfl rfl) ?_
    refine rz [(0, .q 0 (0)), (1, .q 1 (0)), (3, .i t3_0), (4, .b (decide (t3_0 < (8 : Int))))] [(0, .pure (GStream.cs GStream.zero)), (1, .pure (GStream.cs s1_0))] rfl rfl rfl ?_
    refine AW2_seq ?_
    refine AW2_if (p := t3_0 < (8 : Int)) rfl (fun h1 => ?_) (fun h1 => ?_)
    · replace H := ite_then h1 H
      refine as2 [(0, .q 0 (0)), (1, .q 1 (0)), (3, .i t3_0)] [(0, .pure (GStream.cs GStream.zero)), (1, .pure (GStream.cs s1_0))] rfl rfl rfl ?_
      refine AW2_skip ?_
      refine AW2_seq ?_
      refine AW2_block ?_
      refine sg [0, 1] rfl ?_
      refine rp rfl rfl (p_move rfl rfl) ?_
      refine rp rfl rfl (p_asg rfl rfl) ?_
      refine rz [(0, .q 0 (0)), (1, .q 1 (0)), (2, .i t3_0), (3, .i t3_0)] [(0, .pure (GStream.cs GStream.zero)), (1, .pure (GStream.cs s1_0))] rfl rfl rfl ?_
      refine AW2_reg [0, 1, 2, 3, 4, 5] rfl ?_
      refine rp rfl rfl (p_move rfl rfl) ?_
      refine rp rfl rfl (p_move rfl rfl) ?_
      refine bindK H fun r'1 h2 H => ?_
      refine rp rfl rfl (p_callp rfl rfl rfl Tryd.func110 rfl rfl (g_ref_hexWord_ac h2) ⟨by kernel_rfl, rfl, trivial⟩) ?_
      refine rp rfl rfl (u_fa rfl rfl Tryd.underlying115 rfl in_112 (Nat.succ_ne_zero _) rfl rfl (ne_of_lt (n := 0) (Nat.lt_of_lt_of_eq (by decide) (Eq.symm (GStream.len s1_0))))) ?_
      refine chkK H fun h3 H => ?_
      refine rp rfl rfl (u_ixp rfl rfl Tryd.underlying112 in_111 rfl rfl (ne_of_lt (n := 0) (Nat.lt_of_lt_of_eq (by decide) (Eq.symm (GStream.len s1_0)))) rfl (ixe h3) (ixn h3)) ?_
      refine r_op rfl rfl (u_st rfl rfl rfl rfl rfl in_111 rfl (ne_of_lt (n := 0) (Nat.lt_of_lt_of_eq (by decide) (Eq.symm (GStream.len s1_0)))) (Upd.trans ((Sub.refl _).trans (GStream.sub0 s1_0)) (Upd.vmap (ixn h3)) (Upd.trans (Sub.refl _) (GStream.upd0 s1_0 (vwr s1_0.H t3_0.toNat r'1)) (Upd.refl ((GStream.len ({ s1_0 with H := (vwr s1_0.H t3_0.toNat r'1) })).trans (GStream.len s1_0).symm))))) ?_
      refine rz [(0, .q 0 (0)), (1, .q 1 (0)), (3, .i t3_0)] [(0, .pure (GStream.cs GStream.zero)), (1, .pure (GStream.cs ({ s1_0 with H := (vwr s1_0.H t3_0.toNat r'1) })))] rfl rfl rfl ?_
      refine AW2_reg [0, 1] rfl ?_
      refine rp rfl rfl (p_bin rfl rfl rfl rfl) ?_
      refine rp rfl rfl (p_move rfl rfl) ?_
      refine rz [(0, .q 0 (0)), (1, .q 1 (0)), (3, .i (w64 (t3_0 + (1 : Int))))] [(0, .pure (GStream.cs GStream.zero)), (1, .pure (GStream.cs ({ s1_0 with H := (vwr s1_0.H t3_0.toNat r'1) })))] rfl rfl rfl ?_
      have hz := some_elim H
      subst hz
      exact ⟨rfl, rfl⟩
    · replace H := ite_else h1 H
      refine as2 [(0, .q 0 (0)), (1, .q 1 (0))] [(0, .pure (GStream.cs GStream.zero)), (1, .pure (GStream.cs s1_0))] rfl rfl rfl ?_
      refine AW2_exit ?_
      refine thenQ2_exit ?_
      have hz := some_elim H
      subst hz
      exact ⟨rfl, rfl⟩
  · obtain ⟨rfl, rfl⟩ := hs
    refine ⟨by simp, ?_⟩
    refine blockQ2_exit ?_
    refine sg [0, 1] rfl ?_
    refine rp rfl rfl (u_lda rfl rfl Tryd.underlying115 rfl in_115 rfl (Nat.succ_pos _) (Sub.refl _) (GStream.len y'5)) ?_
    refine r_op rfl rfl (u_st rfl rfl rfl rfl rfl in_115 (GStream.len y'5) (ne_of_lt (n := 0) (Nat.lt_of_lt_of_eq (by decide) (Eq.symm (GStream.len GStream.zero)))) (Upd.refl ((GStream.len y'5).trans (GStream.len GStream.zero).symm))) ?_
    refine rz [(0, .q 0 (0))] [(0, .pure (GStream.cs y'5))] rfl rfl rfl ?_
    refine AW2_ret ?_
    have hz := some_elim H
    subst hz
    exact ⟨⟨res_cella Tryd.underlying115 rfl in_115.sz rfl (Sub.le (Sub.refl _) (GStream.len y'5)) (by decide) (Sub.take (Sub.refl _) (GStream.len y'5)), trivial⟩, trivial⟩

/-! chirographref.badStream -/
noncomputable def g_ref_badStream_l0 (s0 : GStream) : Int → Option (Int ⊕ (Bool ⊕ Unit))
  | t23_0 => (if t23_0 < (64 : Int) then if 0 ≤ t23_0 ∧ t23_0 < (64 : Int) then (if (t23_0 ≥ s0.N) ∧ ((vrd s0.Held t23_0.toNat) ≠ (0 : UInt8)) then some (.inr (.inl true)) else some (.inl (w64 (t23_0 + (1 : Int))))) else none else some (.inr (.inr ())))
noncomputable def g_ref_badStream (s0 : GStream) : Option (Bool) :=
  (if ((s0.Len < (0 : Int)) ∨ (s0.Len > (1152921504606846976 : Int))) ∨ (s0.N ≠ s0.Len.tmod (64 : Int)) then some true else (loopO (g_ref_badStream_l0 s0) (0 : Int)).bind fun o'4 => match o'4 with | .inl y'5 => some y'5 | .inr (y'6) => some false)
set_option maxHeartbeats 4000000 in
set_option maxRecDepth 100000 in
theorem g_ref_badStream_ac {s0 : GStream} {r : Bool} (H : g_ref_badStream s0 = some r) : ACp Tryd.prog 107 [(.agg (GStream.cs s0))] (AV.bool r) := by
  refine ACp_of (AC2_of_body (vs := [.b r]) Tryd.func107 rfl rfl (Nat.le_of_ble_eq_true rfl) rfl ?_) (fun _ => .same _)
  unfold g_ref_badStream at H
  refine as2 [(0, .g (GStream.cs s0))] [] rfl rfl rfl ?_
  refine sg [0, 1] rfl ?_
  refine r_op rfl rfl (MakeD.opD (n_box 1 rfl rfl) rfl rfl rfl rfl) ?_
  refine rp rfl rfl (p_asg rfl rfl) ?_
  refine rz [(1, .q 1 (0))] [(1, .pure (GStream.cs s0))] rfl rfl rfl ?_
  refine AW2_seq ?_
  refine AW2_seq ?_
  refine AW2_mid (⟨[(1, .q 1 (0)), (20, .b (decide (((s0.Len < (0 : Int)) ∨ (s0.Len > (1152921504606846976 : Int))) ∨ (s0.N ≠ s0.Len.tmod (64 : Int)))))], [(1, .pure (GStream.cs s0))], 36⟩ : TS) ?_ ?_
  · refine AW2_reg [0, 1, 2, 3, 4, 5, 6, 7, 8, 9, 10, 11, 12, 13, 14, 15] rfl ?_
    refine rp rfl rfl (u_fa rfl rfl Tryd.underlying115 rfl in_3 (Nat.succ_ne_zero _) rfl rfl (ne_of_lt (n := 0) (Nat.lt_of_lt_of_eq (by decide) (Eq.symm (GStream.len s0))))) ?_
    refine rp rfl rfl (u_ld rfl rfl Tryd.underlying3 rfl rfl ((Sub.refl _).trans (GStream.sub3 s0))) ?_
    refine rp rfl rfl (p_bin rfl rfl rfl rfl) ?_
    refine rp rfl rfl (p_move rfl rfl) ?_
    refine (Classical.em (s0.Len < (0 : Int))).elim (fun h1 => ?_) (fun h1 => ?_)
    · refine r_off rfl rfl rfl rfl (decide_eq_true (p := s0.Len < (0 : Int)) h1) rfl rfl ?_
      refine r_off rfl rfl rfl rfl (decide_eq_true (p := s0.Len < (0 : Int)) h1) rfl rfl ?_
      refine r_off rfl rfl rfl rfl (decide_eq_true (p := s0.Len < (0 : Int)) h1) rfl rfl ?_
      refine rp rfl rfl (p_pkt rfl rfl (decide_eq_true (p := s0.Len < (0 : Int)) h1) (tb (decide_eq_true (p := (s0.Len < (0 : Int)) ∨ (s0.Len > (1152921504606846976 : Int))) (Or.inl h1)).symm)) ?_
      refine rp rfl rfl (p_move rfl rfl) ?_
      refine r_off rfl rfl rfl rfl (decide_eq_true (p := (s0.Len < (0 : Int)) ∨ (s0.Len > (1152921504606846976 : Int))) (Or.inl h1)) rfl rfl ?_
      refine r_off rfl rfl rfl rfl (decide_eq_true (p := (s0.Len < (0 : Int)) ∨ (s0.Len > (1152921504606846976 : Int))) (Or.inl h1)) rfl rfl ?_
      refine r_off rfl rfl rfl rfl (decide_eq_true (p := (s0.Len < (0 : Int)) ∨ (s0.Len > (1152921504606846976 : Int))) (Or.inl h1)) rfl rfl ?_
      refine r_off rfl rfl rfl rfl (decide_eq_true (p := (s0.Len < (0 : Int)) ∨ (s0.Len > (1152921504606846976 : Int))) (Or.inl h1)) rfl rfl ?_
      refine r_off rfl rfl rfl rfl (decide_eq_true (p := (s0.Len < (0 : Int)) ∨ (s0.Len > (1152921504606846976 : Int))) (Or.inl h1)) rfl rfl ?_
      refine r_off rfl rfl rfl rfl (decide_eq_true (p := (s0.Len < (0 : Int)) ∨ (s0.Len > (1152921504606846976 : Int))) (Or.inl h1)) rfl rfl ?_
      refine rp rfl rfl (p_pkt rfl rfl (decide_eq_true (p := (s0.Len < (0 : Int)) ∨ (s0.Len > (1152921504606846976 : Int))) (Or.inl h1)) (tb (decide_eq_true (p := ((s0.Len < (0 : Int)) ∨ (s0.Len > (1152921504606846976 : Int))) ∨ (s0.N ≠ s0.Len.tmod (64 : Int))) (Or.inl (Or.inl h1))).symm)) ?_
      refine rs [(1, .q 1 (0)), (20, .b (decide (((s0.Len < (0 : Int)) ∨ (s0.Len > (1152921504606846976 : Int))) ∨ (s0.N ≠ s0.Len.tmod (64 : Int)))))] [(1, .pure (GStream.cs s0))] rfl rfl rfl ?_
      exact RunW_nil rfl
    · refine r_on rfl rfl rfl rfl (decide_eq_false (p := s0.Len < (0 : Int)) h1) rfl (PureD.opD (u_fa rfl rfl Tryd.underlying115 rfl in_3 (Nat.succ_ne_zero _) rfl rfl (ne_of_lt (n := 0) (Nat.lt_of_lt_of_eq (by decide) (Eq.symm (GStream.len s0)))))) ?_
      refine r_on rfl rfl rfl rfl (decide_eq_false (p := s0.Len < (0 : Int)) h1) rfl (PureD.opD (u_ld rfl rfl Tryd.underlying3 rfl rfl ((Sub.refl _).trans (GStream.sub3 s0)))) ?_
      refine r_on rfl rfl rfl rfl (decide_eq_false (p := s0.Len < (0 : Int)) h1) rfl (PureD.opD (p_bin rfl rfl rfl rfl)) ?_
      refine rp rfl rfl (p_pkf rfl rfl (decide_eq_false (p := s0.Len < (0 : Int)) h1) (tb ((or_l (p := s0.Len < (0 : Int)) (q := s0.Len > (1152921504606846976 : Int)) h1)))) ?_
      refine rp rfl rfl (p_move rfl rfl) ?_
      refine (Classical.em (s0.Len > (1152921504606846976 : Int))).elim (fun h2 => ?_) (fun h2 => ?_)
      · refine r_off rfl rfl rfl rfl (decide_eq_true (p := (s0.Len < (0 : Int)) ∨ (s0.Len > (1152921504606846976 : Int))) (Or.inr h2)) rfl rfl ?_
        refine r_off rfl rfl rfl rfl (decide_eq_true (p := (s0.Len < (0 : Int)) ∨ (s0.Len > (1152921504606846976 : Int))) (Or.inr h2)) rfl rfl ?_
        refine r_off rfl rfl rfl rfl (decide_eq_true (p := (s0.Len < (0 : Int)) ∨ (s0.Len > (1152921504606846976 : Int))) (Or.inr h2)) rfl rfl ?_
        refine r_off rfl rfl rfl rfl (decide_eq_true (p := (s0.Len < (0 : Int)) ∨ (s0.Len > (1152921504606846976 : Int))) (Or.inr h2)) rfl rfl ?_
        refine r_off rfl rfl rfl rfl (decide_eq_true (p := (s0.Len < (0 : Int)) ∨ (s0.Len > (1152921504606846976 : Int))) (Or.inr h2)) rfl rfl ?_
        refine r_off rfl rfl rfl rfl (decide_eq_true (p := (s0.Len < (0 : Int)) ∨ (s0.Len > (1152921504606846976 : Int))) (Or.inr h2)) rfl rfl ?_
        refine rp rfl rfl (p_pkt rfl rfl (decide_eq_true (p := (s0.Len < (0 : Int)) ∨ (s0.Len > (1152921504606846976 : Int))) (Or.inr h2)) (tb (decide_eq_true (p := ((s0.Len < (0 : Int)) ∨ (s0.Len > (1152921504606846976 : Int))) ∨ (s0.N ≠ s0.Len.tmod (64 : Int))) (Or.inl (Or.inr h2))).symm)) ?_
        refine rs [(1, .q 1 (0)), (20, .b (decide (((s0.Len < (0 : Int)) ∨ (s0.Len > (1152921504606846976 : Int))) ∨ (s0.N ≠ s0.Len.tmod (64 : Int)))))] [(1, .pure (GStream.cs s0))] rfl rfl rfl ?_
        exact RunW_nil rfl
      · refine r_on rfl rfl rfl rfl (decide_eq_false (p := (s0.Len < (0 : Int)) ∨ (s0.Len > (1152921504606846976 : Int))) (not_or.2 ⟨h1, h2⟩)) rfl (PureD.opD (u_fa rfl rfl Tryd.underlying115 rfl in_3 (Nat.succ_ne_zero _) rfl rfl (ne_of_lt (n := 0) (Nat.lt_of_lt_of_eq (by decide) (Eq.symm (GStream.len s0)))))) ?_
        refine r_on rfl rfl rfl rfl (decide_eq_false (p := (s0.Len < (0 : Int)) ∨ (s0.Len > (1152921504606846976 : Int))) (not_or.2 ⟨h1, h2⟩)) rfl (PureD.opD (u_ld rfl rfl Tryd.underlying3 rfl rfl ((Sub.refl _).trans (GStream.sub2 s0)))) ?_
        refine r_on rfl rfl rfl rfl (decide_eq_false (p := (s0.Len < (0 : Int)) ∨ (s0.Len > (1152921504606846976 : Int))) (not_or.2 ⟨h1, h2⟩)) rfl (PureD.opD (u_fa rfl rfl Tryd.underlying115 rfl in_3 (Nat.succ_ne_zero _) rfl rfl (ne_of_lt (n := 0) (Nat.lt_of_lt_of_eq (by decide) (Eq.symm (GStream.len s0)))))) ?_
        refine r_on rfl rfl rfl rfl (decide_eq_false (p := (s0.Len < (0 : Int)) ∨ (s0.Len > (1152921504606846976 : Int))) (not_or.2 ⟨h1, h2⟩)) rfl (PureD.opD (u_ld rfl rfl Tryd.underlying3 rfl rfl ((Sub.refl _).trans (GStream.sub3 s0)))) ?_
        refine r_on rfl rfl rfl rfl (decide_eq_false (p := (s0.Len < (0 : Int)) ∨ (s0.Len > (1152921504606846976 : Int))) (not_or.2 ⟨h1, h2⟩)) rfl (PureD.opD (p_irem rfl rfl rfl (by decide))) ?_
        refine r_on rfl rfl rfl rfl (decide_eq_false (p := (s0.Len < (0 : Int)) ∨ (s0.Len > (1152921504606846976 : Int))) (not_or.2 ⟨h1, h2⟩)) rfl (PureD.opD (p_ine rfl rfl rfl)) ?_
        refine rp rfl rfl (p_pkf rfl rfl (decide_eq_false (p := (s0.Len < (0 : Int)) ∨ (s0.Len > (1152921504606846976 : Int))) (not_or.2 ⟨h1, h2⟩)) (tb ((or_l (p := (s0.Len < (0 : Int)) ∨ (s0.Len > (1152921504606846976 : Int))) (q := s0.N ≠ s0.Len.tmod (64 : Int)) (not_or.2 ⟨h1, h2⟩))))) ?_
        refine rs [(1, .q 1 (0)), (20, .b (decide (((s0.Len < (0 : Int)) ∨ (s0.Len > (1152921504606846976 : Int))) ∨ (s0.N ≠ s0.Len.tmod (64 : Int)))))] [(1, .pure (GStream.cs s0))] rfl rfl rfl ?_
        exact RunW_nil rfl
  · refine AW2_if (p := ((s0.Len < (0 : Int)) ∨ (s0.Len > (1152921504606846976 : Int))) ∨ (s0.N ≠ s0.Len.tmod (64 : Int))) rfl (fun h3 => ?_) (fun h3 => ?_)
    · replace H := ite_then h3 H
      refine sg [0] rfl ?_
      refine rp rfl rfl (p_asg rfl rfl) ?_
      refine rz [(2, .b true)] [] rfl rfl rfl ?_
      refine AW2_ret ?_
      have hz := some_elim H
      subst hz
      exact ⟨⟨res_tmp (.same _), trivial⟩, trivial⟩
    · replace H := ite_else h3 H
      refine as2 [(1, .q 1 (0))] [(1, .pure (GStream.cs s0))] rfl rfl rfl ?_
      refine AW2_skip ?_
      refine AW2_seq ?_
      refine sg [0, 1, 2] rfl ?_
      refine rp rfl rfl (u_fa rfl rfl Tryd.underlying115 rfl in_113 (Nat.succ_ne_zero _) rfl rfl (ne_of_lt (n := 0) (Nat.lt_of_lt_of_eq (by decide) (Eq.symm (GStream.len s0))))) ?_
      refine rp rfl rfl (u_lda rfl rfl Tryd.underlying113 rfl in_113 rfl (Nat.succ_pos _) ((Sub.refl _).trans (GStream.sub1 s0)) ((bcells_length _).trans (vlen s0.Held))) ?_
      refine rp rfl rfl (p_move rfl rfl) ?_
      refine rz [(1, .q 1 (0)), (22, .g (bcells s0.Held.toList)), (23, .i (0 : Int))] [(1, .pure (GStream.cs s0))] rfl rfl rfl ?_
      refine AW2_block ?_
      refine as2 [(1, .q 1 (0)), (22, .g (bcells s0.Held.toList)), (23, .i (0 : Int))] [(1, .pure (GStream.cs s0))] rfl rfl rfl ?_
      refine bindK H fun o'4 h8 H => ?_
      refine AW2_loopO (fun a'1 : Int => (⟨[(1, .q 1 (0)), (22, .g (bcells s0.Held.toList)), (23, .i a'1)], [(1, .pure (GStream.cs s0))], 36⟩ : TS)) (fun (o : Bool ⊕ Unit) e s' => match o with | .inl y'2 => e = Go.Exit.ret ∧ ResAll Tryd.prog s' [ResultVar.tmp 2] [.b y'2] ∧ HFits s' [] | .inr (y'3) => e = Go.Exit.exit 0 ∧ s' = (⟨[], [], 36⟩ : TS)) h8 rfl (fun t23_0 x hx => ?_) (fun e s' hs => ?_)
      · clear H
        have H := hx
        clear hx
        unfold g_ref_badStream_l0 at H
        refine sg [0] rfl ?_
        refine rp rfl rfl (p_bin rfl rfl rfl rfl) ?_
        refine rz [(1, .q 1 (0)), (22, .g (bcells s0.Held.toList)), (23, .i t23_0), (24, .b (decide (t23_0 < (64 : Int))))] [(1, .pure (GStream.cs s0))] rfl rfl rfl ?_
        refine AW2_seq ?_
        refine AW2_if (p := t23_0 < (64 : Int)) rfl (fun h4 => ?_) (fun h4 => ?_)
        · replace H := ite_then h4 H
          refine as2 [(1, .q 1 (0)), (22, .g (bcells s0.Held.toList)), (23, .i t23_0)] [(1, .pure (GStream.cs s0))] rfl rfl rfl ?_
          refine AW2_skip ?_
          refine AW2_seq ?_
          refine AW2_block ?_
          refine sg [0, 1, 2, 3] rfl ?_
          refine rp rfl rfl (p_move rfl rfl) ?_
          refine chkK H fun h5 H => ?_
          refine rp rfl rfl (u_ixa rfl rfl Tryd.underlying113 in_5 Tryd.underlying5 rfl rfl rfl (ixe h5) (ixn h5) (Sub.vmap (ixn h5))) ?_
          refine rp rfl rfl (p_asg rfl rfl) ?_
          refine rp rfl rfl (p_asg rfl rfl) ?_
          refine rz [(1, .q 1 (0)), (3, .i t23_0), (4, .p (AV.b8 (vrd s0.Held t23_0.toNat))), (22, .g (bcells s0.Held.toList)), (23, .i t23_0)] [(1, .pure (GStream.cs s0))] rfl rfl rfl ?_
          refine AW2_seq ?_
          refine AW2_mid (⟨[(1, .q 1 (0)), (22, .g (bcells s0.Held.toList)), (23, .i t23_0), (34, .b (decide ((t23_0 ≥ s0.N) ∧ ((vrd s0.Held t23_0.toNat) ≠ (0 : UInt8)))))], [(1, .pure (GStream.cs s0))], 36⟩ : TS) ?_ ?_
          · refine AW2_reg [0, 1, 2, 3, 4, 5, 6, 7] rfl ?_
            refine rp rfl rfl (p_move rfl rfl) ?_
            refine rp rfl rfl (u_fa rfl rfl Tryd.underlying115 rfl in_3 (Nat.succ_ne_zero _) rfl rfl (ne_of_lt (n := 0) (Nat.lt_of_lt_of_eq (by decide) (Eq.symm (GStream.len s0))))) ?_
            refine rp rfl rfl (u_ld rfl rfl Tryd.underlying3 rfl rfl ((Sub.refl _).trans (GStream.sub2 s0))) ?_
            refine rp rfl rfl (p_bin rfl rfl rfl rfl) ?_
            refine rp rfl rfl (p_move rfl rfl) ?_
            refine (Classical.em (t23_0 ≥ s0.N)).elim (fun h6 => ?_) (fun h6 => ?_)
            · refine r_on rfl rfl rfl rfl (decide_eq_true (p := t23_0 ≥ s0.N) h6) rfl (PureD.opD (p_move rfl rfl)) ?_
              refine r_on rfl rfl rfl rfl (decide_eq_true (p := t23_0 ≥ s0.N) h6) rfl (PureD.opD (p_u8ne (a := (vrd s0.Held t23_0.toNat)) (b := (0 : UInt8)) rfl rfl rfl)) ?_
              refine rp rfl rfl (p_pkt rfl rfl (decide_eq_true (p := t23_0 ≥ s0.N) h6) (tb ((and_l (p := t23_0 ≥ s0.N) (q := (vrd s0.Held t23_0.toNat) ≠ (0 : UInt8)) h6)))) ?_
              refine rs [(1, .q 1 (0)), (22, .g (bcells s0.Held.toList)), (23, .i t23_0), (34, .b (decide ((t23_0 ≥ s0.N) ∧ ((vrd s0.Held t23_0.toNat) ≠ (0 : UInt8)))))] [(1, .pure (GStream.cs s0))] rfl rfl rfl ?_
              exact RunW_nil rfl
            · refine r_off rfl rfl rfl rfl (decide_eq_false (p := t23_0 ≥ s0.N) h6) rfl rfl ?_
              refine r_off rfl rfl rfl rfl (decide_eq_false (p := t23_0 ≥ s0.N) h6) rfl rfl ?_
              refine rp rfl rfl (p_pkf rfl rfl (decide_eq_false (p := t23_0 ≥ s0.N) h6) (tb (decide_eq_false (p := (t23_0 ≥ s0.N) ∧ ((vrd s0.Held t23_0.toNat) ≠ (0 : UInt8))) (fun x => h6 x.1)).symm)) ?_
              refine rs [(1, .q 1 (0)), (22, .g (bcells s0.Held.toList)), (23, .i t23_0), (34, .b (decide ((t23_0 ≥ s0.N) ∧ ((vrd s0.Held t23_0.toNat) ≠ (0 : UInt8)))))] [(1, .pure (GStream.cs s0))] rfl rfl rfl ?_
              exact RunW_nil rfl
          · refine AW2_if (p := (t23_0 ≥ s0.N) ∧ ((vrd s0.Held t23_0.toNat) ≠ (0 : UInt8))) rfl (fun h7 => ?_) (fun h7 => ?_)
            · replace H := ite_then h7 H
              refine sg [0] rfl ?_
              refine rp rfl rfl (p_asg rfl rfl) ?_
              refine rz [(2, .b true)] [] rfl rfl rfl ?_
              refine AW2_ret ?_
              have hz := some_elim H
              subst hz
              exact ⟨rfl, ⟨res_tmp (.same _), trivial⟩, trivial⟩
            · replace H := ite_else h7 H
              refine as2 [(1, .q 1 (0)), (22, .g (bcells s0.Held.toList)), (23, .i t23_0)] [(1, .pure (GStream.cs s0))] rfl rfl rfl ?_
              refine AW2_skip ?_
              refine AW2_reg [0, 1] rfl ?_
              refine rp rfl rfl (p_bin rfl rfl rfl rfl) ?_
              refine rp rfl rfl (p_move rfl rfl) ?_
              refine rz [(1, .q 1 (0)), (22, .g (bcells s0.Held.toList)), (23, .i (w64 (t23_0 + (1 : Int))))] [(1, .pure (GStream.cs s0))] rfl rfl rfl ?_
              have hz := some_elim H
              subst hz
              exact ⟨rfl, rfl⟩
        · replace H := ite_else h4 H
          refine as2 [] [] rfl rfl rfl ?_
          refine AW2_exit ?_
          refine thenQ2_exit ?_
          have hz := some_elim H
          subst hz
          exact ⟨rfl, rfl⟩
      · rcases o'4 with y'5 | y'6
        · obtain ⟨rfl, hs⟩ := hs
          refine ⟨by simp, ?_⟩
          have hz := some_elim H
          subst hz
          exact ⟨hs.1, hs.2⟩
        · obtain ⟨rfl, rfl⟩ := hs
          refine ⟨by simp, ?_⟩
          refine blockQ2_exit ?_
          refine sg [0] rfl ?_
          refine rp rfl rfl (p_asg rfl rfl) ?_
          refine rz [(2, .b false)] [] rfl rfl rfl ?_
          refine AW2_ret ?_
          have hz := some_elim H
          subst hz
          exact ⟨⟨res_tmp (.same _), trivial⟩, trivial⟩

/-! chirographref.heldOf -/
noncomputable def g_ref_heldOf (s0 : GStream) : Option ((List UInt8)) :=
  if 0 ≤ s0.N ∧ s0.N ≤ (s0.Held.toList.length : Int) then some (cut s0.Held.toList (0 : Int) s0.N) else none
set_option maxHeartbeats 4000000 in
set_option maxRecDepth 100000 in
theorem g_ref_heldOf_ac {s0 : GStream} {r : (List UInt8)} (H : g_ref_heldOf s0 = some r) : ACp Tryd.prog 108 [(.agg (GStream.cs s0))] (AV.txt r) := by
  refine ACp_of (AC2_of_body (vs := [.t r]) Tryd.func108 rfl rfl (Nat.le_of_ble_eq_true rfl) rfl ?_) (fun _ => .same _)
  unfold g_ref_heldOf at H
  refine as2 [(0, .g (GStream.cs s0))] [] rfl rfl rfl ?_
  refine sg [0, 1] rfl ?_
  refine r_op rfl rfl (MakeD.opD (n_box 1 rfl rfl) rfl rfl rfl rfl) ?_
  refine rp rfl rfl (p_asg rfl rfl) ?_
  refine rz [(1, .q 1 (0))] [(1, .pure (GStream.cs s0))] rfl rfl rfl ?_
  refine sg [0, 1, 2, 3] rfl ?_
  refine rp rfl rfl (u_fa rfl rfl Tryd.underlying115 rfl in_113 (Nat.succ_ne_zero _) rfl rfl (ne_of_lt (n := 0) (Nat.lt_of_lt_of_eq (by decide) (Eq.symm (GStream.len s0))))) ?_
  refine rp rfl rfl (u_lda rfl rfl Tryd.underlying113 rfl in_113 rfl (Nat.succ_pos _) ((Sub.refl _).trans (GStream.sub1 s0)) ((bcells_length _).trans (vlen s0.Held))) ?_
  refine r_op rfl rfl (MakeD.opD (u_alloc 3 rfl in_113 one_113 zc_113) rfl rfl rfl rfl) ?_
  refine r_op rfl rfl (u_st rfl rfl rfl rfl rfl in_113 ((bcells_length _).trans (vlen s0.Held)) (ne_of_lt (n := 0) (Nat.lt_of_lt_of_eq (by decide) (Eq.symm ((bcells_length _).trans (vlen (Vector.replicate 64 (0 : UInt8))))))) (Upd.refl (((bcells_length _).trans (vlen s0.Held)).trans ((bcells_length _).trans (vlen (Vector.replicate 64 (0 : UInt8)))).symm))) ?_
  refine rz [(1, .q 1 (0)), (3, .q 3 (0))] [(1, .pure (GStream.cs s0)), (3, .pure (bcells s0.Held.toList))] rfl rfl rfl ?_
  refine AW2_seq ?_
  refine chkK H fun h1 H => ?_
  refine AW2_ghoQ ?_
  refine AW2_draw 4 [4, 5] (fun k => ([.c (.sl 3 (0 + 0 * 1) 64 1), .t s0.Held.toList, .q 1 (0 + 72), .i s0.N] : List TV).getD k TV.any) (fun k => ([[(3, none)], [(6, some 0)], [(1, none)], [(8, some 2)]] : List (List (Nat × Option Nat))).getD k []) [(7, some 1), (9, some 3)] [] (fun k => ([[], [0], [], [2], [0, 1, 2, 3], [0, 1, 2, 3, 4]] : List (List Nat)).getD k []) mixed (by kernel_rfl) rfl rfl (a_op (g_x rfl (x_p rfl (u_cuta rfl rfl Tryd.underlying113 in_5 rfl rfl (ne_of_lt (n := 0) (Nat.lt_of_lt_of_eq (by decide) (Eq.symm ((bcells_length _).trans (vlen s0.Held))))) (Sub.refl _) (((bcells_length _).trans (vlen s0.Held)).trans (by decide))) rfl)) (a_op (g_x rfl (x_p rfl (u_cbl rfl rfl Tryd.underlying33 Tryd.underlying5 Tryd.underlying9 (bs := s0.Held.toList) (vlen _) rfl rfl (ne_of_lt (n := 0) (Nat.lt_of_lt_of_eq (by decide) (Eq.symm ((bcells_length _).trans (vlen s0.Held))))) (Sub.refl _)) rfl)) (a_op (g_x rfl (x_p rfl (u_fa rfl rfl Tryd.underlying115 rfl in_3 (Nat.succ_ne_zero _) rfl rfl (ne_of_lt (n := 0) (Nat.lt_of_lt_of_eq (by decide) (Eq.symm (GStream.len s0))))) rfl)) (a_op (g_x rfl (x_p rfl (u_ld rfl rfl Tryd.underlying3 rfl rfl ((Sub.refl _).trans (GStream.sub2 s0))) rfl)) (a_nil))))) ?_
  refine t_op rfl rfl (PureD.opD (u_cutt (a := (0 : Int)) (b := s0.N) rfl Tryd.underlying9 rfl bT_zero (bT_i (Int.le_trans (show 0 ≤ (0 : Int) ∧ (0 : Int) ≤ s0.N ∧ s0.N ≤ (s0.Held.toList.length : Int) from ⟨Int.le_refl _, h1.1, h1.2⟩).1 (show 0 ≤ (0 : Int) ∧ (0 : Int) ≤ s0.N ∧ s0.N ≤ (s0.Held.toList.length : Int) from ⟨Int.le_refl _, h1.1, h1.2⟩).2.1) rfl) (show 0 ≤ (0 : Int) ∧ (0 : Int) ≤ s0.N ∧ s0.N ≤ (s0.Held.toList.length : Int) from ⟨Int.le_refl _, h1.1, h1.2⟩))) ?_
  refine t_op rfl rfl (PureD.opD (p_asg rfl rfl)) ?_
  refine t_gho (Gho_st (L := [(2, .t (cut s0.Held.toList (0 : Int) s0.N))]) (H := []) (N := 11) rfl ⟨TLes.same _, trivial⟩ trivial) ?_
  refine AW2_ret ?_
  have hz := some_elim H
  subst hz
  exact ⟨⟨res_tmp (.same _), trivial⟩, trivial⟩

/-! chirographref.number -/
noncomputable def g_ref_number_l0 (s0 : List UInt8) : UInt64 × Int → Option ((UInt64 × Int) ⊕ (UInt64))
  | (n3_0, i4_0) => (if i4_0 < (s0.length : Int) then if 0 ≤ i4_0 ∧ i4_0 < (s0.length : Int) then some (.inl ((n3_0 * (256 : UInt64)) + ((lrd s0 i4_0.toNat).toUInt64), w64 (i4_0 + (1 : Int)))) else none else some (.inr n3_0))
noncomputable def g_ref_number (s0 : List UInt8) : Option (UInt64) :=
  (loopO (g_ref_number_l0 s0) ((0 : UInt64), (0 : Int))).bind fun y'4 => some y'4
set_option maxHeartbeats 4000000 in
set_option maxRecDepth 100000 in
theorem g_ref_number_ac {s0 : List UInt8} {r : UInt64} (H : g_ref_number s0 = some r) : ACp Tryd.prog 57 [(AV.txt s0)] (AV.u64 r) := by
  refine ACp_of (AC2_of_body (vs := [.p (AV.u64 r)]) Tryd.func57 rfl rfl (Nat.le_of_ble_eq_true rfl) rfl ?_) (fun _ => .same _)
  unfold g_ref_number at H
  refine as2 [(0, .t s0)] [] rfl rfl rfl ?_
  refine sg [0] rfl ?_
  refine rp rfl rfl (p_asg rfl rfl) ?_
  refine rz [(0, .t s0)] [] rfl rfl rfl ?_
  refine sg [0] rfl ?_
  refine rp rfl rfl (p_asg rfl rfl) ?_
  refine rz [(0, .t s0), (3, .p (AV.u64 (0 : UInt64)))] [] rfl rfl rfl ?_
  refine AW2_seq ?_
  refine sg [0] rfl ?_
  refine rp rfl rfl (p_asg rfl rfl) ?_
  refine rz [(0, .t s0), (3, .p (AV.u64 (0 : UInt64))), (4, .i (0 : Int))] [] rfl rfl rfl ?_
  refine AW2_block ?_
  refine as2 [(0, .t s0), (3, .p (AV.u64 (0 : UInt64))), (4, .i (0 : Int))] [] rfl rfl rfl ?_
  refine bindK H fun y'4 h3 H => ?_
  refine AW2_loopO (fun a'1 : UInt64 × Int => (⟨[(0, .t s0), (3, .p (AV.u64 a'1.1)), (4, .i a'1.2)], [], 19⟩ : TS)) (fun (y'2 : UInt64) e s' => e = Go.Exit.exit 0 ∧ s' = (⟨[(3, .p (AV.u64 y'2))], [], 19⟩ : TS)) h3 rfl (fun a x hx => ?_) (fun e s' hs => ?_)
  · clear H
    obtain ⟨n3_0, i4_0⟩ := a
    have H := hx
    clear hx
    unfold g_ref_number_l0 at H
    refine AW2_seq ?_
    refine sg [0, 1, 2, 3] rfl ?_
    refine rp rfl rfl (p_move rfl rfl) ?_
    refine rp rfl rfl (p_move rfl rfl) ?_
    refine rp rfl rfl (p_lent rfl Tryd.underlying9 rfl) ?_
    refine rp rfl rfl (p_bin rfl rfl rfl rfl) ?_
    refine rz [(0, .t s0), (3, .p (AV.u64 n3_0)), (4, .i i4_0), (8, .b (decide (i4_0 < (s0.length : Int))))] [] rfl rfl rfl ?_
    refine AW2_if (p := i4_0 < (s0.length : Int)) rfl (fun h1 => ?_) (fun h1 => ?_)
    · replace H := ite_then h1 H
      refine as2 [(0, .t s0), (3, .p (AV.u64 n3_0)), (4, .i i4_0)] [] rfl rfl rfl ?_
      refine AW2_skip ?_
      refine AW2_seq ?_
      refine AW2_block ?_
      refine AW2_reg [0, 1, 2, 3, 4, 5, 6, 7] rfl ?_
      refine rp rfl rfl (p_move rfl rfl) ?_
      refine rp rfl rfl (p_u64mul (a := n3_0) (b := (256 : UInt64)) rfl rfl rfl) ?_
      refine rp rfl rfl (p_move rfl rfl) ?_
      refine rp rfl rfl (p_move rfl rfl) ?_
      refine chkK H fun h2 H => ?_
      refine rp rfl rfl (p_ixt rfl Tryd.underlying9 rfl rfl (ixe h2) (lrd_get (ixn h2))) ?_
      refine rp rfl rfl (p_u8_u64 (a := (lrd s0 i4_0.toNat)) rfl Tryd.underlying5 Tryd.underlying22 rfl) ?_
      refine rp rfl rfl (p_u64add (a := n3_0 * (256 : UInt64)) (b := (lrd s0 i4_0.toNat).toUInt64) rfl rfl rfl) ?_
      refine rp rfl rfl (p_asg rfl rfl) ?_
      refine rz [(0, .t s0), (3, .p (AV.u64 ((n3_0 * (256 : UInt64)) + ((lrd s0 i4_0.toNat).toUInt64)))), (4, .i i4_0)] [] rfl rfl rfl ?_
      refine AW2_reg [0, 1, 2] rfl ?_
      refine rp rfl rfl (p_move rfl rfl) ?_
      refine rp rfl rfl (p_bin rfl rfl rfl rfl) ?_
      refine rp rfl rfl (p_asg rfl rfl) ?_
      refine rz [(0, .t s0), (3, .p (AV.u64 ((n3_0 * (256 : UInt64)) + ((lrd s0 i4_0.toNat).toUInt64)))), (4, .i (w64 (i4_0 + (1 : Int))))] [] rfl rfl rfl ?_
      have hz := some_elim H
      subst hz
      exact ⟨rfl, rfl⟩
    · replace H := ite_else h1 H
      refine as2 [(3, .p (AV.u64 n3_0))] [] rfl rfl rfl ?_
      refine AW2_exit ?_
      refine thenQ2_exit ?_
      have hz := some_elim H
      subst hz
      exact ⟨rfl, rfl⟩
  · obtain ⟨rfl, rfl⟩ := hs
    refine ⟨by simp, ?_⟩
    refine blockQ2_exit ?_
    refine sg [0, 1] rfl ?_
    refine rp rfl rfl (p_move rfl rfl) ?_
    refine rp rfl rfl (p_asg rfl rfl) ?_
    refine rz [(2, .p (AV.u64 y'4))] [] rfl rfl rfl ?_
    refine AW2_ret ?_
    have hz := some_elim H
    subst hz
    exact ⟨⟨res_tmp (.same _), trivial⟩, trivial⟩

/-! chirographref.rot -/
noncomputable def g_ref_rot (x0 : UInt32) (n1 : Int) : Option (UInt32) :=
  if 0 ≤ n1 then if 0 ≤ w64 ((32 : Int) - n1) then some ((shr_u32 x0 n1.toNat) ||| (shl_u32 x0 ((w64 ((32 : Int) - n1)).toNat))) else none else none
set_option maxHeartbeats 4000000 in
set_option maxRecDepth 100000 in
theorem g_ref_rot_ac {x0 : UInt32} {n1 : Int} {r : UInt32} (H : g_ref_rot x0 n1 = some r) : ACp Tryd.prog 126 [(AV.u32 x0), (AV.int n1)] (AV.u32 r) := by
  refine ACp_of (AC2_of_body (vs := [.p (AV.u32 r)]) Tryd.func126 rfl rfl (Nat.le_of_ble_eq_true rfl) rfl ?_) (fun _ => .same _)
  unfold g_ref_rot at H
  refine as2 [(0, .p (AV.u32 x0)), (1, .i n1)] [] rfl rfl rfl ?_
  refine sg [0] rfl ?_
  refine rp rfl rfl (p_asg rfl rfl) ?_
  refine rz [(0, .p (AV.u32 x0)), (1, .i n1)] [] rfl rfl rfl ?_
  refine AW2_seq ?_
  refine chkK H fun h1 H => ?_
  refine chkK H fun h2 H => ?_
  refine AW2_ghoQ ?_
  refine AW2_draw 7 [7, 8] (fun k => ([.p (AV.u32 x0), .i n1, .p (AV.u32 (shr_u32 x0 n1.toNat)), .p (AV.u32 x0), .i n1, .i (w64 ((32 : Int) - n1)), .p (AV.u32 (shl_u32 x0 ((w64 ((32 : Int) - n1)).toNat)))] : List TV).getD k TV.any) (fun k => ([[(0, none)], [(1, none)], [(5, some 0), (6, some 1)], [(0, none)], [(1, none)], [(9, some 4)], [(8, some 3), (10, some 5)]] : List (List (Nat × Option Nat))).getD k []) [(7, some 2), (11, some 6)] [] (fun k => ([[], [], [0, 1], [], [], [4], [3, 4, 5], [0, 1, 2, 3, 4, 5, 6], [0, 1, 2, 3, 4, 5, 6, 7]] : List (List Nat)).getD k []) mixed (by kernel_rfl) rfl rfl (a_op (g_x rfl (x_p rfl (p_move rfl rfl) rfl)) (a_op (g_x rfl (x_p rfl (p_move rfl rfl) rfl)) (a_op (g_x rfl (x_p rfl (p_u32shr (n := n1.toNat) rfl rfl rfl (Int.toNat_of_nonneg h1).symm) rfl)) (a_op (g_x rfl (x_p rfl (p_move rfl rfl) rfl)) (a_op (g_x rfl (x_p rfl (p_move rfl rfl) rfl)) (a_op (g_x rfl (x_p rfl (p_bin rfl rfl rfl rfl) rfl)) (a_op (g_x rfl (x_p rfl (p_u32shl (n := (w64 ((32 : Int) - n1)).toNat) rfl rfl rfl (Int.toNat_of_nonneg h2).symm) rfl)) (a_nil)))))))) ?_
  refine t_op rfl rfl (PureD.opD (p_u32or (a := shr_u32 x0 n1.toNat) (b := shl_u32 x0 ((w64 ((32 : Int) - n1)).toNat)) rfl rfl rfl)) ?_
  refine t_op rfl rfl (PureD.opD (p_asg rfl rfl)) ?_
  refine t_gho (Gho_st (L := [(4, .p (AV.u32 ((shr_u32 x0 n1.toNat) ||| (shl_u32 x0 ((w64 ((32 : Int) - n1)).toNat)))))]) (H := []) (N := 13) rfl ⟨TLes.same _, trivial⟩ trivial) ?_
  refine AW2_ret ?_
  have hz := some_elim H
  subst hz
  exact ⟨⟨res_tmp (.same _), trivial⟩, trivial⟩

/-! chirographref.schedule -/
noncomputable def g_ref_schedule_l0 (b0 : List UInt8) : Int × (List UInt32) → Option ((Int × (List UInt32)) ⊕ (((List UInt32))))
  | (i4_0, w3_0) => (if i4_0 < (16 : Int) then if 0 ≤ w64 ((4 : Int) * i4_0) ∧ w64 ((4 : Int) * i4_0) ≤ w64 ((w64 ((4 : Int) * i4_0)) + (4 : Int)) ∧ w64 ((w64 ((4 : Int) * i4_0)) + (4 : Int)) ≤ (b0.length : Int) then (g_ref_number (cut b0 (w64 ((4 : Int) * i4_0)) (w64 ((w64 ((4 : Int) * i4_0)) + (4 : Int))))).bind fun r'1 => if room (w3_0.length + ([r'1.toUInt32] : List UInt32).length) 4 then some (.inl (w64 (i4_0 + (1 : Int)), w3_0 ++ ([r'1.toUInt32] : List UInt32))) else none else none else some (.inr w3_0))
noncomputable def g_ref_schedule_l1 : (List UInt32) → Option (((List UInt32)) ⊕ (((List UInt32))))
  | w3_1 => (if (w3_1.length : Int) < (64 : Int) then if 0 ≤ w64 ((w3_1.length : Int) - (15 : Int)) ∧ w64 ((w3_1.length : Int) - (15 : Int)) < (w3_1.length : Int) then if 0 ≤ w64 ((w3_1.length : Int) - (2 : Int)) ∧ w64 ((w3_1.length : Int) - (2 : Int)) < (w3_1.length : Int) then if 0 ≤ w64 ((w3_1.length : Int) - (16 : Int)) ∧ w64 ((w3_1.length : Int) - (16 : Int)) < (w3_1.length : Int) then if 0 ≤ w64 ((w3_1.length : Int) - (7 : Int)) ∧ w64 ((w3_1.length : Int) - (7 : Int)) < (w3_1.length : Int) then (g_ref_rot (lrd w3_1 ((w64 ((w3_1.length : Int) - (15 : Int))).toNat)) (7 : Int)).bind fun r'6 => (g_ref_rot (lrd w3_1 ((w64 ((w3_1.length : Int) - (15 : Int))).toNat)) (18 : Int)).bind fun r'7 => (g_ref_rot (lrd w3_1 ((w64 ((w3_1.length : Int) - (2 : Int))).toNat)) (17 : Int)).bind fun r'8 => (g_ref_rot (lrd w3_1 ((w64 ((w3_1.length : Int) - (2 : Int))).toNat)) (19 : Int)).bind fun r'9 => if room (w3_1.length + ([(((lrd w3_1 ((w64 ((w3_1.length : Int) - (16 : Int))).toNat)) + (lrd w3_1 ((w64 ((w3_1.length : Int) - (7 : Int))).toNat))) + ((r'6 ^^^ r'7) ^^^ (shr_u32 (lrd w3_1 ((w64 ((w3_1.length : Int) - (15 : Int))).toNat)) 3))) + ((r'8 ^^^ r'9) ^^^ (shr_u32 (lrd w3_1 ((w64 ((w3_1.length : Int) - (2 : Int))).toNat)) 10))] : List UInt32).length) 4 then letO (w3_1 ++ ([(((lrd w3_1 ((w64 ((w3_1.length : Int) - (16 : Int))).toNat)) + (lrd w3_1 ((w64 ((w3_1.length : Int) - (7 : Int))).toNat))) + ((r'6 ^^^ r'7) ^^^ (shr_u32 (lrd w3_1 ((w64 ((w3_1.length : Int) - (15 : Int))).toNat)) 3))) + ((r'8 ^^^ r'9) ^^^ (shr_u32 (lrd w3_1 ((w64 ((w3_1.length : Int) - (2 : Int))).toNat)) 10))] : List UInt32)) fun w3'10 => some (.inl w3'10) else none else none else none else none else none else some (.inr w3_1))
noncomputable def g_ref_schedule (b0 : List UInt8) : Option ((List UInt32)) :=
  (loopO (g_ref_schedule_l0 b0) ((0 : Int), ([] : List UInt32))).bind fun y'5 => (loopO (g_ref_schedule_l1) y'5).bind fun y'14 => some y'14
set_option maxHeartbeats 4000000 in
set_option maxRecDepth 100000 in
theorem g_ref_schedule_ac2 {b0 : List UInt8} {r : (List UInt32)} (H : g_ref_schedule b0 = some r) : AC2 Tryd.prog 125 (pureT [(AV.txt b0)]) [] (.c (.own 2 r.length 1)) [(2, .pure (r.map AV.u32))] := by
  refine AC2_of_body (vs := [.c (.own 2 r.length 1)]) Tryd.func125 rfl rfl (Nat.le_of_ble_eq_true rfl) rfl ?_
  unfold g_ref_schedule at H
  refine as2 [(0, .t b0)] [] rfl rfl rfl ?_
  refine sg [0] rfl ?_
  refine rp rfl rfl (p_asgn rfl) ?_
  refine rz [(0, .t b0)] [] rfl rfl rfl ?_
  refine sg [0] rfl ?_
  refine rp rfl rfl (p_asgn rfl) ?_
  refine rz [(0, .t b0), (3, .p .nil)] [] rfl rfl rfl ?_
  refine AW2_seq ?_
  refine sg [0] rfl ?_
  refine rp rfl rfl (p_asg rfl rfl) ?_
  refine rz [(0, .t b0), (3, .p .nil), (4, .i (0 : Int))] [] rfl rfl rfl ?_
  refine AW2_block ?_
  refine as2 [(0, .t b0), (3, .p .nil), (4, .i (0 : Int))] [] rfl rfl rfl ?_
  refine AW2_gho (Gho_own (d := 3) (b := 3) (z := 1) rfl rfl rfl rfl) ?_
  refine AW2_st [(0, .t b0), (3, .c (.own 3 ([] : List UInt32).length 1)), (4, .i (0 : Int))] [(3, .pure (([] : List UInt32).map AV.u32))] rfl ⟨TLes.same _, TLes.own rfl, TLes.same _, trivial⟩ ⟨rfl, trivial⟩ ?_
  refine bindK H fun y'5 h5 H => ?_
  refine AW2_loopO (fun a'2 : Int × (List UInt32) => (⟨[(0, .t b0), (3, .c (.own 3 a'2.2.length 1)), (4, .i a'2.1)], [(3, .pure (a'2.2.map AV.u32))], 72⟩ : TS)) (fun (y'3 : ((List UInt32))) e s' => e = Go.Exit.exit 0 ∧ s' = (⟨[(3, .c (.own 3 y'3.length 1))], [(3, .pure (y'3.map AV.u32))], 72⟩ : TS)) h5 rfl (fun a x hx => ?_) (fun e s' hs => ?_)
  · clear H
    obtain ⟨i4_0, w3_0⟩ := a
    have H := hx
    clear hx
    unfold g_ref_schedule_l0 at H
    refine AW2_seq ?_
    refine sg [0, 1] rfl ?_
    refine rp rfl rfl (p_move rfl rfl) ?_
    refine rp rfl rfl (p_bin rfl rfl rfl rfl) ?_
    refine rz [(0, .t b0), (3, .c (.own 3 w3_0.length 1)), (4, .i i4_0), (9, .b (decide (i4_0 < (16 : Int))))] [(3, .pure (w3_0.map AV.u32))] rfl rfl rfl ?_
    refine AW2_if (p := i4_0 < (16 : Int)) rfl (fun h1 => ?_) (fun h1 => ?_)
    · replace H := ite_then h1 H
      refine as2 [(0, .t b0), (3, .c (.own 3 w3_0.length 1)), (4, .i i4_0)] [(3, .pure (w3_0.map AV.u32))] rfl rfl rfl ?_
      refine AW2_skip ?_
      refine AW2_seq ?_
      refine AW2_block ?_
      refine AW2_reg [0, 1, 2, 3, 4, 5, 6, 7, 8, 9, 10, 11, 12] rfl ?_
      refine rp rfl rfl (p_move rfl rfl) ?_
      refine rp rfl rfl (p_move rfl rfl) ?_
      refine rp rfl rfl (p_move rfl rfl) ?_
      refine rp rfl rfl (p_bin rfl rfl rfl rfl) ?_
      refine rp rfl rfl (p_move rfl rfl) ?_
      refine rp rfl rfl (p_bin rfl rfl rfl rfl) ?_
      refine rp rfl rfl (p_bin rfl rfl rfl rfl) ?_
      refine chkK H fun h2 H => ?_
      refine rp rfl rfl (u_cutt (a := w64 ((4 : Int) * i4_0)) (b := w64 ((w64 ((4 : Int) * i4_0)) + (4 : Int))) rfl Tryd.underlying9 rfl (bT_i (show 0 ≤ w64 ((4 : Int) * i4_0) ∧ w64 ((4 : Int) * i4_0) ≤ w64 ((w64 ((4 : Int) * i4_0)) + (4 : Int)) ∧ w64 ((w64 ((4 : Int) * i4_0)) + (4 : Int)) ≤ (b0.length : Int) from h2).1 rfl) (bT_i (Int.le_trans (show 0 ≤ w64 ((4 : Int) * i4_0) ∧ w64 ((4 : Int) * i4_0) ≤ w64 ((w64 ((4 : Int) * i4_0)) + (4 : Int)) ∧ w64 ((w64 ((4 : Int) * i4_0)) + (4 : Int)) ≤ (b0.length : Int) from h2).1 (show 0 ≤ w64 ((4 : Int) * i4_0) ∧ w64 ((4 : Int) * i4_0) ≤ w64 ((w64 ((4 : Int) * i4_0)) + (4 : Int)) ∧ w64 ((w64 ((4 : Int) * i4_0)) + (4 : Int)) ≤ (b0.length : Int) from h2).2.1) rfl) (show 0 ≤ w64 ((4 : Int) * i4_0) ∧ w64 ((4 : Int) * i4_0) ≤ w64 ((w64 ((4 : Int) * i4_0)) + (4 : Int)) ∧ w64 ((w64 ((4 : Int) * i4_0)) + (4 : Int)) ≤ (b0.length : Int) from h2)) ?_
      refine bindK H fun r'1 h3 H => ?_
      refine rp rfl rfl (p_callp rfl rfl rfl Tryd.func57 rfl rfl (g_ref_number_ac h3) ⟨rfl, trivial⟩) ?_
      refine rp rfl rfl (p_u64_u32 (a := r'1) rfl Tryd.underlying22 Tryd.underlying111 rfl) ?_
      refine r_op rfl rfl (MakeD.opD (u_bs 22 rfl Tryd.underlying146 in_111 rfl one_111 (by decide) (by decide) rfl rfl rfl) rfl rfl rfl rfl) ?_
      refine chkK H fun h4 H => ?_
      refine r_op rfl rfl (u_app [3, 12] rfl rfl rfl rfl Tryd.underlying146 Tryd.underlying146 in_111 rfl rfl rfl (ml AV.u32 w3_0) (by decide) (srcT_o rfl rfl (ml AV.u32 ([r'1.toUInt32] : List UInt32)) (by decide)) (ml AV.u32 ([r'1.toUInt32] : List UInt32)) h4 (by decide) rfl rfl (mapp AV.u32 w3_0 ([r'1.toUInt32] : List UInt32)) (lapp w3_0 ([r'1.toUInt32] : List UInt32))) ?_
      refine rp rfl rfl (p_asg rfl rfl) ?_
      refine rz [(0, .t b0), (3, .c (.own 3 (w3_0 ++ ([r'1.toUInt32] : List UInt32)).length 1)), (4, .i i4_0)] [(3, .pure ((w3_0 ++ ([r'1.toUInt32] : List UInt32)).map AV.u32))] rfl rfl rfl ?_
      refine AW2_reg [0, 1, 2] rfl ?_
      refine rp rfl rfl (p_move rfl rfl) ?_
      refine rp rfl rfl (p_bin rfl rfl rfl rfl) ?_
      refine rp rfl rfl (p_asg rfl rfl) ?_
      refine rz [(0, .t b0), (3, .c (.own 3 (w3_0 ++ ([r'1.toUInt32] : List UInt32)).length 1)), (4, .i (w64 (i4_0 + (1 : Int))))] [(3, .pure ((w3_0 ++ ([r'1.toUInt32] : List UInt32)).map AV.u32))] rfl rfl rfl ?_
      have hz := some_elim H
      subst hz
      exact ⟨rfl, rfl⟩
    · replace H := ite_else h1 H
      refine as2 [(3, .c (.own 3 w3_0.length 1))] [(3, .pure (w3_0.map AV.u32))] rfl rfl rfl ?_
      refine AW2_exit ?_
      refine thenQ2_exit ?_
      have hz := some_elim H
      subst hz
      exact ⟨rfl, rfl⟩
  · obtain ⟨rfl, rfl⟩ := hs
    refine ⟨by simp, ?_⟩
    refine blockQ2_exit ?_
    refine AW2_seq ?_
    refine AW2_block ?_
    refine as2 [(3, .c (.own 3 y'5.length 1))] [(3, .pure (y'5.map AV.u32))] rfl rfl rfl ?_
    refine bindK H fun y'14 h16 H => ?_
    refine AW2_loopO (fun a'11 : (List UInt32) => (⟨[(3, .c (.own 3 a'11.length 1))], [(3, .pure (a'11.map AV.u32))], 72⟩ : TS)) (fun (y'12 : ((List UInt32))) e s' => e = Go.Exit.exit 2 ∧ s' = (⟨[(3, .c (.own 3 y'12.length 1))], [(3, .pure (y'12.map AV.u32))], 72⟩ : TS)) h16 rfl (fun w3_1 x hx => ?_) (fun e s' hs => ?_)
    · clear H
      have H := hx
      clear hx
      unfold g_ref_schedule_l1 at H
      refine AW2_seq ?_
      refine sg [0, 1, 2] rfl ?_
      refine rp rfl rfl (p_move rfl rfl) ?_
      refine rp rfl rfl (p_leno rfl Tryd.underlying146 rfl rfl rfl (ml AV.u32 w3_1) (by decide)) ?_
      refine rp rfl rfl (p_bin rfl rfl rfl rfl) ?_
      refine rz [(3, .c (.own 3 w3_1.length 1)), (26, .b (decide ((w3_1.length : Int) < (64 : Int))))] [(3, .pure (w3_1.map AV.u32))] rfl rfl rfl ?_
      refine AW2_if (p := (w3_1.length : Int) < (64 : Int)) rfl (fun h6 => ?_) (fun h6 => ?_)
      · replace H := ite_then h6 H
        refine as2 [(3, .c (.own 3 w3_1.length 1))] [(3, .pure (w3_1.map AV.u32))] rfl rfl rfl ?_
        refine AW2_skip ?_
        refine AW2_block ?_
        refine sg [0, 1, 2] rfl ?_
        refine rp rfl rfl (p_move rfl rfl) ?_
        refine rp rfl rfl (p_leno rfl Tryd.underlying146 rfl rfl rfl (ml AV.u32 w3_1) (by decide)) ?_
        refine rp rfl rfl (p_asg rfl rfl) ?_
        refine rz [(3, .c (.own 3 w3_1.length 1)), (5, .i (w3_1.length : Int))] [(3, .pure (w3_1.map AV.u32))] rfl rfl rfl ?_
        refine AW2_seq ?_
        refine chkK H fun h7 H => ?_
        refine chkK H fun h8 H => ?_
        refine AW2_ghoQ ?_
        refine AW2_draw 11 [11] (fun k => ([.c (.own 3 w3_1.length 1), .i (w3_1.length : Int), .i (w64 ((w3_1.length : Int) - (15 : Int))), .q 3 (0 + ((w64 ((w3_1.length : Int) - (15 : Int))).toNat) * 1), .p (AV.u32 (lrd w3_1 ((w64 ((w3_1.length : Int) - (15 : Int))).toNat))), .c (.own 3 w3_1.length 1), .i (w3_1.length : Int), .i (w64 ((w3_1.length : Int) - (2 : Int))), .q 3 (0 + ((w64 ((w3_1.length : Int) - (2 : Int))).toNat) * 1), .p (AV.u32 (lrd w3_1 ((w64 ((w3_1.length : Int) - (2 : Int))).toNat))), .p (AV.u32 (lrd w3_1 ((w64 ((w3_1.length : Int) - (15 : Int))).toNat)))] : List TV).getD k TV.any) (fun k => ([[(3, none)], [(5, none)], [(30, some 1)], [(29, some 0), (31, some 2)], [(32, some 3)], [(3, none)], [(5, none)], [(35, some 6)], [(34, some 5), (36, some 7)], [(37, some 8)], [(33, some 4)]] : List (List (Nat × Option Nat))).getD k []) [(3, none), (5, none), (6, some 10), (38, some 9)] [] (fun k => ([[], [], [1], [0, 1, 2], [0, 1, 2, 3], [], [], [6], [5, 6, 7], [5, 6, 7, 8], [0, 1, 2, 3, 4], [0, 1, 2, 3, 4, 5, 6, 7, 8, 9, 10]] : List (List Nat)).getD k []) mixed (by kernel_rfl) rfl rfl (a_op (g_x rfl (x_p rfl (p_move rfl rfl) rfl)) (a_op (g_x rfl (x_p rfl (p_move rfl rfl) rfl)) (a_op (g_x rfl (x_p rfl (p_bin rfl rfl rfl rfl) rfl)) (a_op (g_x rfl (x_p rfl (u_ixo rfl rfl Tryd.underlying146 in_111 rfl rfl (lne (ixn h7)) rfl (ixe h7) (ixn h7)) rfl)) (a_op (g_x rfl (x_p rfl (u_ld rfl rfl Tryd.underlying111 rfl rfl ((Sub.refl _).trans (Sub.map default (ixn h7)))) rfl)) (a_op (g_x rfl (x_p rfl (p_move rfl rfl) rfl)) (a_op (g_x rfl (x_p rfl (p_move rfl rfl) rfl)) (a_op (g_x rfl (x_p rfl (p_bin rfl rfl rfl rfl) rfl)) (a_op (g_x rfl (x_p rfl (u_ixo rfl rfl Tryd.underlying146 in_111 rfl rfl (lne (ixn h8)) rfl (ixe h8) (ixn h8)) rfl)) (a_op (g_x rfl (x_p rfl (u_ld rfl rfl Tryd.underlying111 rfl rfl ((Sub.refl _).trans (Sub.map default (ixn h8)))) rfl)) (a_op (g_x rfl (x_p rfl (p_asg rfl rfl) rfl)) (a_nil)))))))))))) ?_
        refine t_op rfl rfl (PureD.opD (p_asg rfl rfl)) ?_
        refine t_gho (Gho_st (L := [(3, .c (.own 3 w3_1.length 1)), (5, .i (w3_1.length : Int)), (6, .p (AV.u32 (lrd w3_1 ((w64 ((w3_1.length : Int) - (15 : Int))).toNat)))), (7, .p (AV.u32 (lrd w3_1 ((w64 ((w3_1.length : Int) - (2 : Int))).toNat))))]) (H := [(3, .pure (w3_1.map AV.u32))]) (N := 72) rfl ⟨TLes.same _, TLes.same _, TLes.same _, TLes.same _, trivial⟩ ⟨rfl, trivial⟩) ?_
        refine chkK H fun h9 H => ?_
        refine chkK H fun h10 H => ?_
        refine bindK H fun r'6 h11 H => ?_
        refine bindK H fun r'7 h12 H => ?_
        refine bindK H fun r'8 h13 H => ?_
        refine bindK H fun r'9 h14 H => ?_
        refine chkK H fun h15 H => ?_
        refine AW2_ghoQ ?_
        refine AW2_draw 31 [31, 32] (fun k => ([.c (.own 3 w3_1.length 1), .c (.own 3 w3_1.length 1), .i (w3_1.length : Int), .i (w64 ((w3_1.length : Int) - (16 : Int))), .q 3 (0 + ((w64 ((w3_1.length : Int) - (16 : Int))).toNat) * 1), .p (AV.u32 (lrd w3_1 ((w64 ((w3_1.length : Int) - (16 : Int))).toNat))), .c (.own 3 w3_1.length 1), .i (w3_1.length : Int), .i (w64 ((w3_1.length : Int) - (7 : Int))), .q 3 (0 + ((w64 ((w3_1.length : Int) - (7 : Int))).toNat) * 1), .p (AV.u32 (lrd w3_1 ((w64 ((w3_1.length : Int) - (7 : Int))).toNat))), .p (AV.u32 ((lrd w3_1 ((w64 ((w3_1.length : Int) - (16 : Int))).toNat)) + (lrd w3_1 ((w64 ((w3_1.length : Int) - (7 : Int))).toNat)))), .p (AV.u32 (lrd w3_1 ((w64 ((w3_1.length : Int) - (15 : Int))).toNat))), .p (AV.u32 r'6), .p (AV.u32 (lrd w3_1 ((w64 ((w3_1.length : Int) - (15 : Int))).toNat))), .p (AV.u32 r'7), .p (AV.u32 (r'6 ^^^ r'7)), .p (AV.u32 (lrd w3_1 ((w64 ((w3_1.length : Int) - (15 : Int))).toNat))), .p (AV.u32 (shr_u32 (lrd w3_1 ((w64 ((w3_1.length : Int) - (15 : Int))).toNat)) 3)), .p (AV.u32 ((r'6 ^^^ r'7) ^^^ (shr_u32 (lrd w3_1 ((w64 ((w3_1.length : Int) - (15 : Int))).toNat)) 3))), .p (AV.u32 (((lrd w3_1 ((w64 ((w3_1.length : Int) - (16 : Int))).toNat)) + (lrd w3_1 ((w64 ((w3_1.length : Int) - (7 : Int))).toNat))) + ((r'6 ^^^ r'7) ^^^ (shr_u32 (lrd w3_1 ((w64 ((w3_1.length : Int) - (15 : Int))).toNat)) 3)))), .p (AV.u32 (lrd w3_1 ((w64 ((w3_1.length : Int) - (2 : Int))).toNat))), .p (AV.u32 r'8), .p (AV.u32 (lrd w3_1 ((w64 ((w3_1.length : Int) - (2 : Int))).toNat))), .p (AV.u32 r'9), .p (AV.u32 (r'8 ^^^ r'9)), .p (AV.u32 (lrd w3_1 ((w64 ((w3_1.length : Int) - (2 : Int))).toNat))), .p (AV.u32 (shr_u32 (lrd w3_1 ((w64 ((w3_1.length : Int) - (2 : Int))).toNat)) 10)), .p (AV.u32 ((r'8 ^^^ r'9) ^^^ (shr_u32 (lrd w3_1 ((w64 ((w3_1.length : Int) - (2 : Int))).toNat)) 10))), .p (AV.u32 ((((lrd w3_1 ((w64 ((w3_1.length : Int) - (16 : Int))).toNat)) + (lrd w3_1 ((w64 ((w3_1.length : Int) - (7 : Int))).toNat))) + ((r'6 ^^^ r'7) ^^^ (shr_u32 (lrd w3_1 ((w64 ((w3_1.length : Int) - (15 : Int))).toNat)) 3))) + ((r'8 ^^^ r'9) ^^^ (shr_u32 (lrd w3_1 ((w64 ((w3_1.length : Int) - (2 : Int))).toNat)) 10)))), .c (.own 69 1 1)] : List TV).getD k TV.any) (fun k => ([[(3, none)], [(3, none)], [(5, none)], [(41, some 2)], [(40, some 1), (42, some 3)], [(43, some 4)], [(3, none)], [(5, none)], [(46, some 7)], [(45, some 6), (47, some 8)], [(48, some 9)], [(44, some 5), (49, some 10)], [(6, none)], [(51, some 12)], [(6, none)], [(53, some 14)], [(52, some 13), (54, some 15)], [(6, none)], [(56, some 17)], [(55, some 16), (57, some 18)], [(50, some 11), (58, some 19)], [(7, none)], [(60, some 21)], [(7, none)], [(62, some 23)], [(61, some 22), (63, some 24)], [(7, none)], [(65, some 26)], [(64, some 25), (66, some 27)], [(59, some 20), (67, some 28)], [(68, some 29)]] : List (List (Nat × Option Nat))).getD k []) [(3, none), (39, some 0), (69, some 30)] [(30, 69, (([(((lrd w3_1 ((w64 ((w3_1.length : Int) - (16 : Int))).toNat)) + (lrd w3_1 ((w64 ((w3_1.length : Int) - (7 : Int))).toNat))) + ((r'6 ^^^ r'7) ^^^ (shr_u32 (lrd w3_1 ((w64 ((w3_1.length : Int) - (15 : Int))).toNat)) 3))) + ((r'8 ^^^ r'9) ^^^ (shr_u32 (lrd w3_1 ((w64 ((w3_1.length : Int) - (2 : Int))).toNat)) 10))] : List UInt32).map AV.u32))] (fun k => ([[], [], [], [2], [1, 2, 3], [1, 2, 3, 4], [], [], [7], [6, 7, 8], [6, 7, 8, 9], [1, 2, 3, 4, 5, 6, 7, 8, 9, 10], [], [12], [], [12, 13, 14], [12, 13, 14, 15], [], [17], [12, 13, 14, 15, 16, 17, 18], [1, 2, 3, 4, 5, 6, 7, 8, 9, 10, 11, 12, 13, 14, 15, 16, 17, 18, 19], [], [12, 13, 14, 15, 21], [], [12, 13, 14, 15, 21, 22, 23], [12, 13, 14, 15, 21, 22, 23, 24], [], [26], [12, 13, 14, 15, 21, 22, 23, 24, 25, 26, 27], [1, 2, 3, 4, 5, 6, 7, 8, 9, 10, 11, 12, 13, 14, 15, 16, 17, 18, 19, 20, 21, 22, 23, 24, 25, 26, 27, 28], [1, 2, 3, 4, 5, 6, 7, 8, 9, 10, 11, 12, 13, 14, 15, 16, 17, 18, 19, 20, 21, 22, 23, 24, 25, 26, 27, 28, 29], [0, 1, 2, 3, 4, 5, 6, 7, 8, 9, 10, 11, 12, 13, 14, 15, 16, 17, 18, 19, 20, 21, 22, 23, 24, 25, 26, 27, 28, 29, 30], [0, 1, 2, 3, 4, 5, 6, 7, 8, 9, 10, 11, 12, 13, 14, 15, 16, 17, 18, 19, 20, 21, 22, 23, 24, 25, 26, 27, 28, 29, 30, 31]] : List (List Nat)).getD k []) mixed (by kernel_rfl) rfl rfl (a_op (g_x rfl (x_p rfl (p_move rfl rfl) rfl)) (a_op (g_x rfl (x_p rfl (p_move rfl rfl) rfl)) (a_op (g_x rfl (x_p rfl (p_move rfl rfl) rfl)) (a_op (g_x rfl (x_p rfl (p_bin rfl rfl rfl rfl) rfl)) (a_op (g_x rfl (x_p rfl (u_ixo rfl rfl Tryd.underlying146 in_111 rfl rfl (lne (ixn h9)) rfl (ixe h9) (ixn h9)) rfl)) (a_op (g_x rfl (x_p rfl (u_ld rfl rfl Tryd.underlying111 rfl rfl ((Sub.refl _).trans (Sub.map default (ixn h9)))) rfl)) (a_op (g_x rfl (x_p rfl (p_move rfl rfl) rfl)) (a_op (g_x rfl (x_p rfl (p_move rfl rfl) rfl)) (a_op (g_x rfl (x_p rfl (p_bin rfl rfl rfl rfl) rfl)) (a_op (g_x rfl (x_p rfl (u_ixo rfl rfl Tryd.underlying146 in_111 rfl rfl (lne (ixn h10)) rfl (ixe h10) (ixn h10)) rfl)) (a_op (g_x rfl (x_p rfl (u_ld rfl rfl Tryd.underlying111 rfl rfl ((Sub.refl _).trans (Sub.map default (ixn h10)))) rfl)) (a_op (g_x rfl (x_p rfl (p_u32add (a := (lrd w3_1 ((w64 ((w3_1.length : Int) - (16 : Int))).toNat))) (b := (lrd w3_1 ((w64 ((w3_1.length : Int) - (7 : Int))).toNat))) rfl rfl rfl) rfl)) (a_op (g_x rfl (x_p rfl (p_move rfl rfl) rfl)) (a_op (g_x rfl (x_p rfl (p_callp rfl rfl rfl Tryd.func126 rfl rfl (g_ref_rot_ac h11) ⟨rfl, rfl, trivial⟩) rfl)) (a_op (g_x rfl (x_p rfl (p_move rfl rfl) rfl)) (a_op (g_x rfl (x_p rfl (p_callp rfl rfl rfl Tryd.func126 rfl rfl (g_ref_rot_ac h12) ⟨rfl, rfl, trivial⟩) rfl)) (a_op (g_x rfl (x_p rfl (p_u32xor (a := r'6) (b := r'7) rfl rfl rfl) rfl)) (a_op (g_x rfl (x_p rfl (p_move rfl rfl) rfl)) (a_op (g_x rfl (x_p rfl (p_u32shr (n := 3) rfl rfl rfl rfl) rfl)) (a_op (g_x rfl (x_p rfl (p_u32xor (a := r'6 ^^^ r'7) (b := shr_u32 (lrd w3_1 ((w64 ((w3_1.length : Int) - (15 : Int))).toNat)) 3) rfl rfl rfl) rfl)) (a_op (g_x rfl (x_p rfl (p_u32add (a := (lrd w3_1 ((w64 ((w3_1.length : Int) - (16 : Int))).toNat)) + (lrd w3_1 ((w64 ((w3_1.length : Int) - (7 : Int))).toNat))) (b := (r'6 ^^^ r'7) ^^^ (shr_u32 (lrd w3_1 ((w64 ((w3_1.length : Int) - (15 : Int))).toNat)) 3)) rfl rfl rfl) rfl)) (a_op (g_x rfl (x_p rfl (p_move rfl rfl) rfl)) (a_op (g_x rfl (x_p rfl (p_callp rfl rfl rfl Tryd.func126 rfl rfl (g_ref_rot_ac h13) ⟨rfl, rfl, trivial⟩) rfl)) (a_op (g_x rfl (x_p rfl (p_move rfl rfl) rfl)) (a_op (g_x rfl (x_p rfl (p_callp rfl rfl rfl Tryd.func126 rfl rfl (g_ref_rot_ac h14) ⟨rfl, rfl, trivial⟩) rfl)) (a_op (g_x rfl (x_p rfl (p_u32xor (a := r'8) (b := r'9) rfl rfl rfl) rfl)) (a_op (g_x rfl (x_p rfl (p_move rfl rfl) rfl)) (a_op (g_x rfl (x_p rfl (p_u32shr (n := 10) rfl rfl rfl rfl) rfl)) (a_op (g_x rfl (x_p rfl (p_u32xor (a := r'8 ^^^ r'9) (b := shr_u32 (lrd w3_1 ((w64 ((w3_1.length : Int) - (2 : Int))).toNat)) 10) rfl rfl rfl) rfl)) (a_op (g_x rfl (x_p rfl (p_u32add (a := ((lrd w3_1 ((w64 ((w3_1.length : Int) - (16 : Int))).toNat)) + (lrd w3_1 ((w64 ((w3_1.length : Int) - (7 : Int))).toNat))) + ((r'6 ^^^ r'7) ^^^ (shr_u32 (lrd w3_1 ((w64 ((w3_1.length : Int) - (15 : Int))).toNat)) 3))) (b := (r'8 ^^^ r'9) ^^^ (shr_u32 (lrd w3_1 ((w64 ((w3_1.length : Int) - (2 : Int))).toNat)) 10)) rfl rfl rfl) rfl)) (a_op (g_x rfl (x_m rfl (u_bs 69 rfl Tryd.underlying146 in_111 rfl one_111 (by decide) (by decide) rfl rfl rfl) rfl rfl)) (a_nil)))))))))))))))))))))))))))))))) ?_
        refine t_op rfl rfl (u_app [3, 39] rfl rfl rfl rfl Tryd.underlying146 Tryd.underlying146 in_111 rfl rfl rfl (ml AV.u32 w3_1) (by decide) (srcT_o rfl rfl (ml AV.u32 ([(((lrd w3_1 ((w64 ((w3_1.length : Int) - (16 : Int))).toNat)) + (lrd w3_1 ((w64 ((w3_1.length : Int) - (7 : Int))).toNat))) + ((r'6 ^^^ r'7) ^^^ (shr_u32 (lrd w3_1 ((w64 ((w3_1.length : Int) - (15 : Int))).toNat)) 3))) + ((r'8 ^^^ r'9) ^^^ (shr_u32 (lrd w3_1 ((w64 ((w3_1.length : Int) - (2 : Int))).toNat)) 10))] : List UInt32)) (by decide)) (ml AV.u32 ([(((lrd w3_1 ((w64 ((w3_1.length : Int) - (16 : Int))).toNat)) + (lrd w3_1 ((w64 ((w3_1.length : Int) - (7 : Int))).toNat))) + ((r'6 ^^^ r'7) ^^^ (shr_u32 (lrd w3_1 ((w64 ((w3_1.length : Int) - (15 : Int))).toNat)) 3))) + ((r'8 ^^^ r'9) ^^^ (shr_u32 (lrd w3_1 ((w64 ((w3_1.length : Int) - (2 : Int))).toNat)) 10))] : List UInt32)) h15 (by decide) rfl rfl (mapp AV.u32 w3_1 ([(((lrd w3_1 ((w64 ((w3_1.length : Int) - (16 : Int))).toNat)) + (lrd w3_1 ((w64 ((w3_1.length : Int) - (7 : Int))).toNat))) + ((r'6 ^^^ r'7) ^^^ (shr_u32 (lrd w3_1 ((w64 ((w3_1.length : Int) - (15 : Int))).toNat)) 3))) + ((r'8 ^^^ r'9) ^^^ (shr_u32 (lrd w3_1 ((w64 ((w3_1.length : Int) - (2 : Int))).toNat)) 10))] : List UInt32)) (lapp w3_1 ([(((lrd w3_1 ((w64 ((w3_1.length : Int) - (16 : Int))).toNat)) + (lrd w3_1 ((w64 ((w3_1.length : Int) - (7 : Int))).toNat))) + ((r'6 ^^^ r'7) ^^^ (shr_u32 (lrd w3_1 ((w64 ((w3_1.length : Int) - (15 : Int))).toNat)) 3))) + ((r'8 ^^^ r'9) ^^^ (shr_u32 (lrd w3_1 ((w64 ((w3_1.length : Int) - (2 : Int))).toNat)) 10))] : List UInt32))) ?_
        refine t_op rfl rfl (PureD.opD (p_asg rfl rfl)) ?_
        refine t_gho (Gho_st (L := [(3, .c (.own 3 (w3_1 ++ ([(((lrd w3_1 ((w64 ((w3_1.length : Int) - (16 : Int))).toNat)) + (lrd w3_1 ((w64 ((w3_1.length : Int) - (7 : Int))).toNat))) + ((r'6 ^^^ r'7) ^^^ (shr_u32 (lrd w3_1 ((w64 ((w3_1.length : Int) - (15 : Int))).toNat)) 3))) + ((r'8 ^^^ r'9) ^^^ (shr_u32 (lrd w3_1 ((w64 ((w3_1.length : Int) - (2 : Int))).toNat)) 10))] : List UInt32)).length 1))]) (H := [(3, .pure ((w3_1 ++ ([(((lrd w3_1 ((w64 ((w3_1.length : Int) - (16 : Int))).toNat)) + (lrd w3_1 ((w64 ((w3_1.length : Int) - (7 : Int))).toNat))) + ((r'6 ^^^ r'7) ^^^ (shr_u32 (lrd w3_1 ((w64 ((w3_1.length : Int) - (15 : Int))).toNat)) 3))) + ((r'8 ^^^ r'9) ^^^ (shr_u32 (lrd w3_1 ((w64 ((w3_1.length : Int) - (2 : Int))).toNat)) 10))] : List UInt32)).map AV.u32))]) (N := 72) rfl ⟨TLes.same _, trivial⟩ ⟨rfl, trivial⟩) ?_
        refine gen1 (fun w3'10 => (⟨[(3, .c (.own 3 w3'10.length 1))], [(3, .pure (w3'10.map AV.u32))], 72⟩ : TS)) H ?_
        intro w3'10 H
        have hz := some_elim H
        subst hz
        exact ⟨rfl, rfl⟩
      · replace H := ite_else h6 H
        refine as2 [(3, .c (.own 3 w3_1.length 1))] [(3, .pure (w3_1.map AV.u32))] rfl rfl rfl ?_
        refine AW2_exit ?_
        refine thenQ2_exit ?_
        have hz := some_elim H
        subst hz
        exact ⟨rfl, rfl⟩
    · obtain ⟨rfl, rfl⟩ := hs
      refine ⟨by simp, ?_⟩
      refine blockQ2_exit ?_
      refine sg [0, 1] rfl ?_
      refine rp rfl rfl (p_move rfl rfl) ?_
      refine rp rfl rfl (p_asg rfl rfl) ?_
      refine rs [(2, .c (.own 3 y'14.length 1))] [(3, .pure (y'14.map AV.u32))] rfl rfl rfl ?_
      refine RunW_gho (Gho_ren 3 2 rfl rfl rfl rfl rfl) ?_
      refine rz [(2, .c (.own 2 y'14.length 1))] [(2, .pure (y'14.map AV.u32))] rfl rfl rfl ?_
      refine as2 [(2, .c (.own 2 y'14.length 1))] [(2, .pure (y'14.map AV.u32))] rfl rfl rfl ?_
      refine AW2_ret ?_
      have hz := some_elim H
      subst hz
      exact ⟨⟨res_tmp (.same _), trivial⟩, ⟨rfl, trivial⟩⟩
theorem g_ref_schedule_ac {b0 : List UInt8} {r : (List UInt32)} (H : g_ref_schedule b0 = some r) : ACp Tryd.prog 125 [(AV.txt b0)] ((fun q : List UInt32 => AV.lst (q.map AV.u32) q.length) r) := ACp_pub (g_ref_schedule_ac2 H) (fun _ _ hm => lent_own hm rfl (ml AV.u32 r) (by decide))

/-! chirographref.block -/
def g_ref_block_t0 : List UInt8 := [52, 50, 56, 97, 50, 102, 57, 56, 55, 49, 51, 55, 52, 52, 57, 49, 98, 53, 99, 48, 102, 98, 99, 102, 101, 57, 98, 53, 100, 98, 97, 53, 51, 57, 53, 54, 99, 50, 53, 98, 53, 57, 102, 49, 49, 49, 102, 49, 57, 50, 51, 102, 56, 50, 97, 52, 97, 98, 49, 99, 53, 101, 100, 53, 100, 56, 48, 55, 97, 97, 57, 56, 49, 50, 56, 51, 53, 98, 48, 49, 50, 52, 51, 49, 56, 53, 98, 101, 53, 53, 48, 99, 55, 100, 99, 51, 55, 50, 98, 101, 53, 100, 55, 52, 56, 48, 100, 101, 98, 49, 102, 101, 57, 98, 100, 99, 48, 54, 97, 55, 99, 49, 57, 98, 102, 49, 55, 52, 101, 52, 57, 98, 54, 57, 99, 49, 101, 102, 98, 101, 52, 55, 56, 54, 48, 102, 99, 49, 57, 100, 99, 54, 50, 52, 48, 99, 97, 49, 99, 99, 50, 100, 101, 57, 50, 99, 54, 102, 52, 97, 55, 52, 56, 52, 97, 97, 53, 99, 98, 48, 97, 57, 100, 99, 55, 54, 102, 57, 56, 56, 100, 97, 57, 56, 51, 101, 53, 49, 53, 50, 97, 56, 51, 49, 99, 54, 54, 100, 98, 48, 48, 51, 50, 55, 99, 56, 98, 102, 53, 57, 55, 102, 99, 55, 99, 54, 101, 48, 48, 98, 102, 51, 100, 53, 97, 55, 57, 49, 52, 55, 48, 54, 99, 97, 54, 51, 53, 49, 49, 52, 50, 57, 50, 57, 54, 55, 50, 55, 98, 55, 48, 97, 56, 53, 50, 101, 49, 98, 50, 49, 51, 56, 52, 100, 50, 99, 54, 100, 102, 99, 53, 51, 51, 56, 48, 100, 49, 51, 54, 53, 48, 97, 55, 51, 53, 52, 55, 54, 54, 97, 48, 97, 98, 98, 56, 49, 99, 50, 99, 57, 50, 101, 57, 50, 55, 50, 50, 99, 56, 53, 97, 50, 98, 102, 101, 56, 97, 49, 97, 56, 49, 97, 54, 54, 52, 98, 99, 50, 52, 98, 56, 98, 55, 48, 99, 55, 54, 99, 53, 49, 97, 51, 100, 49, 57, 50, 101, 56, 49, 57, 100, 54, 57, 57, 48, 54, 50, 52, 102, 52, 48, 101, 51, 53, 56, 53, 49, 48, 54, 97, 97, 48, 55, 48, 49, 57, 97, 52, 99, 49, 49, 54, 49, 101, 51, 55, 54, 99, 48, 56, 50, 55, 52, 56, 55, 55, 52, 99, 51, 52, 98, 48, 98, 99, 98, 53, 51, 57, 49, 99, 48, 99, 98, 51, 52, 101, 100, 56, 97, 97, 52, 97, 53, 98, 57, 99, 99, 97, 52, 102, 54, 56, 50, 101, 54, 102, 102, 51, 55, 52, 56, 102, 56, 50, 101, 101, 55, 56, 97, 53, 54, 51, 54, 102, 56, 52, 99, 56, 55, 56, 49, 52, 56, 99, 99, 55, 48, 50, 48, 56, 57, 48, 98, 101, 102, 102, 102, 97, 97, 52, 53, 48, 54, 99, 101, 98, 98, 101, 102, 57, 97, 51, 102, 55, 99, 54, 55, 49, 55, 56, 102, 50]
noncomputable def g_ref_block_l0 (r'1 : List UInt32) : UInt32 × UInt32 × UInt32 × UInt32 × UInt32 × UInt32 × UInt32 × UInt32 × Int → Option ((UInt32 × UInt32 × UInt32 × UInt32 × UInt32 × UInt32 × UInt32 × UInt32 × Int) ⊕ ((UInt32 × UInt32 × UInt32 × UInt32 × UInt32 × UInt32 × UInt32 × UInt32)))
  | (p6_0, q7_0, r8_0, s9_0, t10_0, u11_0, v12_0, x13_0, i14_0) => (if i14_0 < (64 : Int) then (g_ref_rot t10_0 (6 : Int)).bind fun r'2 => (g_ref_rot t10_0 (11 : Int)).bind fun r'3 => (g_ref_rot t10_0 (25 : Int)).bind fun r'4 => (g_ref_hexWord g_ref_block_t0 i14_0).bind fun r'5 => if 0 ≤ i14_0 ∧ i14_0 < (r'1.length : Int) then letO ((((x13_0 + ((r'2 ^^^ r'3) ^^^ r'4)) + ((t10_0 &&& u11_0) ||| ((~~~ t10_0) &&& v12_0))) + r'5) + (lrd r'1 i14_0.toNat)) fun one17'6 => (g_ref_rot p6_0 (2 : Int)).bind fun r'7 => (g_ref_rot p6_0 (13 : Int)).bind fun r'8 => (g_ref_rot p6_0 (22 : Int)).bind fun r'9 => letO (((r'7 ^^^ r'8) ^^^ r'9) + (((p6_0 &&& q7_0) ||| (p6_0 &&& r8_0)) ||| (q7_0 &&& r8_0))) fun two18'10 => some (.inl (one17'6 + two18'10, p6_0, q7_0, r8_0, s9_0 + one17'6, t10_0, u11_0, v12_0, w64 (i14_0 + (1 : Int)))) else none else some (.inr (p6_0, q7_0, r8_0, s9_0, t10_0, u11_0, v12_0, x13_0)))
noncomputable def g_ref_block (h0 : Vector UInt32 8) (b1 : List UInt8) : Option ((Vector UInt32 8)) :=
  (g_ref_schedule b1).bind fun r'1 => (loopO (g_ref_block_l0 r'1) ((vrd h0 0), (vrd h0 1), (vrd h0 2), (vrd h0 3), (vrd h0 4), (vrd h0 5), (vrd h0 6), (vrd h0 7), (0 : Int))).bind fun y'14 => letO (#v[(vrd h0 0) + y'14.1, (vrd h0 1) + y'14.2.1, (vrd h0 2) + y'14.2.2.1, (vrd h0 3) + y'14.2.2.2.1, (vrd h0 4) + y'14.2.2.2.2.1, (vrd h0 5) + y'14.2.2.2.2.2.1, (vrd h0 6) + y'14.2.2.2.2.2.2.1, (vrd h0 7) + y'14.2.2.2.2.2.2.2]) fun t4'15 => some t4'15
set_option maxHeartbeats 4000000 in
set_option maxRecDepth 100000 in
theorem g_ref_block_ac {h0 : Vector UInt32 8} {b1 : List UInt8} {r : (Vector UInt32 8)} (H : g_ref_block h0 b1 = some r) : ACp Tryd.prog 118 [(.agg (h0.toList.map AV.u32)), (AV.txt b1)] (.agg (r.toList.map AV.u32)) := by
  refine ACp_of (AC2_of_body (vs := [.g (r.toList.map AV.u32)]) Tryd.func118 rfl rfl (Nat.le_of_ble_eq_true rfl) rfl ?_) (fun _ => .same _)
  unfold g_ref_block at H
  refine as2 [(0, .g (h0.toList.map AV.u32)), (1, .t b1)] [] rfl rfl rfl ?_
  refine sg [0, 1] rfl ?_
  refine r_op rfl rfl (MakeD.opD (n_box 2 rfl rfl) rfl rfl rfl rfl) ?_
  refine r_op rfl rfl (MakeD.opD (u_alloc 4 rfl in_112 one_112 zc_112) rfl rfl rfl rfl) ?_
  refine rz [(1, .t b1), (2, .q 2 (0)), (4, .q 4 (0))] [(2, .pure (h0.toList.map AV.u32)), (4, .pure (((Vector.replicate 8 (0 : UInt32)).toList).map AV.u32))] rfl rfl rfl ?_
  refine sg [0, 1, 2] rfl ?_
  refine rp rfl rfl (p_move rfl rfl) ?_
  refine bindK H fun r'1 h1 H => ?_
  refine rp rfl rfl (p_callp rfl rfl rfl Tryd.func125 rfl rfl (g_ref_schedule_ac h1) ⟨rfl, trivial⟩) ?_
  refine rp rfl rfl (p_asg rfl rfl) ?_
  refine rz [(2, .q 2 (0)), (4, .q 4 (0)), (5, .p ((fun q : List UInt32 => AV.lst (q.map AV.u32) q.length) r'1))] [(2, .pure (h0.toList.map AV.u32)), (4, .pure (((Vector.replicate 8 (0 : UInt32)).toList).map AV.u32))] rfl rfl rfl ?_
  refine AW2_seq ?_
  refine AW2_ghoQ ?_
  refine AW2_draw 23 [23] (fun k => ([.q 2 (0 + 0 * 1), .p (AV.u32 (vrd h0 0)), .q 2 (0 + 1 * 1), .p (AV.u32 (vrd h0 1)), .q 2 (0 + 2 * 1), .p (AV.u32 (vrd h0 2)), .q 2 (0 + 3 * 1), .p (AV.u32 (vrd h0 3)), .q 2 (0 + 4 * 1), .p (AV.u32 (vrd h0 4)), .q 2 (0 + 5 * 1), .p (AV.u32 (vrd h0 5)), .q 2 (0 + 6 * 1), .p (AV.u32 (vrd h0 6)), .q 2 (0 + 7 * 1), .p (AV.u32 (vrd h0 7)), .p (AV.u32 (vrd h0 0)), .p (AV.u32 (vrd h0 1)), .p (AV.u32 (vrd h0 2)), .p (AV.u32 (vrd h0 3)), .p (AV.u32 (vrd h0 4)), .p (AV.u32 (vrd h0 5)), .p (AV.u32 (vrd h0 6))] : List TV).getD k TV.any) (fun k => ([[(2, none)], [(21, some 0)], [(2, none)], [(23, some 2)], [(2, none)], [(25, some 4)], [(2, none)], [(27, some 6)], [(2, none)], [(29, some 8)], [(2, none)], [(31, some 10)], [(2, none)], [(33, some 12)], [(2, none)], [(35, some 14)], [(22, some 1)], [(24, some 3)], [(26, some 5)], [(28, some 7)], [(30, some 9)], [(32, some 11)], [(34, some 13)]] : List (List (Nat × Option Nat))).getD k []) [(2, none), (4, none), (5, none), (6, some 16), (7, some 17), (8, some 18), (9, some 19), (10, some 20), (11, some 21), (12, some 22), (36, some 15)] [] (fun k => ([[], [0], [], [2], [], [4], [], [6], [], [8], [], [10], [], [12], [], [14], [0, 1], [0, 1, 2, 3, 16], [0, 1, 2, 3, 4, 5, 16, 17], [0, 1, 2, 3, 4, 5, 6, 7, 16, 17, 18], [0, 1, 2, 3, 4, 5, 6, 7, 8, 9, 16, 17, 18, 19], [0, 1, 2, 3, 4, 5, 6, 7, 8, 9, 10, 11, 16, 17, 18, 19, 20], [0, 1, 2, 3, 4, 5, 6, 7, 8, 9, 10, 11, 12, 13, 16, 17, 18, 19, 20, 21], [0, 1, 2, 3, 4, 5, 6, 7, 8, 9, 10, 11, 12, 13, 14, 15, 16, 17, 18, 19, 20, 21, 22]] : List (List Nat)).getD k []) mixed (by kernel_rfl) rfl rfl (a_op (g_x rfl (x_p rfl (u_ixp rfl rfl Tryd.underlying112 in_111 rfl rfl (ne_of_lt (n := 0) (Nat.lt_of_lt_of_eq (by decide) (Eq.symm (vmap_len (f := AV.u32) h0)))) rfl rfl (by decide)) rfl)) (a_op (g_x rfl (x_p rfl (u_ld rfl rfl Tryd.underlying111 rfl rfl ((Sub.refl _).trans (Sub.vmap (by decide)))) rfl)) (a_op (g_x rfl (x_p rfl (u_ixp rfl rfl Tryd.underlying112 in_111 rfl rfl (ne_of_lt (n := 0) (Nat.lt_of_lt_of_eq (by decide) (Eq.symm (vmap_len (f := AV.u32) h0)))) rfl rfl (by decide)) rfl)) (a_op (g_x rfl (x_p rfl (u_ld rfl rfl Tryd.underlying111 rfl rfl ((Sub.refl _).trans (Sub.vmap (by decide)))) rfl)) (a_op (g_x rfl (x_p rfl (u_ixp rfl rfl Tryd.underlying112 in_111 rfl rfl (ne_of_lt (n := 0) (Nat.lt_of_lt_of_eq (by decide) (Eq.symm (vmap_len (f := AV.u32) h0)))) rfl rfl (by decide)) rfl)) (a_op (g_x rfl (x_p rfl (u_ld rfl rfl Tryd.underlying111 rfl rfl ((Sub.refl _).trans (Sub.vmap (by decide)))) rfl)) (a_op (g_x rfl (x_p rfl (u_ixp rfl rfl Tryd.underlying112 in_111 rfl rfl (ne_of_lt (n := 0) (Nat.lt_of_lt_of_eq (by decide) (Eq.symm (vmap_len (f := AV.u32) h0)))) rfl rfl (by decide)) rfl)) (a_op (g_x rfl (x_p rfl (u_ld rfl rfl Tryd.underlying111 rfl rfl ((Sub.refl _).trans (Sub.vmap (by decide)))) rfl)) (a_op (g_x rfl (x_p rfl (u_ixp rfl rfl Tryd.underlying112 in_111 rfl rfl (ne_of_lt (n := 0) (Nat.lt_of_lt_of_eq (by decide) (Eq.symm (vmap_len (f := AV.u32) h0)))) rfl rfl (by decide)) rfl)) (a_op (g_x rfl (x_p rfl (u_ld rfl rfl Tryd.underlying111 rfl rfl ((Sub.refl _).trans (Sub.vmap (by decide)))) rfl)) (a_op (g_x rfl (x_p rfl (u_ixp rfl rfl Tryd.underlying112 in_111 rfl rfl (ne_of_lt (n := 0) (Nat.lt_of_lt_of_eq (by decide) (Eq.symm (vmap_len (f := AV.u32) h0)))) rfl rfl (by decide)) rfl)) (a_op (g_x rfl (x_p rfl (u_ld rfl rfl Tryd.underlying111 rfl rfl ((Sub.refl _).trans (Sub.vmap (by decide)))) rfl)) (a_op (g_x rfl (x_p rfl (u_ixp rfl rfl Tryd.underlying112 in_111 rfl rfl (ne_of_lt (n := 0) (Nat.lt_of_lt_of_eq (by decide) (Eq.symm (vmap_len (f := AV.u32) h0)))) rfl rfl (by decide)) rfl)) (a_op (g_x rfl (x_p rfl (u_ld rfl rfl Tryd.underlying111 rfl rfl ((Sub.refl _).trans (Sub.vmap (by decide)))) rfl)) (a_op (g_x rfl (x_p rfl (u_ixp rfl rfl Tryd.underlying112 in_111 rfl rfl (ne_of_lt (n := 0) (Nat.lt_of_lt_of_eq (by decide) (Eq.symm (vmap_len (f := AV.u32) h0)))) rfl rfl (by decide)) rfl)) (a_op (g_x rfl (x_p rfl (u_ld rfl rfl Tryd.underlying111 rfl rfl ((Sub.refl _).trans (Sub.vmap (by decide)))) rfl)) (a_op (g_x rfl (x_p rfl (p_asg rfl rfl) rfl)) (a_op (g_x rfl (x_p rfl (p_asg rfl rfl) rfl)) (a_op (g_x rfl (x_p rfl (p_asg rfl rfl) rfl)) (a_op (g_x rfl (x_p rfl (p_asg rfl rfl) rfl)) (a_op (g_x rfl (x_p rfl (p_asg rfl rfl) rfl)) (a_op (g_x rfl (x_p rfl (p_asg rfl rfl) rfl)) (a_op (g_x rfl (x_p rfl (p_asg rfl rfl) rfl)) (a_nil)))))))))))))))))))))))) ?_
  refine t_op rfl rfl (PureD.opD (p_asg rfl rfl)) ?_
  refine t_gho (Gho_st (L := [(2, .q 2 (0)), (4, .q 4 (0)), (5, .p ((fun q : List UInt32 => AV.lst (q.map AV.u32) q.length) r'1)), (6, .p (AV.u32 (vrd h0 0))), (7, .p (AV.u32 (vrd h0 1))), (8, .p (AV.u32 (vrd h0 2))), (9, .p (AV.u32 (vrd h0 3))), (10, .p (AV.u32 (vrd h0 4))), (11, .p (AV.u32 (vrd h0 5))), (12, .p (AV.u32 (vrd h0 6))), (13, .p (AV.u32 (vrd h0 7)))]) (H := [(2, .pure (h0.toList.map AV.u32)), (4, .pure (((Vector.replicate 8 (0 : UInt32)).toList).map AV.u32))]) (N := 135) rfl ⟨TLes.same _, TLes.same _, TLes.same _, TLes.same _, TLes.same _, TLes.same _, TLes.same _, TLes.same _, TLes.same _, TLes.same _, TLes.same _, trivial⟩ ⟨rfl, rfl, trivial⟩) ?_
  refine AW2_seq ?_
  refine sg [0] rfl ?_
  refine rp rfl rfl (p_asg rfl rfl) ?_
  refine rz [(2, .q 2 (0)), (4, .q 4 (0)), (5, .p ((fun q : List UInt32 => AV.lst (q.map AV.u32) q.length) r'1)), (6, .p (AV.u32 (vrd h0 0))), (7, .p (AV.u32 (vrd h0 1))), (8, .p (AV.u32 (vrd h0 2))), (9, .p (AV.u32 (vrd h0 3))), (10, .p (AV.u32 (vrd h0 4))), (11, .p (AV.u32 (vrd h0 5))), (12, .p (AV.u32 (vrd h0 6))), (13, .p (AV.u32 (vrd h0 7))), (14, .i (0 : Int))] [(2, .pure (h0.toList.map AV.u32)), (4, .pure (((Vector.replicate 8 (0 : UInt32)).toList).map AV.u32))] rfl rfl rfl ?_
  refine AW2_block ?_
  refine as2 [(2, .q 2 (0)), (4, .q 4 (0)), (5, .p ((fun q : List UInt32 => AV.lst (q.map AV.u32) q.length) r'1)), (6, .p (AV.u32 (vrd h0 0))), (7, .p (AV.u32 (vrd h0 1))), (8, .p (AV.u32 (vrd h0 2))), (9, .p (AV.u32 (vrd h0 3))), (10, .p (AV.u32 (vrd h0 4))), (11, .p (AV.u32 (vrd h0 5))), (12, .p (AV.u32 (vrd h0 6))), (13, .p (AV.u32 (vrd h0 7))), (14, .i (0 : Int))] [(2, .pure (h0.toList.map AV.u32)), (4, .pure (((Vector.replicate 8 (0 : UInt32)).toList).map AV.u32))] rfl rfl rfl ?_
  refine bindK H fun y'14 h11 H => ?_
  refine AW2_loopO (fun a'11 : UInt32 × UInt32 × UInt32 × UInt32 × UInt32 × UInt32 × UInt32 × UInt32 × Int => (⟨[(2, .q 2 (0)), (4, .q 4 (0)), (5, .p ((fun q : List UInt32 => AV.lst (q.map AV.u32) q.length) r'1)), (6, .p (AV.u32 a'11.1)), (7, .p (AV.u32 a'11.2.1)), (8, .p (AV.u32 a'11.2.2.1)), (9, .p (AV.u32 a'11.2.2.2.1)), (10, .p (AV.u32 a'11.2.2.2.2.1)), (11, .p (AV.u32 a'11.2.2.2.2.2.1)), (12, .p (AV.u32 a'11.2.2.2.2.2.2.1)), (13, .p (AV.u32 a'11.2.2.2.2.2.2.2.1)), (14, .i a'11.2.2.2.2.2.2.2.2)], [(2, .pure (h0.toList.map AV.u32)), (4, .pure (((Vector.replicate 8 (0 : UInt32)).toList).map AV.u32))], 135⟩ : TS)) (fun (y'12 : (UInt32 × UInt32 × UInt32 × UInt32 × UInt32 × UInt32 × UInt32 × UInt32)) e s' => e = Go.Exit.exit 0 ∧ s' = (⟨[(2, .q 2 (0)), (4, .q 4 (0)), (6, .p (AV.u32 y'12.1)), (7, .p (AV.u32 y'12.2.1)), (8, .p (AV.u32 y'12.2.2.1)), (9, .p (AV.u32 y'12.2.2.2.1)), (10, .p (AV.u32 y'12.2.2.2.2.1)), (11, .p (AV.u32 y'12.2.2.2.2.2.1)), (12, .p (AV.u32 y'12.2.2.2.2.2.2.1)), (13, .p (AV.u32 y'12.2.2.2.2.2.2.2))], [(2, .pure (h0.toList.map AV.u32)), (4, .pure (((Vector.replicate 8 (0 : UInt32)).toList).map AV.u32))], 135⟩ : TS)) h11 rfl (fun a x hx => ?_) (fun e s' hs => ?_)
  · clear H
    obtain ⟨p6_0, q7_0, r8_0, s9_0, t10_0, u11_0, v12_0, x13_0, i14_0⟩ := a
    have H := hx
    clear hx
    unfold g_ref_block_l0 at H
    refine AW2_seq ?_
    refine sg [0, 1] rfl ?_
    refine rp rfl rfl (p_move rfl rfl) ?_
    refine rp rfl rfl (p_bin rfl rfl rfl rfl) ?_
    refine rz [(2, .q 2 (0)), (4, .q 4 (0)), (5, .p ((fun q : List UInt32 => AV.lst (q.map AV.u32) q.length) r'1)), (6, .p (AV.u32 p6_0)), (7, .p (AV.u32 q7_0)), (8, .p (AV.u32 r8_0)), (9, .p (AV.u32 s9_0)), (10, .p (AV.u32 t10_0)), (11, .p (AV.u32 u11_0)), (12, .p (AV.u32 v12_0)), (13, .p (AV.u32 x13_0)), (14, .i i14_0), (38, .b (decide (i14_0 < (64 : Int))))] [(2, .pure (h0.toList.map AV.u32)), (4, .pure (((Vector.replicate 8 (0 : UInt32)).toList).map AV.u32))] rfl rfl rfl ?_
    refine AW2_if (p := i14_0 < (64 : Int)) rfl (fun h2 => ?_) (fun h2 => ?_)
    · replace H := ite_then h2 H
      refine as2 [(2, .q 2 (0)), (4, .q 4 (0)), (5, .p ((fun q : List UInt32 => AV.lst (q.map AV.u32) q.length) r'1)), (6, .p (AV.u32 p6_0)), (7, .p (AV.u32 q7_0)), (8, .p (AV.u32 r8_0)), (9, .p (AV.u32 s9_0)), (10, .p (AV.u32 t10_0)), (11, .p (AV.u32 u11_0)), (12, .p (AV.u32 v12_0)), (13, .p (AV.u32 x13_0)), (14, .i i14_0)] [(2, .pure (h0.toList.map AV.u32)), (4, .pure (((Vector.replicate 8 (0 : UInt32)).toList).map AV.u32))] rfl rfl rfl ?_
      refine AW2_skip ?_
      refine AW2_seq ?_
      refine AW2_block ?_
      refine sg [0, 1, 2, 3, 4, 5, 6, 7, 8] rfl ?_
      refine rp rfl rfl (p_move rfl rfl) ?_
      refine rp rfl rfl (p_move rfl rfl) ?_
      refine rp rfl rfl (p_u32and (a := t10_0) (b := u11_0) rfl rfl rfl) ?_
      refine rp rfl rfl (p_move rfl rfl) ?_
      refine rp rfl rfl (p_u32cpl rfl rfl) ?_
      refine rp rfl rfl (p_move rfl rfl) ?_
      refine rp rfl rfl (p_u32and (a := ~~~ t10_0) (b := v12_0) rfl rfl rfl) ?_
      refine rp rfl rfl (p_u32or (a := t10_0 &&& u11_0) (b := (~~~ t10_0) &&& v12_0) rfl rfl rfl) ?_
      refine rp rfl rfl (p_asg rfl rfl) ?_
      refine rz [(2, .q 2 (0)), (4, .q 4 (0)), (5, .p ((fun q : List UInt32 => AV.lst (q.map AV.u32) q.length) r'1)), (6, .p (AV.u32 p6_0)), (7, .p (AV.u32 q7_0)), (8, .p (AV.u32 r8_0)), (9, .p (AV.u32 s9_0)), (10, .p (AV.u32 t10_0)), (11, .p (AV.u32 u11_0)), (12, .p (AV.u32 v12_0)), (13, .p (AV.u32 x13_0)), (14, .i i14_0), (15, .p (AV.u32 ((t10_0 &&& u11_0) ||| ((~~~ t10_0) &&& v12_0))))] [(2, .pure (h0.toList.map AV.u32)), (4, .pure (((Vector.replicate 8 (0 : UInt32)).toList).map AV.u32))] rfl rfl rfl ?_
      refine sg [0, 1, 2, 3, 4, 5, 6, 7, 8, 9, 10, 11] rfl ?_
      refine rp rfl rfl (p_move rfl rfl) ?_
      refine rp rfl rfl (p_move rfl rfl) ?_
      refine rp rfl rfl (p_u32and (a := p6_0) (b := q7_0) rfl rfl rfl) ?_
      refine rp rfl rfl (p_move rfl rfl) ?_
      refine rp rfl rfl (p_move rfl rfl) ?_
      refine rp rfl rfl (p_u32and (a := p6_0) (b := r8_0) rfl rfl rfl) ?_
      refine rp rfl rfl (p_u32or (a := p6_0 &&& q7_0) (b := p6_0 &&& r8_0) rfl rfl rfl) ?_
      refine rp rfl rfl (p_move rfl rfl) ?_
      refine rp rfl rfl (p_move rfl rfl) ?_
      refine rp rfl rfl (p_u32and (a := q7_0) (b := r8_0) rfl rfl rfl) ?_
      refine rp rfl rfl (p_u32or (a := (p6_0 &&& q7_0) ||| (p6_0 &&& r8_0)) (b := q7_0 &&& r8_0) rfl rfl rfl) ?_
      refine rp rfl rfl (p_asg rfl rfl) ?_
      refine rz [(2, .q 2 (0)), (4, .q 4 (0)), (5, .p ((fun q : List UInt32 => AV.lst (q.map AV.u32) q.length) r'1)), (6, .p (AV.u32 p6_0)), (7, .p (AV.u32 q7_0)), (8, .p (AV.u32 r8_0)), (9, .p (AV.u32 s9_0)), (10, .p (AV.u32 t10_0)), (11, .p (AV.u32 u11_0)), (12, .p (AV.u32 v12_0)), (13, .p (AV.u32 x13_0)), (14, .i i14_0), (15, .p (AV.u32 ((t10_0 &&& u11_0) ||| ((~~~ t10_0) &&& v12_0)))), (16, .p (AV.u32 (((p6_0 &&& q7_0) ||| (p6_0 &&& r8_0)) ||| (q7_0 &&& r8_0))))] [(2, .pure (h0.toList.map AV.u32)), (4, .pure (((Vector.replicate 8 (0 : UInt32)).toList).map AV.u32))] rfl rfl rfl ?_
      refine AW2_seq ?_
      refine bindK H fun r'2 h3 H => ?_
      refine bindK H fun r'3 h4 H => ?_
      refine bindK H fun r'4 h5 H => ?_
      refine bindK H fun r'5 h6 H => ?_
      refine chkK H fun h7 H => ?_
      refine AW2_ghoQ ?_
      refine AW2_draw 19 [19, 20] (fun k => ([.p (AV.u32 x13_0), .p (AV.u32 t10_0), .p (AV.u32 r'2), .p (AV.u32 t10_0), .p (AV.u32 r'3), .p (AV.u32 (r'2 ^^^ r'3)), .p (AV.u32 t10_0), .p (AV.u32 r'4), .p (AV.u32 ((r'2 ^^^ r'3) ^^^ r'4)), .p (AV.u32 (x13_0 + ((r'2 ^^^ r'3) ^^^ r'4))), .p (AV.u32 ((t10_0 &&& u11_0) ||| ((~~~ t10_0) &&& v12_0))), .p (AV.u32 ((x13_0 + ((r'2 ^^^ r'3) ^^^ r'4)) + ((t10_0 &&& u11_0) ||| ((~~~ t10_0) &&& v12_0)))), .i i14_0, .p (AV.u32 r'5), .p (AV.u32 (((x13_0 + ((r'2 ^^^ r'3) ^^^ r'4)) + ((t10_0 &&& u11_0) ||| ((~~~ t10_0) &&& v12_0))) + r'5)), .p ((fun q : List UInt32 => AV.lst (q.map AV.u32) q.length) r'1), .i i14_0, .p (.rptr (r'1.map AV.u32) (i14_0.toNat * 1)), .p (AV.u32 (lrd r'1 i14_0.toNat))] : List TV).getD k TV.any) (fun k => ([[(13, none)], [(10, none)], [(61, some 1)], [(10, none)], [(63, some 3)], [(62, some 2), (64, some 4)], [(10, none)], [(66, some 6)], [(65, some 5), (67, some 7)], [(60, some 0), (68, some 8)], [(15, none)], [(69, some 9), (70, some 10)], [(14, none)], [(72, some 12)], [(71, some 11), (73, some 13)], [(5, none)], [(14, none)], [(75, some 15), (76, some 16)], [(77, some 17)]] : List (List (Nat × Option Nat))).getD k []) [(2, none), (4, none), (5, none), (6, none), (7, none), (8, none), (9, none), (10, none), (11, none), (12, none), (14, none), (16, none), (74, some 14), (78, some 18)] [] (fun k => ([[], [], [1], [], [1, 2, 3], [1, 2, 3, 4], [], [1, 2, 3, 4, 6], [1, 2, 3, 4, 5, 6, 7], [0, 1, 2, 3, 4, 5, 6, 7, 8], [], [0, 1, 2, 3, 4, 5, 6, 7, 8, 9, 10], [], [1, 2, 3, 4, 6, 7, 12], [0, 1, 2, 3, 4, 5, 6, 7, 8, 9, 10, 11, 12, 13], [], [], [15, 16], [15, 16, 17], [0, 1, 2, 3, 4, 5, 6, 7, 8, 9, 10, 11, 12, 13, 14, 15, 16, 17, 18], [0, 1, 2, 3, 4, 5, 6, 7, 8, 9, 10, 11, 12, 13, 14, 15, 16, 17, 18, 19]] : List (List Nat)).getD k []) mixed (by kernel_rfl) rfl rfl (a_op (g_x rfl (x_p rfl (p_move rfl rfl) rfl)) (a_op (g_x rfl (x_p rfl (p_move rfl rfl) rfl)) (a_op (g_x rfl (x_p rfl (p_callp rfl rfl rfl Tryd.func126 rfl rfl (g_ref_rot_ac h3) ⟨rfl, rfl, trivial⟩) rfl)) (a_op (g_x rfl (x_p rfl (p_move rfl rfl) rfl)) (a_op (g_x rfl (x_p rfl (p_callp rfl rfl rfl Tryd.func126 rfl rfl (g_ref_rot_ac h4) ⟨rfl, rfl, trivial⟩) rfl)) (a_op (g_x rfl (x_p rfl (p_u32xor (a := r'2) (b := r'3) rfl rfl rfl) rfl)) (a_op (g_x rfl (x_p rfl (p_move rfl rfl) rfl)) (a_op (g_x rfl (x_p rfl (p_callp rfl rfl rfl Tryd.func126 rfl rfl (g_ref_rot_ac h5) ⟨rfl, rfl, trivial⟩) rfl)) (a_op (g_x rfl (x_p rfl (p_u32xor (a := r'2 ^^^ r'3) (b := r'4) rfl rfl rfl) rfl)) (a_op (g_x rfl (x_p rfl (p_u32add (a := x13_0) (b := (r'2 ^^^ r'3) ^^^ r'4) rfl rfl rfl) rfl)) (a_op (g_x rfl (x_p rfl (p_move rfl rfl) rfl)) (a_op (g_x rfl (x_p rfl (p_u32add (a := x13_0 + ((r'2 ^^^ r'3) ^^^ r'4)) (b := (t10_0 &&& u11_0) ||| ((~~~ t10_0) &&& v12_0)) rfl rfl rfl) rfl)) (a_op (g_x rfl (x_p rfl (p_move rfl rfl) rfl)) (a_op (g_x rfl (x_p rfl (p_callp rfl rfl rfl Tryd.func110 rfl rfl (g_ref_hexWord_ac h6) ⟨by kernel_rfl, rfl, trivial⟩) rfl)) (a_op (g_x rfl (x_p rfl (p_u32add (a := (x13_0 + ((r'2 ^^^ r'3) ^^^ r'4)) + ((t10_0 &&& u11_0) ||| ((~~~ t10_0) &&& v12_0))) (b := r'5) rfl rfl rfl) rfl)) (a_op (g_x rfl (x_p rfl (p_move rfl rfl) rfl)) (a_op (g_x rfl (x_p rfl (p_move rfl rfl) rfl)) (a_op (g_x rfl (x_p rfl (u_ixl rfl rfl Tryd.underlying146 in_111 rfl rfl (ixe h7) (ixn h7) (lne (ixn h7))) rfl)) (a_op (g_x rfl (x_p rfl (u_ld rfl rfl Tryd.underlying111 rfl rfl (Sub.map default (ixn h7))) rfl)) (a_nil)))))))))))))))))))) ?_
      refine t_op rfl rfl (PureD.opD (p_u32add (a := ((x13_0 + ((r'2 ^^^ r'3) ^^^ r'4)) + ((t10_0 &&& u11_0) ||| ((~~~ t10_0) &&& v12_0))) + r'5) (b := (lrd r'1 i14_0.toNat)) rfl rfl rfl)) ?_
      refine t_op rfl rfl (PureD.opD (p_asg rfl rfl)) ?_
      refine t_gho (Gho_st (L := [(2, .q 2 (0)), (4, .q 4 (0)), (5, .p ((fun q : List UInt32 => AV.lst (q.map AV.u32) q.length) r'1)), (6, .p (AV.u32 p6_0)), (7, .p (AV.u32 q7_0)), (8, .p (AV.u32 r8_0)), (9, .p (AV.u32 s9_0)), (10, .p (AV.u32 t10_0)), (11, .p (AV.u32 u11_0)), (12, .p (AV.u32 v12_0)), (14, .i i14_0), (16, .p (AV.u32 (((p6_0 &&& q7_0) ||| (p6_0 &&& r8_0)) ||| (q7_0 &&& r8_0)))), (17, .p (AV.u32 ((((x13_0 + ((r'2 ^^^ r'3) ^^^ r'4)) + ((t10_0 &&& u11_0) ||| ((~~~ t10_0) &&& v12_0))) + r'5) + (lrd r'1 i14_0.toNat))))]) (H := [(2, .pure (h0.toList.map AV.u32)), (4, .pure (((Vector.replicate 8 (0 : UInt32)).toList).map AV.u32))]) (N := 135) rfl ⟨TLes.same _, TLes.same _, TLes.same _, TLes.same _, TLes.same _, TLes.same _, TLes.same _, TLes.same _, TLes.same _, TLes.same _, TLes.same _, TLes.same _, TLes.same _, trivial⟩ ⟨rfl, rfl, trivial⟩) ?_
      refine gen1 (fun one17'6 => (⟨[(2, .q 2 (0)), (4, .q 4 (0)), (5, .p ((fun q : List UInt32 => AV.lst (q.map AV.u32) q.length) r'1)), (6, .p (AV.u32 p6_0)), (7, .p (AV.u32 q7_0)), (8, .p (AV.u32 r8_0)), (9, .p (AV.u32 s9_0)), (10, .p (AV.u32 t10_0)), (11, .p (AV.u32 u11_0)), (12, .p (AV.u32 v12_0)), (14, .i i14_0), (16, .p (AV.u32 (((p6_0 &&& q7_0) ||| (p6_0 &&& r8_0)) ||| (q7_0 &&& r8_0)))), (17, .p (AV.u32 one17'6))], [(2, .pure (h0.toList.map AV.u32)), (4, .pure (((Vector.replicate 8 (0 : UInt32)).toList).map AV.u32))], 135⟩ : TS)) H ?_
      intro one17'6 H
      refine sg [0, 1, 2, 3, 4, 5, 6, 7, 8, 9, 10] rfl ?_
      refine rp rfl rfl (p_move rfl rfl) ?_
      refine bindK H fun r'7 h8 H => ?_
      refine rp rfl rfl (p_callp rfl rfl rfl Tryd.func126 rfl rfl (g_ref_rot_ac h8) ⟨rfl, rfl, trivial⟩) ?_
      refine rp rfl rfl (p_move rfl rfl) ?_
      refine bindK H fun r'8 h9 H => ?_
      refine rp rfl rfl (p_callp rfl rfl rfl Tryd.func126 rfl rfl (g_ref_rot_ac h9) ⟨rfl, rfl, trivial⟩) ?_
      refine rp rfl rfl (p_u32xor (a := r'7) (b := r'8) rfl rfl rfl) ?_
      refine rp rfl rfl (p_move rfl rfl) ?_
      refine bindK H fun r'9 h10 H => ?_
      refine rp rfl rfl (p_callp rfl rfl rfl Tryd.func126 rfl rfl (g_ref_rot_ac h10) ⟨rfl, rfl, trivial⟩) ?_
      refine rp rfl rfl (p_u32xor (a := r'7 ^^^ r'8) (b := r'9) rfl rfl rfl) ?_
      refine rp rfl rfl (p_move rfl rfl) ?_
      refine rp rfl rfl (p_u32add (a := (r'7 ^^^ r'8) ^^^ r'9) (b := ((p6_0 &&& q7_0) ||| (p6_0 &&& r8_0)) ||| (q7_0 &&& r8_0)) rfl rfl rfl) ?_
      refine rp rfl rfl (p_asg rfl rfl) ?_
      refine rz [(2, .q 2 (0)), (4, .q 4 (0)), (5, .p ((fun q : List UInt32 => AV.lst (q.map AV.u32) q.length) r'1)), (6, .p (AV.u32 p6_0)), (7, .p (AV.u32 q7_0)), (8, .p (AV.u32 r8_0)), (9, .p (AV.u32 s9_0)), (10, .p (AV.u32 t10_0)), (11, .p (AV.u32 u11_0)), (12, .p (AV.u32 v12_0)), (14, .i i14_0), (17, .p (AV.u32 one17'6)), (18, .p (AV.u32 (((r'7 ^^^ r'8) ^^^ r'9) + (((p6_0 &&& q7_0) ||| (p6_0 &&& r8_0)) ||| (q7_0 &&& r8_0)))))] [(2, .pure (h0.toList.map AV.u32)), (4, .pure (((Vector.replicate 8 (0 : UInt32)).toList).map AV.u32))] rfl rfl rfl ?_
      refine gen1 (fun two18'10 => (⟨[(2, .q 2 (0)), (4, .q 4 (0)), (5, .p ((fun q : List UInt32 => AV.lst (q.map AV.u32) q.length) r'1)), (6, .p (AV.u32 p6_0)), (7, .p (AV.u32 q7_0)), (8, .p (AV.u32 r8_0)), (9, .p (AV.u32 s9_0)), (10, .p (AV.u32 t10_0)), (11, .p (AV.u32 u11_0)), (12, .p (AV.u32 v12_0)), (14, .i i14_0), (17, .p (AV.u32 one17'6)), (18, .p (AV.u32 two18'10))], [(2, .pure (h0.toList.map AV.u32)), (4, .pure (((Vector.replicate 8 (0 : UInt32)).toList).map AV.u32))], 135⟩ : TS)) H ?_
      intro two18'10 H
      refine AW2_reg [0, 1, 2, 3, 4, 5, 6, 7, 8, 9, 10, 11, 12, 13, 14, 15, 16, 17, 18, 19] rfl ?_
      refine rp rfl rfl (p_move rfl rfl) ?_
      refine rp rfl rfl (p_move rfl rfl) ?_
      refine rp rfl rfl (p_u32add (a := one17'6) (b := two18'10) rfl rfl rfl) ?_
      refine rp rfl rfl (p_move rfl rfl) ?_
      refine rp rfl rfl (p_move rfl rfl) ?_
      refine rp rfl rfl (p_move rfl rfl) ?_
      refine rp rfl rfl (p_move rfl rfl) ?_
      refine rp rfl rfl (p_move rfl rfl) ?_
      refine rp rfl rfl (p_u32add (a := s9_0) (b := one17'6) rfl rfl rfl) ?_
      refine rp rfl rfl (p_move rfl rfl) ?_
      refine rp rfl rfl (p_move rfl rfl) ?_
      refine rp rfl rfl (p_move rfl rfl) ?_
      refine rp rfl rfl (p_asg rfl rfl) ?_
      refine rp rfl rfl (p_asg rfl rfl) ?_
      refine rp rfl rfl (p_asg rfl rfl) ?_
      refine rp rfl rfl (p_asg rfl rfl) ?_
      refine rp rfl rfl (p_asg rfl rfl) ?_
      refine rp rfl rfl (p_asg rfl rfl) ?_
      refine rp rfl rfl (p_asg rfl rfl) ?_
      refine rp rfl rfl (p_asg rfl rfl) ?_
      refine rz [(2, .q 2 (0)), (4, .q 4 (0)), (5, .p ((fun q : List UInt32 => AV.lst (q.map AV.u32) q.length) r'1)), (6, .p (AV.u32 (one17'6 + two18'10))), (7, .p (AV.u32 p6_0)), (8, .p (AV.u32 q7_0)), (9, .p (AV.u32 r8_0)), (10, .p (AV.u32 (s9_0 + one17'6))), (11, .p (AV.u32 t10_0)), (12, .p (AV.u32 u11_0)), (13, .p (AV.u32 v12_0)), (14, .i i14_0)] [(2, .pure (h0.toList.map AV.u32)), (4, .pure (((Vector.replicate 8 (0 : UInt32)).toList).map AV.u32))] rfl rfl rfl ?_
      refine AW2_reg [0, 1, 2] rfl ?_
      refine rp rfl rfl (p_move rfl rfl) ?_
      refine rp rfl rfl (p_bin rfl rfl rfl rfl) ?_
      refine rp rfl rfl (p_asg rfl rfl) ?_
      refine rz [(2, .q 2 (0)), (4, .q 4 (0)), (5, .p ((fun q : List UInt32 => AV.lst (q.map AV.u32) q.length) r'1)), (6, .p (AV.u32 (one17'6 + two18'10))), (7, .p (AV.u32 p6_0)), (8, .p (AV.u32 q7_0)), (9, .p (AV.u32 r8_0)), (10, .p (AV.u32 (s9_0 + one17'6))), (11, .p (AV.u32 t10_0)), (12, .p (AV.u32 u11_0)), (13, .p (AV.u32 v12_0)), (14, .i (w64 (i14_0 + (1 : Int))))] [(2, .pure (h0.toList.map AV.u32)), (4, .pure (((Vector.replicate 8 (0 : UInt32)).toList).map AV.u32))] rfl rfl rfl ?_
      have hz := some_elim H
      subst hz
      exact ⟨rfl, rfl⟩
    · replace H := ite_else h2 H
      refine as2 [(2, .q 2 (0)), (4, .q 4 (0)), (6, .p (AV.u32 p6_0)), (7, .p (AV.u32 q7_0)), (8, .p (AV.u32 r8_0)), (9, .p (AV.u32 s9_0)), (10, .p (AV.u32 t10_0)), (11, .p (AV.u32 u11_0)), (12, .p (AV.u32 v12_0)), (13, .p (AV.u32 x13_0))] [(2, .pure (h0.toList.map AV.u32)), (4, .pure (((Vector.replicate 8 (0 : UInt32)).toList).map AV.u32))] rfl rfl rfl ?_
      refine AW2_exit ?_
      refine thenQ2_exit ?_
      have hz := some_elim H
      subst hz
      exact ⟨rfl, rfl⟩
  · obtain ⟨rfl, rfl⟩ := hs
    refine ⟨by simp, ?_⟩
    refine blockQ2_exit ?_
    refine sg [0, 1, 2, 3, 4, 5, 6, 7, 8, 9, 10, 11, 12, 13, 14, 15, 16, 17, 18, 19, 20, 21, 22, 23, 24, 25, 26, 27, 28, 29, 30, 31, 32, 33] rfl ?_
    refine rp rfl rfl (u_ixp rfl rfl Tryd.underlying112 in_111 rfl rfl (ne_of_lt (n := 0) (Nat.lt_of_lt_of_eq (by decide) (Eq.symm (vmap_len (f := AV.u32) h0)))) rfl rfl (by decide)) ?_
    refine rp rfl rfl (u_ld rfl rfl Tryd.underlying111 rfl rfl ((Sub.refl _).trans (Sub.vmap (by decide)))) ?_
    refine rp rfl rfl (p_move rfl rfl) ?_
    refine rp rfl rfl (p_u32add (a := (vrd h0 0)) (b := y'14.1) rfl rfl rfl) ?_
    refine rp rfl rfl (u_ixp rfl rfl Tryd.underlying112 in_111 rfl rfl (ne_of_lt (n := 0) (Nat.lt_of_lt_of_eq (by decide) (Eq.symm (vmap_len (f := AV.u32) h0)))) rfl rfl (by decide)) ?_
    refine rp rfl rfl (u_ld rfl rfl Tryd.underlying111 rfl rfl ((Sub.refl _).trans (Sub.vmap (by decide)))) ?_
    refine rp rfl rfl (p_move rfl rfl) ?_
    refine rp rfl rfl (p_u32add (a := (vrd h0 1)) (b := y'14.2.1) rfl rfl rfl) ?_
    refine rp rfl rfl (u_ixp rfl rfl Tryd.underlying112 in_111 rfl rfl (ne_of_lt (n := 0) (Nat.lt_of_lt_of_eq (by decide) (Eq.symm (vmap_len (f := AV.u32) h0)))) rfl rfl (by decide)) ?_
    refine rp rfl rfl (u_ld rfl rfl Tryd.underlying111 rfl rfl ((Sub.refl _).trans (Sub.vmap (by decide)))) ?_
    refine rp rfl rfl (p_move rfl rfl) ?_
    refine rp rfl rfl (p_u32add (a := (vrd h0 2)) (b := y'14.2.2.1) rfl rfl rfl) ?_
    refine rp rfl rfl (u_ixp rfl rfl Tryd.underlying112 in_111 rfl rfl (ne_of_lt (n := 0) (Nat.lt_of_lt_of_eq (by decide) (Eq.symm (vmap_len (f := AV.u32) h0)))) rfl rfl (by decide)) ?_
    refine rp rfl rfl (u_ld rfl rfl Tryd.underlying111 rfl rfl ((Sub.refl _).trans (Sub.vmap (by decide)))) ?_
    refine rp rfl rfl (p_move rfl rfl) ?_
    refine rp rfl rfl (p_u32add (a := (vrd h0 3)) (b := y'14.2.2.2.1) rfl rfl rfl) ?_
    refine rp rfl rfl (u_ixp rfl rfl Tryd.underlying112 in_111 rfl rfl (ne_of_lt (n := 0) (Nat.lt_of_lt_of_eq (by decide) (Eq.symm (vmap_len (f := AV.u32) h0)))) rfl rfl (by decide)) ?_
    refine rp rfl rfl (u_ld rfl rfl Tryd.underlying111 rfl rfl ((Sub.refl _).trans (Sub.vmap (by decide)))) ?_
    refine rp rfl rfl (p_move rfl rfl) ?_
    refine rp rfl rfl (p_u32add (a := (vrd h0 4)) (b := y'14.2.2.2.2.1) rfl rfl rfl) ?_
    refine rp rfl rfl (u_ixp rfl rfl Tryd.underlying112 in_111 rfl rfl (ne_of_lt (n := 0) (Nat.lt_of_lt_of_eq (by decide) (Eq.symm (vmap_len (f := AV.u32) h0)))) rfl rfl (by decide)) ?_
    refine rp rfl rfl (u_ld rfl rfl Tryd.underlying111 rfl rfl ((Sub.refl _).trans (Sub.vmap (by decide)))) ?_
    refine rp rfl rfl (p_move rfl rfl) ?_
    refine rp rfl rfl (p_u32add (a := (vrd h0 5)) (b := y'14.2.2.2.2.2.1) rfl rfl rfl) ?_
    refine rp rfl rfl (u_ixp rfl rfl Tryd.underlying112 in_111 rfl rfl (ne_of_lt (n := 0) (Nat.lt_of_lt_of_eq (by decide) (Eq.symm (vmap_len (f := AV.u32) h0)))) rfl rfl (by decide)) ?_
    refine rp rfl rfl (u_ld rfl rfl Tryd.underlying111 rfl rfl ((Sub.refl _).trans (Sub.vmap (by decide)))) ?_
    refine rp rfl rfl (p_move rfl rfl) ?_
    refine rp rfl rfl (p_u32add (a := (vrd h0 6)) (b := y'14.2.2.2.2.2.2.1) rfl rfl rfl) ?_
    refine rp rfl rfl (u_ixp rfl rfl Tryd.underlying112 in_111 rfl rfl (ne_of_lt (n := 0) (Nat.lt_of_lt_of_eq (by decide) (Eq.symm (vmap_len (f := AV.u32) h0)))) rfl rfl (by decide)) ?_
    refine rp rfl rfl (u_ld rfl rfl Tryd.underlying111 rfl rfl ((Sub.refl _).trans (Sub.vmap (by decide)))) ?_
    refine rp rfl rfl (p_move rfl rfl) ?_
    refine rp rfl rfl (p_u32add (a := (vrd h0 7)) (b := y'14.2.2.2.2.2.2.2) rfl rfl rfl) ?_
    refine rp rfl rfl (u_blda rfl in_112 one_112 rfl Tryd.underlying112 in_111 rfl rfl) ?_
    refine r_op rfl rfl (u_st rfl rfl rfl rfl rfl in_112 (vmap_len (f := AV.u32) (#v[(vrd h0 0) + y'14.1, (vrd h0 1) + y'14.2.1, (vrd h0 2) + y'14.2.2.1, (vrd h0 3) + y'14.2.2.2.1, (vrd h0 4) + y'14.2.2.2.2.1, (vrd h0 5) + y'14.2.2.2.2.2.1, (vrd h0 6) + y'14.2.2.2.2.2.2.1, (vrd h0 7) + y'14.2.2.2.2.2.2.2])) (ne_of_lt (n := 0) (Nat.lt_of_lt_of_eq (by decide) (Eq.symm (vmap_len (f := AV.u32) (Vector.replicate 8 (0 : UInt32)))))) (Upd.refl ((vmap_len (f := AV.u32) (#v[(vrd h0 0) + y'14.1, (vrd h0 1) + y'14.2.1, (vrd h0 2) + y'14.2.2.1, (vrd h0 3) + y'14.2.2.2.1, (vrd h0 4) + y'14.2.2.2.2.1, (vrd h0 5) + y'14.2.2.2.2.2.1, (vrd h0 6) + y'14.2.2.2.2.2.2.1, (vrd h0 7) + y'14.2.2.2.2.2.2.2])).trans (vmap_len (f := AV.u32) (Vector.replicate 8 (0 : UInt32))).symm))) ?_
    refine rz [(4, .q 4 (0))] [(4, .pure (((#v[(vrd h0 0) + y'14.1, (vrd h0 1) + y'14.2.1, (vrd h0 2) + y'14.2.2.1, (vrd h0 3) + y'14.2.2.2.1, (vrd h0 4) + y'14.2.2.2.2.1, (vrd h0 5) + y'14.2.2.2.2.2.1, (vrd h0 6) + y'14.2.2.2.2.2.2.1, (vrd h0 7) + y'14.2.2.2.2.2.2.2]).toList).map AV.u32))] rfl rfl rfl ?_
    refine gen1 (fun t4'15 => (⟨[(4, .q 4 (0))], [(4, .pure (t4'15.toList.map AV.u32))], 135⟩ : TS)) H ?_
    intro t4'15 H
    refine AW2_ret ?_
    have hz := some_elim H
    subst hz
    exact ⟨⟨res_cella Tryd.underlying112 rfl in_112.sz rfl (Sub.le (Sub.refl _) (vmap_len (f := AV.u32) t4'15)) (by decide) (Sub.take (Sub.refl _) (vmap_len (f := AV.u32) t4'15)), trivial⟩, trivial⟩
end Go.Proofs.YtfekkhinjdmcbaaDoor.VM
