/- Functions of the program, as they answer, and that their code comes to these answers. -/
import Derived.Test.YtkaeboabpahemaaDoorGr2
namespace Go.Proofs.YtkaeboabpahemaaDoor.VM
open Go Go.RowKit



/-! roll.Extend -/
noncomputable def g_roll_Extend (mode0 : Int) (l1 : List (List UInt8)) (m2 : Int) : Option ((List (List UInt8)) × Int) :=
  (g_roll_fault mode0 l1).bind fun r'1 => (if r'1 ≠ (0 : Int) then some ([], r'1) else (if (m2 < (0 : Int)) ∨ (m2 > (l1.length : Int)) then some ([], (6 : Int)) else (g_roll_root 100000 mode0 l1).bind fun r'2 => (if r'2.2 ≠ (0 : Int) then some ([], r'2.2) else (if m2 = (0 : Int) then some ([], (0 : Int)) else (g_roll_extend 100000 mode0 l1 m2 true).bind fun r'3 => some (r'3.1, r'3.2)))))
set_option maxHeartbeats 4000000 in
set_option maxRecDepth 100000 in
theorem g_roll_Extend_ac {mode0 : Int} {l1 : List (List UInt8)} {m2 : Int} {r : (List (List UInt8)) × Int} (H : g_roll_Extend mode0 l1 m2 = some r) : ACp Tryd.prog 35 [(AV.int mode0), (AV.lists l1), (AV.int m2)] (.tup [(AV.lists r.1), (AV.int r.2)]) := by
  refine ACp_of (AC2_of_body (vs := [.p (AV.lists r.1), .i r.2]) Tryd.func35 rfl rfl (Nat.le_of_ble_eq_true rfl) rfl ?_) (fun _ => .same _)
  unfold g_roll_Extend at H
  refine as2 [(0, .i mode0), (1, .p (AV.lists l1)), (2, .i m2)] [] rfl rfl rfl ?_
  refine sg [0, 1] rfl ?_
  refine rp rfl rfl (p_asgn rfl) ?_
  refine rp rfl rfl (p_asg rfl rfl) ?_
  refine rz [(0, .i mode0), (1, .p (AV.lists l1)), (2, .i m2)] [] rfl rfl rfl ?_
  refine AW2_seq ?_
  refine sg [0, 1, 2, 3] rfl ?_
  refine rp rfl rfl (p_move rfl rfl) ?_
  refine rp rfl rfl (p_move rfl rfl) ?_
  refine bindK H fun r'1 h1 H => ?_
  refine rp rfl rfl (p_callp rfl rfl rfl Tryd.func60 rfl rfl (g_roll_fault_ac h1) ⟨rfl, rfl, trivial⟩) ?_
  refine rp rfl rfl (p_asg rfl rfl) ?_
  refine rz [(0, .i mode0), (1, .p (AV.lists l1)), (2, .i m2), (8, .i r'1)] [] rfl rfl rfl ?_
  refine sg [0, 1] rfl ?_
  refine rp rfl rfl (p_move rfl rfl) ?_
  refine rp rfl rfl (p_ine rfl rfl rfl) ?_
  refine rz [(0, .i mode0), (1, .p (AV.lists l1)), (2, .i m2), (8, .i r'1), (15, .b (decide (r'1 ≠ (0 : Int))))] [] rfl rfl rfl ?_
  refine AW2_if (p := r'1 ≠ (0 : Int)) rfl (fun h2 => ?_) (fun h2 => ?_)
  · replace H := ite_then h2 H
    refine sg [0, 1, 2] rfl ?_
    refine rp rfl rfl (p_move rfl rfl) ?_
    refine rp rfl rfl (p_asgn rfl) ?_
    refine rp rfl rfl (p_asg rfl rfl) ?_
    refine rz [(6, .p .nil), (7, .i r'1)] [] rfl rfl rfl ?_
    refine AW2_ret ?_
    have hz := some_elim H
    subst hz
    exact ⟨⟨res_tmp TLes.nil0, res_tmp (.same _), trivial⟩, trivial⟩
  · replace H := ite_else h2 H
    refine as2 [(0, .i mode0), (1, .p (AV.lists l1)), (2, .i m2)] [] rfl rfl rfl ?_
    refine AW2_skip ?_
    refine AW2_seq ?_
    refine AW2_seq ?_
    refine AW2_mid (⟨[(0, .i mode0), (1, .p (AV.lists l1)), (2, .i m2), (24, .b (decide ((m2 < (0 : Int)) ∨ (m2 > (l1.length : Int)))))], [], 42⟩ : TS) ?_ ?_
    · refine AW2_reg [0, 1, 2, 3, 4, 5, 6, 7] rfl ?_
      refine rp rfl rfl (p_move rfl rfl) ?_
      refine rp rfl rfl (p_bin rfl rfl rfl rfl) ?_
      refine rp rfl rfl (p_move rfl rfl) ?_
      refine (Classical.em (m2 < (0 : Int))).elim (fun h3 => ?_) (fun h3 => ?_)
      · refine r_off rfl rfl rfl rfl (decide_eq_true (p := m2 < (0 : Int)) h3) rfl rfl ?_
        refine r_off rfl rfl rfl rfl (decide_eq_true (p := m2 < (0 : Int)) h3) rfl rfl ?_
        refine r_off rfl rfl rfl rfl (decide_eq_true (p := m2 < (0 : Int)) h3) rfl rfl ?_
        refine r_off rfl rfl rfl rfl (decide_eq_true (p := m2 < (0 : Int)) h3) rfl rfl ?_
        refine rp rfl rfl (p_pkt rfl rfl (decide_eq_true (p := m2 < (0 : Int)) h3) (tb (decide_eq_true (p := (m2 < (0 : Int)) ∨ (m2 > (l1.length : Int))) (Or.inl h3)).symm)) ?_
        refine rs [(0, .i mode0), (1, .p (AV.lists l1)), (2, .i m2), (24, .b (decide ((m2 < (0 : Int)) ∨ (m2 > (l1.length : Int)))))] [] rfl rfl rfl ?_
        exact RunW_nil rfl
      · refine r_on rfl rfl rfl rfl (decide_eq_false (p := m2 < (0 : Int)) h3) rfl (PureD.opD (p_move rfl rfl)) ?_
        refine r_on rfl rfl rfl rfl (decide_eq_false (p := m2 < (0 : Int)) h3) rfl (PureD.opD (p_move rfl rfl)) ?_
        refine r_on rfl rfl rfl rfl (decide_eq_false (p := m2 < (0 : Int)) h3) rfl (PureD.opD (p_lenl rfl Tryd.underlying33 rfl rfl)) ?_
        refine r_on rfl rfl rfl rfl (decide_eq_false (p := m2 < (0 : Int)) h3) rfl (PureD.opD (p_bin rfl rfl rfl rfl)) ?_
        refine rp rfl rfl (p_pkf rfl rfl (decide_eq_false (p := m2 < (0 : Int)) h3) (tb ((or_l (p := m2 < (0 : Int)) (q := m2 > (l1.length : Int)) h3)))) ?_
        refine rs [(0, .i mode0), (1, .p (AV.lists l1)), (2, .i m2), (24, .b (decide ((m2 < (0 : Int)) ∨ (m2 > (l1.length : Int)))))] [] rfl rfl rfl ?_
        exact RunW_nil rfl
    · refine AW2_if (p := (m2 < (0 : Int)) ∨ (m2 > (l1.length : Int))) rfl (fun h4 => ?_) (fun h4 => ?_)
      · replace H := ite_then h4 H
        refine sg [0, 1] rfl ?_
        refine rp rfl rfl (p_asgn rfl) ?_
        refine rp rfl rfl (p_asg rfl rfl) ?_
        refine rz [(6, .p .nil), (7, .i (6 : Int))] [] rfl rfl rfl ?_
        refine AW2_ret ?_
        have hz := some_elim H
        subst hz
        exact ⟨⟨res_tmp TLes.nil0, res_tmp (.same _), trivial⟩, trivial⟩
      · replace H := ite_else h4 H
        refine as2 [(0, .i mode0), (1, .p (AV.lists l1)), (2, .i m2)] [] rfl rfl rfl ?_
        refine AW2_skip ?_
        refine AW2_seq ?_
        refine sg [0, 1, 2, 3, 4, 5, 6, 7] rfl ?_
        refine rp rfl rfl (p_move rfl rfl) ?_
        refine rp rfl rfl (p_move rfl rfl) ?_
        refine bindK H fun r'2 h5 H => ?_
        refine rp rfl rfl (p_callp rfl rfl rfl Tryd.func61 rfl rfl (g_roll_root_ac h5) ⟨rfl, rfl, trivial⟩) ?_
        refine rp rfl rfl (p_move rfl rfl) ?_
        refine rp rfl rfl (p_ext rfl rfl rfl rfl) ?_
        refine rp rfl rfl (p_ext rfl rfl rfl rfl) ?_
        refine rp rfl rfl (p_asg rfl rfl) ?_
        refine rp rfl rfl (p_asg rfl rfl) ?_
        refine rz [(0, .i mode0), (1, .p (AV.lists l1)), (2, .i m2), (10, .i r'2.2)] [] rfl rfl rfl ?_
        refine sg [0, 1] rfl ?_
        refine rp rfl rfl (p_move rfl rfl) ?_
        refine rp rfl rfl (p_ine rfl rfl rfl) ?_
        refine rz [(0, .i mode0), (1, .p (AV.lists l1)), (2, .i m2), (10, .i r'2.2), (32, .b (decide (r'2.2 ≠ (0 : Int))))] [] rfl rfl rfl ?_
        refine AW2_if (p := r'2.2 ≠ (0 : Int)) rfl (fun h6 => ?_) (fun h6 => ?_)
        · replace H := ite_then h6 H
          refine sg [0, 1, 2] rfl ?_
          refine rp rfl rfl (p_move rfl rfl) ?_
          refine rp rfl rfl (p_asgn rfl) ?_
          refine rp rfl rfl (p_asg rfl rfl) ?_
          refine rz [(6, .p .nil), (7, .i r'2.2)] [] rfl rfl rfl ?_
          refine AW2_ret ?_
          have hz := some_elim H
          subst hz
          exact ⟨⟨res_tmp TLes.nil0, res_tmp (.same _), trivial⟩, trivial⟩
        · replace H := ite_else h6 H
          refine as2 [(0, .i mode0), (1, .p (AV.lists l1)), (2, .i m2)] [] rfl rfl rfl ?_
          refine AW2_skip ?_
          refine AW2_seq ?_
          refine sg [0, 1] rfl ?_
          refine rp rfl rfl (p_move rfl rfl) ?_
          refine rp rfl rfl (p_ieq rfl rfl rfl) ?_
          refine rz [(0, .i mode0), (1, .p (AV.lists l1)), (2, .i m2), (35, .b (decide (m2 = (0 : Int))))] [] rfl rfl rfl ?_
          refine AW2_if (p := m2 = (0 : Int)) rfl (fun h7 => ?_) (fun h7 => ?_)
          · replace H := ite_then h7 H
            refine sg [0, 1] rfl ?_
            refine rp rfl rfl (p_asgn rfl) ?_
            refine rp rfl rfl (p_asg rfl rfl) ?_
            refine rz [(6, .p .nil), (7, .i (0 : Int))] [] rfl rfl rfl ?_
            refine AW2_ret ?_
            have hz := some_elim H
            subst hz
            exact ⟨⟨res_tmp TLes.nil0, res_tmp (.same _), trivial⟩, trivial⟩
          · replace H := ite_else h7 H
            refine as2 [(0, .i mode0), (1, .p (AV.lists l1)), (2, .i m2)] [] rfl rfl rfl ?_
            refine AW2_skip ?_
            refine sg [0, 1, 2, 3, 4, 5, 6, 7] rfl ?_
            refine rp rfl rfl (p_move rfl rfl) ?_
            refine rp rfl rfl (p_move rfl rfl) ?_
            refine rp rfl rfl (p_move rfl rfl) ?_
            refine bindK H fun r'3 h8 H => ?_
            refine rp rfl rfl (p_callp rfl rfl rfl Tryd.func69 rfl rfl (g_roll_extend_ac h8) ⟨rfl, rfl, rfl, rfl, trivial⟩) ?_
            refine rp rfl rfl (p_ext rfl rfl rfl rfl) ?_
            refine rp rfl rfl (p_ext rfl rfl rfl rfl) ?_
            refine rp rfl rfl (p_asg rfl rfl) ?_
            refine rp rfl rfl (p_asg rfl rfl) ?_
            refine rz [(6, .p (AV.lists r'3.1)), (7, .i r'3.2)] [] rfl rfl rfl ?_
            refine AW2_ret ?_
            have hz := some_elim H
            subst hz
            exact ⟨⟨res_tmp (.same _), res_tmp (.same _), trivial⟩, trivial⟩

/-! chirographref.ExtendOf -/
noncomputable def g_ref_ExtendOf_l0 (mode0 : Int) : (List (List UInt8)) × Int × Bool × (List (List UInt8)) → Option (((List (List UInt8)) × Int × Bool × (List (List UInt8))) ⊕ (((List (List UInt8)) × Bool × (List (List UInt8)))))
  | (l1_0, m2_0, known12_0, down11_0) => (if m2_0 ≠ (l1_0.length : Int) then (g_ref_below (l1_0.length : Int)).bind fun r'3 => if 0 ≤ r'3 ∧ r'3 ≤ (l1_0.length : Int) then ((if m2_0 ≤ r'3 then if 0 ≤ r'3 ∧ r'3 ≤ (l1_0.length : Int) then some ((cut l1_0 (0 : Int) r'3), m2_0, known12_0, (cut l1_0 r'3 (l1_0.length : Int))) else none else if 0 ≤ r'3 ∧ r'3 ≤ (l1_0.length : Int) then if 0 ≤ r'3 ∧ r'3 ≤ (l1_0.length : Int) then some ((cut l1_0 r'3 (l1_0.length : Int)), w64 (m2_0 - r'3), false, (cut l1_0 (0 : Int) r'3)) else none else none)).bind fun j'4 => (g_ref_rollOf mode0 j'4.2.2.2).bind fun r'5 => if room (down11_0.length + ([r'5.1] : List (List UInt8)).length) 24 then some (.inl (j'4.1, j'4.2.1, j'4.2.2.1, down11_0 ++ ([r'5.1] : List (List UInt8)))) else none else none else some (.inr (l1_0, known12_0, down11_0)))
noncomputable def g_ref_ExtendOf (mode0 : Int) (l1 : List (List UInt8)) (m2 : Int) : Option ((List (List UInt8)) × Int) :=
  (g_ref_rollFault mode0 l1).bind fun r'1 => (if r'1 ≠ (0 : Int) then some ([], r'1) else (if (m2 < (0 : Int)) ∨ (m2 > (l1.length : Int)) then some ([], (6 : Int)) else (g_ref_rollOf mode0 l1).bind fun r'2 => (if r'2.2 ≠ (0 : Int) then some ([], r'2.2) else (if (m2 = (0 : Int)) ∨ (m2 = (l1.length : Int)) then some ([], (0 : Int)) else (loopO (g_ref_ExtendOf_l0 mode0) (l1, m2, true, ([] : List (List UInt8)))).bind fun y'9 => ((if (!y'9.2.1) = true then (g_ref_rollOf mode0 y'9.1).bind fun r'11 => if room (y'9.2.2.length + ([r'11.1] : List (List UInt8)).length) 24 then some (y'9.2.2 ++ ([r'11.1] : List (List UInt8))) else none else some y'9.2.2)).bind fun j'10 => (g_ref_turnedRound j'10).bind fun r'12 => some (r'12, (0 : Int))))))
set_option maxHeartbeats 4000000 in
set_option maxRecDepth 100000 in
theorem g_ref_ExtendOf_ac {mode0 : Int} {l1 : List (List UInt8)} {m2 : Int} {r : (List (List UInt8)) × Int} (H : g_ref_ExtendOf mode0 l1 m2 = some r) : ACp Tryd.prog 36 [(AV.int mode0), (AV.lists l1), (AV.int m2)] (.tup [(AV.lists r.1), (AV.int r.2)]) := by
  refine ACp_of (AC2_of_body (vs := [.p (AV.lists r.1), .i r.2]) Tryd.func36 rfl rfl (Nat.le_of_ble_eq_true rfl) rfl ?_) (fun _ => .same _)
  unfold g_ref_ExtendOf at H
  refine as2 [(0, .i mode0), (1, .p (AV.lists l1)), (2, .i m2)] [] rfl rfl rfl ?_
  refine sg [0, 1] rfl ?_
  refine rp rfl rfl (p_asgn rfl) ?_
  refine rp rfl rfl (p_asg rfl rfl) ?_
  refine rz [(0, .i mode0), (1, .p (AV.lists l1)), (2, .i m2)] [] rfl rfl rfl ?_
  refine AW2_seq ?_
  refine sg [0, 1, 2, 3] rfl ?_
  refine rp rfl rfl (p_move rfl rfl) ?_
  refine rp rfl rfl (p_move rfl rfl) ?_
  refine bindK H fun r'1 h1 H => ?_
  refine rp rfl rfl (p_callp rfl rfl rfl Tryd.func62 rfl rfl (g_ref_rollFault_ac h1) ⟨rfl, rfl, trivial⟩) ?_
  refine rp rfl rfl (p_asg rfl rfl) ?_
  refine rz [(0, .i mode0), (1, .p (AV.lists l1)), (2, .i m2), (8, .i r'1)] [] rfl rfl rfl ?_
  refine sg [0, 1] rfl ?_
  refine rp rfl rfl (p_move rfl rfl) ?_
  refine rp rfl rfl (p_ine rfl rfl rfl) ?_
  refine rz [(0, .i mode0), (1, .p (AV.lists l1)), (2, .i m2), (8, .i r'1), (23, .b (decide (r'1 ≠ (0 : Int))))] [] rfl rfl rfl ?_
  refine AW2_if (p := r'1 ≠ (0 : Int)) rfl (fun h2 => ?_) (fun h2 => ?_)
  · replace H := ite_then h2 H
    refine sg [0, 1, 2] rfl ?_
    refine rp rfl rfl (p_move rfl rfl) ?_
    refine rp rfl rfl (p_asgn rfl) ?_
    refine rp rfl rfl (p_asg rfl rfl) ?_
    refine rz [(6, .p .nil), (7, .i r'1)] [] rfl rfl rfl ?_
    refine AW2_ret ?_
    have hz := some_elim H
    subst hz
    exact ⟨⟨res_tmp TLes.nil0, res_tmp (.same _), trivial⟩, trivial⟩
  · replace H := ite_else h2 H
    refine as2 [(0, .i mode0), (1, .p (AV.lists l1)), (2, .i m2)] [] rfl rfl rfl ?_
    refine AW2_skip ?_
    refine AW2_seq ?_
    refine AW2_seq ?_
    refine AW2_mid (⟨[(0, .i mode0), (1, .p (AV.lists l1)), (2, .i m2), (32, .b (decide ((m2 < (0 : Int)) ∨ (m2 > (l1.length : Int)))))], [], 99⟩ : TS) ?_ ?_
    · refine AW2_reg [0, 1, 2, 3, 4, 5, 6, 7] rfl ?_
      refine rp rfl rfl (p_move rfl rfl) ?_
      refine rp rfl rfl (p_bin rfl rfl rfl rfl) ?_
      refine rp rfl rfl (p_move rfl rfl) ?_
      refine (Classical.em (m2 < (0 : Int))).elim (fun h3 => ?_) (fun h3 => ?_)
      · refine r_off rfl rfl rfl rfl (decide_eq_true (p := m2 < (0 : Int)) h3) rfl rfl ?_
        refine r_off rfl rfl rfl rfl (decide_eq_true (p := m2 < (0 : Int)) h3) rfl rfl ?_
        refine r_off rfl rfl rfl rfl (decide_eq_true (p := m2 < (0 : Int)) h3) rfl rfl ?_
        refine r_off rfl rfl rfl rfl (decide_eq_true (p := m2 < (0 : Int)) h3) rfl rfl ?_
        refine rp rfl rfl (p_pkt rfl rfl (decide_eq_true (p := m2 < (0 : Int)) h3) (tb (decide_eq_true (p := (m2 < (0 : Int)) ∨ (m2 > (l1.length : Int))) (Or.inl h3)).symm)) ?_
        refine rs [(0, .i mode0), (1, .p (AV.lists l1)), (2, .i m2), (32, .b (decide ((m2 < (0 : Int)) ∨ (m2 > (l1.length : Int)))))] [] rfl rfl rfl ?_
        exact RunW_nil rfl
      · refine r_on rfl rfl rfl rfl (decide_eq_false (p := m2 < (0 : Int)) h3) rfl (PureD.opD (p_move rfl rfl)) ?_
        refine r_on rfl rfl rfl rfl (decide_eq_false (p := m2 < (0 : Int)) h3) rfl (PureD.opD (p_move rfl rfl)) ?_
        refine r_on rfl rfl rfl rfl (decide_eq_false (p := m2 < (0 : Int)) h3) rfl (PureD.opD (p_lenl rfl Tryd.underlying33 rfl rfl)) ?_
        refine r_on rfl rfl rfl rfl (decide_eq_false (p := m2 < (0 : Int)) h3) rfl (PureD.opD (p_bin rfl rfl rfl rfl)) ?_
        refine rp rfl rfl (p_pkf rfl rfl (decide_eq_false (p := m2 < (0 : Int)) h3) (tb ((or_l (p := m2 < (0 : Int)) (q := m2 > (l1.length : Int)) h3)))) ?_
        refine rs [(0, .i mode0), (1, .p (AV.lists l1)), (2, .i m2), (32, .b (decide ((m2 < (0 : Int)) ∨ (m2 > (l1.length : Int)))))] [] rfl rfl rfl ?_
        exact RunW_nil rfl
    · refine AW2_if (p := (m2 < (0 : Int)) ∨ (m2 > (l1.length : Int))) rfl (fun h4 => ?_) (fun h4 => ?_)
      · replace H := ite_then h4 H
        refine sg [0, 1] rfl ?_
        refine rp rfl rfl (p_asgn rfl) ?_
        refine rp rfl rfl (p_asg rfl rfl) ?_
        refine rz [(6, .p .nil), (7, .i (6 : Int))] [] rfl rfl rfl ?_
        refine AW2_ret ?_
        have hz := some_elim H
        subst hz
        exact ⟨⟨res_tmp TLes.nil0, res_tmp (.same _), trivial⟩, trivial⟩
      · replace H := ite_else h4 H
        refine as2 [(0, .i mode0), (1, .p (AV.lists l1)), (2, .i m2)] [] rfl rfl rfl ?_
        refine AW2_skip ?_
        refine AW2_seq ?_
        refine sg [0, 1, 2, 3, 4, 5, 6, 7] rfl ?_
        refine rp rfl rfl (p_move rfl rfl) ?_
        refine rp rfl rfl (p_move rfl rfl) ?_
        refine bindK H fun r'2 h5 H => ?_
        refine rp rfl rfl (p_callp rfl rfl rfl Tryd.func63 rfl rfl (g_ref_rollOf_ac h5) ⟨rfl, rfl, trivial⟩) ?_
        refine rp rfl rfl (p_move rfl rfl) ?_
        refine rp rfl rfl (p_ext rfl rfl rfl rfl) ?_
        refine rp rfl rfl (p_ext rfl rfl rfl rfl) ?_
        refine rp rfl rfl (p_asg rfl rfl) ?_
        refine rp rfl rfl (p_asg rfl rfl) ?_
        refine rz [(0, .i mode0), (1, .p (AV.lists l1)), (2, .i m2), (10, .i r'2.2)] [] rfl rfl rfl ?_
        refine sg [0, 1] rfl ?_
        refine rp rfl rfl (p_move rfl rfl) ?_
        refine rp rfl rfl (p_ine rfl rfl rfl) ?_
        refine rz [(0, .i mode0), (1, .p (AV.lists l1)), (2, .i m2), (10, .i r'2.2), (40, .b (decide (r'2.2 ≠ (0 : Int))))] [] rfl rfl rfl ?_
        refine AW2_if (p := r'2.2 ≠ (0 : Int)) rfl (fun h6 => ?_) (fun h6 => ?_)
        · replace H := ite_then h6 H
          refine sg [0, 1, 2] rfl ?_
          refine rp rfl rfl (p_move rfl rfl) ?_
          refine rp rfl rfl (p_asgn rfl) ?_
          refine rp rfl rfl (p_asg rfl rfl) ?_
          refine rz [(6, .p .nil), (7, .i r'2.2)] [] rfl rfl rfl ?_
          refine AW2_ret ?_
          have hz := some_elim H
          subst hz
          exact ⟨⟨res_tmp TLes.nil0, res_tmp (.same _), trivial⟩, trivial⟩
        · replace H := ite_else h6 H
          refine as2 [(0, .i mode0), (1, .p (AV.lists l1)), (2, .i m2)] [] rfl rfl rfl ?_
          refine AW2_skip ?_
          refine AW2_seq ?_
          refine AW2_seq ?_
          refine AW2_mid (⟨[(0, .i mode0), (1, .p (AV.lists l1)), (2, .i m2), (49, .b (decide ((m2 = (0 : Int)) ∨ (m2 = (l1.length : Int)))))], [], 99⟩ : TS) ?_ ?_
          · refine AW2_reg [0, 1, 2, 3, 4, 5, 6, 7] rfl ?_
            refine rp rfl rfl (p_move rfl rfl) ?_
            refine rp rfl rfl (p_ieq rfl rfl rfl) ?_
            refine rp rfl rfl (p_move rfl rfl) ?_
            refine (Classical.em (m2 = (0 : Int))).elim (fun h7 => ?_) (fun h7 => ?_)
            · refine r_off rfl rfl rfl rfl (decide_eq_true (p := m2 = (0 : Int)) h7) rfl rfl ?_
              refine r_off rfl rfl rfl rfl (decide_eq_true (p := m2 = (0 : Int)) h7) rfl rfl ?_
              refine r_off rfl rfl rfl rfl (decide_eq_true (p := m2 = (0 : Int)) h7) rfl rfl ?_
              refine r_off rfl rfl rfl rfl (decide_eq_true (p := m2 = (0 : Int)) h7) rfl rfl ?_
              refine rp rfl rfl (p_pkt rfl rfl (decide_eq_true (p := m2 = (0 : Int)) h7) (tb (decide_eq_true (p := (m2 = (0 : Int)) ∨ (m2 = (l1.length : Int))) (Or.inl h7)).symm)) ?_
              refine rs [(0, .i mode0), (1, .p (AV.lists l1)), (2, .i m2), (49, .b (decide ((m2 = (0 : Int)) ∨ (m2 = (l1.length : Int)))))] [] rfl rfl rfl ?_
              exact RunW_nil rfl
            · refine r_on rfl rfl rfl rfl (decide_eq_false (p := m2 = (0 : Int)) h7) rfl (PureD.opD (p_move rfl rfl)) ?_
              refine r_on rfl rfl rfl rfl (decide_eq_false (p := m2 = (0 : Int)) h7) rfl (PureD.opD (p_move rfl rfl)) ?_
              refine r_on rfl rfl rfl rfl (decide_eq_false (p := m2 = (0 : Int)) h7) rfl (PureD.opD (p_lenl rfl Tryd.underlying33 rfl rfl)) ?_
              refine r_on rfl rfl rfl rfl (decide_eq_false (p := m2 = (0 : Int)) h7) rfl (PureD.opD (p_ieq rfl rfl rfl)) ?_
              refine rp rfl rfl (p_pkf rfl rfl (decide_eq_false (p := m2 = (0 : Int)) h7) (tb ((or_l (p := m2 = (0 : Int)) (q := m2 = (l1.length : Int)) h7)))) ?_
              refine rs [(0, .i mode0), (1, .p (AV.lists l1)), (2, .i m2), (49, .b (decide ((m2 = (0 : Int)) ∨ (m2 = (l1.length : Int)))))] [] rfl rfl rfl ?_
              exact RunW_nil rfl
          · refine AW2_if (p := (m2 = (0 : Int)) ∨ (m2 = (l1.length : Int))) rfl (fun h8 => ?_) (fun h8 => ?_)
            · replace H := ite_then h8 H
              refine sg [0, 1] rfl ?_
              refine rp rfl rfl (p_asgn rfl) ?_
              refine rp rfl rfl (p_asg rfl rfl) ?_
              refine rz [(6, .p .nil), (7, .i (0 : Int))] [] rfl rfl rfl ?_
              refine AW2_ret ?_
              have hz := some_elim H
              subst hz
              exact ⟨⟨res_tmp TLes.nil0, res_tmp (.same _), trivial⟩, trivial⟩
            · replace H := ite_else h8 H
              refine as2 [(0, .i mode0), (1, .p (AV.lists l1)), (2, .i m2)] [] rfl rfl rfl ?_
              refine AW2_skip ?_
              refine sg [0] rfl ?_
              refine rp rfl rfl (p_asgn rfl) ?_
              refine rz [(0, .i mode0), (1, .p (AV.lists l1)), (2, .i m2), (11, .p .nil)] [] rfl rfl rfl ?_
              refine sg [0] rfl ?_
              refine rp rfl rfl (p_asg rfl rfl) ?_
              refine rz [(0, .i mode0), (1, .p (AV.lists l1)), (2, .i m2), (11, .p .nil), (12, .b true)] [] rfl rfl rfl ?_
              refine AW2_seq ?_
              refine AW2_block ?_
              refine as2 [(0, .i mode0), (1, .p (AV.lists l1)), (2, .i m2), (11, .p .nil), (12, .b true)] [] rfl rfl rfl ?_
              refine AW2_gho (Gho_own (d := 11) (b := 11) (z := 1) rfl rfl rfl rfl) ?_
              refine AW2_st [(0, .i mode0), (1, .p (AV.lists l1)), (2, .i m2), (11, .c (.own 11 ([] : List (List UInt8)).length 1)), (12, .b true)] [(11, .pure (([] : List (List UInt8)).map AV.bytes))] rfl ⟨TLes.same _, TLes.same _, TLes.same _, TLes.own rfl, TLes.same _, trivial⟩ ⟨rfl, trivial⟩ ?_
              refine bindK H fun y'9 h19 H => ?_
              refine AW2_loopO (fun a'6 : (List (List UInt8)) × Int × Bool × (List (List UInt8)) => (⟨[(0, .i mode0), (1, .p (AV.lists a'6.1)), (2, .i a'6.2.1), (11, .c (.own 11 a'6.2.2.2.length 1)), (12, .b a'6.2.2.1)], [(11, .pure (a'6.2.2.2.map AV.bytes))], 99⟩ : TS)) (fun (y'7 : ((List (List UInt8)) × Bool × (List (List UInt8)))) e s' => e = Go.Exit.exit 0 ∧ s' = (⟨[(0, .i mode0), (1, .p (AV.lists y'7.1)), (11, .c (.own 11 y'7.2.2.length 1)), (12, .b y'7.2.1)], [(11, .pure (y'7.2.2.map AV.bytes))], 99⟩ : TS)) h19 rfl (fun a x hx => ?_) (fun e s' hs => ?_)
              · clear H
                obtain ⟨l1_0, m2_0, known12_0, down11_0⟩ := a
                have H := hx
                clear hx
                unfold g_ref_ExtendOf_l0 at H
                refine AW2_seq ?_
                refine sg [0, 1, 2, 3] rfl ?_
                refine rp rfl rfl (p_move rfl rfl) ?_
                refine rp rfl rfl (p_move rfl rfl) ?_
                refine rp rfl rfl (p_lenl rfl Tryd.underlying33 rfl rfl) ?_
                refine rp rfl rfl (p_ine rfl rfl rfl) ?_
                refine rz [(0, .i mode0), (1, .p (AV.lists l1_0)), (2, .i m2_0), (11, .c (.own 11 down11_0.length 1)), (12, .b known12_0), (53, .b (decide (m2_0 ≠ (l1_0.length : Int))))] [(11, .pure (down11_0.map AV.bytes))] rfl rfl rfl ?_
                refine AW2_if (p := m2_0 ≠ (l1_0.length : Int)) rfl (fun h9 => ?_) (fun h9 => ?_)
                · replace H := ite_then h9 H
                  refine as2 [(0, .i mode0), (1, .p (AV.lists l1_0)), (2, .i m2_0), (11, .c (.own 11 down11_0.length 1)), (12, .b known12_0)] [(11, .pure (down11_0.map AV.bytes))] rfl rfl rfl ?_
                  refine AW2_skip ?_
                  refine AW2_block ?_
                  refine sg [0, 1, 2, 3] rfl ?_
                  refine rp rfl rfl (p_move rfl rfl) ?_
                  refine rp rfl rfl (p_lenl rfl Tryd.underlying33 rfl rfl) ?_
                  refine bindK H fun r'3 h10 H => ?_
                  refine rp rfl rfl (p_callp rfl rfl rfl Tryd.func65 rfl rfl (g_ref_below_ac h10) ⟨rfl, trivial⟩) ?_
                  refine rp rfl rfl (p_asg rfl rfl) ?_
                  refine rz [(0, .i mode0), (1, .p (AV.lists l1_0)), (2, .i m2_0), (11, .c (.own 11 down11_0.length 1)), (12, .b known12_0), (13, .i r'3)] [(11, .pure (down11_0.map AV.bytes))] rfl rfl rfl ?_
                  refine sg [0, 1, 2, 3] rfl ?_
                  refine rp rfl rfl (p_move rfl rfl) ?_
                  refine rp rfl rfl (p_move rfl rfl) ?_
                  refine chkK H fun h11 H => ?_
                  refine rp rfl rfl (u_cutl (g := (fun l => l.map AV.bytes)) (a := r'3) (b := (l1_0.length : Int)) rfl rfl Tryd.underlying33 in_22 rfl (bT_i (show 0 ≤ r'3 ∧ r'3 ≤ (l1_0.length : Int) ∧ (l1_0.length : Int) ≤ (l1_0.length : Int) from ⟨h11.1, h11.2, Int.le_refl _⟩).1 rfl) (bT_len _) (.inl rfl) (show 0 ≤ r'3 ∧ r'3 ≤ (l1_0.length : Int) ∧ (l1_0.length : Int) ≤ (l1_0.length : Int) from ⟨h11.1, h11.2, Int.le_refl _⟩) (g_map AV.bytes)) ?_
                  refine rp rfl rfl (p_asg rfl rfl) ?_
                  refine rz [(0, .i mode0), (1, .p (AV.lists l1_0)), (2, .i m2_0), (11, .c (.own 11 down11_0.length 1)), (12, .b known12_0), (13, .i r'3), (14, .p (AV.lists (cut l1_0 r'3 (l1_0.length : Int))))] [(11, .pure (down11_0.map AV.bytes))] rfl rfl rfl ?_
                  refine AW2_seq ?_
                  refine bindK H fun j'4 h12 H => ?_
                  refine AW2_mid (⟨[(0, .i mode0), (1, .p (AV.lists j'4.1)), (2, .i j'4.2.1), (11, .c (.own 11 down11_0.length 1)), (12, .b j'4.2.2.1), (14, .p (AV.lists j'4.2.2.2))], [(11, .pure (down11_0.map AV.bytes))], 99⟩ : TS) ?_ ?_
                  · clear H
                    have H := h12
                    clear h12
                    refine sg [0, 1, 2] rfl ?_
                    refine rp rfl rfl (p_move rfl rfl) ?_
                    refine rp rfl rfl (p_move rfl rfl) ?_
                    refine rp rfl rfl (p_bin rfl rfl rfl rfl) ?_
                    refine rz [(0, .i mode0), (1, .p (AV.lists l1_0)), (2, .i m2_0), (11, .c (.own 11 down11_0.length 1)), (12, .b known12_0), (13, .i r'3), (14, .p (AV.lists (cut l1_0 r'3 (l1_0.length : Int)))), (62, .b (decide (m2_0 ≤ r'3)))] [(11, .pure (down11_0.map AV.bytes))] rfl rfl rfl ?_
                    refine AW2_if (p := m2_0 ≤ r'3) rfl (fun h13 => ?_) (fun h13 => ?_)
                    · replace H := ite_then h13 H
                      refine AW2_reg [0, 1, 2, 3] rfl ?_
                      refine rp rfl rfl (p_move rfl rfl) ?_
                      refine rp rfl rfl (p_move rfl rfl) ?_
                      refine chkK H fun h14 H => ?_
                      refine rp rfl rfl (u_cutl (g := (fun l => l.map AV.bytes)) (a := (0 : Int)) (b := r'3) rfl rfl Tryd.underlying33 in_22 rfl bT_zero (bT_i (Int.le_trans (show 0 ≤ (0 : Int) ∧ (0 : Int) ≤ r'3 ∧ r'3 ≤ (l1_0.length : Int) from ⟨Int.le_refl _, h14.1, h14.2⟩).1 (show 0 ≤ (0 : Int) ∧ (0 : Int) ≤ r'3 ∧ r'3 ≤ (l1_0.length : Int) from ⟨Int.le_refl _, h14.1, h14.2⟩).2.1) rfl) (.inl rfl) (show 0 ≤ (0 : Int) ∧ (0 : Int) ≤ r'3 ∧ r'3 ≤ (l1_0.length : Int) from ⟨Int.le_refl _, h14.1, h14.2⟩) (g_map AV.bytes)) ?_
                      refine rp rfl rfl (p_asg rfl rfl) ?_
                      refine rz [(0, .i mode0), (1, .p (AV.lists (cut l1_0 (0 : Int) r'3))), (2, .i m2_0), (11, .c (.own 11 down11_0.length 1)), (12, .b known12_0), (14, .p (AV.lists (cut l1_0 r'3 (l1_0.length : Int))))] [(11, .pure (down11_0.map AV.bytes))] rfl rfl rfl ?_
                      have hz := some_elim H
                      subst hz
                      exact rfl
                    · replace H := ite_else h13 H
                      refine chkK H fun h15 H => ?_
                      refine chkK H fun h16 H => ?_
                      refine AW2_ghoQ ?_
                      refine AW2_draw 11 [11, 12] (fun k => ([.p (AV.lists l1_0), .i r'3, .p (AV.lists (cut l1_0 (0 : Int) r'3)), .p (AV.lists l1_0), .i r'3, .p (AV.lists (cut l1_0 r'3 (l1_0.length : Int))), .i m2_0, .i r'3, .i (w64 (m2_0 - r'3)), .p (AV.lists (cut l1_0 (0 : Int) r'3)), .p (AV.lists (cut l1_0 r'3 (l1_0.length : Int)))] : List TV).getD k TV.any) (fun k => ([[(1, none)], [(13, none)], [(66, some 0), (67, some 1)], [(1, none)], [(13, none)], [(69, some 3), (70, some 4)], [(2, none)], [(13, none)], [(72, some 6), (73, some 7)], [(68, some 2)], [(71, some 5)]] : List (List (Nat × Option Nat))).getD k []) [(0, none), (1, some 10), (2, none), (11, none), (12, none), (14, some 9), (74, some 8)] [] (fun k => ([[], [], [0, 1], [], [], [3, 4], [], [], [6, 7], [0, 1, 2], [0, 1, 2, 3, 4, 5, 9], [0, 1, 2, 3, 4, 5, 6, 7, 8, 9, 10], [0, 1, 2, 3, 4, 5, 6, 7, 8, 9, 10, 11]] : List (List Nat)).getD k []) mixed (by kernel_rfl) rfl rfl (a_op (g_x rfl (x_p rfl (p_move rfl rfl) rfl)) (a_op (g_x rfl (x_p rfl (p_move rfl rfl) rfl)) (a_op (g_x rfl (x_p rfl (u_cutl (g := (fun l => l.map AV.bytes)) (a := (0 : Int)) (b := r'3) rfl rfl Tryd.underlying33 in_22 rfl bT_zero (bT_i (Int.le_trans (show 0 ≤ (0 : Int) ∧ (0 : Int) ≤ r'3 ∧ r'3 ≤ (l1_0.length : Int) from ⟨Int.le_refl _, h15.1, h15.2⟩).1 (show 0 ≤ (0 : Int) ∧ (0 : Int) ≤ r'3 ∧ r'3 ≤ (l1_0.length : Int) from ⟨Int.le_refl _, h15.1, h15.2⟩).2.1) rfl) (.inl rfl) (show 0 ≤ (0 : Int) ∧ (0 : Int) ≤ r'3 ∧ r'3 ≤ (l1_0.length : Int) from ⟨Int.le_refl _, h15.1, h15.2⟩) (g_map AV.bytes)) rfl)) (a_op (g_x rfl (x_p rfl (p_move rfl rfl) rfl)) (a_op (g_x rfl (x_p rfl (p_move rfl rfl) rfl)) (a_op (g_x rfl (x_p rfl (u_cutl (g := (fun l => l.map AV.bytes)) (a := r'3) (b := (l1_0.length : Int)) rfl rfl Tryd.underlying33 in_22 rfl (bT_i (show 0 ≤ r'3 ∧ r'3 ≤ (l1_0.length : Int) ∧ (l1_0.length : Int) ≤ (l1_0.length : Int) from ⟨h16.1, h16.2, Int.le_refl _⟩).1 rfl) (bT_len _) (.inl rfl) (show 0 ≤ r'3 ∧ r'3 ≤ (l1_0.length : Int) ∧ (l1_0.length : Int) ≤ (l1_0.length : Int) from ⟨h16.1, h16.2, Int.le_refl _⟩) (g_map AV.bytes)) rfl)) (a_op (g_x rfl (x_p rfl (p_move rfl rfl) rfl)) (a_op (g_x rfl (x_p rfl (p_move rfl rfl) rfl)) (a_op (g_x rfl (x_p rfl (p_bin rfl rfl rfl rfl) rfl)) (a_op (g_x rfl (x_p rfl (p_asg rfl rfl) rfl)) (a_op (g_x rfl (x_p rfl (p_asg rfl rfl) rfl)) (a_nil)))))))))))) ?_
                      refine t_op rfl rfl (PureD.opD (p_asg rfl rfl)) ?_
                      refine t_op rfl rfl (PureD.opD (p_asg rfl rfl)) ?_
                      refine t_gho (Gho_st (L := [(0, .i mode0), (1, .p (AV.lists (cut l1_0 r'3 (l1_0.length : Int)))), (2, .i (w64 (m2_0 - r'3))), (11, .c (.own 11 down11_0.length 1)), (12, .b false), (14, .p (AV.lists (cut l1_0 (0 : Int) r'3)))]) (H := [(11, .pure (down11_0.map AV.bytes))]) (N := 99) rfl ⟨TLes.same _, TLes.same _, TLes.same _, TLes.same _, TLes.same _, TLes.same _, trivial⟩ ⟨rfl, trivial⟩) ?_
                      have hz := some_elim H
                      subst hz
                      exact rfl
                  · refine sg [0, 1, 2, 3, 4, 5, 6, 7] rfl ?_
                    refine rp rfl rfl (p_move rfl rfl) ?_
                    refine rp rfl rfl (p_move rfl rfl) ?_
                    refine bindK H fun r'5 h17 H => ?_
                    refine rp rfl rfl (p_callp rfl rfl rfl Tryd.func63 rfl rfl (g_ref_rollOf_ac h17) ⟨rfl, rfl, trivial⟩) ?_
                    refine rp rfl rfl (p_move rfl rfl) ?_
                    refine rp rfl rfl (p_ext rfl rfl rfl rfl) ?_
                    refine rp rfl rfl (p_ext rfl rfl rfl rfl) ?_
                    refine rp rfl rfl (p_asg rfl rfl) ?_
                    refine rp rfl rfl (p_asg rfl rfl) ?_
                    refine rz [(0, .i mode0), (1, .p (AV.lists j'4.1)), (2, .i j'4.2.1), (11, .c (.own 11 down11_0.length 1)), (12, .b j'4.2.2.1), (15, .y r'5.1)] [(11, .pure (down11_0.map AV.bytes))] rfl rfl rfl ?_
                    refine AW2_reg [0, 1, 2, 3, 4] rfl ?_
                    refine rp rfl rfl (p_move rfl rfl) ?_
                    refine rp rfl rfl (p_move rfl rfl) ?_
                    refine r_op rfl rfl (MakeD.opD (u_bs 83 rfl Tryd.underlying33 in_22 rfl one_22 (by decide) (by decide) rfl rfl rfl) rfl rfl rfl rfl) ?_
                    refine chkK H fun h18 H => ?_
                    refine r_op rfl rfl (u_app [11, 81] rfl rfl rfl rfl Tryd.underlying33 Tryd.underlying33 in_22 rfl rfl rfl (ml AV.bytes down11_0) (by decide) (srcT_o rfl rfl (ml AV.bytes ([r'5.1] : List (List UInt8))) (by decide)) (ml AV.bytes ([r'5.1] : List (List UInt8))) h18 (by decide) rfl rfl (mapp AV.bytes down11_0 ([r'5.1] : List (List UInt8))) (lapp down11_0 ([r'5.1] : List (List UInt8)))) ?_
                    refine rp rfl rfl (p_asg rfl rfl) ?_
                    refine rz [(0, .i mode0), (1, .p (AV.lists j'4.1)), (2, .i j'4.2.1), (11, .c (.own 11 (down11_0 ++ ([r'5.1] : List (List UInt8))).length 1)), (12, .b j'4.2.2.1)] [(11, .pure ((down11_0 ++ ([r'5.1] : List (List UInt8))).map AV.bytes))] rfl rfl rfl ?_
                    have hz := some_elim H
                    subst hz
                    exact ⟨rfl, rfl⟩
                · replace H := ite_else h9 H
                  refine as2 [(0, .i mode0), (1, .p (AV.lists l1_0)), (11, .c (.own 11 down11_0.length 1)), (12, .b known12_0)] [(11, .pure (down11_0.map AV.bytes))] rfl rfl rfl ?_
                  refine AW2_exit ?_
                  refine thenQ2_exit ?_
                  have hz := some_elim H
                  subst hz
                  exact ⟨rfl, rfl⟩
              · obtain ⟨rfl, rfl⟩ := hs
                refine ⟨by simp, ?_⟩
                refine blockQ2_exit ?_
                refine AW2_seq ?_
                refine bindK H fun j'10 h20 H => ?_
                refine AW2_mid (⟨[(11, .c (.own 11 j'10.length 1))], [(11, .pure (j'10.map AV.bytes))], 99⟩ : TS) ?_ ?_
                · clear H
                  have H := h20
                  clear h20
                  refine sg [0, 1] rfl ?_
                  refine rp rfl rfl (p_move rfl rfl) ?_
                  refine rp rfl rfl (p_not rfl rfl) ?_
                  refine rz [(0, .i mode0), (1, .p (AV.lists y'9.1)), (11, .c (.own 11 y'9.2.2.length 1)), (86, .b (!y'9.2.1))] [(11, .pure (y'9.2.2.map AV.bytes))] rfl rfl rfl ?_
                  refine AW2_cond rfl (fun h21 => ?_) (fun h21 => ?_)
                  · replace H := ite_then h21 H
                    refine sg [0, 1, 2, 3, 4, 5, 6, 7] rfl ?_
                    refine rp rfl rfl (p_move rfl rfl) ?_
                    refine rp rfl rfl (p_move rfl rfl) ?_
                    refine bindK H fun r'11 h22 H => ?_
                    refine rp rfl rfl (p_callp rfl rfl rfl Tryd.func63 rfl rfl (g_ref_rollOf_ac h22) ⟨rfl, rfl, trivial⟩) ?_
                    refine rp rfl rfl (p_move rfl rfl) ?_
                    refine rp rfl rfl (p_ext rfl rfl rfl rfl) ?_
                    refine rp rfl rfl (p_ext rfl rfl rfl rfl) ?_
                    refine rp rfl rfl (p_asg rfl rfl) ?_
                    refine rp rfl rfl (p_asg rfl rfl) ?_
                    refine rz [(11, .c (.own 11 y'9.2.2.length 1)), (17, .y r'11.1)] [(11, .pure (y'9.2.2.map AV.bytes))] rfl rfl rfl ?_
                    refine AW2_reg [0, 1, 2, 3, 4] rfl ?_
                    refine rp rfl rfl (p_move rfl rfl) ?_
                    refine rp rfl rfl (p_move rfl rfl) ?_
                    refine r_op rfl rfl (MakeD.opD (u_bs 95 rfl Tryd.underlying33 in_22 rfl one_22 (by decide) (by decide) rfl rfl rfl) rfl rfl rfl rfl) ?_
                    refine chkK H fun h23 H => ?_
                    refine r_op rfl rfl (u_app [11, 93] rfl rfl rfl rfl Tryd.underlying33 Tryd.underlying33 in_22 rfl rfl rfl (ml AV.bytes y'9.2.2) (by decide) (srcT_o rfl rfl (ml AV.bytes ([r'11.1] : List (List UInt8))) (by decide)) (ml AV.bytes ([r'11.1] : List (List UInt8))) h23 (by decide) rfl rfl (mapp AV.bytes y'9.2.2 ([r'11.1] : List (List UInt8))) (lapp y'9.2.2 ([r'11.1] : List (List UInt8)))) ?_
                    refine rp rfl rfl (p_asg rfl rfl) ?_
                    refine rz [(11, .c (.own 11 (y'9.2.2 ++ ([r'11.1] : List (List UInt8))).length 1))] [(11, .pure ((y'9.2.2 ++ ([r'11.1] : List (List UInt8))).map AV.bytes))] rfl rfl rfl ?_
                    have hz := some_elim H
                    subst hz
                    exact rfl
                  · replace H := ite_else (ne_true h21) H
                    refine as2 [(11, .c (.own 11 y'9.2.2.length 1))] [(11, .pure (y'9.2.2.map AV.bytes))] rfl rfl rfl ?_
                    refine AW2_skip ?_
                    have hz := some_elim H
                    subst hz
                    exact rfl
                · refine sg [0, 1, 2, 3] rfl ?_
                  refine rp rfl rfl (p_move rfl rfl) ?_
                  refine RunW_gho (Gho_pubs [11, 97] ⟨rfl, rfl, trivial⟩ rfl (ml AV.bytes j'10) (by decide)) ?_
                  refine bindK H fun r'12 h24 H => ?_
                  refine rp rfl rfl (p_callp rfl rfl rfl Tryd.func66 rfl rfl (g_ref_turnedRound_ac h24) ⟨rfl, trivial⟩) ?_
                  refine rp rfl rfl (p_asg rfl rfl) ?_
                  refine rp rfl rfl (p_asg rfl rfl) ?_
                  refine rz [(6, .p (AV.lists r'12)), (7, .i (0 : Int))] [] rfl rfl rfl ?_
                  refine AW2_ret ?_
                  have hz := some_elim H
                  subst hz
                  exact ⟨⟨res_tmp (.same _), res_tmp (.same _), trivial⟩, trivial⟩

/-! chirographlaw.RollExtends -/
noncomputable def g_law_RollExtends (mode0 : Int) (l1 : List (List UInt8)) (m2 : Int) : Option (Bool) :=
  (g_roll_Extend mode0 l1 m2).bind fun r'1 => (g_ref_ExtendOf mode0 l1 m2).bind fun r'2 => ((if r'1.2 = r'2.2 then (g_law_sameLists r'1.1 r'2.1).bind fun r'4 => some r'4 else some false)).bind fun g'5 => some g'5
set_option maxHeartbeats 4000000 in
set_option maxRecDepth 100000 in
theorem g_law_RollExtends_ac {mode0 : Int} {l1 : List (List UInt8)} {m2 : Int} {r : Bool} (H : g_law_RollExtends mode0 l1 m2 = some r) : ACp Tryd.prog 12 [(AV.int mode0), (AV.lists l1), (AV.int m2)] (AV.bool r) := by
  refine ACp_of (AC2_of_body (vs := [.b r]) Tryd.func12 rfl rfl (Nat.le_of_ble_eq_true rfl) rfl ?_) (fun _ => .same _)
  unfold g_law_RollExtends at H
  refine as2 [(0, .i mode0), (1, .p (AV.lists l1)), (2, .i m2)] [] rfl rfl rfl ?_
  refine sg [0] rfl ?_
  refine rp rfl rfl (p_asg rfl rfl) ?_
  refine rz [(0, .i mode0), (1, .p (AV.lists l1)), (2, .i m2)] [] rfl rfl rfl ?_
  refine sg [0, 1, 2, 3, 4, 5, 6, 7, 8] rfl ?_
  refine rp rfl rfl (p_move rfl rfl) ?_
  refine rp rfl rfl (p_move rfl rfl) ?_
  refine rp rfl rfl (p_move rfl rfl) ?_
  refine bindK H fun r'1 h1 H => ?_
  refine rp rfl rfl (p_callp rfl rfl rfl Tryd.func35 rfl rfl (g_roll_Extend_ac h1) ⟨rfl, rfl, rfl, trivial⟩) ?_
  refine rp rfl rfl (p_move rfl rfl) ?_
  refine rp rfl rfl (p_ext rfl rfl rfl rfl) ?_
  refine rp rfl rfl (p_ext rfl rfl rfl rfl) ?_
  refine rp rfl rfl (p_asg rfl rfl) ?_
  refine rp rfl rfl (p_asg rfl rfl) ?_
  refine rz [(0, .i mode0), (1, .p (AV.lists l1)), (2, .i m2), (7, .p (AV.lists r'1.1)), (8, .i r'1.2)] [] rfl rfl rfl ?_
  refine sg [0, 1, 2, 3, 4, 5, 6, 7, 8] rfl ?_
  refine rp rfl rfl (p_move rfl rfl) ?_
  refine rp rfl rfl (p_move rfl rfl) ?_
  refine rp rfl rfl (p_move rfl rfl) ?_
  refine bindK H fun r'2 h2 H => ?_
  refine rp rfl rfl (p_callp rfl rfl rfl Tryd.func36 rfl rfl (g_ref_ExtendOf_ac h2) ⟨rfl, rfl, rfl, trivial⟩) ?_
  refine rp rfl rfl (p_move rfl rfl) ?_
  refine rp rfl rfl (p_ext rfl rfl rfl rfl) ?_
  refine rp rfl rfl (p_ext rfl rfl rfl rfl) ?_
  refine rp rfl rfl (p_asg rfl rfl) ?_
  refine rp rfl rfl (p_asg rfl rfl) ?_
  refine rz [(7, .p (AV.lists r'1.1)), (8, .i r'1.2), (9, .p (AV.lists r'2.1)), (10, .i r'2.2)] [] rfl rfl rfl ?_
  refine AW2_seq ?_
  refine bindK H fun g'5 h6 H => ?_
  refine AW2_mid (⟨[(6, .b g'5)], [], 33⟩ : TS) ?_ ?_
  · clear H
    have H := h6
    clear h6
    refine AW2_reg [0, 1, 2, 3, 4, 5, 6, 7, 8] rfl ?_
    refine rp rfl rfl (p_move rfl rfl) ?_
    refine rp rfl rfl (p_move rfl rfl) ?_
    refine rp rfl rfl (p_ieq rfl rfl rfl) ?_
    refine rp rfl rfl (p_move rfl rfl) ?_
    refine (Classical.em (r'1.2 = r'2.2)).elim (fun h4 => ?_) (fun h4 => ?_)
    · replace H := ite_then h4 H
      refine r_on rfl rfl rfl rfl (decide_eq_true (p := r'1.2 = r'2.2) h4) rfl (PureD.opD (p_move rfl rfl)) ?_
      refine r_on rfl rfl rfl rfl (decide_eq_true (p := r'1.2 = r'2.2) h4) rfl (PureD.opD (p_move rfl rfl)) ?_
      refine bindK H fun r'4 h5 H => ?_
      refine r_on rfl rfl rfl rfl (decide_eq_true (p := r'1.2 = r'2.2) h4) rfl (PureD.opD (p_callp rfl rfl rfl Tryd.func21 rfl rfl (g_law_sameLists_ac h5) ⟨rfl, rfl, trivial⟩)) ?_
      refine rp rfl rfl (p_pkt rfl rfl (decide_eq_true (p := r'1.2 = r'2.2) h4) (.same _)) ?_
      refine rp rfl rfl (p_asg rfl rfl) ?_
      refine rs [(6, .b r'4)] [] rfl rfl rfl ?_
      have hz := some_elim H
      subst hz
      exact RunW_nil rfl
    · replace H := ite_else h4 H
      refine r_off rfl rfl rfl rfl (decide_eq_false (p := r'1.2 = r'2.2) h4) rfl rfl ?_
      refine r_off rfl rfl rfl rfl (decide_eq_false (p := r'1.2 = r'2.2) h4) rfl rfl ?_
      refine r_off rfl rfl rfl rfl (decide_eq_false (p := r'1.2 = r'2.2) h4) rfl rfl ?_
      refine rp rfl rfl (p_pkf rfl rfl (decide_eq_false (p := r'1.2 = r'2.2) h4) (.same _)) ?_
      refine rp rfl rfl (p_asg rfl rfl) ?_
      refine rs [(6, .b false)] [] rfl rfl rfl ?_
      have hz := some_elim H
      subst hz
      exact RunW_nil rfl
  · refine AW2_ret ?_
    have hz := some_elim H
    subst hz
    exact ⟨⟨res_tmp (.same _), trivial⟩, trivial⟩
end Go.Proofs.YtkaeboabpahemaaDoor.VM
