/- Functions of the program, as they answer, and that their code comes to these answers. -/
import Derived.Test.YtoepdjccgngpdaaDoorGs8
namespace Go.Proofs.YtoepdjccgngpdaaDoor.VM
open Go Go.RowKit

theorem in_22 : Info Tryd.prog 22 1 24 (.slice none 0 0) := by unfold Info; kernel_rfl
theorem one_22 : (.slice none 0 0 : Value).cells.all (·.oneCell') = true := by kernel_rfl
theorem zc_22 : ((.slice none 0 0 : Value).cells.toList.map zcell) = [(AV.bytes [])] := by rfl

/-! oracle.frame -/
noncomputable def g_oracle_frame_l0 (parts1 : List (List UInt8)) : Int × (List UInt8) → Option ((Int × (List UInt8)) ⊕ (((List UInt8))))
  | (t16_0, out5_0) => (if t16_0 < (parts1.length : Int) then if 0 ≤ t16_0 ∧ t16_0 < (parts1.length : Int) then (g_oracle_four ((lrd parts1 t16_0.toNat).length : Int)).bind fun r'1 => if room (out5_0.length + r'1.length) 1 then if room ((out5_0 ++ r'1).length + (lrd parts1 t16_0.toNat).length) 1 then some (.inl (w64 (t16_0 + (1 : Int)), (out5_0 ++ r'1) ++ (lrd parts1 t16_0.toNat))) else none else none else none else some (.inr out5_0))
noncomputable def g_oracle_frame (tag0 : Int) (parts1 : List (List UInt8)) : Option ((List UInt8)) :=
  (loopO (g_oracle_frame_l0 parts1) ((0 : Int), ([UInt8.ofInt tag0, UInt8.ofInt (parts1.length : Int)] : List UInt8))).bind fun y'5 => some y'5
set_option maxHeartbeats 4000000 in
set_option maxRecDepth 100000 in
theorem g_oracle_frame_ac {tag0 : Int} {parts1 : List (List UInt8)} {r : (List UInt8)} (H : g_oracle_frame tag0 parts1 = some r) : ACp Tryd.prog 42 [(AV.int tag0), (AV.lists parts1)] (AV.bytes r) := by
  refine ACp_of (AC2_of_body (vs := [.c (.p (AV.bytes r))]) Tryd.func42 rfl rfl (Nat.le_of_ble_eq_true rfl) rfl ?_) (fun _ => .same _)
  unfold g_oracle_frame at H
  refine AW2_st [(0, .c (.p (AV.int tag0))), (1, .c (.p (AV.lists parts1)))] [] rfl ⟨TLes.same _, TLes.same _, trivial⟩ trivial ?_
  refine AW2_seq ?_
  refine AW2_reg [0] rfl ?_
  refine r_op rfl rfl (PureD.opD (p_asgn rfl)) ?_
  refine RunW_st [(0, .c (.p (AV.int tag0))), (1, .c (.p (AV.lists parts1)))] [] rfl ⟨TLes.same _, TLes.same _, trivial⟩ trivial ?_
  refine RunW_nil ?_
  refine AW2_seq ?_
  refine AW2_reg [0, 1, 2, 3, 4, 5, 6] rfl ?_
  refine r_op rfl rfl (PureD.opD (p_move rfl rfl)) ?_
  refine r_op rfl rfl (PureD.opD (p_i_u8 rfl Tryd.underlying3 Tryd.underlying5 rfl)) ?_
  refine r_op rfl rfl (PureD.opD (p_move rfl rfl)) ?_
  refine r_op rfl rfl (PureD.opD (p_lenl rfl Tryd.underlying44 rfl rfl)) ?_
  refine r_op rfl rfl (PureD.opD (p_i_u8 rfl Tryd.underlying3 Tryd.underlying5 rfl)) ?_
  refine r_op rfl rfl (MakeD.opD (u_bs 13 rfl Tryd.underlying22 in_5 rfl one_5 (by decide) (by decide) rfl rfl rfl) rfl rfl rfl rfl) ?_
  refine r_op rfl rfl (PureD.opD (p_asg rfl rfl)) ?_
  refine RunW_st [(1, .c (.p (AV.lists parts1))), (5, .c (.own 13 ([UInt8.ofInt tag0, UInt8.ofInt (parts1.length : Int)] : List UInt8).length 1))] [(13, .pure (bcells ([UInt8.ofInt tag0, UInt8.ofInt (parts1.length : Int)] : List UInt8)))] rfl ⟨TLes.same _, TLes.own rfl, trivial⟩ ⟨rfl, trivial⟩ ?_
  refine RunW_gho (Gho_ren 13 5 rfl rfl rfl rfl rfl) ?_
  refine RunW_st [(1, .c (.p (AV.lists parts1))), (5, .c (.own 5 ([UInt8.ofInt tag0, UInt8.ofInt (parts1.length : Int)] : List UInt8).length 1))] [(5, .pure (bcells ([UInt8.ofInt tag0, UInt8.ofInt (parts1.length : Int)] : List UInt8)))] rfl ⟨TLes.same _, TLes.same _, trivial⟩ ⟨rfl, trivial⟩ ?_
  refine RunW_nil ?_
  refine AW2_seq ?_
  refine AW2_seq ?_
  refine AW2_reg [0, 1, 2] rfl ?_
  refine r_op rfl rfl (PureD.opD (p_move rfl rfl)) ?_
  refine r_op rfl rfl (PureD.opD (p_lenl rfl Tryd.underlying44 rfl rfl)) ?_
  refine r_op rfl rfl (PureD.opD (p_move rfl rfl)) ?_
  refine RunW_st [(5, .c (.own 5 ([UInt8.ofInt tag0, UInt8.ofInt (parts1.length : Int)] : List UInt8).length 1)), (14, .c (.p (AV.lists parts1))), (15, .c (.p (AV.int (parts1.length : Int)))), (16, .c (.p (AV.int (0 : Int))))] [(5, .pure (bcells ([UInt8.ofInt tag0, UInt8.ofInt (parts1.length : Int)] : List UInt8)))] rfl ⟨TLes.same _, TLes.same _, TLes.same _, TLes.same _, trivial⟩ ⟨rfl, trivial⟩ ?_
  refine RunW_nil ?_
  refine AW2_block ?_
  refine AW2_st [(5, .c (.own 5 ([UInt8.ofInt tag0, UInt8.ofInt (parts1.length : Int)] : List UInt8).length 1)), (14, .c (.p (AV.lists parts1))), (15, .c (.p (AV.int (parts1.length : Int)))), (16, .c (.p (AV.int (0 : Int))))] [(5, .pure (bcells ([UInt8.ofInt tag0, UInt8.ofInt (parts1.length : Int)] : List UInt8)))] rfl ⟨TLes.same _, TLes.same _, TLes.same _, TLes.same _, trivial⟩ ⟨rfl, trivial⟩ ?_
  refine bindK H fun y'5 h6 H => ?_
  refine AW2_loopO (fun a'2 : Int × (List UInt8) => (⟨[(5, .c (.own 5 a'2.2.length 1)), (14, .c (.p (AV.lists parts1))), (15, .c (.p (AV.int (parts1.length : Int)))), (16, .c (.p (AV.int a'2.1)))], [(5, .pure (bcells a'2.2))], 29⟩ : TS)) (fun (y'3 : ((List UInt8))) e s' => e = Go.Exit.exit 0 ∧ s' = (⟨[(5, .c (.own 5 y'3.length 1))], [(5, .pure (bcells y'3))], 29⟩ : TS)) h6 rfl (fun a x hx => ?_) (fun e s' hs => ?_)
  · clear H
    obtain ⟨t16_0, out5_0⟩ := a
    have H := hx
    clear hx
    unfold g_oracle_frame_l0 at H
    refine AW2_seq ?_
    refine AW2_reg [0] rfl ?_
    refine r_op rfl rfl (PureD.opD (p_bin rfl rfl rfl rfl)) ?_
    refine RunW_st [(5, .c (.own 5 out5_0.length 1)), (14, .c (.p (AV.lists parts1))), (15, .c (.p (AV.int (parts1.length : Int)))), (16, .c (.p (AV.int t16_0))), (17, .c (.p (.bool (decide (t16_0 < (parts1.length : Int))))))] [(5, .pure (bcells out5_0))] rfl ⟨TLes.same _, TLes.same _, TLes.same _, TLes.same _, TLes.same _, trivial⟩ ⟨rfl, trivial⟩ ?_
    refine RunW_nil ?_
    refine AW2_seq ?_
    refine AW2_if (p := t16_0 < (parts1.length : Int)) rfl (fun h1 => ?_) (fun h1 => ?_)
    · replace H := ite_then h1 H
      refine AW2_st [(5, .c (.own 5 out5_0.length 1)), (14, .c (.p (AV.lists parts1))), (15, .c (.p (AV.int (parts1.length : Int)))), (16, .c (.p (AV.int t16_0)))] [(5, .pure (bcells out5_0))] rfl ⟨TLes.same _, TLes.same _, TLes.same _, TLes.same _, trivial⟩ ⟨rfl, trivial⟩ ?_
      refine AW2_skip ?_
      refine AW2_seq ?_
      refine AW2_block ?_
      refine AW2_seq ?_
      refine AW2_reg [0, 1, 2] rfl ?_
      refine chkK H fun h2 H => ?_
      refine r_op rfl rfl (PureD.opD (u_ixl rfl rfl Tryd.underlying44 in_22 rfl rfl (ixe h2) (ixn h2) (lne (ixn h2)))) ?_
      refine r_op rfl rfl (PureD.opD (u_ld rfl rfl Tryd.underlying22 rfl rfl (Sub.map default (ixn h2)))) ?_
      refine r_op rfl rfl (PureD.opD (p_asg rfl rfl)) ?_
      refine RunW_st [(5, .c (.own 5 out5_0.length 1)), (7, .c (.p (AV.bytes (lrd parts1 t16_0.toNat)))), (14, .c (.p (AV.lists parts1))), (15, .c (.p (AV.int (parts1.length : Int)))), (16, .c (.p (AV.int t16_0)))] [(5, .pure (bcells out5_0))] rfl ⟨TLes.same _, TLes.same _, TLes.same _, TLes.same _, TLes.same _, trivial⟩ ⟨rfl, trivial⟩ ?_
      refine RunW_nil ?_
      refine AW2_reg [0, 1, 2, 3, 4, 5, 6, 7] rfl ?_
      refine r_op rfl rfl (PureD.opD (p_move rfl rfl)) ?_
      refine r_op rfl rfl (PureD.opD (p_move rfl rfl)) ?_
      refine r_op rfl rfl (PureD.opD (p_lenl rfl Tryd.underlying22 rfl rfl)) ?_
      refine bindK H fun r'1 h3 H => ?_
      refine r_op rfl rfl (PureD.opD (p_callp rfl rfl rfl Tryd.func52 rfl rfl (g_oracle_four_ac h3) ⟨rfl, trivial⟩)) ?_
      refine chkK H fun h4 H => ?_
      refine r_op rfl rfl (u_app [5, 20] rfl rfl rfl rfl Tryd.underlying22 Tryd.underlying22 in_5 rfl rfl rfl (bl out5_0) (by decide) rfl (bl r'1) h4 (by decide) rfl rfl (bapp out5_0 r'1) (lapp out5_0 r'1)) ?_
      refine r_op rfl rfl (PureD.opD (p_move rfl rfl)) ?_
      refine chkK H fun h5 H => ?_
      refine r_op rfl rfl (u_app [24] rfl rfl rfl rfl Tryd.underlying22 Tryd.underlying22 in_5 rfl rfl rfl (bl (out5_0 ++ r'1)) (by decide) rfl (bl (lrd parts1 t16_0.toNat)) h5 (by decide) rfl rfl (bapp (out5_0 ++ r'1) (lrd parts1 t16_0.toNat)) (lapp (out5_0 ++ r'1) (lrd parts1 t16_0.toNat))) ?_
      refine r_op rfl rfl (PureD.opD (p_asg rfl rfl)) ?_
      refine RunW_st [(5, .c (.own 5 ((out5_0 ++ r'1) ++ (lrd parts1 t16_0.toNat)).length 1)), (14, .c (.p (AV.lists parts1))), (15, .c (.p (AV.int (parts1.length : Int)))), (16, .c (.p (AV.int t16_0)))] [(5, .pure (bcells ((out5_0 ++ r'1) ++ (lrd parts1 t16_0.toNat))))] rfl ⟨TLes.same _, TLes.same _, TLes.same _, TLes.same _, trivial⟩ ⟨rfl, trivial⟩ ?_
      refine RunW_nil ?_
      refine AW2_reg [0, 1] rfl ?_
      refine r_op rfl rfl (PureD.opD (p_bin rfl rfl rfl rfl)) ?_
      refine r_op rfl rfl (PureD.opD (p_move rfl rfl)) ?_
      refine RunW_st [(5, .c (.own 5 ((out5_0 ++ r'1) ++ (lrd parts1 t16_0.toNat)).length 1)), (14, .c (.p (AV.lists parts1))), (15, .c (.p (AV.int (parts1.length : Int)))), (16, .c (.p (AV.int (w64 (t16_0 + (1 : Int))))))] [(5, .pure (bcells ((out5_0 ++ r'1) ++ (lrd parts1 t16_0.toNat))))] rfl ⟨TLes.same _, TLes.same _, TLes.same _, TLes.same _, trivial⟩ ⟨rfl, trivial⟩ ?_
      refine RunW_nil ?_
      have hz := some_elim H
      subst hz
      exact ⟨rfl, rfl⟩
    · replace H := ite_else h1 H
      refine AW2_st [(5, .c (.own 5 out5_0.length 1))] [(5, .pure (bcells out5_0))] rfl ⟨TLes.same _, trivial⟩ ⟨rfl, trivial⟩ ?_
      refine AW2_exit ?_
      refine thenQ2_exit ?_
      have hz := some_elim H
      subst hz
      exact ⟨rfl, rfl⟩
  · obtain ⟨rfl, rfl⟩ := hs
    refine ⟨by simp, ?_⟩
    refine blockQ2_exit ?_
    refine AW2_seq ?_
    refine AW2_reg [0, 1] rfl ?_
    refine r_op rfl rfl (PureD.opD (p_move rfl rfl)) ?_
    refine r_op rfl rfl (PureD.opD (p_asg rfl rfl)) ?_
    refine RunW_st [(4, .c (.own 5 y'5.length 1))] [(5, .pure (bcells y'5))] rfl ⟨TLes.same _, trivial⟩ ⟨rfl, trivial⟩ ?_
    refine RunW_gho (Gho_ren 5 4 rfl rfl rfl rfl rfl) ?_
    refine RunW_st [(4, .c (.own 4 y'5.length 1))] [(4, .pure (bcells y'5))] rfl ⟨TLes.same _, trivial⟩ ⟨rfl, trivial⟩ ?_
    refine RunW_nil ?_
    refine AW2_gho (Gho_pubs [4] ⟨rfl, trivial⟩ rfl (bl y'5) (by decide)) ?_
    refine AW2_ret ?_
    have hz := some_elim H
    subst hz
    exact ⟨⟨res_tmp (.same _), trivial⟩, trivial⟩

/-! chirographref.badMode -/
noncomputable def g_ref_badMode (mode0 : Int) : Option (Bool) :=
  some (decide ((mode0 ≠ (1 : Int)) ∧ (mode0 ≠ (2 : Int))))
set_option maxHeartbeats 4000000 in
set_option maxRecDepth 100000 in
theorem g_ref_badMode_ac {mode0 : Int} {r : Bool} (H : g_ref_badMode mode0 = some r) : ACp Tryd.prog 44 [(AV.int mode0)] (AV.bool r) := by
  refine ACp_of (AC2_of_body (vs := [.c (.p (AV.bool r))]) Tryd.func44 rfl rfl (Nat.le_of_ble_eq_true rfl) rfl ?_) (fun _ => .same _)
  unfold g_ref_badMode at H
  refine AW2_st [(0, .c (.p (AV.int mode0)))] [] rfl ⟨TLes.same _, trivial⟩ trivial ?_
  refine AW2_seq ?_
  refine AW2_reg [0] rfl ?_
  refine r_op rfl rfl (PureD.opD (p_asg rfl rfl)) ?_
  refine RunW_st [(0, .c (.p (AV.int mode0)))] [] rfl ⟨TLes.same _, trivial⟩ trivial ?_
  refine RunW_nil ?_
  refine AW2_seq ?_
  refine AW2_mid (⟨[(2, .c (.p (.bool (decide ((mode0 ≠ (1 : Int)) ∧ (mode0 ≠ (2 : Int)))))))], [], 9⟩ : TS) ?_ ?_
  · refine AW2_reg [0, 1, 2, 3, 4, 5, 6] rfl ?_
    refine r_op rfl rfl (PureD.opD (p_move rfl rfl)) ?_
    refine r_op rfl rfl (PureD.opD (p_ine rfl rfl rfl)) ?_
    refine r_op rfl rfl (PureD.opD (p_move rfl rfl)) ?_
    refine (Classical.em (mode0 ≠ (1 : Int))).elim (fun h1 => ?_) (fun h1 => ?_)
    · refine r_on rfl rfl rfl rfl (decide_eq_true (p := mode0 ≠ (1 : Int)) h1) rfl (PureD.opD (p_move rfl rfl)) ?_
      refine r_on rfl rfl rfl rfl (decide_eq_true (p := mode0 ≠ (1 : Int)) h1) rfl (PureD.opD (p_ine rfl rfl rfl)) ?_
      refine r_op rfl rfl (PureD.opD (p_pkt rfl rfl (decide_eq_true (p := mode0 ≠ (1 : Int)) h1) (tb ((and_l (p := mode0 ≠ (1 : Int)) (q := mode0 ≠ (2 : Int)) h1))))) ?_
      refine r_op rfl rfl (PureD.opD (p_asg rfl rfl)) ?_
      refine RunW_st [(2, .c (.p (.bool (decide ((mode0 ≠ (1 : Int)) ∧ (mode0 ≠ (2 : Int)))))))] [] rfl ⟨TLes.same _, trivial⟩ trivial ?_
      exact RunW_nil rfl
    · refine r_off rfl rfl rfl rfl (decide_eq_false (p := mode0 ≠ (1 : Int)) h1) rfl rfl ?_
      refine r_off rfl rfl rfl rfl (decide_eq_false (p := mode0 ≠ (1 : Int)) h1) rfl rfl ?_
      refine r_op rfl rfl (PureD.opD (p_pkf rfl rfl (decide_eq_false (p := mode0 ≠ (1 : Int)) h1) (tb (decide_eq_false (p := (mode0 ≠ (1 : Int)) ∧ (mode0 ≠ (2 : Int))) (fun x => h1 x.1)).symm))) ?_
      refine r_op rfl rfl (PureD.opD (p_asg rfl rfl)) ?_
      refine RunW_st [(2, .c (.p (.bool (decide ((mode0 ≠ (1 : Int)) ∧ (mode0 ≠ (2 : Int)))))))] [] rfl ⟨TLes.same _, trivial⟩ trivial ?_
      exact RunW_nil rfl
  · refine AW2_ret ?_
    have hz := some_elim H
    subst hz
    exact ⟨⟨res_tmp (.same _), trivial⟩, trivial⟩

/-! chirographref.framed -/
noncomputable def g_ref_framed_l0 (parts1 : List (List UInt8)) : (List UInt8) × Int → Option (((List UInt8) × Int) ⊕ (((List UInt8))))
  | (s5_0, t17_0) => (if t17_0 < (parts1.length : Int) then if 0 ≤ t17_0 ∧ t17_0 < (parts1.length : Int) then (g_ref_big (UInt64.ofInt ((lrd parts1 t17_0.toNat).length : Int)) (4 : Int)).bind fun r'1 => if r'1.length + (lrd parts1 t17_0.toNat).length ≤ 9223372036854775807 then if s5_0.length + (r'1 ++ (lrd parts1 t17_0.toNat)).length ≤ 9223372036854775807 then some (.inl (s5_0 ++ (r'1 ++ (lrd parts1 t17_0.toNat)), w64 (t17_0 + (1 : Int)))) else none else none else none else some (.inr s5_0))
noncomputable def g_ref_framed (tag0 : Int) (parts1 : List (List UInt8)) : Option ((List UInt8)) :=
  (loopO (g_ref_framed_l0 parts1) (([UInt8.ofInt tag0, UInt8.ofInt (parts1.length : Int)] : List UInt8), (0 : Int))).bind fun y'5 => some y'5
set_option maxHeartbeats 4000000 in
set_option maxRecDepth 100000 in
theorem g_ref_framed_ac {tag0 : Int} {parts1 : List (List UInt8)} {r : (List UInt8)} (H : g_ref_framed tag0 parts1 = some r) : ACp Tryd.prog 46 [(AV.int tag0), (AV.lists parts1)] (AV.txt r) := by
  refine ACp_of (AC2_of_body (vs := [.c (.p (AV.txt r))]) Tryd.func46 rfl rfl (Nat.le_of_ble_eq_true rfl) rfl ?_) (fun _ => .same _)
  unfold g_ref_framed at H
  refine AW2_st [(0, .c (.p (AV.int tag0))), (1, .c (.p (AV.lists parts1)))] [] rfl ⟨TLes.same _, TLes.same _, trivial⟩ trivial ?_
  refine AW2_seq ?_
  refine AW2_reg [0] rfl ?_
  refine r_op rfl rfl (PureD.opD (p_asg rfl rfl)) ?_
  refine RunW_st [(0, .c (.p (AV.int tag0))), (1, .c (.p (AV.lists parts1)))] [] rfl ⟨TLes.same _, TLes.same _, trivial⟩ trivial ?_
  refine RunW_nil ?_
  refine AW2_seq ?_
  refine AW2_reg [0, 1, 2, 3, 4, 5, 6, 7] rfl ?_
  refine r_op rfl rfl (PureD.opD (p_move rfl rfl)) ?_
  refine r_op rfl rfl (PureD.opD (p_i_u8 rfl Tryd.underlying3 Tryd.underlying5 rfl)) ?_
  refine r_op rfl rfl (PureD.opD (p_move rfl rfl)) ?_
  refine r_op rfl rfl (PureD.opD (p_lenl rfl Tryd.underlying44 rfl rfl)) ?_
  refine r_op rfl rfl (PureD.opD (p_i_u8 rfl Tryd.underlying3 Tryd.underlying5 rfl)) ?_
  refine r_op rfl rfl (MakeD.opD (u_bs 13 rfl Tryd.underlying22 in_5 rfl one_5 (by decide) (by decide) rfl rfl rfl) rfl rfl rfl rfl) ?_
  refine r_op rfl rfl (PureD.opD (p_cbo (bs := ([UInt8.ofInt tag0, UInt8.ofInt (parts1.length : Int)] : List UInt8)) rfl rfl Tryd.underlying22 Tryd.underlying5 Tryd.underlying9 rfl rfl)) ?_
  refine r_op rfl rfl (PureD.opD (p_asg rfl rfl)) ?_
  refine RunW_st [(1, .c (.p (AV.lists parts1))), (5, .c (.p (AV.txt ([UInt8.ofInt tag0, UInt8.ofInt (parts1.length : Int)] : List UInt8))))] [] rfl ⟨TLes.same _, TLes.same _, trivial⟩ trivial ?_
  refine RunW_nil ?_
  refine AW2_seq ?_
  refine AW2_seq ?_
  refine AW2_reg [0, 1, 2] rfl ?_
  refine r_op rfl rfl (PureD.opD (p_move rfl rfl)) ?_
  refine r_op rfl rfl (PureD.opD (p_lenl rfl Tryd.underlying44 rfl rfl)) ?_
  refine r_op rfl rfl (PureD.opD (p_move rfl rfl)) ?_
  refine RunW_st [(5, .c (.p (AV.txt ([UInt8.ofInt tag0, UInt8.ofInt (parts1.length : Int)] : List UInt8)))), (15, .c (.p (AV.lists parts1))), (16, .c (.p (AV.int (parts1.length : Int)))), (17, .c (.p (AV.int (0 : Int))))] [] rfl ⟨TLes.same _, TLes.same _, TLes.same _, TLes.same _, trivial⟩ trivial ?_
  refine RunW_nil ?_
  refine AW2_block ?_
  refine AW2_st [(5, .c (.p (AV.txt ([UInt8.ofInt tag0, UInt8.ofInt (parts1.length : Int)] : List UInt8)))), (15, .c (.p (AV.lists parts1))), (16, .c (.p (AV.int (parts1.length : Int)))), (17, .c (.p (AV.int (0 : Int))))] [] rfl ⟨TLes.same _, TLes.same _, TLes.same _, TLes.same _, trivial⟩ trivial ?_
  refine bindK H fun y'5 h6 H => ?_
  refine AW2_loopO (fun a'2 : (List UInt8) × Int => (⟨[(5, .c (.p (AV.txt a'2.1))), (15, .c (.p (AV.lists parts1))), (16, .c (.p (AV.int (parts1.length : Int)))), (17, .c (.p (AV.int a'2.2)))], [], 32⟩ : TS)) (fun (y'3 : ((List UInt8))) e s' => e = Go.Exit.exit 0 ∧ s' = (⟨[(5, .c (.p (AV.txt y'3)))], [], 32⟩ : TS)) h6 rfl (fun a x hx => ?_) (fun e s' hs => ?_)
  · clear H
    obtain ⟨s5_0, t17_0⟩ := a
    have H := hx
    clear hx
    unfold g_ref_framed_l0 at H
    refine AW2_seq ?_
    refine AW2_reg [0] rfl ?_
    refine r_op rfl rfl (PureD.opD (p_bin rfl rfl rfl rfl)) ?_
    refine RunW_st [(5, .c (.p (AV.txt s5_0))), (15, .c (.p (AV.lists parts1))), (16, .c (.p (AV.int (parts1.length : Int)))), (17, .c (.p (AV.int t17_0))), (18, .c (.p (.bool (decide (t17_0 < (parts1.length : Int))))))] [] rfl ⟨TLes.same _, TLes.same _, TLes.same _, TLes.same _, TLes.same _, trivial⟩ trivial ?_
    refine RunW_nil ?_
    refine AW2_seq ?_
    refine AW2_if (p := t17_0 < (parts1.length : Int)) rfl (fun h1 => ?_) (fun h1 => ?_)
    · replace H := ite_then h1 H
      refine AW2_st [(5, .c (.p (AV.txt s5_0))), (15, .c (.p (AV.lists parts1))), (16, .c (.p (AV.int (parts1.length : Int)))), (17, .c (.p (AV.int t17_0)))] [] rfl ⟨TLes.same _, TLes.same _, TLes.same _, TLes.same _, trivial⟩ trivial ?_
      refine AW2_skip ?_
      refine AW2_seq ?_
      refine AW2_block ?_
      refine AW2_seq ?_
      refine AW2_reg [0, 1, 2] rfl ?_
      refine chkK H fun h2 H => ?_
      refine r_op rfl rfl (PureD.opD (u_ixl rfl rfl Tryd.underlying44 in_22 rfl rfl (ixe h2) (ixn h2) (lne (ixn h2)))) ?_
      refine r_op rfl rfl (PureD.opD (u_ld rfl rfl Tryd.underlying22 rfl rfl (Sub.map default (ixn h2)))) ?_
      refine r_op rfl rfl (PureD.opD (p_asg rfl rfl)) ?_
      refine RunW_st [(5, .c (.p (AV.txt s5_0))), (7, .c (.p (AV.bytes (lrd parts1 t17_0.toNat)))), (15, .c (.p (AV.lists parts1))), (16, .c (.p (AV.int (parts1.length : Int)))), (17, .c (.p (AV.int t17_0)))] [] rfl ⟨TLes.same _, TLes.same _, TLes.same _, TLes.same _, TLes.same _, trivial⟩ trivial ?_
      refine RunW_nil ?_
      refine bindK H fun r'1 h3 H => ?_
      refine chkK H fun h4 H => ?_
      refine chkK H fun h5 H => ?_
      refine AW2_ghoQ ?_
      refine AW2_draw 8 [8, 9] (fun k => ([.c (.p (AV.txt s5_0)), .c (.p (AV.bytes (lrd parts1 t17_0.toNat))), .c (.p (AV.int ((lrd parts1 t17_0.toNat).length : Int))), .c (.p (AV.u64 (UInt64.ofInt ((lrd parts1 t17_0.toNat).length : Int)))), .c (.p (AV.txt r'1)), .c (.p (AV.bytes (lrd parts1 t17_0.toNat))), .c (.p (AV.txt (lrd parts1 t17_0.toNat))), .c (.p (AV.txt (r'1 ++ (lrd parts1 t17_0.toNat))))] : List TV).getD k TV.any) (fun k => ([[(5, none)], [(7, none)], [(22, some 1)], [(23, some 2)], [(24, some 3)], [(7, none)], [(26, some 5)], [(25, some 4), (27, some 6)]] : List (List (Nat × Option Nat))).getD k []) [(5, none), (15, none), (16, none), (17, none), (21, some 0), (28, some 7)] [] (fun k => ([[], [], [1], [1, 2], [1, 2, 3], [], [5], [1, 2, 3, 4, 5, 6], [0, 1, 2, 3, 4, 5, 6, 7], [0, 1, 2, 3, 4, 5, 6, 7, 8]] : List (List Nat)).getD k []) mixed (by kernel_rfl) rfl rfl (a_op (g_x rfl (x_p rfl (p_move rfl rfl) rfl)) (a_op (g_x rfl (x_p rfl (p_move rfl rfl) rfl)) (a_op (g_x rfl (x_p rfl (p_lenl rfl Tryd.underlying22 rfl rfl) rfl)) (a_op (g_x rfl (x_p rfl (p_i_u64 rfl Tryd.underlying3 Tryd.underlying66 rfl) rfl)) (a_op (g_x rfl (x_p rfl (p_callp rfl rfl rfl Tryd.func45 rfl rfl (g_ref_big_ac h3) ⟨rfl, rfl, trivial⟩) rfl)) (a_op (g_x rfl (x_p rfl (p_move rfl rfl) rfl)) (a_op (g_x rfl (x_p rfl (p_cb rfl rfl Tryd.underlying22 Tryd.underlying5 Tryd.underlying9 rfl) rfl)) (a_op (g_x rfl (x_p rfl (p_cat rfl rfl rfl h4) rfl)) (a_nil))))))))) ?_
      refine t_op rfl rfl (PureD.opD (p_cat rfl rfl rfl h5)) ?_
      refine t_op rfl rfl (PureD.opD (p_asg rfl rfl)) ?_
      refine t_gho (Gho_st (L := [(5, .c (.p (AV.txt (s5_0 ++ (r'1 ++ (lrd parts1 t17_0.toNat)))))), (15, .c (.p (AV.lists parts1))), (16, .c (.p (AV.int (parts1.length : Int)))), (17, .c (.p (AV.int t17_0)))]) (H := []) rfl ⟨TLes.same _, TLes.same _, TLes.same _, TLes.same _, trivial⟩ trivial) ?_
      refine AW2_reg [0, 1] rfl ?_
      refine r_op rfl rfl (PureD.opD (p_bin rfl rfl rfl rfl)) ?_
      refine r_op rfl rfl (PureD.opD (p_move rfl rfl)) ?_
      refine RunW_st [(5, .c (.p (AV.txt (s5_0 ++ (r'1 ++ (lrd parts1 t17_0.toNat)))))), (15, .c (.p (AV.lists parts1))), (16, .c (.p (AV.int (parts1.length : Int)))), (17, .c (.p (AV.int (w64 (t17_0 + (1 : Int))))))] [] rfl ⟨TLes.same _, TLes.same _, TLes.same _, TLes.same _, trivial⟩ trivial ?_
      refine RunW_nil ?_
      have hz := some_elim H
      subst hz
      exact ⟨rfl, rfl⟩
    · replace H := ite_else h1 H
      refine AW2_st [(5, .c (.p (AV.txt s5_0)))] [] rfl ⟨TLes.same _, trivial⟩ trivial ?_
      refine AW2_exit ?_
      refine thenQ2_exit ?_
      have hz := some_elim H
      subst hz
      exact ⟨rfl, rfl⟩
  · obtain ⟨rfl, rfl⟩ := hs
    refine ⟨by simp, ?_⟩
    refine blockQ2_exit ?_
    refine AW2_seq ?_
    refine AW2_reg [0, 1] rfl ?_
    refine r_op rfl rfl (PureD.opD (p_move rfl rfl)) ?_
    refine r_op rfl rfl (PureD.opD (p_asg rfl rfl)) ?_
    refine RunW_st [(4, .c (.p (AV.txt y'5)))] [] rfl ⟨TLes.same _, trivial⟩ trivial ?_
    refine RunW_nil ?_
    refine AW2_ret ?_
    have hz := some_elim H
    subst hz
    exact ⟨⟨res_tmp (.same _), trivial⟩, trivial⟩

/-! chirographlaw.sameBytes -/
noncomputable def g_law_sameBytes (a0 : List UInt8) (b1 : List UInt8) : Option (Bool) :=
  some (decide (a0 = b1))
set_option maxHeartbeats 4000000 in
set_option maxRecDepth 100000 in
theorem g_law_sameBytes_ac {a0 : List UInt8} {b1 : List UInt8} {r : Bool} (H : g_law_sameBytes a0 b1 = some r) : ACp Tryd.prog 24 [(AV.bytes a0), (AV.bytes b1)] (AV.bool r) := by
  refine ACp_of (AC2_of_body (vs := [.c (.p (AV.bool r))]) Tryd.func24 rfl rfl (Nat.le_of_ble_eq_true rfl) rfl ?_) (fun _ => .same _)
  unfold g_law_sameBytes at H
  refine AW2_st [(0, .c (.p (AV.bytes a0))), (1, .c (.p (AV.bytes b1)))] [] rfl ⟨TLes.same _, TLes.same _, trivial⟩ trivial ?_
  refine AW2_seq ?_
  refine AW2_reg [0] rfl ?_
  refine r_op rfl rfl (PureD.opD (p_asg rfl rfl)) ?_
  refine RunW_st [(0, .c (.p (AV.bytes a0))), (1, .c (.p (AV.bytes b1)))] [] rfl ⟨TLes.same _, TLes.same _, trivial⟩ trivial ?_
  refine RunW_nil ?_
  refine AW2_seq ?_
  refine AW2_reg [0, 1, 2, 3, 4, 5] rfl ?_
  refine r_op rfl rfl (PureD.opD (p_move rfl rfl)) ?_
  refine r_op rfl rfl (PureD.opD (p_cb rfl rfl Tryd.underlying22 Tryd.underlying5 Tryd.underlying9 rfl)) ?_
  refine r_op rfl rfl (PureD.opD (p_move rfl rfl)) ?_
  refine r_op rfl rfl (PureD.opD (p_cb rfl rfl Tryd.underlying22 Tryd.underlying5 Tryd.underlying9 rfl)) ?_
  refine r_op rfl rfl (PureD.opD (p_seq rfl rfl rfl)) ?_
  refine r_op rfl rfl (PureD.opD (p_asg rfl rfl)) ?_
  refine RunW_st [(4, .c (.p (.bool (decide (a0 = b1)))))] [] rfl ⟨TLes.same _, trivial⟩ trivial ?_
  refine RunW_nil ?_
  refine AW2_ret ?_
  have hz := some_elim H
  subst hz
  exact ⟨⟨res_tmp (.same _), trivial⟩, trivial⟩

/-! oracle.Frame -/
noncomputable def g_oracle_Frame_l0 (parts1 : List (List UInt8)) : Int × Int → Option ((Int × Int) ⊕ (((List UInt8) × Int) ⊕ Int))
  | (all6_0, t20_0) => (if t20_0 < (parts1.length : Int) then if 0 ≤ t20_0 ∧ t20_0 < (parts1.length : Int) then (if ((lrd parts1 t20_0.toNat).length : Int) > (16777216 : Int) then some (.inr (.inl ([], (1 : Int)))) else letO (w64 (all6_0 + (w64 ((4 : Int) + ((lrd parts1 t20_0.toNat).length : Int))))) fun all6'1 => some (.inl (all6'1, w64 (t20_0 + (1 : Int))))) else none else some (.inr (.inr all6_0)))
noncomputable def g_oracle_Frame (tag0 : Int) (parts1 : List (List UInt8)) : Option ((List UInt8) × Int) :=
  (if (tag0 < (1 : Int)) ∨ (tag0 > (9 : Int)) then some ([], (6 : Int)) else (if (parts1.length : Int) > (8 : Int) then some ([], (1 : Int)) else (loopO (g_oracle_Frame_l0 parts1) ((2 : Int), (0 : Int))).bind fun o'5 => match o'5 with | .inl y'6 => some y'6 | .inr (y'7) => (if y'7 > (16777216 : Int) then some ([], (1 : Int)) else (g_oracle_frame tag0 parts1).bind fun r'8 => some (r'8, (0 : Int)))))
set_option maxHeartbeats 4000000 in
set_option maxRecDepth 100000 in
theorem g_oracle_Frame_ac {tag0 : Int} {parts1 : List (List UInt8)} {r : (List UInt8) × Int} (H : g_oracle_Frame tag0 parts1 = some r) : ACp Tryd.prog 47 [(AV.int tag0), (AV.lists parts1)] (.tup [(AV.bytes r.1), (AV.int r.2)]) := by
  refine ACp_of (AC2_of_body (vs := [.c (.p (AV.bytes r.1)), .c (.p (AV.int r.2))]) Tryd.func47 rfl rfl (Nat.le_of_ble_eq_true rfl) rfl ?_) (fun _ => .same _)
  unfold g_oracle_Frame at H
  refine AW2_st [(0, .c (.p (AV.int tag0))), (1, .c (.p (AV.lists parts1)))] [] rfl ⟨TLes.same _, TLes.same _, trivial⟩ trivial ?_
  refine AW2_seq ?_
  refine AW2_reg [0, 1] rfl ?_
  refine r_op rfl rfl (PureD.opD (p_asgn rfl)) ?_
  refine r_op rfl rfl (PureD.opD (p_asg rfl rfl)) ?_
  refine RunW_st [(0, .c (.p (AV.int tag0))), (1, .c (.p (AV.lists parts1)))] [] rfl ⟨TLes.same _, TLes.same _, trivial⟩ trivial ?_
  refine RunW_nil ?_
  refine AW2_seq ?_
  refine AW2_seq ?_
  refine AW2_mid (⟨[(0, .c (.p (AV.int tag0))), (1, .c (.p (AV.lists parts1))), (14, .c (.p (.bool (decide ((tag0 < (1 : Int)) ∨ (tag0 > (9 : Int)))))))], [], 38⟩ : TS) ?_ ?_
  · refine AW2_reg [0, 1, 2, 3, 4, 5] rfl ?_
    refine r_op rfl rfl (PureD.opD (p_move rfl rfl)) ?_
    refine r_op rfl rfl (PureD.opD (p_bin rfl rfl rfl rfl)) ?_
    refine r_op rfl rfl (PureD.opD (p_move rfl rfl)) ?_
    refine (Classical.em (tag0 < (1 : Int))).elim (fun h1 => ?_) (fun h1 => ?_)
    · refine r_off rfl rfl rfl rfl (decide_eq_true (p := tag0 < (1 : Int)) h1) rfl rfl ?_
      refine r_off rfl rfl rfl rfl (decide_eq_true (p := tag0 < (1 : Int)) h1) rfl rfl ?_
      refine r_op rfl rfl (PureD.opD (p_pkt rfl rfl (decide_eq_true (p := tag0 < (1 : Int)) h1) (tb (decide_eq_true (p := (tag0 < (1 : Int)) ∨ (tag0 > (9 : Int))) (Or.inl h1)).symm))) ?_
      refine RunW_st [(0, .c (.p (AV.int tag0))), (1, .c (.p (AV.lists parts1))), (14, .c (.p (.bool (decide ((tag0 < (1 : Int)) ∨ (tag0 > (9 : Int)))))))] [] rfl ⟨TLes.same _, TLes.same _, TLes.same _, trivial⟩ trivial ?_
      exact RunW_nil rfl
    · refine r_on rfl rfl rfl rfl (decide_eq_false (p := tag0 < (1 : Int)) h1) rfl (PureD.opD (p_move rfl rfl)) ?_
      refine r_on rfl rfl rfl rfl (decide_eq_false (p := tag0 < (1 : Int)) h1) rfl (PureD.opD (p_bin rfl rfl rfl rfl)) ?_
      refine r_op rfl rfl (PureD.opD (p_pkf rfl rfl (decide_eq_false (p := tag0 < (1 : Int)) h1) (tb ((or_l (p := tag0 < (1 : Int)) (q := tag0 > (9 : Int)) h1))))) ?_
      refine RunW_st [(0, .c (.p (AV.int tag0))), (1, .c (.p (AV.lists parts1))), (14, .c (.p (.bool (decide ((tag0 < (1 : Int)) ∨ (tag0 > (9 : Int)))))))] [] rfl ⟨TLes.same _, TLes.same _, TLes.same _, trivial⟩ trivial ?_
      exact RunW_nil rfl
  · refine AW2_if (p := (tag0 < (1 : Int)) ∨ (tag0 > (9 : Int))) rfl (fun h2 => ?_) (fun h2 => ?_)
    · replace H := ite_then h2 H
      refine AW2_seq ?_
      refine AW2_reg [0, 1] rfl ?_
      refine r_op rfl rfl (PureD.opD (p_asgn rfl)) ?_
      refine r_op rfl rfl (PureD.opD (p_asg rfl rfl)) ?_
      refine RunW_st [(4, .c (.p .nil)), (5, .c (.p (AV.int (6 : Int))))] [] rfl ⟨TLes.same _, TLes.same _, trivial⟩ trivial ?_
      refine RunW_nil ?_
      refine AW2_ret ?_
      have hz := some_elim H
      subst hz
      exact ⟨⟨res_tmp TLes.nil0, res_tmp (.same _), trivial⟩, trivial⟩
    · replace H := ite_else h2 H
      refine AW2_st [(0, .c (.p (AV.int tag0))), (1, .c (.p (AV.lists parts1)))] [] rfl ⟨TLes.same _, TLes.same _, trivial⟩ trivial ?_
      refine AW2_skip ?_
      refine AW2_seq ?_
      refine AW2_seq ?_
      refine AW2_reg [0, 1, 2] rfl ?_
      refine r_op rfl rfl (PureD.opD (p_move rfl rfl)) ?_
      refine r_op rfl rfl (PureD.opD (p_lenl rfl Tryd.underlying44 rfl rfl)) ?_
      refine r_op rfl rfl (PureD.opD (p_bin rfl rfl rfl rfl)) ?_
      refine RunW_st [(0, .c (.p (AV.int tag0))), (1, .c (.p (AV.lists parts1))), (17, .c (.p (.bool (decide ((parts1.length : Int) > (8 : Int))))))] [] rfl ⟨TLes.same _, TLes.same _, TLes.same _, trivial⟩ trivial ?_
      refine RunW_nil ?_
      refine AW2_if (p := (parts1.length : Int) > (8 : Int)) rfl (fun h3 => ?_) (fun h3 => ?_)
      · replace H := ite_then h3 H
        refine AW2_seq ?_
        refine AW2_reg [0, 1] rfl ?_
        refine r_op rfl rfl (PureD.opD (p_asgn rfl)) ?_
        refine r_op rfl rfl (PureD.opD (p_asg rfl rfl)) ?_
        refine RunW_st [(4, .c (.p .nil)), (5, .c (.p (AV.int (1 : Int))))] [] rfl ⟨TLes.same _, TLes.same _, trivial⟩ trivial ?_
        refine RunW_nil ?_
        refine AW2_ret ?_
        have hz := some_elim H
        subst hz
        exact ⟨⟨res_tmp TLes.nil0, res_tmp (.same _), trivial⟩, trivial⟩
      · replace H := ite_else h3 H
        refine AW2_st [(0, .c (.p (AV.int tag0))), (1, .c (.p (AV.lists parts1)))] [] rfl ⟨TLes.same _, TLes.same _, trivial⟩ trivial ?_
        refine AW2_skip ?_
        refine AW2_seq ?_
        refine AW2_reg [0] rfl ?_
        refine r_op rfl rfl (PureD.opD (p_asg rfl rfl)) ?_
        refine RunW_st [(0, .c (.p (AV.int tag0))), (1, .c (.p (AV.lists parts1))), (6, .c (.p (AV.int (2 : Int))))] [] rfl ⟨TLes.same _, TLes.same _, TLes.same _, trivial⟩ trivial ?_
        refine RunW_nil ?_
        refine AW2_seq ?_
        refine AW2_seq ?_
        refine AW2_reg [0, 1, 2] rfl ?_
        refine r_op rfl rfl (PureD.opD (p_move rfl rfl)) ?_
        refine r_op rfl rfl (PureD.opD (p_lenl rfl Tryd.underlying44 rfl rfl)) ?_
        refine r_op rfl rfl (PureD.opD (p_move rfl rfl)) ?_
        refine RunW_st [(0, .c (.p (AV.int tag0))), (1, .c (.p (AV.lists parts1))), (6, .c (.p (AV.int (2 : Int)))), (18, .c (.p (AV.lists parts1))), (19, .c (.p (AV.int (parts1.length : Int)))), (20, .c (.p (AV.int (0 : Int))))] [] rfl ⟨TLes.same _, TLes.same _, TLes.same _, TLes.same _, TLes.same _, TLes.same _, trivial⟩ trivial ?_
        refine RunW_nil ?_
        refine AW2_block ?_
        refine AW2_st [(0, .c (.p (AV.int tag0))), (1, .c (.p (AV.lists parts1))), (6, .c (.p (AV.int (2 : Int)))), (18, .c (.p (AV.lists parts1))), (19, .c (.p (AV.int (parts1.length : Int)))), (20, .c (.p (AV.int (0 : Int))))] [] rfl ⟨TLes.same _, TLes.same _, TLes.same _, TLes.same _, TLes.same _, TLes.same _, trivial⟩ trivial ?_
        refine bindK H fun o'5 h7 H => ?_
        refine AW2_loopO (fun a'2 : Int × Int => (⟨[(0, .c (.p (AV.int tag0))), (1, .c (.p (AV.lists parts1))), (6, .c (.p (AV.int a'2.1))), (18, .c (.p (AV.lists parts1))), (19, .c (.p (AV.int (parts1.length : Int)))), (20, .c (.p (AV.int a'2.2)))], [], 38⟩ : TS)) (fun (o : ((List UInt8) × Int) ⊕ Int) e s' => match o with | .inl y'3 => e = Go.Exit.ret ∧ ResAll Tryd.prog s' [ResultVar.tmp 4, ResultVar.tmp 5] [.c (.p (AV.bytes y'3.1)), .c (.p (AV.int y'3.2))] ∧ HFits s' [] | .inr (y'4) => e = Go.Exit.exit 0 ∧ s' = (⟨[(0, .c (.p (AV.int tag0))), (1, .c (.p (AV.lists parts1))), (6, .c (.p (AV.int y'4)))], [], 38⟩ : TS)) h7 rfl (fun a x hx => ?_) (fun e s' hs => ?_)
        · clear H
          obtain ⟨all6_0, t20_0⟩ := a
          have H := hx
          clear hx
          unfold g_oracle_Frame_l0 at H
          refine AW2_seq ?_
          refine AW2_reg [0] rfl ?_
          refine r_op rfl rfl (PureD.opD (p_bin rfl rfl rfl rfl)) ?_
          refine RunW_st [(0, .c (.p (AV.int tag0))), (1, .c (.p (AV.lists parts1))), (6, .c (.p (AV.int all6_0))), (18, .c (.p (AV.lists parts1))), (19, .c (.p (AV.int (parts1.length : Int)))), (20, .c (.p (AV.int t20_0))), (21, .c (.p (.bool (decide (t20_0 < (parts1.length : Int))))))] [] rfl ⟨TLes.same _, TLes.same _, TLes.same _, TLes.same _, TLes.same _, TLes.same _, TLes.same _, trivial⟩ trivial ?_
          refine RunW_nil ?_
          refine AW2_seq ?_
          refine AW2_if (p := t20_0 < (parts1.length : Int)) rfl (fun h4 => ?_) (fun h4 => ?_)
          · replace H := ite_then h4 H
            refine AW2_st [(0, .c (.p (AV.int tag0))), (1, .c (.p (AV.lists parts1))), (6, .c (.p (AV.int all6_0))), (18, .c (.p (AV.lists parts1))), (19, .c (.p (AV.int (parts1.length : Int)))), (20, .c (.p (AV.int t20_0)))] [] rfl ⟨TLes.same _, TLes.same _, TLes.same _, TLes.same _, TLes.same _, TLes.same _, trivial⟩ trivial ?_
            refine AW2_skip ?_
            refine AW2_seq ?_
            refine AW2_block ?_
            refine AW2_seq ?_
            refine AW2_reg [0, 1, 2] rfl ?_
            refine chkK H fun h5 H => ?_
            refine r_op rfl rfl (PureD.opD (u_ixl rfl rfl Tryd.underlying44 in_22 rfl rfl (ixe h5) (ixn h5) (lne (ixn h5)))) ?_
            refine r_op rfl rfl (PureD.opD (u_ld rfl rfl Tryd.underlying22 rfl rfl (Sub.map default (ixn h5)))) ?_
            refine r_op rfl rfl (PureD.opD (p_asg rfl rfl)) ?_
            refine RunW_st [(0, .c (.p (AV.int tag0))), (1, .c (.p (AV.lists parts1))), (6, .c (.p (AV.int all6_0))), (8, .c (.p (AV.bytes (lrd parts1 t20_0.toNat)))), (18, .c (.p (AV.lists parts1))), (19, .c (.p (AV.int (parts1.length : Int)))), (20, .c (.p (AV.int t20_0)))] [] rfl ⟨TLes.same _, TLes.same _, TLes.same _, TLes.same _, TLes.same _, TLes.same _, TLes.same _, trivial⟩ trivial ?_
            refine RunW_nil ?_
            refine AW2_seq ?_
            refine AW2_seq ?_
            refine AW2_reg [0, 1, 2] rfl ?_
            refine r_op rfl rfl (PureD.opD (p_move rfl rfl)) ?_
            refine r_op rfl rfl (PureD.opD (p_lenl rfl Tryd.underlying22 rfl rfl)) ?_
            refine r_op rfl rfl (PureD.opD (p_bin rfl rfl rfl rfl)) ?_
            refine RunW_st [(0, .c (.p (AV.int tag0))), (1, .c (.p (AV.lists parts1))), (6, .c (.p (AV.int all6_0))), (8, .c (.p (AV.bytes (lrd parts1 t20_0.toNat)))), (18, .c (.p (AV.lists parts1))), (19, .c (.p (AV.int (parts1.length : Int)))), (20, .c (.p (AV.int t20_0))), (26, .c (.p (.bool (decide (((lrd parts1 t20_0.toNat).length : Int) > (16777216 : Int))))))] [] rfl ⟨TLes.same _, TLes.same _, TLes.same _, TLes.same _, TLes.same _, TLes.same _, TLes.same _, TLes.same _, trivial⟩ trivial ?_
            refine RunW_nil ?_
            refine AW2_if (p := ((lrd parts1 t20_0.toNat).length : Int) > (16777216 : Int)) rfl (fun h6 => ?_) (fun h6 => ?_)
            · replace H := ite_then h6 H
              refine AW2_seq ?_
              refine AW2_reg [0, 1] rfl ?_
              refine r_op rfl rfl (PureD.opD (p_asgn rfl)) ?_
              refine r_op rfl rfl (PureD.opD (p_asg rfl rfl)) ?_
              refine RunW_st [(4, .c (.p .nil)), (5, .c (.p (AV.int (1 : Int))))] [] rfl ⟨TLes.same _, TLes.same _, trivial⟩ trivial ?_
              refine RunW_nil ?_
              refine AW2_ret ?_
              have hz := some_elim H
              subst hz
              exact ⟨rfl, ⟨res_tmp TLes.nil0, res_tmp (.same _), trivial⟩, trivial⟩
            · replace H := ite_else h6 H
              refine AW2_st [(0, .c (.p (AV.int tag0))), (1, .c (.p (AV.lists parts1))), (6, .c (.p (AV.int all6_0))), (8, .c (.p (AV.bytes (lrd parts1 t20_0.toNat)))), (18, .c (.p (AV.lists parts1))), (19, .c (.p (AV.int (parts1.length : Int)))), (20, .c (.p (AV.int t20_0)))] [] rfl ⟨TLes.same _, TLes.same _, TLes.same _, TLes.same _, TLes.same _, TLes.same _, TLes.same _, trivial⟩ trivial ?_
              refine AW2_skip ?_
              refine AW2_reg [0, 1, 2, 3, 4, 5] rfl ?_
              refine r_op rfl rfl (PureD.opD (p_move rfl rfl)) ?_
              refine r_op rfl rfl (PureD.opD (p_move rfl rfl)) ?_
              refine r_op rfl rfl (PureD.opD (p_lenl rfl Tryd.underlying22 rfl rfl)) ?_
              refine r_op rfl rfl (PureD.opD (p_bin rfl rfl rfl rfl)) ?_
              refine r_op rfl rfl (PureD.opD (p_bin rfl rfl rfl rfl)) ?_
              refine r_op rfl rfl (PureD.opD (p_asg rfl rfl)) ?_
              refine RunW_st [(0, .c (.p (AV.int tag0))), (1, .c (.p (AV.lists parts1))), (6, .c (.p (AV.int (w64 (all6_0 + (w64 ((4 : Int) + ((lrd parts1 t20_0.toNat).length : Int)))))))), (18, .c (.p (AV.lists parts1))), (19, .c (.p (AV.int (parts1.length : Int)))), (20, .c (.p (AV.int t20_0)))] [] rfl ⟨TLes.same _, TLes.same _, TLes.same _, TLes.same _, TLes.same _, TLes.same _, trivial⟩ trivial ?_
              refine RunW_nil ?_
              refine gen1 (fun all6'1 => (⟨[(0, .c (.p (AV.int tag0))), (1, .c (.p (AV.lists parts1))), (6, .c (.p (AV.int all6'1))), (18, .c (.p (AV.lists parts1))), (19, .c (.p (AV.int (parts1.length : Int)))), (20, .c (.p (AV.int t20_0)))], [], 38⟩ : TS)) H ?_
              intro all6'1 H
              refine AW2_reg [0, 1] rfl ?_
              refine r_op rfl rfl (PureD.opD (p_bin rfl rfl rfl rfl)) ?_
              refine r_op rfl rfl (PureD.opD (p_move rfl rfl)) ?_
              refine RunW_st [(0, .c (.p (AV.int tag0))), (1, .c (.p (AV.lists parts1))), (6, .c (.p (AV.int all6'1))), (18, .c (.p (AV.lists parts1))), (19, .c (.p (AV.int (parts1.length : Int)))), (20, .c (.p (AV.int (w64 (t20_0 + (1 : Int))))))] [] rfl ⟨TLes.same _, TLes.same _, TLes.same _, TLes.same _, TLes.same _, TLes.same _, trivial⟩ trivial ?_
              refine RunW_nil ?_
              have hz := some_elim H
              subst hz
              exact ⟨rfl, rfl⟩
          · replace H := ite_else h4 H
            refine AW2_st [(0, .c (.p (AV.int tag0))), (1, .c (.p (AV.lists parts1))), (6, .c (.p (AV.int all6_0)))] [] rfl ⟨TLes.same _, TLes.same _, TLes.same _, trivial⟩ trivial ?_
            refine AW2_exit ?_
            refine thenQ2_exit ?_
            have hz := some_elim H
            subst hz
            exact ⟨rfl, rfl⟩
        · rcases o'5 with y'6 | y'7
          · obtain ⟨rfl, hs⟩ := hs
            refine ⟨by simp, ?_⟩
            have hz := some_elim H
            subst hz
            exact ⟨hs.1, hs.2⟩
          · obtain ⟨rfl, rfl⟩ := hs
            refine ⟨by simp, ?_⟩
            refine blockQ2_exit ?_
            refine AW2_seq ?_
            refine AW2_seq ?_
            refine AW2_reg [0, 1] rfl ?_
            refine r_op rfl rfl (PureD.opD (p_move rfl rfl)) ?_
            refine r_op rfl rfl (PureD.opD (p_bin rfl rfl rfl rfl)) ?_
            refine RunW_st [(0, .c (.p (AV.int tag0))), (1, .c (.p (AV.lists parts1))), (34, .c (.p (.bool (decide (y'7 > (16777216 : Int))))))] [] rfl ⟨TLes.same _, TLes.same _, TLes.same _, trivial⟩ trivial ?_
            refine RunW_nil ?_
            refine AW2_if (p := y'7 > (16777216 : Int)) rfl (fun h8 => ?_) (fun h8 => ?_)
            · replace H := ite_then h8 H
              refine AW2_seq ?_
              refine AW2_reg [0, 1] rfl ?_
              refine r_op rfl rfl (PureD.opD (p_asgn rfl)) ?_
              refine r_op rfl rfl (PureD.opD (p_asg rfl rfl)) ?_
              refine RunW_st [(4, .c (.p .nil)), (5, .c (.p (AV.int (1 : Int))))] [] rfl ⟨TLes.same _, TLes.same _, trivial⟩ trivial ?_
              refine RunW_nil ?_
              refine AW2_ret ?_
              have hz := some_elim H
              subst hz
              exact ⟨⟨res_tmp TLes.nil0, res_tmp (.same _), trivial⟩, trivial⟩
            · replace H := ite_else h8 H
              refine AW2_st [(0, .c (.p (AV.int tag0))), (1, .c (.p (AV.lists parts1)))] [] rfl ⟨TLes.same _, TLes.same _, trivial⟩ trivial ?_
              refine AW2_skip ?_
              refine AW2_seq ?_
              refine AW2_reg [0, 1, 2, 3, 4] rfl ?_
              refine r_op rfl rfl (PureD.opD (p_move rfl rfl)) ?_
              refine r_op rfl rfl (PureD.opD (p_move rfl rfl)) ?_
              refine bindK H fun r'8 h9 H => ?_
              refine r_op rfl rfl (PureD.opD (p_callp rfl rfl rfl Tryd.func42 rfl rfl (g_oracle_frame_ac h9) ⟨rfl, rfl, trivial⟩)) ?_
              refine r_op rfl rfl (PureD.opD (p_asg rfl rfl)) ?_
              refine r_op rfl rfl (PureD.opD (p_asg rfl rfl)) ?_
              refine RunW_st [(4, .c (.p (AV.bytes r'8))), (5, .c (.p (AV.int (0 : Int))))] [] rfl ⟨TLes.same _, TLes.same _, trivial⟩ trivial ?_
              refine RunW_nil ?_
              refine AW2_ret ?_
              have hz := some_elim H
              subst hz
              exact ⟨⟨res_tmp (.same _), res_tmp (.same _), trivial⟩, trivial⟩
end Go.Proofs.YtoepdjccgngpdaaDoor.VM
