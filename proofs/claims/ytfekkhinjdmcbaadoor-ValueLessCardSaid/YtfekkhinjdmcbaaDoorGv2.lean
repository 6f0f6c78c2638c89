/- Functions of the program, as they answer, and that their code comes to these answers. -/
import Derived.Test.YtfekkhinjdmcbaaDoorGv1
namespace Go.Proofs.YtfekkhinjdmcbaaDoor.VM
open Go Go.RowKit



/-! chirographref.Order -/
noncomputable def g_ref_Order (a0 : GValue) (b1 : GValue) : Option (Int) :=
  (if a0.Kind ≠ b1.Kind then (g_ref_sign (w64 (a0.Kind - b1.Kind))).bind fun r'1 => some r'1 else (if a0.Kind = (3 : Int) then (g_ref_risen a0.Bits).bind fun r'2 => (g_ref_risen b1.Bits).bind fun r'3 => (g_ref_bitsOrder r'2 r'3).bind fun r'4 => some r'4 else (if a0.Kind = (4 : Int) then (g_ref_bytesOrder a0.Text b1.Text).bind fun r'5 => some r'5 else (g_ref_bitsOrder ((UInt64.ofInt a0.Int_) + (9223372036854775808 : UInt64)) ((UInt64.ofInt b1.Int_) + (9223372036854775808 : UInt64))).bind fun r'6 => some r'6)))
set_option maxHeartbeats 4000000 in
set_option maxRecDepth 100000 in
theorem g_ref_Order_ac {a0 : GValue} {b1 : GValue} {r : Int} (H : g_ref_Order a0 b1 = some r) : ACp Tryd.prog 45 [(.agg (GValue.cs a0)), (.agg (GValue.cs b1))] (AV.int r) := by
  refine ACp_of (AC2_of_body (vs := [.i r]) Tryd.func45 rfl rfl (Nat.le_of_ble_eq_true rfl) rfl ?_) (fun _ => .same _)
  unfold g_ref_Order at H
  refine as2 [(0, .g (GValue.cs a0)), (1, .g (GValue.cs b1))] [] rfl rfl rfl ?_
  refine sg [0, 1, 2] rfl ?_
  refine r_op rfl rfl (MakeD.opD (n_box 2 rfl rfl) rfl rfl rfl rfl) ?_
  refine r_op rfl rfl (MakeD.opD (n_box 3 rfl rfl) rfl rfl rfl rfl) ?_
  refine rp rfl rfl (p_asg rfl rfl) ?_
  refine rz [(2, .q 2 (0)), (3, .q 3 (0))] [(2, .pure (GValue.cs a0)), (3, .pure (GValue.cs b1))] rfl rfl rfl ?_
  refine AW2_seq ?_
  refine sg [0, 1, 2, 3, 4] rfl ?_
  refine rp rfl rfl (u_fa rfl rfl Tryd.underlying24 rfl in_3 (Nat.succ_ne_zero _) rfl rfl (ne_of_lt (n := 0) (Nat.lt_of_lt_of_eq (by decide) (Eq.symm (GValue.len a0))))) ?_
  refine rp rfl rfl (u_ld rfl rfl Tryd.underlying3 rfl rfl ((Sub.refl _).trans (GValue.sub0 a0))) ?_
  refine rp rfl rfl (u_fa rfl rfl Tryd.underlying24 rfl in_3 (Nat.succ_ne_zero _) rfl rfl (ne_of_lt (n := 0) (Nat.lt_of_lt_of_eq (by decide) (Eq.symm (GValue.len b1))))) ?_
  refine rp rfl rfl (u_ld rfl rfl Tryd.underlying3 rfl rfl ((Sub.refl _).trans (GValue.sub0 b1))) ?_
  refine rp rfl rfl (p_ine rfl rfl rfl) ?_
  refine rz [(2, .q 2 (0)), (3, .q 3 (0)), (9, .b (decide (a0.Kind ≠ b1.Kind)))] [(2, .pure (GValue.cs a0)), (3, .pure (GValue.cs b1))] rfl rfl rfl ?_
  refine AW2_if (p := a0.Kind ≠ b1.Kind) rfl (fun h1 => ?_) (fun h1 => ?_)
  · replace H := ite_then h1 H
    refine sg [0, 1, 2, 3, 4, 5, 6] rfl ?_
    refine rp rfl rfl (u_fa rfl rfl Tryd.underlying24 rfl in_3 (Nat.succ_ne_zero _) rfl rfl (ne_of_lt (n := 0) (Nat.lt_of_lt_of_eq (by decide) (Eq.symm (GValue.len a0))))) ?_
    refine rp rfl rfl (u_ld rfl rfl Tryd.underlying3 rfl rfl ((Sub.refl _).trans (GValue.sub0 a0))) ?_
    refine rp rfl rfl (u_fa rfl rfl Tryd.underlying24 rfl in_3 (Nat.succ_ne_zero _) rfl rfl (ne_of_lt (n := 0) (Nat.lt_of_lt_of_eq (by decide) (Eq.symm (GValue.len b1))))) ?_
    refine rp rfl rfl (u_ld rfl rfl Tryd.underlying3 rfl rfl ((Sub.refl _).trans (GValue.sub0 b1))) ?_
    refine rp rfl rfl (p_bin rfl rfl rfl rfl) ?_
    refine bindK H fun r'1 h2 H => ?_
    refine rp rfl rfl (p_callp rfl rfl rfl Tryd.func67 rfl rfl (g_ref_sign_ac h2) ⟨rfl, trivial⟩) ?_
    refine rp rfl rfl (p_asg rfl rfl) ?_
    refine rz [(4, .i r'1)] [] rfl rfl rfl ?_
    refine AW2_ret ?_
    have hz := some_elim H
    subst hz
    exact ⟨⟨res_tmp (.same _), trivial⟩, trivial⟩
  · replace H := ite_else h1 H
    refine as2 [(2, .q 2 (0)), (3, .q 3 (0))] [(2, .pure (GValue.cs a0)), (3, .pure (GValue.cs b1))] rfl rfl rfl ?_
    refine AW2_skip ?_
    refine AW2_seq ?_
    refine sg [0, 1] rfl ?_
    refine rp rfl rfl (u_fa rfl rfl Tryd.underlying24 rfl in_3 (Nat.succ_ne_zero _) rfl rfl (ne_of_lt (n := 0) (Nat.lt_of_lt_of_eq (by decide) (Eq.symm (GValue.len a0))))) ?_
    refine rp rfl rfl (u_ld rfl rfl Tryd.underlying3 rfl rfl ((Sub.refl _).trans (GValue.sub0 a0))) ?_
    refine rz [(2, .q 2 (0)), (3, .q 3 (0)), (17, .i a0.Kind)] [(2, .pure (GValue.cs a0)), (3, .pure (GValue.cs b1))] rfl rfl rfl ?_
    refine AW2_block ?_
    refine sg [0, 1] rfl ?_
    refine rp rfl rfl (p_ieq rfl rfl rfl) ?_
    refine rp rfl rfl (p_asg rfl rfl) ?_
    refine rz [(2, .q 2 (0)), (3, .q 3 (0)), (17, .i a0.Kind), (18, .b (decide (a0.Kind = (3 : Int))))] [(2, .pure (GValue.cs a0)), (3, .pure (GValue.cs b1))] rfl rfl rfl ?_
    refine AW2_if (p := a0.Kind = (3 : Int)) rfl (fun h3 => ?_) (fun h3 => ?_)
    · replace H := ite_then h3 H
      refine AW2_seq ?_
      refine bindK H fun r'2 h4 H => ?_
      refine bindK H fun r'3 h5 H => ?_
      refine bindK H fun r'4 h6 H => ?_
      refine AW2_ghoQ ?_
      refine AW2_draw 5 [5, 6, 7] (fun k => ([.q 2 (0 + 2), .p (AV.u64 a0.Bits), .p (AV.u64 r'2), .q 3 (0 + 2), .p (AV.u64 b1.Bits)] : List TV).getD k TV.any) (fun k => ([[(2, none)], [(20, some 0)], [(21, some 1)], [(3, none)], [(23, some 3)]] : List (List (Nat × Option Nat))).getD k []) [(22, some 2), (24, some 4)] [] (fun k => ([[], [0], [0, 1], [], [3], [0, 1, 2, 3, 4], [0, 1, 2, 3, 4, 5], [0, 1, 2, 3, 4, 5, 6]] : List (List Nat)).getD k []) mixed (by kernel_rfl) rfl rfl (a_op (g_x rfl (x_p rfl (u_fa rfl rfl Tryd.underlying24 rfl in_22 (Nat.succ_ne_zero _) rfl rfl (ne_of_lt (n := 0) (Nat.lt_of_lt_of_eq (by decide) (Eq.symm (GValue.len a0))))) rfl)) (a_op (g_x rfl (x_p rfl (u_ld rfl rfl Tryd.underlying22 rfl rfl ((Sub.refl _).trans (GValue.sub2 a0))) rfl)) (a_op (g_x rfl (x_p rfl (p_callp rfl rfl rfl Tryd.func69 rfl rfl (g_ref_risen_ac h4) ⟨rfl, trivial⟩) rfl)) (a_op (g_x rfl (x_p rfl (u_fa rfl rfl Tryd.underlying24 rfl in_22 (Nat.succ_ne_zero _) rfl rfl (ne_of_lt (n := 0) (Nat.lt_of_lt_of_eq (by decide) (Eq.symm (GValue.len b1))))) rfl)) (a_op (g_x rfl (x_p rfl (u_ld rfl rfl Tryd.underlying22 rfl rfl ((Sub.refl _).trans (GValue.sub2 b1))) rfl)) (a_nil)))))) ?_
      refine t_op rfl rfl (PureD.opD (p_callp rfl rfl rfl Tryd.func69 rfl rfl (g_ref_risen_ac h5) ⟨rfl, trivial⟩)) ?_
      refine t_op rfl rfl (PureD.opD (p_callp rfl rfl rfl Tryd.func68 rfl rfl (g_ref_bitsOrder_ac h6) ⟨rfl, rfl, trivial⟩)) ?_
      refine t_op rfl rfl (PureD.opD (p_asg rfl rfl)) ?_
      refine t_gho (Gho_st (L := [(4, .i r'4)]) (H := []) rfl ⟨TLes.same _, trivial⟩ trivial) ?_
      refine AW2_ret ?_
      have hz := some_elim H
      subst hz
      exact ⟨⟨res_tmp (.same _), trivial⟩, trivial⟩
    · replace H := ite_else h3 H
      refine sg [0, 1] rfl ?_
      refine rp rfl rfl (p_ieq rfl rfl rfl) ?_
      refine rp rfl rfl (p_asg rfl rfl) ?_
      refine rz [(2, .q 2 (0)), (3, .q 3 (0)), (27, .b (decide (a0.Kind = (4 : Int))))] [(2, .pure (GValue.cs a0)), (3, .pure (GValue.cs b1))] rfl rfl rfl ?_
      refine AW2_if (p := a0.Kind = (4 : Int)) rfl (fun h7 => ?_) (fun h7 => ?_)
      · replace H := ite_then h7 H
        refine sg [0, 1, 2, 3, 4, 5] rfl ?_
        refine rp rfl rfl (u_fa rfl rfl Tryd.underlying24 rfl in_9 (Nat.succ_ne_zero _) rfl rfl (ne_of_lt (n := 0) (Nat.lt_of_lt_of_eq (by decide) (Eq.symm (GValue.len a0))))) ?_
        refine rp rfl rfl (u_ld rfl rfl Tryd.underlying9 rfl rfl ((Sub.refl _).trans (GValue.sub3 a0))) ?_
        refine rp rfl rfl (u_fa rfl rfl Tryd.underlying24 rfl in_9 (Nat.succ_ne_zero _) rfl rfl (ne_of_lt (n := 0) (Nat.lt_of_lt_of_eq (by decide) (Eq.symm (GValue.len b1))))) ?_
        refine rp rfl rfl (u_ld rfl rfl Tryd.underlying9 rfl rfl ((Sub.refl _).trans (GValue.sub3 b1))) ?_
        refine bindK H fun r'5 h8 H => ?_
        refine rp rfl rfl (p_callp rfl rfl rfl Tryd.func70 rfl rfl (g_ref_bytesOrder_ac h8) ⟨rfl, rfl, trivial⟩) ?_
        refine rp rfl rfl (p_asg rfl rfl) ?_
        refine rz [(4, .i r'5)] [] rfl rfl rfl ?_
        refine AW2_ret ?_
        have hz := some_elim H
        subst hz
        exact ⟨⟨res_tmp (.same _), trivial⟩, trivial⟩
      · replace H := ite_else h7 H
        refine as2 [(2, .q 2 (0)), (3, .q 3 (0))] [(2, .pure (GValue.cs a0)), (3, .pure (GValue.cs b1))] rfl rfl rfl ?_
        refine AW2_skip ?_
        refine sg [0, 1, 2, 3, 4, 5, 6, 7, 8, 9] rfl ?_
        refine rp rfl rfl (u_fa rfl rfl Tryd.underlying24 rfl in_3 (Nat.succ_ne_zero _) rfl rfl (ne_of_lt (n := 0) (Nat.lt_of_lt_of_eq (by decide) (Eq.symm (GValue.len a0))))) ?_
        refine rp rfl rfl (u_ld rfl rfl Tryd.underlying3 rfl rfl ((Sub.refl _).trans (GValue.sub1 a0))) ?_
        refine rp rfl rfl (p_i_u64 rfl Tryd.underlying3 Tryd.underlying22 rfl) ?_
        refine rp rfl rfl (p_u64add (a := UInt64.ofInt a0.Int_) (b := (9223372036854775808 : UInt64)) rfl rfl rfl) ?_
        refine rp rfl rfl (u_fa rfl rfl Tryd.underlying24 rfl in_3 (Nat.succ_ne_zero _) rfl rfl (ne_of_lt (n := 0) (Nat.lt_of_lt_of_eq (by decide) (Eq.symm (GValue.len b1))))) ?_
        refine rp rfl rfl (u_ld rfl rfl Tryd.underlying3 rfl rfl ((Sub.refl _).trans (GValue.sub1 b1))) ?_
        refine rp rfl rfl (p_i_u64 rfl Tryd.underlying3 Tryd.underlying22 rfl) ?_
        refine rp rfl rfl (p_u64add (a := UInt64.ofInt b1.Int_) (b := (9223372036854775808 : UInt64)) rfl rfl rfl) ?_
        refine bindK H fun r'6 h9 H => ?_
        refine rp rfl rfl (p_callp rfl rfl rfl Tryd.func68 rfl rfl (g_ref_bitsOrder_ac h9) ⟨rfl, rfl, trivial⟩) ?_
        refine rp rfl rfl (p_asg rfl rfl) ?_
        refine rz [(4, .i r'6)] [] rfl rfl rfl ?_
        refine AW2_ret ?_
        have hz := some_elim H
        subst hz
        exact ⟨⟨res_tmp (.same _), trivial⟩, trivial⟩

/-! chirographref.Compared -/
noncomputable def g_ref_Compared (a0 : GValue) (b1 : GValue) : Option (Int × Int) :=
  (g_ref_faults ([a0, b1] : List GValue)).bind fun r'1 => (if r'1 ≠ (0 : Int) then some ((0 : Int), r'1) else (g_ref_Order a0 b1).bind fun r'2 => some (r'2, (0 : Int)))
set_option maxHeartbeats 4000000 in
set_option maxRecDepth 100000 in
theorem g_ref_Compared_ac {a0 : GValue} {b1 : GValue} {r : Int × Int} (H : g_ref_Compared a0 b1 = some r) : ACp Tryd.prog 17 [(.agg (GValue.cs a0)), (.agg (GValue.cs b1))] (.tup [(AV.int r.1), (AV.int r.2)]) := by
  refine ACp_of (AC2_of_body (vs := [.i r.1, .i r.2]) Tryd.func17 rfl rfl (Nat.le_of_ble_eq_true rfl) rfl ?_) (fun _ => .same _)
  unfold g_ref_Compared at H
  refine as2 [(0, .g (GValue.cs a0)), (1, .g (GValue.cs b1))] [] rfl rfl rfl ?_
  refine sg [0, 1, 2, 3] rfl ?_
  refine r_op rfl rfl (MakeD.opD (n_box 2 rfl rfl) rfl rfl rfl rfl) ?_
  refine r_op rfl rfl (MakeD.opD (n_box 3 rfl rfl) rfl rfl rfl rfl) ?_
  refine rp rfl rfl (p_asg rfl rfl) ?_
  refine rp rfl rfl (p_asg rfl rfl) ?_
  refine rz [(2, .q 2 (0)), (3, .q 3 (0))] [(2, .pure (GValue.cs a0)), (3, .pure (GValue.cs b1))] rfl rfl rfl ?_
  refine AW2_seq ?_
  refine sg [0, 1, 2, 3, 4] rfl ?_
  refine rp rfl rfl (u_lda rfl rfl Tryd.underlying24 rfl in_24 rfl (Nat.succ_pos _) (Sub.refl _) (GValue.len a0)) ?_
  refine rp rfl rfl (u_lda rfl rfl Tryd.underlying24 rfl in_24 rfl (Nat.succ_pos _) (Sub.refl _) (GValue.len b1)) ?_
  refine r_op rfl rfl (MakeD.opD (u_bs 9 rfl Tryd.underlying32 in_24 rfl one_24 (by decide) (by decide) zc_24 rfl (af_lit (g := GValue.cs) (fun x => (GValue.len x)) (GValue.len GValue.zero) [a0, b1])) rfl rfl rfl rfl) ?_
  refine bindK H fun r'1 h1 H => ?_
  refine rp rfl rfl (p_calll rfl rfl rfl Tryd.func44 rfl rfl (g_ref_faults_ac h1) rfl ⟨lend_o rfl rfl rfl (fm_length (fun x => (GValue.len x)) ([a0, b1] : List GValue)) (by decide), trivial⟩) ?_
  refine rp rfl rfl (p_asg rfl rfl) ?_
  refine rz [(2, .q 2 (0)), (3, .q 3 (0)), (6, .i r'1)] [(2, .pure (GValue.cs a0)), (3, .pure (GValue.cs b1))] rfl rfl rfl ?_
  refine sg [0, 1] rfl ?_
  refine rp rfl rfl (p_move rfl rfl) ?_
  refine rp rfl rfl (p_ine rfl rfl rfl) ?_
  refine rz [(2, .q 2 (0)), (3, .q 3 (0)), (6, .i r'1), (12, .b (decide (r'1 ≠ (0 : Int))))] [(2, .pure (GValue.cs a0)), (3, .pure (GValue.cs b1))] rfl rfl rfl ?_
  refine AW2_if (p := r'1 ≠ (0 : Int)) rfl (fun h2 => ?_) (fun h2 => ?_)
  · replace H := ite_then h2 H
    refine sg [0, 1, 2] rfl ?_
    refine rp rfl rfl (p_move rfl rfl) ?_
    refine rp rfl rfl (p_asg rfl rfl) ?_
    refine rp rfl rfl (p_asg rfl rfl) ?_
    refine rz [(4, .i (0 : Int)), (5, .i r'1)] [] rfl rfl rfl ?_
    refine AW2_ret ?_
    have hz := some_elim H
    subst hz
    exact ⟨⟨res_tmp (.same _), res_tmp (.same _), trivial⟩, trivial⟩
  · replace H := ite_else h2 H
    refine as2 [(2, .q 2 (0)), (3, .q 3 (0))] [(2, .pure (GValue.cs a0)), (3, .pure (GValue.cs b1))] rfl rfl rfl ?_
    refine AW2_skip ?_
    refine sg [0, 1, 2, 3, 4] rfl ?_
    refine rp rfl rfl (u_lda rfl rfl Tryd.underlying24 rfl in_24 rfl (Nat.succ_pos _) (Sub.refl _) (GValue.len a0)) ?_
    refine rp rfl rfl (u_lda rfl rfl Tryd.underlying24 rfl in_24 rfl (Nat.succ_pos _) (Sub.refl _) (GValue.len b1)) ?_
    refine bindK H fun r'2 h3 H => ?_
    refine rp rfl rfl (p_callp rfl rfl rfl Tryd.func45 rfl rfl (g_ref_Order_ac h3) ⟨rfl, rfl, trivial⟩) ?_
    refine rp rfl rfl (p_asg rfl rfl) ?_
    refine rp rfl rfl (p_asg rfl rfl) ?_
    refine rz [(4, .i r'2), (5, .i (0 : Int))] [] rfl rfl rfl ?_
    refine AW2_ret ?_
    have hz := some_elim H
    subst hz
    exact ⟨⟨res_tmp (.same _), res_tmp (.same _), trivial⟩, trivial⟩

/-! chirographlaw.ValueCompares -/
noncomputable def g_law_ValueCompares (v0 : GValue) (w1 : GValue) : Option (Bool) :=
  (g_value_Compare v0 w1).bind fun r'1 => (g_ref_Compared v0 w1).bind fun r'2 => some (decide ((r'1.2 = r'2.2) ∧ (r'1.1 = r'2.1)))
set_option maxHeartbeats 4000000 in
set_option maxRecDepth 100000 in
theorem g_law_ValueCompares_ac {v0 : GValue} {w1 : GValue} {r : Bool} (H : g_law_ValueCompares v0 w1 = some r) : ACp Tryd.prog 4 [(.agg (GValue.cs v0)), (.agg (GValue.cs w1))] (AV.bool r) := by
  refine ACp_of (AC2_of_body (vs := [.b r]) Tryd.func4 rfl rfl (Nat.le_of_ble_eq_true rfl) rfl ?_) (fun _ => .same _)
  unfold g_law_ValueCompares at H
  refine as2 [(0, .g (GValue.cs v0)), (1, .g (GValue.cs w1))] [] rfl rfl rfl ?_
  refine sg [0, 1, 2] rfl ?_
  refine r_op rfl rfl (MakeD.opD (n_box 2 rfl rfl) rfl rfl rfl rfl) ?_
  refine r_op rfl rfl (MakeD.opD (n_box 3 rfl rfl) rfl rfl rfl rfl) ?_
  refine rp rfl rfl (p_asg rfl rfl) ?_
  refine rz [(2, .q 2 (0)), (3, .q 3 (0))] [(2, .pure (GValue.cs v0)), (3, .pure (GValue.cs w1))] rfl rfl rfl ?_
  refine sg [0, 1, 2, 3, 4, 5, 6, 7] rfl ?_
  refine rp rfl rfl (u_lda rfl rfl Tryd.underlying24 rfl in_24 rfl (Nat.succ_pos _) (Sub.refl _) (GValue.len v0)) ?_
  refine rp rfl rfl (u_lda rfl rfl Tryd.underlying24 rfl in_24 rfl (Nat.succ_pos _) (Sub.refl _) (GValue.len w1)) ?_
  refine bindK H fun r'1 h1 H => ?_
  refine rp rfl rfl (p_callp rfl rfl rfl Tryd.func16 rfl rfl (g_value_Compare_ac h1) ⟨rfl, rfl, trivial⟩) ?_
  refine rp rfl rfl (p_move rfl rfl) ?_
  refine rp rfl rfl (p_ext rfl rfl rfl rfl) ?_
  refine rp rfl rfl (p_ext rfl rfl rfl rfl) ?_
  refine rp rfl rfl (p_asg rfl rfl) ?_
  refine rp rfl rfl (p_asg rfl rfl) ?_
  refine rz [(2, .q 2 (0)), (3, .q 3 (0)), (5, .i r'1.1), (6, .i r'1.2)] [(2, .pure (GValue.cs v0)), (3, .pure (GValue.cs w1))] rfl rfl rfl ?_
  refine sg [0, 1, 2, 3, 4, 5, 6, 7] rfl ?_
  refine rp rfl rfl (u_lda rfl rfl Tryd.underlying24 rfl in_24 rfl (Nat.succ_pos _) (Sub.refl _) (GValue.len v0)) ?_
  refine rp rfl rfl (u_lda rfl rfl Tryd.underlying24 rfl in_24 rfl (Nat.succ_pos _) (Sub.refl _) (GValue.len w1)) ?_
  refine bindK H fun r'2 h2 H => ?_
  refine rp rfl rfl (p_callp rfl rfl rfl Tryd.func17 rfl rfl (g_ref_Compared_ac h2) ⟨rfl, rfl, trivial⟩) ?_
  refine rp rfl rfl (p_move rfl rfl) ?_
  refine rp rfl rfl (p_ext rfl rfl rfl rfl) ?_
  refine rp rfl rfl (p_ext rfl rfl rfl rfl) ?_
  refine rp rfl rfl (p_asg rfl rfl) ?_
  refine rp rfl rfl (p_asg rfl rfl) ?_
  refine rz [(5, .i r'1.1), (6, .i r'1.2), (7, .i r'2.1), (8, .i r'2.2)] [] rfl rfl rfl ?_
  refine AW2_seq ?_
  refine AW2_mid (⟨[(4, .b (decide ((r'1.2 = r'2.2) ∧ (r'1.1 = r'2.1))))], [], 29⟩ : TS) ?_ ?_
  · refine AW2_reg [0, 1, 2, 3, 4, 5, 6, 7, 8] rfl ?_
    refine rp rfl rfl (p_move rfl rfl) ?_
    refine rp rfl rfl (p_move rfl rfl) ?_
    refine rp rfl rfl (p_ieq rfl rfl rfl) ?_
    refine rp rfl rfl (p_move rfl rfl) ?_
    refine (Classical.em (r'1.2 = r'2.2)).elim (fun h3 => ?_) (fun h3 => ?_)
    · refine r_on rfl rfl rfl rfl (decide_eq_true (p := r'1.2 = r'2.2) h3) rfl (PureD.opD (p_move rfl rfl)) ?_
      refine r_on rfl rfl rfl rfl (decide_eq_true (p := r'1.2 = r'2.2) h3) rfl (PureD.opD (p_move rfl rfl)) ?_
      refine r_on rfl rfl rfl rfl (decide_eq_true (p := r'1.2 = r'2.2) h3) rfl (PureD.opD (p_ieq rfl rfl rfl)) ?_
      refine rp rfl rfl (p_pkt rfl rfl (decide_eq_true (p := r'1.2 = r'2.2) h3) (tb ((and_l (p := r'1.2 = r'2.2) (q := r'1.1 = r'2.1) h3)))) ?_
      refine rp rfl rfl (p_asg rfl rfl) ?_
      refine rs [(4, .b (decide ((r'1.2 = r'2.2) ∧ (r'1.1 = r'2.1))))] [] rfl rfl rfl ?_
      exact RunW_nil rfl
    · refine r_off rfl rfl rfl rfl (decide_eq_false (p := r'1.2 = r'2.2) h3) rfl rfl ?_
      refine r_off rfl rfl rfl rfl (decide_eq_false (p := r'1.2 = r'2.2) h3) rfl rfl ?_
      refine r_off rfl rfl rfl rfl (decide_eq_false (p := r'1.2 = r'2.2) h3) rfl rfl ?_
      refine rp rfl rfl (p_pkf rfl rfl (decide_eq_false (p := r'1.2 = r'2.2) h3) (tb (decide_eq_false (p := (r'1.2 = r'2.2) ∧ (r'1.1 = r'2.1)) (fun x => h3 x.1)).symm)) ?_
      refine rp rfl rfl (p_asg rfl rfl) ?_
      refine rs [(4, .b (decide ((r'1.2 = r'2.2) ∧ (r'1.1 = r'2.1))))] [] rfl rfl rfl ?_
      exact RunW_nil rfl
  · refine AW2_ret ?_
    have hz := some_elim H
    subst hz
    exact ⟨⟨res_tmp (.same _), trivial⟩, trivial⟩

/-! value.Equal$1 -/
noncomputable def g_value_Equal_1 (c0 : Int) : Option (Bool) :=
  some (decide (c0 = (0 : Int)))
set_option maxHeartbeats 4000000 in
set_option maxRecDepth 100000 in
theorem g_value_Equal_1_ac {c0 : Int} {r : Bool} (H : g_value_Equal_1 c0 = some r) : ACp Tryd.prog 47 [(AV.int c0)] (AV.bool r) := by
  refine ACp_of (AC2_of_body (vs := [.b r]) Tryd.func47 rfl rfl (Nat.le_of_ble_eq_true rfl) rfl ?_) (fun _ => .same _)
  unfold g_value_Equal_1 at H
  refine as2 [(0, .i c0)] [] rfl rfl rfl ?_
  refine sg [0] rfl ?_
  refine rp rfl rfl (p_asg rfl rfl) ?_
  refine rz [(0, .i c0)] [] rfl rfl rfl ?_
  refine sg [0, 1, 2] rfl ?_
  refine rp rfl rfl (p_move rfl rfl) ?_
  refine rp rfl rfl (p_ieq rfl rfl rfl) ?_
  refine rp rfl rfl (p_asg rfl rfl) ?_
  refine rz [(2, .b (decide (c0 = (0 : Int))))] [] rfl rfl rfl ?_
  refine AW2_ret ?_
  have hz := some_elim H
  subst hz
  exact ⟨⟨res_tmp (.same _), trivial⟩, trivial⟩

/-! value.asked -/
noncomputable def g_value_asked_i0 (a0 : GValue) (b1 : GValue) : Option (Int × Int) :=
  (g_value_both a0 b1).bind fun r'1 => (if r'1 ≠ (0 : Int) then some ((0 : Int), r'1) else (if (a0.Kind = (0 : Int)) ∨ (b1.Kind = (0 : Int)) then some ((1 : Int), (0 : Int)) else (if a0.Kind ≠ b1.Kind then some ((0 : Int), (2 : Int)) else (g_value_order a0 b1).bind fun r'2 => (g_value_Equal_1 r'2).bind fun r'3 => (if r'3 = true then some ((2 : Int), (0 : Int)) else some ((0 : Int), (0 : Int))))))
set_option maxHeartbeats 4000000 in
set_option maxRecDepth 100000 in
theorem g_value_asked_i0_ac {a0 : GValue} {b1 : GValue} {r : Int × Int} (H : g_value_asked_i0 a0 b1 = some r) : ACp Tryd.prog 46 [(.agg (GValue.cs a0)), (.agg (GValue.cs b1)), .clo 47 []] (.tup [(AV.int r.1), (AV.int r.2)]) := by
  refine ACp_of (AC2_of_body (vs := [.i r.1, .i r.2]) Tryd.func46 rfl rfl (Nat.le_of_ble_eq_true rfl) rfl ?_) (fun _ => .same _)
  unfold g_value_asked_i0 at H
  refine AW2_st [(0, .g (GValue.cs a0)), (1, .g (GValue.cs b1)), (2, .clo 47 [])] [] rfl ⟨TLes.same _, TLes.same _, (fun _ => .same _), trivial⟩ trivial ?_
  refine sg [0, 1, 2, 3] rfl ?_
  refine r_op rfl rfl (MakeD.opD (n_box 3 rfl rfl) rfl rfl rfl rfl) ?_
  refine r_op rfl rfl (MakeD.opD (n_box 4 rfl rfl) rfl rfl rfl rfl) ?_
  refine rp rfl rfl (p_asg rfl rfl) ?_
  refine rp rfl rfl (p_asg rfl rfl) ?_
  refine RunW_st [(2, .clo 47 []), (3, .q 3 (0)), (4, .q 4 (0))] [(3, .pure (GValue.cs a0)), (4, .pure (GValue.cs b1))] rfl ⟨(fun _ => .same _), TLes.same _, TLes.same _, trivial⟩ ⟨rfl, rfl, trivial⟩ ?_
  refine RunW_nil ?_
  refine AW2_seq ?_
  refine sg [0, 1, 2, 3] rfl ?_
  refine rp rfl rfl (u_lda rfl rfl Tryd.underlying24 rfl in_24 rfl (Nat.succ_pos _) (Sub.refl _) (GValue.len a0)) ?_
  refine rp rfl rfl (u_lda rfl rfl Tryd.underlying24 rfl in_24 rfl (Nat.succ_pos _) (Sub.refl _) (GValue.len b1)) ?_
  refine bindK H fun r'1 h1 H => ?_
  refine rp rfl rfl (p_callp rfl rfl rfl Tryd.func42 rfl rfl (g_value_both_ac h1) ⟨rfl, rfl, trivial⟩) ?_
  refine rp rfl rfl (p_asg rfl rfl) ?_
  refine RunW_st [(2, .clo 47 []), (3, .q 3 (0)), (4, .q 4 (0)), (8, .i r'1)] [(3, .pure (GValue.cs a0)), (4, .pure (GValue.cs b1))] rfl ⟨(fun _ => .same _), TLes.same _, TLes.same _, TLes.same _, trivial⟩ ⟨rfl, rfl, trivial⟩ ?_
  refine RunW_nil ?_
  refine sg [0, 1] rfl ?_
  refine rp rfl rfl (p_move rfl rfl) ?_
  refine rp rfl rfl (p_ine rfl rfl rfl) ?_
  refine RunW_st [(2, .clo 47 []), (3, .q 3 (0)), (4, .q 4 (0)), (8, .i r'1), (13, .b (decide (r'1 ≠ (0 : Int))))] [(3, .pure (GValue.cs a0)), (4, .pure (GValue.cs b1))] rfl ⟨(fun _ => .same _), TLes.same _, TLes.same _, TLes.same _, TLes.same _, trivial⟩ ⟨rfl, rfl, trivial⟩ ?_
  refine RunW_nil ?_
  refine AW2_if (p := r'1 ≠ (0 : Int)) rfl (fun h2 => ?_) (fun h2 => ?_)
  · replace H := ite_then h2 H
    refine sg [0, 1, 2] rfl ?_
    refine rp rfl rfl (p_move rfl rfl) ?_
    refine rp rfl rfl (p_asg rfl rfl) ?_
    refine rp rfl rfl (p_asg rfl rfl) ?_
    refine rz [(6, .i (0 : Int)), (7, .i r'1)] [] rfl rfl rfl ?_
    refine AW2_ret ?_
    have hz := some_elim H
    subst hz
    exact ⟨⟨res_tmp (.same _), res_tmp (.same _), trivial⟩, trivial⟩
  · replace H := ite_else h2 H
    refine AW2_st [(2, .clo 47 []), (3, .q 3 (0)), (4, .q 4 (0))] [(3, .pure (GValue.cs a0)), (4, .pure (GValue.cs b1))] rfl ⟨(fun _ => .same _), TLes.same _, TLes.same _, trivial⟩ ⟨rfl, rfl, trivial⟩ ?_
    refine AW2_skip ?_
    refine AW2_seq ?_
    refine AW2_seq ?_
    refine AW2_mid (⟨[(2, .clo 47 []), (3, .q 3 (0)), (4, .q 4 (0)), (22, .b (decide ((a0.Kind = (0 : Int)) ∨ (b1.Kind = (0 : Int)))))], [(3, .pure (GValue.cs a0)), (4, .pure (GValue.cs b1))], 33⟩ : TS) ?_ ?_
    · refine AW2_reg [0, 1, 2, 3, 4, 5, 6, 7] rfl ?_
      refine rp rfl rfl (u_fa rfl rfl Tryd.underlying24 rfl in_3 (Nat.succ_ne_zero _) rfl rfl (ne_of_lt (n := 0) (Nat.lt_of_lt_of_eq (by decide) (Eq.symm (GValue.len a0))))) ?_
      refine rp rfl rfl (u_ld rfl rfl Tryd.underlying3 rfl rfl ((Sub.refl _).trans (GValue.sub0 a0))) ?_
      refine rp rfl rfl (p_ieq rfl rfl rfl) ?_
      refine rp rfl rfl (p_move rfl rfl) ?_
      refine (Classical.em (a0.Kind = (0 : Int))).elim (fun h3 => ?_) (fun h3 => ?_)
      · refine r_off rfl rfl rfl rfl (decide_eq_true (p := a0.Kind = (0 : Int)) h3) rfl rfl ?_
        refine r_off rfl rfl rfl rfl (decide_eq_true (p := a0.Kind = (0 : Int)) h3) rfl rfl ?_
        refine r_off rfl rfl rfl rfl (decide_eq_true (p := a0.Kind = (0 : Int)) h3) rfl rfl ?_
        refine rp rfl rfl (p_pkt rfl rfl (decide_eq_true (p := a0.Kind = (0 : Int)) h3) (tb (decide_eq_true (p := (a0.Kind = (0 : Int)) ∨ (b1.Kind = (0 : Int))) (Or.inl h3)).symm)) ?_
        refine RunW_st [(2, .clo 47 []), (3, .q 3 (0)), (4, .q 4 (0)), (22, .b (decide ((a0.Kind = (0 : Int)) ∨ (b1.Kind = (0 : Int)))))] [(3, .pure (GValue.cs a0)), (4, .pure (GValue.cs b1))] rfl ⟨(fun _ => .same _), TLes.same _, TLes.same _, TLes.same _, trivial⟩ ⟨rfl, rfl, trivial⟩ ?_
        exact RunW_nil rfl
      · refine r_on rfl rfl rfl rfl (decide_eq_false (p := a0.Kind = (0 : Int)) h3) rfl (PureD.opD (u_fa rfl rfl Tryd.underlying24 rfl in_3 (Nat.succ_ne_zero _) rfl rfl (ne_of_lt (n := 0) (Nat.lt_of_lt_of_eq (by decide) (Eq.symm (GValue.len b1)))))) ?_
        refine r_on rfl rfl rfl rfl (decide_eq_false (p := a0.Kind = (0 : Int)) h3) rfl (PureD.opD (u_ld rfl rfl Tryd.underlying3 rfl rfl ((Sub.refl _).trans (GValue.sub0 b1)))) ?_
        refine r_on rfl rfl rfl rfl (decide_eq_false (p := a0.Kind = (0 : Int)) h3) rfl (PureD.opD (p_ieq rfl rfl rfl)) ?_
        refine rp rfl rfl (p_pkf rfl rfl (decide_eq_false (p := a0.Kind = (0 : Int)) h3) (tb ((or_l (p := a0.Kind = (0 : Int)) (q := b1.Kind = (0 : Int)) h3)))) ?_
        refine RunW_st [(2, .clo 47 []), (3, .q 3 (0)), (4, .q 4 (0)), (22, .b (decide ((a0.Kind = (0 : Int)) ∨ (b1.Kind = (0 : Int)))))] [(3, .pure (GValue.cs a0)), (4, .pure (GValue.cs b1))] rfl ⟨(fun _ => .same _), TLes.same _, TLes.same _, TLes.same _, trivial⟩ ⟨rfl, rfl, trivial⟩ ?_
        exact RunW_nil rfl
    · refine AW2_if (p := (a0.Kind = (0 : Int)) ∨ (b1.Kind = (0 : Int))) rfl (fun h4 => ?_) (fun h4 => ?_)
      · replace H := ite_then h4 H
        refine sg [0, 1] rfl ?_
        refine rp rfl rfl (p_asg rfl rfl) ?_
        refine rp rfl rfl (p_asg rfl rfl) ?_
        refine rz [(6, .i (1 : Int)), (7, .i (0 : Int))] [] rfl rfl rfl ?_
        refine AW2_ret ?_
        have hz := some_elim H
        subst hz
        exact ⟨⟨res_tmp (.same _), res_tmp (.same _), trivial⟩, trivial⟩
      · replace H := ite_else h4 H
        refine AW2_st [(2, .clo 47 []), (3, .q 3 (0)), (4, .q 4 (0))] [(3, .pure (GValue.cs a0)), (4, .pure (GValue.cs b1))] rfl ⟨(fun _ => .same _), TLes.same _, TLes.same _, trivial⟩ ⟨rfl, rfl, trivial⟩ ?_
        refine AW2_skip ?_
        refine AW2_seq ?_
        refine sg [0, 1, 2, 3, 4] rfl ?_
        refine rp rfl rfl (u_fa rfl rfl Tryd.underlying24 rfl in_3 (Nat.succ_ne_zero _) rfl rfl (ne_of_lt (n := 0) (Nat.lt_of_lt_of_eq (by decide) (Eq.symm (GValue.len a0))))) ?_
        refine rp rfl rfl (u_ld rfl rfl Tryd.underlying3 rfl rfl ((Sub.refl _).trans (GValue.sub0 a0))) ?_
        refine rp rfl rfl (u_fa rfl rfl Tryd.underlying24 rfl in_3 (Nat.succ_ne_zero _) rfl rfl (ne_of_lt (n := 0) (Nat.lt_of_lt_of_eq (by decide) (Eq.symm (GValue.len b1))))) ?_
        refine rp rfl rfl (u_ld rfl rfl Tryd.underlying3 rfl rfl ((Sub.refl _).trans (GValue.sub0 b1))) ?_
        refine rp rfl rfl (p_ine rfl rfl rfl) ?_
        refine RunW_st [(2, .clo 47 []), (3, .q 3 (0)), (4, .q 4 (0)), (27, .b (decide (a0.Kind ≠ b1.Kind)))] [(3, .pure (GValue.cs a0)), (4, .pure (GValue.cs b1))] rfl ⟨(fun _ => .same _), TLes.same _, TLes.same _, TLes.same _, trivial⟩ ⟨rfl, rfl, trivial⟩ ?_
        refine RunW_nil ?_
        refine AW2_if (p := a0.Kind ≠ b1.Kind) rfl (fun h5 => ?_) (fun h5 => ?_)
        · replace H := ite_then h5 H
          refine sg [0, 1] rfl ?_
          refine rp rfl rfl (p_asg rfl rfl) ?_
          refine rp rfl rfl (p_asg rfl rfl) ?_
          refine rz [(6, .i (0 : Int)), (7, .i (2 : Int))] [] rfl rfl rfl ?_
          refine AW2_ret ?_
          have hz := some_elim H
          subst hz
          exact ⟨⟨res_tmp (.same _), res_tmp (.same _), trivial⟩, trivial⟩
        · replace H := ite_else h5 H
          refine AW2_st [(2, .clo 47 []), (3, .q 3 (0)), (4, .q 4 (0))] [(3, .pure (GValue.cs a0)), (4, .pure (GValue.cs b1))] rfl ⟨(fun _ => .same _), TLes.same _, TLes.same _, trivial⟩ ⟨rfl, rfl, trivial⟩ ?_
          refine AW2_skip ?_
          refine AW2_seq ?_
          refine sg [0, 1, 2, 3, 4] rfl ?_
          refine rp rfl rfl (p_move rfl rfl) ?_
          refine rp rfl rfl (u_lda rfl rfl Tryd.underlying24 rfl in_24 rfl (Nat.succ_pos _) (Sub.refl _) (GValue.len a0)) ?_
          refine rp rfl rfl (u_lda rfl rfl Tryd.underlying24 rfl in_24 rfl (Nat.succ_pos _) (Sub.refl _) (GValue.len b1)) ?_
          refine bindK H fun r'2 h6 H => ?_
          refine rp rfl rfl (p_callp rfl rfl rfl Tryd.func43 rfl rfl (g_value_order_ac h6) ⟨rfl, rfl, trivial⟩) ?_
          refine bindK H fun r'3 h7 H => ?_
          refine rp rfl rfl (p_callp rfl rfl rfl Tryd.func47 rfl rfl (g_value_Equal_1_ac h7) ⟨rfl, trivial⟩) ?_
          refine rz [(32, .b r'3)] [] rfl rfl rfl ?_
          refine AW2_cond rfl (fun h8 => ?_) (fun h8 => ?_)
          · replace H := ite_then h8 H
            refine sg [0, 1] rfl ?_
            refine rp rfl rfl (p_asg rfl rfl) ?_
            refine rp rfl rfl (p_asg rfl rfl) ?_
            refine rz [(6, .i (2 : Int)), (7, .i (0 : Int))] [] rfl rfl rfl ?_
            refine AW2_ret ?_
            have hz := some_elim H
            subst hz
            exact ⟨⟨res_tmp (.same _), res_tmp (.same _), trivial⟩, trivial⟩
          · replace H := ite_else (ne_true h8) H
            refine as2 [] [] rfl rfl rfl ?_
            refine AW2_skip ?_
            refine sg [0, 1] rfl ?_
            refine rp rfl rfl (p_asg rfl rfl) ?_
            refine rp rfl rfl (p_asg rfl rfl) ?_
            refine rz [(6, .i (0 : Int)), (7, .i (0 : Int))] [] rfl rfl rfl ?_
            refine AW2_ret ?_
            have hz := some_elim H
            subst hz
            exact ⟨⟨res_tmp (.same _), res_tmp (.same _), trivial⟩, trivial⟩

/-! value.Equal -/
noncomputable def g_value_Equal (a0 : GValue) (b1 : GValue) : Option (Int × Int) :=
  (g_value_asked_i0 a0 b1).bind fun r'1 => some (r'1.1, r'1.2)
set_option maxHeartbeats 4000000 in
set_option maxRecDepth 100000 in
theorem g_value_Equal_ac {a0 : GValue} {b1 : GValue} {r : Int × Int} (H : g_value_Equal a0 b1 = some r) : ACp Tryd.prog 18 [(.agg (GValue.cs a0)), (.agg (GValue.cs b1))] (.tup [(AV.int r.1), (AV.int r.2)]) := by
  refine ACp_of (AC2_of_body (vs := [.i r.1, .i r.2]) Tryd.func18 rfl rfl (Nat.le_of_ble_eq_true rfl) rfl ?_) (fun _ => .same _)
  unfold g_value_Equal at H
  refine as2 [(0, .g (GValue.cs a0)), (1, .g (GValue.cs b1))] [] rfl rfl rfl ?_
  refine sg [0, 1, 2, 3] rfl ?_
  refine r_op rfl rfl (MakeD.opD (n_box 2 rfl rfl) rfl rfl rfl rfl) ?_
  refine r_op rfl rfl (MakeD.opD (n_box 3 rfl rfl) rfl rfl rfl rfl) ?_
  refine rp rfl rfl (p_asg rfl rfl) ?_
  refine rp rfl rfl (p_asg rfl rfl) ?_
  refine rz [(2, .q 2 (0)), (3, .q 3 (0))] [(2, .pure (GValue.cs a0)), (3, .pure (GValue.cs b1))] rfl rfl rfl ?_
  refine sg [0, 1, 2, 3, 4, 5, 6] rfl ?_
  refine rp rfl rfl (u_lda rfl rfl Tryd.underlying24 rfl in_24 rfl (Nat.succ_pos _) (Sub.refl _) (GValue.len a0)) ?_
  refine rp rfl rfl (u_lda rfl rfl Tryd.underlying24 rfl in_24 rfl (Nat.succ_pos _) (Sub.refl _) (GValue.len b1)) ?_
  refine bindK H fun r'1 h1 H => ?_
  refine rp rfl rfl (p_calll rfl rfl rfl Tryd.func46 rfl rfl (g_value_asked_i0_ac h1) (nlT rfl (nlT rfl rfl)) ⟨lend_p rfl, lend_p rfl, lend_clo rfl rfl trivial, trivial⟩) ?_
  refine rp rfl rfl (p_ext rfl rfl rfl rfl) ?_
  refine rp rfl rfl (p_ext rfl rfl rfl rfl) ?_
  refine rp rfl rfl (p_asg rfl rfl) ?_
  refine rp rfl rfl (p_asg rfl rfl) ?_
  refine rz [(4, .i r'1.1), (5, .i r'1.2)] [] rfl rfl rfl ?_
  refine AW2_ret ?_
  have hz := some_elim H
  subst hz
  exact ⟨⟨res_tmp (.same _), res_tmp (.same _), trivial⟩, trivial⟩

/-! chirographref.Held -/
noncomputable def g_ref_Held (a0 : GValue) (b1 : GValue) (asked2 : Int) : Option (Int × Int) :=
  (g_ref_faults ([a0, b1] : List GValue)).bind fun r'1 => (if r'1 ≠ (0 : Int) then some ((0 : Int), r'1) else (if (a0.Kind = (0 : Int)) ∨ (b1.Kind = (0 : Int)) then some ((1 : Int), (0 : Int)) else (if a0.Kind ≠ b1.Kind then some ((0 : Int), (2 : Int)) else (g_ref_Order a0 b1).bind fun r'2 => (if r'2 = asked2 then some ((2 : Int), (0 : Int)) else some ((0 : Int), (0 : Int))))))
set_option maxHeartbeats 4000000 in
set_option maxRecDepth 100000 in
theorem g_ref_Held_ac {a0 : GValue} {b1 : GValue} {asked2 : Int} {r : Int × Int} (H : g_ref_Held a0 b1 asked2 = some r) : ACp Tryd.prog 19 [(.agg (GValue.cs a0)), (.agg (GValue.cs b1)), (AV.int asked2)] (.tup [(AV.int r.1), (AV.int r.2)]) := by
  refine ACp_of (AC2_of_body (vs := [.i r.1, .i r.2]) Tryd.func19 rfl rfl (Nat.le_of_ble_eq_true rfl) rfl ?_) (fun _ => .same _)
  unfold g_ref_Held at H
  refine as2 [(0, .g (GValue.cs a0)), (1, .g (GValue.cs b1)), (2, .i asked2)] [] rfl rfl rfl ?_
  refine sg [0, 1, 2, 3] rfl ?_
  refine r_op rfl rfl (MakeD.opD (n_box 3 rfl rfl) rfl rfl rfl rfl) ?_
  refine r_op rfl rfl (MakeD.opD (n_box 4 rfl rfl) rfl rfl rfl rfl) ?_
  refine rp rfl rfl (p_asg rfl rfl) ?_
  refine rp rfl rfl (p_asg rfl rfl) ?_
  refine rz [(2, .i asked2), (3, .q 3 (0)), (4, .q 4 (0))] [(3, .pure (GValue.cs a0)), (4, .pure (GValue.cs b1))] rfl rfl rfl ?_
  refine AW2_seq ?_
  refine sg [0, 1, 2, 3, 4] rfl ?_
  refine rp rfl rfl (u_lda rfl rfl Tryd.underlying24 rfl in_24 rfl (Nat.succ_pos _) (Sub.refl _) (GValue.len a0)) ?_
  refine rp rfl rfl (u_lda rfl rfl Tryd.underlying24 rfl in_24 rfl (Nat.succ_pos _) (Sub.refl _) (GValue.len b1)) ?_
  refine r_op rfl rfl (MakeD.opD (u_bs 11 rfl Tryd.underlying32 in_24 rfl one_24 (by decide) (by decide) zc_24 rfl (af_lit (g := GValue.cs) (fun x => (GValue.len x)) (GValue.len GValue.zero) [a0, b1])) rfl rfl rfl rfl) ?_
  refine bindK H fun r'1 h1 H => ?_
  refine rp rfl rfl (p_calll rfl rfl rfl Tryd.func44 rfl rfl (g_ref_faults_ac h1) rfl ⟨lend_o rfl rfl rfl (fm_length (fun x => (GValue.len x)) ([a0, b1] : List GValue)) (by decide), trivial⟩) ?_
  refine rp rfl rfl (p_asg rfl rfl) ?_
  refine rz [(2, .i asked2), (3, .q 3 (0)), (4, .q 4 (0)), (8, .i r'1)] [(3, .pure (GValue.cs a0)), (4, .pure (GValue.cs b1))] rfl rfl rfl ?_
  refine sg [0, 1] rfl ?_
  refine rp rfl rfl (p_move rfl rfl) ?_
  refine rp rfl rfl (p_ine rfl rfl rfl) ?_
  refine rz [(2, .i asked2), (3, .q 3 (0)), (4, .q 4 (0)), (8, .i r'1), (14, .b (decide (r'1 ≠ (0 : Int))))] [(3, .pure (GValue.cs a0)), (4, .pure (GValue.cs b1))] rfl rfl rfl ?_
  refine AW2_if (p := r'1 ≠ (0 : Int)) rfl (fun h2 => ?_) (fun h2 => ?_)
  · replace H := ite_then h2 H
    refine sg [0, 1, 2] rfl ?_
    refine rp rfl rfl (p_move rfl rfl) ?_
    refine rp rfl rfl (p_asg rfl rfl) ?_
    refine rp rfl rfl (p_asg rfl rfl) ?_
    refine rz [(6, .i (0 : Int)), (7, .i r'1)] [] rfl rfl rfl ?_
    refine AW2_ret ?_
    have hz := some_elim H
    subst hz
    exact ⟨⟨res_tmp (.same _), res_tmp (.same _), trivial⟩, trivial⟩
  · replace H := ite_else h2 H
    refine as2 [(2, .i asked2), (3, .q 3 (0)), (4, .q 4 (0))] [(3, .pure (GValue.cs a0)), (4, .pure (GValue.cs b1))] rfl rfl rfl ?_
    refine AW2_skip ?_
    refine AW2_seq ?_
    refine AW2_seq ?_
    refine AW2_mid (⟨[(2, .i asked2), (3, .q 3 (0)), (4, .q 4 (0)), (23, .b (decide ((a0.Kind = (0 : Int)) ∨ (b1.Kind = (0 : Int)))))], [(3, .pure (GValue.cs a0)), (4, .pure (GValue.cs b1))], 34⟩ : TS) ?_ ?_
    · refine AW2_reg [0, 1, 2, 3, 4, 5, 6, 7] rfl ?_
      refine rp rfl rfl (u_fa rfl rfl Tryd.underlying24 rfl in_3 (Nat.succ_ne_zero _) rfl rfl (ne_of_lt (n := 0) (Nat.lt_of_lt_of_eq (by decide) (Eq.symm (GValue.len a0))))) ?_
      refine rp rfl rfl (u_ld rfl rfl Tryd.underlying3 rfl rfl ((Sub.refl _).trans (GValue.sub0 a0))) ?_
      refine rp rfl rfl (p_ieq rfl rfl rfl) ?_
      refine rp rfl rfl (p_move rfl rfl) ?_
      refine (Classical.em (a0.Kind = (0 : Int))).elim (fun h3 => ?_) (fun h3 => ?_)
      · refine r_off rfl rfl rfl rfl (decide_eq_true (p := a0.Kind = (0 : Int)) h3) rfl rfl ?_
        refine r_off rfl rfl rfl rfl (decide_eq_true (p := a0.Kind = (0 : Int)) h3) rfl rfl ?_
        refine r_off rfl rfl rfl rfl (decide_eq_true (p := a0.Kind = (0 : Int)) h3) rfl rfl ?_
        refine rp rfl rfl (p_pkt rfl rfl (decide_eq_true (p := a0.Kind = (0 : Int)) h3) (tb (decide_eq_true (p := (a0.Kind = (0 : Int)) ∨ (b1.Kind = (0 : Int))) (Or.inl h3)).symm)) ?_
        refine rs [(2, .i asked2), (3, .q 3 (0)), (4, .q 4 (0)), (23, .b (decide ((a0.Kind = (0 : Int)) ∨ (b1.Kind = (0 : Int)))))] [(3, .pure (GValue.cs a0)), (4, .pure (GValue.cs b1))] rfl rfl rfl ?_
        exact RunW_nil rfl
      · refine r_on rfl rfl rfl rfl (decide_eq_false (p := a0.Kind = (0 : Int)) h3) rfl (PureD.opD (u_fa rfl rfl Tryd.underlying24 rfl in_3 (Nat.succ_ne_zero _) rfl rfl (ne_of_lt (n := 0) (Nat.lt_of_lt_of_eq (by decide) (Eq.symm (GValue.len b1)))))) ?_
        refine r_on rfl rfl rfl rfl (decide_eq_false (p := a0.Kind = (0 : Int)) h3) rfl (PureD.opD (u_ld rfl rfl Tryd.underlying3 rfl rfl ((Sub.refl _).trans (GValue.sub0 b1)))) ?_
        refine r_on rfl rfl rfl rfl (decide_eq_false (p := a0.Kind = (0 : Int)) h3) rfl (PureD.opD (p_ieq rfl rfl rfl)) ?_
        refine rp rfl rfl (p_pkf rfl rfl (decide_eq_false (p := a0.Kind = (0 : Int)) h3) (tb ((or_l (p := a0.Kind = (0 : Int)) (q := b1.Kind = (0 : Int)) h3)))) ?_
        refine rs [(2, .i asked2), (3, .q 3 (0)), (4, .q 4 (0)), (23, .b (decide ((a0.Kind = (0 : Int)) ∨ (b1.Kind = (0 : Int)))))] [(3, .pure (GValue.cs a0)), (4, .pure (GValue.cs b1))] rfl rfl rfl ?_
        exact RunW_nil rfl
    · refine AW2_if (p := (a0.Kind = (0 : Int)) ∨ (b1.Kind = (0 : Int))) rfl (fun h4 => ?_) (fun h4 => ?_)
      · replace H := ite_then h4 H
        refine sg [0, 1] rfl ?_
        refine rp rfl rfl (p_asg rfl rfl) ?_
        refine rp rfl rfl (p_asg rfl rfl) ?_
        refine rz [(6, .i (1 : Int)), (7, .i (0 : Int))] [] rfl rfl rfl ?_
        refine AW2_ret ?_
        have hz := some_elim H
        subst hz
        exact ⟨⟨res_tmp (.same _), res_tmp (.same _), trivial⟩, trivial⟩
      · replace H := ite_else h4 H
        refine as2 [(2, .i asked2), (3, .q 3 (0)), (4, .q 4 (0))] [(3, .pure (GValue.cs a0)), (4, .pure (GValue.cs b1))] rfl rfl rfl ?_
        refine AW2_skip ?_
        refine AW2_seq ?_
        refine sg [0, 1, 2, 3, 4] rfl ?_
        refine rp rfl rfl (u_fa rfl rfl Tryd.underlying24 rfl in_3 (Nat.succ_ne_zero _) rfl rfl (ne_of_lt (n := 0) (Nat.lt_of_lt_of_eq (by decide) (Eq.symm (GValue.len a0))))) ?_
        refine rp rfl rfl (u_ld rfl rfl Tryd.underlying3 rfl rfl ((Sub.refl _).trans (GValue.sub0 a0))) ?_
        refine rp rfl rfl (u_fa rfl rfl Tryd.underlying24 rfl in_3 (Nat.succ_ne_zero _) rfl rfl (ne_of_lt (n := 0) (Nat.lt_of_lt_of_eq (by decide) (Eq.symm (GValue.len b1))))) ?_
        refine rp rfl rfl (u_ld rfl rfl Tryd.underlying3 rfl rfl ((Sub.refl _).trans (GValue.sub0 b1))) ?_
        refine rp rfl rfl (p_ine rfl rfl rfl) ?_
        refine rz [(2, .i asked2), (3, .q 3 (0)), (4, .q 4 (0)), (28, .b (decide (a0.Kind ≠ b1.Kind)))] [(3, .pure (GValue.cs a0)), (4, .pure (GValue.cs b1))] rfl rfl rfl ?_
        refine AW2_if (p := a0.Kind ≠ b1.Kind) rfl (fun h5 => ?_) (fun h5 => ?_)
        · replace H := ite_then h5 H
          refine sg [0, 1] rfl ?_
          refine rp rfl rfl (p_asg rfl rfl) ?_
          refine rp rfl rfl (p_asg rfl rfl) ?_
          refine rz [(6, .i (0 : Int)), (7, .i (2 : Int))] [] rfl rfl rfl ?_
          refine AW2_ret ?_
          have hz := some_elim H
          subst hz
          exact ⟨⟨res_tmp (.same _), res_tmp (.same _), trivial⟩, trivial⟩
        · replace H := ite_else h5 H
          refine as2 [(2, .i asked2), (3, .q 3 (0)), (4, .q 4 (0))] [(3, .pure (GValue.cs a0)), (4, .pure (GValue.cs b1))] rfl rfl rfl ?_
          refine AW2_skip ?_
          refine AW2_seq ?_
          refine sg [0, 1, 2, 3, 4] rfl ?_
          refine rp rfl rfl (u_lda rfl rfl Tryd.underlying24 rfl in_24 rfl (Nat.succ_pos _) (Sub.refl _) (GValue.len a0)) ?_
          refine rp rfl rfl (u_lda rfl rfl Tryd.underlying24 rfl in_24 rfl (Nat.succ_pos _) (Sub.refl _) (GValue.len b1)) ?_
          refine bindK H fun r'2 h6 H => ?_
          refine rp rfl rfl (p_callp rfl rfl rfl Tryd.func45 rfl rfl (g_ref_Order_ac h6) ⟨rfl, rfl, trivial⟩) ?_
          refine rp rfl rfl (p_move rfl rfl) ?_
          refine rp rfl rfl (p_ieq rfl rfl rfl) ?_
          refine rz [(33, .b (decide (r'2 = asked2)))] [] rfl rfl rfl ?_
          refine AW2_if (p := r'2 = asked2) rfl (fun h7 => ?_) (fun h7 => ?_)
          · replace H := ite_then h7 H
            refine sg [0, 1] rfl ?_
            refine rp rfl rfl (p_asg rfl rfl) ?_
            refine rp rfl rfl (p_asg rfl rfl) ?_
            refine rz [(6, .i (2 : Int)), (7, .i (0 : Int))] [] rfl rfl rfl ?_
            refine AW2_ret ?_
            have hz := some_elim H
            subst hz
            exact ⟨⟨res_tmp (.same _), res_tmp (.same _), trivial⟩, trivial⟩
          · replace H := ite_else h7 H
            refine as2 [] [] rfl rfl rfl ?_
            refine AW2_skip ?_
            refine sg [0, 1] rfl ?_
            refine rp rfl rfl (p_asg rfl rfl) ?_
            refine rp rfl rfl (p_asg rfl rfl) ?_
            refine rz [(6, .i (0 : Int)), (7, .i (0 : Int))] [] rfl rfl rfl ?_
            refine AW2_ret ?_
            have hz := some_elim H
            subst hz
            exact ⟨⟨res_tmp (.same _), res_tmp (.same _), trivial⟩, trivial⟩

/-! chirographlaw.ValueEquals -/
noncomputable def g_law_ValueEquals (v0 : GValue) (w1 : GValue) : Option (Bool) :=
  (g_value_Equal v0 w1).bind fun r'1 => (g_ref_Held v0 w1 (0 : Int)).bind fun r'2 => some (decide ((r'1.2 = r'2.2) ∧ (r'1.1 = r'2.1)))
set_option maxHeartbeats 4000000 in
set_option maxRecDepth 100000 in
theorem g_law_ValueEquals_ac {v0 : GValue} {w1 : GValue} {r : Bool} (H : g_law_ValueEquals v0 w1 = some r) : ACp Tryd.prog 5 [(.agg (GValue.cs v0)), (.agg (GValue.cs w1))] (AV.bool r) := by
  refine ACp_of (AC2_of_body (vs := [.b r]) Tryd.func5 rfl rfl (Nat.le_of_ble_eq_true rfl) rfl ?_) (fun _ => .same _)
  unfold g_law_ValueEquals at H
  refine as2 [(0, .g (GValue.cs v0)), (1, .g (GValue.cs w1))] [] rfl rfl rfl ?_
  refine sg [0, 1, 2] rfl ?_
  refine r_op rfl rfl (MakeD.opD (n_box 2 rfl rfl) rfl rfl rfl rfl) ?_
  refine r_op rfl rfl (MakeD.opD (n_box 3 rfl rfl) rfl rfl rfl rfl) ?_
  refine rp rfl rfl (p_asg rfl rfl) ?_
  refine rz [(2, .q 2 (0)), (3, .q 3 (0))] [(2, .pure (GValue.cs v0)), (3, .pure (GValue.cs w1))] rfl rfl rfl ?_
  refine sg [0, 1, 2, 3, 4, 5, 6, 7] rfl ?_
  refine rp rfl rfl (u_lda rfl rfl Tryd.underlying24 rfl in_24 rfl (Nat.succ_pos _) (Sub.refl _) (GValue.len v0)) ?_
  refine rp rfl rfl (u_lda rfl rfl Tryd.underlying24 rfl in_24 rfl (Nat.succ_pos _) (Sub.refl _) (GValue.len w1)) ?_
  refine bindK H fun r'1 h1 H => ?_
  refine rp rfl rfl (p_callp rfl rfl rfl Tryd.func18 rfl rfl (g_value_Equal_ac h1) ⟨rfl, rfl, trivial⟩) ?_
  refine rp rfl rfl (p_move rfl rfl) ?_
  refine rp rfl rfl (p_ext rfl rfl rfl rfl) ?_
  refine rp rfl rfl (p_ext rfl rfl rfl rfl) ?_
  refine rp rfl rfl (p_asg rfl rfl) ?_
  refine rp rfl rfl (p_asg rfl rfl) ?_
  refine rz [(2, .q 2 (0)), (3, .q 3 (0)), (5, .i r'1.1), (6, .i r'1.2)] [(2, .pure (GValue.cs v0)), (3, .pure (GValue.cs w1))] rfl rfl rfl ?_
  refine sg [0, 1, 2, 3, 4, 5, 6, 7] rfl ?_
  refine rp rfl rfl (u_lda rfl rfl Tryd.underlying24 rfl in_24 rfl (Nat.succ_pos _) (Sub.refl _) (GValue.len v0)) ?_
  refine rp rfl rfl (u_lda rfl rfl Tryd.underlying24 rfl in_24 rfl (Nat.succ_pos _) (Sub.refl _) (GValue.len w1)) ?_
  refine bindK H fun r'2 h2 H => ?_
  refine rp rfl rfl (p_callp rfl rfl rfl Tryd.func19 rfl rfl (g_ref_Held_ac h2) ⟨rfl, rfl, rfl, trivial⟩) ?_
  refine rp rfl rfl (p_move rfl rfl) ?_
  refine rp rfl rfl (p_ext rfl rfl rfl rfl) ?_
  refine rp rfl rfl (p_ext rfl rfl rfl rfl) ?_
  refine rp rfl rfl (p_asg rfl rfl) ?_
  refine rp rfl rfl (p_asg rfl rfl) ?_
  refine rz [(5, .i r'1.1), (6, .i r'1.2), (7, .i r'2.1), (8, .i r'2.2)] [] rfl rfl rfl ?_
  refine AW2_seq ?_
  refine AW2_mid (⟨[(4, .b (decide ((r'1.2 = r'2.2) ∧ (r'1.1 = r'2.1))))], [], 29⟩ : TS) ?_ ?_
  · refine AW2_reg [0, 1, 2, 3, 4, 5, 6, 7, 8] rfl ?_
    refine rp rfl rfl (p_move rfl rfl) ?_
    refine rp rfl rfl (p_move rfl rfl) ?_
    refine rp rfl rfl (p_ieq rfl rfl rfl) ?_
    refine rp rfl rfl (p_move rfl rfl) ?_
    refine (Classical.em (r'1.2 = r'2.2)).elim (fun h3 => ?_) (fun h3 => ?_)
    · refine r_on rfl rfl rfl rfl (decide_eq_true (p := r'1.2 = r'2.2) h3) rfl (PureD.opD (p_move rfl rfl)) ?_
      refine r_on rfl rfl rfl rfl (decide_eq_true (p := r'1.2 = r'2.2) h3) rfl (PureD.opD (p_move rfl rfl)) ?_
      refine r_on rfl rfl rfl rfl (decide_eq_true (p := r'1.2 = r'2.2) h3) rfl (PureD.opD (p_ieq rfl rfl rfl)) ?_
      refine rp rfl rfl (p_pkt rfl rfl (decide_eq_true (p := r'1.2 = r'2.2) h3) (tb ((and_l (p := r'1.2 = r'2.2) (q := r'1.1 = r'2.1) h3)))) ?_
      refine rp rfl rfl (p_asg rfl rfl) ?_
      refine rs [(4, .b (decide ((r'1.2 = r'2.2) ∧ (r'1.1 = r'2.1))))] [] rfl rfl rfl ?_
      exact RunW_nil rfl
    · refine r_off rfl rfl rfl rfl (decide_eq_false (p := r'1.2 = r'2.2) h3) rfl rfl ?_
      refine r_off rfl rfl rfl rfl (decide_eq_false (p := r'1.2 = r'2.2) h3) rfl rfl ?_
      refine r_off rfl rfl rfl rfl (decide_eq_false (p := r'1.2 = r'2.2) h3) rfl rfl ?_
      refine rp rfl rfl (p_pkf rfl rfl (decide_eq_false (p := r'1.2 = r'2.2) h3) (tb (decide_eq_false (p := (r'1.2 = r'2.2) ∧ (r'1.1 = r'2.1)) (fun x => h3 x.1)).symm)) ?_
      refine rp rfl rfl (p_asg rfl rfl) ?_
      refine rs [(4, .b (decide ((r'1.2 = r'2.2) ∧ (r'1.1 = r'2.1))))] [] rfl rfl rfl ?_
      exact RunW_nil rfl
  · refine AW2_ret ?_
    have hz := some_elim H
    subst hz
    exact ⟨⟨res_tmp (.same _), trivial⟩, trivial⟩

/-! value.Less$1 -/
noncomputable def g_value_Less_1 (c0 : Int) : Option (Bool) :=
  some (decide (c0 < (0 : Int)))
set_option maxHeartbeats 4000000 in
set_option maxRecDepth 100000 in
theorem g_value_Less_1_ac {c0 : Int} {r : Bool} (H : g_value_Less_1 c0 = some r) : ACp Tryd.prog 48 [(AV.int c0)] (AV.bool r) := by
  refine ACp_of (AC2_of_body (vs := [.b r]) Tryd.func48 rfl rfl (Nat.le_of_ble_eq_true rfl) rfl ?_) (fun _ => .same _)
  unfold g_value_Less_1 at H
  refine as2 [(0, .i c0)] [] rfl rfl rfl ?_
  refine sg [0] rfl ?_
  refine rp rfl rfl (p_asg rfl rfl) ?_
  refine rz [(0, .i c0)] [] rfl rfl rfl ?_
  refine sg [0, 1, 2] rfl ?_
  refine rp rfl rfl (p_move rfl rfl) ?_
  refine rp rfl rfl (p_bin rfl rfl rfl rfl) ?_
  refine rp rfl rfl (p_asg rfl rfl) ?_
  refine rz [(2, .b (decide (c0 < (0 : Int))))] [] rfl rfl rfl ?_
  refine AW2_ret ?_
  have hz := some_elim H
  subst hz
  exact ⟨⟨res_tmp (.same _), trivial⟩, trivial⟩

/-! value.asked -/
noncomputable def g_value_asked_i1 (a0 : GValue) (b1 : GValue) : Option (Int × Int) :=
  (g_value_both a0 b1).bind fun r'1 => (if r'1 ≠ (0 : Int) then some ((0 : Int), r'1) else (if (a0.Kind = (0 : Int)) ∨ (b1.Kind = (0 : Int)) then some ((1 : Int), (0 : Int)) else (if a0.Kind ≠ b1.Kind then some ((0 : Int), (2 : Int)) else (g_value_order a0 b1).bind fun r'2 => (g_value_Less_1 r'2).bind fun r'3 => (if r'3 = true then some ((2 : Int), (0 : Int)) else some ((0 : Int), (0 : Int))))))
set_option maxHeartbeats 4000000 in
set_option maxRecDepth 100000 in
theorem g_value_asked_i1_ac {a0 : GValue} {b1 : GValue} {r : Int × Int} (H : g_value_asked_i1 a0 b1 = some r) : ACp Tryd.prog 46 [(.agg (GValue.cs a0)), (.agg (GValue.cs b1)), .clo 48 []] (.tup [(AV.int r.1), (AV.int r.2)]) := by
  refine ACp_of (AC2_of_body (vs := [.i r.1, .i r.2]) Tryd.func46 rfl rfl (Nat.le_of_ble_eq_true rfl) rfl ?_) (fun _ => .same _)
  unfold g_value_asked_i1 at H
  refine AW2_st [(0, .g (GValue.cs a0)), (1, .g (GValue.cs b1)), (2, .clo 48 [])] [] rfl ⟨TLes.same _, TLes.same _, (fun _ => .same _), trivial⟩ trivial ?_
  refine sg [0, 1, 2, 3] rfl ?_
  refine r_op rfl rfl (MakeD.opD (n_box 3 rfl rfl) rfl rfl rfl rfl) ?_
  refine r_op rfl rfl (MakeD.opD (n_box 4 rfl rfl) rfl rfl rfl rfl) ?_
  refine rp rfl rfl (p_asg rfl rfl) ?_
  refine rp rfl rfl (p_asg rfl rfl) ?_
  refine RunW_st [(2, .clo 48 []), (3, .q 3 (0)), (4, .q 4 (0))] [(3, .pure (GValue.cs a0)), (4, .pure (GValue.cs b1))] rfl ⟨(fun _ => .same _), TLes.same _, TLes.same _, trivial⟩ ⟨rfl, rfl, trivial⟩ ?_
  refine RunW_nil ?_
  refine AW2_seq ?_
  refine sg [0, 1, 2, 3] rfl ?_
  refine rp rfl rfl (u_lda rfl rfl Tryd.underlying24 rfl in_24 rfl (Nat.succ_pos _) (Sub.refl _) (GValue.len a0)) ?_
  refine rp rfl rfl (u_lda rfl rfl Tryd.underlying24 rfl in_24 rfl (Nat.succ_pos _) (Sub.refl _) (GValue.len b1)) ?_
  refine bindK H fun r'1 h1 H => ?_
  refine rp rfl rfl (p_callp rfl rfl rfl Tryd.func42 rfl rfl (g_value_both_ac h1) ⟨rfl, rfl, trivial⟩) ?_
  refine rp rfl rfl (p_asg rfl rfl) ?_
  refine RunW_st [(2, .clo 48 []), (3, .q 3 (0)), (4, .q 4 (0)), (8, .i r'1)] [(3, .pure (GValue.cs a0)), (4, .pure (GValue.cs b1))] rfl ⟨(fun _ => .same _), TLes.same _, TLes.same _, TLes.same _, trivial⟩ ⟨rfl, rfl, trivial⟩ ?_
  refine RunW_nil ?_
  refine sg [0, 1] rfl ?_
  refine rp rfl rfl (p_move rfl rfl) ?_
  refine rp rfl rfl (p_ine rfl rfl rfl) ?_
  refine RunW_st [(2, .clo 48 []), (3, .q 3 (0)), (4, .q 4 (0)), (8, .i r'1), (13, .b (decide (r'1 ≠ (0 : Int))))] [(3, .pure (GValue.cs a0)), (4, .pure (GValue.cs b1))] rfl ⟨(fun _ => .same _), TLes.same _, TLes.same _, TLes.same _, TLes.same _, trivial⟩ ⟨rfl, rfl, trivial⟩ ?_
  refine RunW_nil ?_
  refine AW2_if (p := r'1 ≠ (0 : Int)) rfl (fun h2 => ?_) (fun h2 => ?_)
  · replace H := ite_then h2 H
    refine sg [0, 1, 2] rfl ?_
    refine rp rfl rfl (p_move rfl rfl) ?_
    refine rp rfl rfl (p_asg rfl rfl) ?_
    refine rp rfl rfl (p_asg rfl rfl) ?_
    refine rz [(6, .i (0 : Int)), (7, .i r'1)] [] rfl rfl rfl ?_
    refine AW2_ret ?_
    have hz := some_elim H
    subst hz
    exact ⟨⟨res_tmp (.same _), res_tmp (.same _), trivial⟩, trivial⟩
  · replace H := ite_else h2 H
    refine AW2_st [(2, .clo 48 []), (3, .q 3 (0)), (4, .q 4 (0))] [(3, .pure (GValue.cs a0)), (4, .pure (GValue.cs b1))] rfl ⟨(fun _ => .same _), TLes.same _, TLes.same _, trivial⟩ ⟨rfl, rfl, trivial⟩ ?_
    refine AW2_skip ?_
    refine AW2_seq ?_
    refine AW2_seq ?_
    refine AW2_mid (⟨[(2, .clo 48 []), (3, .q 3 (0)), (4, .q 4 (0)), (22, .b (decide ((a0.Kind = (0 : Int)) ∨ (b1.Kind = (0 : Int)))))], [(3, .pure (GValue.cs a0)), (4, .pure (GValue.cs b1))], 33⟩ : TS) ?_ ?_
    · refine AW2_reg [0, 1, 2, 3, 4, 5, 6, 7] rfl ?_
      refine rp rfl rfl (u_fa rfl rfl Tryd.underlying24 rfl in_3 (Nat.succ_ne_zero _) rfl rfl (ne_of_lt (n := 0) (Nat.lt_of_lt_of_eq (by decide) (Eq.symm (GValue.len a0))))) ?_
      refine rp rfl rfl (u_ld rfl rfl Tryd.underlying3 rfl rfl ((Sub.refl _).trans (GValue.sub0 a0))) ?_
      refine rp rfl rfl (p_ieq rfl rfl rfl) ?_
      refine rp rfl rfl (p_move rfl rfl) ?_
      refine (Classical.em (a0.Kind = (0 : Int))).elim (fun h3 => ?_) (fun h3 => ?_)
      · refine r_off rfl rfl rfl rfl (decide_eq_true (p := a0.Kind = (0 : Int)) h3) rfl rfl ?_
        refine r_off rfl rfl rfl rfl (decide_eq_true (p := a0.Kind = (0 : Int)) h3) rfl rfl ?_
        refine r_off rfl rfl rfl rfl (decide_eq_true (p := a0.Kind = (0 : Int)) h3) rfl rfl ?_
        refine rp rfl rfl (p_pkt rfl rfl (decide_eq_true (p := a0.Kind = (0 : Int)) h3) (tb (decide_eq_true (p := (a0.Kind = (0 : Int)) ∨ (b1.Kind = (0 : Int))) (Or.inl h3)).symm)) ?_
        refine RunW_st [(2, .clo 48 []), (3, .q 3 (0)), (4, .q 4 (0)), (22, .b (decide ((a0.Kind = (0 : Int)) ∨ (b1.Kind = (0 : Int)))))] [(3, .pure (GValue.cs a0)), (4, .pure (GValue.cs b1))] rfl ⟨(fun _ => .same _), TLes.same _, TLes.same _, TLes.same _, trivial⟩ ⟨rfl, rfl, trivial⟩ ?_
        exact RunW_nil rfl
      · refine r_on rfl rfl rfl rfl (decide_eq_false (p := a0.Kind = (0 : Int)) h3) rfl (PureD.opD (u_fa rfl rfl Tryd.underlying24 rfl in_3 (Nat.succ_ne_zero _) rfl rfl (ne_of_lt (n := 0) (Nat.lt_of_lt_of_eq (by decide) (Eq.symm (GValue.len b1)))))) ?_
        refine r_on rfl rfl rfl rfl (decide_eq_false (p := a0.Kind = (0 : Int)) h3) rfl (PureD.opD (u_ld rfl rfl Tryd.underlying3 rfl rfl ((Sub.refl _).trans (GValue.sub0 b1)))) ?_
        refine r_on rfl rfl rfl rfl (decide_eq_false (p := a0.Kind = (0 : Int)) h3) rfl (PureD.opD (p_ieq rfl rfl rfl)) ?_
        refine rp rfl rfl (p_pkf rfl rfl (decide_eq_false (p := a0.Kind = (0 : Int)) h3) (tb ((or_l (p := a0.Kind = (0 : Int)) (q := b1.Kind = (0 : Int)) h3)))) ?_
        refine RunW_st [(2, .clo 48 []), (3, .q 3 (0)), (4, .q 4 (0)), (22, .b (decide ((a0.Kind = (0 : Int)) ∨ (b1.Kind = (0 : Int)))))] [(3, .pure (GValue.cs a0)), (4, .pure (GValue.cs b1))] rfl ⟨(fun _ => .same _), TLes.same _, TLes.same _, TLes.same _, trivial⟩ ⟨rfl, rfl, trivial⟩ ?_
        exact RunW_nil rfl
    · refine AW2_if (p := (a0.Kind = (0 : Int)) ∨ (b1.Kind = (0 : Int))) rfl (fun h4 => ?_) (fun h4 => ?_)
      · replace H := ite_then h4 H
        refine sg [0, 1] rfl ?_
        refine rp rfl rfl (p_asg rfl rfl) ?_
        refine rp rfl rfl (p_asg rfl rfl) ?_
        refine rz [(6, .i (1 : Int)), (7, .i (0 : Int))] [] rfl rfl rfl ?_
        refine AW2_ret ?_
        have hz := some_elim H
        subst hz
        exact ⟨⟨res_tmp (.same _), res_tmp (.same _), trivial⟩, trivial⟩
      · replace H := ite_else h4 H
        refine AW2_st [(2, .clo 48 []), (3, .q 3 (0)), (4, .q 4 (0))] [(3, .pure (GValue.cs a0)), (4, .pure (GValue.cs b1))] rfl ⟨(fun _ => .same _), TLes.same _, TLes.same _, trivial⟩ ⟨rfl, rfl, trivial⟩ ?_
        refine AW2_skip ?_
        refine AW2_seq ?_
        refine sg [0, 1, 2, 3, 4] rfl ?_
        refine rp rfl rfl (u_fa rfl rfl Tryd.underlying24 rfl in_3 (Nat.succ_ne_zero _) rfl rfl (ne_of_lt (n := 0) (Nat.lt_of_lt_of_eq (by decide) (Eq.symm (GValue.len a0))))) ?_
        refine rp rfl rfl (u_ld rfl rfl Tryd.underlying3 rfl rfl ((Sub.refl _).trans (GValue.sub0 a0))) ?_
        refine rp rfl rfl (u_fa rfl rfl Tryd.underlying24 rfl in_3 (Nat.succ_ne_zero _) rfl rfl (ne_of_lt (n := 0) (Nat.lt_of_lt_of_eq (by decide) (Eq.symm (GValue.len b1))))) ?_
        refine rp rfl rfl (u_ld rfl rfl Tryd.underlying3 rfl rfl ((Sub.refl _).trans (GValue.sub0 b1))) ?_
        refine rp rfl rfl (p_ine rfl rfl rfl) ?_
        refine RunW_st [(2, .clo 48 []), (3, .q 3 (0)), (4, .q 4 (0)), (27, .b (decide (a0.Kind ≠ b1.Kind)))] [(3, .pure (GValue.cs a0)), (4, .pure (GValue.cs b1))] rfl ⟨(fun _ => .same _), TLes.same _, TLes.same _, TLes.same _, trivial⟩ ⟨rfl, rfl, trivial⟩ ?_
        refine RunW_nil ?_
        refine AW2_if (p := a0.Kind ≠ b1.Kind) rfl (fun h5 => ?_) (fun h5 => ?_)
        · replace H := ite_then h5 H
          refine sg [0, 1] rfl ?_
          refine rp rfl rfl (p_asg rfl rfl) ?_
          refine rp rfl rfl (p_asg rfl rfl) ?_
          refine rz [(6, .i (0 : Int)), (7, .i (2 : Int))] [] rfl rfl rfl ?_
          refine AW2_ret ?_
          have hz := some_elim H
          subst hz
          exact ⟨⟨res_tmp (.same _), res_tmp (.same _), trivial⟩, trivial⟩
        · replace H := ite_else h5 H
          refine AW2_st [(2, .clo 48 []), (3, .q 3 (0)), (4, .q 4 (0))] [(3, .pure (GValue.cs a0)), (4, .pure (GValue.cs b1))] rfl ⟨(fun _ => .same _), TLes.same _, TLes.same _, trivial⟩ ⟨rfl, rfl, trivial⟩ ?_
          refine AW2_skip ?_
          refine AW2_seq ?_
          refine sg [0, 1, 2, 3, 4] rfl ?_
          refine rp rfl rfl (p_move rfl rfl) ?_
          refine rp rfl rfl (u_lda rfl rfl Tryd.underlying24 rfl in_24 rfl (Nat.succ_pos _) (Sub.refl _) (GValue.len a0)) ?_
          refine rp rfl rfl (u_lda rfl rfl Tryd.underlying24 rfl in_24 rfl (Nat.succ_pos _) (Sub.refl _) (GValue.len b1)) ?_
          refine bindK H fun r'2 h6 H => ?_
          refine rp rfl rfl (p_callp rfl rfl rfl Tryd.func43 rfl rfl (g_value_order_ac h6) ⟨rfl, rfl, trivial⟩) ?_
          refine bindK H fun r'3 h7 H => ?_
          refine rp rfl rfl (p_callp rfl rfl rfl Tryd.func48 rfl rfl (g_value_Less_1_ac h7) ⟨rfl, trivial⟩) ?_
          refine rz [(32, .b r'3)] [] rfl rfl rfl ?_
          refine AW2_cond rfl (fun h8 => ?_) (fun h8 => ?_)
          · replace H := ite_then h8 H
            refine sg [0, 1] rfl ?_
            refine rp rfl rfl (p_asg rfl rfl) ?_
            refine rp rfl rfl (p_asg rfl rfl) ?_
            refine rz [(6, .i (2 : Int)), (7, .i (0 : Int))] [] rfl rfl rfl ?_
            refine AW2_ret ?_
            have hz := some_elim H
            subst hz
            exact ⟨⟨res_tmp (.same _), res_tmp (.same _), trivial⟩, trivial⟩
          · replace H := ite_else (ne_true h8) H
            refine as2 [] [] rfl rfl rfl ?_
            refine AW2_skip ?_
            refine sg [0, 1] rfl ?_
            refine rp rfl rfl (p_asg rfl rfl) ?_
            refine rp rfl rfl (p_asg rfl rfl) ?_
            refine rz [(6, .i (0 : Int)), (7, .i (0 : Int))] [] rfl rfl rfl ?_
            refine AW2_ret ?_
            have hz := some_elim H
            subst hz
            exact ⟨⟨res_tmp (.same _), res_tmp (.same _), trivial⟩, trivial⟩

/-! value.Less -/
noncomputable def g_value_Less (a0 : GValue) (b1 : GValue) : Option (Int × Int) :=
  (g_value_asked_i1 a0 b1).bind fun r'1 => some (r'1.1, r'1.2)
set_option maxHeartbeats 4000000 in
set_option maxRecDepth 100000 in
theorem g_value_Less_ac {a0 : GValue} {b1 : GValue} {r : Int × Int} (H : g_value_Less a0 b1 = some r) : ACp Tryd.prog 20 [(.agg (GValue.cs a0)), (.agg (GValue.cs b1))] (.tup [(AV.int r.1), (AV.int r.2)]) := by
  refine ACp_of (AC2_of_body (vs := [.i r.1, .i r.2]) Tryd.func20 rfl rfl (Nat.le_of_ble_eq_true rfl) rfl ?_) (fun _ => .same _)
  unfold g_value_Less at H
  refine as2 [(0, .g (GValue.cs a0)), (1, .g (GValue.cs b1))] [] rfl rfl rfl ?_
  refine sg [0, 1, 2, 3] rfl ?_
  refine r_op rfl rfl (MakeD.opD (n_box 2 rfl rfl) rfl rfl rfl rfl) ?_
  refine r_op rfl rfl (MakeD.opD (n_box 3 rfl rfl) rfl rfl rfl rfl) ?_
  refine rp rfl rfl (p_asg rfl rfl) ?_
  refine rp rfl rfl (p_asg rfl rfl) ?_
  refine rz [(2, .q 2 (0)), (3, .q 3 (0))] [(2, .pure (GValue.cs a0)), (3, .pure (GValue.cs b1))] rfl rfl rfl ?_
  refine sg [0, 1, 2, 3, 4, 5, 6] rfl ?_
  refine rp rfl rfl (u_lda rfl rfl Tryd.underlying24 rfl in_24 rfl (Nat.succ_pos _) (Sub.refl _) (GValue.len a0)) ?_
  refine rp rfl rfl (u_lda rfl rfl Tryd.underlying24 rfl in_24 rfl (Nat.succ_pos _) (Sub.refl _) (GValue.len b1)) ?_
  refine bindK H fun r'1 h1 H => ?_
  refine rp rfl rfl (p_calll rfl rfl rfl Tryd.func46 rfl rfl (g_value_asked_i1_ac h1) (nlT rfl (nlT rfl rfl)) ⟨lend_p rfl, lend_p rfl, lend_clo rfl rfl trivial, trivial⟩) ?_
  refine rp rfl rfl (p_ext rfl rfl rfl rfl) ?_
  refine rp rfl rfl (p_ext rfl rfl rfl rfl) ?_
  refine rp rfl rfl (p_asg rfl rfl) ?_
  refine rp rfl rfl (p_asg rfl rfl) ?_
  refine rz [(4, .i r'1.1), (5, .i r'1.2)] [] rfl rfl rfl ?_
  refine AW2_ret ?_
  have hz := some_elim H
  subst hz
  exact ⟨⟨res_tmp (.same _), res_tmp (.same _), trivial⟩, trivial⟩

/-! chirographlaw.ValueLess -/
noncomputable def g_law_ValueLess (v0 : GValue) (w1 : GValue) : Option (Bool) :=
  (g_value_Less v0 w1).bind fun r'1 => (g_ref_Held v0 w1 (-1 : Int)).bind fun r'2 => some (decide ((r'1.2 = r'2.2) ∧ (r'1.1 = r'2.1)))
set_option maxHeartbeats 4000000 in
set_option maxRecDepth 100000 in
theorem g_law_ValueLess_ac {v0 : GValue} {w1 : GValue} {r : Bool} (H : g_law_ValueLess v0 w1 = some r) : ACp Tryd.prog 6 [(.agg (GValue.cs v0)), (.agg (GValue.cs w1))] (AV.bool r) := by
  refine ACp_of (AC2_of_body (vs := [.b r]) Tryd.func6 rfl rfl (Nat.le_of_ble_eq_true rfl) rfl ?_) (fun _ => .same _)
  unfold g_law_ValueLess at H
  refine as2 [(0, .g (GValue.cs v0)), (1, .g (GValue.cs w1))] [] rfl rfl rfl ?_
  refine sg [0, 1, 2] rfl ?_
  refine r_op rfl rfl (MakeD.opD (n_box 2 rfl rfl) rfl rfl rfl rfl) ?_
  refine r_op rfl rfl (MakeD.opD (n_box 3 rfl rfl) rfl rfl rfl rfl) ?_
  refine rp rfl rfl (p_asg rfl rfl) ?_
  refine rz [(2, .q 2 (0)), (3, .q 3 (0))] [(2, .pure (GValue.cs v0)), (3, .pure (GValue.cs w1))] rfl rfl rfl ?_
  refine sg [0, 1, 2, 3, 4, 5, 6, 7] rfl ?_
  refine rp rfl rfl (u_lda rfl rfl Tryd.underlying24 rfl in_24 rfl (Nat.succ_pos _) (Sub.refl _) (GValue.len v0)) ?_
  refine rp rfl rfl (u_lda rfl rfl Tryd.underlying24 rfl in_24 rfl (Nat.succ_pos _) (Sub.refl _) (GValue.len w1)) ?_
  refine bindK H fun r'1 h1 H => ?_
  refine rp rfl rfl (p_callp rfl rfl rfl Tryd.func20 rfl rfl (g_value_Less_ac h1) ⟨rfl, rfl, trivial⟩) ?_
  refine rp rfl rfl (p_move rfl rfl) ?_
  refine rp rfl rfl (p_ext rfl rfl rfl rfl) ?_
  refine rp rfl rfl (p_ext rfl rfl rfl rfl) ?_
  refine rp rfl rfl (p_asg rfl rfl) ?_
  refine rp rfl rfl (p_asg rfl rfl) ?_
  refine rz [(2, .q 2 (0)), (3, .q 3 (0)), (5, .i r'1.1), (6, .i r'1.2)] [(2, .pure (GValue.cs v0)), (3, .pure (GValue.cs w1))] rfl rfl rfl ?_
  refine sg [0, 1, 2, 3, 4, 5, 6, 7] rfl ?_
  refine rp rfl rfl (u_lda rfl rfl Tryd.underlying24 rfl in_24 rfl (Nat.succ_pos _) (Sub.refl _) (GValue.len v0)) ?_
  refine rp rfl rfl (u_lda rfl rfl Tryd.underlying24 rfl in_24 rfl (Nat.succ_pos _) (Sub.refl _) (GValue.len w1)) ?_
  refine bindK H fun r'2 h2 H => ?_
  refine rp rfl rfl (p_callp rfl rfl rfl Tryd.func19 rfl rfl (g_ref_Held_ac h2) ⟨rfl, rfl, rfl, trivial⟩) ?_
  refine rp rfl rfl (p_move rfl rfl) ?_
  refine rp rfl rfl (p_ext rfl rfl rfl rfl) ?_
  refine rp rfl rfl (p_ext rfl rfl rfl rfl) ?_
  refine rp rfl rfl (p_asg rfl rfl) ?_
  refine rp rfl rfl (p_asg rfl rfl) ?_
  refine rz [(5, .i r'1.1), (6, .i r'1.2), (7, .i r'2.1), (8, .i r'2.2)] [] rfl rfl rfl ?_
  refine AW2_seq ?_
  refine AW2_mid (⟨[(4, .b (decide ((r'1.2 = r'2.2) ∧ (r'1.1 = r'2.1))))], [], 29⟩ : TS) ?_ ?_
  · refine AW2_reg [0, 1, 2, 3, 4, 5, 6, 7, 8] rfl ?_
    refine rp rfl rfl (p_move rfl rfl) ?_
    refine rp rfl rfl (p_move rfl rfl) ?_
    refine rp rfl rfl (p_ieq rfl rfl rfl) ?_
    refine rp rfl rfl (p_move rfl rfl) ?_
    refine (Classical.em (r'1.2 = r'2.2)).elim (fun h3 => ?_) (fun h3 => ?_)
    · refine r_on rfl rfl rfl rfl (decide_eq_true (p := r'1.2 = r'2.2) h3) rfl (PureD.opD (p_move rfl rfl)) ?_
      refine r_on rfl rfl rfl rfl (decide_eq_true (p := r'1.2 = r'2.2) h3) rfl (PureD.opD (p_move rfl rfl)) ?_
      refine r_on rfl rfl rfl rfl (decide_eq_true (p := r'1.2 = r'2.2) h3) rfl (PureD.opD (p_ieq rfl rfl rfl)) ?_
      refine rp rfl rfl (p_pkt rfl rfl (decide_eq_true (p := r'1.2 = r'2.2) h3) (tb ((and_l (p := r'1.2 = r'2.2) (q := r'1.1 = r'2.1) h3)))) ?_
      refine rp rfl rfl (p_asg rfl rfl) ?_
      refine rs [(4, .b (decide ((r'1.2 = r'2.2) ∧ (r'1.1 = r'2.1))))] [] rfl rfl rfl ?_
      exact RunW_nil rfl
    · refine r_off rfl rfl rfl rfl (decide_eq_false (p := r'1.2 = r'2.2) h3) rfl rfl ?_
      refine r_off rfl rfl rfl rfl (decide_eq_false (p := r'1.2 = r'2.2) h3) rfl rfl ?_
      refine r_off rfl rfl rfl rfl (decide_eq_false (p := r'1.2 = r'2.2) h3) rfl rfl ?_
      refine rp rfl rfl (p_pkf rfl rfl (decide_eq_false (p := r'1.2 = r'2.2) h3) (tb (decide_eq_false (p := (r'1.2 = r'2.2) ∧ (r'1.1 = r'2.1)) (fun x => h3 x.1)).symm)) ?_
      refine rp rfl rfl (p_asg rfl rfl) ?_
      refine rs [(4, .b (decide ((r'1.2 = r'2.2) ∧ (r'1.1 = r'2.1))))] [] rfl rfl rfl ?_
      exact RunW_nil rfl
  · refine AW2_ret ?_
    have hz := some_elim H
    subst hz
    exact ⟨⟨res_tmp (.same _), trivial⟩, trivial⟩
end Go.Proofs.YtfekkhinjdmcbaaDoor.VM
