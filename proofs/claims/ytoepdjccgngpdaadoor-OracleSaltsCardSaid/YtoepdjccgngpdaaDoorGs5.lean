/- Functions of the program, as they answer, and that their code comes to these answers. -/
import Derived.Test.YtoepdjccgngpdaaDoorGs4
namespace Go.Proofs.YtoepdjccgngpdaaDoor.VM
open Go Go.RowKit

theorem in_9 : Info Tryd.prog 9 1 16 (.string ⟨#[]⟩) := by unfold Info; kernel_rfl
theorem one_9 : (.string ⟨#[]⟩ : Value).cells.all (·.oneCell') = true := by kernel_rfl
theorem zc_9 : ((.string ⟨#[]⟩ : Value).cells.toList.map zcell) = [(AV.txt [])] := by rfl
theorem in_22 : Info Tryd.prog 22 1 24 (.slice none 0 0) := by unfold Info; kernel_rfl
theorem one_22 : (.slice none 0 0 : Value).cells.all (·.oneCell') = true := by kernel_rfl
theorem zc_22 : ((.slice none 0 0 : Value).cells.toList.map zcell) = [(AV.bytes [])] := by rfl

/-! chirographref.Maced$1 -/
noncomputable def g_ref_Maced_1_i0_l0 (c0 : UInt8) (t1 : List UInt8) : Int × (List UInt8) → Option ((Int × (List UInt8)) ⊕ (((List UInt8))))
  | (t10_0, p4_0) => (if t10_0 < (t1.length : Int) then if 0 ≤ t10_0 ∧ t10_0 < (p4_0.length : Int) then if 0 ≤ t10_0 ∧ t10_0 < (p4_0.length : Int) then some (.inl (w64 (t10_0 + (1 : Int)), (p4_0.set t10_0.toNat ((lrd p4_0 t10_0.toNat) ^^^ c0)))) else none else none else some (.inr p4_0))
noncomputable def g_ref_Maced_1_i0 (c0 : UInt8) (t1 : List UInt8) : Option ((List UInt8)) :=
  (loopO (g_ref_Maced_1_i0_l0 c0 t1) ((0 : Int), t1)).bind fun y'4 => some y'4
set_option maxHeartbeats 4000000 in
set_option maxRecDepth 100000 in
theorem g_ref_Maced_1_i0_ac {c0 : UInt8} {t1 : List UInt8} {r : (List UInt8)} (H : g_ref_Maced_1_i0 c0 t1 = some r) : ACp Tryd.prog 41 [(AV.b8 c0), .rptr ([(AV.txt t1)]) 0] (AV.txt r) := by
  refine ACp_of (AC2_of_body (vs := [.c (.p (AV.txt r))]) Tryd.func41 rfl rfl (Nat.le_of_ble_eq_true rfl) rfl ?_) (fun _ => .same _)
  unfold g_ref_Maced_1_i0 at H
  refine AW2_st [(0, .c (.p (AV.b8 c0))), (1, .c (.p (.rptr ([(AV.txt t1)]) (0))))] [] rfl ⟨TLes.same _, TLes.same _, trivial⟩ trivial ?_
  refine AW2_seq ?_
  refine AW2_reg [0] rfl ?_
  refine r_op rfl rfl (PureD.opD (p_asg rfl rfl)) ?_
  refine RunW_st [(0, .c (.p (AV.b8 c0))), (1, .c (.p (.rptr ([(AV.txt t1)]) (0))))] [] rfl ⟨TLes.same _, TLes.same _, trivial⟩ trivial ?_
  refine RunW_nil ?_
  refine AW2_seq ?_
  refine AW2_reg [0, 1, 2] rfl ?_
  refine r_op rfl rfl (PureD.opD (u_ld rfl rfl Tryd.underlying9 rfl rfl (Sub.refl _))) ?_
  refine r_op rfl rfl (MakeD.opD (n_sb 7 rfl Tryd.underlying9 Tryd.underlying22 Tryd.underlying5 rfl) rfl rfl rfl rfl) ?_
  refine r_op rfl rfl (PureD.opD (p_asg rfl rfl)) ?_
  refine RunW_st [(0, .c (.p (AV.b8 c0))), (4, .c (.own 7 t1.length 1))] [(7, .pure (bcells t1))] rfl ⟨TLes.same _, TLes.same _, trivial⟩ ⟨rfl, trivial⟩ ?_
  refine RunW_gho (Gho_ren 7 4 rfl rfl rfl rfl rfl) ?_
  refine RunW_st [(0, .c (.p (AV.b8 c0))), (4, .c (.own 4 t1.length 1))] [(4, .pure (bcells t1))] rfl ⟨TLes.same _, TLes.same _, trivial⟩ ⟨rfl, trivial⟩ ?_
  refine RunW_nil ?_
  refine AW2_seq ?_
  refine AW2_seq ?_
  refine AW2_reg [0, 1, 2] rfl ?_
  refine r_op rfl rfl (PureD.opD (p_move rfl rfl)) ?_
  refine r_op rfl rfl (PureD.opD (p_leno rfl Tryd.underlying22 rfl rfl rfl (bl t1) (by decide))) ?_
  refine r_op rfl rfl (PureD.opD (p_move rfl rfl)) ?_
  refine RunW_st [(0, .c (.p (AV.b8 c0))), (4, .c (.own 4 t1.length 1)), (9, .c (.p (AV.int (t1.length : Int)))), (10, .c (.p (AV.int (0 : Int))))] [(4, .pure (bcells t1))] rfl ⟨TLes.same _, TLes.same _, TLes.same _, TLes.same _, trivial⟩ ⟨rfl, trivial⟩ ?_
  refine RunW_nil ?_
  refine AW2_block ?_
  refine AW2_st [(0, .c (.p (AV.b8 c0))), (4, .c (.own 4 t1.length 1)), (9, .c (.p (AV.int (t1.length : Int)))), (10, .c (.p (AV.int (0 : Int))))] [(4, .pure (bcells t1))] rfl ⟨TLes.same _, TLes.same _, TLes.same _, TLes.same _, trivial⟩ ⟨rfl, trivial⟩ ?_
  refine bindK H fun y'4 h4 H => ?_
  refine AW2_loopO (fun a'1 : Int × (List UInt8) => (⟨[(0, .c (.p (AV.b8 c0))), (4, .c (.own 4 a'1.2.length 1)), (9, .c (.p (AV.int (t1.length : Int)))), (10, .c (.p (AV.int a'1.1)))], [(4, .pure (bcells a'1.2))], 23⟩ : TS)) (fun (y'2 : ((List UInt8))) e s' => e = Go.Exit.exit 0 ∧ s' = (⟨[(4, .c (.own 4 y'2.length 1))], [(4, .pure (bcells y'2))], 23⟩ : TS)) h4 rfl (fun a x hx => ?_) (fun e s' hs => ?_)
  · clear H
    obtain ⟨t10_0, p4_0⟩ := a
    have H := hx
    clear hx
    unfold g_ref_Maced_1_i0_l0 at H
    refine AW2_seq ?_
    refine AW2_reg [0] rfl ?_
    refine r_op rfl rfl (PureD.opD (p_bin rfl rfl rfl rfl)) ?_
    refine RunW_st [(0, .c (.p (AV.b8 c0))), (4, .c (.own 4 p4_0.length 1)), (9, .c (.p (AV.int (t1.length : Int)))), (10, .c (.p (AV.int t10_0))), (11, .c (.p (.bool (decide (t10_0 < (t1.length : Int))))))] [(4, .pure (bcells p4_0))] rfl ⟨TLes.same _, TLes.same _, TLes.same _, TLes.same _, TLes.same _, trivial⟩ ⟨rfl, trivial⟩ ?_
    refine RunW_nil ?_
    refine AW2_seq ?_
    refine AW2_if (p := t10_0 < (t1.length : Int)) rfl (fun h1 => ?_) (fun h1 => ?_)
    · replace H := ite_then h1 H
      refine AW2_st [(0, .c (.p (AV.b8 c0))), (4, .c (.own 4 p4_0.length 1)), (9, .c (.p (AV.int (t1.length : Int)))), (10, .c (.p (AV.int t10_0)))] [(4, .pure (bcells p4_0))] rfl ⟨TLes.same _, TLes.same _, TLes.same _, TLes.same _, trivial⟩ ⟨rfl, trivial⟩ ?_
      refine AW2_skip ?_
      refine AW2_seq ?_
      refine AW2_block ?_
      refine AW2_seq ?_
      refine AW2_reg [0, 1] rfl ?_
      refine r_op rfl rfl (PureD.opD (p_move rfl rfl)) ?_
      refine r_op rfl rfl (PureD.opD (p_asg rfl rfl)) ?_
      refine RunW_st [(0, .c (.p (AV.b8 c0))), (4, .c (.own 4 p4_0.length 1)), (5, .c (.p (AV.int t10_0))), (9, .c (.p (AV.int (t1.length : Int)))), (10, .c (.p (AV.int t10_0)))] [(4, .pure (bcells p4_0))] rfl ⟨TLes.same _, TLes.same _, TLes.same _, TLes.same _, TLes.same _, trivial⟩ ⟨rfl, trivial⟩ ?_
      refine RunW_nil ?_
      refine AW2_reg [0, 1, 2, 3, 4, 5, 6, 7] rfl ?_
      refine r_op rfl rfl (PureD.opD (p_move rfl rfl)) ?_
      refine r_op rfl rfl (PureD.opD (p_move rfl rfl)) ?_
      refine chkK H fun h2 H => ?_
      refine r_op rfl rfl (PureD.opD (u_ixo rfl rfl Tryd.underlying22 in_5 rfl rfl (lne (ixn h2)) rfl (ixe h2) (ixn h2))) ?_
      refine r_op rfl rfl (PureD.opD (u_ld rfl rfl Tryd.underlying5 rfl rfl ((Sub.refl _).trans (Sub.map default (ixn h2))))) ?_
      refine r_op rfl rfl (PureD.opD (p_move rfl rfl)) ?_
      refine r_op rfl rfl (PureD.opD (p_u8xor (a := (lrd p4_0 t10_0.toNat)) (b := c0) rfl rfl rfl)) ?_
      refine chkK H fun h3 H => ?_
      refine r_op rfl rfl (PureD.opD (u_ixo rfl rfl Tryd.underlying22 in_5 rfl rfl (lne (ixn h3)) rfl (ixe h3) (ixn h3))) ?_
      refine r_op rfl rfl (u_st rfl rfl rfl rfl rfl in_5 rfl (lne (ixn h3)) (Upd.trans (Sub.refl _) (Upd.map (ixn h3)) (Upd.refl (by simp [bcells_length])))) ?_
      refine RunW_st [(0, .c (.p (AV.b8 c0))), (4, .c (.own 4 (p4_0.set t10_0.toNat ((lrd p4_0 t10_0.toNat) ^^^ c0)).length 1)), (9, .c (.p (AV.int (t1.length : Int)))), (10, .c (.p (AV.int t10_0)))] [(4, .pure (bcells (p4_0.set t10_0.toNat ((lrd p4_0 t10_0.toNat) ^^^ c0))))] rfl ⟨TLes.same _, TLes.own (by simp only [List.length_set]), TLes.same _, TLes.same _, trivial⟩ ⟨rfl, trivial⟩ ?_
      refine RunW_nil ?_
      refine AW2_reg [0, 1] rfl ?_
      refine r_op rfl rfl (PureD.opD (p_bin rfl rfl rfl rfl)) ?_
      refine r_op rfl rfl (PureD.opD (p_move rfl rfl)) ?_
      refine RunW_st [(0, .c (.p (AV.b8 c0))), (4, .c (.own 4 (p4_0.set t10_0.toNat ((lrd p4_0 t10_0.toNat) ^^^ c0)).length 1)), (9, .c (.p (AV.int (t1.length : Int)))), (10, .c (.p (AV.int (w64 (t10_0 + (1 : Int))))))] [(4, .pure (bcells (p4_0.set t10_0.toNat ((lrd p4_0 t10_0.toNat) ^^^ c0))))] rfl ⟨TLes.same _, TLes.same _, TLes.same _, TLes.same _, trivial⟩ ⟨rfl, trivial⟩ ?_
      refine RunW_nil ?_
      have hz := some_elim H
      subst hz
      exact ⟨rfl, rfl⟩
    · replace H := ite_else h1 H
      refine AW2_st [(4, .c (.own 4 p4_0.length 1))] [(4, .pure (bcells p4_0))] rfl ⟨TLes.same _, trivial⟩ ⟨rfl, trivial⟩ ?_
      refine AW2_exit ?_
      refine thenQ2_exit ?_
      have hz := some_elim H
      subst hz
      exact ⟨rfl, rfl⟩
  · obtain ⟨rfl, rfl⟩ := hs
    refine ⟨by simp, ?_⟩
    refine blockQ2_exit ?_
    refine AW2_seq ?_
    refine AW2_reg [0, 1, 2] rfl ?_
    refine r_op rfl rfl (PureD.opD (p_move rfl rfl)) ?_
    refine r_op rfl rfl (PureD.opD (p_cbo (bs := y'4) rfl rfl Tryd.underlying22 Tryd.underlying5 Tryd.underlying9 rfl rfl)) ?_
    refine r_op rfl rfl (PureD.opD (p_asg rfl rfl)) ?_
    refine RunW_st [(3, .c (.p (AV.txt y'4)))] [] rfl ⟨TLes.same _, trivial⟩ trivial ?_
    refine RunW_nil ?_
    refine AW2_ret ?_
    have hz := some_elim H
    subst hz
    exact ⟨⟨res_tmp (.same _), trivial⟩, trivial⟩

/-! chirographref.Maced -/
noncomputable def g_ref_Maced_l0 : (List UInt8) → Option (((List UInt8)) ⊕ (((List UInt8))))
  | k5_0 => (if (k5_0.length : Int) < (64 : Int) then if k5_0.length + [0].length ≤ 9223372036854775807 then some (.inl (k5_0 ++ [0])) else none else some (.inr k5_0))
noncomputable def g_ref_Maced (key0 : List UInt8) (b1 : List UInt8) : Option ((Vector UInt8 32)) :=
  ((if (key0.length : Int) > (64 : Int) then (g_ref_Summed key0).bind fun r'2 => some r'2.toList else some key0)).bind fun j'1 => (loopO (g_ref_Maced_l0) j'1).bind fun y'6 => (g_ref_Maced_1_i0 (54 : UInt8) y'6).bind fun r'7 => if r'7.length + b1.length ≤ 9223372036854775807 then (g_ref_Summed (r'7 ++ b1)).bind fun r'8 => (g_ref_Maced_1_i0 (92 : UInt8) y'6).bind fun r'9 => if r'9.length + r'8.toList.length ≤ 9223372036854775807 then (g_ref_Summed (r'9 ++ r'8.toList)).bind fun r'10 => some r'10 else none else none
set_option maxHeartbeats 4000000 in
set_option maxRecDepth 100000 in
theorem g_ref_Maced_ac {key0 : List UInt8} {b1 : List UInt8} {r : (Vector UInt8 32)} (H : g_ref_Maced key0 b1 = some r) : ACp Tryd.prog 21 [(AV.bytes key0), (AV.bytes b1)] (.agg (bcells r.toList)) := by
  refine ACp_of (AC2_of_body (vs := [.c (.p (.agg (bcells r.toList)))]) Tryd.func21 rfl rfl (Nat.le_of_ble_eq_true rfl) rfl ?_) (fun _ => .same _)
  unfold g_ref_Maced at H
  refine AW2_st [(0, .c (.p (AV.bytes key0))), (1, .c (.p (AV.bytes b1)))] [] rfl ⟨TLes.same _, TLes.same _, trivial⟩ trivial ?_
  refine AW2_seq ?_
  refine AW2_reg [0] rfl ?_
  refine r_op rfl rfl (MakeD.opD (u_alloc 4 rfl in_23 one_23 zc_23) rfl rfl rfl rfl) ?_
  refine RunW_st [(0, .c (.p (AV.bytes key0))), (1, .c (.p (AV.bytes b1))), (4, .c (.ptr 4 (0)))] [(4, .pure (bcells ((Vector.replicate 32 (0 : UInt8)).toList)))] rfl ⟨TLes.same _, TLes.same _, TLes.same _, trivial⟩ ⟨rfl, trivial⟩ ?_
  refine RunW_nil ?_
  refine AW2_seq ?_
  refine AW2_reg [0, 1, 2, 3] rfl ?_
  refine r_op rfl rfl (PureD.opD (p_move rfl rfl)) ?_
  refine r_op rfl rfl (PureD.opD (p_cb rfl rfl Tryd.underlying22 Tryd.underlying5 Tryd.underlying9 rfl)) ?_
  refine r_op rfl rfl (MakeD.opD (u_alloc 5 rfl in_9 one_9 zc_9) rfl rfl rfl rfl) ?_
  refine r_op rfl rfl (u_st rfl rfl rfl rfl rfl in_9 rfl (List.cons_ne_nil _ _) (Upd.refl (rfl.trans rfl.symm))) ?_
  refine RunW_st [(0, .c (.p (AV.bytes key0))), (1, .c (.p (AV.bytes b1))), (4, .c (.ptr 4 (0))), (5, .c (.ptr 5 (0)))] [(4, .pure (bcells ((Vector.replicate 32 (0 : UInt8)).toList))), (5, .pure ([(AV.txt key0)]))] rfl ⟨TLes.same _, TLes.same _, TLes.same _, TLes.same _, trivial⟩ ⟨rfl, rfl, trivial⟩ ?_
  refine RunW_nil ?_
  refine AW2_seq ?_
  refine bindK H fun j'1 h1 H => ?_
  refine AW2_mid (⟨[(1, .c (.p (AV.bytes b1))), (4, .c (.ptr 4 (0))), (5, .c (.ptr 5 (0)))], [(4, .pure (bcells ((Vector.replicate 32 (0 : UInt8)).toList))), (5, .pure ([(AV.txt j'1)]))], 38⟩ : TS) ?_ ?_
  · clear H
    have H := h1
    clear h1
    refine AW2_seq ?_
    refine AW2_reg [0, 1, 2] rfl ?_
    refine r_op rfl rfl (PureD.opD (u_ld rfl rfl Tryd.underlying9 rfl rfl (Sub.refl _))) ?_
    refine r_op rfl rfl (PureD.opD (p_lent rfl Tryd.underlying9 rfl)) ?_
    refine r_op rfl rfl (PureD.opD (p_bin rfl rfl rfl rfl)) ?_
    refine RunW_st [(0, .c (.p (AV.bytes key0))), (1, .c (.p (AV.bytes b1))), (4, .c (.ptr 4 (0))), (5, .c (.ptr 5 (0))), (13, .c (.p (.bool (decide ((key0.length : Int) > (64 : Int))))))] [(4, .pure (bcells ((Vector.replicate 32 (0 : UInt8)).toList))), (5, .pure ([(AV.txt key0)]))] rfl ⟨TLes.same _, TLes.same _, TLes.same _, TLes.same _, TLes.same _, trivial⟩ ⟨rfl, rfl, trivial⟩ ?_
    refine RunW_nil ?_
    refine AW2_if (p := (key0.length : Int) > (64 : Int)) rfl (fun h2 => ?_) (fun h2 => ?_)
    · replace H := ite_then h2 H
      refine AW2_seq ?_
      refine AW2_reg [0, 1, 2, 3] rfl ?_
      refine r_op rfl rfl (PureD.opD (p_move rfl rfl)) ?_
      refine bindK H fun r'2 h3 H => ?_
      refine r_op rfl rfl (PureD.opD (p_callp rfl rfl rfl Tryd.func13 rfl rfl (g_ref_Summed_ac h3) ⟨rfl, trivial⟩)) ?_
      refine r_op rfl rfl (MakeD.opD (u_alloc 6 rfl in_23 one_23 zc_23) rfl rfl rfl rfl) ?_
      refine r_op rfl rfl (u_st rfl rfl rfl rfl rfl in_23 ((bcells_length _).trans (vlen r'2)) (ne_of_lt (n := 0) (Nat.lt_of_lt_of_eq (by decide) (Eq.symm ((bcells_length _).trans (vlen (Vector.replicate 32 (0 : UInt8))))))) (Upd.refl (((bcells_length _).trans (vlen r'2)).trans ((bcells_length _).trans (vlen (Vector.replicate 32 (0 : UInt8)))).symm))) ?_
      refine RunW_st [(1, .c (.p (AV.bytes b1))), (4, .c (.ptr 4 (0))), (5, .c (.ptr 5 (0))), (6, .c (.ptr 6 (0)))] [(4, .pure (bcells ((Vector.replicate 32 (0 : UInt8)).toList))), (5, .pure ([(AV.txt key0)])), (6, .pure (bcells r'2.toList))] rfl ⟨TLes.same _, TLes.same _, TLes.same _, TLes.same _, trivial⟩ ⟨rfl, rfl, rfl, trivial⟩ ?_
      refine RunW_nil ?_
      refine AW2_reg [0, 1, 2] rfl ?_
      refine r_op rfl rfl (PureD.opD (u_cuta rfl rfl Tryd.underlying23 in_5 rfl rfl (ne_of_lt (n := 0) (Nat.lt_of_lt_of_eq (by decide) (Eq.symm ((bcells_length _).trans (vlen r'2))))) (Sub.refl _) (((bcells_length _).trans (vlen r'2)).trans (by decide)))) ?_
      refine r_op rfl rfl (PureD.opD (u_cbl rfl rfl Tryd.underlying22 Tryd.underlying5 Tryd.underlying9 (bs := r'2.toList) (vlen _) rfl rfl (ne_of_lt (n := 0) (Nat.lt_of_lt_of_eq (by decide) (Eq.symm ((bcells_length _).trans (vlen r'2))))) (Sub.refl _))) ?_
      refine r_op rfl rfl (u_st rfl rfl rfl rfl rfl in_9 rfl (List.cons_ne_nil _ _) (Upd.refl (rfl.trans rfl.symm))) ?_
      refine RunW_st [(1, .c (.p (AV.bytes b1))), (4, .c (.ptr 4 (0))), (5, .c (.ptr 5 (0)))] [(4, .pure (bcells ((Vector.replicate 32 (0 : UInt8)).toList))), (5, .pure ([(AV.txt r'2.toList)]))] rfl ⟨TLes.same _, TLes.same _, TLes.same _, trivial⟩ ⟨rfl, rfl, trivial⟩ ?_
      refine RunW_nil ?_
      have hz := some_elim H
      subst hz
      exact rfl
    · replace H := ite_else h2 H
      refine AW2_st [(1, .c (.p (AV.bytes b1))), (4, .c (.ptr 4 (0))), (5, .c (.ptr 5 (0)))] [(4, .pure (bcells ((Vector.replicate 32 (0 : UInt8)).toList))), (5, .pure ([(AV.txt key0)]))] rfl ⟨TLes.same _, TLes.same _, TLes.same _, trivial⟩ ⟨rfl, rfl, trivial⟩ ?_
      refine AW2_skip ?_
      have hz := some_elim H
      subst hz
      exact rfl
  · refine AW2_seq ?_
    refine AW2_block ?_
    refine AW2_st [(1, .c (.p (AV.bytes b1))), (4, .c (.ptr 4 (0))), (5, .c (.ptr 5 (0)))] [(4, .pure (bcells ((Vector.replicate 32 (0 : UInt8)).toList))), (5, .pure ([(AV.txt j'1)]))] rfl ⟨TLes.same _, TLes.same _, TLes.same _, trivial⟩ ⟨rfl, rfl, trivial⟩ ?_
    refine bindK H fun y'6 h6 H => ?_
    refine AW2_loopO (fun a'3 : (List UInt8) => (⟨[(1, .c (.p (AV.bytes b1))), (4, .c (.ptr 4 (0))), (5, .c (.ptr 5 (0)))], [(4, .pure (bcells ((Vector.replicate 32 (0 : UInt8)).toList))), (5, .pure ([(AV.txt a'3)]))], 38⟩ : TS)) (fun (y'4 : ((List UInt8))) e s' => e = Go.Exit.exit 0 ∧ s' = (⟨[(1, .c (.p (AV.bytes b1))), (4, .c (.ptr 4 (0))), (5, .c (.ptr 5 (0)))], [(4, .pure (bcells ((Vector.replicate 32 (0 : UInt8)).toList))), (5, .pure ([(AV.txt y'4)]))], 38⟩ : TS)) h6 rfl (fun k5_0 x hx => ?_) (fun e s' hs => ?_)
    · clear H
      have H := hx
      clear hx
      unfold g_ref_Maced_l0 at H
      refine AW2_seq ?_
      refine AW2_seq ?_
      refine AW2_reg [0, 1, 2] rfl ?_
      refine r_op rfl rfl (PureD.opD (u_ld rfl rfl Tryd.underlying9 rfl rfl (Sub.refl _))) ?_
      refine r_op rfl rfl (PureD.opD (p_lent rfl Tryd.underlying9 rfl)) ?_
      refine r_op rfl rfl (PureD.opD (p_bin rfl rfl rfl rfl)) ?_
      refine RunW_st [(1, .c (.p (AV.bytes b1))), (4, .c (.ptr 4 (0))), (5, .c (.ptr 5 (0))), (20, .c (.p (.bool (decide ((k5_0.length : Int) < (64 : Int))))))] [(4, .pure (bcells ((Vector.replicate 32 (0 : UInt8)).toList))), (5, .pure ([(AV.txt k5_0)]))] rfl ⟨TLes.same _, TLes.same _, TLes.same _, TLes.same _, trivial⟩ ⟨rfl, rfl, trivial⟩ ?_
      refine RunW_nil ?_
      refine AW2_if (p := (k5_0.length : Int) < (64 : Int)) rfl (fun h4 => ?_) (fun h4 => ?_)
      · replace H := ite_then h4 H
        refine AW2_st [(1, .c (.p (AV.bytes b1))), (4, .c (.ptr 4 (0))), (5, .c (.ptr 5 (0)))] [(4, .pure (bcells ((Vector.replicate 32 (0 : UInt8)).toList))), (5, .pure ([(AV.txt k5_0)]))] rfl ⟨TLes.same _, TLes.same _, TLes.same _, trivial⟩ ⟨rfl, rfl, trivial⟩ ?_
        refine AW2_skip ?_
        refine AW2_block ?_
        refine AW2_reg [0, 1, 2] rfl ?_
        refine r_op rfl rfl (PureD.opD (u_ld rfl rfl Tryd.underlying9 rfl rfl (Sub.refl _))) ?_
        refine chkK H fun h5 H => ?_
        refine r_op rfl rfl (PureD.opD (p_cat rfl rfl rfl h5)) ?_
        refine r_op rfl rfl (u_st rfl rfl rfl rfl rfl in_9 rfl (List.cons_ne_nil _ _) (Upd.refl (rfl.trans rfl.symm))) ?_
        refine RunW_st [(1, .c (.p (AV.bytes b1))), (4, .c (.ptr 4 (0))), (5, .c (.ptr 5 (0)))] [(4, .pure (bcells ((Vector.replicate 32 (0 : UInt8)).toList))), (5, .pure ([(AV.txt (k5_0 ++ [0]))]))] rfl ⟨TLes.same _, TLes.same _, TLes.same _, trivial⟩ ⟨rfl, rfl, trivial⟩ ?_
        refine RunW_nil ?_
        have hz := some_elim H
        subst hz
        exact ⟨rfl, rfl⟩
      · replace H := ite_else h4 H
        refine AW2_st [(1, .c (.p (AV.bytes b1))), (4, .c (.ptr 4 (0))), (5, .c (.ptr 5 (0)))] [(4, .pure (bcells ((Vector.replicate 32 (0 : UInt8)).toList))), (5, .pure ([(AV.txt k5_0)]))] rfl ⟨TLes.same _, TLes.same _, TLes.same _, trivial⟩ ⟨rfl, rfl, trivial⟩ ?_
        refine AW2_exit ?_
        refine thenQ2_exit ?_
        have hz := some_elim H
        subst hz
        exact ⟨rfl, rfl⟩
    · obtain ⟨rfl, rfl⟩ := hs
      refine ⟨by simp, ?_⟩
      refine blockQ2_exit ?_
      refine AW2_seq ?_
      refine AW2_reg [0, 1] rfl ?_
      refine r_op rfl rfl (PureD.opD (p_mkfn (caps := [(.ptr 5 (0))]) rfl ⟨⟨rfl, rfl⟩, trivial⟩)) ?_
      refine r_op rfl rfl (PureD.opD (p_asg rfl rfl)) ?_
      refine RunW_st [(1, .c (.p (AV.bytes b1))), (4, .c (.ptr 4 (0))), (7, .clo 41 [(.ptr 5 (0))])] [(4, .pure (bcells ((Vector.replicate 32 (0 : UInt8)).toList))), (5, .pure ([(AV.txt y'6)]))] rfl ⟨TLes.same _, TLes.same _, (fun _ => .same _), trivial⟩ ⟨rfl, rfl, trivial⟩ ?_
      refine RunW_nil ?_
      refine AW2_seq ?_
      refine bindK H fun r'7 h7 H => ?_
      refine chkK H fun h8 H => ?_
      refine bindK H fun r'8 h9 H => ?_
      refine AW2_ghoQ ?_
      refine AW2_drawU 8 [8] (fun k => ([.clo 41 [(.ptr 5 (0))], .c (.p (AV.txt r'7)), .c (.p (AV.bytes b1)), .c (.p (AV.txt b1)), .c (.p (AV.txt (r'7 ++ b1))), .c (.own 29 (r'7 ++ b1).length 1), .c (.p (.agg (bcells r'8.toList))), .c (.ptr 8 (0))] : List TV).getD k TV.any) (fun k => ([[(7, none)], [(24, some 0)], [(1, none)], [(26, some 2)], [(25, some 1), (27, some 3)], [(28, some 4)], [(29, some 5)], []] : List (List (Nat × Option Nat))).getD k []) [(4, none), (7, none), (8, some 7), (30, some 6)] [(5, 29, (bcells (r'7 ++ b1))), (7, 8, (bcells ((Vector.replicate 32 (0 : UInt8)).toList)))] [] [] (fun k => ([[(5, false)], [(5, false)], [], [], [], [], [(29, false)], []] : List (List (Nat × Bool))).getD k []) (fun k => ([[], [0], [], [2], [0, 1, 2, 3], [0, 1, 2, 3, 4], [0, 1, 2, 3, 4, 5], [], [0, 1, 2, 3, 4, 5, 6, 7]] : List (List Nat)).getD k []) mixed (by kernel_rfl) rfl rfl rfl (a_op (gu_x rfl (y_p rfl rfl (p_move rfl rfl) rfl)) (a_op (gu_x rfl (y_p rfl rfl (p_callc rfl rfl rfl Tryd.func41 rfl rfl (g_ref_Maced_1_i0_ac h7) rfl ⟨lend_p rfl, lendc_ptr rfl (List.cons_ne_nil _ _), trivial⟩) rfl)) (a_op (gu_x rfl (y_p rfl rfl (p_move rfl rfl) rfl)) (a_op (gu_x rfl (y_p rfl rfl (p_cb rfl rfl Tryd.underlying22 Tryd.underlying5 Tryd.underlying9 rfl) rfl)) (a_op (gu_x rfl (y_p rfl rfl (p_cat rfl rfl rfl h8) rfl)) (a_op (gu_x rfl (y_m rfl rfl (n_sb 29 rfl Tryd.underlying9 Tryd.underlying22 Tryd.underlying5 rfl) rfl rfl)) (a_op (gu_x rfl (y_p rfl rfl (p_calll rfl rfl rfl Tryd.func13 rfl rfl (g_ref_Summed_ac h9) (nlB _) ⟨lend_o rfl rfl rfl (bl (r'7 ++ b1)) (by decide), trivial⟩) rfl)) (a_op (gu_x rfl (y_m rfl rfl (u_alloc 8 rfl in_23 one_23 zc_23) rfl rfl)) (a_nil))))))))) ?_
      refine t_op rfl rfl (u_st rfl rfl rfl rfl rfl in_23 ((bcells_length _).trans (vlen r'8)) (ne_of_lt (n := 0) (Nat.lt_of_lt_of_eq (by decide) (Eq.symm ((bcells_length _).trans (vlen (Vector.replicate 32 (0 : UInt8))))))) (Upd.refl (((bcells_length _).trans (vlen r'8)).trans ((bcells_length _).trans (vlen (Vector.replicate 32 (0 : UInt8)))).symm))) ?_
      refine t_gho (Gho_st (L := [(4, .c (.ptr 4 (0))), (7, .clo 41 [(.ptr 5 (0))]), (8, .c (.ptr 8 (0)))]) (H := [(4, .pure (bcells ((Vector.replicate 32 (0 : UInt8)).toList))), (5, .pure ([(AV.txt y'6)])), (8, .pure (bcells r'8.toList))]) rfl ⟨TLes.same _, (fun _ => .same _), TLes.same _, trivial⟩ ⟨rfl, rfl, rfl, trivial⟩) ?_
      refine AW2_seq ?_
      refine bindK H fun r'9 h10 H => ?_
      refine chkK H fun h11 H => ?_
      refine bindK H fun r'10 h12 H => ?_
      refine AW2_ghoQ ?_
      refine AW2_draw 4 [4, 5, 6, 7] (fun k => ([.clo 41 [(.ptr 5 (0))], .c (.p (AV.txt r'9)), .c (.sl 8 (0 + 0 * 1) 32 1), .c (.p (AV.txt r'8.toList))] : List TV).getD k TV.any) (fun k => ([[(7, none)], [(31, some 0)], [(8, none)], [(33, some 2)]] : List (List (Nat × Option Nat))).getD k []) [(4, none), (32, some 1), (34, some 3)] [] (fun k => ([[], [0], [], [2], [0, 1, 2, 3], [0, 1, 2, 3, 4], [0, 1, 2, 3, 4, 5], [0, 1, 2, 3, 4, 5, 6]] : List (List Nat)).getD k []) mixed (by kernel_rfl) rfl rfl (a_op (g_x rfl (x_p rfl (p_move rfl rfl) rfl)) (a_op (g_x rfl (x_p rfl (p_callc rfl rfl rfl Tryd.func41 rfl rfl (g_ref_Maced_1_i0_ac h10) rfl ⟨lend_p rfl, lendc_ptr rfl (List.cons_ne_nil _ _), trivial⟩) rfl)) (a_op (g_x rfl (x_p rfl (u_cuta rfl rfl Tryd.underlying23 in_5 rfl rfl (ne_of_lt (n := 0) (Nat.lt_of_lt_of_eq (by decide) (Eq.symm ((bcells_length _).trans (vlen r'8))))) (Sub.refl _) (((bcells_length _).trans (vlen r'8)).trans (by decide))) rfl)) (a_op (g_x rfl (x_p rfl (u_cbl rfl rfl Tryd.underlying22 Tryd.underlying5 Tryd.underlying9 (bs := r'8.toList) (vlen _) rfl rfl (ne_of_lt (n := 0) (Nat.lt_of_lt_of_eq (by decide) (Eq.symm ((bcells_length _).trans (vlen r'8))))) (Sub.refl _)) rfl)) (a_nil))))) ?_
      refine t_op rfl rfl (PureD.opD (p_cat rfl rfl rfl h11)) ?_
      refine t_op rfl rfl (MakeD.opD (n_sb 36 rfl Tryd.underlying9 Tryd.underlying22 Tryd.underlying5 rfl) rfl rfl rfl rfl) ?_
      refine t_op rfl rfl (PureD.opD (p_calll rfl rfl rfl Tryd.func13 rfl rfl (g_ref_Summed_ac h12) (nlB _) ⟨lend_o rfl rfl rfl (bl (r'9 ++ r'8.toList)) (by decide), trivial⟩)) ?_
      refine t_op rfl rfl (u_st rfl rfl rfl rfl rfl in_23 ((bcells_length _).trans (vlen r'10)) (ne_of_lt (n := 0) (Nat.lt_of_lt_of_eq (by decide) (Eq.symm ((bcells_length _).trans (vlen (Vector.replicate 32 (0 : UInt8))))))) (Upd.refl (((bcells_length _).trans (vlen r'10)).trans ((bcells_length _).trans (vlen (Vector.replicate 32 (0 : UInt8)))).symm))) ?_
      refine t_gho (Gho_st (L := [(4, .c (.ptr 4 (0)))]) (H := [(4, .pure (bcells r'10.toList))]) rfl ⟨TLes.same _, trivial⟩ ⟨rfl, trivial⟩) ?_
      refine AW2_ret ?_
      have hz := some_elim H
      subst hz
      exact ⟨⟨res_cella Tryd.underlying23 rfl in_23.sz rfl (Sub.le (Sub.refl _) ((bcells_length _).trans (vlen r'10))) (by decide) (Sub.take (Sub.refl _) ((bcells_length _).trans (vlen r'10))), trivial⟩, trivial⟩

/-! chirographlaw.MacSums -/
noncomputable def g_law_MacSums (key0 : List UInt8) (l1 : List UInt8) : Option (Bool) :=
  (g_sum_Mac key0 l1).bind fun r'1 => (g_ref_Maced key0 l1).bind fun r'2 => some (decide (r'1 = r'2))
set_option maxHeartbeats 4000000 in
set_option maxRecDepth 100000 in
theorem g_law_MacSums_ac {key0 : List UInt8} {l1 : List UInt8} {r : Bool} (H : g_law_MacSums key0 l1 = some r) : ACp Tryd.prog 6 [(AV.bytes key0), (AV.bytes l1)] (AV.bool r) := by
  refine ACp_of (AC2_of_body (vs := [.c (.p (AV.bool r))]) Tryd.func6 rfl rfl (Nat.le_of_ble_eq_true rfl) rfl ?_) (fun _ => .same _)
  unfold g_law_MacSums at H
  refine AW2_st [(0, .c (.p (AV.bytes key0))), (1, .c (.p (AV.bytes l1)))] [] rfl ⟨TLes.same _, TLes.same _, trivial⟩ trivial ?_
  refine AW2_seq ?_
  refine AW2_reg [0] rfl ?_
  refine r_op rfl rfl (PureD.opD (p_asg rfl rfl)) ?_
  refine RunW_st [(0, .c (.p (AV.bytes key0))), (1, .c (.p (AV.bytes l1)))] [] rfl ⟨TLes.same _, TLes.same _, trivial⟩ trivial ?_
  refine RunW_nil ?_
  refine AW2_seq ?_
  refine AW2_reg [0, 1, 2, 3, 4] rfl ?_
  refine r_op rfl rfl (PureD.opD (p_move rfl rfl)) ?_
  refine r_op rfl rfl (PureD.opD (p_move rfl rfl)) ?_
  refine bindK H fun r'1 h1 H => ?_
  refine r_op rfl rfl (PureD.opD (p_callp rfl rfl rfl Tryd.func20 rfl rfl (g_sum_Mac_ac h1) ⟨rfl, rfl, trivial⟩)) ?_
  refine r_op rfl rfl (MakeD.opD (u_alloc 5 rfl in_23 one_23 zc_23) rfl rfl rfl rfl) ?_
  refine r_op rfl rfl (u_st rfl rfl rfl rfl rfl in_23 ((bcells_length _).trans (vlen r'1)) (ne_of_lt (n := 0) (Nat.lt_of_lt_of_eq (by decide) (Eq.symm ((bcells_length _).trans (vlen (Vector.replicate 32 (0 : UInt8))))))) (Upd.refl (((bcells_length _).trans (vlen r'1)).trans ((bcells_length _).trans (vlen (Vector.replicate 32 (0 : UInt8)))).symm))) ?_
  refine RunW_st [(0, .c (.p (AV.bytes key0))), (1, .c (.p (AV.bytes l1))), (5, .c (.ptr 5 (0)))] [(5, .pure (bcells r'1.toList))] rfl ⟨TLes.same _, TLes.same _, TLes.same _, trivial⟩ ⟨rfl, trivial⟩ ?_
  refine RunW_nil ?_
  refine AW2_seq ?_
  refine AW2_reg [0, 1, 2, 3, 4] rfl ?_
  refine r_op rfl rfl (PureD.opD (p_move rfl rfl)) ?_
  refine r_op rfl rfl (PureD.opD (p_move rfl rfl)) ?_
  refine bindK H fun r'2 h2 H => ?_
  refine r_op rfl rfl (PureD.opD (p_callp rfl rfl rfl Tryd.func21 rfl rfl (g_ref_Maced_ac h2) ⟨rfl, rfl, trivial⟩)) ?_
  refine r_op rfl rfl (MakeD.opD (u_alloc 6 rfl in_23 one_23 zc_23) rfl rfl rfl rfl) ?_
  refine r_op rfl rfl (u_st rfl rfl rfl rfl rfl in_23 ((bcells_length _).trans (vlen r'2)) (ne_of_lt (n := 0) (Nat.lt_of_lt_of_eq (by decide) (Eq.symm ((bcells_length _).trans (vlen (Vector.replicate 32 (0 : UInt8))))))) (Upd.refl (((bcells_length _).trans (vlen r'2)).trans ((bcells_length _).trans (vlen (Vector.replicate 32 (0 : UInt8)))).symm))) ?_
  refine RunW_st [(5, .c (.ptr 5 (0))), (6, .c (.ptr 6 (0)))] [(5, .pure (bcells r'1.toList)), (6, .pure (bcells r'2.toList))] rfl ⟨TLes.same _, TLes.same _, trivial⟩ ⟨rfl, rfl, trivial⟩ ?_
  refine RunW_nil ?_
  refine AW2_seq ?_
  refine AW2_reg [0, 1, 2, 3] rfl ?_
  refine r_op rfl rfl (PureD.opD (u_lda rfl rfl Tryd.underlying23 rfl in_23 rfl (Nat.succ_pos _) (Sub.refl _) ((bcells_length _).trans (vlen r'1)))) ?_
  refine r_op rfl rfl (PureD.opD (u_lda rfl rfl Tryd.underlying23 rfl in_23 rfl (Nat.succ_pos _) (Sub.refl _) ((bcells_length _).trans (vlen r'2)))) ?_
  refine r_op rfl rfl (PureD.opD (p_eqa (a := r'1) (b := r'2) rfl eq_23 rfl (by kernel_rfl) rfl rfl)) ?_
  refine r_op rfl rfl (PureD.opD (p_asg rfl rfl)) ?_
  refine RunW_st [(4, .c (.p (.bool (decide (r'1 = r'2)))))] [] rfl ⟨TLes.same _, trivial⟩ trivial ?_
  refine RunW_nil ?_
  refine AW2_ret ?_
  have hz := some_elim H
  subst hz
  exact ⟨⟨res_tmp (.same _), trivial⟩, trivial⟩

/-! oracle.four -/
noncomputable def g_oracle_four (n0 : Int) : Option ((List UInt8)) :=
  letO (([UInt8.ofInt (ishr n0 24), UInt8.ofInt (ishr n0 16), UInt8.ofInt (ishr n0 8), UInt8.ofInt n0] : List UInt8)) fun t2'1 => some t2'1
set_option maxHeartbeats 4000000 in
set_option maxRecDepth 100000 in
theorem g_oracle_four_ac2 {n0 : Int} {r : (List UInt8)} (H : g_oracle_four n0 = some r) : AC2 Tryd.prog 52 (pureT [(AV.int n0)]) [] (.c (.own 2 r.length 1)) [(2, .pure (bcells r))] := by
  refine AC2_of_body (vs := [.c (.own 2 r.length 1)]) Tryd.func52 rfl rfl (Nat.le_of_ble_eq_true rfl) rfl ?_
  unfold g_oracle_four at H
  refine AW2_st [(0, .c (.p (AV.int n0)))] [] rfl ⟨TLes.same _, trivial⟩ trivial ?_
  refine AW2_seq ?_
  refine AW2_reg [0] rfl ?_
  refine r_op rfl rfl (PureD.opD (p_asgn rfl)) ?_
  refine RunW_st [(0, .c (.p (AV.int n0)))] [] rfl ⟨TLes.same _, trivial⟩ trivial ?_
  refine RunW_nil ?_
  refine AW2_seq ?_
  refine AW2_reg [0, 1, 2, 3, 4, 5, 6, 7, 8, 9, 10, 11, 12] rfl ?_
  refine r_op rfl rfl (PureD.opD (p_move rfl rfl)) ?_
  refine r_op rfl rfl (PureD.opD (p_ishr (n := 24) rfl rfl rfl rfl)) ?_
  refine r_op rfl rfl (PureD.opD (p_i_u8 rfl Tryd.underlying3 Tryd.underlying5 rfl)) ?_
  refine r_op rfl rfl (PureD.opD (p_move rfl rfl)) ?_
  refine r_op rfl rfl (PureD.opD (p_ishr (n := 16) rfl rfl rfl rfl)) ?_
  refine r_op rfl rfl (PureD.opD (p_i_u8 rfl Tryd.underlying3 Tryd.underlying5 rfl)) ?_
  refine r_op rfl rfl (PureD.opD (p_move rfl rfl)) ?_
  refine r_op rfl rfl (PureD.opD (p_ishr (n := 8) rfl rfl rfl rfl)) ?_
  refine r_op rfl rfl (PureD.opD (p_i_u8 rfl Tryd.underlying3 Tryd.underlying5 rfl)) ?_
  refine r_op rfl rfl (PureD.opD (p_move rfl rfl)) ?_
  refine r_op rfl rfl (PureD.opD (p_i_u8 rfl Tryd.underlying3 Tryd.underlying5 rfl)) ?_
  refine r_op rfl rfl (MakeD.opD (u_bs 14 rfl Tryd.underlying22 in_5 rfl one_5 (by decide) (by decide) rfl rfl rfl) rfl rfl rfl rfl) ?_
  refine r_op rfl rfl (PureD.opD (p_asg rfl rfl)) ?_
  refine RunW_st [(2, .c (.own 14 ([UInt8.ofInt (ishr n0 24), UInt8.ofInt (ishr n0 16), UInt8.ofInt (ishr n0 8), UInt8.ofInt n0] : List UInt8).length 1))] [(14, .pure (bcells ([UInt8.ofInt (ishr n0 24), UInt8.ofInt (ishr n0 16), UInt8.ofInt (ishr n0 8), UInt8.ofInt n0] : List UInt8)))] rfl ⟨TLes.own rfl, trivial⟩ ⟨rfl, trivial⟩ ?_
  refine RunW_gho (Gho_ren 14 2 rfl rfl rfl rfl rfl) ?_
  refine RunW_st [(2, .c (.own 2 ([UInt8.ofInt (ishr n0 24), UInt8.ofInt (ishr n0 16), UInt8.ofInt (ishr n0 8), UInt8.ofInt n0] : List UInt8).length 1))] [(2, .pure (bcells ([UInt8.ofInt (ishr n0 24), UInt8.ofInt (ishr n0 16), UInt8.ofInt (ishr n0 8), UInt8.ofInt n0] : List UInt8)))] rfl ⟨TLes.same _, trivial⟩ ⟨rfl, trivial⟩ ?_
  refine RunW_nil ?_
  refine gen1 (fun t2'1 => (⟨[(2, .c (.own 2 t2'1.length 1))], [(2, .pure (bcells t2'1))], 15⟩ : TS)) H ?_
  intro t2'1 H
  refine AW2_st [(2, .c (.own 2 t2'1.length 1))] [(2, .pure (bcells t2'1))] rfl ⟨TLes.same _, trivial⟩ ⟨rfl, trivial⟩ ?_
  refine AW2_ret ?_
  have hz := some_elim H
  subst hz
  exact ⟨⟨res_tmp (.same _), trivial⟩, ⟨rfl, trivial⟩⟩
theorem g_oracle_four_ac {n0 : Int} {r : (List UInt8)} (H : g_oracle_four n0 = some r) : ACp Tryd.prog 52 [(AV.int n0)] (AV.bytes r) := ACp_pub (g_oracle_four_ac2 H) (fun _ _ hm => lent_own hm rfl (bl r) (by decide))

/-! oracle.eight -/
noncomputable def g_oracle_eight (n0 : Int) : Option ((List UInt8)) :=
  (g_oracle_four (ishr n0 32)).bind fun r'1 => (g_oracle_four n0).bind fun r'2 => if room (r'1.length + r'2.length) 1 then some (r'1 ++ r'2) else none
set_option maxHeartbeats 4000000 in
set_option maxRecDepth 100000 in
theorem g_oracle_eight_ac2 {n0 : Int} {r : (List UInt8)} (H : g_oracle_eight n0 = some r) : AC2 Tryd.prog 43 (pureT [(AV.int n0)]) [] (.c (.own 2 r.length 1)) [(2, .pure (bcells r))] := by
  refine AC2_of_body (vs := [.c (.own 2 r.length 1)]) Tryd.func43 rfl rfl (Nat.le_of_ble_eq_true rfl) rfl ?_
  unfold g_oracle_eight at H
  refine AW2_st [(0, .c (.p (AV.int n0)))] [] rfl ⟨TLes.same _, trivial⟩ trivial ?_
  refine AW2_seq ?_
  refine AW2_reg [0] rfl ?_
  refine r_op rfl rfl (PureD.opD (p_asgn rfl)) ?_
  refine RunW_st [(0, .c (.p (AV.int n0)))] [] rfl ⟨TLes.same _, trivial⟩ trivial ?_
  refine RunW_nil ?_
  refine AW2_seq ?_
  refine AW2_reg [0, 1, 2, 3, 4, 5, 6] rfl ?_
  refine r_op rfl rfl (PureD.opD (p_move rfl rfl)) ?_
  refine r_op rfl rfl (PureD.opD (p_ishr (n := 32) rfl rfl rfl rfl)) ?_
  refine bindK H fun r'1 h1 H => ?_
  refine r_op rfl rfl (d_callh [(2, 5)] rfl rfl rfl Tryd.func52 rfl rfl (g_oracle_four_ac2 h1) ⟨TLes.same _, trivial⟩ trivial rfl rfl) ?_
  refine r_op rfl rfl (PureD.opD (p_move rfl rfl)) ?_
  refine bindK H fun r'2 h2 H => ?_
  refine r_op rfl rfl (PureD.opD (p_callp rfl rfl rfl Tryd.func52 rfl rfl (g_oracle_four_ac h2) ⟨rfl, trivial⟩)) ?_
  refine chkK H fun h3 H => ?_
  refine r_op rfl rfl (u_app [5] rfl rfl rfl rfl Tryd.underlying22 Tryd.underlying22 in_5 rfl rfl rfl (bl r'1) (by decide) rfl (bl r'2) h3 (by decide) rfl rfl (bapp r'1 r'2) (lapp r'1 r'2)) ?_
  refine r_op rfl rfl (PureD.opD (p_asg rfl rfl)) ?_
  refine RunW_st [(2, .c (.own 5 (r'1 ++ r'2).length 1))] [(5, .pure (bcells (r'1 ++ r'2)))] rfl ⟨TLes.same _, trivial⟩ ⟨rfl, trivial⟩ ?_
  refine RunW_gho (Gho_ren 5 2 rfl rfl rfl rfl rfl) ?_
  refine RunW_st [(2, .c (.own 2 (r'1 ++ r'2).length 1))] [(2, .pure (bcells (r'1 ++ r'2)))] rfl ⟨TLes.same _, trivial⟩ ⟨rfl, trivial⟩ ?_
  refine RunW_nil ?_
  refine AW2_st [(2, .c (.own 2 (r'1 ++ r'2).length 1))] [(2, .pure (bcells (r'1 ++ r'2)))] rfl ⟨TLes.same _, trivial⟩ ⟨rfl, trivial⟩ ?_
  refine AW2_ret ?_
  have hz := some_elim H
  subst hz
  exact ⟨⟨res_tmp (.same _), trivial⟩, ⟨rfl, trivial⟩⟩
theorem g_oracle_eight_ac {n0 : Int} {r : (List UInt8)} (H : g_oracle_eight n0 = some r) : ACp Tryd.prog 43 [(AV.int n0)] (AV.bytes r) := ACp_pub (g_oracle_eight_ac2 H) (fun _ _ hm => lent_own hm rfl (bl r) (by decide))

/-! oracle.frame -/
noncomputable def g_oracle_frame_l0 (parts1 : List (List UInt8)) : Int × (List UInt8) → Option ((Int × (List UInt8)) ⊕ (((List UInt8))))
  | (t16_0, out5_0) => (if t16_0 < (parts1.length : Int) then if 0 ≤ t16_0 ∧ t16_0 < (parts1.length : Int) then (g_oracle_four ((lrd parts1 t16_0.toNat).length : Int)).bind fun r'1 => if room (out5_0.length + r'1.length) 1 then if room ((out5_0 ++ r'1).length + (lrd parts1 t16_0.toNat).length) 1 then some (.inl (w64 (t16_0 + (1 : Int)), (out5_0 ++ r'1) ++ (lrd parts1 t16_0.toNat))) else none else none else none else some (.inr out5_0))
noncomputable def g_oracle_frame (tag0 : Int) (parts1 : List (List UInt8)) : Option ((List UInt8)) :=
  (loopO (g_oracle_frame_l0 parts1) ((0 : Int), ([UInt8.ofInt tag0, UInt8.ofInt (parts1.length : Int)] : List UInt8))).bind fun y'5 => some y'5
set_option maxHeartbeats 4000000 in
set_option maxRecDepth 100000 in
theorem g_oracle_frame_ac2 {tag0 : Int} {parts1 : List (List UInt8)} {r : (List UInt8)} (H : g_oracle_frame tag0 parts1 = some r) : AC2 Tryd.prog 42 (pureT [(AV.int tag0), (AV.lists parts1)]) [] (.c (.own 4 r.length 1)) [(4, .pure (bcells r))] := by
  refine AC2_of_body (vs := [.c (.own 4 r.length 1)]) Tryd.func42 rfl rfl (Nat.le_of_ble_eq_true rfl) rfl ?_
  unfold g_oracle_frame at H
  refine AW2_st [(0, .c (.p (AV.int tag0))), (1, .c (.p (AV.lists parts1)))] [] rfl ⟨TLes.same _, TLes.same _, trivial⟩ trivial ?_
  refine AW2_seq ?_
  refine AW2_reg [0] rfl ?_
  refine r_op rfl rfl (PureD.opD (p_asgn rfl)) ?_
  refine RunW_st [(0, .c (.p (AV.int tag0))), (1, .c (.p (AV.lists parts1)))] [] rfl ⟨TLes.same _, TLes.same _, trivial⟩ trivial ?_
  refine RunW_nil ?_
  refine AW2_seq ?_
  refine AW2_reg [0, 1, 2, 3, 4, 5, 6] rfl ?_
  refine r_op rfl rfl (PureD.opD (p_move rfl rfl)) ?_
  refine r_op rfl rfl (PureD.opD (p_i_u8 rfl Tryd.underlying3 Tryd.underlying5 rfl)) ?_
  refine r_op rfl rfl (PureD.opD (p_move rfl rfl)) ?_
  refine r_op rfl rfl (PureD.opD (p_lenl rfl Tryd.underlying44 rfl rfl)) ?_
  refine r_op rfl rfl (PureD.opD (p_i_u8 rfl Tryd.underlying3 Tryd.underlying5 rfl)) ?_
  refine r_op rfl rfl (MakeD.opD (u_bs 13 rfl Tryd.underlying22 in_5 rfl one_5 (by decide) (by decide) rfl rfl rfl) rfl rfl rfl rfl) ?_
  refine r_op rfl rfl (PureD.opD (p_asg rfl rfl)) ?_
  refine RunW_st [(1, .c (.p (AV.lists parts1))), (5, .c (.own 13 ([UInt8.ofInt tag0, UInt8.ofInt (parts1.length : Int)] : List UInt8).length 1))] [(13, .pure (bcells ([UInt8.ofInt tag0, UInt8.ofInt (parts1.length : Int)] : List UInt8)))] rfl ⟨TLes.same _, TLes.own rfl, trivial⟩ ⟨rfl, trivial⟩ ?_
  refine RunW_gho (Gho_ren 13 5 rfl rfl rfl rfl rfl) ?_
  refine RunW_st [(1, .c (.p (AV.lists parts1))), (5, .c (.own 5 ([UInt8.ofInt tag0, UInt8.ofInt (parts1.length : Int)] : List UInt8).length 1))] [(5, .pure (bcells ([UInt8.ofInt tag0, UInt8.ofInt (parts1.length : Int)] : List UInt8)))] rfl ⟨TLes.same _, TLes.same _, trivial⟩ ⟨rfl, trivial⟩ ?_
  refine RunW_nil ?_
  refine AW2_seq ?_
  refine AW2_seq ?_
  refine AW2_reg [0, 1, 2] rfl ?_
  refine r_op rfl rfl (PureD.opD (p_move rfl rfl)) ?_
  refine r_op rfl rfl (PureD.opD (p_lenl rfl Tryd.underlying44 rfl rfl)) ?_
  refine r_op rfl rfl (PureD.opD (p_move rfl rfl)) ?_
  refine RunW_st [(5, .c (.own 5 ([UInt8.ofInt tag0, UInt8.ofInt (parts1.length : Int)] : List UInt8).length 1)), (14, .c (.p (AV.lists parts1))), (15, .c (.p (AV.int (parts1.length : Int)))), (16, .c (.p (AV.int (0 : Int))))] [(5, .pure (bcells ([UInt8.ofInt tag0, UInt8.ofInt (parts1.length : Int)] : List UInt8)))] rfl ⟨TLes.same _, TLes.same _, TLes.same _, TLes.same _, trivial⟩ ⟨rfl, trivial⟩ ?_
  refine RunW_nil ?_
  refine AW2_block ?_
  refine AW2_st [(5, .c (.own 5 ([UInt8.ofInt tag0, UInt8.ofInt (parts1.length : Int)] : List UInt8).length 1)), (14, .c (.p (AV.lists parts1))), (15, .c (.p (AV.int (parts1.length : Int)))), (16, .c (.p (AV.int (0 : Int))))] [(5, .pure (bcells ([UInt8.ofInt tag0, UInt8.ofInt (parts1.length : Int)] : List UInt8)))] rfl ⟨TLes.same _, TLes.same _, TLes.same _, TLes.same _, trivial⟩ ⟨rfl, trivial⟩ ?_
  refine bindK H fun y'5 h6 H => ?_
  refine AW2_loopO (fun a'2 : Int × (List UInt8) => (⟨[(5, .c (.own 5 a'2.2.length 1)), (14, .c (.p (AV.lists parts1))), (15, .c (.p (AV.int (parts1.length : Int)))), (16, .c (.p (AV.int a'2.1)))], [(5, .pure (bcells a'2.2))], 29⟩ : TS)) (fun (y'3 : ((List UInt8))) e s' => e = Go.Exit.exit 0 ∧ s' = (⟨[(5, .c (.own 5 y'3.length 1))], [(5, .pure (bcells y'3))], 29⟩ : TS)) h6 rfl (fun a x hx => ?_) (fun e s' hs => ?_)
  · clear H
    obtain ⟨t16_0, out5_0⟩ := a
    have H := hx
    clear hx
    unfold g_oracle_frame_l0 at H
    refine AW2_seq ?_
    refine AW2_reg [0] rfl ?_
    refine r_op rfl rfl (PureD.opD (p_bin rfl rfl rfl rfl)) ?_
    refine RunW_st [(5, .c (.own 5 out5_0.length 1)), (14, .c (.p (AV.lists parts1))), (15, .c (.p (AV.int (parts1.length : Int)))), (16, .c (.p (AV.int t16_0))), (17, .c (.p (.bool (decide (t16_0 < (parts1.length : Int))))))] [(5, .pure (bcells out5_0))] rfl ⟨TLes.same _, TLes.same _, TLes.same _, TLes.same _, TLes.same _, trivial⟩ ⟨rfl, trivial⟩ ?_
    refine RunW_nil ?_
    refine AW2_seq ?_
    refine AW2_if (p := t16_0 < (parts1.length : Int)) rfl (fun h1 => ?_) (fun h1 => ?_)
    · replace H := ite_then h1 H
      refine AW2_st [(5, .c (.own 5 out5_0.length 1)), (14, .c (.p (AV.lists parts1))), (15, .c (.p (AV.int (parts1.length : Int)))), (16, .c (.p (AV.int t16_0)))] [(5, .pure (bcells out5_0))] rfl ⟨TLes.same _, TLes.same _, TLes.same _, TLes.same _, trivial⟩ ⟨rfl, trivial⟩ ?_
      refine AW2_skip ?_
      refine AW2_seq ?_
      refine AW2_block ?_
      refine AW2_seq ?_
      refine AW2_reg [0, 1, 2] rfl ?_
      refine chkK H fun h2 H => ?_
      refine r_op rfl rfl (PureD.opD (u_ixl rfl rfl Tryd.underlying44 in_22 rfl rfl (ixe h2) (ixn h2) (lne (ixn h2)))) ?_
      refine r_op rfl rfl (PureD.opD (u_ld rfl rfl Tryd.underlying22 rfl rfl (Sub.map default (ixn h2)))) ?_
      refine r_op rfl rfl (PureD.opD (p_asg rfl rfl)) ?_
      refine RunW_st [(5, .c (.own 5 out5_0.length 1)), (7, .c (.p (AV.bytes (lrd parts1 t16_0.toNat)))), (14, .c (.p (AV.lists parts1))), (15, .c (.p (AV.int (parts1.length : Int)))), (16, .c (.p (AV.int t16_0)))] [(5, .pure (bcells out5_0))] rfl ⟨TLes.same _, TLes.same _, TLes.same _, TLes.same _, TLes.same _, trivial⟩ ⟨rfl, trivial⟩ ?_
      refine RunW_nil ?_
      refine AW2_reg [0, 1, 2, 3, 4, 5, 6, 7] rfl ?_
      refine r_op rfl rfl (PureD.opD (p_move rfl rfl)) ?_
      refine r_op rfl rfl (PureD.opD (p_move rfl rfl)) ?_
      refine r_op rfl rfl (PureD.opD (p_lenl rfl Tryd.underlying22 rfl rfl)) ?_
      refine bindK H fun r'1 h3 H => ?_
      refine r_op rfl rfl (PureD.opD (p_callp rfl rfl rfl Tryd.func52 rfl rfl (g_oracle_four_ac h3) ⟨rfl, trivial⟩)) ?_
      refine chkK H fun h4 H => ?_
      refine r_op rfl rfl (u_app [5, 20] rfl rfl rfl rfl Tryd.underlying22 Tryd.underlying22 in_5 rfl rfl rfl (bl out5_0) (by decide) rfl (bl r'1) h4 (by decide) rfl rfl (bapp out5_0 r'1) (lapp out5_0 r'1)) ?_
      refine r_op rfl rfl (PureD.opD (p_move rfl rfl)) ?_
      refine chkK H fun h5 H => ?_
      refine r_op rfl rfl (u_app [24] rfl rfl rfl rfl Tryd.underlying22 Tryd.underlying22 in_5 rfl rfl rfl (bl (out5_0 ++ r'1)) (by decide) rfl (bl (lrd parts1 t16_0.toNat)) h5 (by decide) rfl rfl (bapp (out5_0 ++ r'1) (lrd parts1 t16_0.toNat)) (lapp (out5_0 ++ r'1) (lrd parts1 t16_0.toNat))) ?_
      refine r_op rfl rfl (PureD.opD (p_asg rfl rfl)) ?_
      refine RunW_st [(5, .c (.own 5 ((out5_0 ++ r'1) ++ (lrd parts1 t16_0.toNat)).length 1)), (14, .c (.p (AV.lists parts1))), (15, .c (.p (AV.int (parts1.length : Int)))), (16, .c (.p (AV.int t16_0)))] [(5, .pure (bcells ((out5_0 ++ r'1) ++ (lrd parts1 t16_0.toNat))))] rfl ⟨TLes.same _, TLes.same _, TLes.same _, TLes.same _, trivial⟩ ⟨rfl, trivial⟩ ?_
      refine RunW_nil ?_
      refine AW2_reg [0, 1] rfl ?_
      refine r_op rfl rfl (PureD.opD (p_bin rfl rfl rfl rfl)) ?_
      refine r_op rfl rfl (PureD.opD (p_move rfl rfl)) ?_
      refine RunW_st [(5, .c (.own 5 ((out5_0 ++ r'1) ++ (lrd parts1 t16_0.toNat)).length 1)), (14, .c (.p (AV.lists parts1))), (15, .c (.p (AV.int (parts1.length : Int)))), (16, .c (.p (AV.int (w64 (t16_0 + (1 : Int))))))] [(5, .pure (bcells ((out5_0 ++ r'1) ++ (lrd parts1 t16_0.toNat))))] rfl ⟨TLes.same _, TLes.same _, TLes.same _, TLes.same _, trivial⟩ ⟨rfl, trivial⟩ ?_
      refine RunW_nil ?_
      have hz := some_elim H
      subst hz
      exact ⟨rfl, rfl⟩
    · replace H := ite_else h1 H
      refine AW2_st [(5, .c (.own 5 out5_0.length 1))] [(5, .pure (bcells out5_0))] rfl ⟨TLes.same _, trivial⟩ ⟨rfl, trivial⟩ ?_
      refine AW2_exit ?_
      refine thenQ2_exit ?_
      have hz := some_elim H
      subst hz
      exact ⟨rfl, rfl⟩
  · obtain ⟨rfl, rfl⟩ := hs
    refine ⟨by simp, ?_⟩
    refine blockQ2_exit ?_
    refine AW2_seq ?_
    refine AW2_reg [0, 1] rfl ?_
    refine r_op rfl rfl (PureD.opD (p_move rfl rfl)) ?_
    refine r_op rfl rfl (PureD.opD (p_asg rfl rfl)) ?_
    refine RunW_st [(4, .c (.own 5 y'5.length 1))] [(5, .pure (bcells y'5))] rfl ⟨TLes.same _, trivial⟩ ⟨rfl, trivial⟩ ?_
    refine RunW_gho (Gho_ren 5 4 rfl rfl rfl rfl rfl) ?_
    refine RunW_st [(4, .c (.own 4 y'5.length 1))] [(4, .pure (bcells y'5))] rfl ⟨TLes.same _, trivial⟩ ⟨rfl, trivial⟩ ?_
    refine RunW_nil ?_
    refine AW2_st [(4, .c (.own 4 y'5.length 1))] [(4, .pure (bcells y'5))] rfl ⟨TLes.same _, trivial⟩ ⟨rfl, trivial⟩ ?_
    refine AW2_ret ?_
    have hz := some_elim H
    subst hz
    exact ⟨⟨res_tmp (.same _), trivial⟩, ⟨rfl, trivial⟩⟩
theorem g_oracle_frame_ac {tag0 : Int} {parts1 : List (List UInt8)} {r : (List UInt8)} (H : g_oracle_frame tag0 parts1 = some r) : ACp Tryd.prog 42 [(AV.int tag0), (AV.lists parts1)] (AV.bytes r) := ACp_pub (g_oracle_frame_ac2 H) (fun _ _ hm => lent_own hm rfl (bl r) (by decide))

/-! oracle.Salt -/
noncomputable def g_oracle_Salt (mode0 : Int) (secret1 : List UInt8) (step2 : Int) (place3 : Int) : Option ((List UInt8) × Int) :=
  (if (mode0 ≠ (1 : Int)) ∧ (mode0 ≠ (2 : Int)) then some ([], (2 : Int)) else (if (secret1.length : Int) > (16 : Int) then some ([], (1 : Int)) else (if mode0 = (2 : Int) then (g_oracle_eight step2).bind fun r'1 => (g_oracle_eight place3).bind fun r'2 => (g_oracle_frame (3 : Int) ([secret1, r'1, r'2] : List (List UInt8))).bind fun r'3 => some (r'3, (0 : Int)) else (g_oracle_eight step2).bind fun r'4 => (g_oracle_eight place3).bind fun r'5 => (g_oracle_frame (3 : Int) ([r'4, r'5] : List (List UInt8))).bind fun r'6 => (g_sum_Mac secret1 r'6).bind fun r'7 => if room (([] : List UInt8).length + r'7.toList.length) 1 then some (([] : List UInt8) ++ r'7.toList, (0 : Int)) else none)))
set_option maxHeartbeats 4000000 in
set_option maxRecDepth 100000 in
theorem g_oracle_Salt_ac {mode0 : Int} {secret1 : List UInt8} {step2 : Int} {place3 : Int} {r : (List UInt8) × Int} (H : g_oracle_Salt mode0 secret1 step2 place3 = some r) : ACp Tryd.prog 22 [(AV.int mode0), (AV.bytes secret1), (AV.int step2), (AV.int place3)] (.tup [(AV.bytes r.1), (AV.int r.2)]) := by
  refine ACp_of (AC2_of_body (vs := [.c (.p (AV.bytes r.1)), .c (.p (AV.int r.2))]) Tryd.func22 rfl rfl (Nat.le_of_ble_eq_true rfl) rfl ?_) (fun _ => .same _)
  unfold g_oracle_Salt at H
  refine AW2_st [(0, .c (.p (AV.int mode0))), (1, .c (.p (AV.bytes secret1))), (2, .c (.p (AV.int step2))), (3, .c (.p (AV.int place3)))] [] rfl ⟨TLes.same _, TLes.same _, TLes.same _, TLes.same _, trivial⟩ trivial ?_
  refine AW2_seq ?_
  refine AW2_reg [0, 1] rfl ?_
  refine r_op rfl rfl (PureD.opD (p_asgn rfl)) ?_
  refine r_op rfl rfl (PureD.opD (p_asg rfl rfl)) ?_
  refine RunW_st [(0, .c (.p (AV.int mode0))), (1, .c (.p (AV.bytes secret1))), (2, .c (.p (AV.int step2))), (3, .c (.p (AV.int place3)))] [] rfl ⟨TLes.same _, TLes.same _, TLes.same _, TLes.same _, trivial⟩ trivial ?_
  refine RunW_nil ?_
  refine AW2_seq ?_
  refine AW2_seq ?_
  refine AW2_mid (⟨[(0, .c (.p (AV.int mode0))), (1, .c (.p (AV.bytes secret1))), (2, .c (.p (AV.int step2))), (3, .c (.p (AV.int place3))), (16, .c (.p (.bool (decide ((mode0 ≠ (1 : Int)) ∧ (mode0 ≠ (2 : Int)))))))], [], 40⟩ : TS) ?_ ?_
  · refine AW2_reg [0, 1, 2, 3, 4, 5] rfl ?_
    refine r_op rfl rfl (PureD.opD (p_move rfl rfl)) ?_
    refine r_op rfl rfl (PureD.opD (p_ine rfl rfl rfl)) ?_
    refine r_op rfl rfl (PureD.opD (p_move rfl rfl)) ?_
    refine (Classical.em (mode0 ≠ (1 : Int))).elim (fun h1 => ?_) (fun h1 => ?_)
    · refine r_on rfl rfl rfl rfl (decide_eq_true (p := mode0 ≠ (1 : Int)) h1) rfl (PureD.opD (p_move rfl rfl)) ?_
      refine r_on rfl rfl rfl rfl (decide_eq_true (p := mode0 ≠ (1 : Int)) h1) rfl (PureD.opD (p_ine rfl rfl rfl)) ?_
      refine r_op rfl rfl (PureD.opD (p_pkt rfl rfl (decide_eq_true (p := mode0 ≠ (1 : Int)) h1) (tb ((and_l (p := mode0 ≠ (1 : Int)) (q := mode0 ≠ (2 : Int)) h1))))) ?_
      refine RunW_st [(0, .c (.p (AV.int mode0))), (1, .c (.p (AV.bytes secret1))), (2, .c (.p (AV.int step2))), (3, .c (.p (AV.int place3))), (16, .c (.p (.bool (decide ((mode0 ≠ (1 : Int)) ∧ (mode0 ≠ (2 : Int)))))))] [] rfl ⟨TLes.same _, TLes.same _, TLes.same _, TLes.same _, TLes.same _, trivial⟩ trivial ?_
      exact RunW_nil rfl
    · refine r_off rfl rfl rfl rfl (decide_eq_false (p := mode0 ≠ (1 : Int)) h1) rfl rfl ?_
      refine r_off rfl rfl rfl rfl (decide_eq_false (p := mode0 ≠ (1 : Int)) h1) rfl rfl ?_
      refine r_op rfl rfl (PureD.opD (p_pkf rfl rfl (decide_eq_false (p := mode0 ≠ (1 : Int)) h1) (tb (decide_eq_false (p := (mode0 ≠ (1 : Int)) ∧ (mode0 ≠ (2 : Int))) (fun x => h1 x.1)).symm))) ?_
      refine RunW_st [(0, .c (.p (AV.int mode0))), (1, .c (.p (AV.bytes secret1))), (2, .c (.p (AV.int step2))), (3, .c (.p (AV.int place3))), (16, .c (.p (.bool (decide ((mode0 ≠ (1 : Int)) ∧ (mode0 ≠ (2 : Int)))))))] [] rfl ⟨TLes.same _, TLes.same _, TLes.same _, TLes.same _, TLes.same _, trivial⟩ trivial ?_
      exact RunW_nil rfl
  · refine AW2_if (p := (mode0 ≠ (1 : Int)) ∧ (mode0 ≠ (2 : Int))) rfl (fun h2 => ?_) (fun h2 => ?_)
    · replace H := ite_then h2 H
      refine AW2_seq ?_
      refine AW2_reg [0, 1] rfl ?_
      refine r_op rfl rfl (PureD.opD (p_asgn rfl)) ?_
      refine r_op rfl rfl (PureD.opD (p_asg rfl rfl)) ?_
      refine RunW_st [(8, .c (.p .nil)), (9, .c (.p (AV.int (2 : Int))))] [] rfl ⟨TLes.same _, TLes.same _, trivial⟩ trivial ?_
      refine RunW_nil ?_
      refine AW2_ret ?_
      have hz := some_elim H
      subst hz
      exact ⟨⟨res_tmp TLes.nil0, res_tmp (.same _), trivial⟩, trivial⟩
    · replace H := ite_else h2 H
      refine AW2_st [(0, .c (.p (AV.int mode0))), (1, .c (.p (AV.bytes secret1))), (2, .c (.p (AV.int step2))), (3, .c (.p (AV.int place3)))] [] rfl ⟨TLes.same _, TLes.same _, TLes.same _, TLes.same _, trivial⟩ trivial ?_
      refine AW2_skip ?_
      refine AW2_seq ?_
      refine AW2_seq ?_
      refine AW2_reg [0, 1, 2] rfl ?_
      refine r_op rfl rfl (PureD.opD (p_move rfl rfl)) ?_
      refine r_op rfl rfl (PureD.opD (p_lenl rfl Tryd.underlying22 rfl rfl)) ?_
      refine r_op rfl rfl (PureD.opD (p_bin rfl rfl rfl rfl)) ?_
      refine RunW_st [(0, .c (.p (AV.int mode0))), (1, .c (.p (AV.bytes secret1))), (2, .c (.p (AV.int step2))), (3, .c (.p (AV.int place3))), (19, .c (.p (.bool (decide ((secret1.length : Int) > (16 : Int))))))] [] rfl ⟨TLes.same _, TLes.same _, TLes.same _, TLes.same _, TLes.same _, trivial⟩ trivial ?_
      refine RunW_nil ?_
      refine AW2_if (p := (secret1.length : Int) > (16 : Int)) rfl (fun h3 => ?_) (fun h3 => ?_)
      · replace H := ite_then h3 H
        refine AW2_seq ?_
        refine AW2_reg [0, 1] rfl ?_
        refine r_op rfl rfl (PureD.opD (p_asgn rfl)) ?_
        refine r_op rfl rfl (PureD.opD (p_asg rfl rfl)) ?_
        refine RunW_st [(8, .c (.p .nil)), (9, .c (.p (AV.int (1 : Int))))] [] rfl ⟨TLes.same _, TLes.same _, trivial⟩ trivial ?_
        refine RunW_nil ?_
        refine AW2_ret ?_
        have hz := some_elim H
        subst hz
        exact ⟨⟨res_tmp TLes.nil0, res_tmp (.same _), trivial⟩, trivial⟩
      · replace H := ite_else h3 H
        refine AW2_st [(0, .c (.p (AV.int mode0))), (1, .c (.p (AV.bytes secret1))), (2, .c (.p (AV.int step2))), (3, .c (.p (AV.int place3)))] [] rfl ⟨TLes.same _, TLes.same _, TLes.same _, TLes.same _, trivial⟩ trivial ?_
        refine AW2_skip ?_
        refine AW2_seq ?_
        refine AW2_seq ?_
        refine AW2_reg [0, 1] rfl ?_
        refine r_op rfl rfl (PureD.opD (p_move rfl rfl)) ?_
        refine r_op rfl rfl (PureD.opD (p_ieq rfl rfl rfl)) ?_
        refine RunW_st [(1, .c (.p (AV.bytes secret1))), (2, .c (.p (AV.int step2))), (3, .c (.p (AV.int place3))), (21, .c (.p (.bool (decide (mode0 = (2 : Int))))))] [] rfl ⟨TLes.same _, TLes.same _, TLes.same _, TLes.same _, trivial⟩ trivial ?_
        refine RunW_nil ?_
        refine AW2_if (p := mode0 = (2 : Int)) rfl (fun h4 => ?_) (fun h4 => ?_)
        · replace H := ite_then h4 H
          refine AW2_seq ?_
          refine AW2_reg [0, 1, 2, 3, 4, 5, 6, 7, 8] rfl ?_
          refine r_op rfl rfl (PureD.opD (p_move rfl rfl)) ?_
          refine r_op rfl rfl (PureD.opD (p_move rfl rfl)) ?_
          refine bindK H fun r'1 h5 H => ?_
          refine r_op rfl rfl (PureD.opD (p_callp rfl rfl rfl Tryd.func43 rfl rfl (g_oracle_eight_ac h5) ⟨rfl, trivial⟩)) ?_
          refine r_op rfl rfl (PureD.opD (p_move rfl rfl)) ?_
          refine bindK H fun r'2 h6 H => ?_
          refine r_op rfl rfl (PureD.opD (p_callp rfl rfl rfl Tryd.func43 rfl rfl (g_oracle_eight_ac h6) ⟨rfl, trivial⟩)) ?_
          refine r_op rfl rfl (MakeD.opD (u_bs 27 rfl Tryd.underlying44 in_22 rfl one_22 (by decide) (by decide) rfl rfl rfl) rfl rfl rfl rfl) ?_
          refine RunW_st [(1, .c (.p (AV.bytes secret1))), (2, .c (.p (AV.int step2))), (3, .c (.p (AV.int place3))), (21, .c (.p (.bool (decide (mode0 = (2 : Int)))))), (22, .c (.p (AV.bytes secret1))), (23, .c (.p (AV.int step2))), (24, .c (.p (AV.bytes r'1))), (25, .c (.p (AV.int place3))), (26, .c (.p (AV.bytes r'2))), (27, .c (.own 27 ([secret1, r'1, r'2] : List (List UInt8)).length 1))] [(27, .pure (([secret1, r'1, r'2] : List (List UInt8)).map AV.bytes))] rfl ⟨TLes.same _, TLes.same _, TLes.same _, TLes.same _, TLes.same _, TLes.same _, TLes.same _, TLes.same _, TLes.same _, TLes.own rfl, trivial⟩ ⟨rfl, trivial⟩ ?_
          refine RunW_gho (Gho_pubs [27] ⟨rfl, trivial⟩ rfl (ml AV.bytes ([secret1, r'1, r'2] : List (List UInt8))) (by decide)) ?_
          refine bindK H fun r'3 h7 H => ?_
          refine r_op rfl rfl (PureD.opD (p_callp rfl rfl rfl Tryd.func42 rfl rfl (g_oracle_frame_ac h7) ⟨rfl, rfl, trivial⟩)) ?_
          refine r_op rfl rfl (PureD.opD (p_asg rfl rfl)) ?_
          refine r_op rfl rfl (PureD.opD (p_asg rfl rfl)) ?_
          refine RunW_st [(8, .c (.p (AV.bytes r'3))), (9, .c (.p (AV.int (0 : Int))))] [] rfl ⟨TLes.same _, TLes.same _, trivial⟩ trivial ?_
          refine RunW_nil ?_
          refine AW2_ret ?_
          have hz := some_elim H
          subst hz
          exact ⟨⟨res_tmp (.same _), res_tmp (.same _), trivial⟩, trivial⟩
        · replace H := ite_else h4 H
          refine AW2_st [(1, .c (.p (AV.bytes secret1))), (2, .c (.p (AV.int step2))), (3, .c (.p (AV.int place3)))] [] rfl ⟨TLes.same _, TLes.same _, TLes.same _, trivial⟩ trivial ?_
          refine AW2_skip ?_
          refine AW2_seq ?_
          refine AW2_reg [0, 1, 2, 3, 4, 5, 6, 7, 8, 9] rfl ?_
          refine r_op rfl rfl (PureD.opD (p_move rfl rfl)) ?_
          refine r_op rfl rfl (PureD.opD (p_move rfl rfl)) ?_
          refine bindK H fun r'4 h8 H => ?_
          refine r_op rfl rfl (PureD.opD (p_callp rfl rfl rfl Tryd.func43 rfl rfl (g_oracle_eight_ac h8) ⟨rfl, trivial⟩)) ?_
          refine r_op rfl rfl (PureD.opD (p_move rfl rfl)) ?_
          refine bindK H fun r'5 h9 H => ?_
          refine r_op rfl rfl (PureD.opD (p_callp rfl rfl rfl Tryd.func43 rfl rfl (g_oracle_eight_ac h9) ⟨rfl, trivial⟩)) ?_
          refine r_op rfl rfl (MakeD.opD (u_bs 34 rfl Tryd.underlying44 in_22 rfl one_22 (by decide) (by decide) rfl rfl rfl) rfl rfl rfl rfl) ?_
          refine RunW_st [(1, .c (.p (AV.bytes secret1))), (2, .c (.p (AV.int step2))), (3, .c (.p (AV.int place3))), (29, .c (.p (AV.bytes secret1))), (30, .c (.p (AV.int step2))), (31, .c (.p (AV.bytes r'4))), (32, .c (.p (AV.int place3))), (33, .c (.p (AV.bytes r'5))), (34, .c (.own 34 ([r'4, r'5] : List (List UInt8)).length 1))] [(34, .pure (([r'4, r'5] : List (List UInt8)).map AV.bytes))] rfl ⟨TLes.same _, TLes.same _, TLes.same _, TLes.same _, TLes.same _, TLes.same _, TLes.same _, TLes.same _, TLes.own rfl, trivial⟩ ⟨rfl, trivial⟩ ?_
          refine RunW_gho (Gho_pubs [34] ⟨rfl, trivial⟩ rfl (ml AV.bytes ([r'4, r'5] : List (List UInt8))) (by decide)) ?_
          refine bindK H fun r'6 h10 H => ?_
          refine r_op rfl rfl (PureD.opD (p_callp rfl rfl rfl Tryd.func42 rfl rfl (g_oracle_frame_ac h10) ⟨rfl, rfl, trivial⟩)) ?_
          refine bindK H fun r'7 h11 H => ?_
          refine r_op rfl rfl (PureD.opD (p_callp rfl rfl rfl Tryd.func20 rfl rfl (g_sum_Mac_ac h11) ⟨rfl, rfl, trivial⟩)) ?_
          refine r_op rfl rfl (MakeD.opD (u_alloc 10 rfl in_23 one_23 zc_23) rfl rfl rfl rfl) ?_
          refine r_op rfl rfl (u_st rfl rfl rfl rfl rfl in_23 ((bcells_length _).trans (vlen r'7)) (ne_of_lt (n := 0) (Nat.lt_of_lt_of_eq (by decide) (Eq.symm ((bcells_length _).trans (vlen (Vector.replicate 32 (0 : UInt8))))))) (Upd.refl (((bcells_length _).trans (vlen r'7)).trans ((bcells_length _).trans (vlen (Vector.replicate 32 (0 : UInt8)))).symm))) ?_
          refine RunW_st [(10, .c (.ptr 10 (0)))] [(10, .pure (bcells r'7.toList))] rfl ⟨TLes.same _, trivial⟩ ⟨rfl, trivial⟩ ?_
          refine RunW_nil ?_
          refine AW2_seq ?_
          refine AW2_reg [0, 1, 2, 3, 4] rfl ?_
          refine r_op rfl rfl (MakeD.opD (n_bs0 37 rfl Tryd.underlying22 in_5) rfl rfl rfl rfl) ?_
          refine r_op rfl rfl (PureD.opD (u_cuta rfl rfl Tryd.underlying23 in_5 rfl rfl (ne_of_lt (n := 0) (Nat.lt_of_lt_of_eq (by decide) (Eq.symm ((bcells_length _).trans (vlen r'7))))) (Sub.refl _) (((bcells_length _).trans (vlen r'7)).trans (by decide)))) ?_
          refine chkK H fun h12 H => ?_
          refine r_op rfl rfl (u_app [37] rfl rfl rfl rfl Tryd.underlying22 Tryd.underlying22 in_5 rfl rfl rfl (bl ([] : List UInt8)) (by decide) (src_sll rfl rfl (ne_of_lt (n := 0) (Nat.lt_of_lt_of_eq (by decide) (Eq.symm ((bcells_length _).trans (vlen r'7))))) (Sub.refl _) (((bcells_length _).trans (vlen r'7)).trans (by decide)) (vlen _)) (bl r'7.toList) h12 (by decide) rfl rfl (bapp ([] : List UInt8) r'7.toList) (lapp ([] : List UInt8) r'7.toList)) ?_
          refine r_op rfl rfl (PureD.opD (p_asg rfl rfl)) ?_
          refine r_op rfl rfl (PureD.opD (p_asg rfl rfl)) ?_
          refine RunW_st [(8, .c (.own 37 (([] : List UInt8) ++ r'7.toList).length 1)), (9, .c (.p (AV.int (0 : Int))))] [(37, .pure (bcells (([] : List UInt8) ++ r'7.toList)))] rfl ⟨TLes.same _, TLes.same _, trivial⟩ ⟨rfl, trivial⟩ ?_
          refine RunW_gho (Gho_ren 37 8 rfl rfl rfl rfl rfl) ?_
          refine RunW_st [(8, .c (.own 8 (([] : List UInt8) ++ r'7.toList).length 1)), (9, .c (.p (AV.int (0 : Int))))] [(8, .pure (bcells (([] : List UInt8) ++ r'7.toList)))] rfl ⟨TLes.same _, TLes.same _, trivial⟩ ⟨rfl, trivial⟩ ?_
          refine RunW_nil ?_
          refine AW2_gho (Gho_pubs [8] ⟨rfl, trivial⟩ rfl (bl (([] : List UInt8) ++ r'7.toList)) (by decide)) ?_
          refine AW2_ret ?_
          have hz := some_elim H
          subst hz
          exact ⟨⟨res_tmp (.same _), res_tmp (.same _), trivial⟩, trivial⟩

/-! chirographref.badMode -/
noncomputable def g_ref_badMode (mode0 : Int) : Option (Bool) :=
  some (decide ((mode0 ≠ (1 : Int)) ∧ (mode0 ≠ (2 : Int))))
set_option maxHeartbeats 4000000 in
set_option maxRecDepth 100000 in
theorem g_ref_badMode_ac {mode0 : Int} {r : Bool} (H : g_ref_badMode mode0 = some r) : ACp Tryd.prog 44 [(AV.int mode0)] (AV.bool r) := by
  refine ACp_of (AC2_of_body (vs := [.c (.p (AV.bool r))]) Tryd.func44 rfl rfl (Nat.le_of_ble_eq_true rfl) rfl ?_) (fun _ => .same _)
  unfold g_ref_badMode at H
  refine AW2_st [(0, .c (.p (AV.int mode0)))] [] rfl ⟨TLes.same _, trivial⟩ trivial ?_
  refine AW2_seq ?_
  refine AW2_reg [0] rfl ?_
  refine r_op rfl rfl (PureD.opD (p_asg rfl rfl)) ?_
  refine RunW_st [(0, .c (.p (AV.int mode0)))] [] rfl ⟨TLes.same _, trivial⟩ trivial ?_
  refine RunW_nil ?_
  refine AW2_seq ?_
  refine AW2_mid (⟨[(2, .c (.p (.bool (decide ((mode0 ≠ (1 : Int)) ∧ (mode0 ≠ (2 : Int)))))))], [], 9⟩ : TS) ?_ ?_
  · refine AW2_reg [0, 1, 2, 3, 4, 5, 6] rfl ?_
    refine r_op rfl rfl (PureD.opD (p_move rfl rfl)) ?_
    refine r_op rfl rfl (PureD.opD (p_ine rfl rfl rfl)) ?_
    refine r_op rfl rfl (PureD.opD (p_move rfl rfl)) ?_
    refine (Classical.em (mode0 ≠ (1 : Int))).elim (fun h1 => ?_) (fun h1 => ?_)
    · refine r_on rfl rfl rfl rfl (decide_eq_true (p := mode0 ≠ (1 : Int)) h1) rfl (PureD.opD (p_move rfl rfl)) ?_
      refine r_on rfl rfl rfl rfl (decide_eq_true (p := mode0 ≠ (1 : Int)) h1) rfl (PureD.opD (p_ine rfl rfl rfl)) ?_
      refine r_op rfl rfl (PureD.opD (p_pkt rfl rfl (decide_eq_true (p := mode0 ≠ (1 : Int)) h1) (tb ((and_l (p := mode0 ≠ (1 : Int)) (q := mode0 ≠ (2 : Int)) h1))))) ?_
      refine r_op rfl rfl (PureD.opD (p_asg rfl rfl)) ?_
      refine RunW_st [(2, .c (.p (.bool (decide ((mode0 ≠ (1 : Int)) ∧ (mode0 ≠ (2 : Int)))))))] [] rfl ⟨TLes.same _, trivial⟩ trivial ?_
      exact RunW_nil rfl
    · refine r_off rfl rfl rfl rfl (decide_eq_false (p := mode0 ≠ (1 : Int)) h1) rfl rfl ?_
      refine r_off rfl rfl rfl rfl (decide_eq_false (p := mode0 ≠ (1 : Int)) h1) rfl rfl ?_
      refine r_op rfl rfl (PureD.opD (p_pkf rfl rfl (decide_eq_false (p := mode0 ≠ (1 : Int)) h1) (tb (decide_eq_false (p := (mode0 ≠ (1 : Int)) ∧ (mode0 ≠ (2 : Int))) (fun x => h1 x.1)).symm))) ?_
      refine r_op rfl rfl (PureD.opD (p_asg rfl rfl)) ?_
      refine RunW_st [(2, .c (.p (.bool (decide ((mode0 ≠ (1 : Int)) ∧ (mode0 ≠ (2 : Int)))))))] [] rfl ⟨TLes.same _, trivial⟩ trivial ?_
      exact RunW_nil rfl
  · refine AW2_ret ?_
    have hz := some_elim H
    subst hz
    exact ⟨⟨res_tmp (.same _), trivial⟩, trivial⟩

/-! chirographref.framed -/
noncomputable def g_ref_framed_l0 (parts1 : List (List UInt8)) : (List UInt8) × Int → Option (((List UInt8) × Int) ⊕ (((List UInt8))))
  | (s5_0, t17_0) => (if t17_0 < (parts1.length : Int) then if 0 ≤ t17_0 ∧ t17_0 < (parts1.length : Int) then (g_ref_big (UInt64.ofInt ((lrd parts1 t17_0.toNat).length : Int)) (4 : Int)).bind fun r'1 => if r'1.length + (lrd parts1 t17_0.toNat).length ≤ 9223372036854775807 then if s5_0.length + (r'1 ++ (lrd parts1 t17_0.toNat)).length ≤ 9223372036854775807 then some (.inl (s5_0 ++ (r'1 ++ (lrd parts1 t17_0.toNat)), w64 (t17_0 + (1 : Int)))) else none else none else none else some (.inr s5_0))
noncomputable def g_ref_framed (tag0 : Int) (parts1 : List (List UInt8)) : Option ((List UInt8)) :=
  (loopO (g_ref_framed_l0 parts1) (([UInt8.ofInt tag0, UInt8.ofInt (parts1.length : Int)] : List UInt8), (0 : Int))).bind fun y'5 => some y'5
set_option maxHeartbeats 4000000 in
set_option maxRecDepth 100000 in
theorem g_ref_framed_ac {tag0 : Int} {parts1 : List (List UInt8)} {r : (List UInt8)} (H : g_ref_framed tag0 parts1 = some r) : ACp Tryd.prog 46 [(AV.int tag0), (AV.lists parts1)] (AV.txt r) := by
  refine ACp_of (AC2_of_body (vs := [.c (.p (AV.txt r))]) Tryd.func46 rfl rfl (Nat.le_of_ble_eq_true rfl) rfl ?_) (fun _ => .same _)
  unfold g_ref_framed at H
  refine AW2_st [(0, .c (.p (AV.int tag0))), (1, .c (.p (AV.lists parts1)))] [] rfl ⟨TLes.same _, TLes.same _, trivial⟩ trivial ?_
  refine AW2_seq ?_
  refine AW2_reg [0] rfl ?_
  refine r_op rfl rfl (PureD.opD (p_asg rfl rfl)) ?_
  refine RunW_st [(0, .c (.p (AV.int tag0))), (1, .c (.p (AV.lists parts1)))] [] rfl ⟨TLes.same _, TLes.same _, trivial⟩ trivial ?_
  refine RunW_nil ?_
  refine AW2_seq ?_
  refine AW2_reg [0, 1, 2, 3, 4, 5, 6, 7] rfl ?_
  refine r_op rfl rfl (PureD.opD (p_move rfl rfl)) ?_
  refine r_op rfl rfl (PureD.opD (p_i_u8 rfl Tryd.underlying3 Tryd.underlying5 rfl)) ?_
  refine r_op rfl rfl (PureD.opD (p_move rfl rfl)) ?_
  refine r_op rfl rfl (PureD.opD (p_lenl rfl Tryd.underlying44 rfl rfl)) ?_
  refine r_op rfl rfl (PureD.opD (p_i_u8 rfl Tryd.underlying3 Tryd.underlying5 rfl)) ?_
  refine r_op rfl rfl (MakeD.opD (u_bs 13 rfl Tryd.underlying22 in_5 rfl one_5 (by decide) (by decide) rfl rfl rfl) rfl rfl rfl rfl) ?_
  refine r_op rfl rfl (PureD.opD (p_cbo (bs := ([UInt8.ofInt tag0, UInt8.ofInt (parts1.length : Int)] : List UInt8)) rfl rfl Tryd.underlying22 Tryd.underlying5 Tryd.underlying9 rfl rfl)) ?_
  refine r_op rfl rfl (PureD.opD (p_asg rfl rfl)) ?_
  refine RunW_st [(1, .c (.p (AV.lists parts1))), (5, .c (.p (AV.txt ([UInt8.ofInt tag0, UInt8.ofInt (parts1.length : Int)] : List UInt8))))] [] rfl ⟨TLes.same _, TLes.same _, trivial⟩ trivial ?_
  refine RunW_nil ?_
  refine AW2_seq ?_
  refine AW2_seq ?_
  refine AW2_reg [0, 1, 2] rfl ?_
  refine r_op rfl rfl (PureD.opD (p_move rfl rfl)) ?_
  refine r_op rfl rfl (PureD.opD (p_lenl rfl Tryd.underlying44 rfl rfl)) ?_
  refine r_op rfl rfl (PureD.opD (p_move rfl rfl)) ?_
  refine RunW_st [(5, .c (.p (AV.txt ([UInt8.ofInt tag0, UInt8.ofInt (parts1.length : Int)] : List UInt8)))), (15, .c (.p (AV.lists parts1))), (16, .c (.p (AV.int (parts1.length : Int)))), (17, .c (.p (AV.int (0 : Int))))] [] rfl ⟨TLes.same _, TLes.same _, TLes.same _, TLes.same _, trivial⟩ trivial ?_
  refine RunW_nil ?_
  refine AW2_block ?_
  refine AW2_st [(5, .c (.p (AV.txt ([UInt8.ofInt tag0, UInt8.ofInt (parts1.length : Int)] : List UInt8)))), (15, .c (.p (AV.lists parts1))), (16, .c (.p (AV.int (parts1.length : Int)))), (17, .c (.p (AV.int (0 : Int))))] [] rfl ⟨TLes.same _, TLes.same _, TLes.same _, TLes.same _, trivial⟩ trivial ?_
  refine bindK H fun y'5 h6 H => ?_
  refine AW2_loopO (fun a'2 : (List UInt8) × Int => (⟨[(5, .c (.p (AV.txt a'2.1))), (15, .c (.p (AV.lists parts1))), (16, .c (.p (AV.int (parts1.length : Int)))), (17, .c (.p (AV.int a'2.2)))], [], 32⟩ : TS)) (fun (y'3 : ((List UInt8))) e s' => e = Go.Exit.exit 0 ∧ s' = (⟨[(5, .c (.p (AV.txt y'3)))], [], 32⟩ : TS)) h6 rfl (fun a x hx => ?_) (fun e s' hs => ?_)
  · clear H
    obtain ⟨s5_0, t17_0⟩ := a
    have H := hx
    clear hx
    unfold g_ref_framed_l0 at H
    refine AW2_seq ?_
    refine AW2_reg [0] rfl ?_
    refine r_op rfl rfl (PureD.opD (p_bin rfl rfl rfl rfl)) ?_
    refine RunW_st [(5, .c (.p (AV.txt s5_0))), (15, .c (.p (AV.lists parts1))), (16, .c (.p (AV.int (parts1.length : Int)))), (17, .c (.p (AV.int t17_0))), (18, .c (.p (.bool (decide (t17_0 < (parts1.length : Int))))))] [] rfl ⟨TLes.same _, TLes.same _, TLes.same _, TLes.same _, TLes.same _, trivial⟩ trivial ?_
    refine RunW_nil ?_
    refine AW2_seq ?_
    refine AW2_if (p := t17_0 < (parts1.length : Int)) rfl (fun h1 => ?_) (fun h1 => ?_)
    · replace H := ite_then h1 H
      refine AW2_st [(5, .c (.p (AV.txt s5_0))), (15, .c (.p (AV.lists parts1))), (16, .c (.p (AV.int (parts1.length : Int)))), (17, .c (.p (AV.int t17_0)))] [] rfl ⟨TLes.same _, TLes.same _, TLes.same _, TLes.same _, trivial⟩ trivial ?_
      refine AW2_skip ?_
      refine AW2_seq ?_
      refine AW2_block ?_
      refine AW2_seq ?_
      refine AW2_reg [0, 1, 2] rfl ?_
      refine chkK H fun h2 H => ?_
      refine r_op rfl rfl (PureD.opD (u_ixl rfl rfl Tryd.underlying44 in_22 rfl rfl (ixe h2) (ixn h2) (lne (ixn h2)))) ?_
      refine r_op rfl rfl (PureD.opD (u_ld rfl rfl Tryd.underlying22 rfl rfl (Sub.map default (ixn h2)))) ?_
      refine r_op rfl rfl (PureD.opD (p_asg rfl rfl)) ?_
      refine RunW_st [(5, .c (.p (AV.txt s5_0))), (7, .c (.p (AV.bytes (lrd parts1 t17_0.toNat)))), (15, .c (.p (AV.lists parts1))), (16, .c (.p (AV.int (parts1.length : Int)))), (17, .c (.p (AV.int t17_0)))] [] rfl ⟨TLes.same _, TLes.same _, TLes.same _, TLes.same _, TLes.same _, trivial⟩ trivial ?_
      refine RunW_nil ?_
      refine bindK H fun r'1 h3 H => ?_
      refine chkK H fun h4 H => ?_
      refine chkK H fun h5 H => ?_
      refine AW2_ghoQ ?_
      refine AW2_draw 8 [8, 9] (fun k => ([.c (.p (AV.txt s5_0)), .c (.p (AV.bytes (lrd parts1 t17_0.toNat))), .c (.p (AV.int ((lrd parts1 t17_0.toNat).length : Int))), .c (.p (AV.u64 (UInt64.ofInt ((lrd parts1 t17_0.toNat).length : Int)))), .c (.p (AV.txt r'1)), .c (.p (AV.bytes (lrd parts1 t17_0.toNat))), .c (.p (AV.txt (lrd parts1 t17_0.toNat))), .c (.p (AV.txt (r'1 ++ (lrd parts1 t17_0.toNat))))] : List TV).getD k TV.any) (fun k => ([[(5, none)], [(7, none)], [(22, some 1)], [(23, some 2)], [(24, some 3)], [(7, none)], [(26, some 5)], [(25, some 4), (27, some 6)]] : List (List (Nat × Option Nat))).getD k []) [(5, none), (15, none), (16, none), (17, none), (21, some 0), (28, some 7)] [] (fun k => ([[], [], [1], [1, 2], [1, 2, 3], [], [5], [1, 2, 3, 4, 5, 6], [0, 1, 2, 3, 4, 5, 6, 7], [0, 1, 2, 3, 4, 5, 6, 7, 8]] : List (List Nat)).getD k []) mixed (by kernel_rfl) rfl rfl (a_op (g_x rfl (x_p rfl (p_move rfl rfl) rfl)) (a_op (g_x rfl (x_p rfl (p_move rfl rfl) rfl)) (a_op (g_x rfl (x_p rfl (p_lenl rfl Tryd.underlying22 rfl rfl) rfl)) (a_op (g_x rfl (x_p rfl (p_i_u64 rfl Tryd.underlying3 Tryd.underlying66 rfl) rfl)) (a_op (g_x rfl (x_p rfl (p_callp rfl rfl rfl Tryd.func45 rfl rfl (g_ref_big_ac h3) ⟨rfl, rfl, trivial⟩) rfl)) (a_op (g_x rfl (x_p rfl (p_move rfl rfl) rfl)) (a_op (g_x rfl (x_p rfl (p_cb rfl rfl Tryd.underlying22 Tryd.underlying5 Tryd.underlying9 rfl) rfl)) (a_op (g_x rfl (x_p rfl (p_cat rfl rfl rfl h4) rfl)) (a_nil))))))))) ?_
      refine t_op rfl rfl (PureD.opD (p_cat rfl rfl rfl h5)) ?_
      refine t_op rfl rfl (PureD.opD (p_asg rfl rfl)) ?_
      refine t_gho (Gho_st (L := [(5, .c (.p (AV.txt (s5_0 ++ (r'1 ++ (lrd parts1 t17_0.toNat)))))), (15, .c (.p (AV.lists parts1))), (16, .c (.p (AV.int (parts1.length : Int)))), (17, .c (.p (AV.int t17_0)))]) (H := []) rfl ⟨TLes.same _, TLes.same _, TLes.same _, TLes.same _, trivial⟩ trivial) ?_
      refine AW2_reg [0, 1] rfl ?_
      refine r_op rfl rfl (PureD.opD (p_bin rfl rfl rfl rfl)) ?_
      refine r_op rfl rfl (PureD.opD (p_move rfl rfl)) ?_
      refine RunW_st [(5, .c (.p (AV.txt (s5_0 ++ (r'1 ++ (lrd parts1 t17_0.toNat)))))), (15, .c (.p (AV.lists parts1))), (16, .c (.p (AV.int (parts1.length : Int)))), (17, .c (.p (AV.int (w64 (t17_0 + (1 : Int))))))] [] rfl ⟨TLes.same _, TLes.same _, TLes.same _, TLes.same _, trivial⟩ trivial ?_
      refine RunW_nil ?_
      have hz := some_elim H
      subst hz
      exact ⟨rfl, rfl⟩
    · replace H := ite_else h1 H
      refine AW2_st [(5, .c (.p (AV.txt s5_0)))] [] rfl ⟨TLes.same _, trivial⟩ trivial ?_
      refine AW2_exit ?_
      refine thenQ2_exit ?_
      have hz := some_elim H
      subst hz
      exact ⟨rfl, rfl⟩
  · obtain ⟨rfl, rfl⟩ := hs
    refine ⟨by simp, ?_⟩
    refine blockQ2_exit ?_
    refine AW2_seq ?_
    refine AW2_reg [0, 1] rfl ?_
    refine r_op rfl rfl (PureD.opD (p_move rfl rfl)) ?_
    refine r_op rfl rfl (PureD.opD (p_asg rfl rfl)) ?_
    refine RunW_st [(4, .c (.p (AV.txt y'5)))] [] rfl ⟨TLes.same _, trivial⟩ trivial ?_
    refine RunW_nil ?_
    refine AW2_ret ?_
    have hz := some_elim H
    subst hz
    exact ⟨⟨res_tmp (.same _), trivial⟩, trivial⟩
end Go.Proofs.YtoepdjccgngpdaaDoor.VM
