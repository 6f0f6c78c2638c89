/- Functions of the program, as they answer, and that their code comes to these answers. -/
import Derived.Test.YtoepdjccgngpdaaDoorGs5
namespace Go.Proofs.YtoepdjccgngpdaaDoor.VM
open Go Go.RowKit



/-! chirographref.big -/
noncomputable def g_ref_big_l0 (size1 : Int) : UInt64 × (List UInt8) × Int → Option ((UInt64 × (List UInt8) × Int) ⊕ (((List UInt8))))
  | (n0_0, s5_0, t7_0) => (if t7_0 < size1 then if ([n0_0.toUInt8] : List UInt8).length + s5_0.length ≤ 9223372036854775807 then some (.inl (shr_u64 n0_0 8, ([n0_0.toUInt8] : List UInt8) ++ s5_0, w64 (t7_0 + (1 : Int)))) else none else some (.inr s5_0))
noncomputable def g_ref_big (n0 : UInt64) (size1 : Int) : Option ((List UInt8)) :=
  (loopO (g_ref_big_l0 size1) (n0, [], (0 : Int))).bind fun y'4 => some y'4
set_option maxHeartbeats 4000000 in
set_option maxRecDepth 100000 in
theorem g_ref_big_ac {n0 : UInt64} {size1 : Int} {r : (List UInt8)} (H : g_ref_big n0 size1 = some r) : ACp Tryd.prog 45 [(AV.u64 n0), (AV.int size1)] (AV.txt r) := by
  refine ACp_of (AC2_of_body (vs := [.c (.p (AV.txt r))]) Tryd.func45 rfl rfl (Nat.le_of_ble_eq_true rfl) rfl ?_) (fun _ => .same _)
  unfold g_ref_big at H
  refine AW2_st [(0, .c (.p (AV.u64 n0))), (1, .c (.p (AV.int size1)))] [] rfl ⟨TLes.same _, TLes.same _, trivial⟩ trivial ?_
  refine AW2_seq ?_
  refine AW2_reg [0] rfl ?_
  refine r_op rfl rfl (PureD.opD (p_asg rfl rfl)) ?_
  refine RunW_st [(0, .c (.p (AV.u64 n0))), (1, .c (.p (AV.int size1)))] [] rfl ⟨TLes.same _, TLes.same _, trivial⟩ trivial ?_
  refine RunW_nil ?_
  refine AW2_seq ?_
  refine AW2_reg [0] rfl ?_
  refine r_op rfl rfl (PureD.opD (p_asg rfl rfl)) ?_
  refine RunW_st [(0, .c (.p (AV.u64 n0))), (1, .c (.p (AV.int size1))), (5, .c (.p (AV.txt [])))] [] rfl ⟨TLes.same _, TLes.same _, TLes.same _, trivial⟩ trivial ?_
  refine RunW_nil ?_
  refine AW2_seq ?_
  refine AW2_seq ?_
  refine AW2_reg [0, 1] rfl ?_
  refine r_op rfl rfl (PureD.opD (p_move rfl rfl)) ?_
  refine r_op rfl rfl (PureD.opD (p_move rfl rfl)) ?_
  refine RunW_st [(0, .c (.p (AV.u64 n0))), (5, .c (.p (AV.txt []))), (6, .c (.p (AV.int size1))), (7, .c (.p (AV.int (0 : Int))))] [] rfl ⟨TLes.same _, TLes.same _, TLes.same _, TLes.same _, trivial⟩ trivial ?_
  refine RunW_nil ?_
  refine AW2_block ?_
  refine AW2_st [(0, .c (.p (AV.u64 n0))), (5, .c (.p (AV.txt []))), (6, .c (.p (AV.int size1))), (7, .c (.p (AV.int (0 : Int))))] [] rfl ⟨TLes.same _, TLes.same _, TLes.same _, TLes.same _, trivial⟩ trivial ?_
  refine bindK H fun y'4 h3 H => ?_
  refine AW2_loopO (fun a'1 : UInt64 × (List UInt8) × Int => (⟨[(0, .c (.p (AV.u64 a'1.1))), (5, .c (.p (AV.txt a'1.2.1))), (6, .c (.p (AV.int size1))), (7, .c (.p (AV.int a'1.2.2)))], [], 19⟩ : TS)) (fun (y'2 : ((List UInt8))) e s' => e = Go.Exit.exit 0 ∧ s' = (⟨[(5, .c (.p (AV.txt y'2)))], [], 19⟩ : TS)) h3 rfl (fun a x hx => ?_) (fun e s' hs => ?_)
  · clear H
    obtain ⟨n0_0, s5_0, t7_0⟩ := a
    have H := hx
    clear hx
    unfold g_ref_big_l0 at H
    refine AW2_seq ?_
    refine AW2_reg [0] rfl ?_
    refine r_op rfl rfl (PureD.opD (p_bin rfl rfl rfl rfl)) ?_
    refine RunW_st [(0, .c (.p (AV.u64 n0_0))), (5, .c (.p (AV.txt s5_0))), (6, .c (.p (AV.int size1))), (7, .c (.p (AV.int t7_0))), (8, .c (.p (.bool (decide (t7_0 < size1)))))] [] rfl ⟨TLes.same _, TLes.same _, TLes.same _, TLes.same _, TLes.same _, trivial⟩ trivial ?_
    refine RunW_nil ?_
    refine AW2_seq ?_
    refine AW2_if (p := t7_0 < size1) rfl (fun h1 => ?_) (fun h1 => ?_)
    · replace H := ite_then h1 H
      refine AW2_st [(0, .c (.p (AV.u64 n0_0))), (5, .c (.p (AV.txt s5_0))), (6, .c (.p (AV.int size1))), (7, .c (.p (AV.int t7_0)))] [] rfl ⟨TLes.same _, TLes.same _, TLes.same _, TLes.same _, trivial⟩ trivial ?_
      refine AW2_skip ?_
      refine AW2_seq ?_
      refine AW2_block ?_
      refine AW2_seq ?_
      refine AW2_reg [0, 1, 2, 3, 4, 5, 6] rfl ?_
      refine r_op rfl rfl (PureD.opD (p_move rfl rfl)) ?_
      refine r_op rfl rfl (PureD.opD (p_u64_u8 (a := n0_0) rfl Tryd.underlying66 Tryd.underlying5 rfl)) ?_
      refine r_op rfl rfl (MakeD.opD (u_bs 11 rfl Tryd.underlying22 in_5 rfl one_5 (by decide) (by decide) rfl rfl rfl) rfl rfl rfl rfl) ?_
      refine r_op rfl rfl (PureD.opD (p_cbo (bs := ([n0_0.toUInt8] : List UInt8)) rfl rfl Tryd.underlying22 Tryd.underlying5 Tryd.underlying9 rfl rfl)) ?_
      refine r_op rfl rfl (PureD.opD (p_move rfl rfl)) ?_
      refine chkK H fun h2 H => ?_
      refine r_op rfl rfl (PureD.opD (p_cat rfl rfl rfl h2)) ?_
      refine r_op rfl rfl (PureD.opD (p_asg rfl rfl)) ?_
      refine RunW_st [(0, .c (.p (AV.u64 n0_0))), (5, .c (.p (AV.txt (([n0_0.toUInt8] : List UInt8) ++ s5_0)))), (6, .c (.p (AV.int size1))), (7, .c (.p (AV.int t7_0)))] [] rfl ⟨TLes.same _, TLes.same _, TLes.same _, TLes.same _, trivial⟩ trivial ?_
      refine RunW_nil ?_
      refine AW2_reg [0, 1, 2] rfl ?_
      refine r_op rfl rfl (PureD.opD (p_move rfl rfl)) ?_
      refine r_op rfl rfl (PureD.opD (p_u64shr (n := 8) rfl rfl rfl rfl)) ?_
      refine r_op rfl rfl (PureD.opD (p_asg rfl rfl)) ?_
      refine RunW_st [(0, .c (.p (AV.u64 (shr_u64 n0_0 8)))), (5, .c (.p (AV.txt (([n0_0.toUInt8] : List UInt8) ++ s5_0)))), (6, .c (.p (AV.int size1))), (7, .c (.p (AV.int t7_0)))] [] rfl ⟨TLes.same _, TLes.same _, TLes.same _, TLes.same _, trivial⟩ trivial ?_
      refine RunW_nil ?_
      refine AW2_reg [0, 1] rfl ?_
      refine r_op rfl rfl (PureD.opD (p_bin rfl rfl rfl rfl)) ?_
      refine r_op rfl rfl (PureD.opD (p_move rfl rfl)) ?_
      refine RunW_st [(0, .c (.p (AV.u64 (shr_u64 n0_0 8)))), (5, .c (.p (AV.txt (([n0_0.toUInt8] : List UInt8) ++ s5_0)))), (6, .c (.p (AV.int size1))), (7, .c (.p (AV.int (w64 (t7_0 + (1 : Int))))))] [] rfl ⟨TLes.same _, TLes.same _, TLes.same _, TLes.same _, trivial⟩ trivial ?_
      refine RunW_nil ?_
      have hz := some_elim H
      subst hz
      exact ⟨rfl, rfl⟩
    · replace H := ite_else h1 H
      refine AW2_st [(5, .c (.p (AV.txt s5_0)))] [] rfl ⟨TLes.same _, trivial⟩ trivial ?_
      refine AW2_exit ?_
      refine thenQ2_exit ?_
      have hz := some_elim H
      subst hz
      exact ⟨rfl, rfl⟩
  · obtain ⟨rfl, rfl⟩ := hs
    refine ⟨by simp, ?_⟩
    refine blockQ2_exit ?_
    refine AW2_seq ?_
    refine AW2_reg [0, 1] rfl ?_
    refine r_op rfl rfl (PureD.opD (p_move rfl rfl)) ?_
    refine r_op rfl rfl (PureD.opD (p_asg rfl rfl)) ?_
    refine RunW_st [(4, .c (.p (AV.txt y'4)))] [] rfl ⟨TLes.same _, trivial⟩ trivial ?_
    refine RunW_nil ?_
    refine AW2_ret ?_
    have hz := some_elim H
    subst hz
    exact ⟨⟨res_tmp (.same _), trivial⟩, trivial⟩

/-! chirographref.ended -/
noncomputable def g_ref_ended_l0 : (List UInt8) → Option (((List UInt8)) ⊕ (((List UInt8))))
  | all3_0 => (if (all3_0.length : Int).tmod (64 : Int) ≠ (56 : Int) then if all3_0.length + [0].length ≤ 9223372036854775807 then some (.inl (all3_0 ++ [0])) else none else some (.inr all3_0))
noncomputable def g_ref_ended_l1 (r'7 : Vector UInt32 8) : (List UInt8) × Int → Option (((List UInt8) × Int) ⊕ (((List UInt8))))
  | (t5_1, t30_1) => (if t30_1 < (8 : Int) then if 0 ≤ t30_1 ∧ t30_1 < (8 : Int) then (g_ref_big ((vrd r'7 t30_1.toNat).toUInt64) (4 : Int)).bind fun r'8 => if t5_1.length + r'8.length ≤ 9223372036854775807 then some (.inl (t5_1 ++ r'8, w64 (t30_1 + (1 : Int)))) else none else none else some (.inr t5_1))
noncomputable def g_ref_ended_l2 (y'12 : (List UInt8)) : Int × (Vector UInt8 32) → Option ((Int × (Vector UInt8 32)) ⊕ (((Vector UInt8 32))))
  | (t39_2, out8_2) => (if t39_2 < (32 : Int) then if 0 ≤ t39_2 ∧ t39_2 < (y'12.length : Int) then if 0 ≤ t39_2 ∧ t39_2 < (32 : Int) then some (.inl (w64 (t39_2 + (1 : Int)), (vwr out8_2 t39_2.toNat (lrd y'12 t39_2.toNat)))) else none else none else some (.inr out8_2))
noncomputable def g_ref_ended (s0 : GStream) : Option ((Vector UInt8 32)) :=
  (g_ref_heldOf s0).bind fun r'1 => if r'1.length + [128].length ≤ 9223372036854775807 then (loopO (g_ref_ended_l0) (r'1 ++ [128])).bind fun y'5 => (g_ref_big ((UInt64.ofInt s0.Len) * (8 : UInt64)) (8 : Int)).bind fun r'6 => if y'5.length + r'6.length ≤ 9223372036854775807 then (g_ref_blocks s0.H (y'5 ++ r'6)).bind fun r'7 => (loopO (g_ref_ended_l1 r'7) ([], (0 : Int))).bind fun y'12 => (loopO (g_ref_ended_l2 y'12) ((0 : Int), (Vector.replicate 32 (0 : UInt8)))).bind fun y'16 => some y'16 else none else none
set_option maxHeartbeats 4000000 in
set_option maxRecDepth 100000 in
theorem g_ref_ended_ac {s0 : GStream} {r : (Vector UInt8 32)} (H : g_ref_ended s0 = some r) : ACp Tryd.prog 35 [(.agg (GStream.cs s0))] (.agg (bcells r.toList)) := by
  refine ACp_of (AC2_of_body (vs := [.c (.p (.agg (bcells r.toList)))]) Tryd.func35 rfl rfl (Nat.le_of_ble_eq_true rfl) rfl ?_) (fun _ => .same _)
  unfold g_ref_ended at H
  refine AW2_st [(0, .c (.p (.agg (GStream.cs s0))))] [] rfl ⟨TLes.same _, trivial⟩ trivial ?_
  refine AW2_seq ?_
  refine AW2_reg [0, 1] rfl ?_
  refine r_op rfl rfl (MakeD.opD (n_box 1 rfl rfl) rfl rfl rfl rfl) ?_
  refine r_op rfl rfl (MakeD.opD (u_alloc 2 rfl in_23 one_23 zc_23) rfl rfl rfl rfl) ?_
  refine RunW_st [(1, .c (.ptr 1 (0))), (2, .c (.ptr 2 (0)))] [(1, .pure (GStream.cs s0)), (2, .pure (bcells ((Vector.replicate 32 (0 : UInt8)).toList)))] rfl ⟨TLes.same _, TLes.same _, trivial⟩ ⟨rfl, rfl, trivial⟩ ?_
  refine RunW_nil ?_
  refine AW2_seq ?_
  refine AW2_reg [0, 1, 2, 3] rfl ?_
  refine r_op rfl rfl (PureD.opD (u_lda rfl rfl Tryd.underlying30 rfl in_30 rfl (Nat.succ_pos _) (Sub.refl _) (GStream.len s0))) ?_
  refine bindK H fun r'1 h1 H => ?_
  refine r_op rfl rfl (PureD.opD (p_callp rfl rfl rfl Tryd.func38 rfl rfl (g_ref_heldOf_ac h1) ⟨rfl, trivial⟩)) ?_
  refine chkK H fun h2 H => ?_
  refine r_op rfl rfl (PureD.opD (p_cat rfl rfl rfl h2)) ?_
  refine r_op rfl rfl (PureD.opD (p_asg rfl rfl)) ?_
  refine RunW_st [(1, .c (.ptr 1 (0))), (2, .c (.ptr 2 (0))), (3, .c (.p (AV.txt (r'1 ++ [128]))))] [(1, .pure (GStream.cs s0)), (2, .pure (bcells ((Vector.replicate 32 (0 : UInt8)).toList)))] rfl ⟨TLes.same _, TLes.same _, TLes.same _, trivial⟩ ⟨rfl, rfl, trivial⟩ ?_
  refine RunW_nil ?_
  refine AW2_seq ?_
  refine AW2_block ?_
  refine AW2_st [(1, .c (.ptr 1 (0))), (2, .c (.ptr 2 (0))), (3, .c (.p (AV.txt (r'1 ++ [128]))))] [(1, .pure (GStream.cs s0)), (2, .pure (bcells ((Vector.replicate 32 (0 : UInt8)).toList)))] rfl ⟨TLes.same _, TLes.same _, TLes.same _, trivial⟩ ⟨rfl, rfl, trivial⟩ ?_
  refine bindK H fun y'5 h5 H => ?_
  refine AW2_loopO (fun a'2 : (List UInt8) => (⟨[(1, .c (.ptr 1 (0))), (2, .c (.ptr 2 (0))), (3, .c (.p (AV.txt a'2)))], [(1, .pure (GStream.cs s0)), (2, .pure (bcells ((Vector.replicate 32 (0 : UInt8)).toList)))], 49⟩ : TS)) (fun (y'3 : ((List UInt8))) e s' => e = Go.Exit.exit 0 ∧ s' = (⟨[(1, .c (.ptr 1 (0))), (2, .c (.ptr 2 (0))), (3, .c (.p (AV.txt y'3)))], [(1, .pure (GStream.cs s0)), (2, .pure (bcells ((Vector.replicate 32 (0 : UInt8)).toList)))], 49⟩ : TS)) h5 rfl (fun all3_0 x hx => ?_) (fun e s' hs => ?_)
  · clear H
    have H := hx
    clear hx
    unfold g_ref_ended_l0 at H
    refine AW2_seq ?_
    refine AW2_seq ?_
    refine AW2_reg [0, 1, 2, 3] rfl ?_
    refine r_op rfl rfl (PureD.opD (p_move rfl rfl)) ?_
    refine r_op rfl rfl (PureD.opD (p_lent rfl Tryd.underlying9 rfl)) ?_
    refine r_op rfl rfl (PureD.opD (p_irem rfl rfl rfl (by decide))) ?_
    refine r_op rfl rfl (PureD.opD (p_ine rfl rfl rfl)) ?_
    refine RunW_st [(1, .c (.ptr 1 (0))), (2, .c (.ptr 2 (0))), (3, .c (.p (AV.txt all3_0))), (16, .c (.p (.bool (decide ((all3_0.length : Int).tmod (64 : Int) ≠ (56 : Int))))))] [(1, .pure (GStream.cs s0)), (2, .pure (bcells ((Vector.replicate 32 (0 : UInt8)).toList)))] rfl ⟨TLes.same _, TLes.same _, TLes.same _, TLes.same _, trivial⟩ ⟨rfl, rfl, trivial⟩ ?_
    refine RunW_nil ?_
    refine AW2_if (p := (all3_0.length : Int).tmod (64 : Int) ≠ (56 : Int)) rfl (fun h3 => ?_) (fun h3 => ?_)
    · replace H := ite_then h3 H
      refine AW2_st [(1, .c (.ptr 1 (0))), (2, .c (.ptr 2 (0))), (3, .c (.p (AV.txt all3_0)))] [(1, .pure (GStream.cs s0)), (2, .pure (bcells ((Vector.replicate 32 (0 : UInt8)).toList)))] rfl ⟨TLes.same _, TLes.same _, TLes.same _, trivial⟩ ⟨rfl, rfl, trivial⟩ ?_
      refine AW2_skip ?_
      refine AW2_block ?_
      refine AW2_reg [0, 1, 2] rfl ?_
      refine r_op rfl rfl (PureD.opD (p_move rfl rfl)) ?_
      refine chkK H fun h4 H => ?_
      refine r_op rfl rfl (PureD.opD (p_cat rfl rfl rfl h4)) ?_
      refine r_op rfl rfl (PureD.opD (p_asg rfl rfl)) ?_
      refine RunW_st [(1, .c (.ptr 1 (0))), (2, .c (.ptr 2 (0))), (3, .c (.p (AV.txt (all3_0 ++ [0]))))] [(1, .pure (GStream.cs s0)), (2, .pure (bcells ((Vector.replicate 32 (0 : UInt8)).toList)))] rfl ⟨TLes.same _, TLes.same _, TLes.same _, trivial⟩ ⟨rfl, rfl, trivial⟩ ?_
      refine RunW_nil ?_
      have hz := some_elim H
      subst hz
      exact ⟨rfl, rfl⟩
    · replace H := ite_else h3 H
      refine AW2_st [(1, .c (.ptr 1 (0))), (2, .c (.ptr 2 (0))), (3, .c (.p (AV.txt all3_0)))] [(1, .pure (GStream.cs s0)), (2, .pure (bcells ((Vector.replicate 32 (0 : UInt8)).toList)))] rfl ⟨TLes.same _, TLes.same _, TLes.same _, trivial⟩ ⟨rfl, rfl, trivial⟩ ?_
      refine AW2_exit ?_
      refine thenQ2_exit ?_
      have hz := some_elim H
      subst hz
      exact ⟨rfl, rfl⟩
  · obtain ⟨rfl, rfl⟩ := hs
    refine ⟨by simp, ?_⟩
    refine blockQ2_exit ?_
    refine AW2_seq ?_
    refine bindK H fun r'6 h6 H => ?_
    refine chkK H fun h7 H => ?_
    refine bindK H fun r'7 h8 H => ?_
    refine AW2_ghoQ ?_
    refine AW2_draw 11 [11] (fun k => ([.c (.ptr 1 (0 + 0)), .c (.p (.agg (s0.H.toList.map AV.u32))), .c (.p (AV.txt y'5)), .c (.ptr 1 (0 + 73)), .c (.p (AV.int s0.Len)), .c (.p (AV.u64 (UInt64.ofInt s0.Len))), .c (.p (AV.u64 ((UInt64.ofInt s0.Len) * (8 : UInt64)))), .c (.p (AV.txt r'6)), .c (.p (AV.txt (y'5 ++ r'6))), .c (.p (.agg (r'7.toList.map AV.u32))), .c (.ptr 4 (0))] : List TV).getD k TV.any) (fun k => ([[(1, none)], [(19, some 0)], [(3, none)], [(1, none)], [(22, some 3)], [(23, some 4)], [(24, some 5)], [(25, some 6)], [(21, some 2), (26, some 7)], [(20, some 1), (27, some 8)], []] : List (List (Nat × Option Nat))).getD k []) [(2, none), (4, some 10), (28, some 9)] [(10, 4, (((Vector.replicate 8 (0 : UInt32)).toList).map AV.u32))] (fun k => ([[], [0], [], [], [3], [3, 4], [3, 4, 5], [3, 4, 5, 6], [2, 3, 4, 5, 6, 7], [0, 1, 2, 3, 4, 5, 6, 7, 8], [], [0, 1, 2, 3, 4, 5, 6, 7, 8, 9, 10]] : List (List Nat)).getD k []) mixed (by kernel_rfl) rfl rfl (a_op (g_x rfl (x_p rfl (u_fa rfl rfl Tryd.underlying30 rfl in_27 (Nat.succ_ne_zero _) rfl rfl (ne_of_lt (n := 0) (Nat.lt_of_lt_of_eq (by decide) (Eq.symm (GStream.len s0))))) rfl)) (a_op (g_x rfl (x_p rfl (u_lda rfl rfl Tryd.underlying27 rfl in_27 rfl (Nat.succ_pos _) ((Sub.refl _).trans (GStream.sub0 s0)) (vmap_len (f := AV.u32) s0.H)) rfl)) (a_op (g_x rfl (x_p rfl (p_move rfl rfl) rfl)) (a_op (g_x rfl (x_p rfl (u_fa rfl rfl Tryd.underlying30 rfl in_3 (Nat.succ_ne_zero _) rfl rfl (ne_of_lt (n := 0) (Nat.lt_of_lt_of_eq (by decide) (Eq.symm (GStream.len s0))))) rfl)) (a_op (g_x rfl (x_p rfl (u_ld rfl rfl Tryd.underlying3 rfl rfl ((Sub.refl _).trans (GStream.sub3 s0))) rfl)) (a_op (g_x rfl (x_p rfl (p_i_u64 rfl Tryd.underlying3 Tryd.underlying66 rfl) rfl)) (a_op (g_x rfl (x_p rfl (p_u64mul (a := UInt64.ofInt s0.Len) (b := (8 : UInt64)) rfl rfl rfl) rfl)) (a_op (g_x rfl (x_p rfl (p_callp rfl rfl rfl Tryd.func45 rfl rfl (g_ref_big_ac h6) ⟨rfl, rfl, trivial⟩) rfl)) (a_op (g_x rfl (x_p rfl (p_cat rfl rfl rfl h7) rfl)) (a_op (g_x rfl (x_p rfl (p_callp rfl rfl rfl Tryd.func39 rfl rfl (g_ref_blocks_ac h8) ⟨rfl, rfl, trivial⟩) rfl)) (a_op (g_x rfl (x_m rfl (u_alloc 4 rfl in_27 one_27 zc_27) rfl rfl)) (a_nil)))))))))))) ?_
    refine t_op rfl rfl (u_st rfl rfl rfl rfl rfl in_27 (vmap_len (f := AV.u32) r'7) (ne_of_lt (n := 0) (Nat.lt_of_lt_of_eq (by decide) (Eq.symm (vmap_len (f := AV.u32) (Vector.replicate 8 (0 : UInt32)))))) (Upd.refl ((vmap_len (f := AV.u32) r'7).trans (vmap_len (f := AV.u32) (Vector.replicate 8 (0 : UInt32))).symm))) ?_
    refine t_gho (Gho_st (L := [(2, .c (.ptr 2 (0))), (4, .c (.ptr 4 (0)))]) (H := [(2, .pure (bcells ((Vector.replicate 32 (0 : UInt8)).toList))), (4, .pure (r'7.toList.map AV.u32))]) rfl ⟨TLes.same _, TLes.same _, trivial⟩ ⟨rfl, rfl, trivial⟩) ?_
    refine AW2_seq ?_
    refine AW2_reg [0] rfl ?_
    refine r_op rfl rfl (PureD.opD (p_asg rfl rfl)) ?_
    refine RunW_st [(2, .c (.ptr 2 (0))), (4, .c (.ptr 4 (0))), (5, .c (.p (AV.txt [])))] [(2, .pure (bcells ((Vector.replicate 32 (0 : UInt8)).toList))), (4, .pure (r'7.toList.map AV.u32))] rfl ⟨TLes.same _, TLes.same _, TLes.same _, trivial⟩ ⟨rfl, rfl, trivial⟩ ?_
    refine RunW_nil ?_
    refine AW2_seq ?_
    refine AW2_seq ?_
    refine AW2_reg [0, 1] rfl ?_
    refine r_op rfl rfl (PureD.opD (u_lda rfl rfl Tryd.underlying27 rfl in_27 rfl (Nat.succ_pos _) (Sub.refl _) (vmap_len (f := AV.u32) r'7))) ?_
    refine r_op rfl rfl (PureD.opD (p_move rfl rfl)) ?_
    refine RunW_st [(2, .c (.ptr 2 (0))), (5, .c (.p (AV.txt []))), (29, .c (.p (.agg (r'7.toList.map AV.u32)))), (30, .c (.p (AV.int (0 : Int))))] [(2, .pure (bcells ((Vector.replicate 32 (0 : UInt8)).toList)))] rfl ⟨TLes.same _, TLes.same _, TLes.same _, TLes.same _, trivial⟩ ⟨rfl, trivial⟩ ?_
    refine RunW_nil ?_
    refine AW2_block ?_
    refine AW2_st [(2, .c (.ptr 2 (0))), (5, .c (.p (AV.txt []))), (29, .c (.p (.agg (r'7.toList.map AV.u32)))), (30, .c (.p (AV.int (0 : Int))))] [(2, .pure (bcells ((Vector.replicate 32 (0 : UInt8)).toList)))] rfl ⟨TLes.same _, TLes.same _, TLes.same _, TLes.same _, trivial⟩ ⟨rfl, trivial⟩ ?_
    refine bindK H fun y'12 h13 H => ?_
    refine AW2_loopO (fun a'9 : (List UInt8) × Int => (⟨[(2, .c (.ptr 2 (0))), (5, .c (.p (AV.txt a'9.1))), (29, .c (.p (.agg (r'7.toList.map AV.u32)))), (30, .c (.p (AV.int a'9.2)))], [(2, .pure (bcells ((Vector.replicate 32 (0 : UInt8)).toList)))], 49⟩ : TS)) (fun (y'10 : ((List UInt8))) e s' => e = Go.Exit.exit 2 ∧ s' = (⟨[(2, .c (.ptr 2 (0))), (5, .c (.p (AV.txt y'10)))], [(2, .pure (bcells ((Vector.replicate 32 (0 : UInt8)).toList)))], 49⟩ : TS)) h13 rfl (fun a x hx => ?_) (fun e s' hs => ?_)
    · clear H
      obtain ⟨t5_1, t30_1⟩ := a
      have H := hx
      clear hx
      unfold g_ref_ended_l1 at H
      refine AW2_seq ?_
      refine AW2_reg [0] rfl ?_
      refine r_op rfl rfl (PureD.opD (p_bin rfl rfl rfl rfl)) ?_
      refine RunW_st [(2, .c (.ptr 2 (0))), (5, .c (.p (AV.txt t5_1))), (29, .c (.p (.agg (r'7.toList.map AV.u32)))), (30, .c (.p (AV.int t30_1))), (31, .c (.p (.bool (decide (t30_1 < (8 : Int))))))] [(2, .pure (bcells ((Vector.replicate 32 (0 : UInt8)).toList)))] rfl ⟨TLes.same _, TLes.same _, TLes.same _, TLes.same _, TLes.same _, trivial⟩ ⟨rfl, trivial⟩ ?_
      refine RunW_nil ?_
      refine AW2_seq ?_
      refine AW2_if (p := t30_1 < (8 : Int)) rfl (fun h9 => ?_) (fun h9 => ?_)
      · replace H := ite_then h9 H
        refine AW2_st [(2, .c (.ptr 2 (0))), (5, .c (.p (AV.txt t5_1))), (29, .c (.p (.agg (r'7.toList.map AV.u32)))), (30, .c (.p (AV.int t30_1)))] [(2, .pure (bcells ((Vector.replicate 32 (0 : UInt8)).toList)))] rfl ⟨TLes.same _, TLes.same _, TLes.same _, TLes.same _, trivial⟩ ⟨rfl, trivial⟩ ?_
        refine AW2_skip ?_
        refine AW2_seq ?_
        refine AW2_block ?_
        refine AW2_seq ?_
        refine AW2_reg [0, 1] rfl ?_
        refine chkK H fun h10 H => ?_
        refine r_op rfl rfl (PureD.opD (u_ixa rfl rfl Tryd.underlying27 in_26 Tryd.underlying26 rfl rfl rfl (ixe h10) (ixn h10) (Sub.vmap (ixn h10)))) ?_
        refine r_op rfl rfl (PureD.opD (p_asg rfl rfl)) ?_
        refine RunW_st [(2, .c (.ptr 2 (0))), (5, .c (.p (AV.txt t5_1))), (7, .c (.p (AV.u32 (vrd r'7 t30_1.toNat)))), (29, .c (.p (.agg (r'7.toList.map AV.u32)))), (30, .c (.p (AV.int t30_1)))] [(2, .pure (bcells ((Vector.replicate 32 (0 : UInt8)).toList)))] rfl ⟨TLes.same _, TLes.same _, TLes.same _, TLes.same _, TLes.same _, trivial⟩ ⟨rfl, trivial⟩ ?_
        refine RunW_nil ?_
        refine AW2_reg [0, 1, 2, 3, 4, 5] rfl ?_
        refine r_op rfl rfl (PureD.opD (p_move rfl rfl)) ?_
        refine r_op rfl rfl (PureD.opD (p_move rfl rfl)) ?_
        refine r_op rfl rfl (PureD.opD (p_u32_u64 (a := (vrd r'7 t30_1.toNat)) rfl Tryd.underlying26 Tryd.underlying66 rfl)) ?_
        refine bindK H fun r'8 h11 H => ?_
        refine r_op rfl rfl (PureD.opD (p_callp rfl rfl rfl Tryd.func45 rfl rfl (g_ref_big_ac h11) ⟨rfl, rfl, trivial⟩)) ?_
        refine chkK H fun h12 H => ?_
        refine r_op rfl rfl (PureD.opD (p_cat rfl rfl rfl h12)) ?_
        refine r_op rfl rfl (PureD.opD (p_asg rfl rfl)) ?_
        refine RunW_st [(2, .c (.ptr 2 (0))), (5, .c (.p (AV.txt (t5_1 ++ r'8)))), (29, .c (.p (.agg (r'7.toList.map AV.u32)))), (30, .c (.p (AV.int t30_1)))] [(2, .pure (bcells ((Vector.replicate 32 (0 : UInt8)).toList)))] rfl ⟨TLes.same _, TLes.same _, TLes.same _, TLes.same _, trivial⟩ ⟨rfl, trivial⟩ ?_
        refine RunW_nil ?_
        refine AW2_reg [0, 1] rfl ?_
        refine r_op rfl rfl (PureD.opD (p_bin rfl rfl rfl rfl)) ?_
        refine r_op rfl rfl (PureD.opD (p_move rfl rfl)) ?_
        refine RunW_st [(2, .c (.ptr 2 (0))), (5, .c (.p (AV.txt (t5_1 ++ r'8)))), (29, .c (.p (.agg (r'7.toList.map AV.u32)))), (30, .c (.p (AV.int (w64 (t30_1 + (1 : Int))))))] [(2, .pure (bcells ((Vector.replicate 32 (0 : UInt8)).toList)))] rfl ⟨TLes.same _, TLes.same _, TLes.same _, TLes.same _, trivial⟩ ⟨rfl, trivial⟩ ?_
        refine RunW_nil ?_
        have hz := some_elim H
        subst hz
        exact ⟨rfl, rfl⟩
      · replace H := ite_else h9 H
        refine AW2_st [(2, .c (.ptr 2 (0))), (5, .c (.p (AV.txt t5_1)))] [(2, .pure (bcells ((Vector.replicate 32 (0 : UInt8)).toList)))] rfl ⟨TLes.same _, TLes.same _, trivial⟩ ⟨rfl, trivial⟩ ?_
        refine AW2_exit ?_
        refine thenQ2_exit ?_
        have hz := some_elim H
        subst hz
        exact ⟨rfl, rfl⟩
    · obtain ⟨rfl, rfl⟩ := hs
      refine ⟨by simp, ?_⟩
      refine blockQ2_exit ?_
      refine AW2_seq ?_
      refine AW2_reg [0] rfl ?_
      refine r_op rfl rfl (MakeD.opD (u_alloc 8 rfl in_23 one_23 zc_23) rfl rfl rfl rfl) ?_
      refine RunW_st [(2, .c (.ptr 2 (0))), (5, .c (.p (AV.txt y'12))), (8, .c (.ptr 8 (0)))] [(2, .pure (bcells ((Vector.replicate 32 (0 : UInt8)).toList))), (8, .pure (bcells ((Vector.replicate 32 (0 : UInt8)).toList)))] rfl ⟨TLes.same _, TLes.same _, TLes.same _, trivial⟩ ⟨rfl, rfl, trivial⟩ ?_
      refine RunW_nil ?_
      refine AW2_seq ?_
      refine AW2_seq ?_
      refine AW2_reg [0] rfl ?_
      refine r_op rfl rfl (PureD.opD (p_move rfl rfl)) ?_
      refine RunW_st [(2, .c (.ptr 2 (0))), (5, .c (.p (AV.txt y'12))), (8, .c (.ptr 8 (0))), (39, .c (.p (AV.int (0 : Int))))] [(2, .pure (bcells ((Vector.replicate 32 (0 : UInt8)).toList))), (8, .pure (bcells ((Vector.replicate 32 (0 : UInt8)).toList)))] rfl ⟨TLes.same _, TLes.same _, TLes.same _, TLes.same _, trivial⟩ ⟨rfl, rfl, trivial⟩ ?_
      refine RunW_nil ?_
      refine AW2_block ?_
      refine AW2_st [(2, .c (.ptr 2 (0))), (5, .c (.p (AV.txt y'12))), (8, .c (.ptr 8 (0))), (39, .c (.p (AV.int (0 : Int))))] [(2, .pure (bcells ((Vector.replicate 32 (0 : UInt8)).toList))), (8, .pure (bcells ((Vector.replicate 32 (0 : UInt8)).toList)))] rfl ⟨TLes.same _, TLes.same _, TLes.same _, TLes.same _, trivial⟩ ⟨rfl, rfl, trivial⟩ ?_
      refine bindK H fun y'16 h17 H => ?_
      refine AW2_loopO (fun a'13 : Int × (Vector UInt8 32) => (⟨[(2, .c (.ptr 2 (0))), (5, .c (.p (AV.txt y'12))), (8, .c (.ptr 8 (0))), (39, .c (.p (AV.int a'13.1)))], [(2, .pure (bcells ((Vector.replicate 32 (0 : UInt8)).toList))), (8, .pure (bcells a'13.2.toList))], 49⟩ : TS)) (fun (y'14 : ((Vector UInt8 32))) e s' => e = Go.Exit.exit 4 ∧ s' = (⟨[(2, .c (.ptr 2 (0))), (8, .c (.ptr 8 (0)))], [(2, .pure (bcells ((Vector.replicate 32 (0 : UInt8)).toList))), (8, .pure (bcells y'14.toList))], 49⟩ : TS)) h17 rfl (fun a x hx => ?_) (fun e s' hs => ?_)
      · clear H
        obtain ⟨t39_2, out8_2⟩ := a
        have H := hx
        clear hx
        unfold g_ref_ended_l2 at H
        refine AW2_seq ?_
        refine AW2_reg [0] rfl ?_
        refine r_op rfl rfl (PureD.opD (p_bin rfl rfl rfl rfl)) ?_
        refine RunW_st [(2, .c (.ptr 2 (0))), (5, .c (.p (AV.txt y'12))), (8, .c (.ptr 8 (0))), (39, .c (.p (AV.int t39_2))), (40, .c (.p (.bool (decide (t39_2 < (32 : Int))))))] [(2, .pure (bcells ((Vector.replicate 32 (0 : UInt8)).toList))), (8, .pure (bcells out8_2.toList))] rfl ⟨TLes.same _, TLes.same _, TLes.same _, TLes.same _, TLes.same _, trivial⟩ ⟨rfl, rfl, trivial⟩ ?_
        refine RunW_nil ?_
        refine AW2_seq ?_
        refine AW2_if (p := t39_2 < (32 : Int)) rfl (fun h14 => ?_) (fun h14 => ?_)
        · replace H := ite_then h14 H
          refine AW2_st [(2, .c (.ptr 2 (0))), (5, .c (.p (AV.txt y'12))), (8, .c (.ptr 8 (0))), (39, .c (.p (AV.int t39_2)))] [(2, .pure (bcells ((Vector.replicate 32 (0 : UInt8)).toList))), (8, .pure (bcells out8_2.toList))] rfl ⟨TLes.same _, TLes.same _, TLes.same _, TLes.same _, trivial⟩ ⟨rfl, rfl, trivial⟩ ?_
          refine AW2_skip ?_
          refine AW2_seq ?_
          refine AW2_block ?_
          refine AW2_seq ?_
          refine AW2_reg [0, 1] rfl ?_
          refine r_op rfl rfl (PureD.opD (p_move rfl rfl)) ?_
          refine r_op rfl rfl (PureD.opD (p_asg rfl rfl)) ?_
          refine RunW_st [(2, .c (.ptr 2 (0))), (5, .c (.p (AV.txt y'12))), (8, .c (.ptr 8 (0))), (9, .c (.p (AV.int t39_2))), (39, .c (.p (AV.int t39_2)))] [(2, .pure (bcells ((Vector.replicate 32 (0 : UInt8)).toList))), (8, .pure (bcells out8_2.toList))] rfl ⟨TLes.same _, TLes.same _, TLes.same _, TLes.same _, TLes.same _, trivial⟩ ⟨rfl, rfl, trivial⟩ ?_
          refine RunW_nil ?_
          refine AW2_reg [0, 1, 2, 3, 4, 5] rfl ?_
          refine r_op rfl rfl (PureD.opD (p_move rfl rfl)) ?_
          refine r_op rfl rfl (PureD.opD (p_move rfl rfl)) ?_
          refine r_op rfl rfl (PureD.opD (p_move rfl rfl)) ?_
          refine chkK H fun h15 H => ?_
          refine r_op rfl rfl (PureD.opD (p_ixt rfl Tryd.underlying9 rfl rfl (ixe h15) (lrd_get (ixn h15)))) ?_
          refine chkK H fun h16 H => ?_
          refine r_op rfl rfl (PureD.opD (u_ixp rfl rfl Tryd.underlying23 in_5 rfl rfl (ne_of_lt (n := 0) (Nat.lt_of_lt_of_eq (by decide) (Eq.symm ((bcells_length _).trans (vlen out8_2))))) rfl (ixe h16) (ixn h16))) ?_
          refine r_op rfl rfl (u_st rfl rfl rfl rfl rfl in_5 rfl (ne_of_lt (n := 0) (Nat.lt_of_lt_of_eq (by decide) (Eq.symm ((bcells_length _).trans (vlen out8_2))))) (Upd.trans (Sub.refl _) (Upd.vmap (ixn h16)) (Upd.refl (((bcells_length _).trans (vlen (vwr out8_2 t39_2.toNat (lrd y'12 t39_2.toNat)))).trans ((bcells_length _).trans (vlen out8_2)).symm)))) ?_
          refine RunW_st [(2, .c (.ptr 2 (0))), (5, .c (.p (AV.txt y'12))), (8, .c (.ptr 8 (0))), (39, .c (.p (AV.int t39_2)))] [(2, .pure (bcells ((Vector.replicate 32 (0 : UInt8)).toList))), (8, .pure (bcells ((vwr out8_2 t39_2.toNat (lrd y'12 t39_2.toNat)).toList)))] rfl ⟨TLes.same _, TLes.same _, TLes.same _, TLes.same _, trivial⟩ ⟨rfl, rfl, trivial⟩ ?_
          refine RunW_nil ?_
          refine AW2_reg [0, 1] rfl ?_
          refine r_op rfl rfl (PureD.opD (p_bin rfl rfl rfl rfl)) ?_
          refine r_op rfl rfl (PureD.opD (p_move rfl rfl)) ?_
          refine RunW_st [(2, .c (.ptr 2 (0))), (5, .c (.p (AV.txt y'12))), (8, .c (.ptr 8 (0))), (39, .c (.p (AV.int (w64 (t39_2 + (1 : Int))))))] [(2, .pure (bcells ((Vector.replicate 32 (0 : UInt8)).toList))), (8, .pure (bcells ((vwr out8_2 t39_2.toNat (lrd y'12 t39_2.toNat)).toList)))] rfl ⟨TLes.same _, TLes.same _, TLes.same _, TLes.same _, trivial⟩ ⟨rfl, rfl, trivial⟩ ?_
          refine RunW_nil ?_
          have hz := some_elim H
          subst hz
          exact ⟨rfl, rfl⟩
        · replace H := ite_else h14 H
          refine AW2_st [(2, .c (.ptr 2 (0))), (8, .c (.ptr 8 (0)))] [(2, .pure (bcells ((Vector.replicate 32 (0 : UInt8)).toList))), (8, .pure (bcells out8_2.toList))] rfl ⟨TLes.same _, TLes.same _, trivial⟩ ⟨rfl, rfl, trivial⟩ ?_
          refine AW2_exit ?_
          refine thenQ2_exit ?_
          have hz := some_elim H
          subst hz
          exact ⟨rfl, rfl⟩
      · obtain ⟨rfl, rfl⟩ := hs
        refine ⟨by simp, ?_⟩
        refine blockQ2_exit ?_
        refine AW2_seq ?_
        refine AW2_reg [0, 1] rfl ?_
        refine r_op rfl rfl (PureD.opD (u_lda rfl rfl Tryd.underlying23 rfl in_23 rfl (Nat.succ_pos _) (Sub.refl _) ((bcells_length _).trans (vlen y'16)))) ?_
        refine r_op rfl rfl (u_st rfl rfl rfl rfl rfl in_23 ((bcells_length _).trans (vlen y'16)) (ne_of_lt (n := 0) (Nat.lt_of_lt_of_eq (by decide) (Eq.symm ((bcells_length _).trans (vlen (Vector.replicate 32 (0 : UInt8))))))) (Upd.refl (((bcells_length _).trans (vlen y'16)).trans ((bcells_length _).trans (vlen (Vector.replicate 32 (0 : UInt8)))).symm))) ?_
        refine RunW_st [(2, .c (.ptr 2 (0)))] [(2, .pure (bcells y'16.toList))] rfl ⟨TLes.same _, trivial⟩ ⟨rfl, trivial⟩ ?_
        refine RunW_nil ?_
        refine AW2_ret ?_
        have hz := some_elim H
        subst hz
        exact ⟨⟨res_cella Tryd.underlying23 rfl in_23.sz rfl (Sub.le (Sub.refl _) ((bcells_length _).trans (vlen y'16))) (by decide) (Sub.take (Sub.refl _) ((bcells_length _).trans (vlen y'16))), trivial⟩, trivial⟩
end Go.Proofs.YtoepdjccgngpdaaDoor.VM
