/- Functions of the program, as they answer, and that their code comes to these answers. -/
import Derived.Test.YtoepdjccgngpdaaDoorGs2
namespace Go.Proofs.YtoepdjccgngpdaaDoor.VM
open Go Go.RowKit



/-! chirographref.blocks -/
noncomputable def g_ref_blocks_l0 : (List UInt8) × (Vector UInt32 8) → Option (((List UInt8) × (Vector UInt32 8)) ⊕ (((Vector UInt32 8))))
  | (s1_0, h2_0) => (if (s1_0.length : Int) ≥ (64 : Int) then if 0 ≤ (64 : Int) ∧ (64 : Int) ≤ (s1_0.length : Int) then (g_ref_block h2_0 (cut s1_0 (0 : Int) (64 : Int))).bind fun r'1 => if 0 ≤ (64 : Int) ∧ (64 : Int) ≤ (s1_0.length : Int) then some (.inl ((cut s1_0 (64 : Int) (s1_0.length : Int)), r'1)) else none else none else some (.inr h2_0))
noncomputable def g_ref_blocks (h0 : Vector UInt32 8) (s1 : List UInt8) : Option ((Vector UInt32 8)) :=
  (loopO (g_ref_blocks_l0) (s1, h0)).bind fun y'5 => some y'5
set_option maxHeartbeats 4000000 in
set_option maxRecDepth 100000 in
theorem g_ref_blocks_ac {h0 : Vector UInt32 8} {s1 : List UInt8} {r : (Vector UInt32 8)} (H : g_ref_blocks h0 s1 = some r) : ACp Tryd.prog 39 [(.agg (h0.toList.map AV.u32)), (AV.txt s1)] (.agg (r.toList.map AV.u32)) := by
  refine ACp_of (AC2_of_body (vs := [.c (.p (.agg (r.toList.map AV.u32)))]) Tryd.func39 rfl rfl (Nat.le_of_ble_eq_true rfl) rfl ?_) (fun _ => .same _)
  unfold g_ref_blocks at H
  refine AW2_st [(0, .c (.p (.agg (h0.toList.map AV.u32)))), (1, .c (.p (AV.txt s1)))] [] rfl ⟨TLes.same _, TLes.same _, trivial⟩ trivial ?_
  refine AW2_seq ?_
  refine AW2_reg [0, 1] rfl ?_
  refine r_op rfl rfl (MakeD.opD (n_box 2 rfl rfl) rfl rfl rfl rfl) ?_
  refine r_op rfl rfl (MakeD.opD (u_alloc 4 rfl in_27 one_27 zc_27) rfl rfl rfl rfl) ?_
  refine RunW_st [(1, .c (.p (AV.txt s1))), (2, .c (.ptr 2 (0))), (4, .c (.ptr 4 (0)))] [(2, .pure (h0.toList.map AV.u32)), (4, .pure (((Vector.replicate 8 (0 : UInt32)).toList).map AV.u32))] rfl ⟨TLes.same _, TLes.same _, TLes.same _, trivial⟩ ⟨rfl, rfl, trivial⟩ ?_
  refine RunW_nil ?_
  refine AW2_seq ?_
  refine AW2_block ?_
  refine AW2_st [(1, .c (.p (AV.txt s1))), (2, .c (.ptr 2 (0))), (4, .c (.ptr 4 (0)))] [(2, .pure (h0.toList.map AV.u32)), (4, .pure (((Vector.replicate 8 (0 : UInt32)).toList).map AV.u32))] rfl ⟨TLes.same _, TLes.same _, TLes.same _, trivial⟩ ⟨rfl, rfl, trivial⟩ ?_
  refine bindK H fun y'5 h5 H => ?_
  refine AW2_loopO (fun a'2 : (List UInt8) × (Vector UInt32 8) => (⟨[(1, .c (.p (AV.txt a'2.1))), (2, .c (.ptr 2 (0))), (4, .c (.ptr 4 (0)))], [(2, .pure (a'2.2.toList.map AV.u32)), (4, .pure (((Vector.replicate 8 (0 : UInt32)).toList).map AV.u32))], 15⟩ : TS)) (fun (y'3 : ((Vector UInt32 8))) e s' => e = Go.Exit.exit 0 ∧ s' = (⟨[(2, .c (.ptr 2 (0))), (4, .c (.ptr 4 (0)))], [(2, .pure (y'3.toList.map AV.u32)), (4, .pure (((Vector.replicate 8 (0 : UInt32)).toList).map AV.u32))], 15⟩ : TS)) h5 rfl (fun a x hx => ?_) (fun e s' hs => ?_)
  · clear H
    obtain ⟨s1_0, h2_0⟩ := a
    have H := hx
    clear hx
    unfold g_ref_blocks_l0 at H
    refine AW2_seq ?_
    refine AW2_seq ?_
    refine AW2_reg [0, 1, 2] rfl ?_
    refine r_op rfl rfl (PureD.opD (p_move rfl rfl)) ?_
    refine r_op rfl rfl (PureD.opD (p_lent rfl Tryd.underlying9 rfl)) ?_
    refine r_op rfl rfl (PureD.opD (p_bin rfl rfl rfl rfl)) ?_
    refine RunW_st [(1, .c (.p (AV.txt s1_0))), (2, .c (.ptr 2 (0))), (4, .c (.ptr 4 (0))), (7, .c (.p (.bool (decide ((s1_0.length : Int) ≥ (64 : Int))))))] [(2, .pure (h2_0.toList.map AV.u32)), (4, .pure (((Vector.replicate 8 (0 : UInt32)).toList).map AV.u32))] rfl ⟨TLes.same _, TLes.same _, TLes.same _, TLes.same _, trivial⟩ ⟨rfl, rfl, trivial⟩ ?_
    refine RunW_nil ?_
    refine AW2_if (p := (s1_0.length : Int) ≥ (64 : Int)) rfl (fun h1 => ?_) (fun h1 => ?_)
    · replace H := ite_then h1 H
      refine AW2_st [(1, .c (.p (AV.txt s1_0))), (2, .c (.ptr 2 (0))), (4, .c (.ptr 4 (0)))] [(2, .pure (h2_0.toList.map AV.u32)), (4, .pure (((Vector.replicate 8 (0 : UInt32)).toList).map AV.u32))] rfl ⟨TLes.same _, TLes.same _, TLes.same _, trivial⟩ ⟨rfl, rfl, trivial⟩ ?_
      refine AW2_skip ?_
      refine AW2_seq ?_
      refine AW2_block ?_
      refine chkK H fun h2 H => ?_
      refine bindK H fun r'1 h3 H => ?_
      refine AW2_ghoQ ?_
      refine AW2_draw 3 [3, 4] (fun k => ([.c (.p (.agg (h2_0.toList.map AV.u32))), .c (.p (AV.txt s1_0)), .c (.p (AV.txt (cut s1_0 (0 : Int) (64 : Int))))] : List TV).getD k TV.any) (fun k => ([[(2, none)], [(1, none)], [(11, some 1)]] : List (List (Nat × Option Nat))).getD k []) [(1, none), (2, none), (4, none), (10, some 0), (12, some 2)] [] (fun k => ([[], [], [1], [0, 1, 2], [0, 1, 2, 3]] : List (List Nat)).getD k []) mixed (by kernel_rfl) rfl rfl (a_op (g_x rfl (x_p rfl (u_lda rfl rfl Tryd.underlying27 rfl in_27 rfl (Nat.succ_pos _) (Sub.refl _) (vmap_len (f := AV.u32) h2_0)) rfl)) (a_op (g_x rfl (x_p rfl (p_move rfl rfl) rfl)) (a_op (g_x rfl (x_p rfl (u_cutt (a := (0 : Int)) (b := (64 : Int)) rfl Tryd.underlying9 rfl bT_zero (bT_i (Int.le_trans (show 0 ≤ (0 : Int) ∧ (0 : Int) ≤ (64 : Int) ∧ (64 : Int) ≤ (s1_0.length : Int) from ⟨Int.le_refl _, h2.1, h2.2⟩).1 (show 0 ≤ (0 : Int) ∧ (0 : Int) ≤ (64 : Int) ∧ (64 : Int) ≤ (s1_0.length : Int) from ⟨Int.le_refl _, h2.1, h2.2⟩).2.1) rfl) (show 0 ≤ (0 : Int) ∧ (0 : Int) ≤ (64 : Int) ∧ (64 : Int) ≤ (s1_0.length : Int) from ⟨Int.le_refl _, h2.1, h2.2⟩)) rfl)) (a_nil)))) ?_
      refine t_op rfl rfl (PureD.opD (p_callp rfl rfl rfl Tryd.func51 rfl rfl (g_ref_block_ac h3) ⟨rfl, rfl, trivial⟩)) ?_
      refine t_op rfl rfl (u_st rfl rfl rfl rfl rfl in_27 (vmap_len (f := AV.u32) r'1) (ne_of_lt (n := 0) (Nat.lt_of_lt_of_eq (by decide) (Eq.symm (vmap_len (f := AV.u32) h2_0)))) (Upd.refl ((vmap_len (f := AV.u32) r'1).trans (vmap_len (f := AV.u32) h2_0).symm))) ?_
      refine t_gho (Gho_st (L := [(1, .c (.p (AV.txt s1_0))), (2, .c (.ptr 2 (0))), (4, .c (.ptr 4 (0)))]) (H := [(2, .pure (r'1.toList.map AV.u32)), (4, .pure (((Vector.replicate 8 (0 : UInt32)).toList).map AV.u32))]) rfl ⟨TLes.same _, TLes.same _, TLes.same _, trivial⟩ ⟨rfl, rfl, trivial⟩) ?_
      refine AW2_reg [0, 1, 2] rfl ?_
      refine r_op rfl rfl (PureD.opD (p_move rfl rfl)) ?_
      refine chkK H fun h4 H => ?_
      refine r_op rfl rfl (PureD.opD (u_cutt (a := (64 : Int)) (b := (s1_0.length : Int)) rfl Tryd.underlying9 rfl (bT_i (show 0 ≤ (64 : Int) ∧ (64 : Int) ≤ (s1_0.length : Int) ∧ (s1_0.length : Int) ≤ (s1_0.length : Int) from ⟨h4.1, h4.2, Int.le_refl _⟩).1 rfl) (bT_len _) (show 0 ≤ (64 : Int) ∧ (64 : Int) ≤ (s1_0.length : Int) ∧ (s1_0.length : Int) ≤ (s1_0.length : Int) from ⟨h4.1, h4.2, Int.le_refl _⟩))) ?_
      refine r_op rfl rfl (PureD.opD (p_asg rfl rfl)) ?_
      refine RunW_st [(1, .c (.p (AV.txt (cut s1_0 (64 : Int) (s1_0.length : Int))))), (2, .c (.ptr 2 (0))), (4, .c (.ptr 4 (0)))] [(2, .pure (r'1.toList.map AV.u32)), (4, .pure (((Vector.replicate 8 (0 : UInt32)).toList).map AV.u32))] rfl ⟨TLes.same _, TLes.same _, TLes.same _, trivial⟩ ⟨rfl, rfl, trivial⟩ ?_
      refine RunW_nil ?_
      have hz := some_elim H
      subst hz
      exact ⟨rfl, rfl⟩
    · replace H := ite_else h1 H
      refine AW2_st [(2, .c (.ptr 2 (0))), (4, .c (.ptr 4 (0)))] [(2, .pure (h2_0.toList.map AV.u32)), (4, .pure (((Vector.replicate 8 (0 : UInt32)).toList).map AV.u32))] rfl ⟨TLes.same _, TLes.same _, trivial⟩ ⟨rfl, rfl, trivial⟩ ?_
      refine AW2_exit ?_
      refine thenQ2_exit ?_
      have hz := some_elim H
      subst hz
      exact ⟨rfl, rfl⟩
  · obtain ⟨rfl, rfl⟩ := hs
    refine ⟨by simp, ?_⟩
    refine blockQ2_exit ?_
    refine AW2_seq ?_
    refine AW2_reg [0, 1] rfl ?_
    refine r_op rfl rfl (PureD.opD (u_lda rfl rfl Tryd.underlying27 rfl in_27 rfl (Nat.succ_pos _) (Sub.refl _) (vmap_len (f := AV.u32) y'5))) ?_
    refine r_op rfl rfl (u_st rfl rfl rfl rfl rfl in_27 (vmap_len (f := AV.u32) y'5) (ne_of_lt (n := 0) (Nat.lt_of_lt_of_eq (by decide) (Eq.symm (vmap_len (f := AV.u32) (Vector.replicate 8 (0 : UInt32)))))) (Upd.refl ((vmap_len (f := AV.u32) y'5).trans (vmap_len (f := AV.u32) (Vector.replicate 8 (0 : UInt32))).symm))) ?_
    refine RunW_st [(4, .c (.ptr 4 (0)))] [(4, .pure (y'5.toList.map AV.u32))] rfl ⟨TLes.same _, trivial⟩ ⟨rfl, trivial⟩ ?_
    refine RunW_nil ?_
    refine AW2_ret ?_
    have hz := some_elim H
    subst hz
    exact ⟨⟨res_cella Tryd.underlying27 rfl in_27.sz rfl (Sub.le (Sub.refl _) (vmap_len (f := AV.u32) y'5)) (by decide) (Sub.take (Sub.refl _) (vmap_len (f := AV.u32) y'5)), trivial⟩, trivial⟩

/-! chirographref.Added -/
noncomputable def g_ref_Added_l0 (rest8'5 : List UInt8) : Int × GStream → Option ((Int × GStream) ⊕ (GStream))
  | (i9_0, out7_0) => (if i9_0 < (rest8'5.length : Int) then if 0 ≤ i9_0 ∧ i9_0 < (rest8'5.length : Int) then if 0 ≤ i9_0 ∧ i9_0 < (64 : Int) then letO ({ out7_0 with Held := (vwr out7_0.Held i9_0.toNat (lrd rest8'5 i9_0.toNat)) }) fun out7'6 => some (.inl (w64 (i9_0 + (1 : Int)), out7'6)) else none else none else some (.inr out7_0))
noncomputable def g_ref_Added (s0 : GStream) (b1 : List UInt8) : Option (GStream × Int) :=
  (g_ref_badStream s0).bind fun r'1 => (if r'1 = true then some (GStream.zero, (11 : Int)) else (if s0.Len > w64 ((1152921504606846976 : Int) - (b1.length : Int)) then some (GStream.zero, (1 : Int)) else (g_ref_heldOf s0).bind fun r'2 => if r'2.length + b1.length ≤ 9223372036854775807 then (g_ref_blocks s0.H (r'2 ++ b1)).bind fun r'3 => letO ({ { GStream.zero with H := r'3 } with Len := w64 (s0.Len + (b1.length : Int)) }) fun out7'4 => if 0 ≤ w64 (((r'2 ++ b1).length : Int) - (((r'2 ++ b1).length : Int).tmod (64 : Int))) ∧ w64 (((r'2 ++ b1).length : Int) - (((r'2 ++ b1).length : Int).tmod (64 : Int))) ≤ ((r'2 ++ b1).length : Int) then letO ((cut (r'2 ++ b1) (w64 (((r'2 ++ b1).length : Int) - (((r'2 ++ b1).length : Int).tmod (64 : Int)))) ((r'2 ++ b1).length : Int))) fun rest8'5 => (loopO (g_ref_Added_l0 rest8'5) ((0 : Int), { out7'4 with N := (rest8'5.length : Int) })).bind fun y'10 => some (y'10, (0 : Int)) else none else none))
set_option maxHeartbeats 4000000 in
set_option maxRecDepth 100000 in
theorem g_ref_Added_ac {s0 : GStream} {b1 : List UInt8} {r : GStream × Int} (H : g_ref_Added s0 b1 = some r) : ACp Tryd.prog 15 [(.agg (GStream.cs s0)), (AV.bytes b1)] (.tup [(.agg (GStream.cs r.1)), (AV.int r.2)]) := by
  refine ACp_of (AC2_of_body (vs := [.c (.p (.agg (GStream.cs r.1))), .c (.p (AV.int r.2))]) Tryd.func15 rfl rfl (Nat.le_of_ble_eq_true rfl) rfl ?_) (fun _ => .same _)
  unfold g_ref_Added at H
  refine AW2_st [(0, .c (.p (.agg (GStream.cs s0)))), (1, .c (.p (AV.bytes b1)))] [] rfl ⟨TLes.same _, TLes.same _, trivial⟩ trivial ?_
  refine AW2_seq ?_
  refine AW2_reg [0, 1, 2] rfl ?_
  refine r_op rfl rfl (MakeD.opD (n_box 2 rfl rfl) rfl rfl rfl rfl) ?_
  refine r_op rfl rfl (MakeD.opD (u_alloc 4 rfl in_30 one_30 zc_30) rfl rfl rfl rfl) ?_
  refine r_op rfl rfl (PureD.opD (p_asg rfl rfl)) ?_
  refine RunW_st [(1, .c (.p (AV.bytes b1))), (2, .c (.ptr 2 (0))), (4, .c (.ptr 4 (0)))] [(2, .pure (GStream.cs s0)), (4, .pure (GStream.cs GStream.zero))] rfl ⟨TLes.same _, TLes.same _, TLes.same _, trivial⟩ ⟨rfl, rfl, trivial⟩ ?_
  refine RunW_nil ?_
  refine AW2_seq ?_
  refine AW2_seq ?_
  refine AW2_reg [0, 1] rfl ?_
  refine r_op rfl rfl (PureD.opD (u_lda rfl rfl Tryd.underlying30 rfl in_30 rfl (Nat.succ_pos _) (Sub.refl _) (GStream.len s0))) ?_
  refine bindK H fun r'1 h1 H => ?_
  refine r_op rfl rfl (PureD.opD (p_callp rfl rfl rfl Tryd.func37 rfl rfl (g_ref_badStream_ac h1) ⟨rfl, trivial⟩)) ?_
  refine RunW_st [(1, .c (.p (AV.bytes b1))), (2, .c (.ptr 2 (0))), (4, .c (.ptr 4 (0))), (11, .c (.p (AV.bool r'1)))] [(2, .pure (GStream.cs s0)), (4, .pure (GStream.cs GStream.zero))] rfl ⟨TLes.same _, TLes.same _, TLes.same _, TLes.same _, trivial⟩ ⟨rfl, rfl, trivial⟩ ?_
  refine RunW_nil ?_
  refine AW2_cond rfl (fun h2 => ?_) (fun h2 => ?_)
  · replace H := ite_then h2 H
    refine AW2_seq ?_
    refine AW2_reg [0, 1, 2] rfl ?_
    refine r_op rfl rfl (PureD.opD (u_bld rfl in_30 one_30 zc_30 pl_30 rfl rfl)) ?_
    refine r_op rfl rfl (u_st rfl rfl rfl rfl rfl in_30 (GStream.len GStream.zero) (ne_of_lt (n := 0) (Nat.lt_of_lt_of_eq (by decide) (Eq.symm (GStream.len GStream.zero)))) (Upd.refl ((GStream.len GStream.zero).trans (GStream.len GStream.zero).symm))) ?_
    refine r_op rfl rfl (PureD.opD (p_asg rfl rfl)) ?_
    refine RunW_st [(4, .c (.ptr 4 (0))), (5, .c (.p (AV.int (11 : Int))))] [(4, .pure (GStream.cs GStream.zero))] rfl ⟨TLes.same _, TLes.same _, trivial⟩ ⟨rfl, trivial⟩ ?_
    refine RunW_nil ?_
    refine AW2_ret ?_
    have hz := some_elim H
    subst hz
    exact ⟨⟨res_cella Tryd.underlying30 rfl in_30.sz rfl (Sub.le (Sub.refl _) (GStream.len GStream.zero)) (by decide) (Sub.take (Sub.refl _) (GStream.len GStream.zero)), res_tmp (.same _), trivial⟩, trivial⟩
  · replace H := ite_else (ne_true h2) H
    refine AW2_st [(1, .c (.p (AV.bytes b1))), (2, .c (.ptr 2 (0))), (4, .c (.ptr 4 (0)))] [(2, .pure (GStream.cs s0)), (4, .pure (GStream.cs GStream.zero))] rfl ⟨TLes.same _, TLes.same _, TLes.same _, trivial⟩ ⟨rfl, rfl, trivial⟩ ?_
    refine AW2_skip ?_
    refine AW2_seq ?_
    refine AW2_seq ?_
    refine AW2_reg [0, 1, 2, 3, 4, 5] rfl ?_
    refine r_op rfl rfl (PureD.opD (u_fa rfl rfl Tryd.underlying30 rfl in_3 (Nat.succ_ne_zero _) rfl rfl (ne_of_lt (n := 0) (Nat.lt_of_lt_of_eq (by decide) (Eq.symm (GStream.len s0)))))) ?_
    refine r_op rfl rfl (PureD.opD (u_ld rfl rfl Tryd.underlying3 rfl rfl ((Sub.refl _).trans (GStream.sub3 s0)))) ?_
    refine r_op rfl rfl (PureD.opD (p_move rfl rfl)) ?_
    refine r_op rfl rfl (PureD.opD (p_lenl rfl Tryd.underlying22 rfl rfl)) ?_
    refine r_op rfl rfl (PureD.opD (p_bin rfl rfl rfl rfl)) ?_
    refine r_op rfl rfl (PureD.opD (p_bin rfl rfl rfl rfl)) ?_
    refine RunW_st [(1, .c (.p (AV.bytes b1))), (2, .c (.ptr 2 (0))), (4, .c (.ptr 4 (0))), (18, .c (.p (.bool (decide (s0.Len > w64 ((1152921504606846976 : Int) - (b1.length : Int)))))))] [(2, .pure (GStream.cs s0)), (4, .pure (GStream.cs GStream.zero))] rfl ⟨TLes.same _, TLes.same _, TLes.same _, TLes.same _, trivial⟩ ⟨rfl, rfl, trivial⟩ ?_
    refine RunW_nil ?_
    refine AW2_if (p := s0.Len > w64 ((1152921504606846976 : Int) - (b1.length : Int))) rfl (fun h3 => ?_) (fun h3 => ?_)
    · replace H := ite_then h3 H
      refine AW2_seq ?_
      refine AW2_reg [0, 1, 2] rfl ?_
      refine r_op rfl rfl (PureD.opD (u_bld rfl in_30 one_30 zc_30 pl_30 rfl rfl)) ?_
      refine r_op rfl rfl (u_st rfl rfl rfl rfl rfl in_30 (GStream.len GStream.zero) (ne_of_lt (n := 0) (Nat.lt_of_lt_of_eq (by decide) (Eq.symm (GStream.len GStream.zero)))) (Upd.refl ((GStream.len GStream.zero).trans (GStream.len GStream.zero).symm))) ?_
      refine r_op rfl rfl (PureD.opD (p_asg rfl rfl)) ?_
      refine RunW_st [(4, .c (.ptr 4 (0))), (5, .c (.p (AV.int (1 : Int))))] [(4, .pure (GStream.cs GStream.zero))] rfl ⟨TLes.same _, TLes.same _, trivial⟩ ⟨rfl, trivial⟩ ?_
      refine RunW_nil ?_
      refine AW2_ret ?_
      have hz := some_elim H
      subst hz
      exact ⟨⟨res_cella Tryd.underlying30 rfl in_30.sz rfl (Sub.le (Sub.refl _) (GStream.len GStream.zero)) (by decide) (Sub.take (Sub.refl _) (GStream.len GStream.zero)), res_tmp (.same _), trivial⟩, trivial⟩
    · replace H := ite_else h3 H
      refine AW2_st [(1, .c (.p (AV.bytes b1))), (2, .c (.ptr 2 (0))), (4, .c (.ptr 4 (0)))] [(2, .pure (GStream.cs s0)), (4, .pure (GStream.cs GStream.zero))] rfl ⟨TLes.same _, TLes.same _, TLes.same _, trivial⟩ ⟨rfl, rfl, trivial⟩ ?_
      refine AW2_skip ?_
      refine AW2_seq ?_
      refine bindK H fun r'2 h4 H => ?_
      refine chkK H fun h5 H => ?_
      refine AW2_ghoQ ?_
      refine AW2_draw 4 [4, 5] (fun k => ([.c (.p (.agg (GStream.cs s0))), .c (.p (AV.txt r'2)), .c (.p (AV.bytes b1)), .c (.p (AV.txt b1))] : List TV).getD k TV.any) (fun k => ([[(2, none)], [(20, some 0)], [(1, none)], [(22, some 2)]] : List (List (Nat × Option Nat))).getD k []) [(1, none), (2, none), (4, none), (21, some 1), (23, some 3)] [] (fun k => ([[], [0], [], [2], [0, 1, 2, 3], [0, 1, 2, 3, 4]] : List (List Nat)).getD k []) mixed (by kernel_rfl) rfl rfl (a_op (g_x rfl (x_p rfl (u_lda rfl rfl Tryd.underlying30 rfl in_30 rfl (Nat.succ_pos _) (Sub.refl _) (GStream.len s0)) rfl)) (a_op (g_x rfl (x_p rfl (p_callp rfl rfl rfl Tryd.func38 rfl rfl (g_ref_heldOf_ac h4) ⟨rfl, trivial⟩) rfl)) (a_op (g_x rfl (x_p rfl (p_move rfl rfl) rfl)) (a_op (g_x rfl (x_p rfl (p_cb rfl rfl Tryd.underlying22 Tryd.underlying5 Tryd.underlying9 rfl) rfl)) (a_nil))))) ?_
      refine t_op rfl rfl (PureD.opD (p_cat rfl rfl rfl h5)) ?_
      refine t_op rfl rfl (PureD.opD (p_asg rfl rfl)) ?_
      refine t_gho (Gho_st (L := [(1, .c (.p (AV.bytes b1))), (2, .c (.ptr 2 (0))), (4, .c (.ptr 4 (0))), (6, .c (.p (AV.txt (r'2 ++ b1))))]) (H := [(2, .pure (GStream.cs s0)), (4, .pure (GStream.cs GStream.zero))]) rfl ⟨TLes.same _, TLes.same _, TLes.same _, TLes.same _, trivial⟩ ⟨rfl, rfl, trivial⟩) ?_
      refine AW2_seq ?_
      refine bindK H fun r'3 h6 H => ?_
      refine AW2_ghoQ ?_
      refine AW2_draw 11 [11] (fun k => ([.c (.ptr 2 (0 + 0)), .c (.p (.agg (s0.H.toList.map AV.u32))), .c (.p (AV.txt (r'2 ++ b1))), .c (.p (.agg (r'3.toList.map AV.u32))), .c (.ptr 2 (0 + 73)), .c (.p (AV.int s0.Len)), .c (.p (AV.bytes b1)), .c (.p (AV.int (b1.length : Int))), .c (.p (AV.int (w64 (s0.Len + (b1.length : Int))))), .c (.p (.agg (GStream.cs ({ { GStream.zero with H := r'3 } with Len := w64 (s0.Len + (b1.length : Int)) })))), .c (.ptr 7 (0))] : List TV).getD k TV.any) (fun k => ([[(2, none)], [(25, some 0)], [(6, none)], [(26, some 1), (27, some 2)], [(2, none)], [(29, some 4)], [(1, none)], [(31, some 6)], [(30, some 5), (32, some 7)], [(28, some 3), (33, some 8)], []] : List (List (Nat × Option Nat))).getD k []) [(4, none), (6, none), (7, some 10), (34, some 9)] [(10, 7, (GStream.cs GStream.zero))] (fun k => ([[], [0], [], [0, 1, 2], [], [4], [], [6], [4, 5, 6, 7], [0, 1, 2, 3, 4, 5, 6, 7, 8], [], [0, 1, 2, 3, 4, 5, 6, 7, 8, 9, 10]] : List (List Nat)).getD k []) mixed (by kernel_rfl) rfl rfl (a_op (g_x rfl (x_p rfl (u_fa rfl rfl Tryd.underlying30 rfl in_27 (Nat.succ_ne_zero _) rfl rfl (ne_of_lt (n := 0) (Nat.lt_of_lt_of_eq (by decide) (Eq.symm (GStream.len s0))))) rfl)) (a_op (g_x rfl (x_p rfl (u_lda rfl rfl Tryd.underlying27 rfl in_27 rfl (Nat.succ_pos _) ((Sub.refl _).trans (GStream.sub0 s0)) (vmap_len (f := AV.u32) s0.H)) rfl)) (a_op (g_x rfl (x_p rfl (p_move rfl rfl) rfl)) (a_op (g_x rfl (x_p rfl (p_callp rfl rfl rfl Tryd.func39 rfl rfl (g_ref_blocks_ac h6) ⟨rfl, rfl, trivial⟩) rfl)) (a_op (g_x rfl (x_p rfl (u_fa rfl rfl Tryd.underlying30 rfl in_3 (Nat.succ_ne_zero _) rfl rfl (ne_of_lt (n := 0) (Nat.lt_of_lt_of_eq (by decide) (Eq.symm (GStream.len s0))))) rfl)) (a_op (g_x rfl (x_p rfl (u_ld rfl rfl Tryd.underlying3 rfl rfl ((Sub.refl _).trans (GStream.sub3 s0))) rfl)) (a_op (g_x rfl (x_p rfl (p_move rfl rfl) rfl)) (a_op (g_x rfl (x_p rfl (p_lenl rfl Tryd.underlying22 rfl rfl) rfl)) (a_op (g_x rfl (x_p rfl (p_bin rfl rfl rfl rfl) rfl)) (a_op (g_x rfl (x_p rfl (u_bld rfl in_30 one_30 zc_30 pl_30 rfl (af_cons rfl (vmap_len (f := AV.u32) r'3) (GStream.upd0 GStream.zero r'3) (af_cons rfl rfl (GStream.upd3 ({ GStream.zero with H := r'3 }) (w64 (s0.Len + (b1.length : Int)))) rfl))) rfl)) (a_op (g_x rfl (x_m rfl (u_alloc 7 rfl in_30 one_30 zc_30) rfl rfl)) (a_nil)))))))))))) ?_
      refine t_op rfl rfl (u_st rfl rfl rfl rfl rfl in_30 (GStream.len ({ { GStream.zero with H := r'3 } with Len := w64 (s0.Len + (b1.length : Int)) })) (ne_of_lt (n := 0) (Nat.lt_of_lt_of_eq (by decide) (Eq.symm (GStream.len GStream.zero)))) (Upd.refl ((GStream.len ({ { GStream.zero with H := r'3 } with Len := w64 (s0.Len + (b1.length : Int)) })).trans (GStream.len GStream.zero).symm))) ?_
      refine t_gho (Gho_st (L := [(4, .c (.ptr 4 (0))), (6, .c (.p (AV.txt (r'2 ++ b1)))), (7, .c (.ptr 7 (0)))]) (H := [(4, .pure (GStream.cs GStream.zero)), (7, .pure (GStream.cs ({ { GStream.zero with H := r'3 } with Len := w64 (s0.Len + (b1.length : Int)) })))]) rfl ⟨TLes.same _, TLes.same _, TLes.same _, trivial⟩ ⟨rfl, rfl, trivial⟩) ?_
      refine gen1 (fun out7'4 => (⟨[(4, .c (.ptr 4 (0))), (6, .c (.p (AV.txt (r'2 ++ b1)))), (7, .c (.ptr 7 (0)))], [(4, .pure (GStream.cs GStream.zero)), (7, .pure (GStream.cs out7'4))], 59⟩ : TS)) H ?_
      intro out7'4 H
      refine AW2_seq ?_
      refine AW2_reg [0, 1, 2, 3, 4, 5, 6, 7, 8] rfl ?_
      refine r_op rfl rfl (PureD.opD (p_move rfl rfl)) ?_
      refine r_op rfl rfl (PureD.opD (p_move rfl rfl)) ?_
      refine r_op rfl rfl (PureD.opD (p_lent rfl Tryd.underlying9 rfl)) ?_
      refine r_op rfl rfl (PureD.opD (p_move rfl rfl)) ?_
      refine r_op rfl rfl (PureD.opD (p_lent rfl Tryd.underlying9 rfl)) ?_
      refine r_op rfl rfl (PureD.opD (p_irem rfl rfl rfl (by decide))) ?_
      refine r_op rfl rfl (PureD.opD (p_bin rfl rfl rfl rfl)) ?_
      refine chkK H fun h7 H => ?_
      refine r_op rfl rfl (PureD.opD (u_cutt (a := w64 (((r'2 ++ b1).length : Int) - (((r'2 ++ b1).length : Int).tmod (64 : Int)))) (b := ((r'2 ++ b1).length : Int)) rfl Tryd.underlying9 rfl (bT_i (show 0 ≤ w64 (((r'2 ++ b1).length : Int) - (((r'2 ++ b1).length : Int).tmod (64 : Int))) ∧ w64 (((r'2 ++ b1).length : Int) - (((r'2 ++ b1).length : Int).tmod (64 : Int))) ≤ ((r'2 ++ b1).length : Int) ∧ ((r'2 ++ b1).length : Int) ≤ ((r'2 ++ b1).length : Int) from ⟨h7.1, h7.2, Int.le_refl _⟩).1 rfl) (bT_len _) (show 0 ≤ w64 (((r'2 ++ b1).length : Int) - (((r'2 ++ b1).length : Int).tmod (64 : Int))) ∧ w64 (((r'2 ++ b1).length : Int) - (((r'2 ++ b1).length : Int).tmod (64 : Int))) ≤ ((r'2 ++ b1).length : Int) ∧ ((r'2 ++ b1).length : Int) ≤ ((r'2 ++ b1).length : Int) from ⟨h7.1, h7.2, Int.le_refl _⟩))) ?_
      refine r_op rfl rfl (PureD.opD (p_asg rfl rfl)) ?_
      refine RunW_st [(4, .c (.ptr 4 (0))), (7, .c (.ptr 7 (0))), (8, .c (.p (AV.txt (cut (r'2 ++ b1) (w64 (((r'2 ++ b1).length : Int) - (((r'2 ++ b1).length : Int).tmod (64 : Int)))) ((r'2 ++ b1).length : Int)))))] [(4, .pure (GStream.cs GStream.zero)), (7, .pure (GStream.cs out7'4))] rfl ⟨TLes.same _, TLes.same _, TLes.same _, trivial⟩ ⟨rfl, rfl, trivial⟩ ?_
      refine RunW_nil ?_
      refine gen1 (fun rest8'5 => (⟨[(4, .c (.ptr 4 (0))), (7, .c (.ptr 7 (0))), (8, .c (.p (AV.txt rest8'5)))], [(4, .pure (GStream.cs GStream.zero)), (7, .pure (GStream.cs out7'4))], 59⟩ : TS)) H ?_
      intro rest8'5 H
      refine AW2_seq ?_
      refine AW2_reg [0, 1, 2, 3] rfl ?_
      refine r_op rfl rfl (PureD.opD (p_move rfl rfl)) ?_
      refine r_op rfl rfl (PureD.opD (p_lent rfl Tryd.underlying9 rfl)) ?_
      refine r_op rfl rfl (PureD.opD (u_fa rfl rfl Tryd.underlying30 rfl in_3 (Nat.succ_ne_zero _) rfl rfl (ne_of_lt (n := 0) (Nat.lt_of_lt_of_eq (by decide) (Eq.symm (GStream.len out7'4)))))) ?_
      refine r_op rfl rfl (u_st rfl rfl rfl rfl rfl in_3 rfl (ne_of_lt (n := 0) (Nat.lt_of_lt_of_eq (by decide) (Eq.symm (GStream.len out7'4)))) (Upd.trans (Sub.refl _) (GStream.upd2 out7'4 (rest8'5.length : Int)) (Upd.refl ((GStream.len ({ out7'4 with N := (rest8'5.length : Int) })).trans (GStream.len out7'4).symm)))) ?_
      refine RunW_st [(4, .c (.ptr 4 (0))), (7, .c (.ptr 7 (0))), (8, .c (.p (AV.txt rest8'5)))] [(4, .pure (GStream.cs GStream.zero)), (7, .pure (GStream.cs ({ out7'4 with N := (rest8'5.length : Int) })))] rfl ⟨TLes.same _, TLes.same _, TLes.same _, trivial⟩ ⟨rfl, rfl, trivial⟩ ?_
      refine RunW_nil ?_
      refine AW2_seq ?_
      refine AW2_seq ?_
      refine AW2_reg [0] rfl ?_
      refine r_op rfl rfl (PureD.opD (p_asg rfl rfl)) ?_
      refine RunW_st [(4, .c (.ptr 4 (0))), (7, .c (.ptr 7 (0))), (8, .c (.p (AV.txt rest8'5))), (9, .c (.p (AV.int (0 : Int))))] [(4, .pure (GStream.cs GStream.zero)), (7, .pure (GStream.cs ({ out7'4 with N := (rest8'5.length : Int) })))] rfl ⟨TLes.same _, TLes.same _, TLes.same _, TLes.same _, trivial⟩ ⟨rfl, rfl, trivial⟩ ?_
      refine RunW_nil ?_
      refine AW2_block ?_
      refine AW2_st [(4, .c (.ptr 4 (0))), (7, .c (.ptr 7 (0))), (8, .c (.p (AV.txt rest8'5))), (9, .c (.p (AV.int (0 : Int))))] [(4, .pure (GStream.cs GStream.zero)), (7, .pure (GStream.cs ({ out7'4 with N := (rest8'5.length : Int) })))] rfl ⟨TLes.same _, TLes.same _, TLes.same _, TLes.same _, trivial⟩ ⟨rfl, rfl, trivial⟩ ?_
      refine bindK H fun y'10 h11 H => ?_
      refine AW2_loopO (fun a'7 : Int × GStream => (⟨[(4, .c (.ptr 4 (0))), (7, .c (.ptr 7 (0))), (8, .c (.p (AV.txt rest8'5))), (9, .c (.p (AV.int a'7.1)))], [(4, .pure (GStream.cs GStream.zero)), (7, .pure (GStream.cs a'7.2))], 59⟩ : TS)) (fun (y'8 : GStream) e s' => e = Go.Exit.exit 0 ∧ s' = (⟨[(4, .c (.ptr 4 (0))), (7, .c (.ptr 7 (0)))], [(4, .pure (GStream.cs GStream.zero)), (7, .pure (GStream.cs y'8))], 59⟩ : TS)) h11 rfl (fun a x hx => ?_) (fun e s' hs => ?_)
      · clear H
        obtain ⟨i9_0, out7_0⟩ := a
        have H := hx
        clear hx
        unfold g_ref_Added_l0 at H
        refine AW2_seq ?_
        refine AW2_seq ?_
        refine AW2_reg [0, 1, 2, 3] rfl ?_
        refine r_op rfl rfl (PureD.opD (p_move rfl rfl)) ?_
        refine r_op rfl rfl (PureD.opD (p_move rfl rfl)) ?_
        refine r_op rfl rfl (PureD.opD (p_lent rfl Tryd.underlying9 rfl)) ?_
        refine r_op rfl rfl (PureD.opD (p_bin rfl rfl rfl rfl)) ?_
        refine RunW_st [(4, .c (.ptr 4 (0))), (7, .c (.ptr 7 (0))), (8, .c (.p (AV.txt rest8'5))), (9, .c (.p (AV.int i9_0))), (49, .c (.p (.bool (decide (i9_0 < (rest8'5.length : Int))))))] [(4, .pure (GStream.cs GStream.zero)), (7, .pure (GStream.cs out7_0))] rfl ⟨TLes.same _, TLes.same _, TLes.same _, TLes.same _, TLes.same _, trivial⟩ ⟨rfl, rfl, trivial⟩ ?_
        refine RunW_nil ?_
        refine AW2_if (p := i9_0 < (rest8'5.length : Int)) rfl (fun h8 => ?_) (fun h8 => ?_)
        · replace H := ite_then h8 H
          refine AW2_st [(4, .c (.ptr 4 (0))), (7, .c (.ptr 7 (0))), (8, .c (.p (AV.txt rest8'5))), (9, .c (.p (AV.int i9_0)))] [(4, .pure (GStream.cs GStream.zero)), (7, .pure (GStream.cs out7_0))] rfl ⟨TLes.same _, TLes.same _, TLes.same _, TLes.same _, trivial⟩ ⟨rfl, rfl, trivial⟩ ?_
          refine AW2_skip ?_
          refine AW2_seq ?_
          refine AW2_block ?_
          refine AW2_reg [0, 1, 2, 3, 4, 5, 6] rfl ?_
          refine r_op rfl rfl (PureD.opD (p_move rfl rfl)) ?_
          refine r_op rfl rfl (PureD.opD (p_move rfl rfl)) ?_
          refine r_op rfl rfl (PureD.opD (p_move rfl rfl)) ?_
          refine chkK H fun h9 H => ?_
          refine r_op rfl rfl (PureD.opD (p_ixt rfl Tryd.underlying9 rfl rfl (ixe h9) (lrd_get (ixn h9)))) ?_
          refine r_op rfl rfl (PureD.opD (u_fa rfl rfl Tryd.underlying30 rfl in_28 (Nat.succ_ne_zero _) rfl rfl (ne_of_lt (n := 0) (Nat.lt_of_lt_of_eq (by decide) (Eq.symm (GStream.len out7_0)))))) ?_
          refine chkK H fun h10 H => ?_
          refine r_op rfl rfl (PureD.opD (u_ixp rfl rfl Tryd.underlying28 in_5 rfl rfl (ne_of_lt (n := 0) (Nat.lt_of_lt_of_eq (by decide) (Eq.symm (GStream.len out7_0)))) rfl (ixe h10) (ixn h10))) ?_
          refine r_op rfl rfl (u_st rfl rfl rfl rfl rfl in_5 rfl (ne_of_lt (n := 0) (Nat.lt_of_lt_of_eq (by decide) (Eq.symm (GStream.len out7_0)))) (Upd.trans ((Sub.refl _).trans (GStream.sub1 out7_0)) (Upd.vmap (ixn h10)) (Upd.trans (Sub.refl _) (GStream.upd1 out7_0 (vwr out7_0.Held i9_0.toNat (lrd rest8'5 i9_0.toNat))) (Upd.refl ((GStream.len ({ out7_0 with Held := (vwr out7_0.Held i9_0.toNat (lrd rest8'5 i9_0.toNat)) })).trans (GStream.len out7_0).symm))))) ?_
          refine RunW_st [(4, .c (.ptr 4 (0))), (7, .c (.ptr 7 (0))), (8, .c (.p (AV.txt rest8'5))), (9, .c (.p (AV.int i9_0)))] [(4, .pure (GStream.cs GStream.zero)), (7, .pure (GStream.cs ({ out7_0 with Held := (vwr out7_0.Held i9_0.toNat (lrd rest8'5 i9_0.toNat)) })))] rfl ⟨TLes.same _, TLes.same _, TLes.same _, TLes.same _, trivial⟩ ⟨rfl, rfl, trivial⟩ ?_
          refine RunW_nil ?_
          refine gen1 (fun out7'6 => (⟨[(4, .c (.ptr 4 (0))), (7, .c (.ptr 7 (0))), (8, .c (.p (AV.txt rest8'5))), (9, .c (.p (AV.int i9_0)))], [(4, .pure (GStream.cs GStream.zero)), (7, .pure (GStream.cs out7'6))], 59⟩ : TS)) H ?_
          intro out7'6 H
          refine AW2_reg [0, 1, 2] rfl ?_
          refine r_op rfl rfl (PureD.opD (p_move rfl rfl)) ?_
          refine r_op rfl rfl (PureD.opD (p_bin rfl rfl rfl rfl)) ?_
          refine r_op rfl rfl (PureD.opD (p_asg rfl rfl)) ?_
          refine RunW_st [(4, .c (.ptr 4 (0))), (7, .c (.ptr 7 (0))), (8, .c (.p (AV.txt rest8'5))), (9, .c (.p (AV.int (w64 (i9_0 + (1 : Int))))))] [(4, .pure (GStream.cs GStream.zero)), (7, .pure (GStream.cs out7'6))] rfl ⟨TLes.same _, TLes.same _, TLes.same _, TLes.same _, trivial⟩ ⟨rfl, rfl, trivial⟩ ?_
          refine RunW_nil ?_
          have hz := some_elim H
          subst hz
          exact ⟨rfl, rfl⟩
        · replace H := ite_else h8 H
          refine AW2_st [(4, .c (.ptr 4 (0))), (7, .c (.ptr 7 (0)))] [(4, .pure (GStream.cs GStream.zero)), (7, .pure (GStream.cs out7_0))] rfl ⟨TLes.same _, TLes.same _, trivial⟩ ⟨rfl, rfl, trivial⟩ ?_
          refine AW2_exit ?_
          refine thenQ2_exit ?_
          have hz := some_elim H
          subst hz
          exact ⟨rfl, rfl⟩
      · obtain ⟨rfl, rfl⟩ := hs
        refine ⟨by simp, ?_⟩
        refine blockQ2_exit ?_
        refine AW2_seq ?_
        refine AW2_reg [0, 1, 2] rfl ?_
        refine r_op rfl rfl (PureD.opD (u_lda rfl rfl Tryd.underlying30 rfl in_30 rfl (Nat.succ_pos _) (Sub.refl _) (GStream.len y'10))) ?_
        refine r_op rfl rfl (u_st rfl rfl rfl rfl rfl in_30 (GStream.len y'10) (ne_of_lt (n := 0) (Nat.lt_of_lt_of_eq (by decide) (Eq.symm (GStream.len GStream.zero)))) (Upd.refl ((GStream.len y'10).trans (GStream.len GStream.zero).symm))) ?_
        refine r_op rfl rfl (PureD.opD (p_asg rfl rfl)) ?_
        refine RunW_st [(4, .c (.ptr 4 (0))), (5, .c (.p (AV.int (0 : Int))))] [(4, .pure (GStream.cs y'10))] rfl ⟨TLes.same _, TLes.same _, trivial⟩ ⟨rfl, trivial⟩ ?_
        refine RunW_nil ?_
        refine AW2_ret ?_
        have hz := some_elim H
        subst hz
        exact ⟨⟨res_cella Tryd.underlying30 rfl in_30.sz rfl (Sub.le (Sub.refl _) (GStream.len y'10)) (by decide) (Sub.take (Sub.refl _) (GStream.len y'10)), res_tmp (.same _), trivial⟩, trivial⟩

/-! chirographref.big -/
noncomputable def g_ref_big_l0 (size1 : Int) : UInt64 × (List UInt8) × Int → Option ((UInt64 × (List UInt8) × Int) ⊕ (((List UInt8))))
  | (n0_0, s5_0, t7_0) => (if t7_0 < size1 then if ([n0_0.toUInt8] : List UInt8).length + s5_0.length ≤ 9223372036854775807 then some (.inl (shr_u64 n0_0 8, ([n0_0.toUInt8] : List UInt8) ++ s5_0, w64 (t7_0 + (1 : Int)))) else none else some (.inr s5_0))
noncomputable def g_ref_big (n0 : UInt64) (size1 : Int) : Option ((List UInt8)) :=
  (loopO (g_ref_big_l0 size1) (n0, [], (0 : Int))).bind fun y'4 => some y'4
set_option maxHeartbeats 4000000 in
set_option maxRecDepth 100000 in
theorem g_ref_big_ac {n0 : UInt64} {size1 : Int} {r : (List UInt8)} (H : g_ref_big n0 size1 = some r) : ACp Tryd.prog 45 [(AV.u64 n0), (AV.int size1)] (AV.txt r) := by
  refine ACp_of (AC2_of_body (vs := [.c (.p (AV.txt r))]) Tryd.func45 rfl rfl (Nat.le_of_ble_eq_true rfl) rfl ?_) (fun _ => .same _)
  unfold g_ref_big at H
  refine AW2_st [(0, .c (.p (AV.u64 n0))), (1, .c (.p (AV.int size1)))] [] rfl ⟨TLes.same _, TLes.same _, trivial⟩ trivial ?_
  refine AW2_seq ?_
  refine AW2_reg [0] rfl ?_
  refine r_op rfl rfl (PureD.opD (p_asg rfl rfl)) ?_
  refine RunW_st [(0, .c (.p (AV.u64 n0))), (1, .c (.p (AV.int size1)))] [] rfl ⟨TLes.same _, TLes.same _, trivial⟩ trivial ?_
  refine RunW_nil ?_
  refine AW2_seq ?_
  refine AW2_reg [0] rfl ?_
  refine r_op rfl rfl (PureD.opD (p_asg rfl rfl)) ?_
  refine RunW_st [(0, .c (.p (AV.u64 n0))), (1, .c (.p (AV.int size1))), (5, .c (.p (AV.txt [])))] [] rfl ⟨TLes.same _, TLes.same _, TLes.same _, trivial⟩ trivial ?_
  refine RunW_nil ?_
  refine AW2_seq ?_
  refine AW2_seq ?_
  refine AW2_reg [0, 1] rfl ?_
  refine r_op rfl rfl (PureD.opD (p_move rfl rfl)) ?_
  refine r_op rfl rfl (PureD.opD (p_move rfl rfl)) ?_
  refine RunW_st [(0, .c (.p (AV.u64 n0))), (5, .c (.p (AV.txt []))), (6, .c (.p (AV.int size1))), (7, .c (.p (AV.int (0 : Int))))] [] rfl ⟨TLes.same _, TLes.same _, TLes.same _, TLes.same _, trivial⟩ trivial ?_
  refine RunW_nil ?_
  refine AW2_block ?_
  refine AW2_st [(0, .c (.p (AV.u64 n0))), (5, .c (.p (AV.txt []))), (6, .c (.p (AV.int size1))), (7, .c (.p (AV.int (0 : Int))))] [] rfl ⟨TLes.same _, TLes.same _, TLes.same _, TLes.same _, trivial⟩ trivial ?_
  refine bindK H fun y'4 h3 H => ?_
  refine AW2_loopO (fun a'1 : UInt64 × (List UInt8) × Int => (⟨[(0, .c (.p (AV.u64 a'1.1))), (5, .c (.p (AV.txt a'1.2.1))), (6, .c (.p (AV.int size1))), (7, .c (.p (AV.int a'1.2.2)))], [], 19⟩ : TS)) (fun (y'2 : ((List UInt8))) e s' => e = Go.Exit.exit 0 ∧ s' = (⟨[(5, .c (.p (AV.txt y'2)))], [], 19⟩ : TS)) h3 rfl (fun a x hx => ?_) (fun e s' hs => ?_)
  · clear H
    obtain ⟨n0_0, s5_0, t7_0⟩ := a
    have H := hx
    clear hx
    unfold g_ref_big_l0 at H
    refine AW2_seq ?_
    refine AW2_reg [0] rfl ?_
    refine r_op rfl rfl (PureD.opD (p_bin rfl rfl rfl rfl)) ?_
    refine RunW_st [(0, .c (.p (AV.u64 n0_0))), (5, .c (.p (AV.txt s5_0))), (6, .c (.p (AV.int size1))), (7, .c (.p (AV.int t7_0))), (8, .c (.p (.bool (decide (t7_0 < size1)))))] [] rfl ⟨TLes.same _, TLes.same _, TLes.same _, TLes.same _, TLes.same _, trivial⟩ trivial ?_
    refine RunW_nil ?_
    refine AW2_seq ?_
    refine AW2_if (p := t7_0 < size1) rfl (fun h1 => ?_) (fun h1 => ?_)
    · replace H := ite_then h1 H
      refine AW2_st [(0, .c (.p (AV.u64 n0_0))), (5, .c (.p (AV.txt s5_0))), (6, .c (.p (AV.int size1))), (7, .c (.p (AV.int t7_0)))] [] rfl ⟨TLes.same _, TLes.same _, TLes.same _, TLes.same _, trivial⟩ trivial ?_
      refine AW2_skip ?_
      refine AW2_seq ?_
      refine AW2_block ?_
      refine AW2_seq ?_
      refine AW2_reg [0, 1, 2, 3, 4, 5, 6] rfl ?_
      refine r_op rfl rfl (PureD.opD (p_move rfl rfl)) ?_
      refine r_op rfl rfl (PureD.opD (p_u64_u8 (a := n0_0) rfl Tryd.underlying66 Tryd.underlying5 rfl)) ?_
      refine r_op rfl rfl (MakeD.opD (u_bs 11 rfl Tryd.underlying22 in_5 rfl one_5 (by decide) (by decide) rfl rfl rfl) rfl rfl rfl rfl) ?_
      refine r_op rfl rfl (PureD.opD (p_cbo (bs := ([n0_0.toUInt8] : List UInt8)) rfl rfl Tryd.underlying22 Tryd.underlying5 Tryd.underlying9 rfl rfl)) ?_
      refine r_op rfl rfl (PureD.opD (p_move rfl rfl)) ?_
      refine chkK H fun h2 H => ?_
      refine r_op rfl rfl (PureD.opD (p_cat rfl rfl rfl h2)) ?_
      refine r_op rfl rfl (PureD.opD (p_asg rfl rfl)) ?_
      refine RunW_st [(0, .c (.p (AV.u64 n0_0))), (5, .c (.p (AV.txt (([n0_0.toUInt8] : List UInt8) ++ s5_0)))), (6, .c (.p (AV.int size1))), (7, .c (.p (AV.int t7_0)))] [] rfl ⟨TLes.same _, TLes.same _, TLes.same _, TLes.same _, trivial⟩ trivial ?_
      refine RunW_nil ?_
      refine AW2_reg [0, 1, 2] rfl ?_
      refine r_op rfl rfl (PureD.opD (p_move rfl rfl)) ?_
      refine r_op rfl rfl (PureD.opD (p_u64shr (n := 8) rfl rfl rfl rfl)) ?_
      refine r_op rfl rfl (PureD.opD (p_asg rfl rfl)) ?_
      refine RunW_st [(0, .c (.p (AV.u64 (shr_u64 n0_0 8)))), (5, .c (.p (AV.txt (([n0_0.toUInt8] : List UInt8) ++ s5_0)))), (6, .c (.p (AV.int size1))), (7, .c (.p (AV.int t7_0)))] [] rfl ⟨TLes.same _, TLes.same _, TLes.same _, TLes.same _, trivial⟩ trivial ?_
      refine RunW_nil ?_
      refine AW2_reg [0, 1] rfl ?_
      refine r_op rfl rfl (PureD.opD (p_bin rfl rfl rfl rfl)) ?_
      refine r_op rfl rfl (PureD.opD (p_move rfl rfl)) ?_
      refine RunW_st [(0, .c (.p (AV.u64 (shr_u64 n0_0 8)))), (5, .c (.p (AV.txt (([n0_0.toUInt8] : List UInt8) ++ s5_0)))), (6, .c (.p (AV.int size1))), (7, .c (.p (AV.int (w64 (t7_0 + (1 : Int))))))] [] rfl ⟨TLes.same _, TLes.same _, TLes.same _, TLes.same _, trivial⟩ trivial ?_
      refine RunW_nil ?_
      have hz := some_elim H
      subst hz
      exact ⟨rfl, rfl⟩
    · replace H := ite_else h1 H
      refine AW2_st [(5, .c (.p (AV.txt s5_0)))] [] rfl ⟨TLes.same _, trivial⟩ trivial ?_
      refine AW2_exit ?_
      refine thenQ2_exit ?_
      have hz := some_elim H
      subst hz
      exact ⟨rfl, rfl⟩
  · obtain ⟨rfl, rfl⟩ := hs
    refine ⟨by simp, ?_⟩
    refine blockQ2_exit ?_
    refine AW2_seq ?_
    refine AW2_reg [0, 1] rfl ?_
    refine r_op rfl rfl (PureD.opD (p_move rfl rfl)) ?_
    refine r_op rfl rfl (PureD.opD (p_asg rfl rfl)) ?_
    refine RunW_st [(4, .c (.p (AV.txt y'4)))] [] rfl ⟨TLes.same _, trivial⟩ trivial ?_
    refine RunW_nil ?_
    refine AW2_ret ?_
    have hz := some_elim H
    subst hz
    exact ⟨⟨res_tmp (.same _), trivial⟩, trivial⟩

/-! chirographref.ended -/
noncomputable def g_ref_ended_l0 : (List UInt8) → Option (((List UInt8)) ⊕ (((List UInt8))))
  | all3_0 => (if (all3_0.length : Int).tmod (64 : Int) ≠ (56 : Int) then if all3_0.length + [0].length ≤ 9223372036854775807 then some (.inl (all3_0 ++ [0])) else none else some (.inr all3_0))
noncomputable def g_ref_ended_l1 (r'7 : Vector UInt32 8) : (List UInt8) × Int → Option (((List UInt8) × Int) ⊕ (((List UInt8))))
  | (t5_1, t30_1) => (if t30_1 < (8 : Int) then if 0 ≤ t30_1 ∧ t30_1 < (8 : Int) then (g_ref_big ((vrd r'7 t30_1.toNat).toUInt64) (4 : Int)).bind fun r'8 => if t5_1.length + r'8.length ≤ 9223372036854775807 then some (.inl (t5_1 ++ r'8, w64 (t30_1 + (1 : Int)))) else none else none else some (.inr t5_1))
noncomputable def g_ref_ended_l2 (y'12 : (List UInt8)) : Int × (Vector UInt8 32) → Option ((Int × (Vector UInt8 32)) ⊕ (((Vector UInt8 32))))
  | (t39_2, out8_2) => (if t39_2 < (32 : Int) then if 0 ≤ t39_2 ∧ t39_2 < (y'12.length : Int) then if 0 ≤ t39_2 ∧ t39_2 < (32 : Int) then some (.inl (w64 (t39_2 + (1 : Int)), (vwr out8_2 t39_2.toNat (lrd y'12 t39_2.toNat)))) else none else none else some (.inr out8_2))
noncomputable def g_ref_ended (s0 : GStream) : Option ((Vector UInt8 32)) :=
  (g_ref_heldOf s0).bind fun r'1 => if r'1.length + [128].length ≤ 9223372036854775807 then (loopO (g_ref_ended_l0) (r'1 ++ [128])).bind fun y'5 => (g_ref_big ((UInt64.ofInt s0.Len) * (8 : UInt64)) (8 : Int)).bind fun r'6 => if y'5.length + r'6.length ≤ 9223372036854775807 then (g_ref_blocks s0.H (y'5 ++ r'6)).bind fun r'7 => (loopO (g_ref_ended_l1 r'7) ([], (0 : Int))).bind fun y'12 => (loopO (g_ref_ended_l2 y'12) ((0 : Int), (Vector.replicate 32 (0 : UInt8)))).bind fun y'16 => some y'16 else none else none
set_option maxHeartbeats 4000000 in
set_option maxRecDepth 100000 in
theorem g_ref_ended_ac {s0 : GStream} {r : (Vector UInt8 32)} (H : g_ref_ended s0 = some r) : ACp Tryd.prog 35 [(.agg (GStream.cs s0))] (.agg (bcells r.toList)) := by
  refine ACp_of (AC2_of_body (vs := [.c (.p (.agg (bcells r.toList)))]) Tryd.func35 rfl rfl (Nat.le_of_ble_eq_true rfl) rfl ?_) (fun _ => .same _)
  unfold g_ref_ended at H
  refine AW2_st [(0, .c (.p (.agg (GStream.cs s0))))] [] rfl ⟨TLes.same _, trivial⟩ trivial ?_
  refine AW2_seq ?_
  refine AW2_reg [0, 1] rfl ?_
  refine r_op rfl rfl (MakeD.opD (n_box 1 rfl rfl) rfl rfl rfl rfl) ?_
  refine r_op rfl rfl (MakeD.opD (u_alloc 2 rfl in_23 one_23 zc_23) rfl rfl rfl rfl) ?_
  refine RunW_st [(1, .c (.ptr 1 (0))), (2, .c (.ptr 2 (0)))] [(1, .pure (GStream.cs s0)), (2, .pure (bcells ((Vector.replicate 32 (0 : UInt8)).toList)))] rfl ⟨TLes.same _, TLes.same _, trivial⟩ ⟨rfl, rfl, trivial⟩ ?_
  refine RunW_nil ?_
  refine AW2_seq ?_
  refine AW2_reg [0, 1, 2, 3] rfl ?_
  refine r_op rfl rfl (PureD.opD (u_lda rfl rfl Tryd.underlying30 rfl in_30 rfl (Nat.succ_pos _) (Sub.refl _) (GStream.len s0))) ?_
  refine bindK H fun r'1 h1 H => ?_
  refine r_op rfl rfl (PureD.opD (p_callp rfl rfl rfl Tryd.func38 rfl rfl (g_ref_heldOf_ac h1) ⟨rfl, trivial⟩)) ?_
  refine chkK H fun h2 H => ?_
  refine r_op rfl rfl (PureD.opD (p_cat rfl rfl rfl h2)) ?_
  refine r_op rfl rfl (PureD.opD (p_asg rfl rfl)) ?_
  refine RunW_st [(1, .c (.ptr 1 (0))), (2, .c (.ptr 2 (0))), (3, .c (.p (AV.txt (r'1 ++ [128]))))] [(1, .pure (GStream.cs s0)), (2, .pure (bcells ((Vector.replicate 32 (0 : UInt8)).toList)))] rfl ⟨TLes.same _, TLes.same _, TLes.same _, trivial⟩ ⟨rfl, rfl, trivial⟩ ?_
  refine RunW_nil ?_
  refine AW2_seq ?_
  refine AW2_block ?_
  refine AW2_st [(1, .c (.ptr 1 (0))), (2, .c (.ptr 2 (0))), (3, .c (.p (AV.txt (r'1 ++ [128]))))] [(1, .pure (GStream.cs s0)), (2, .pure (bcells ((Vector.replicate 32 (0 : UInt8)).toList)))] rfl ⟨TLes.same _, TLes.same _, TLes.same _, trivial⟩ ⟨rfl, rfl, trivial⟩ ?_
  refine bindK H fun y'5 h5 H => ?_
  refine AW2_loopO (fun a'2 : (List UInt8) => (⟨[(1, .c (.ptr 1 (0))), (2, .c (.ptr 2 (0))), (3, .c (.p (AV.txt a'2)))], [(1, .pure (GStream.cs s0)), (2, .pure (bcells ((Vector.replicate 32 (0 : UInt8)).toList)))], 49⟩ : TS)) (fun (y'3 : ((List UInt8))) e s' => e = Go.Exit.exit 0 ∧ s' = (⟨[(1, .c (.ptr 1 (0))), (2, .c (.ptr 2 (0))), (3, .c (.p (AV.txt y'3)))], [(1, .pure (GStream.cs s0)), (2, .pure (bcells ((Vector.replicate 32 (0 : UInt8)).toList)))], 49⟩ : TS)) h5 rfl (fun all3_0 x hx => ?_) (fun e s' hs => ?_)
  · clear H
    have H := hx
    clear hx
    unfold g_ref_ended_l0 at H
    refine AW2_seq ?_
    refine AW2_seq ?_
    refine AW2_reg [0, 1, 2, 3] rfl ?_
    refine r_op rfl rfl (PureD.opD (p_move rfl rfl)) ?_
    refine r_op rfl rfl (PureD.opD (p_lent rfl Tryd.underlying9 rfl)) ?_
    refine r_op rfl rfl (PureD.opD (p_irem rfl rfl rfl (by decide))) ?_
    refine r_op rfl rfl (PureD.opD (p_ine rfl rfl rfl)) ?_
    refine RunW_st [(1, .c (.ptr 1 (0))), (2, .c (.ptr 2 (0))), (3, .c (.p (AV.txt all3_0))), (16, .c (.p (.bool (decide ((all3_0.length : Int).tmod (64 : Int) ≠ (56 : Int))))))] [(1, .pure (GStream.cs s0)), (2, .pure (bcells ((Vector.replicate 32 (0 : UInt8)).toList)))] rfl ⟨TLes.same _, TLes.same _, TLes.same _, TLes.same _, trivial⟩ ⟨rfl, rfl, trivial⟩ ?_
    refine RunW_nil ?_
    refine AW2_if (p := (all3_0.length : Int).tmod (64 : Int) ≠ (56 : Int)) rfl (fun h3 => ?_) (fun h3 => ?_)
    · replace H := ite_then h3 H
      refine AW2_st [(1, .c (.ptr 1 (0))), (2, .c (.ptr 2 (0))), (3, .c (.p (AV.txt all3_0)))] [(1, .pure (GStream.cs s0)), (2, .pure (bcells ((Vector.replicate 32 (0 : UInt8)).toList)))] rfl ⟨TLes.same _, TLes.same _, TLes.same _, trivial⟩ ⟨rfl, rfl, trivial⟩ ?_
      refine AW2_skip ?_
      refine AW2_block ?_
      refine AW2_reg [0, 1, 2] rfl ?_
      refine r_op rfl rfl (PureD.opD (p_move rfl rfl)) ?_
      refine chkK H fun h4 H => ?_
      refine r_op rfl rfl (PureD.opD (p_cat rfl rfl rfl h4)) ?_
      refine r_op rfl rfl (PureD.opD (p_asg rfl rfl)) ?_
      refine RunW_st [(1, .c (.ptr 1 (0))), (2, .c (.ptr 2 (0))), (3, .c (.p (AV.txt (all3_0 ++ [0]))))] [(1, .pure (GStream.cs s0)), (2, .pure (bcells ((Vector.replicate 32 (0 : UInt8)).toList)))] rfl ⟨TLes.same _, TLes.same _, TLes.same _, trivial⟩ ⟨rfl, rfl, trivial⟩ ?_
      refine RunW_nil ?_
      have hz := some_elim H
      subst hz
      exact ⟨rfl, rfl⟩
    · replace H := ite_else h3 H
      refine AW2_st [(1, .c (.ptr 1 (0))), (2, .c (.ptr 2 (0))), (3, .c (.p (AV.txt all3_0)))] [(1, .pure (GStream.cs s0)), (2, .pure (bcells ((Vector.replicate 32 (0 : UInt8)).toList)))] rfl ⟨TLes.same _, TLes.same _, TLes.same _, trivial⟩ ⟨rfl, rfl, trivial⟩ ?_
      refine AW2_exit ?_
      refine thenQ2_exit ?_
      have hz := some_elim H
      subst hz
      exact ⟨rfl, rfl⟩
  · obtain ⟨rfl, rfl⟩ := hs
    refine ⟨by simp, ?_⟩
    refine blockQ2_exit ?_
    refine AW2_seq ?_
    refine bindK H fun r'6 h6 H => ?_
    refine chkK H fun h7 H => ?_
    refine bindK H fun r'7 h8 H => ?_
    refine AW2_ghoQ ?_
    refine AW2_draw 11 [11] (fun k => ([.c (.ptr 1 (0 + 0)), .c (.p (.agg (s0.H.toList.map AV.u32))), .c (.p (AV.txt y'5)), .c (.ptr 1 (0 + 73)), .c (.p (AV.int s0.Len)), .c (.p (AV.u64 (UInt64.ofInt s0.Len))), .c (.p (AV.u64 ((UInt64.ofInt s0.Len) * (8 : UInt64)))), .c (.p (AV.txt r'6)), .c (.p (AV.txt (y'5 ++ r'6))), .c (.p (.agg (r'7.toList.map AV.u32))), .c (.ptr 4 (0))] : List TV).getD k TV.any) (fun k => ([[(1, none)], [(19, some 0)], [(3, none)], [(1, none)], [(22, some 3)], [(23, some 4)], [(24, some 5)], [(25, some 6)], [(21, some 2), (26, some 7)], [(20, some 1), (27, some 8)], []] : List (List (Nat × Option Nat))).getD k []) [(2, none), (4, some 10), (28, some 9)] [(10, 4, (((Vector.replicate 8 (0 : UInt32)).toList).map AV.u32))] (fun k => ([[], [0], [], [], [3], [3, 4], [3, 4, 5], [3, 4, 5, 6], [2, 3, 4, 5, 6, 7], [0, 1, 2, 3, 4, 5, 6, 7, 8], [], [0, 1, 2, 3, 4, 5, 6, 7, 8, 9, 10]] : List (List Nat)).getD k []) mixed (by kernel_rfl) rfl rfl (a_op (g_x rfl (x_p rfl (u_fa rfl rfl Tryd.underlying30 rfl in_27 (Nat.succ_ne_zero _) rfl rfl (ne_of_lt (n := 0) (Nat.lt_of_lt_of_eq (by decide) (Eq.symm (GStream.len s0))))) rfl)) (a_op (g_x rfl (x_p rfl (u_lda rfl rfl Tryd.underlying27 rfl in_27 rfl (Nat.succ_pos _) ((Sub.refl _).trans (GStream.sub0 s0)) (vmap_len (f := AV.u32) s0.H)) rfl)) (a_op (g_x rfl (x_p rfl (p_move rfl rfl) rfl)) (a_op (g_x rfl (x_p rfl (u_fa rfl rfl Tryd.underlying30 rfl in_3 (Nat.succ_ne_zero _) rfl rfl (ne_of_lt (n := 0) (Nat.lt_of_lt_of_eq (by decide) (Eq.symm (GStream.len s0))))) rfl)) (a_op (g_x rfl (x_p rfl (u_ld rfl rfl Tryd.underlying3 rfl rfl ((Sub.refl _).trans (GStream.sub3 s0))) rfl)) (a_op (g_x rfl (x_p rfl (p_i_u64 rfl Tryd.underlying3 Tryd.underlying66 rfl) rfl)) (a_op (g_x rfl (x_p rfl (p_u64mul (a := UInt64.ofInt s0.Len) (b := (8 : UInt64)) rfl rfl rfl) rfl)) (a_op (g_x rfl (x_p rfl (p_callp rfl rfl rfl Tryd.func45 rfl rfl (g_ref_big_ac h6) ⟨rfl, rfl, trivial⟩) rfl)) (a_op (g_x rfl (x_p rfl (p_cat rfl rfl rfl h7) rfl)) (a_op (g_x rfl (x_p rfl (p_callp rfl rfl rfl Tryd.func39 rfl rfl (g_ref_blocks_ac h8) ⟨rfl, rfl, trivial⟩) rfl)) (a_op (g_x rfl (x_m rfl (u_alloc 4 rfl in_27 one_27 zc_27) rfl rfl)) (a_nil)))))))))))) ?_
    refine t_op rfl rfl (u_st rfl rfl rfl rfl rfl in_27 (vmap_len (f := AV.u32) r'7) (ne_of_lt (n := 0) (Nat.lt_of_lt_of_eq (by decide) (Eq.symm (vmap_len (f := AV.u32) (Vector.replicate 8 (0 : UInt32)))))) (Upd.refl ((vmap_len (f := AV.u32) r'7).trans (vmap_len (f := AV.u32) (Vector.replicate 8 (0 : UInt32))).symm))) ?_
    refine t_gho (Gho_st (L := [(2, .c (.ptr 2 (0))), (4, .c (.ptr 4 (0)))]) (H := [(2, .pure (bcells ((Vector.replicate 32 (0 : UInt8)).toList))), (4, .pure (r'7.toList.map AV.u32))]) rfl ⟨TLes.same _, TLes.same _, trivial⟩ ⟨rfl, rfl, trivial⟩) ?_
    refine AW2_seq ?_
    refine AW2_reg [0] rfl ?_
    refine r_op rfl rfl (PureD.opD (p_asg rfl rfl)) ?_
    refine RunW_st [(2, .c (.ptr 2 (0))), (4, .c (.ptr 4 (0))), (5, .c (.p (AV.txt [])))] [(2, .pure (bcells ((Vector.replicate 32 (0 : UInt8)).toList))), (4, .pure (r'7.toList.map AV.u32))] rfl ⟨TLes.same _, TLes.same _, TLes.same _, trivial⟩ ⟨rfl, rfl, trivial⟩ ?_
    refine RunW_nil ?_
    refine AW2_seq ?_
    refine AW2_seq ?_
    refine AW2_reg [0, 1] rfl ?_
    refine r_op rfl rfl (PureD.opD (u_lda rfl rfl Tryd.underlying27 rfl in_27 rfl (Nat.succ_pos _) (Sub.refl _) (vmap_len (f := AV.u32) r'7))) ?_
    refine r_op rfl rfl (PureD.opD (p_move rfl rfl)) ?_
    refine RunW_st [(2, .c (.ptr 2 (0))), (5, .c (.p (AV.txt []))), (29, .c (.p (.agg (r'7.toList.map AV.u32)))), (30, .c (.p (AV.int (0 : Int))))] [(2, .pure (bcells ((Vector.replicate 32 (0 : UInt8)).toList)))] rfl ⟨TLes.same _, TLes.same _, TLes.same _, TLes.same _, trivial⟩ ⟨rfl, trivial⟩ ?_
    refine RunW_nil ?_
    refine AW2_block ?_
    refine AW2_st [(2, .c (.ptr 2 (0))), (5, .c (.p (AV.txt []))), (29, .c (.p (.agg (r'7.toList.map AV.u32)))), (30, .c (.p (AV.int (0 : Int))))] [(2, .pure (bcells ((Vector.replicate 32 (0 : UInt8)).toList)))] rfl ⟨TLes.same _, TLes.same _, TLes.same _, TLes.same _, trivial⟩ ⟨rfl, trivial⟩ ?_
    refine bindK H fun y'12 h13 H => ?_
    refine AW2_loopO (fun a'9 : (List UInt8) × Int => (⟨[(2, .c (.ptr 2 (0))), (5, .c (.p (AV.txt a'9.1))), (29, .c (.p (.agg (r'7.toList.map AV.u32)))), (30, .c (.p (AV.int a'9.2)))], [(2, .pure (bcells ((Vector.replicate 32 (0 : UInt8)).toList)))], 49⟩ : TS)) (fun (y'10 : ((List UInt8))) e s' => e = Go.Exit.exit 2 ∧ s' = (⟨[(2, .c (.ptr 2 (0))), (5, .c (.p (AV.txt y'10)))], [(2, .pure (bcells ((Vector.replicate 32 (0 : UInt8)).toList)))], 49⟩ : TS)) h13 rfl (fun a x hx => ?_) (fun e s' hs => ?_)
    · clear H
      obtain ⟨t5_1, t30_1⟩ := a
      have H := hx
      clear hx
      unfold g_ref_ended_l1 at H
      refine AW2_seq ?_
      refine AW2_reg [0] rfl ?_
      refine r_op rfl rfl (PureD.opD (p_bin rfl rfl rfl rfl)) ?_
      refine RunW_st [(2, .c (.ptr 2 (0))), (5, .c (.p (AV.txt t5_1))), (29, .c (.p (.agg (r'7.toList.map AV.u32)))), (30, .c (.p (AV.int t30_1))), (31, .c (.p (.bool (decide (t30_1 < (8 : Int))))))] [(2, .pure (bcells ((Vector.replicate 32 (0 : UInt8)).toList)))] rfl ⟨TLes.same _, TLes.same _, TLes.same _, TLes.same _, TLes.same _, trivial⟩ ⟨rfl, trivial⟩ ?_
      refine RunW_nil ?_
      refine AW2_seq ?_
      refine AW2_if (p := t30_1 < (8 : Int)) rfl (fun h9 => ?_) (fun h9 => ?_)
      · replace H := ite_then h9 H
        refine AW2_st [(2, .c (.ptr 2 (0))), (5, .c (.p (AV.txt t5_1))), (29, .c (.p (.agg (r'7.toList.map AV.u32)))), (30, .c (.p (AV.int t30_1)))] [(2, .pure (bcells ((Vector.replicate 32 (0 : UInt8)).toList)))] rfl ⟨TLes.same _, TLes.same _, TLes.same _, TLes.same _, trivial⟩ ⟨rfl, trivial⟩ ?_
        refine AW2_skip ?_
        refine AW2_seq ?_
        refine AW2_block ?_
        refine AW2_seq ?_
        refine AW2_reg [0, 1] rfl ?_
        refine chkK H fun h10 H => ?_
        refine r_op rfl rfl (PureD.opD (u_ixa rfl rfl Tryd.underlying27 in_26 Tryd.underlying26 rfl rfl rfl (ixe h10) (ixn h10) (Sub.vmap (ixn h10)))) ?_
        refine r_op rfl rfl (PureD.opD (p_asg rfl rfl)) ?_
        refine RunW_st [(2, .c (.ptr 2 (0))), (5, .c (.p (AV.txt t5_1))), (7, .c (.p (AV.u32 (vrd r'7 t30_1.toNat)))), (29, .c (.p (.agg (r'7.toList.map AV.u32)))), (30, .c (.p (AV.int t30_1)))] [(2, .pure (bcells ((Vector.replicate 32 (0 : UInt8)).toList)))] rfl ⟨TLes.same _, TLes.same _, TLes.same _, TLes.same _, TLes.same _, trivial⟩ ⟨rfl, trivial⟩ ?_
        refine RunW_nil ?_
        refine AW2_reg [0, 1, 2, 3, 4, 5] rfl ?_
        refine r_op rfl rfl (PureD.opD (p_move rfl rfl)) ?_
        refine r_op rfl rfl (PureD.opD (p_move rfl rfl)) ?_
        refine r_op rfl rfl (PureD.opD (p_u32_u64 (a := (vrd r'7 t30_1.toNat)) rfl Tryd.underlying26 Tryd.underlying66 rfl)) ?_
        refine bindK H fun r'8 h11 H => ?_
        refine r_op rfl rfl (PureD.opD (p_callp rfl rfl rfl Tryd.func45 rfl rfl (g_ref_big_ac h11) ⟨rfl, rfl, trivial⟩)) ?_
        refine chkK H fun h12 H => ?_
        refine r_op rfl rfl (PureD.opD (p_cat rfl rfl rfl h12)) ?_
        refine r_op rfl rfl (PureD.opD (p_asg rfl rfl)) ?_
        refine RunW_st [(2, .c (.ptr 2 (0))), (5, .c (.p (AV.txt (t5_1 ++ r'8)))), (29, .c (.p (.agg (r'7.toList.map AV.u32)))), (30, .c (.p (AV.int t30_1)))] [(2, .pure (bcells ((Vector.replicate 32 (0 : UInt8)).toList)))] rfl ⟨TLes.same _, TLes.same _, TLes.same _, TLes.same _, trivial⟩ ⟨rfl, trivial⟩ ?_
        refine RunW_nil ?_
        refine AW2_reg [0, 1] rfl ?_
        refine r_op rfl rfl (PureD.opD (p_bin rfl rfl rfl rfl)) ?_
        refine r_op rfl rfl (PureD.opD (p_move rfl rfl)) ?_
        refine RunW_st [(2, .c (.ptr 2 (0))), (5, .c (.p (AV.txt (t5_1 ++ r'8)))), (29, .c (.p (.agg (r'7.toList.map AV.u32)))), (30, .c (.p (AV.int (w64 (t30_1 + (1 : Int))))))] [(2, .pure (bcells ((Vector.replicate 32 (0 : UInt8)).toList)))] rfl ⟨TLes.same _, TLes.same _, TLes.same _, TLes.same _, trivial⟩ ⟨rfl, trivial⟩ ?_
        refine RunW_nil ?_
        have hz := some_elim H
        subst hz
        exact ⟨rfl, rfl⟩
      · replace H := ite_else h9 H
        refine AW2_st [(2, .c (.ptr 2 (0))), (5, .c (.p (AV.txt t5_1)))] [(2, .pure (bcells ((Vector.replicate 32 (0 : UInt8)).toList)))] rfl ⟨TLes.same _, TLes.same _, trivial⟩ ⟨rfl, trivial⟩ ?_
        refine AW2_exit ?_
        refine thenQ2_exit ?_
        have hz := some_elim H
        subst hz
        exact ⟨rfl, rfl⟩
    · obtain ⟨rfl, rfl⟩ := hs
      refine ⟨by simp, ?_⟩
      refine blockQ2_exit ?_
      refine AW2_seq ?_
      refine AW2_reg [0] rfl ?_
      refine r_op rfl rfl (MakeD.opD (u_alloc 8 rfl in_23 one_23 zc_23) rfl rfl rfl rfl) ?_
      refine RunW_st [(2, .c (.ptr 2 (0))), (5, .c (.p (AV.txt y'12))), (8, .c (.ptr 8 (0)))] [(2, .pure (bcells ((Vector.replicate 32 (0 : UInt8)).toList))), (8, .pure (bcells ((Vector.replicate 32 (0 : UInt8)).toList)))] rfl ⟨TLes.same _, TLes.same _, TLes.same _, trivial⟩ ⟨rfl, rfl, trivial⟩ ?_
      refine RunW_nil ?_
      refine AW2_seq ?_
      refine AW2_seq ?_
      refine AW2_reg [0] rfl ?_
      refine r_op rfl rfl (PureD.opD (p_move rfl rfl)) ?_
      refine RunW_st [(2, .c (.ptr 2 (0))), (5, .c (.p (AV.txt y'12))), (8, .c (.ptr 8 (0))), (39, .c (.p (AV.int (0 : Int))))] [(2, .pure (bcells ((Vector.replicate 32 (0 : UInt8)).toList))), (8, .pure (bcells ((Vector.replicate 32 (0 : UInt8)).toList)))] rfl ⟨TLes.same _, TLes.same _, TLes.same _, TLes.same _, trivial⟩ ⟨rfl, rfl, trivial⟩ ?_
      refine RunW_nil ?_
      refine AW2_block ?_
      refine AW2_st [(2, .c (.ptr 2 (0))), (5, .c (.p (AV.txt y'12))), (8, .c (.ptr 8 (0))), (39, .c (.p (AV.int (0 : Int))))] [(2, .pure (bcells ((Vector.replicate 32 (0 : UInt8)).toList))), (8, .pure (bcells ((Vector.replicate 32 (0 : UInt8)).toList)))] rfl ⟨TLes.same _, TLes.same _, TLes.same _, TLes.same _, trivial⟩ ⟨rfl, rfl, trivial⟩ ?_
      refine bindK H fun y'16 h17 H => ?_
      refine AW2_loopO (fun a'13 : Int × (Vector UInt8 32) => (⟨[(2, .c (.ptr 2 (0))), (5, .c (.p (AV.txt y'12))), (8, .c (.ptr 8 (0))), (39, .c (.p (AV.int a'13.1)))], [(2, .pure (bcells ((Vector.replicate 32 (0 : UInt8)).toList))), (8, .pure (bcells a'13.2.toList))], 49⟩ : TS)) (fun (y'14 : ((Vector UInt8 32))) e s' => e = Go.Exit.exit 4 ∧ s' = (⟨[(2, .c (.ptr 2 (0))), (8, .c (.ptr 8 (0)))], [(2, .pure (bcells ((Vector.replicate 32 (0 : UInt8)).toList))), (8, .pure (bcells y'14.toList))], 49⟩ : TS)) h17 rfl (fun a x hx => ?_) (fun e s' hs => ?_)
      · clear H
        obtain ⟨t39_2, out8_2⟩ := a
        have H := hx
        clear hx
        unfold g_ref_ended_l2 at H
        refine AW2_seq ?_
        refine AW2_reg [0] rfl ?_
        refine r_op rfl rfl (PureD.opD (p_bin rfl rfl rfl rfl)) ?_
        refine RunW_st [(2, .c (.ptr 2 (0))), (5, .c (.p (AV.txt y'12))), (8, .c (.ptr 8 (0))), (39, .c (.p (AV.int t39_2))), (40, .c (.p (.bool (decide (t39_2 < (32 : Int))))))] [(2, .pure (bcells ((Vector.replicate 32 (0 : UInt8)).toList))), (8, .pure (bcells out8_2.toList))] rfl ⟨TLes.same _, TLes.same _, TLes.same _, TLes.same _, TLes.same _, trivial⟩ ⟨rfl, rfl, trivial⟩ ?_
        refine RunW_nil ?_
        refine AW2_seq ?_
        refine AW2_if (p := t39_2 < (32 : Int)) rfl (fun h14 => ?_) (fun h14 => ?_)
        · replace H := ite_then h14 H
          refine AW2_st [(2, .c (.ptr 2 (0))), (5, .c (.p (AV.txt y'12))), (8, .c (.ptr 8 (0))), (39, .c (.p (AV.int t39_2)))] [(2, .pure (bcells ((Vector.replicate 32 (0 : UInt8)).toList))), (8, .pure (bcells out8_2.toList))] rfl ⟨TLes.same _, TLes.same _, TLes.same _, TLes.same _, trivial⟩ ⟨rfl, rfl, trivial⟩ ?_
          refine AW2_skip ?_
          refine AW2_seq ?_
          refine AW2_block ?_
          refine AW2_seq ?_
          refine AW2_reg [0, 1] rfl ?_
          refine r_op rfl rfl (PureD.opD (p_move rfl rfl)) ?_
          refine r_op rfl rfl (PureD.opD (p_asg rfl rfl)) ?_
          refine RunW_st [(2, .c (.ptr 2 (0))), (5, .c (.p (AV.txt y'12))), (8, .c (.ptr 8 (0))), (9, .c (.p (AV.int t39_2))), (39, .c (.p (AV.int t39_2)))] [(2, .pure (bcells ((Vector.replicate 32 (0 : UInt8)).toList))), (8, .pure (bcells out8_2.toList))] rfl ⟨TLes.same _, TLes.same _, TLes.same _, TLes.same _, TLes.same _, trivial⟩ ⟨rfl, rfl, trivial⟩ ?_
          refine RunW_nil ?_
          refine AW2_reg [0, 1, 2, 3, 4, 5] rfl ?_
          refine r_op rfl rfl (PureD.opD (p_move rfl rfl)) ?_
          refine r_op rfl rfl (PureD.opD (p_move rfl rfl)) ?_
          refine r_op rfl rfl (PureD.opD (p_move rfl rfl)) ?_
          refine chkK H fun h15 H => ?_
          refine r_op rfl rfl (PureD.opD (p_ixt rfl Tryd.underlying9 rfl rfl (ixe h15) (lrd_get (ixn h15)))) ?_
          refine chkK H fun h16 H => ?_
          refine r_op rfl rfl (PureD.opD (u_ixp rfl rfl Tryd.underlying23 in_5 rfl rfl (ne_of_lt (n := 0) (Nat.lt_of_lt_of_eq (by decide) (Eq.symm ((bcells_length _).trans (vlen out8_2))))) rfl (ixe h16) (ixn h16))) ?_
          refine r_op rfl rfl (u_st rfl rfl rfl rfl rfl in_5 rfl (ne_of_lt (n := 0) (Nat.lt_of_lt_of_eq (by decide) (Eq.symm ((bcells_length _).trans (vlen out8_2))))) (Upd.trans (Sub.refl _) (Upd.vmap (ixn h16)) (Upd.refl (((bcells_length _).trans (vlen (vwr out8_2 t39_2.toNat (lrd y'12 t39_2.toNat)))).trans ((bcells_length _).trans (vlen out8_2)).symm)))) ?_
          refine RunW_st [(2, .c (.ptr 2 (0))), (5, .c (.p (AV.txt y'12))), (8, .c (.ptr 8 (0))), (39, .c (.p (AV.int t39_2)))] [(2, .pure (bcells ((Vector.replicate 32 (0 : UInt8)).toList))), (8, .pure (bcells ((vwr out8_2 t39_2.toNat (lrd y'12 t39_2.toNat)).toList)))] rfl ⟨TLes.same _, TLes.same _, TLes.same _, TLes.same _, trivial⟩ ⟨rfl, rfl, trivial⟩ ?_
          refine RunW_nil ?_
          refine AW2_reg [0, 1] rfl ?_
          refine r_op rfl rfl (PureD.opD (p_bin rfl rfl rfl rfl)) ?_
          refine r_op rfl rfl (PureD.opD (p_move rfl rfl)) ?_
          refine RunW_st [(2, .c (.ptr 2 (0))), (5, .c (.p (AV.txt y'12))), (8, .c (.ptr 8 (0))), (39, .c (.p (AV.int (w64 (t39_2 + (1 : Int))))))] [(2, .pure (bcells ((Vector.replicate 32 (0 : UInt8)).toList))), (8, .pure (bcells ((vwr out8_2 t39_2.toNat (lrd y'12 t39_2.toNat)).toList)))] rfl ⟨TLes.same _, TLes.same _, TLes.same _, TLes.same _, trivial⟩ ⟨rfl, rfl, trivial⟩ ?_
          refine RunW_nil ?_
          have hz := some_elim H
          subst hz
          exact ⟨rfl, rfl⟩
        · replace H := ite_else h14 H
          refine AW2_st [(2, .c (.ptr 2 (0))), (8, .c (.ptr 8 (0)))] [(2, .pure (bcells ((Vector.replicate 32 (0 : UInt8)).toList))), (8, .pure (bcells out8_2.toList))] rfl ⟨TLes.same _, TLes.same _, trivial⟩ ⟨rfl, rfl, trivial⟩ ?_
          refine AW2_exit ?_
          refine thenQ2_exit ?_
          have hz := some_elim H
          subst hz
          exact ⟨rfl, rfl⟩
      · obtain ⟨rfl, rfl⟩ := hs
        refine ⟨by simp, ?_⟩
        refine blockQ2_exit ?_
        refine AW2_seq ?_
        refine AW2_reg [0, 1] rfl ?_
        refine r_op rfl rfl (PureD.opD (u_lda rfl rfl Tryd.underlying23 rfl in_23 rfl (Nat.succ_pos _) (Sub.refl _) ((bcells_length _).trans (vlen y'16)))) ?_
        refine r_op rfl rfl (u_st rfl rfl rfl rfl rfl in_23 ((bcells_length _).trans (vlen y'16)) (ne_of_lt (n := 0) (Nat.lt_of_lt_of_eq (by decide) (Eq.symm ((bcells_length _).trans (vlen (Vector.replicate 32 (0 : UInt8))))))) (Upd.refl (((bcells_length _).trans (vlen y'16)).trans ((bcells_length _).trans (vlen (Vector.replicate 32 (0 : UInt8)))).symm))) ?_
        refine RunW_st [(2, .c (.ptr 2 (0)))] [(2, .pure (bcells y'16.toList))] rfl ⟨TLes.same _, trivial⟩ ⟨rfl, trivial⟩ ?_
        refine RunW_nil ?_
        refine AW2_ret ?_
        have hz := some_elim H
        subst hz
        exact ⟨⟨res_cella Tryd.underlying23 rfl in_23.sz rfl (Sub.le (Sub.refl _) ((bcells_length _).trans (vlen y'16))) (by decide) (Sub.take (Sub.refl _) ((bcells_length _).trans (vlen y'16))), trivial⟩, trivial⟩

/-! chirographref.Summed -/
noncomputable def g_ref_Summed (b0 : List UInt8) : Option ((Vector UInt8 32)) :=
  (g_ref_Begun).bind fun r'1 => (g_ref_Added r'1 b0).bind fun r'2 => (g_ref_ended r'2.1).bind fun r'3 => some r'3
set_option maxHeartbeats 4000000 in
set_option maxRecDepth 100000 in
theorem g_ref_Summed_ac {b0 : List UInt8} {r : (Vector UInt8 32)} (H : g_ref_Summed b0 = some r) : ACp Tryd.prog 13 [(AV.bytes b0)] (.agg (bcells r.toList)) := by
  refine ACp_of (AC2_of_body (vs := [.c (.p (.agg (bcells r.toList)))]) Tryd.func13 rfl rfl (Nat.le_of_ble_eq_true rfl) rfl ?_) (fun _ => .same _)
  unfold g_ref_Summed at H
  refine AW2_st [(0, .c (.p (AV.bytes b0)))] [] rfl ⟨TLes.same _, trivial⟩ trivial ?_
  refine AW2_seq ?_
  refine AW2_reg [0] rfl ?_
  refine r_op rfl rfl (MakeD.opD (u_alloc 2 rfl in_23 one_23 zc_23) rfl rfl rfl rfl) ?_
  refine RunW_st [(0, .c (.p (AV.bytes b0))), (2, .c (.ptr 2 (0)))] [(2, .pure (bcells ((Vector.replicate 32 (0 : UInt8)).toList)))] rfl ⟨TLes.same _, TLes.same _, trivial⟩ ⟨rfl, trivial⟩ ?_
  refine RunW_nil ?_
  refine AW2_seq ?_
  refine AW2_reg [0, 1, 2, 3, 4, 5, 6, 7, 8] rfl ?_
  refine bindK H fun r'1 h1 H => ?_
  refine r_op rfl rfl (PureD.opD (p_callp rfl rfl rfl Tryd.func17 rfl rfl (g_ref_Begun_ac h1) trivial)) ?_
  refine r_op rfl rfl (PureD.opD (p_move rfl rfl)) ?_
  refine bindK H fun r'2 h2 H => ?_
  refine r_op rfl rfl (PureD.opD (p_callp rfl rfl rfl Tryd.func15 rfl rfl (g_ref_Added_ac h2) ⟨rfl, rfl, trivial⟩)) ?_
  refine r_op rfl rfl (PureD.opD (p_move rfl rfl)) ?_
  refine r_op rfl rfl (PureD.opD (p_ext rfl rfl rfl rfl)) ?_
  refine r_op rfl rfl (PureD.opD (p_ext rfl rfl rfl rfl)) ?_
  refine r_op rfl rfl (MakeD.opD (u_alloc 3 rfl in_30 one_30 zc_30) rfl rfl rfl rfl) ?_
  refine r_op rfl rfl (u_st rfl rfl rfl rfl rfl in_30 (GStream.len r'2.1) (ne_of_lt (n := 0) (Nat.lt_of_lt_of_eq (by decide) (Eq.symm (GStream.len GStream.zero)))) (Upd.refl ((GStream.len r'2.1).trans (GStream.len GStream.zero).symm))) ?_
  refine r_op rfl rfl (PureD.opD (p_asg rfl rfl)) ?_
  refine RunW_st [(2, .c (.ptr 2 (0))), (3, .c (.ptr 3 (0)))] [(2, .pure (bcells ((Vector.replicate 32 (0 : UInt8)).toList))), (3, .pure (GStream.cs r'2.1))] rfl ⟨TLes.same _, TLes.same _, trivial⟩ ⟨rfl, rfl, trivial⟩ ?_
  refine RunW_nil ?_
  refine AW2_seq ?_
  refine AW2_reg [0, 1, 2] rfl ?_
  refine r_op rfl rfl (PureD.opD (u_lda rfl rfl Tryd.underlying30 rfl in_30 rfl (Nat.succ_pos _) (Sub.refl _) (GStream.len r'2.1))) ?_
  refine bindK H fun r'3 h3 H => ?_
  refine r_op rfl rfl (PureD.opD (p_callp rfl rfl rfl Tryd.func35 rfl rfl (g_ref_ended_ac h3) ⟨rfl, trivial⟩)) ?_
  refine r_op rfl rfl (u_st rfl rfl rfl rfl rfl in_23 ((bcells_length _).trans (vlen r'3)) (ne_of_lt (n := 0) (Nat.lt_of_lt_of_eq (by decide) (Eq.symm ((bcells_length _).trans (vlen (Vector.replicate 32 (0 : UInt8))))))) (Upd.refl (((bcells_length _).trans (vlen r'3)).trans ((bcells_length _).trans (vlen (Vector.replicate 32 (0 : UInt8)))).symm))) ?_
  refine RunW_st [(2, .c (.ptr 2 (0)))] [(2, .pure (bcells r'3.toList))] rfl ⟨TLes.same _, trivial⟩ ⟨rfl, trivial⟩ ?_
  refine RunW_nil ?_
  refine AW2_ret ?_
  have hz := some_elim H
  subst hz
  exact ⟨⟨res_cella Tryd.underlying23 rfl in_23.sz rfl (Sub.le (Sub.refl _) ((bcells_length _).trans (vlen r'3))) (by decide) (Sub.take (Sub.refl _) ((bcells_length _).trans (vlen r'3))), trivial⟩, trivial⟩
end Go.Proofs.YtoepdjccgngpdaaDoor.VM
