/- Functions of the program, as they answer, and that their code comes to these answers. -/
import Derived.Test.YtoepdjccgngpdaaDoorGs4
namespace Go.Proofs.YtoepdjccgngpdaaDoor.VM
open Go Go.RowKit



/-! chirographref.blocks -/
noncomputable def g_ref_blocks_l0 : (List UInt8) × (Vector UInt32 8) → Option (((List UInt8) × (Vector UInt32 8)) ⊕ (((Vector UInt32 8))))
  | (s1_0, h2_0) => (if (s1_0.length : Int) ≥ (64 : Int) then if 0 ≤ (64 : Int) ∧ (64 : Int) ≤ (s1_0.length : Int) then (g_ref_block h2_0 (cut s1_0 (0 : Int) (64 : Int))).bind fun r'1 => if 0 ≤ (64 : Int) ∧ (64 : Int) ≤ (s1_0.length : Int) then some (.inl ((cut s1_0 (64 : Int) (s1_0.length : Int)), r'1)) else none else none else some (.inr h2_0))
noncomputable def g_ref_blocks (h0 : Vector UInt32 8) (s1 : List UInt8) : Option ((Vector UInt32 8)) :=
  (loopO (g_ref_blocks_l0) (s1, h0)).bind fun y'5 => some y'5
set_option maxHeartbeats 4000000 in
set_option maxRecDepth 100000 in
theorem g_ref_blocks_ac {h0 : Vector UInt32 8} {s1 : List UInt8} {r : (Vector UInt32 8)} (H : g_ref_blocks h0 s1 = some r) : ACp Tryd.prog 39 [(.agg (h0.toList.map AV.u32)), (AV.txt s1)] (.agg (r.toList.map AV.u32)) := by
  refine ACp_of (AC2_of_body (vs := [.c (.p (.agg (r.toList.map AV.u32)))]) Tryd.func39 rfl rfl (Nat.le_of_ble_eq_true rfl) rfl ?_) (fun _ => .same _)
  unfold g_ref_blocks at H
  refine AW2_st [(0, .c (.p (.agg (h0.toList.map AV.u32)))), (1, .c (.p (AV.txt s1)))] [] rfl ⟨TLes.same _, TLes.same _, trivial⟩ trivial ?_
  refine AW2_seq ?_
  refine AW2_reg [0, 1] rfl ?_
  refine r_op rfl rfl (MakeD.opD (n_box 2 rfl rfl) rfl rfl rfl rfl) ?_
  refine r_op rfl rfl (MakeD.opD (u_alloc 4 rfl in_27 one_27 zc_27) rfl rfl rfl rfl) ?_
  refine RunW_st [(1, .c (.p (AV.txt s1))), (2, .c (.ptr 2 (0))), (4, .c (.ptr 4 (0)))] [(2, .pure (h0.toList.map AV.u32)), (4, .pure (((Vector.replicate 8 (0 : UInt32)).toList).map AV.u32))] rfl ⟨TLes.same _, TLes.same _, TLes.same _, trivial⟩ ⟨rfl, rfl, trivial⟩ ?_
  refine RunW_nil ?_
  refine AW2_seq ?_
  refine AW2_block ?_
  refine AW2_st [(1, .c (.p (AV.txt s1))), (2, .c (.ptr 2 (0))), (4, .c (.ptr 4 (0)))] [(2, .pure (h0.toList.map AV.u32)), (4, .pure (((Vector.replicate 8 (0 : UInt32)).toList).map AV.u32))] rfl ⟨TLes.same _, TLes.same _, TLes.same _, trivial⟩ ⟨rfl, rfl, trivial⟩ ?_
  refine bindK H fun y'5 h5 H => ?_
  refine AW2_loopO (fun a'2 : (List UInt8) × (Vector UInt32 8) => (⟨[(1, .c (.p (AV.txt a'2.1))), (2, .c (.ptr 2 (0))), (4, .c (.ptr 4 (0)))], [(2, .pure (a'2.2.toList.map AV.u32)), (4, .pure (((Vector.replicate 8 (0 : UInt32)).toList).map AV.u32))], 15⟩ : TS)) (fun (y'3 : ((Vector UInt32 8))) e s' => e = Go.Exit.exit 0 ∧ s' = (⟨[(2, .c (.ptr 2 (0))), (4, .c (.ptr 4 (0)))], [(2, .pure (y'3.toList.map AV.u32)), (4, .pure (((Vector.replicate 8 (0 : UInt32)).toList).map AV.u32))], 15⟩ : TS)) h5 rfl (fun a x hx => ?_) (fun e s' hs => ?_)
  · clear H
    obtain ⟨s1_0, h2_0⟩ := a
    have H := hx
    clear hx
    unfold g_ref_blocks_l0 at H
    refine AW2_seq ?_
    refine AW2_seq ?_
    refine AW2_reg [0, 1, 2] rfl ?_
    refine r_op rfl rfl (PureD.opD (p_move rfl rfl)) ?_
    refine r_op rfl rfl (PureD.opD (p_lent rfl Tryd.underlying9 rfl)) ?_
    refine r_op rfl rfl (PureD.opD (p_bin rfl rfl rfl rfl)) ?_
    refine RunW_st [(1, .c (.p (AV.txt s1_0))), (2, .c (.ptr 2 (0))), (4, .c (.ptr 4 (0))), (7, .c (.p (.bool (decide ((s1_0.length : Int) ≥ (64 : Int))))))] [(2, .pure (h2_0.toList.map AV.u32)), (4, .pure (((Vector.replicate 8 (0 : UInt32)).toList).map AV.u32))] rfl ⟨TLes.same _, TLes.same _, TLes.same _, TLes.same _, trivial⟩ ⟨rfl, rfl, trivial⟩ ?_
    refine RunW_nil ?_
    refine AW2_if (p := (s1_0.length : Int) ≥ (64 : Int)) rfl (fun h1 => ?_) (fun h1 => ?_)
    · replace H := ite_then h1 H
      refine AW2_st [(1, .c (.p (AV.txt s1_0))), (2, .c (.ptr 2 (0))), (4, .c (.ptr 4 (0)))] [(2, .pure (h2_0.toList.map AV.u32)), (4, .pure (((Vector.replicate 8 (0 : UInt32)).toList).map AV.u32))] rfl ⟨TLes.same _, TLes.same _, TLes.same _, trivial⟩ ⟨rfl, rfl, trivial⟩ ?_
      refine AW2_skip ?_
      refine AW2_seq ?_
      refine AW2_block ?_
      refine chkK H fun h2 H => ?_
      refine bindK H fun r'1 h3 H => ?_
      refine AW2_ghoQ ?_
      refine AW2_draw 3 [3, 4] (fun k => ([.c (.p (.agg (h2_0.toList.map AV.u32))), .c (.p (AV.txt s1_0)), .c (.p (AV.txt (cut s1_0 (0 : Int) (64 : Int))))] : List TV).getD k TV.any) (fun k => ([[(2, none)], [(1, none)], [(11, some 1)]] : List (List (Nat × Option Nat))).getD k []) [(1, none), (2, none), (4, none), (10, some 0), (12, some 2)] [] (fun k => ([[], [], [1], [0, 1, 2], [0, 1, 2, 3]] : List (List Nat)).getD k []) mixed (by kernel_rfl) rfl rfl (a_op (g_x rfl (x_p rfl (u_lda rfl rfl Tryd.underlying27 rfl in_27 rfl (Nat.succ_pos _) (Sub.refl _) (vmap_len (f := AV.u32) h2_0)) rfl)) (a_op (g_x rfl (x_p rfl (p_move rfl rfl) rfl)) (a_op (g_x rfl (x_p rfl (u_cutt (a := (0 : Int)) (b := (64 : Int)) rfl Tryd.underlying9 rfl bT_zero (bT_i (Int.le_trans (show 0 ≤ (0 : Int) ∧ (0 : Int) ≤ (64 : Int) ∧ (64 : Int) ≤ (s1_0.length : Int) from ⟨Int.le_refl _, h2.1, h2.2⟩).1 (show 0 ≤ (0 : Int) ∧ (0 : Int) ≤ (64 : Int) ∧ (64 : Int) ≤ (s1_0.length : Int) from ⟨Int.le_refl _, h2.1, h2.2⟩).2.1) rfl) (show 0 ≤ (0 : Int) ∧ (0 : Int) ≤ (64 : Int) ∧ (64 : Int) ≤ (s1_0.length : Int) from ⟨Int.le_refl _, h2.1, h2.2⟩)) rfl)) (a_nil)))) ?_
      refine t_op rfl rfl (PureD.opD (p_callp rfl rfl rfl Tryd.func51 rfl rfl (g_ref_block_ac h3) ⟨rfl, rfl, trivial⟩)) ?_
      refine t_op rfl rfl (u_st rfl rfl rfl rfl rfl in_27 (vmap_len (f := AV.u32) r'1) (ne_of_lt (n := 0) (Nat.lt_of_lt_of_eq (by decide) (Eq.symm (vmap_len (f := AV.u32) h2_0)))) (Upd.refl ((vmap_len (f := AV.u32) r'1).trans (vmap_len (f := AV.u32) h2_0).symm))) ?_
      refine t_gho (Gho_st (L := [(1, .c (.p (AV.txt s1_0))), (2, .c (.ptr 2 (0))), (4, .c (.ptr 4 (0)))]) (H := [(2, .pure (r'1.toList.map AV.u32)), (4, .pure (((Vector.replicate 8 (0 : UInt32)).toList).map AV.u32))]) rfl ⟨TLes.same _, TLes.same _, TLes.same _, trivial⟩ ⟨rfl, rfl, trivial⟩) ?_
      refine AW2_reg [0, 1, 2] rfl ?_
      refine r_op rfl rfl (PureD.opD (p_move rfl rfl)) ?_
      refine chkK H fun h4 H => ?_
      refine r_op rfl rfl (PureD.opD (u_cutt (a := (64 : Int)) (b := (s1_0.length : Int)) rfl Tryd.underlying9 rfl (bT_i (show 0 ≤ (64 : Int) ∧ (64 : Int) ≤ (s1_0.length : Int) ∧ (s1_0.length : Int) ≤ (s1_0.length : Int) from ⟨h4.1, h4.2, Int.le_refl _⟩).1 rfl) (bT_len _) (show 0 ≤ (64 : Int) ∧ (64 : Int) ≤ (s1_0.length : Int) ∧ (s1_0.length : Int) ≤ (s1_0.length : Int) from ⟨h4.1, h4.2, Int.le_refl _⟩))) ?_
      refine r_op rfl rfl (PureD.opD (p_asg rfl rfl)) ?_
      refine RunW_st [(1, .c (.p (AV.txt (cut s1_0 (64 : Int) (s1_0.length : Int))))), (2, .c (.ptr 2 (0))), (4, .c (.ptr 4 (0)))] [(2, .pure (r'1.toList.map AV.u32)), (4, .pure (((Vector.replicate 8 (0 : UInt32)).toList).map AV.u32))] rfl ⟨TLes.same _, TLes.same _, TLes.same _, trivial⟩ ⟨rfl, rfl, trivial⟩ ?_
      refine RunW_nil ?_
      have hz := some_elim H
      subst hz
      exact ⟨rfl, rfl⟩
    · replace H := ite_else h1 H
      refine AW2_st [(2, .c (.ptr 2 (0))), (4, .c (.ptr 4 (0)))] [(2, .pure (h2_0.toList.map AV.u32)), (4, .pure (((Vector.replicate 8 (0 : UInt32)).toList).map AV.u32))] rfl ⟨TLes.same _, TLes.same _, trivial⟩ ⟨rfl, rfl, trivial⟩ ?_
      refine AW2_exit ?_
      refine thenQ2_exit ?_
      have hz := some_elim H
      subst hz
      exact ⟨rfl, rfl⟩
  · obtain ⟨rfl, rfl⟩ := hs
    refine ⟨by simp, ?_⟩
    refine blockQ2_exit ?_
    refine AW2_seq ?_
    refine AW2_reg [0, 1] rfl ?_
    refine r_op rfl rfl (PureD.opD (u_lda rfl rfl Tryd.underlying27 rfl in_27 rfl (Nat.succ_pos _) (Sub.refl _) (vmap_len (f := AV.u32) y'5))) ?_
    refine r_op rfl rfl (u_st rfl rfl rfl rfl rfl in_27 (vmap_len (f := AV.u32) y'5) (ne_of_lt (n := 0) (Nat.lt_of_lt_of_eq (by decide) (Eq.symm (vmap_len (f := AV.u32) (Vector.replicate 8 (0 : UInt32)))))) (Upd.refl ((vmap_len (f := AV.u32) y'5).trans (vmap_len (f := AV.u32) (Vector.replicate 8 (0 : UInt32))).symm))) ?_
    refine RunW_st [(4, .c (.ptr 4 (0)))] [(4, .pure (y'5.toList.map AV.u32))] rfl ⟨TLes.same _, trivial⟩ ⟨rfl, trivial⟩ ?_
    refine RunW_nil ?_
    refine AW2_ret ?_
    have hz := some_elim H
    subst hz
    exact ⟨⟨res_cella Tryd.underlying27 rfl in_27.sz rfl (Sub.le (Sub.refl _) (vmap_len (f := AV.u32) y'5)) (by decide) (Sub.take (Sub.refl _) (vmap_len (f := AV.u32) y'5)), trivial⟩, trivial⟩

/-! chirographref.Added -/
noncomputable def g_ref_Added_l0 (rest8'5 : List UInt8) : Int × GStream → Option ((Int × GStream) ⊕ (GStream))
  | (i9_0, out7_0) => (if i9_0 < (rest8'5.length : Int) then if 0 ≤ i9_0 ∧ i9_0 < (rest8'5.length : Int) then if 0 ≤ i9_0 ∧ i9_0 < (64 : Int) then letO ({ out7_0 with Held := (vwr out7_0.Held i9_0.toNat (lrd rest8'5 i9_0.toNat)) }) fun out7'6 => some (.inl (w64 (i9_0 + (1 : Int)), out7'6)) else none else none else some (.inr out7_0))
noncomputable def g_ref_Added (s0 : GStream) (b1 : List UInt8) : Option (GStream × Int) :=
  (g_ref_badStream s0).bind fun r'1 => (if r'1 = true then some (GStream.zero, (11 : Int)) else (if s0.Len > w64 ((1152921504606846976 : Int) - (b1.length : Int)) then some (GStream.zero, (1 : Int)) else (g_ref_heldOf s0).bind fun r'2 => if r'2.length + b1.length ≤ 9223372036854775807 then (g_ref_blocks s0.H (r'2 ++ b1)).bind fun r'3 => letO ({ { GStream.zero with H := r'3 } with Len := w64 (s0.Len + (b1.length : Int)) }) fun out7'4 => if 0 ≤ w64 (((r'2 ++ b1).length : Int) - (((r'2 ++ b1).length : Int).tmod (64 : Int))) ∧ w64 (((r'2 ++ b1).length : Int) - (((r'2 ++ b1).length : Int).tmod (64 : Int))) ≤ ((r'2 ++ b1).length : Int) then letO ((cut (r'2 ++ b1) (w64 (((r'2 ++ b1).length : Int) - (((r'2 ++ b1).length : Int).tmod (64 : Int)))) ((r'2 ++ b1).length : Int))) fun rest8'5 => (loopO (g_ref_Added_l0 rest8'5) ((0 : Int), { out7'4 with N := (rest8'5.length : Int) })).bind fun y'10 => some (y'10, (0 : Int)) else none else none))
set_option maxHeartbeats 4000000 in
set_option maxRecDepth 100000 in
theorem g_ref_Added_ac {s0 : GStream} {b1 : List UInt8} {r : GStream × Int} (H : g_ref_Added s0 b1 = some r) : ACp Tryd.prog 15 [(.agg (GStream.cs s0)), (AV.bytes b1)] (.tup [(.agg (GStream.cs r.1)), (AV.int r.2)]) := by
  refine ACp_of (AC2_of_body (vs := [.c (.p (.agg (GStream.cs r.1))), .c (.p (AV.int r.2))]) Tryd.func15 rfl rfl (Nat.le_of_ble_eq_true rfl) rfl ?_) (fun _ => .same _)
  unfold g_ref_Added at H
  refine AW2_st [(0, .c (.p (.agg (GStream.cs s0)))), (1, .c (.p (AV.bytes b1)))] [] rfl ⟨TLes.same _, TLes.same _, trivial⟩ trivial ?_
  refine AW2_seq ?_
  refine AW2_reg [0, 1, 2] rfl ?_
  refine r_op rfl rfl (MakeD.opD (n_box 2 rfl rfl) rfl rfl rfl rfl) ?_
  refine r_op rfl rfl (MakeD.opD (u_alloc 4 rfl in_30 one_30 zc_30) rfl rfl rfl rfl) ?_
  refine r_op rfl rfl (PureD.opD (p_asg rfl rfl)) ?_
  refine RunW_st [(1, .c (.p (AV.bytes b1))), (2, .c (.ptr 2 (0))), (4, .c (.ptr 4 (0)))] [(2, .pure (GStream.cs s0)), (4, .pure (GStream.cs GStream.zero))] rfl ⟨TLes.same _, TLes.same _, TLes.same _, trivial⟩ ⟨rfl, rfl, trivial⟩ ?_
  refine RunW_nil ?_
  refine AW2_seq ?_
  refine AW2_seq ?_
  refine AW2_reg [0, 1] rfl ?_
  refine r_op rfl rfl (PureD.opD (u_lda rfl rfl Tryd.underlying30 rfl in_30 rfl (Nat.succ_pos _) (Sub.refl _) (GStream.len s0))) ?_
  refine bindK H fun r'1 h1 H => ?_
  refine r_op rfl rfl (PureD.opD (p_callp rfl rfl rfl Tryd.func37 rfl rfl (g_ref_badStream_ac h1) ⟨rfl, trivial⟩)) ?_
  refine RunW_st [(1, .c (.p (AV.bytes b1))), (2, .c (.ptr 2 (0))), (4, .c (.ptr 4 (0))), (11, .c (.p (AV.bool r'1)))] [(2, .pure (GStream.cs s0)), (4, .pure (GStream.cs GStream.zero))] rfl ⟨TLes.same _, TLes.same _, TLes.same _, TLes.same _, trivial⟩ ⟨rfl, rfl, trivial⟩ ?_
  refine RunW_nil ?_
  refine AW2_cond rfl (fun h2 => ?_) (fun h2 => ?_)
  · replace H := ite_then h2 H
    refine AW2_seq ?_
    refine AW2_reg [0, 1, 2] rfl ?_
    refine r_op rfl rfl (PureD.opD (u_bld rfl in_30 one_30 zc_30 pl_30 rfl rfl)) ?_
    refine r_op rfl rfl (u_st rfl rfl rfl rfl rfl in_30 (GStream.len GStream.zero) (ne_of_lt (n := 0) (Nat.lt_of_lt_of_eq (by decide) (Eq.symm (GStream.len GStream.zero)))) (Upd.refl ((GStream.len GStream.zero).trans (GStream.len GStream.zero).symm))) ?_
    refine r_op rfl rfl (PureD.opD (p_asg rfl rfl)) ?_
    refine RunW_st [(4, .c (.ptr 4 (0))), (5, .c (.p (AV.int (11 : Int))))] [(4, .pure (GStream.cs GStream.zero))] rfl ⟨TLes.same _, TLes.same _, trivial⟩ ⟨rfl, trivial⟩ ?_
    refine RunW_nil ?_
    refine AW2_ret ?_
    have hz := some_elim H
    subst hz
    exact ⟨⟨res_cella Tryd.underlying30 rfl in_30.sz rfl (Sub.le (Sub.refl _) (GStream.len GStream.zero)) (by decide) (Sub.take (Sub.refl _) (GStream.len GStream.zero)), res_tmp (.same _), trivial⟩, trivial⟩
  · replace H := ite_else (ne_true h2) H
    refine AW2_st [(1, .c (.p (AV.bytes b1))), (2, .c (.ptr 2 (0))), (4, .c (.ptr 4 (0)))] [(2, .pure (GStream.cs s0)), (4, .pure (GStream.cs GStream.zero))] rfl ⟨TLes.same _, TLes.same _, TLes.same _, trivial⟩ ⟨rfl, rfl, trivial⟩ ?_
    refine AW2_skip ?_
    refine AW2_seq ?_
    refine AW2_seq ?_
    refine AW2_reg [0, 1, 2, 3, 4, 5] rfl ?_
    refine r_op rfl rfl (PureD.opD (u_fa rfl rfl Tryd.underlying30 rfl in_3 (Nat.succ_ne_zero _) rfl rfl (ne_of_lt (n := 0) (Nat.lt_of_lt_of_eq (by decide) (Eq.symm (GStream.len s0)))))) ?_
    refine r_op rfl rfl (PureD.opD (u_ld rfl rfl Tryd.underlying3 rfl rfl ((Sub.refl _).trans (GStream.sub3 s0)))) ?_
    refine r_op rfl rfl (PureD.opD (p_move rfl rfl)) ?_
    refine r_op rfl rfl (PureD.opD (p_lenl rfl Tryd.underlying22 rfl rfl)) ?_
    refine r_op rfl rfl (PureD.opD (p_bin rfl rfl rfl rfl)) ?_
    refine r_op rfl rfl (PureD.opD (p_bin rfl rfl rfl rfl)) ?_
    refine RunW_st [(1, .c (.p (AV.bytes b1))), (2, .c (.ptr 2 (0))), (4, .c (.ptr 4 (0))), (18, .c (.p (.bool (decide (s0.Len > w64 ((1152921504606846976 : Int) - (b1.length : Int)))))))] [(2, .pure (GStream.cs s0)), (4, .pure (GStream.cs GStream.zero))] rfl ⟨TLes.same _, TLes.same _, TLes.same _, TLes.same _, trivial⟩ ⟨rfl, rfl, trivial⟩ ?_
    refine RunW_nil ?_
    refine AW2_if (p := s0.Len > w64 ((1152921504606846976 : Int) - (b1.length : Int))) rfl (fun h3 => ?_) (fun h3 => ?_)
    · replace H := ite_then h3 H
      refine AW2_seq ?_
      refine AW2_reg [0, 1, 2] rfl ?_
      refine r_op rfl rfl (PureD.opD (u_bld rfl in_30 one_30 zc_30 pl_30 rfl rfl)) ?_
      refine r_op rfl rfl (u_st rfl rfl rfl rfl rfl in_30 (GStream.len GStream.zero) (ne_of_lt (n := 0) (Nat.lt_of_lt_of_eq (by decide) (Eq.symm (GStream.len GStream.zero)))) (Upd.refl ((GStream.len GStream.zero).trans (GStream.len GStream.zero).symm))) ?_
      refine r_op rfl rfl (PureD.opD (p_asg rfl rfl)) ?_
      refine RunW_st [(4, .c (.ptr 4 (0))), (5, .c (.p (AV.int (1 : Int))))] [(4, .pure (GStream.cs GStream.zero))] rfl ⟨TLes.same _, TLes.same _, trivial⟩ ⟨rfl, trivial⟩ ?_
      refine RunW_nil ?_
      refine AW2_ret ?_
      have hz := some_elim H
      subst hz
      exact ⟨⟨res_cella Tryd.underlying30 rfl in_30.sz rfl (Sub.le (Sub.refl _) (GStream.len GStream.zero)) (by decide) (Sub.take (Sub.refl _) (GStream.len GStream.zero)), res_tmp (.same _), trivial⟩, trivial⟩
    · replace H := ite_else h3 H
      refine AW2_st [(1, .c (.p (AV.bytes b1))), (2, .c (.ptr 2 (0))), (4, .c (.ptr 4 (0)))] [(2, .pure (GStream.cs s0)), (4, .pure (GStream.cs GStream.zero))] rfl ⟨TLes.same _, TLes.same _, TLes.same _, trivial⟩ ⟨rfl, rfl, trivial⟩ ?_
      refine AW2_skip ?_
      refine AW2_seq ?_
      refine bindK H fun r'2 h4 H => ?_
      refine chkK H fun h5 H => ?_
      refine AW2_ghoQ ?_
      refine AW2_draw 4 [4, 5] (fun k => ([.c (.p (.agg (GStream.cs s0))), .c (.p (AV.txt r'2)), .c (.p (AV.bytes b1)), .c (.p (AV.txt b1))] : List TV).getD k TV.any) (fun k => ([[(2, none)], [(20, some 0)], [(1, none)], [(22, some 2)]] : List (List (Nat × Option Nat))).getD k []) [(1, none), (2, none), (4, none), (21, some 1), (23, some 3)] [] (fun k => ([[], [0], [], [2], [0, 1, 2, 3], [0, 1, 2, 3, 4]] : List (List Nat)).getD k []) mixed (by kernel_rfl) rfl rfl (a_op (g_x rfl (x_p rfl (u_lda rfl rfl Tryd.underlying30 rfl in_30 rfl (Nat.succ_pos _) (Sub.refl _) (GStream.len s0)) rfl)) (a_op (g_x rfl (x_p rfl (p_callp rfl rfl rfl Tryd.func38 rfl rfl (g_ref_heldOf_ac h4) ⟨rfl, trivial⟩) rfl)) (a_op (g_x rfl (x_p rfl (p_move rfl rfl) rfl)) (a_op (g_x rfl (x_p rfl (p_cb rfl rfl Tryd.underlying22 Tryd.underlying5 Tryd.underlying9 rfl) rfl)) (a_nil))))) ?_
      refine t_op rfl rfl (PureD.opD (p_cat rfl rfl rfl h5)) ?_
      refine t_op rfl rfl (PureD.opD (p_asg rfl rfl)) ?_
      refine t_gho (Gho_st (L := [(1, .c (.p (AV.bytes b1))), (2, .c (.ptr 2 (0))), (4, .c (.ptr 4 (0))), (6, .c (.p (AV.txt (r'2 ++ b1))))]) (H := [(2, .pure (GStream.cs s0)), (4, .pure (GStream.cs GStream.zero))]) rfl ⟨TLes.same _, TLes.same _, TLes.same _, TLes.same _, trivial⟩ ⟨rfl, rfl, trivial⟩) ?_
      refine AW2_seq ?_
      refine bindK H fun r'3 h6 H => ?_
      refine AW2_ghoQ ?_
      refine AW2_draw 11 [11] (fun k => ([.c (.ptr 2 (0 + 0)), .c (.p (.agg (s0.H.toList.map AV.u32))), .c (.p (AV.txt (r'2 ++ b1))), .c (.p (.agg (r'3.toList.map AV.u32))), .c (.ptr 2 (0 + 73)), .c (.p (AV.int s0.Len)), .c (.p (AV.bytes b1)), .c (.p (AV.int (b1.length : Int))), .c (.p (AV.int (w64 (s0.Len + (b1.length : Int))))), .c (.p (.agg (GStream.cs ({ { GStream.zero with H := r'3 } with Len := w64 (s0.Len + (b1.length : Int)) })))), .c (.ptr 7 (0))] : List TV).getD k TV.any) (fun k => ([[(2, none)], [(25, some 0)], [(6, none)], [(26, some 1), (27, some 2)], [(2, none)], [(29, some 4)], [(1, none)], [(31, some 6)], [(30, some 5), (32, some 7)], [(28, some 3), (33, some 8)], []] : List (List (Nat × Option Nat))).getD k []) [(4, none), (6, none), (7, some 10), (34, some 9)] [(10, 7, (GStream.cs GStream.zero))] (fun k => ([[], [0], [], [0, 1, 2], [], [4], [], [6], [4, 5, 6, 7], [0, 1, 2, 3, 4, 5, 6, 7, 8], [], [0, 1, 2, 3, 4, 5, 6, 7, 8, 9, 10]] : List (List Nat)).getD k []) mixed (by kernel_rfl) rfl rfl (a_op (g_x rfl (x_p rfl (u_fa rfl rfl Tryd.underlying30 rfl in_27 (Nat.succ_ne_zero _) rfl rfl (ne_of_lt (n := 0) (Nat.lt_of_lt_of_eq (by decide) (Eq.symm (GStream.len s0))))) rfl)) (a_op (g_x rfl (x_p rfl (u_lda rfl rfl Tryd.underlying27 rfl in_27 rfl (Nat.succ_pos _) ((Sub.refl _).trans (GStream.sub0 s0)) (vmap_len (f := AV.u32) s0.H)) rfl)) (a_op (g_x rfl (x_p rfl (p_move rfl rfl) rfl)) (a_op (g_x rfl (x_p rfl (p_callp rfl rfl rfl Tryd.func39 rfl rfl (g_ref_blocks_ac h6) ⟨rfl, rfl, trivial⟩) rfl)) (a_op (g_x rfl (x_p rfl (u_fa rfl rfl Tryd.underlying30 rfl in_3 (Nat.succ_ne_zero _) rfl rfl (ne_of_lt (n := 0) (Nat.lt_of_lt_of_eq (by decide) (Eq.symm (GStream.len s0))))) rfl)) (a_op (g_x rfl (x_p rfl (u_ld rfl rfl Tryd.underlying3 rfl rfl ((Sub.refl _).trans (GStream.sub3 s0))) rfl)) (a_op (g_x rfl (x_p rfl (p_move rfl rfl) rfl)) (a_op (g_x rfl (x_p rfl (p_lenl rfl Tryd.underlying22 rfl rfl) rfl)) (a_op (g_x rfl (x_p rfl (p_bin rfl rfl rfl rfl) rfl)) (a_op (g_x rfl (x_p rfl (u_bld rfl in_30 one_30 zc_30 pl_30 rfl (af_cons rfl (vmap_len (f := AV.u32) r'3) (GStream.upd0 GStream.zero r'3) (af_cons rfl rfl (GStream.upd3 ({ GStream.zero with H := r'3 }) (w64 (s0.Len + (b1.length : Int)))) rfl))) rfl)) (a_op (g_x rfl (x_m rfl (u_alloc 7 rfl in_30 one_30 zc_30) rfl rfl)) (a_nil)))))))))))) ?_
      refine t_op rfl rfl (u_st rfl rfl rfl rfl rfl in_30 (GStream.len ({ { GStream.zero with H := r'3 } with Len := w64 (s0.Len + (b1.length : Int)) })) (ne_of_lt (n := 0) (Nat.lt_of_lt_of_eq (by decide) (Eq.symm (GStream.len GStream.zero)))) (Upd.refl ((GStream.len ({ { GStream.zero with H := r'3 } with Len := w64 (s0.Len + (b1.length : Int)) })).trans (GStream.len GStream.zero).symm))) ?_
      refine t_gho (Gho_st (L := [(4, .c (.ptr 4 (0))), (6, .c (.p (AV.txt (r'2 ++ b1)))), (7, .c (.ptr 7 (0)))]) (H := [(4, .pure (GStream.cs GStream.zero)), (7, .pure (GStream.cs ({ { GStream.zero with H := r'3 } with Len := w64 (s0.Len + (b1.length : Int)) })))]) rfl ⟨TLes.same _, TLes.same _, TLes.same _, trivial⟩ ⟨rfl, rfl, trivial⟩) ?_
      refine gen1 (fun out7'4 => (⟨[(4, .c (.ptr 4 (0))), (6, .c (.p (AV.txt (r'2 ++ b1)))), (7, .c (.ptr 7 (0)))], [(4, .pure (GStream.cs GStream.zero)), (7, .pure (GStream.cs out7'4))], 59⟩ : TS)) H ?_
      intro out7'4 H
      refine AW2_seq ?_
      refine AW2_reg [0, 1, 2, 3, 4, 5, 6, 7, 8] rfl ?_
      refine r_op rfl rfl (PureD.opD (p_move rfl rfl)) ?_
      refine r_op rfl rfl (PureD.opD (p_move rfl rfl)) ?_
      refine r_op rfl rfl (PureD.opD (p_lent rfl Tryd.underlying9 rfl)) ?_
      refine r_op rfl rfl (PureD.opD (p_move rfl rfl)) ?_
      refine r_op rfl rfl (PureD.opD (p_lent rfl Tryd.underlying9 rfl)) ?_
      refine r_op rfl rfl (PureD.opD (p_irem rfl rfl rfl (by decide))) ?_
      refine r_op rfl rfl (PureD.opD (p_bin rfl rfl rfl rfl)) ?_
      refine chkK H fun h7 H => ?_
      refine r_op rfl rfl (PureD.opD (u_cutt (a := w64 (((r'2 ++ b1).length : Int) - (((r'2 ++ b1).length : Int).tmod (64 : Int)))) (b := ((r'2 ++ b1).length : Int)) rfl Tryd.underlying9 rfl (bT_i (show 0 ≤ w64 (((r'2 ++ b1).length : Int) - (((r'2 ++ b1).length : Int).tmod (64 : Int))) ∧ w64 (((r'2 ++ b1).length : Int) - (((r'2 ++ b1).length : Int).tmod (64 : Int))) ≤ ((r'2 ++ b1).length : Int) ∧ ((r'2 ++ b1).length : Int) ≤ ((r'2 ++ b1).length : Int) from ⟨h7.1, h7.2, Int.le_refl _⟩).1 rfl) (bT_len _) (show 0 ≤ w64 (((r'2 ++ b1).length : Int) - (((r'2 ++ b1).length : Int).tmod (64 : Int))) ∧ w64 (((r'2 ++ b1).length : Int) - (((r'2 ++ b1).length : Int).tmod (64 : Int))) ≤ ((r'2 ++ b1).length : Int) ∧ ((r'2 ++ b1).length : Int) ≤ ((r'2 ++ b1).length : Int) from ⟨h7.1, h7.2, Int.le_refl _⟩))) ?_
      refine r_op rfl rfl (PureD.opD (p_asg rfl rfl)) ?_
      refine RunW_st [(4, .c (.ptr 4 (0))), (7, .c (.ptr 7 (0))), (8, .c (.p (AV.txt (cut (r'2 ++ b1) (w64 (((r'2 ++ b1).length : Int) - (((r'2 ++ b1).length : Int).tmod (64 : Int)))) ((r'2 ++ b1).length : Int)))))] [(4, .pure (GStream.cs GStream.zero)), (7, .pure (GStream.cs out7'4))] rfl ⟨TLes.same _, TLes.same _, TLes.same _, trivial⟩ ⟨rfl, rfl, trivial⟩ ?_
      refine RunW_nil ?_
      refine gen1 (fun rest8'5 => (⟨[(4, .c (.ptr 4 (0))), (7, .c (.ptr 7 (0))), (8, .c (.p (AV.txt rest8'5)))], [(4, .pure (GStream.cs GStream.zero)), (7, .pure (GStream.cs out7'4))], 59⟩ : TS)) H ?_
      intro rest8'5 H
      refine AW2_seq ?_
      refine AW2_reg [0, 1, 2, 3] rfl ?_
      refine r_op rfl rfl (PureD.opD (p_move rfl rfl)) ?_
      refine r_op rfl rfl (PureD.opD (p_lent rfl Tryd.underlying9 rfl)) ?_
      refine r_op rfl rfl (PureD.opD (u_fa rfl rfl Tryd.underlying30 rfl in_3 (Nat.succ_ne_zero _) rfl rfl (ne_of_lt (n := 0) (Nat.lt_of_lt_of_eq (by decide) (Eq.symm (GStream.len out7'4)))))) ?_
      refine r_op rfl rfl (u_st rfl rfl rfl rfl rfl in_3 rfl (ne_of_lt (n := 0) (Nat.lt_of_lt_of_eq (by decide) (Eq.symm (GStream.len out7'4)))) (Upd.trans (Sub.refl _) (GStream.upd2 out7'4 (rest8'5.length : Int)) (Upd.refl ((GStream.len ({ out7'4 with N := (rest8'5.length : Int) })).trans (GStream.len out7'4).symm)))) ?_
      refine RunW_st [(4, .c (.ptr 4 (0))), (7, .c (.ptr 7 (0))), (8, .c (.p (AV.txt rest8'5)))] [(4, .pure (GStream.cs GStream.zero)), (7, .pure (GStream.cs ({ out7'4 with N := (rest8'5.length : Int) })))] rfl ⟨TLes.same _, TLes.same _, TLes.same _, trivial⟩ ⟨rfl, rfl, trivial⟩ ?_
      refine RunW_nil ?_
      refine AW2_seq ?_
      refine AW2_seq ?_
      refine AW2_reg [0] rfl ?_
      refine r_op rfl rfl (PureD.opD (p_asg rfl rfl)) ?_
      refine RunW_st [(4, .c (.ptr 4 (0))), (7, .c (.ptr 7 (0))), (8, .c (.p (AV.txt rest8'5))), (9, .c (.p (AV.int (0 : Int))))] [(4, .pure (GStream.cs GStream.zero)), (7, .pure (GStream.cs ({ out7'4 with N := (rest8'5.length : Int) })))] rfl ⟨TLes.same _, TLes.same _, TLes.same _, TLes.same _, trivial⟩ ⟨rfl, rfl, trivial⟩ ?_
      refine RunW_nil ?_
      refine AW2_block ?_
      refine AW2_st [(4, .c (.ptr 4 (0))), (7, .c (.ptr 7 (0))), (8, .c (.p (AV.txt rest8'5))), (9, .c (.p (AV.int (0 : Int))))] [(4, .pure (GStream.cs GStream.zero)), (7, .pure (GStream.cs ({ out7'4 with N := (rest8'5.length : Int) })))] rfl ⟨TLes.same _, TLes.same _, TLes.same _, TLes.same _, trivial⟩ ⟨rfl, rfl, trivial⟩ ?_
      refine bindK H fun y'10 h11 H => ?_
      refine AW2_loopO (fun a'7 : Int × GStream => (⟨[(4, .c (.ptr 4 (0))), (7, .c (.ptr 7 (0))), (8, .c (.p (AV.txt rest8'5))), (9, .c (.p (AV.int a'7.1)))], [(4, .pure (GStream.cs GStream.zero)), (7, .pure (GStream.cs a'7.2))], 59⟩ : TS)) (fun (y'8 : GStream) e s' => e = Go.Exit.exit 0 ∧ s' = (⟨[(4, .c (.ptr 4 (0))), (7, .c (.ptr 7 (0)))], [(4, .pure (GStream.cs GStream.zero)), (7, .pure (GStream.cs y'8))], 59⟩ : TS)) h11 rfl (fun a x hx => ?_) (fun e s' hs => ?_)
      · clear H
        obtain ⟨i9_0, out7_0⟩ := a
        have H := hx
        clear hx
        unfold g_ref_Added_l0 at H
        refine AW2_seq ?_
        refine AW2_seq ?_
        refine AW2_reg [0, 1, 2, 3] rfl ?_
        refine r_op rfl rfl (PureD.opD (p_move rfl rfl)) ?_
        refine r_op rfl rfl (PureD.opD (p_move rfl rfl)) ?_
        refine r_op rfl rfl (PureD.opD (p_lent rfl Tryd.underlying9 rfl)) ?_
        refine r_op rfl rfl (PureD.opD (p_bin rfl rfl rfl rfl)) ?_
        refine RunW_st [(4, .c (.ptr 4 (0))), (7, .c (.ptr 7 (0))), (8, .c (.p (AV.txt rest8'5))), (9, .c (.p (AV.int i9_0))), (49, .c (.p (.bool (decide (i9_0 < (rest8'5.length : Int))))))] [(4, .pure (GStream.cs GStream.zero)), (7, .pure (GStream.cs out7_0))] rfl ⟨TLes.same _, TLes.same _, TLes.same _, TLes.same _, TLes.same _, trivial⟩ ⟨rfl, rfl, trivial⟩ ?_
        refine RunW_nil ?_
        refine AW2_if (p := i9_0 < (rest8'5.length : Int)) rfl (fun h8 => ?_) (fun h8 => ?_)
        · replace H := ite_then h8 H
          refine AW2_st [(4, .c (.ptr 4 (0))), (7, .c (.ptr 7 (0))), (8, .c (.p (AV.txt rest8'5))), (9, .c (.p (AV.int i9_0)))] [(4, .pure (GStream.cs GStream.zero)), (7, .pure (GStream.cs out7_0))] rfl ⟨TLes.same _, TLes.same _, TLes.same _, TLes.same _, trivial⟩ ⟨rfl, rfl, trivial⟩ ?_
          refine AW2_skip ?_
          refine AW2_seq ?_
          refine AW2_block ?_
          refine AW2_reg [0, 1, 2, 3, 4, 5, 6] rfl ?_
          refine r_op rfl rfl (PureD.opD (p_move rfl rfl)) ?_
          refine r_op rfl rfl (PureD.opD (p_move rfl rfl)) ?_
          refine r_op rfl rfl (PureD.opD (p_move rfl rfl)) ?_
          refine chkK H fun h9 H => ?_
          refine r_op rfl rfl (PureD.opD (p_ixt rfl Tryd.underlying9 rfl rfl (ixe h9) (lrd_get (ixn h9)))) ?_
          refine r_op rfl rfl (PureD.opD (u_fa rfl rfl Tryd.underlying30 rfl in_28 (Nat.succ_ne_zero _) rfl rfl (ne_of_lt (n := 0) (Nat.lt_of_lt_of_eq (by decide) (Eq.symm (GStream.len out7_0)))))) ?_
          refine chkK H fun h10 H => ?_
          refine r_op rfl rfl (PureD.opD (u_ixp rfl rfl Tryd.underlying28 in_5 rfl rfl (ne_of_lt (n := 0) (Nat.lt_of_lt_of_eq (by decide) (Eq.symm (GStream.len out7_0)))) rfl (ixe h10) (ixn h10))) ?_
          refine r_op rfl rfl (u_st rfl rfl rfl rfl rfl in_5 rfl (ne_of_lt (n := 0) (Nat.lt_of_lt_of_eq (by decide) (Eq.symm (GStream.len out7_0)))) (Upd.trans ((Sub.refl _).trans (GStream.sub1 out7_0)) (Upd.vmap (ixn h10)) (Upd.trans (Sub.refl _) (GStream.upd1 out7_0 (vwr out7_0.Held i9_0.toNat (lrd rest8'5 i9_0.toNat))) (Upd.refl ((GStream.len ({ out7_0 with Held := (vwr out7_0.Held i9_0.toNat (lrd rest8'5 i9_0.toNat)) })).trans (GStream.len out7_0).symm))))) ?_
          refine RunW_st [(4, .c (.ptr 4 (0))), (7, .c (.ptr 7 (0))), (8, .c (.p (AV.txt rest8'5))), (9, .c (.p (AV.int i9_0)))] [(4, .pure (GStream.cs GStream.zero)), (7, .pure (GStream.cs ({ out7_0 with Held := (vwr out7_0.Held i9_0.toNat (lrd rest8'5 i9_0.toNat)) })))] rfl ⟨TLes.same _, TLes.same _, TLes.same _, TLes.same _, trivial⟩ ⟨rfl, rfl, trivial⟩ ?_
          refine RunW_nil ?_
          refine gen1 (fun out7'6 => (⟨[(4, .c (.ptr 4 (0))), (7, .c (.ptr 7 (0))), (8, .c (.p (AV.txt rest8'5))), (9, .c (.p (AV.int i9_0)))], [(4, .pure (GStream.cs GStream.zero)), (7, .pure (GStream.cs out7'6))], 59⟩ : TS)) H ?_
          intro out7'6 H
          refine AW2_reg [0, 1, 2] rfl ?_
          refine r_op rfl rfl (PureD.opD (p_move rfl rfl)) ?_
          refine r_op rfl rfl (PureD.opD (p_bin rfl rfl rfl rfl)) ?_
          refine r_op rfl rfl (PureD.opD (p_asg rfl rfl)) ?_
          refine RunW_st [(4, .c (.ptr 4 (0))), (7, .c (.ptr 7 (0))), (8, .c (.p (AV.txt rest8'5))), (9, .c (.p (AV.int (w64 (i9_0 + (1 : Int))))))] [(4, .pure (GStream.cs GStream.zero)), (7, .pure (GStream.cs out7'6))] rfl ⟨TLes.same _, TLes.same _, TLes.same _, TLes.same _, trivial⟩ ⟨rfl, rfl, trivial⟩ ?_
          refine RunW_nil ?_
          have hz := some_elim H
          subst hz
          exact ⟨rfl, rfl⟩
        · replace H := ite_else h8 H
          refine AW2_st [(4, .c (.ptr 4 (0))), (7, .c (.ptr 7 (0)))] [(4, .pure (GStream.cs GStream.zero)), (7, .pure (GStream.cs out7_0))] rfl ⟨TLes.same _, TLes.same _, trivial⟩ ⟨rfl, rfl, trivial⟩ ?_
          refine AW2_exit ?_
          refine thenQ2_exit ?_
          have hz := some_elim H
          subst hz
          exact ⟨rfl, rfl⟩
      · obtain ⟨rfl, rfl⟩ := hs
        refine ⟨by simp, ?_⟩
        refine blockQ2_exit ?_
        refine AW2_seq ?_
        refine AW2_reg [0, 1, 2] rfl ?_
        refine r_op rfl rfl (PureD.opD (u_lda rfl rfl Tryd.underlying30 rfl in_30 rfl (Nat.succ_pos _) (Sub.refl _) (GStream.len y'10))) ?_
        refine r_op rfl rfl (u_st rfl rfl rfl rfl rfl in_30 (GStream.len y'10) (ne_of_lt (n := 0) (Nat.lt_of_lt_of_eq (by decide) (Eq.symm (GStream.len GStream.zero)))) (Upd.refl ((GStream.len y'10).trans (GStream.len GStream.zero).symm))) ?_
        refine r_op rfl rfl (PureD.opD (p_asg rfl rfl)) ?_
        refine RunW_st [(4, .c (.ptr 4 (0))), (5, .c (.p (AV.int (0 : Int))))] [(4, .pure (GStream.cs y'10))] rfl ⟨TLes.same _, TLes.same _, trivial⟩ ⟨rfl, trivial⟩ ?_
        refine RunW_nil ?_
        refine AW2_ret ?_
        have hz := some_elim H
        subst hz
        exact ⟨⟨res_cella Tryd.underlying30 rfl in_30.sz rfl (Sub.le (Sub.refl _) (GStream.len y'10)) (by decide) (Sub.take (Sub.refl _) (GStream.len y'10)), res_tmp (.same _), trivial⟩, trivial⟩
end Go.Proofs.YtoepdjccgngpdaaDoor.VM
