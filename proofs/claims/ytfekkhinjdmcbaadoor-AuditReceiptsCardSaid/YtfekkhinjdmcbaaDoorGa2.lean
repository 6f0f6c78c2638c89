/- Functions of the program, as they answer, and that their code comes to these answers. -/
import Derived.Test.YtfekkhinjdmcbaaDoorGa1
namespace Go.Proofs.YtfekkhinjdmcbaaDoor.VM
open Go Go.RowKit

set_option maxRecDepth 100000 in
theorem ty_3 {d : Nat} {cs : List AV} (h : Typed Tryd.prog d 3 cs) : ∃ x : Int, cs = [(AV.int x)] ∧ okI x := match d, h with
  | 0, h => False.elim h
  | d + 1, h => ty_int Tryd.underlying3 h
set_option maxRecDepth 100000 in
theorem ty_5 {d : Nat} {cs : List AV} (h : Typed Tryd.prog d 5 cs) : ∃ x : UInt8, cs = [(AV.b8 x)] ∧ okA x := match d, h with
  | 0, h => False.elim h
  | d + 1, h => ty_u8 Tryd.underlying5 h
set_option maxRecDepth 100000 in
theorem ty_33 {d : Nat} {cs : List AV} (h : Typed Tryd.prog d 33 cs) : ∃ x : List UInt8, cs = [(AV.bytes x)] ∧ (okL 1 okA) x := match d, h with
  | 0, h => False.elim h
  | d + 1, h => ty_slice (f := AV.b8) Tryd.underlying33 (bytes_of in_5) (fun _ hx => ty_5 hx) h
set_option maxRecDepth 100000 in
theorem ty_4 {d : Nat} {cs : List AV} (h : Typed Tryd.prog d 4 cs) : ∃ x : Bool, cs = [(AV.bool x)] ∧ okA x := match d, h with
  | 0, h => False.elim h
  | d + 1, h => ty_bool Tryd.underlying4 h
def GSlot.ok (x : GSlot) : Prop := okA x.Full ∧ (okL 1 okA) x.Salt ∧ (okL 1 okA) x.Data
set_option maxRecDepth 100000 in
theorem ty_52 {d : Nat} {cs : List AV} (h : Typed Tryd.prog d 52 cs) : ∃ x : GSlot, cs = GSlot.cs x ∧ GSlot.ok x := match d, h with
  | 0, h => False.elim h
  | d + 1, h => by
    obtain ⟨es, rfl, hl, hf⟩ := ty_struct Tryd.underlying52 h
    match es, hl, hf with
    | [e0, e1, e2], _, hf =>
    obtain ⟨x0, h0, q0⟩ := ty_4 (hf 0 _ e0 rfl rfl)
    obtain ⟨x1, h1, q1⟩ := ty_33 (hf 1 _ e1 rfl rfl)
    obtain ⟨x2, h2, q2⟩ := ty_33 (hf 2 _ e2 rfl rfl)
    refine ⟨⟨x0, x1, x2⟩, ?_, ⟨q0, q1, q2⟩⟩
    rw [h0, h1, h2]
    simp only [List.flatten_cons, List.flatten_nil, List.append_nil, GSlot.cs]
set_option maxRecDepth 100000 in
theorem ty_53 {d : Nat} {cs : List AV} (h : Typed Tryd.prog d 53 cs) : ∃ x : List (List UInt8), cs = [(AV.lists x)] ∧ (okL 24 (okL 1 okA)) x := match d, h with
  | 0, h => False.elim h
  | d + 1, h => ty_slice (f := AV.bytes) Tryd.underlying53 (bytes_of in_33) (fun _ hx => ty_33 hx) h

/-! chirographref.blocks -/
noncomputable def g_ref_blocks_l0 : (List UInt8) × (Vector UInt32 8) → Option (((List UInt8) × (Vector UInt32 8)) ⊕ (((Vector UInt32 8))))
  | (s1_0, h2_0) => (if (s1_0.length : Int) ≥ (64 : Int) then if 0 ≤ (64 : Int) ∧ (64 : Int) ≤ (s1_0.length : Int) then (g_ref_block h2_0 (cut s1_0 (0 : Int) (64 : Int))).bind fun r'1 => if 0 ≤ (64 : Int) ∧ (64 : Int) ≤ (s1_0.length : Int) then some (.inl ((cut s1_0 (64 : Int) (s1_0.length : Int)), r'1)) else none else none else some (.inr h2_0))
noncomputable def g_ref_blocks (h0 : Vector UInt32 8) (s1 : List UInt8) : Option ((Vector UInt32 8)) :=
  (loopO (g_ref_blocks_l0) (s1, h0)).bind fun y'5 => some y'5
set_option maxHeartbeats 4000000 in
set_option maxRecDepth 100000 in
theorem g_ref_blocks_ac {h0 : Vector UInt32 8} {s1 : List UInt8} {r : (Vector UInt32 8)} (H : g_ref_blocks h0 s1 = some r) : ACp Tryd.prog 109 [(.agg (h0.toList.map AV.u32)), (AV.txt s1)] (.agg (r.toList.map AV.u32)) := by
  refine ACp_of (AC2_of_body (vs := [.g (r.toList.map AV.u32)]) Tryd.func109 rfl rfl (Nat.le_of_ble_eq_true rfl) rfl ?_) (fun _ => .same _)
  unfold g_ref_blocks at H
  refine as2 [(0, .g (h0.toList.map AV.u32)), (1, .t s1)] [] rfl rfl rfl ?_
  refine sg [0, 1] rfl ?_
  refine r_op rfl rfl (MakeD.opD (n_box 2 rfl rfl) rfl rfl rfl rfl) ?_
  refine r_op rfl rfl (MakeD.opD (u_alloc 4 rfl in_112 one_112 zc_112) rfl rfl rfl rfl) ?_
  refine rz [(1, .t s1), (2, .q 2 (0)), (4, .q 4 (0))] [(2, .pure (h0.toList.map AV.u32)), (4, .pure (((Vector.replicate 8 (0 : UInt32)).toList).map AV.u32))] rfl rfl rfl ?_
  refine AW2_seq ?_
  refine AW2_block ?_
  refine as2 [(1, .t s1), (2, .q 2 (0)), (4, .q 4 (0))] [(2, .pure (h0.toList.map AV.u32)), (4, .pure (((Vector.replicate 8 (0 : UInt32)).toList).map AV.u32))] rfl rfl rfl ?_
  refine bindK H fun y'5 h5 H => ?_
  refine AW2_loopO (fun a'2 : (List UInt8) × (Vector UInt32 8) => (⟨[(1, .t a'2.1), (2, .q 2 (0)), (4, .q 4 (0))], [(2, .pure (a'2.2.toList.map AV.u32)), (4, .pure (((Vector.replicate 8 (0 : UInt32)).toList).map AV.u32))], 15⟩ : TS)) (fun (y'3 : ((Vector UInt32 8))) e s' => e = Go.Exit.exit 0 ∧ s' = (⟨[(2, .q 2 (0)), (4, .q 4 (0))], [(2, .pure (y'3.toList.map AV.u32)), (4, .pure (((Vector.replicate 8 (0 : UInt32)).toList).map AV.u32))], 15⟩ : TS)) h5 rfl (fun a x hx => ?_) (fun e s' hs => ?_)
  · clear H
    obtain ⟨s1_0, h2_0⟩ := a
    have H := hx
    clear hx
    unfold g_ref_blocks_l0 at H
    refine AW2_seq ?_
    refine sg [0, 1, 2] rfl ?_
    refine rp rfl rfl (p_move rfl rfl) ?_
    refine rp rfl rfl (p_lent rfl Tryd.underlying9 rfl) ?_
    refine rp rfl rfl (p_bin rfl rfl rfl rfl) ?_
    refine rz [(1, .t s1_0), (2, .q 2 (0)), (4, .q 4 (0)), (7, .b (decide ((s1_0.length : Int) ≥ (64 : Int))))] [(2, .pure (h2_0.toList.map AV.u32)), (4, .pure (((Vector.replicate 8 (0 : UInt32)).toList).map AV.u32))] rfl rfl rfl ?_
    refine AW2_if (p := (s1_0.length : Int) ≥ (64 : Int)) rfl (fun h1 => ?_) (fun h1 => ?_)
    · replace H := ite_then h1 H
      refine as2 [(1, .t s1_0), (2, .q 2 (0)), (4, .q 4 (0))] [(2, .pure (h2_0.toList.map AV.u32)), (4, .pure (((Vector.replicate 8 (0 : UInt32)).toList).map AV.u32))] rfl rfl rfl ?_
      refine AW2_skip ?_
      refine AW2_seq ?_
      refine AW2_block ?_
      refine chkK H fun h2 H => ?_
      refine bindK H fun r'1 h3 H => ?_
      refine AW2_ghoQ ?_
      refine AW2_draw 3 [3, 4] (fun k => ([.g (h2_0.toList.map AV.u32), .t s1_0, .t (cut s1_0 (0 : Int) (64 : Int))] : List TV).getD k TV.any) (fun k => ([[(2, none)], [(1, none)], [(11, some 1)]] : List (List (Nat × Option Nat))).getD k []) [(1, none), (2, none), (4, none), (10, some 0), (12, some 2)] [] (fun k => ([[], [], [1], [0, 1, 2], [0, 1, 2, 3]] : List (List Nat)).getD k []) mixed (by kernel_rfl) rfl rfl (a_op (g_x rfl (x_p rfl (u_lda rfl rfl Tryd.underlying112 rfl in_112 rfl (Nat.succ_pos _) (Sub.refl _) (vmap_len (f := AV.u32) h2_0)) rfl)) (a_op (g_x rfl (x_p rfl (p_move rfl rfl) rfl)) (a_op (g_x rfl (x_p rfl (u_cutt (a := (0 : Int)) (b := (64 : Int)) rfl Tryd.underlying9 rfl bT_zero (bT_i (Int.le_trans (show 0 ≤ (0 : Int) ∧ (0 : Int) ≤ (64 : Int) ∧ (64 : Int) ≤ (s1_0.length : Int) from ⟨Int.le_refl _, h2.1, h2.2⟩).1 (show 0 ≤ (0 : Int) ∧ (0 : Int) ≤ (64 : Int) ∧ (64 : Int) ≤ (s1_0.length : Int) from ⟨Int.le_refl _, h2.1, h2.2⟩).2.1) rfl) (show 0 ≤ (0 : Int) ∧ (0 : Int) ≤ (64 : Int) ∧ (64 : Int) ≤ (s1_0.length : Int) from ⟨Int.le_refl _, h2.1, h2.2⟩)) rfl)) (a_nil)))) ?_
      refine t_op rfl rfl (PureD.opD (p_callp rfl rfl rfl Tryd.func118 rfl rfl (g_ref_block_ac h3) ⟨rfl, rfl, trivial⟩)) ?_
      refine t_op rfl rfl (u_st rfl rfl rfl rfl rfl in_112 (vmap_len (f := AV.u32) r'1) (ne_of_lt (n := 0) (Nat.lt_of_lt_of_eq (by decide) (Eq.symm (vmap_len (f := AV.u32) h2_0)))) (Upd.refl ((vmap_len (f := AV.u32) r'1).trans (vmap_len (f := AV.u32) h2_0).symm))) ?_
      refine t_gho (Gho_st (L := [(1, .t s1_0), (2, .q 2 (0)), (4, .q 4 (0))]) (H := [(2, .pure (r'1.toList.map AV.u32)), (4, .pure (((Vector.replicate 8 (0 : UInt32)).toList).map AV.u32))]) (N := 15) rfl ⟨TLes.same _, TLes.same _, TLes.same _, trivial⟩ ⟨rfl, rfl, trivial⟩) ?_
      refine AW2_reg [0, 1, 2] rfl ?_
      refine rp rfl rfl (p_move rfl rfl) ?_
      refine chkK H fun h4 H => ?_
      refine rp rfl rfl (u_cutt (a := (64 : Int)) (b := (s1_0.length : Int)) rfl Tryd.underlying9 rfl (bT_i (show 0 ≤ (64 : Int) ∧ (64 : Int) ≤ (s1_0.length : Int) ∧ (s1_0.length : Int) ≤ (s1_0.length : Int) from ⟨h4.1, h4.2, Int.le_refl _⟩).1 rfl) (bT_len _) (show 0 ≤ (64 : Int) ∧ (64 : Int) ≤ (s1_0.length : Int) ∧ (s1_0.length : Int) ≤ (s1_0.length : Int) from ⟨h4.1, h4.2, Int.le_refl _⟩)) ?_
      refine rp rfl rfl (p_asg rfl rfl) ?_
      refine rz [(1, .t (cut s1_0 (64 : Int) (s1_0.length : Int))), (2, .q 2 (0)), (4, .q 4 (0))] [(2, .pure (r'1.toList.map AV.u32)), (4, .pure (((Vector.replicate 8 (0 : UInt32)).toList).map AV.u32))] rfl rfl rfl ?_
      have hz := some_elim H
      subst hz
      exact ⟨rfl, rfl⟩
    · replace H := ite_else h1 H
      refine as2 [(2, .q 2 (0)), (4, .q 4 (0))] [(2, .pure (h2_0.toList.map AV.u32)), (4, .pure (((Vector.replicate 8 (0 : UInt32)).toList).map AV.u32))] rfl rfl rfl ?_
      refine AW2_exit ?_
      refine thenQ2_exit ?_
      have hz := some_elim H
      subst hz
      exact ⟨rfl, rfl⟩
  · obtain ⟨rfl, rfl⟩ := hs
    refine ⟨by simp, ?_⟩
    refine blockQ2_exit ?_
    refine sg [0, 1] rfl ?_
    refine rp rfl rfl (u_lda rfl rfl Tryd.underlying112 rfl in_112 rfl (Nat.succ_pos _) (Sub.refl _) (vmap_len (f := AV.u32) y'5)) ?_
    refine r_op rfl rfl (u_st rfl rfl rfl rfl rfl in_112 (vmap_len (f := AV.u32) y'5) (ne_of_lt (n := 0) (Nat.lt_of_lt_of_eq (by decide) (Eq.symm (vmap_len (f := AV.u32) (Vector.replicate 8 (0 : UInt32)))))) (Upd.refl ((vmap_len (f := AV.u32) y'5).trans (vmap_len (f := AV.u32) (Vector.replicate 8 (0 : UInt32))).symm))) ?_
    refine rz [(4, .q 4 (0))] [(4, .pure (y'5.toList.map AV.u32))] rfl rfl rfl ?_
    refine AW2_ret ?_
    have hz := some_elim H
    subst hz
    exact ⟨⟨res_cella Tryd.underlying112 rfl in_112.sz rfl (Sub.le (Sub.refl _) (vmap_len (f := AV.u32) y'5)) (by decide) (Sub.take (Sub.refl _) (vmap_len (f := AV.u32) y'5)), trivial⟩, trivial⟩

/-! chirographref.Added -/
noncomputable def g_ref_Added_l0 (rest8'5 : List UInt8) : Int × GStream → Option ((Int × GStream) ⊕ (GStream))
  | (i9_0, out7_0) => (if i9_0 < (rest8'5.length : Int) then if 0 ≤ i9_0 ∧ i9_0 < (rest8'5.length : Int) then if 0 ≤ i9_0 ∧ i9_0 < (64 : Int) then letO ({ out7_0 with Held := (vwr out7_0.Held i9_0.toNat (lrd rest8'5 i9_0.toNat)) }) fun out7'6 => some (.inl (w64 (i9_0 + (1 : Int)), out7'6)) else none else none else some (.inr out7_0))
noncomputable def g_ref_Added (s0 : GStream) (b1 : List UInt8) : Option (GStream × Int) :=
  (g_ref_badStream s0).bind fun r'1 => (if r'1 = true then some (GStream.zero, (11 : Int)) else (if s0.Len > w64 ((1152921504606846976 : Int) - (b1.length : Int)) then some (GStream.zero, (1 : Int)) else (g_ref_heldOf s0).bind fun r'2 => if r'2.length + b1.length ≤ 9223372036854775807 then (g_ref_blocks s0.H (r'2 ++ b1)).bind fun r'3 => letO ({ { GStream.zero with H := r'3 } with Len := w64 (s0.Len + (b1.length : Int)) }) fun out7'4 => if 0 ≤ w64 (((r'2 ++ b1).length : Int) - (((r'2 ++ b1).length : Int).tmod (64 : Int))) ∧ w64 (((r'2 ++ b1).length : Int) - (((r'2 ++ b1).length : Int).tmod (64 : Int))) ≤ ((r'2 ++ b1).length : Int) then letO ((cut (r'2 ++ b1) (w64 (((r'2 ++ b1).length : Int) - (((r'2 ++ b1).length : Int).tmod (64 : Int)))) ((r'2 ++ b1).length : Int))) fun rest8'5 => (loopO (g_ref_Added_l0 rest8'5) ((0 : Int), { out7'4 with N := (rest8'5.length : Int) })).bind fun y'10 => some (y'10, (0 : Int)) else none else none))
set_option maxHeartbeats 4000000 in
set_option maxRecDepth 100000 in
theorem g_ref_Added_ac {s0 : GStream} {b1 : List UInt8} {r : GStream × Int} (H : g_ref_Added s0 b1 = some r) : ACp Tryd.prog 95 [(.agg (GStream.cs s0)), (AV.bytes b1)] (.tup [(.agg (GStream.cs r.1)), (AV.int r.2)]) := by
  refine ACp_of (AC2_of_body (vs := [.g (GStream.cs r.1), .i r.2]) Tryd.func95 rfl rfl (Nat.le_of_ble_eq_true rfl) rfl ?_) (fun _ => .same _)
  unfold g_ref_Added at H
  refine as2 [(0, .g (GStream.cs s0)), (1, .y b1)] [] rfl rfl rfl ?_
  refine sg [0, 1, 2] rfl ?_
  refine r_op rfl rfl (MakeD.opD (n_box 2 rfl rfl) rfl rfl rfl rfl) ?_
  refine r_op rfl rfl (MakeD.opD (u_alloc 4 rfl in_115 one_115 zc_115) rfl rfl rfl rfl) ?_
  refine rp rfl rfl (p_asg rfl rfl) ?_
  refine rz [(1, .y b1), (2, .q 2 (0)), (4, .q 4 (0))] [(2, .pure (GStream.cs s0)), (4, .pure (GStream.cs GStream.zero))] rfl rfl rfl ?_
  refine AW2_seq ?_
  refine sg [0, 1] rfl ?_
  refine rp rfl rfl (u_lda rfl rfl Tryd.underlying115 rfl in_115 rfl (Nat.succ_pos _) (Sub.refl _) (GStream.len s0)) ?_
  refine bindK H fun r'1 h1 H => ?_
  refine rp rfl rfl (p_callp rfl rfl rfl Tryd.func107 rfl rfl (g_ref_badStream_ac h1) ⟨rfl, trivial⟩) ?_
  refine rz [(1, .y b1), (2, .q 2 (0)), (4, .q 4 (0)), (11, .b r'1)] [(2, .pure (GStream.cs s0)), (4, .pure (GStream.cs GStream.zero))] rfl rfl rfl ?_
  refine AW2_cond rfl (fun h2 => ?_) (fun h2 => ?_)
  · replace H := ite_then h2 H
    refine sg [0, 1, 2] rfl ?_
    refine rp rfl rfl (u_bld rfl in_115 one_115 zc_115 pl_115 rfl rfl) ?_
    refine r_op rfl rfl (u_st rfl rfl rfl rfl rfl in_115 (GStream.len GStream.zero) (ne_of_lt (n := 0) (Nat.lt_of_lt_of_eq (by decide) (Eq.symm (GStream.len GStream.zero)))) (Upd.refl ((GStream.len GStream.zero).trans (GStream.len GStream.zero).symm))) ?_
    refine rp rfl rfl (p_asg rfl rfl) ?_
    refine rz [(4, .q 4 (0)), (5, .i (11 : Int))] [(4, .pure (GStream.cs GStream.zero))] rfl rfl rfl ?_
    refine AW2_ret ?_
    have hz := some_elim H
    subst hz
    exact ⟨⟨res_cella Tryd.underlying115 rfl in_115.sz rfl (Sub.le (Sub.refl _) (GStream.len GStream.zero)) (by decide) (Sub.take (Sub.refl _) (GStream.len GStream.zero)), res_tmp (.same _), trivial⟩, trivial⟩
  · replace H := ite_else (ne_true h2) H
    refine as2 [(1, .y b1), (2, .q 2 (0)), (4, .q 4 (0))] [(2, .pure (GStream.cs s0)), (4, .pure (GStream.cs GStream.zero))] rfl rfl rfl ?_
    refine AW2_skip ?_
    refine AW2_seq ?_
    refine sg [0, 1, 2, 3, 4, 5] rfl ?_
    refine rp rfl rfl (u_fa rfl rfl Tryd.underlying115 rfl in_3 (Nat.succ_ne_zero _) rfl rfl (ne_of_lt (n := 0) (Nat.lt_of_lt_of_eq (by decide) (Eq.symm (GStream.len s0))))) ?_
    refine rp rfl rfl (u_ld rfl rfl Tryd.underlying3 rfl rfl ((Sub.refl _).trans (GStream.sub3 s0))) ?_
    refine rp rfl rfl (p_move rfl rfl) ?_
    refine rp rfl rfl (p_lenl rfl Tryd.underlying33 rfl rfl) ?_
    refine rp rfl rfl (p_bin rfl rfl rfl rfl) ?_
    refine rp rfl rfl (p_bin rfl rfl rfl rfl) ?_
    refine rz [(1, .y b1), (2, .q 2 (0)), (4, .q 4 (0)), (18, .b (decide (s0.Len > w64 ((1152921504606846976 : Int) - (b1.length : Int)))))] [(2, .pure (GStream.cs s0)), (4, .pure (GStream.cs GStream.zero))] rfl rfl rfl ?_
    refine AW2_if (p := s0.Len > w64 ((1152921504606846976 : Int) - (b1.length : Int))) rfl (fun h3 => ?_) (fun h3 => ?_)
    · replace H := ite_then h3 H
      refine sg [0, 1, 2] rfl ?_
      refine rp rfl rfl (u_bld rfl in_115 one_115 zc_115 pl_115 rfl rfl) ?_
      refine r_op rfl rfl (u_st rfl rfl rfl rfl rfl in_115 (GStream.len GStream.zero) (ne_of_lt (n := 0) (Nat.lt_of_lt_of_eq (by decide) (Eq.symm (GStream.len GStream.zero)))) (Upd.refl ((GStream.len GStream.zero).trans (GStream.len GStream.zero).symm))) ?_
      refine rp rfl rfl (p_asg rfl rfl) ?_
      refine rz [(4, .q 4 (0)), (5, .i (1 : Int))] [(4, .pure (GStream.cs GStream.zero))] rfl rfl rfl ?_
      refine AW2_ret ?_
      have hz := some_elim H
      subst hz
      exact ⟨⟨res_cella Tryd.underlying115 rfl in_115.sz rfl (Sub.le (Sub.refl _) (GStream.len GStream.zero)) (by decide) (Sub.take (Sub.refl _) (GStream.len GStream.zero)), res_tmp (.same _), trivial⟩, trivial⟩
    · replace H := ite_else h3 H
      refine as2 [(1, .y b1), (2, .q 2 (0)), (4, .q 4 (0))] [(2, .pure (GStream.cs s0)), (4, .pure (GStream.cs GStream.zero))] rfl rfl rfl ?_
      refine AW2_skip ?_
      refine AW2_seq ?_
      refine bindK H fun r'2 h4 H => ?_
      refine chkK H fun h5 H => ?_
      refine AW2_ghoQ ?_
      refine AW2_draw 4 [4, 5] (fun k => ([.g (GStream.cs s0), .t r'2, .y b1, .t b1] : List TV).getD k TV.any) (fun k => ([[(2, none)], [(20, some 0)], [(1, none)], [(22, some 2)]] : List (List (Nat × Option Nat))).getD k []) [(1, none), (2, none), (4, none), (21, some 1), (23, some 3)] [] (fun k => ([[], [0], [], [2], [0, 1, 2, 3], [0, 1, 2, 3, 4]] : List (List Nat)).getD k []) mixed (by kernel_rfl) rfl rfl (a_op (g_x rfl (x_p rfl (u_lda rfl rfl Tryd.underlying115 rfl in_115 rfl (Nat.succ_pos _) (Sub.refl _) (GStream.len s0)) rfl)) (a_op (g_x rfl (x_p rfl (p_callp rfl rfl rfl Tryd.func108 rfl rfl (g_ref_heldOf_ac h4) ⟨rfl, trivial⟩) rfl)) (a_op (g_x rfl (x_p rfl (p_move rfl rfl) rfl)) (a_op (g_x rfl (x_p rfl (p_cb rfl rfl Tryd.underlying33 Tryd.underlying5 Tryd.underlying9 rfl) rfl)) (a_nil))))) ?_
      refine t_op rfl rfl (PureD.opD (p_cat rfl rfl rfl h5)) ?_
      refine t_op rfl rfl (PureD.opD (p_asg rfl rfl)) ?_
      refine t_gho (Gho_st (L := [(1, .y b1), (2, .q 2 (0)), (4, .q 4 (0)), (6, .t (r'2 ++ b1))]) (H := [(2, .pure (GStream.cs s0)), (4, .pure (GStream.cs GStream.zero))]) (N := 59) rfl ⟨TLes.same _, TLes.same _, TLes.same _, TLes.same _, trivial⟩ ⟨rfl, rfl, trivial⟩) ?_
      refine AW2_seq ?_
      refine bindK H fun r'3 h6 H => ?_
      refine AW2_ghoQ ?_
      refine AW2_draw 11 [11] (fun k => ([.q 2 (0 + 0), .g (s0.H.toList.map AV.u32), .t (r'2 ++ b1), .g (r'3.toList.map AV.u32), .q 2 (0 + 73), .i s0.Len, .y b1, .i (b1.length : Int), .i (w64 (s0.Len + (b1.length : Int))), .g (GStream.cs ({ { GStream.zero with H := r'3 } with Len := w64 (s0.Len + (b1.length : Int)) })), .q 7 (0)] : List TV).getD k TV.any) (fun k => ([[(2, none)], [(25, some 0)], [(6, none)], [(26, some 1), (27, some 2)], [(2, none)], [(29, some 4)], [(1, none)], [(31, some 6)], [(30, some 5), (32, some 7)], [(28, some 3), (33, some 8)], []] : List (List (Nat × Option Nat))).getD k []) [(4, none), (6, none), (7, some 10), (34, some 9)] [(10, 7, (GStream.cs GStream.zero))] (fun k => ([[], [0], [], [0, 1, 2], [], [4], [], [6], [4, 5, 6, 7], [0, 1, 2, 3, 4, 5, 6, 7, 8], [], [0, 1, 2, 3, 4, 5, 6, 7, 8, 9, 10]] : List (List Nat)).getD k []) mixed (by kernel_rfl) rfl rfl (a_op (g_x rfl (x_p rfl (u_fa rfl rfl Tryd.underlying115 rfl in_112 (Nat.succ_ne_zero _) rfl rfl (ne_of_lt (n := 0) (Nat.lt_of_lt_of_eq (by decide) (Eq.symm (GStream.len s0))))) rfl)) (a_op (g_x rfl (x_p rfl (u_lda rfl rfl Tryd.underlying112 rfl in_112 rfl (Nat.succ_pos _) ((Sub.refl _).trans (GStream.sub0 s0)) (vmap_len (f := AV.u32) s0.H)) rfl)) (a_op (g_x rfl (x_p rfl (p_move rfl rfl) rfl)) (a_op (g_x rfl (x_p rfl (p_callp rfl rfl rfl Tryd.func109 rfl rfl (g_ref_blocks_ac h6) ⟨rfl, rfl, trivial⟩) rfl)) (a_op (g_x rfl (x_p rfl (u_fa rfl rfl Tryd.underlying115 rfl in_3 (Nat.succ_ne_zero _) rfl rfl (ne_of_lt (n := 0) (Nat.lt_of_lt_of_eq (by decide) (Eq.symm (GStream.len s0))))) rfl)) (a_op (g_x rfl (x_p rfl (u_ld rfl rfl Tryd.underlying3 rfl rfl ((Sub.refl _).trans (GStream.sub3 s0))) rfl)) (a_op (g_x rfl (x_p rfl (p_move rfl rfl) rfl)) (a_op (g_x rfl (x_p rfl (p_lenl rfl Tryd.underlying33 rfl rfl) rfl)) (a_op (g_x rfl (x_p rfl (p_bin rfl rfl rfl rfl) rfl)) (a_op (g_x rfl (x_p rfl (u_bld rfl in_115 one_115 zc_115 pl_115 rfl (af_cons rfl (vmap_len (f := AV.u32) r'3) (GStream.upd0 GStream.zero r'3) (af_cons rfl rfl (GStream.upd3 ({ GStream.zero with H := r'3 }) (w64 (s0.Len + (b1.length : Int)))) rfl))) rfl)) (a_op (g_x rfl (x_m rfl (u_alloc 7 rfl in_115 one_115 zc_115) rfl rfl)) (a_nil)))))))))))) ?_
      refine t_op rfl rfl (u_st rfl rfl rfl rfl rfl in_115 (GStream.len ({ { GStream.zero with H := r'3 } with Len := w64 (s0.Len + (b1.length : Int)) })) (ne_of_lt (n := 0) (Nat.lt_of_lt_of_eq (by decide) (Eq.symm (GStream.len GStream.zero)))) (Upd.refl ((GStream.len ({ { GStream.zero with H := r'3 } with Len := w64 (s0.Len + (b1.length : Int)) })).trans (GStream.len GStream.zero).symm))) ?_
      refine t_gho (Gho_st (L := [(4, .q 4 (0)), (6, .t (r'2 ++ b1)), (7, .q 7 (0))]) (H := [(4, .pure (GStream.cs GStream.zero)), (7, .pure (GStream.cs ({ { GStream.zero with H := r'3 } with Len := w64 (s0.Len + (b1.length : Int)) })))]) (N := 59) rfl ⟨TLes.same _, TLes.same _, TLes.same _, trivial⟩ ⟨rfl, rfl, trivial⟩) ?_
      refine gen1 (fun out7'4 => (⟨[(4, .q 4 (0)), (6, .t (r'2 ++ b1)), (7, .q 7 (0))], [(4, .pure (GStream.cs GStream.zero)), (7, .pure (GStream.cs out7'4))], 59⟩ : TS)) H ?_
      intro out7'4 H
      refine sg [0, 1, 2, 3, 4, 5, 6, 7, 8] rfl ?_
      refine rp rfl rfl (p_move rfl rfl) ?_
      refine rp rfl rfl (p_move rfl rfl) ?_
      refine rp rfl rfl (p_lent rfl Tryd.underlying9 rfl) ?_
      refine rp rfl rfl (p_move rfl rfl) ?_
      refine rp rfl rfl (p_lent rfl Tryd.underlying9 rfl) ?_
      refine rp rfl rfl (p_irem rfl rfl rfl (by decide)) ?_
      refine rp rfl rfl (p_bin rfl rfl rfl rfl) ?_
      refine chkK H fun h7 H => ?_
      refine rp rfl rfl (u_cutt (a := w64 (((r'2 ++ b1).length : Int) - (((r'2 ++ b1).length : Int).tmod (64 : Int)))) (b := ((r'2 ++ b1).length : Int)) rfl Tryd.underlying9 rfl (bT_i (show 0 ≤ w64 (((r'2 ++ b1).length : Int) - (((r'2 ++ b1).length : Int).tmod (64 : Int))) ∧ w64 (((r'2 ++ b1).length : Int) - (((r'2 ++ b1).length : Int).tmod (64 : Int))) ≤ ((r'2 ++ b1).length : Int) ∧ ((r'2 ++ b1).length : Int) ≤ ((r'2 ++ b1).length : Int) from ⟨h7.1, h7.2, Int.le_refl _⟩).1 rfl) (bT_len _) (show 0 ≤ w64 (((r'2 ++ b1).length : Int) - (((r'2 ++ b1).length : Int).tmod (64 : Int))) ∧ w64 (((r'2 ++ b1).length : Int) - (((r'2 ++ b1).length : Int).tmod (64 : Int))) ≤ ((r'2 ++ b1).length : Int) ∧ ((r'2 ++ b1).length : Int) ≤ ((r'2 ++ b1).length : Int) from ⟨h7.1, h7.2, Int.le_refl _⟩)) ?_
      refine rp rfl rfl (p_asg rfl rfl) ?_
      refine rz [(4, .q 4 (0)), (7, .q 7 (0)), (8, .t (cut (r'2 ++ b1) (w64 (((r'2 ++ b1).length : Int) - (((r'2 ++ b1).length : Int).tmod (64 : Int)))) ((r'2 ++ b1).length : Int)))] [(4, .pure (GStream.cs GStream.zero)), (7, .pure (GStream.cs out7'4))] rfl rfl rfl ?_
      refine gen1 (fun rest8'5 => (⟨[(4, .q 4 (0)), (7, .q 7 (0)), (8, .t rest8'5)], [(4, .pure (GStream.cs GStream.zero)), (7, .pure (GStream.cs out7'4))], 59⟩ : TS)) H ?_
      intro rest8'5 H
      refine sg [0, 1, 2, 3] rfl ?_
      refine rp rfl rfl (p_move rfl rfl) ?_
      refine rp rfl rfl (p_lent rfl Tryd.underlying9 rfl) ?_
      refine rp rfl rfl (u_fa rfl rfl Tryd.underlying115 rfl in_3 (Nat.succ_ne_zero _) rfl rfl (ne_of_lt (n := 0) (Nat.lt_of_lt_of_eq (by decide) (Eq.symm (GStream.len out7'4))))) ?_
      refine r_op rfl rfl (u_st rfl rfl rfl rfl rfl in_3 rfl (ne_of_lt (n := 0) (Nat.lt_of_lt_of_eq (by decide) (Eq.symm (GStream.len out7'4)))) (Upd.trans (Sub.refl _) (GStream.upd2 out7'4 (rest8'5.length : Int)) (Upd.refl ((GStream.len ({ out7'4 with N := (rest8'5.length : Int) })).trans (GStream.len out7'4).symm)))) ?_
      refine rz [(4, .q 4 (0)), (7, .q 7 (0)), (8, .t rest8'5)] [(4, .pure (GStream.cs GStream.zero)), (7, .pure (GStream.cs ({ out7'4 with N := (rest8'5.length : Int) })))] rfl rfl rfl ?_
      refine AW2_seq ?_
      refine sg [0] rfl ?_
      refine rp rfl rfl (p_asg rfl rfl) ?_
      refine rz [(4, .q 4 (0)), (7, .q 7 (0)), (8, .t rest8'5), (9, .i (0 : Int))] [(4, .pure (GStream.cs GStream.zero)), (7, .pure (GStream.cs ({ out7'4 with N := (rest8'5.length : Int) })))] rfl rfl rfl ?_
      refine AW2_block ?_
      refine as2 [(4, .q 4 (0)), (7, .q 7 (0)), (8, .t rest8'5), (9, .i (0 : Int))] [(4, .pure (GStream.cs GStream.zero)), (7, .pure (GStream.cs ({ out7'4 with N := (rest8'5.length : Int) })))] rfl rfl rfl ?_
      refine bindK H fun y'10 h11 H => ?_
      refine AW2_loopO (fun a'7 : Int × GStream => (⟨[(4, .q 4 (0)), (7, .q 7 (0)), (8, .t rest8'5), (9, .i a'7.1)], [(4, .pure (GStream.cs GStream.zero)), (7, .pure (GStream.cs a'7.2))], 59⟩ : TS)) (fun (y'8 : GStream) e s' => e = Go.Exit.exit 0 ∧ s' = (⟨[(4, .q 4 (0)), (7, .q 7 (0))], [(4, .pure (GStream.cs GStream.zero)), (7, .pure (GStream.cs y'8))], 59⟩ : TS)) h11 rfl (fun a x hx => ?_) (fun e s' hs => ?_)
      · clear H
        obtain ⟨i9_0, out7_0⟩ := a
        have H := hx
        clear hx
        unfold g_ref_Added_l0 at H
        refine AW2_seq ?_
        refine sg [0, 1, 2, 3] rfl ?_
        refine rp rfl rfl (p_move rfl rfl) ?_
        refine rp rfl rfl (p_move rfl rfl) ?_
        refine rp rfl rfl (p_lent rfl Tryd.underlying9 rfl) ?_
        refine rp rfl rfl (p_bin rfl rfl rfl rfl) ?_
        refine rz [(4, .q 4 (0)), (7, .q 7 (0)), (8, .t rest8'5), (9, .i i9_0), (49, .b (decide (i9_0 < (rest8'5.length : Int))))] [(4, .pure (GStream.cs GStream.zero)), (7, .pure (GStream.cs out7_0))] rfl rfl rfl ?_
        refine AW2_if (p := i9_0 < (rest8'5.length : Int)) rfl (fun h8 => ?_) (fun h8 => ?_)
        · replace H := ite_then h8 H
          refine as2 [(4, .q 4 (0)), (7, .q 7 (0)), (8, .t rest8'5), (9, .i i9_0)] [(4, .pure (GStream.cs GStream.zero)), (7, .pure (GStream.cs out7_0))] rfl rfl rfl ?_
          refine AW2_skip ?_
          refine AW2_seq ?_
          refine AW2_block ?_
          refine AW2_reg [0, 1, 2, 3, 4, 5, 6] rfl ?_
          refine rp rfl rfl (p_move rfl rfl) ?_
          refine rp rfl rfl (p_move rfl rfl) ?_
          refine rp rfl rfl (p_move rfl rfl) ?_
          refine chkK H fun h9 H => ?_
          refine rp rfl rfl (p_ixt rfl Tryd.underlying9 rfl rfl (ixe h9) (lrd_get (ixn h9))) ?_
          refine rp rfl rfl (u_fa rfl rfl Tryd.underlying115 rfl in_113 (Nat.succ_ne_zero _) rfl rfl (ne_of_lt (n := 0) (Nat.lt_of_lt_of_eq (by decide) (Eq.symm (GStream.len out7_0))))) ?_
          refine chkK H fun h10 H => ?_
          refine rp rfl rfl (u_ixp rfl rfl Tryd.underlying113 in_5 rfl rfl (ne_of_lt (n := 0) (Nat.lt_of_lt_of_eq (by decide) (Eq.symm (GStream.len out7_0)))) rfl (ixe h10) (ixn h10)) ?_
          refine r_op rfl rfl (u_st rfl rfl rfl rfl rfl in_5 rfl (ne_of_lt (n := 0) (Nat.lt_of_lt_of_eq (by decide) (Eq.symm (GStream.len out7_0)))) (Upd.trans ((Sub.refl _).trans (GStream.sub1 out7_0)) (Upd.vmap (ixn h10)) (Upd.trans (Sub.refl _) (GStream.upd1 out7_0 (vwr out7_0.Held i9_0.toNat (lrd rest8'5 i9_0.toNat))) (Upd.refl ((GStream.len ({ out7_0 with Held := (vwr out7_0.Held i9_0.toNat (lrd rest8'5 i9_0.toNat)) })).trans (GStream.len out7_0).symm))))) ?_
          refine rz [(4, .q 4 (0)), (7, .q 7 (0)), (8, .t rest8'5), (9, .i i9_0)] [(4, .pure (GStream.cs GStream.zero)), (7, .pure (GStream.cs ({ out7_0 with Held := (vwr out7_0.Held i9_0.toNat (lrd rest8'5 i9_0.toNat)) })))] rfl rfl rfl ?_
          refine gen1 (fun out7'6 => (⟨[(4, .q 4 (0)), (7, .q 7 (0)), (8, .t rest8'5), (9, .i i9_0)], [(4, .pure (GStream.cs GStream.zero)), (7, .pure (GStream.cs out7'6))], 59⟩ : TS)) H ?_
          intro out7'6 H
          refine AW2_reg [0, 1, 2] rfl ?_
          refine rp rfl rfl (p_move rfl rfl) ?_
          refine rp rfl rfl (p_bin rfl rfl rfl rfl) ?_
          refine rp rfl rfl (p_asg rfl rfl) ?_
          refine rz [(4, .q 4 (0)), (7, .q 7 (0)), (8, .t rest8'5), (9, .i (w64 (i9_0 + (1 : Int))))] [(4, .pure (GStream.cs GStream.zero)), (7, .pure (GStream.cs out7'6))] rfl rfl rfl ?_
          have hz := some_elim H
          subst hz
          exact ⟨rfl, rfl⟩
        · replace H := ite_else h8 H
          refine as2 [(4, .q 4 (0)), (7, .q 7 (0))] [(4, .pure (GStream.cs GStream.zero)), (7, .pure (GStream.cs out7_0))] rfl rfl rfl ?_
          refine AW2_exit ?_
          refine thenQ2_exit ?_
          have hz := some_elim H
          subst hz
          exact ⟨rfl, rfl⟩
      · obtain ⟨rfl, rfl⟩ := hs
        refine ⟨by simp, ?_⟩
        refine blockQ2_exit ?_
        refine sg [0, 1, 2] rfl ?_
        refine rp rfl rfl (u_lda rfl rfl Tryd.underlying115 rfl in_115 rfl (Nat.succ_pos _) (Sub.refl _) (GStream.len y'10)) ?_
        refine r_op rfl rfl (u_st rfl rfl rfl rfl rfl in_115 (GStream.len y'10) (ne_of_lt (n := 0) (Nat.lt_of_lt_of_eq (by decide) (Eq.symm (GStream.len GStream.zero)))) (Upd.refl ((GStream.len y'10).trans (GStream.len GStream.zero).symm))) ?_
        refine rp rfl rfl (p_asg rfl rfl) ?_
        refine rz [(4, .q 4 (0)), (5, .i (0 : Int))] [(4, .pure (GStream.cs y'10))] rfl rfl rfl ?_
        refine AW2_ret ?_
        have hz := some_elim H
        subst hz
        exact ⟨⟨res_cella Tryd.underlying115 rfl in_115.sz rfl (Sub.le (Sub.refl _) (GStream.len y'10)) (by decide) (Sub.take (Sub.refl _) (GStream.len y'10)), res_tmp (.same _), trivial⟩, trivial⟩

/-! chirographref.ended -/
noncomputable def g_ref_ended_l0 : (List UInt8) → Option (((List UInt8)) ⊕ (((List UInt8))))
  | all3_0 => (if (all3_0.length : Int).tmod (64 : Int) ≠ (56 : Int) then if all3_0.length + [0].length ≤ 9223372036854775807 then some (.inl (all3_0 ++ [0])) else none else some (.inr all3_0))
noncomputable def g_ref_ended_l1 (r'7 : Vector UInt32 8) : (List UInt8) × Int → Option (((List UInt8) × Int) ⊕ (((List UInt8))))
  | (t5_1, t30_1) => (if t30_1 < (8 : Int) then if 0 ≤ t30_1 ∧ t30_1 < (8 : Int) then (g_ref_big ((vrd r'7 t30_1.toNat).toUInt64) (4 : Int)).bind fun r'8 => if t5_1.length + r'8.length ≤ 9223372036854775807 then some (.inl (t5_1 ++ r'8, w64 (t30_1 + (1 : Int)))) else none else none else some (.inr t5_1))
noncomputable def g_ref_ended_l2 (y'12 : (List UInt8)) : Int × (Vector UInt8 32) → Option ((Int × (Vector UInt8 32)) ⊕ (((Vector UInt8 32))))
  | (t39_2, out8_2) => (if t39_2 < (32 : Int) then if 0 ≤ t39_2 ∧ t39_2 < (y'12.length : Int) then if 0 ≤ t39_2 ∧ t39_2 < (32 : Int) then some (.inl (w64 (t39_2 + (1 : Int)), (vwr out8_2 t39_2.toNat (lrd y'12 t39_2.toNat)))) else none else none else some (.inr out8_2))
noncomputable def g_ref_ended (s0 : GStream) : Option ((Vector UInt8 32)) :=
  (g_ref_heldOf s0).bind fun r'1 => if r'1.length + [128].length ≤ 9223372036854775807 then (loopO (g_ref_ended_l0) (r'1 ++ [128])).bind fun y'5 => (g_ref_big ((UInt64.ofInt s0.Len) * (8 : UInt64)) (8 : Int)).bind fun r'6 => if y'5.length + r'6.length ≤ 9223372036854775807 then (g_ref_blocks s0.H (y'5 ++ r'6)).bind fun r'7 => (loopO (g_ref_ended_l1 r'7) ([], (0 : Int))).bind fun y'12 => (loopO (g_ref_ended_l2 y'12) ((0 : Int), (Vector.replicate 32 (0 : UInt8)))).bind fun y'16 => some y'16 else none else none
set_option maxHeartbeats 4000000 in
set_option maxRecDepth 100000 in
theorem g_ref_ended_ac {s0 : GStream} {r : (Vector UInt8 32)} (H : g_ref_ended s0 = some r) : ACp Tryd.prog 97 [(.agg (GStream.cs s0))] (.agg (bcells r.toList)) := by
  refine ACp_of (AC2_of_body (vs := [.g (bcells r.toList)]) Tryd.func97 rfl rfl (Nat.le_of_ble_eq_true rfl) rfl ?_) (fun _ => .same _)
  unfold g_ref_ended at H
  refine as2 [(0, .g (GStream.cs s0))] [] rfl rfl rfl ?_
  refine sg [0, 1] rfl ?_
  refine r_op rfl rfl (MakeD.opD (n_box 1 rfl rfl) rfl rfl rfl rfl) ?_
  refine r_op rfl rfl (MakeD.opD (u_alloc 2 rfl in_105 one_105 zc_105) rfl rfl rfl rfl) ?_
  refine rz [(1, .q 1 (0)), (2, .q 2 (0))] [(1, .pure (GStream.cs s0)), (2, .pure (bcells ((Vector.replicate 32 (0 : UInt8)).toList)))] rfl rfl rfl ?_
  refine sg [0, 1, 2, 3] rfl ?_
  refine rp rfl rfl (u_lda rfl rfl Tryd.underlying115 rfl in_115 rfl (Nat.succ_pos _) (Sub.refl _) (GStream.len s0)) ?_
  refine bindK H fun r'1 h1 H => ?_
  refine rp rfl rfl (p_callp rfl rfl rfl Tryd.func108 rfl rfl (g_ref_heldOf_ac h1) ⟨rfl, trivial⟩) ?_
  refine chkK H fun h2 H => ?_
  refine rp rfl rfl (p_cat rfl rfl rfl h2) ?_
  refine rp rfl rfl (p_asg rfl rfl) ?_
  refine rz [(1, .q 1 (0)), (2, .q 2 (0)), (3, .t (r'1 ++ [128]))] [(1, .pure (GStream.cs s0)), (2, .pure (bcells ((Vector.replicate 32 (0 : UInt8)).toList)))] rfl rfl rfl ?_
  refine AW2_seq ?_
  refine AW2_block ?_
  refine as2 [(1, .q 1 (0)), (2, .q 2 (0)), (3, .t (r'1 ++ [128]))] [(1, .pure (GStream.cs s0)), (2, .pure (bcells ((Vector.replicate 32 (0 : UInt8)).toList)))] rfl rfl rfl ?_
  refine bindK H fun y'5 h5 H => ?_
  refine AW2_loopO (fun a'2 : (List UInt8) => (⟨[(1, .q 1 (0)), (2, .q 2 (0)), (3, .t a'2)], [(1, .pure (GStream.cs s0)), (2, .pure (bcells ((Vector.replicate 32 (0 : UInt8)).toList)))], 49⟩ : TS)) (fun (y'3 : ((List UInt8))) e s' => e = Go.Exit.exit 0 ∧ s' = (⟨[(1, .q 1 (0)), (2, .q 2 (0)), (3, .t y'3)], [(1, .pure (GStream.cs s0)), (2, .pure (bcells ((Vector.replicate 32 (0 : UInt8)).toList)))], 49⟩ : TS)) h5 rfl (fun all3_0 x hx => ?_) (fun e s' hs => ?_)
  · clear H
    have H := hx
    clear hx
    unfold g_ref_ended_l0 at H
    refine AW2_seq ?_
    refine sg [0, 1, 2, 3] rfl ?_
    refine rp rfl rfl (p_move rfl rfl) ?_
    refine rp rfl rfl (p_lent rfl Tryd.underlying9 rfl) ?_
    refine rp rfl rfl (p_irem rfl rfl rfl (by decide)) ?_
    refine rp rfl rfl (p_ine rfl rfl rfl) ?_
    refine rz [(1, .q 1 (0)), (2, .q 2 (0)), (3, .t all3_0), (16, .b (decide ((all3_0.length : Int).tmod (64 : Int) ≠ (56 : Int))))] [(1, .pure (GStream.cs s0)), (2, .pure (bcells ((Vector.replicate 32 (0 : UInt8)).toList)))] rfl rfl rfl ?_
    refine AW2_if (p := (all3_0.length : Int).tmod (64 : Int) ≠ (56 : Int)) rfl (fun h3 => ?_) (fun h3 => ?_)
    · replace H := ite_then h3 H
      refine as2 [(1, .q 1 (0)), (2, .q 2 (0)), (3, .t all3_0)] [(1, .pure (GStream.cs s0)), (2, .pure (bcells ((Vector.replicate 32 (0 : UInt8)).toList)))] rfl rfl rfl ?_
      refine AW2_skip ?_
      refine AW2_block ?_
      refine AW2_reg [0, 1, 2] rfl ?_
      refine rp rfl rfl (p_move rfl rfl) ?_
      refine chkK H fun h4 H => ?_
      refine rp rfl rfl (p_cat rfl rfl rfl h4) ?_
      refine rp rfl rfl (p_asg rfl rfl) ?_
      refine rz [(1, .q 1 (0)), (2, .q 2 (0)), (3, .t (all3_0 ++ [0]))] [(1, .pure (GStream.cs s0)), (2, .pure (bcells ((Vector.replicate 32 (0 : UInt8)).toList)))] rfl rfl rfl ?_
      have hz := some_elim H
      subst hz
      exact ⟨rfl, rfl⟩
    · replace H := ite_else h3 H
      refine as2 [(1, .q 1 (0)), (2, .q 2 (0)), (3, .t all3_0)] [(1, .pure (GStream.cs s0)), (2, .pure (bcells ((Vector.replicate 32 (0 : UInt8)).toList)))] rfl rfl rfl ?_
      refine AW2_exit ?_
      refine thenQ2_exit ?_
      have hz := some_elim H
      subst hz
      exact ⟨rfl, rfl⟩
  · obtain ⟨rfl, rfl⟩ := hs
    refine ⟨by simp, ?_⟩
    refine blockQ2_exit ?_
    refine AW2_seq ?_
    refine bindK H fun r'6 h6 H => ?_
    refine chkK H fun h7 H => ?_
    refine bindK H fun r'7 h8 H => ?_
    refine AW2_ghoQ ?_
    refine AW2_draw 11 [11] (fun k => ([.q 1 (0 + 0), .g (s0.H.toList.map AV.u32), .t y'5, .q 1 (0 + 73), .i s0.Len, .p (AV.u64 (UInt64.ofInt s0.Len)), .p (AV.u64 ((UInt64.ofInt s0.Len) * (8 : UInt64))), .t r'6, .t (y'5 ++ r'6), .g (r'7.toList.map AV.u32), .q 4 (0)] : List TV).getD k TV.any) (fun k => ([[(1, none)], [(19, some 0)], [(3, none)], [(1, none)], [(22, some 3)], [(23, some 4)], [(24, some 5)], [(25, some 6)], [(21, some 2), (26, some 7)], [(20, some 1), (27, some 8)], []] : List (List (Nat × Option Nat))).getD k []) [(2, none), (4, some 10), (28, some 9)] [(10, 4, (((Vector.replicate 8 (0 : UInt32)).toList).map AV.u32))] (fun k => ([[], [0], [], [], [3], [3, 4], [3, 4, 5], [3, 4, 5, 6], [2, 3, 4, 5, 6, 7], [0, 1, 2, 3, 4, 5, 6, 7, 8], [], [0, 1, 2, 3, 4, 5, 6, 7, 8, 9, 10]] : List (List Nat)).getD k []) mixed (by kernel_rfl) rfl rfl (a_op (g_x rfl (x_p rfl (u_fa rfl rfl Tryd.underlying115 rfl in_112 (Nat.succ_ne_zero _) rfl rfl (ne_of_lt (n := 0) (Nat.lt_of_lt_of_eq (by decide) (Eq.symm (GStream.len s0))))) rfl)) (a_op (g_x rfl (x_p rfl (u_lda rfl rfl Tryd.underlying112 rfl in_112 rfl (Nat.succ_pos _) ((Sub.refl _).trans (GStream.sub0 s0)) (vmap_len (f := AV.u32) s0.H)) rfl)) (a_op (g_x rfl (x_p rfl (p_move rfl rfl) rfl)) (a_op (g_x rfl (x_p rfl (u_fa rfl rfl Tryd.underlying115 rfl in_3 (Nat.succ_ne_zero _) rfl rfl (ne_of_lt (n := 0) (Nat.lt_of_lt_of_eq (by decide) (Eq.symm (GStream.len s0))))) rfl)) (a_op (g_x rfl (x_p rfl (u_ld rfl rfl Tryd.underlying3 rfl rfl ((Sub.refl _).trans (GStream.sub3 s0))) rfl)) (a_op (g_x rfl (x_p rfl (p_i_u64 rfl Tryd.underlying3 Tryd.underlying22 rfl) rfl)) (a_op (g_x rfl (x_p rfl (p_u64mul (a := UInt64.ofInt s0.Len) (b := (8 : UInt64)) rfl rfl rfl) rfl)) (a_op (g_x rfl (x_p rfl (p_callp rfl rfl rfl Tryd.func56 rfl rfl (g_ref_big_ac h6) ⟨rfl, rfl, trivial⟩) rfl)) (a_op (g_x rfl (x_p rfl (p_cat rfl rfl rfl h7) rfl)) (a_op (g_x rfl (x_p rfl (p_callp rfl rfl rfl Tryd.func109 rfl rfl (g_ref_blocks_ac h8) ⟨rfl, rfl, trivial⟩) rfl)) (a_op (g_x rfl (x_m rfl (u_alloc 4 rfl in_112 one_112 zc_112) rfl rfl)) (a_nil)))))))))))) ?_
    refine t_op rfl rfl (u_st rfl rfl rfl rfl rfl in_112 (vmap_len (f := AV.u32) r'7) (ne_of_lt (n := 0) (Nat.lt_of_lt_of_eq (by decide) (Eq.symm (vmap_len (f := AV.u32) (Vector.replicate 8 (0 : UInt32)))))) (Upd.refl ((vmap_len (f := AV.u32) r'7).trans (vmap_len (f := AV.u32) (Vector.replicate 8 (0 : UInt32))).symm))) ?_
    refine t_gho (Gho_st (L := [(2, .q 2 (0)), (4, .q 4 (0))]) (H := [(2, .pure (bcells ((Vector.replicate 32 (0 : UInt8)).toList))), (4, .pure (r'7.toList.map AV.u32))]) (N := 49) rfl ⟨TLes.same _, TLes.same _, trivial⟩ ⟨rfl, rfl, trivial⟩) ?_
    refine sg [0] rfl ?_
    refine rp rfl rfl (p_asg rfl rfl) ?_
    refine rz [(2, .q 2 (0)), (4, .q 4 (0)), (5, .t [])] [(2, .pure (bcells ((Vector.replicate 32 (0 : UInt8)).toList))), (4, .pure (r'7.toList.map AV.u32))] rfl rfl rfl ?_
    refine AW2_seq ?_
    refine sg [0, 1] rfl ?_
    refine rp rfl rfl (u_lda rfl rfl Tryd.underlying112 rfl in_112 rfl (Nat.succ_pos _) (Sub.refl _) (vmap_len (f := AV.u32) r'7)) ?_
    refine rp rfl rfl (p_move rfl rfl) ?_
    refine rz [(2, .q 2 (0)), (5, .t []), (29, .g (r'7.toList.map AV.u32)), (30, .i (0 : Int))] [(2, .pure (bcells ((Vector.replicate 32 (0 : UInt8)).toList)))] rfl rfl rfl ?_
    refine AW2_block ?_
    refine as2 [(2, .q 2 (0)), (5, .t []), (29, .g (r'7.toList.map AV.u32)), (30, .i (0 : Int))] [(2, .pure (bcells ((Vector.replicate 32 (0 : UInt8)).toList)))] rfl rfl rfl ?_
    refine bindK H fun y'12 h13 H => ?_
    refine AW2_loopO (fun a'9 : (List UInt8) × Int => (⟨[(2, .q 2 (0)), (5, .t a'9.1), (29, .g (r'7.toList.map AV.u32)), (30, .i a'9.2)], [(2, .pure (bcells ((Vector.replicate 32 (0 : UInt8)).toList)))], 49⟩ : TS)) (fun (y'10 : ((List UInt8))) e s' => e = Go.Exit.exit 2 ∧ s' = (⟨[(2, .q 2 (0)), (5, .t y'10)], [(2, .pure (bcells ((Vector.replicate 32 (0 : UInt8)).toList)))], 49⟩ : TS)) h13 rfl (fun a x hx => ?_) (fun e s' hs => ?_)
    · clear H
      obtain ⟨t5_1, t30_1⟩ := a
      have H := hx
      clear hx
      unfold g_ref_ended_l1 at H
      refine sg [0] rfl ?_
      refine rp rfl rfl (p_bin rfl rfl rfl rfl) ?_
      refine rz [(2, .q 2 (0)), (5, .t t5_1), (29, .g (r'7.toList.map AV.u32)), (30, .i t30_1), (31, .b (decide (t30_1 < (8 : Int))))] [(2, .pure (bcells ((Vector.replicate 32 (0 : UInt8)).toList)))] rfl rfl rfl ?_
      refine AW2_seq ?_
      refine AW2_if (p := t30_1 < (8 : Int)) rfl (fun h9 => ?_) (fun h9 => ?_)
      · replace H := ite_then h9 H
        refine as2 [(2, .q 2 (0)), (5, .t t5_1), (29, .g (r'7.toList.map AV.u32)), (30, .i t30_1)] [(2, .pure (bcells ((Vector.replicate 32 (0 : UInt8)).toList)))] rfl rfl rfl ?_
        refine AW2_skip ?_
        refine AW2_seq ?_
        refine AW2_block ?_
        refine sg [0, 1] rfl ?_
        refine chkK H fun h10 H => ?_
        refine rp rfl rfl (u_ixa rfl rfl Tryd.underlying112 in_111 Tryd.underlying111 rfl rfl rfl (ixe h10) (ixn h10) (Sub.vmap (ixn h10))) ?_
        refine rp rfl rfl (p_asg rfl rfl) ?_
        refine rz [(2, .q 2 (0)), (5, .t t5_1), (7, .p (AV.u32 (vrd r'7 t30_1.toNat))), (29, .g (r'7.toList.map AV.u32)), (30, .i t30_1)] [(2, .pure (bcells ((Vector.replicate 32 (0 : UInt8)).toList)))] rfl rfl rfl ?_
        refine AW2_reg [0, 1, 2, 3, 4, 5] rfl ?_
        refine rp rfl rfl (p_move rfl rfl) ?_
        refine rp rfl rfl (p_move rfl rfl) ?_
        refine rp rfl rfl (p_u32_u64 (a := (vrd r'7 t30_1.toNat)) rfl Tryd.underlying111 Tryd.underlying22 rfl) ?_
        refine bindK H fun r'8 h11 H => ?_
        refine rp rfl rfl (p_callp rfl rfl rfl Tryd.func56 rfl rfl (g_ref_big_ac h11) ⟨rfl, rfl, trivial⟩) ?_
        refine chkK H fun h12 H => ?_
        refine rp rfl rfl (p_cat rfl rfl rfl h12) ?_
        refine rp rfl rfl (p_asg rfl rfl) ?_
        refine rz [(2, .q 2 (0)), (5, .t (t5_1 ++ r'8)), (29, .g (r'7.toList.map AV.u32)), (30, .i t30_1)] [(2, .pure (bcells ((Vector.replicate 32 (0 : UInt8)).toList)))] rfl rfl rfl ?_
        refine AW2_reg [0, 1] rfl ?_
        refine rp rfl rfl (p_bin rfl rfl rfl rfl) ?_
        refine rp rfl rfl (p_move rfl rfl) ?_
        refine rz [(2, .q 2 (0)), (5, .t (t5_1 ++ r'8)), (29, .g (r'7.toList.map AV.u32)), (30, .i (w64 (t30_1 + (1 : Int))))] [(2, .pure (bcells ((Vector.replicate 32 (0 : UInt8)).toList)))] rfl rfl rfl ?_
        have hz := some_elim H
        subst hz
        exact ⟨rfl, rfl⟩
      · replace H := ite_else h9 H
        refine as2 [(2, .q 2 (0)), (5, .t t5_1)] [(2, .pure (bcells ((Vector.replicate 32 (0 : UInt8)).toList)))] rfl rfl rfl ?_
        refine AW2_exit ?_
        refine thenQ2_exit ?_
        have hz := some_elim H
        subst hz
        exact ⟨rfl, rfl⟩
    · obtain ⟨rfl, rfl⟩ := hs
      refine ⟨by simp, ?_⟩
      refine blockQ2_exit ?_
      refine sg [0] rfl ?_
      refine r_op rfl rfl (MakeD.opD (u_alloc 8 rfl in_105 one_105 zc_105) rfl rfl rfl rfl) ?_
      refine rz [(2, .q 2 (0)), (5, .t y'12), (8, .q 8 (0))] [(2, .pure (bcells ((Vector.replicate 32 (0 : UInt8)).toList))), (8, .pure (bcells ((Vector.replicate 32 (0 : UInt8)).toList)))] rfl rfl rfl ?_
      refine AW2_seq ?_
      refine sg [0] rfl ?_
      refine rp rfl rfl (p_move rfl rfl) ?_
      refine rz [(2, .q 2 (0)), (5, .t y'12), (8, .q 8 (0)), (39, .i (0 : Int))] [(2, .pure (bcells ((Vector.replicate 32 (0 : UInt8)).toList))), (8, .pure (bcells ((Vector.replicate 32 (0 : UInt8)).toList)))] rfl rfl rfl ?_
      refine AW2_block ?_
      refine as2 [(2, .q 2 (0)), (5, .t y'12), (8, .q 8 (0)), (39, .i (0 : Int))] [(2, .pure (bcells ((Vector.replicate 32 (0 : UInt8)).toList))), (8, .pure (bcells ((Vector.replicate 32 (0 : UInt8)).toList)))] rfl rfl rfl ?_
      refine bindK H fun y'16 h17 H => ?_
      refine AW2_loopO (fun a'13 : Int × (Vector UInt8 32) => (⟨[(2, .q 2 (0)), (5, .t y'12), (8, .q 8 (0)), (39, .i a'13.1)], [(2, .pure (bcells ((Vector.replicate 32 (0 : UInt8)).toList))), (8, .pure (bcells a'13.2.toList))], 49⟩ : TS)) (fun (y'14 : ((Vector UInt8 32))) e s' => e = Go.Exit.exit 4 ∧ s' = (⟨[(2, .q 2 (0)), (8, .q 8 (0))], [(2, .pure (bcells ((Vector.replicate 32 (0 : UInt8)).toList))), (8, .pure (bcells y'14.toList))], 49⟩ : TS)) h17 rfl (fun a x hx => ?_) (fun e s' hs => ?_)
      · clear H
        obtain ⟨t39_2, out8_2⟩ := a
        have H := hx
        clear hx
        unfold g_ref_ended_l2 at H
        refine sg [0] rfl ?_
        refine rp rfl rfl (p_bin rfl rfl rfl rfl) ?_
        refine rz [(2, .q 2 (0)), (5, .t y'12), (8, .q 8 (0)), (39, .i t39_2), (40, .b (decide (t39_2 < (32 : Int))))] [(2, .pure (bcells ((Vector.replicate 32 (0 : UInt8)).toList))), (8, .pure (bcells out8_2.toList))] rfl rfl rfl ?_
        refine AW2_seq ?_
        refine AW2_if (p := t39_2 < (32 : Int)) rfl (fun h14 => ?_) (fun h14 => ?_)
        · replace H := ite_then h14 H
          refine as2 [(2, .q 2 (0)), (5, .t y'12), (8, .q 8 (0)), (39, .i t39_2)] [(2, .pure (bcells ((Vector.replicate 32 (0 : UInt8)).toList))), (8, .pure (bcells out8_2.toList))] rfl rfl rfl ?_
          refine AW2_skip ?_
          refine AW2_seq ?_
          refine AW2_block ?_
          refine sg [0, 1] rfl ?_
          refine rp rfl rfl (p_move rfl rfl) ?_
          refine rp rfl rfl (p_asg rfl rfl) ?_
          refine rz [(2, .q 2 (0)), (5, .t y'12), (8, .q 8 (0)), (9, .i t39_2), (39, .i t39_2)] [(2, .pure (bcells ((Vector.replicate 32 (0 : UInt8)).toList))), (8, .pure (bcells out8_2.toList))] rfl rfl rfl ?_
          refine AW2_reg [0, 1, 2, 3, 4, 5] rfl ?_
          refine rp rfl rfl (p_move rfl rfl) ?_
          refine rp rfl rfl (p_move rfl rfl) ?_
          refine rp rfl rfl (p_move rfl rfl) ?_
          refine chkK H fun h15 H => ?_
          refine rp rfl rfl (p_ixt rfl Tryd.underlying9 rfl rfl (ixe h15) (lrd_get (ixn h15))) ?_
          refine chkK H fun h16 H => ?_
          refine rp rfl rfl (u_ixp rfl rfl Tryd.underlying105 in_5 rfl rfl (ne_of_lt (n := 0) (Nat.lt_of_lt_of_eq (by decide) (Eq.symm ((bcells_length _).trans (vlen out8_2))))) rfl (ixe h16) (ixn h16)) ?_
          refine r_op rfl rfl (u_st rfl rfl rfl rfl rfl in_5 rfl (ne_of_lt (n := 0) (Nat.lt_of_lt_of_eq (by decide) (Eq.symm ((bcells_length _).trans (vlen out8_2))))) (Upd.trans (Sub.refl _) (Upd.vmap (ixn h16)) (Upd.refl (((bcells_length _).trans (vlen (vwr out8_2 t39_2.toNat (lrd y'12 t39_2.toNat)))).trans ((bcells_length _).trans (vlen out8_2)).symm)))) ?_
          refine rz [(2, .q 2 (0)), (5, .t y'12), (8, .q 8 (0)), (39, .i t39_2)] [(2, .pure (bcells ((Vector.replicate 32 (0 : UInt8)).toList))), (8, .pure (bcells ((vwr out8_2 t39_2.toNat (lrd y'12 t39_2.toNat)).toList)))] rfl rfl rfl ?_
          refine AW2_reg [0, 1] rfl ?_
          refine rp rfl rfl (p_bin rfl rfl rfl rfl) ?_
          refine rp rfl rfl (p_move rfl rfl) ?_
          refine rz [(2, .q 2 (0)), (5, .t y'12), (8, .q 8 (0)), (39, .i (w64 (t39_2 + (1 : Int))))] [(2, .pure (bcells ((Vector.replicate 32 (0 : UInt8)).toList))), (8, .pure (bcells ((vwr out8_2 t39_2.toNat (lrd y'12 t39_2.toNat)).toList)))] rfl rfl rfl ?_
          have hz := some_elim H
          subst hz
          exact ⟨rfl, rfl⟩
        · replace H := ite_else h14 H
          refine as2 [(2, .q 2 (0)), (8, .q 8 (0))] [(2, .pure (bcells ((Vector.replicate 32 (0 : UInt8)).toList))), (8, .pure (bcells out8_2.toList))] rfl rfl rfl ?_
          refine AW2_exit ?_
          refine thenQ2_exit ?_
          have hz := some_elim H
          subst hz
          exact ⟨rfl, rfl⟩
      · obtain ⟨rfl, rfl⟩ := hs
        refine ⟨by simp, ?_⟩
        refine blockQ2_exit ?_
        refine sg [0, 1] rfl ?_
        refine rp rfl rfl (u_lda rfl rfl Tryd.underlying105 rfl in_105 rfl (Nat.succ_pos _) (Sub.refl _) ((bcells_length _).trans (vlen y'16))) ?_
        refine r_op rfl rfl (u_st rfl rfl rfl rfl rfl in_105 ((bcells_length _).trans (vlen y'16)) (ne_of_lt (n := 0) (Nat.lt_of_lt_of_eq (by decide) (Eq.symm ((bcells_length _).trans (vlen (Vector.replicate 32 (0 : UInt8))))))) (Upd.refl (((bcells_length _).trans (vlen y'16)).trans ((bcells_length _).trans (vlen (Vector.replicate 32 (0 : UInt8)))).symm))) ?_
        refine rz [(2, .q 2 (0))] [(2, .pure (bcells y'16.toList))] rfl rfl rfl ?_
        refine AW2_ret ?_
        have hz := some_elim H
        subst hz
        exact ⟨⟨res_cella Tryd.underlying105 rfl in_105.sz rfl (Sub.le (Sub.refl _) ((bcells_length _).trans (vlen y'16))) (by decide) (Sub.take (Sub.refl _) ((bcells_length _).trans (vlen y'16))), trivial⟩, trivial⟩

/-! chirographref.Summed -/
noncomputable def g_ref_Summed (b0 : List UInt8) : Option ((Vector UInt8 32)) :=
  (g_ref_Begun).bind fun r'1 => (g_ref_Added r'1 b0).bind fun r'2 => (g_ref_ended r'2.1).bind fun r'3 => some r'3
set_option maxHeartbeats 4000000 in
set_option maxRecDepth 100000 in
theorem g_ref_Summed_ac {b0 : List UInt8} {r : (Vector UInt8 32)} (H : g_ref_Summed b0 = some r) : ACp Tryd.prog 84 [(AV.bytes b0)] (.agg (bcells r.toList)) := by
  refine ACp_of (AC2_of_body (vs := [.g (bcells r.toList)]) Tryd.func84 rfl rfl (Nat.le_of_ble_eq_true rfl) rfl ?_) (fun _ => .same _)
  unfold g_ref_Summed at H
  refine as2 [(0, .y b0)] [] rfl rfl rfl ?_
  refine sg [0] rfl ?_
  refine r_op rfl rfl (MakeD.opD (u_alloc 2 rfl in_105 one_105 zc_105) rfl rfl rfl rfl) ?_
  refine rz [(0, .y b0), (2, .q 2 (0))] [(2, .pure (bcells ((Vector.replicate 32 (0 : UInt8)).toList)))] rfl rfl rfl ?_
  refine sg [0, 1, 2, 3, 4, 5, 6, 7, 8] rfl ?_
  refine bindK H fun r'1 h1 H => ?_
  refine rp rfl rfl (p_callp rfl rfl rfl Tryd.func96 rfl rfl (g_ref_Begun_ac h1) trivial) ?_
  refine rp rfl rfl (p_move rfl rfl) ?_
  refine bindK H fun r'2 h2 H => ?_
  refine rp rfl rfl (p_callp rfl rfl rfl Tryd.func95 rfl rfl (g_ref_Added_ac h2) ⟨rfl, rfl, trivial⟩) ?_
  refine rp rfl rfl (p_move rfl rfl) ?_
  refine rp rfl rfl (p_ext rfl rfl rfl rfl) ?_
  refine rp rfl rfl (p_ext rfl rfl rfl rfl) ?_
  refine r_op rfl rfl (MakeD.opD (u_alloc 3 rfl in_115 one_115 zc_115) rfl rfl rfl rfl) ?_
  refine r_op rfl rfl (u_st rfl rfl rfl rfl rfl in_115 (GStream.len r'2.1) (ne_of_lt (n := 0) (Nat.lt_of_lt_of_eq (by decide) (Eq.symm (GStream.len GStream.zero)))) (Upd.refl ((GStream.len r'2.1).trans (GStream.len GStream.zero).symm))) ?_
  refine rp rfl rfl (p_asg rfl rfl) ?_
  refine rz [(2, .q 2 (0)), (3, .q 3 (0))] [(2, .pure (bcells ((Vector.replicate 32 (0 : UInt8)).toList))), (3, .pure (GStream.cs r'2.1))] rfl rfl rfl ?_
  refine sg [0, 1, 2] rfl ?_
  refine rp rfl rfl (u_lda rfl rfl Tryd.underlying115 rfl in_115 rfl (Nat.succ_pos _) (Sub.refl _) (GStream.len r'2.1)) ?_
  refine bindK H fun r'3 h3 H => ?_
  refine rp rfl rfl (p_callp rfl rfl rfl Tryd.func97 rfl rfl (g_ref_ended_ac h3) ⟨rfl, trivial⟩) ?_
  refine r_op rfl rfl (u_st rfl rfl rfl rfl rfl in_105 ((bcells_length _).trans (vlen r'3)) (ne_of_lt (n := 0) (Nat.lt_of_lt_of_eq (by decide) (Eq.symm ((bcells_length _).trans (vlen (Vector.replicate 32 (0 : UInt8))))))) (Upd.refl (((bcells_length _).trans (vlen r'3)).trans ((bcells_length _).trans (vlen (Vector.replicate 32 (0 : UInt8)))).symm))) ?_
  refine rz [(2, .q 2 (0))] [(2, .pure (bcells r'3.toList))] rfl rfl rfl ?_
  refine AW2_ret ?_
  have hz := some_elim H
  subst hz
  exact ⟨⟨res_cella Tryd.underlying105 rfl in_105.sz rfl (Sub.le (Sub.refl _) ((bcells_length _).trans (vlen r'3))) (by decide) (Sub.take (Sub.refl _) ((bcells_length _).trans (vlen r'3))), trivial⟩, trivial⟩

/-! chirographref.DigestOf -/
noncomputable def g_ref_DigestOf (mode0 : Int) (tag1 : Int) (parts2 : List (List UInt8)) : Option ((List UInt8) × Int) :=
  (g_ref_badMode mode0).bind fun r'1 => (if r'1 = true then some ([], (2 : Int)) else (g_ref_FrameOf tag1 parts2).bind fun r'2 => ((if (r'2.2 = (0 : Int)) ∧ (mode0 = (1 : Int)) then (g_ref_Summed r'2.1).bind fun r'4 => some r'4.toList else some r'2.1)).bind fun j'3 => some (j'3, r'2.2))
set_option maxHeartbeats 4000000 in
set_option maxRecDepth 100000 in
theorem g_ref_DigestOf_ac {mode0 : Int} {tag1 : Int} {parts2 : List (List UInt8)} {r : (List UInt8) × Int} (H : g_ref_DigestOf mode0 tag1 parts2 = some r) : ACp Tryd.prog 62 [(AV.int mode0), (AV.int tag1), (AV.lists parts2)] (.tup [(AV.bytes r.1), (AV.int r.2)]) := by
  refine ACp_of (AC2_of_body (vs := [.y r.1, .i r.2]) Tryd.func62 rfl rfl (Nat.le_of_ble_eq_true rfl) rfl ?_) (fun _ => .same _)
  unfold g_ref_DigestOf at H
  refine as2 [(0, .i mode0), (1, .i tag1), (2, .p (AV.lists parts2))] [] rfl rfl rfl ?_
  refine sg [0, 1] rfl ?_
  refine rp rfl rfl (p_asgn rfl) ?_
  refine rp rfl rfl (p_asg rfl rfl) ?_
  refine rz [(0, .i mode0), (1, .i tag1), (2, .p (AV.lists parts2))] [] rfl rfl rfl ?_
  refine AW2_seq ?_
  refine sg [0, 1] rfl ?_
  refine rp rfl rfl (p_move rfl rfl) ?_
  refine bindK H fun r'1 h1 H => ?_
  refine rp rfl rfl (p_callp rfl rfl rfl Tryd.func80 rfl rfl (g_ref_badMode_ac h1) ⟨rfl, trivial⟩) ?_
  refine rz [(0, .i mode0), (1, .i tag1), (2, .p (AV.lists parts2)), (12, .b r'1)] [] rfl rfl rfl ?_
  refine AW2_cond rfl (fun h2 => ?_) (fun h2 => ?_)
  · replace H := ite_then h2 H
    refine sg [0, 1] rfl ?_
    refine rp rfl rfl (p_asgn rfl) ?_
    refine rp rfl rfl (p_asg rfl rfl) ?_
    refine rz [(6, .p .nil), (7, .i (2 : Int))] [] rfl rfl rfl ?_
    refine AW2_ret ?_
    have hz := some_elim H
    subst hz
    exact ⟨⟨res_tmp TLes.nil0, res_tmp (.same _), trivial⟩, trivial⟩
  · replace H := ite_else (ne_true h2) H
    refine as2 [(0, .i mode0), (1, .i tag1), (2, .p (AV.lists parts2))] [] rfl rfl rfl ?_
    refine AW2_skip ?_
    refine sg [0, 1, 2, 3, 4, 5, 6, 7] rfl ?_
    refine rp rfl rfl (p_move rfl rfl) ?_
    refine rp rfl rfl (p_move rfl rfl) ?_
    refine bindK H fun r'2 h3 H => ?_
    refine rp rfl rfl (p_callp rfl rfl rfl Tryd.func83 rfl rfl (g_ref_FrameOf_ac h3) ⟨rfl, rfl, trivial⟩) ?_
    refine rp rfl rfl (p_move rfl rfl) ?_
    refine rp rfl rfl (p_ext rfl rfl rfl rfl) ?_
    refine rp rfl rfl (p_ext rfl rfl rfl rfl) ?_
    refine rp rfl rfl (p_asg rfl rfl) ?_
    refine rp rfl rfl (p_asg rfl rfl) ?_
    refine rz [(0, .i mode0), (8, .y r'2.1), (9, .i r'2.2)] [] rfl rfl rfl ?_
    refine AW2_seq ?_
    refine bindK H fun j'3 h4 H => ?_
    refine AW2_mid (⟨[(8, .y j'3), (9, .i r'2.2)], [], 32⟩ : TS) ?_ ?_
    · clear H
      have H := h4
      clear h4
      refine AW2_seq ?_
      refine AW2_mid (⟨[(8, .y r'2.1), (9, .i r'2.2), (24, .b (decide ((r'2.2 = (0 : Int)) ∧ (mode0 = (1 : Int)))))], [], 32⟩ : TS) ?_ ?_
      · refine AW2_reg [0, 1, 2, 3, 4, 5] rfl ?_
        refine rp rfl rfl (p_move rfl rfl) ?_
        refine rp rfl rfl (p_ieq rfl rfl rfl) ?_
        refine rp rfl rfl (p_move rfl rfl) ?_
        refine (Classical.em (r'2.2 = (0 : Int))).elim (fun h5 => ?_) (fun h5 => ?_)
        · refine r_on rfl rfl rfl rfl (decide_eq_true (p := r'2.2 = (0 : Int)) h5) rfl (PureD.opD (p_move rfl rfl)) ?_
          refine r_on rfl rfl rfl rfl (decide_eq_true (p := r'2.2 = (0 : Int)) h5) rfl (PureD.opD (p_ieq rfl rfl rfl)) ?_
          refine rp rfl rfl (p_pkt rfl rfl (decide_eq_true (p := r'2.2 = (0 : Int)) h5) (tb ((and_l (p := r'2.2 = (0 : Int)) (q := mode0 = (1 : Int)) h5)))) ?_
          refine rs [(8, .y r'2.1), (9, .i r'2.2), (24, .b (decide ((r'2.2 = (0 : Int)) ∧ (mode0 = (1 : Int)))))] [] rfl rfl rfl ?_
          exact RunW_nil rfl
        · refine r_off rfl rfl rfl rfl (decide_eq_false (p := r'2.2 = (0 : Int)) h5) rfl rfl ?_
          refine r_off rfl rfl rfl rfl (decide_eq_false (p := r'2.2 = (0 : Int)) h5) rfl rfl ?_
          refine rp rfl rfl (p_pkf rfl rfl (decide_eq_false (p := r'2.2 = (0 : Int)) h5) (tb (decide_eq_false (p := (r'2.2 = (0 : Int)) ∧ (mode0 = (1 : Int))) (fun x => h5 x.1)).symm)) ?_
          refine rs [(8, .y r'2.1), (9, .i r'2.2), (24, .b (decide ((r'2.2 = (0 : Int)) ∧ (mode0 = (1 : Int)))))] [] rfl rfl rfl ?_
          exact RunW_nil rfl
      · refine AW2_if (p := (r'2.2 = (0 : Int)) ∧ (mode0 = (1 : Int))) rfl (fun h6 => ?_) (fun h6 => ?_)
        · replace H := ite_then h6 H
          refine sg [0, 1, 2, 3] rfl ?_
          refine rp rfl rfl (p_move rfl rfl) ?_
          refine bindK H fun r'4 h7 H => ?_
          refine rp rfl rfl (p_callp rfl rfl rfl Tryd.func84 rfl rfl (g_ref_Summed_ac h7) ⟨rfl, trivial⟩) ?_
          refine r_op rfl rfl (MakeD.opD (u_alloc 10 rfl in_105 one_105 zc_105) rfl rfl rfl rfl) ?_
          refine r_op rfl rfl (u_st rfl rfl rfl rfl rfl in_105 ((bcells_length _).trans (vlen r'4)) (ne_of_lt (n := 0) (Nat.lt_of_lt_of_eq (by decide) (Eq.symm ((bcells_length _).trans (vlen (Vector.replicate 32 (0 : UInt8))))))) (Upd.refl (((bcells_length _).trans (vlen r'4)).trans ((bcells_length _).trans (vlen (Vector.replicate 32 (0 : UInt8)))).symm))) ?_
          refine rz [(9, .i r'2.2), (10, .q 10 (0))] [(10, .pure (bcells r'4.toList))] rfl rfl rfl ?_
          refine AW2_reg [0, 1, 2, 3] rfl ?_
          refine rp rfl rfl (u_cuta rfl rfl Tryd.underlying105 in_5 rfl rfl (ne_of_lt (n := 0) (Nat.lt_of_lt_of_eq (by decide) (Eq.symm ((bcells_length _).trans (vlen r'4))))) (Sub.refl _) (((bcells_length _).trans (vlen r'4)).trans (by decide))) ?_
          refine rp rfl rfl (u_cbl rfl rfl Tryd.underlying33 Tryd.underlying5 Tryd.underlying9 (bs := r'4.toList) (vlen _) rfl rfl (ne_of_lt (n := 0) (Nat.lt_of_lt_of_eq (by decide) (Eq.symm ((bcells_length _).trans (vlen r'4))))) (Sub.refl _)) ?_
          refine r_op rfl rfl (MakeD.opD (n_sb 29 rfl Tryd.underlying9 Tryd.underlying33 Tryd.underlying5 rfl) rfl rfl rfl rfl) ?_
          refine rp rfl rfl (p_asg rfl rfl) ?_
          refine rs [(8, .c (.own 29 r'4.toList.length 1)), (9, .i r'2.2)] [(29, .pure (bcells r'4.toList))] rfl rfl rfl ?_
          refine RunW_gho (Gho_ren 29 8 rfl rfl rfl rfl rfl) ?_
          refine rs [(8, .c (.own 8 r'4.toList.length 1)), (9, .i r'2.2)] [(8, .pure (bcells r'4.toList))] rfl rfl rfl ?_
          refine RunW_gho (Gho_pubs [8] ⟨rfl, trivial⟩ rfl (bl r'4.toList) (by decide)) ?_
          refine rz [(8, .y r'4.toList), (9, .i r'2.2)] [] rfl rfl rfl ?_
          have hz := some_elim H
          subst hz
          exact rfl
        · replace H := ite_else h6 H
          refine as2 [(8, .y r'2.1), (9, .i r'2.2)] [] rfl rfl rfl ?_
          refine AW2_skip ?_
          have hz := some_elim H
          subst hz
          exact rfl
    · refine sg [0, 1, 2, 3] rfl ?_
      refine rp rfl rfl (p_move rfl rfl) ?_
      refine rp rfl rfl (p_move rfl rfl) ?_
      refine rp rfl rfl (p_asg rfl rfl) ?_
      refine rp rfl rfl (p_asg rfl rfl) ?_
      refine rz [(6, .y j'3), (7, .i r'2.2)] [] rfl rfl rfl ?_
      refine AW2_ret ?_
      have hz := some_elim H
      subst hz
      exact ⟨⟨res_tmp (.same _), res_tmp (.same _), trivial⟩, trivial⟩

/-! chirographref.LeafOf -/
noncomputable def g_ref_LeafOf (mode0 : Int) (s1 : GSlot) : Option ((List UInt8) × Int) :=
  (g_ref_badMode mode0).bind fun r'1 => (if r'1 = true then some ([], (2 : Int)) else (if ((!s1.Full) = true) ∧ ((s1.Data.length : Int) > (0 : Int)) then some ([], (3 : Int)) else (if ((s1.Salt.length : Int) > (80 : Int)) ∨ ((s1.Data.length : Int) > (400 : Int)) then some ([], (1 : Int)) else ((if s1.Full = true then if [1].length + s1.Data.length ≤ 9223372036854775807 then some ([1] ++ s1.Data) else none else some [0])).bind fun j'2 => (g_ref_DigestOf mode0 (1 : Int) ([s1.Salt, j'2] : List (List UInt8))).bind fun r'3 => some (r'3.1, r'3.2))))
set_option maxHeartbeats 4000000 in
set_option maxRecDepth 100000 in
theorem g_ref_LeafOf_ac {mode0 : Int} {s1 : GSlot} {r : (List UInt8) × Int} (H : g_ref_LeafOf mode0 s1 = some r) : ACp Tryd.prog 64 [(AV.int mode0), (.agg (GSlot.cs s1))] (.tup [(AV.bytes r.1), (AV.int r.2)]) := by
  refine ACp_of (AC2_of_body (vs := [.y r.1, .i r.2]) Tryd.func64 rfl rfl (Nat.le_of_ble_eq_true rfl) rfl ?_) (fun _ => .same _)
  unfold g_ref_LeafOf at H
  refine as2 [(0, .i mode0), (1, .g (GSlot.cs s1))] [] rfl rfl rfl ?_
  refine sg [0, 1, 2] rfl ?_
  refine r_op rfl rfl (MakeD.opD (n_box 3 rfl rfl) rfl rfl rfl rfl) ?_
  refine rp rfl rfl (p_asgn rfl) ?_
  refine rp rfl rfl (p_asg rfl rfl) ?_
  refine rz [(0, .i mode0), (3, .q 3 (0))] [(3, .pure (GSlot.cs s1))] rfl rfl rfl ?_
  refine AW2_seq ?_
  refine AW2_block ?_
  refine sg [0, 1, 2] rfl ?_
  refine rp rfl rfl (p_move rfl rfl) ?_
  refine bindK H fun r'1 h1 H => ?_
  refine rp rfl rfl (p_callp rfl rfl rfl Tryd.func80 rfl rfl (g_ref_badMode_ac h1) ⟨rfl, trivial⟩) ?_
  refine rp rfl rfl (p_asg rfl rfl) ?_
  refine rz [(0, .i mode0), (3, .q 3 (0)), (7, .b r'1)] [(3, .pure (GSlot.cs s1))] rfl rfl rfl ?_
  refine AW2_cond rfl (fun h2 => ?_) (fun h2 => ?_)
  · replace H := ite_then h2 H
    refine sg [0, 1] rfl ?_
    refine rp rfl rfl (p_asgn rfl) ?_
    refine rp rfl rfl (p_asg rfl rfl) ?_
    refine rz [(4, .p .nil), (5, .i (2 : Int))] [] rfl rfl rfl ?_
    refine AW2_ret ?_
    have hz := some_elim H
    subst hz
    exact ⟨⟨res_tmp TLes.nil0, res_tmp (.same _), trivial⟩, trivial⟩
  · replace H := ite_else (ne_true h2) H
    refine AW2_seq ?_
    refine AW2_mid (⟨[(0, .i mode0), (3, .q 3 (0)), (10, .b (decide (((!s1.Full) = true) ∧ ((s1.Data.length : Int) > (0 : Int)))))], [(3, .pure (GSlot.cs s1))], 46⟩ : TS) ?_ ?_
    · refine AW2_reg [0, 1, 2, 3, 4, 5, 6, 7, 8, 9] rfl ?_
      refine rp rfl rfl (u_fa rfl rfl Tryd.underlying52 rfl in_4 (Nat.succ_ne_zero _) rfl rfl (ne_of_lt (n := 0) (Nat.lt_of_lt_of_eq (by decide) (Eq.symm (GSlot.len s1))))) ?_
      refine rp rfl rfl (u_ld rfl rfl Tryd.underlying4 rfl rfl ((Sub.refl _).trans (GSlot.sub0 s1))) ?_
      refine rp rfl rfl (p_not rfl rfl) ?_
      refine rp rfl rfl (p_move rfl rfl) ?_
      refine (Classical.em ((!s1.Full) = true)).elim (fun h3 => ?_) (fun h3 => ?_)
      · refine rn rfl rfl rfl rfl h3 rfl (u_fa rfl rfl Tryd.underlying52 rfl in_33 (Nat.succ_ne_zero _) rfl rfl (ne_of_lt (n := 0) (Nat.lt_of_lt_of_eq (by decide) (Eq.symm (GSlot.len s1))))) ?_
        refine rn rfl rfl rfl rfl h3 rfl (u_ld rfl rfl Tryd.underlying33 rfl rfl ((Sub.refl _).trans (GSlot.sub2 s1))) ?_
        refine rn rfl rfl rfl rfl h3 rfl (p_lenl rfl Tryd.underlying33 rfl rfl) ?_
        refine rn rfl rfl rfl rfl h3 rfl (p_bin rfl rfl rfl rfl) ?_
        refine rp rfl rfl (p_pkt rfl rfl h3 (tb ((and_l (p := (!s1.Full) = true) (q := (s1.Data.length : Int) > (0 : Int)) h3)))) ?_
        refine rp rfl rfl (p_asg rfl rfl) ?_
        refine rs [(0, .i mode0), (3, .q 3 (0)), (10, .b (decide (((!s1.Full) = true) ∧ ((s1.Data.length : Int) > (0 : Int)))))] [(3, .pure (GSlot.cs s1))] rfl rfl rfl ?_
        exact RunW_nil rfl
      · refine r_off rfl rfl rfl rfl (bfalse h3) rfl rfl ?_
        refine r_off rfl rfl rfl rfl (bfalse h3) rfl rfl ?_
        refine r_off rfl rfl rfl rfl (bfalse h3) rfl rfl ?_
        refine r_off rfl rfl rfl rfl (bfalse h3) rfl rfl ?_
        refine rp rfl rfl (p_pkf rfl rfl (bfalse h3) (tb (decide_eq_false (p := ((!s1.Full) = true) ∧ ((s1.Data.length : Int) > (0 : Int))) (fun x => h3 x.1)).symm)) ?_
        refine rp rfl rfl (p_asg rfl rfl) ?_
        refine rs [(0, .i mode0), (3, .q 3 (0)), (10, .b (decide (((!s1.Full) = true) ∧ ((s1.Data.length : Int) > (0 : Int)))))] [(3, .pure (GSlot.cs s1))] rfl rfl rfl ?_
        exact RunW_nil rfl
    · refine AW2_if (p := ((!s1.Full) = true) ∧ ((s1.Data.length : Int) > (0 : Int))) rfl (fun h4 => ?_) (fun h4 => ?_)
      · replace H := ite_then h4 H
        refine sg [0, 1] rfl ?_
        refine rp rfl rfl (p_asgn rfl) ?_
        refine rp rfl rfl (p_asg rfl rfl) ?_
        refine rz [(4, .p .nil), (5, .i (3 : Int))] [] rfl rfl rfl ?_
        refine AW2_ret ?_
        have hz := some_elim H
        subst hz
        exact ⟨⟨res_tmp TLes.nil0, res_tmp (.same _), trivial⟩, trivial⟩
      · replace H := ite_else h4 H
        refine AW2_seq ?_
        refine AW2_mid (⟨[(0, .i mode0), (3, .q 3 (0)), (20, .b (decide (((s1.Salt.length : Int) > (80 : Int)) ∨ ((s1.Data.length : Int) > (400 : Int)))))], [(3, .pure (GSlot.cs s1))], 46⟩ : TS) ?_ ?_
        · refine AW2_reg [0, 1, 2, 3, 4, 5, 6, 7, 8, 9, 10] rfl ?_
          refine rp rfl rfl (u_fa rfl rfl Tryd.underlying52 rfl in_33 (Nat.succ_ne_zero _) rfl rfl (ne_of_lt (n := 0) (Nat.lt_of_lt_of_eq (by decide) (Eq.symm (GSlot.len s1))))) ?_
          refine rp rfl rfl (u_ld rfl rfl Tryd.underlying33 rfl rfl ((Sub.refl _).trans (GSlot.sub1 s1))) ?_
          refine rp rfl rfl (p_lenl rfl Tryd.underlying33 rfl rfl) ?_
          refine rp rfl rfl (p_bin rfl rfl rfl rfl) ?_
          refine rp rfl rfl (p_move rfl rfl) ?_
          refine (Classical.em ((s1.Salt.length : Int) > (80 : Int))).elim (fun h5 => ?_) (fun h5 => ?_)
          · refine r_off rfl rfl rfl rfl (decide_eq_true (p := (s1.Salt.length : Int) > (80 : Int)) h5) rfl rfl ?_
            refine r_off rfl rfl rfl rfl (decide_eq_true (p := (s1.Salt.length : Int) > (80 : Int)) h5) rfl rfl ?_
            refine r_off rfl rfl rfl rfl (decide_eq_true (p := (s1.Salt.length : Int) > (80 : Int)) h5) rfl rfl ?_
            refine r_off rfl rfl rfl rfl (decide_eq_true (p := (s1.Salt.length : Int) > (80 : Int)) h5) rfl rfl ?_
            refine rp rfl rfl (p_pkt rfl rfl (decide_eq_true (p := (s1.Salt.length : Int) > (80 : Int)) h5) (tb (decide_eq_true (p := ((s1.Salt.length : Int) > (80 : Int)) ∨ ((s1.Data.length : Int) > (400 : Int))) (Or.inl h5)).symm)) ?_
            refine rp rfl rfl (p_asg rfl rfl) ?_
            refine rs [(0, .i mode0), (3, .q 3 (0)), (20, .b (decide (((s1.Salt.length : Int) > (80 : Int)) ∨ ((s1.Data.length : Int) > (400 : Int)))))] [(3, .pure (GSlot.cs s1))] rfl rfl rfl ?_
            exact RunW_nil rfl
          · refine r_on rfl rfl rfl rfl (decide_eq_false (p := (s1.Salt.length : Int) > (80 : Int)) h5) rfl (PureD.opD (u_fa rfl rfl Tryd.underlying52 rfl in_33 (Nat.succ_ne_zero _) rfl rfl (ne_of_lt (n := 0) (Nat.lt_of_lt_of_eq (by decide) (Eq.symm (GSlot.len s1)))))) ?_
            refine r_on rfl rfl rfl rfl (decide_eq_false (p := (s1.Salt.length : Int) > (80 : Int)) h5) rfl (PureD.opD (u_ld rfl rfl Tryd.underlying33 rfl rfl ((Sub.refl _).trans (GSlot.sub2 s1)))) ?_
            refine r_on rfl rfl rfl rfl (decide_eq_false (p := (s1.Salt.length : Int) > (80 : Int)) h5) rfl (PureD.opD (p_lenl rfl Tryd.underlying33 rfl rfl)) ?_
            refine r_on rfl rfl rfl rfl (decide_eq_false (p := (s1.Salt.length : Int) > (80 : Int)) h5) rfl (PureD.opD (p_bin rfl rfl rfl rfl)) ?_
            refine rp rfl rfl (p_pkf rfl rfl (decide_eq_false (p := (s1.Salt.length : Int) > (80 : Int)) h5) (tb ((or_l (p := (s1.Salt.length : Int) > (80 : Int)) (q := (s1.Data.length : Int) > (400 : Int)) h5)))) ?_
            refine rp rfl rfl (p_asg rfl rfl) ?_
            refine rs [(0, .i mode0), (3, .q 3 (0)), (20, .b (decide (((s1.Salt.length : Int) > (80 : Int)) ∨ ((s1.Data.length : Int) > (400 : Int)))))] [(3, .pure (GSlot.cs s1))] rfl rfl rfl ?_
            exact RunW_nil rfl
        · refine AW2_if (p := ((s1.Salt.length : Int) > (80 : Int)) ∨ ((s1.Data.length : Int) > (400 : Int))) rfl (fun h6 => ?_) (fun h6 => ?_)
          · replace H := ite_then h6 H
            refine sg [0, 1] rfl ?_
            refine rp rfl rfl (p_asgn rfl) ?_
            refine rp rfl rfl (p_asg rfl rfl) ?_
            refine rz [(4, .p .nil), (5, .i (1 : Int))] [] rfl rfl rfl ?_
            refine AW2_ret ?_
            have hz := some_elim H
            subst hz
            exact ⟨⟨res_tmp TLes.nil0, res_tmp (.same _), trivial⟩, trivial⟩
          · replace H := ite_else h6 H
            refine as2 [(0, .i mode0), (3, .q 3 (0))] [(3, .pure (GSlot.cs s1))] rfl rfl rfl ?_
            refine AW2_skip ?_
            refine sg [0] rfl ?_
            refine rp rfl rfl (p_asg rfl rfl) ?_
            refine rz [(0, .i mode0), (3, .q 3 (0)), (6, .t [0])] [(3, .pure (GSlot.cs s1))] rfl rfl rfl ?_
            refine AW2_seq ?_
            refine bindK H fun j'2 h7 H => ?_
            refine AW2_mid (⟨[(0, .i mode0), (3, .q 3 (0)), (6, .t j'2)], [(3, .pure (GSlot.cs s1))], 46⟩ : TS) ?_ ?_
            · clear H
              have H := h7
              clear h7
              refine sg [0, 1] rfl ?_
              refine rp rfl rfl (u_fa rfl rfl Tryd.underlying52 rfl in_4 (Nat.succ_ne_zero _) rfl rfl (ne_of_lt (n := 0) (Nat.lt_of_lt_of_eq (by decide) (Eq.symm (GSlot.len s1))))) ?_
              refine rp rfl rfl (u_ld rfl rfl Tryd.underlying4 rfl rfl ((Sub.refl _).trans (GSlot.sub0 s1))) ?_
              refine rz [(0, .i mode0), (3, .q 3 (0)), (6, .t [0]), (32, .b s1.Full)] [(3, .pure (GSlot.cs s1))] rfl rfl rfl ?_
              refine AW2_cond rfl (fun h8 => ?_) (fun h8 => ?_)
              · replace H := ite_then h8 H
                refine AW2_reg [0, 1, 2, 3, 4] rfl ?_
                refine rp rfl rfl (u_fa rfl rfl Tryd.underlying52 rfl in_33 (Nat.succ_ne_zero _) rfl rfl (ne_of_lt (n := 0) (Nat.lt_of_lt_of_eq (by decide) (Eq.symm (GSlot.len s1))))) ?_
                refine rp rfl rfl (u_ld rfl rfl Tryd.underlying33 rfl rfl ((Sub.refl _).trans (GSlot.sub2 s1))) ?_
                refine rp rfl rfl (p_cb rfl rfl Tryd.underlying33 Tryd.underlying5 Tryd.underlying9 rfl) ?_
                refine chkK H fun h9 H => ?_
                refine rp rfl rfl (p_cat rfl rfl rfl h9) ?_
                refine rp rfl rfl (p_asg rfl rfl) ?_
                refine rz [(0, .i mode0), (3, .q 3 (0)), (6, .t ([1] ++ s1.Data))] [(3, .pure (GSlot.cs s1))] rfl rfl rfl ?_
                have hz := some_elim H
                subst hz
                exact rfl
              · replace H := ite_else (ne_true h8) H
                refine as2 [(0, .i mode0), (3, .q 3 (0)), (6, .t [0])] [(3, .pure (GSlot.cs s1))] rfl rfl rfl ?_
                refine AW2_skip ?_
                have hz := some_elim H
                subst hz
                exact rfl
            · refine sg [0, 1, 2, 3, 4, 5, 6, 7, 8, 9, 10] rfl ?_
              refine rp rfl rfl (p_move rfl rfl) ?_
              refine rp rfl rfl (u_fa rfl rfl Tryd.underlying52 rfl in_33 (Nat.succ_ne_zero _) rfl rfl (ne_of_lt (n := 0) (Nat.lt_of_lt_of_eq (by decide) (Eq.symm (GSlot.len s1))))) ?_
              refine rp rfl rfl (u_ld rfl rfl Tryd.underlying33 rfl rfl ((Sub.refl _).trans (GSlot.sub1 s1))) ?_
              refine rp rfl rfl (p_move rfl rfl) ?_
              refine r_op rfl rfl (MakeD.opD (n_sb 41 rfl Tryd.underlying9 Tryd.underlying33 Tryd.underlying5 rfl) rfl rfl rfl rfl) ?_
              refine RunW_gho (Gho_pubs [41] ⟨rfl, trivial⟩ rfl (bl j'2) (by decide)) ?_
              refine r_op rfl rfl (MakeD.opD (u_bs 42 rfl Tryd.underlying53 in_33 rfl one_33 (by decide) (by decide) rfl rfl rfl) rfl rfl rfl rfl) ?_
              refine RunW_st [(0, .i mode0), (3, .q 3 (0)), (6, .t j'2), (37, .i mode0), (38, .q 3 (0 + 1)), (39, .y s1.Salt), (40, .t j'2), (41, .y j'2), (42, .c (.own 42 ([s1.Salt, j'2] : List (List UInt8)).length 1))] [(3, .pure (GSlot.cs s1)), (42, .pure (([s1.Salt, j'2] : List (List UInt8)).map AV.bytes))] rfl ⟨TLes.same _, TLes.same _, TLes.same _, TLes.same _, TLes.same _, TLes.same _, TLes.same _, TLes.same _, TLes.own rfl, trivial⟩ ⟨rfl, rfl, trivial⟩ ?_
              refine RunW_gho (Gho_pubs [42] ⟨rfl, trivial⟩ rfl (ml AV.bytes ([s1.Salt, j'2] : List (List UInt8))) (by decide)) ?_
              refine bindK H fun r'3 h10 H => ?_
              refine rp rfl rfl (p_callp rfl rfl rfl Tryd.func62 rfl rfl (g_ref_DigestOf_ac h10) ⟨rfl, rfl, rfl, trivial⟩) ?_
              refine rp rfl rfl (p_ext rfl rfl rfl rfl) ?_
              refine rp rfl rfl (p_ext rfl rfl rfl rfl) ?_
              refine rp rfl rfl (p_asg rfl rfl) ?_
              refine rp rfl rfl (p_asg rfl rfl) ?_
              refine rz [(4, .y r'3.1), (5, .i r'3.2)] [] rfl rfl rfl ?_
              refine AW2_ret ?_
              have hz := some_elim H
              subst hz
              exact ⟨⟨res_tmp (.same _), res_tmp (.same _), trivial⟩, trivial⟩

/-! chirographref.EntryOf -/
noncomputable def g_ref_EntryOf (mode0 : Int) (state1 : List UInt8) (s2 : GSlot) : Option ((List UInt8) × Int) :=
  (g_ref_LeafOf mode0 s2).bind fun r'1 => (if r'1.2 ≠ (0 : Int) then some ([], r'1.2) else (g_ref_DigestOf mode0 (8 : Int) ([state1, r'1.1] : List (List UInt8))).bind fun r'2 => some (r'2.1, r'2.2))
set_option maxHeartbeats 4000000 in
set_option maxRecDepth 100000 in
theorem g_ref_EntryOf_ac {mode0 : Int} {state1 : List UInt8} {s2 : GSlot} {r : (List UInt8) × Int} (H : g_ref_EntryOf mode0 state1 s2 = some r) : ACp Tryd.prog 37 [(AV.int mode0), (AV.bytes state1), (.agg (GSlot.cs s2))] (.tup [(AV.bytes r.1), (AV.int r.2)]) := by
  refine ACp_of (AC2_of_body (vs := [.y r.1, .i r.2]) Tryd.func37 rfl rfl (Nat.le_of_ble_eq_true rfl) rfl ?_) (fun _ => .same _)
  unfold g_ref_EntryOf at H
  refine as2 [(0, .i mode0), (1, .y state1), (2, .g (GSlot.cs s2))] [] rfl rfl rfl ?_
  refine sg [0, 1, 2] rfl ?_
  refine r_op rfl rfl (MakeD.opD (n_box 5 rfl rfl) rfl rfl rfl rfl) ?_
  refine rp rfl rfl (p_asgn rfl) ?_
  refine rp rfl rfl (p_asg rfl rfl) ?_
  refine rz [(0, .i mode0), (1, .y state1), (5, .q 5 (0))] [(5, .pure (GSlot.cs s2))] rfl rfl rfl ?_
  refine sg [0, 1, 2, 3, 4, 5, 6, 7] rfl ?_
  refine rp rfl rfl (p_move rfl rfl) ?_
  refine rp rfl rfl (u_lda rfl rfl Tryd.underlying52 rfl in_52 rfl (Nat.succ_pos _) (Sub.refl _) (GSlot.len s2)) ?_
  refine bindK H fun r'1 h1 H => ?_
  refine rp rfl rfl (p_callp rfl rfl rfl Tryd.func64 rfl rfl (g_ref_LeafOf_ac h1) ⟨rfl, rfl, trivial⟩) ?_
  refine rp rfl rfl (p_move rfl rfl) ?_
  refine rp rfl rfl (p_ext rfl rfl rfl rfl) ?_
  refine rp rfl rfl (p_ext rfl rfl rfl rfl) ?_
  refine rp rfl rfl (p_asg rfl rfl) ?_
  refine rp rfl rfl (p_asg rfl rfl) ?_
  refine rz [(0, .i mode0), (1, .y state1), (8, .y r'1.1), (9, .i r'1.2)] [] rfl rfl rfl ?_
  refine AW2_seq ?_
  refine sg [0, 1] rfl ?_
  refine rp rfl rfl (p_move rfl rfl) ?_
  refine rp rfl rfl (p_ine rfl rfl rfl) ?_
  refine rz [(0, .i mode0), (1, .y state1), (8, .y r'1.1), (9, .i r'1.2), (17, .b (decide (r'1.2 ≠ (0 : Int))))] [] rfl rfl rfl ?_
  refine AW2_if (p := r'1.2 ≠ (0 : Int)) rfl (fun h2 => ?_) (fun h2 => ?_)
  · replace H := ite_then h2 H
    refine sg [0, 1, 2] rfl ?_
    refine rp rfl rfl (p_move rfl rfl) ?_
    refine rp rfl rfl (p_asgn rfl) ?_
    refine rp rfl rfl (p_asg rfl rfl) ?_
    refine rz [(6, .p .nil), (7, .i r'1.2)] [] rfl rfl rfl ?_
    refine AW2_ret ?_
    have hz := some_elim H
    subst hz
    exact ⟨⟨res_tmp TLes.nil0, res_tmp (.same _), trivial⟩, trivial⟩
  · replace H := ite_else h2 H
    refine as2 [(0, .i mode0), (1, .y state1), (8, .y r'1.1)] [] rfl rfl rfl ?_
    refine AW2_skip ?_
    refine sg [0, 1, 2, 3, 4, 5, 6, 7, 8] rfl ?_
    refine rp rfl rfl (p_move rfl rfl) ?_
    refine rp rfl rfl (p_move rfl rfl) ?_
    refine rp rfl rfl (p_move rfl rfl) ?_
    refine r_op rfl rfl (MakeD.opD (u_bs 22 rfl Tryd.underlying53 in_33 rfl one_33 (by decide) (by decide) rfl rfl rfl) rfl rfl rfl rfl) ?_
    refine RunW_st [(0, .i mode0), (1, .y state1), (8, .y r'1.1), (19, .i mode0), (20, .y state1), (21, .y r'1.1), (22, .c (.own 22 ([state1, r'1.1] : List (List UInt8)).length 1))] [(22, .pure (([state1, r'1.1] : List (List UInt8)).map AV.bytes))] rfl ⟨TLes.same _, TLes.same _, TLes.same _, TLes.same _, TLes.same _, TLes.same _, TLes.own rfl, trivial⟩ ⟨rfl, trivial⟩ ?_
    refine RunW_gho (Gho_pubs [22] ⟨rfl, trivial⟩ rfl (ml AV.bytes ([state1, r'1.1] : List (List UInt8))) (by decide)) ?_
    refine bindK H fun r'2 h3 H => ?_
    refine rp rfl rfl (p_callp rfl rfl rfl Tryd.func62 rfl rfl (g_ref_DigestOf_ac h3) ⟨rfl, rfl, rfl, trivial⟩) ?_
    refine rp rfl rfl (p_ext rfl rfl rfl rfl) ?_
    refine rp rfl rfl (p_ext rfl rfl rfl rfl) ?_
    refine rp rfl rfl (p_asg rfl rfl) ?_
    refine rp rfl rfl (p_asg rfl rfl) ?_
    refine rz [(6, .y r'2.1), (7, .i r'2.2)] [] rfl rfl rfl ?_
    refine AW2_ret ?_
    have hz := some_elim H
    subst hz
    exact ⟨⟨res_tmp (.same _), res_tmp (.same _), trivial⟩, trivial⟩

/-! chirographref.IncludeFault -/
noncomputable def g_ref_IncludeFault_l1 : Int × Int → Option ((Int × Int) ⊕ ((Int × Int)))
  | (at15_1, last16_1) => (if (at15_1.tmod (2 : Int) = (0 : Int)) ∧ (at15_1 > (0 : Int)) then some (.inl (w64 (at15_1.tdiv (2 : Int)), w64 (last16_1.tdiv (2 : Int)))) else some (.inr (at15_1, last16_1)))
noncomputable def g_ref_IncludeFault_l0 (mode0 : Int) (path5 : List (List UInt8)) : (List UInt8) × Int × Int × Int × Int → Option (((List UInt8) × Int × Int × Int × Int) ⊕ (Int ⊕ ((List UInt8) × Int × Int)))
  | (d13_0, e14_0, at15_0, last16_0, t49_0) => (if t49_0 < (path5.length : Int) then if 0 ≤ t49_0 ∧ t49_0 < (path5.length : Int) then (if (e14_0 ≠ (0 : Int)) ∨ (last16_0 = (0 : Int)) then some (.inr (.inl (10 : Int))) else ((if (at15_0.tmod (2 : Int) = (1 : Int)) ∨ (at15_0 = last16_0) then (g_ref_DigestOf mode0 (6 : Int) ([(lrd path5 t49_0.toNat), d13_0] : List (List UInt8))).bind fun r'4 => (loopO (g_ref_IncludeFault_l1) (at15_0, last16_0)).bind fun y'8 => some (r'4.1, r'4.2, y'8.1, y'8.2) else (g_ref_DigestOf mode0 (6 : Int) ([d13_0, (lrd path5 t49_0.toNat)] : List (List UInt8))).bind fun r'9 => some (r'9.1, r'9.2, at15_0, last16_0))).bind fun j'3 => some (.inl (j'3.1, j'3.2.1, w64 (j'3.2.2.1.tdiv (2 : Int)), w64 (j'3.2.2.2.tdiv (2 : Int)), w64 (t49_0 + (1 : Int))))) else none else some (.inr (.inr (d13_0, e14_0, last16_0))))
noncomputable def g_ref_IncludeFault (mode0 : Int) (head1 : List UInt8) (n2 : Int) (i3 : Int) (entry4 : List UInt8) (path5 : List (List UInt8)) : Option (Int) :=
  (g_ref_badMode mode0).bind fun r'1 => (if r'1 = true then some (2 : Int) else (if (n2 < (0 : Int)) ∨ (n2 > (64 : Int)) then some (1 : Int) else (if (i3 < (0 : Int)) ∨ (i3 ≥ n2) then some (6 : Int) else (g_ref_DigestOf mode0 (5 : Int) ([entry4] : List (List UInt8))).bind fun r'2 => (loopO (g_ref_IncludeFault_l0 mode0 path5) (r'2.1, r'2.2, i3, w64 (n2 - (1 : Int)), (0 : Int))).bind fun o'13 => match o'13 with | .inl y'14 => some y'14 | .inr (y'15) => (if ((y'15.2.1 ≠ (0 : Int)) ∨ (y'15.2.2 ≠ (0 : Int))) ∨ (y'15.1 ≠ head1) then some (10 : Int) else some (0 : Int)))))
set_option maxHeartbeats 4000000 in
set_option maxRecDepth 100000 in
theorem g_ref_IncludeFault_ac {mode0 : Int} {head1 : List UInt8} {n2 : Int} {i3 : Int} {entry4 : List UInt8} {path5 : List (List UInt8)} {r : Int} (H : g_ref_IncludeFault mode0 head1 n2 i3 entry4 path5 = some r) : ACp Tryd.prog 60 [(AV.int mode0), (AV.bytes head1), (AV.int n2), (AV.int i3), (AV.bytes entry4), (AV.lists path5)] (AV.int r) := by
  refine ACp_of (AC2_of_body (vs := [.i r]) Tryd.func60 rfl rfl (Nat.le_of_ble_eq_true rfl) rfl ?_) (fun _ => .same _)
  unfold g_ref_IncludeFault at H
  refine as2 [(0, .i mode0), (1, .y head1), (2, .i n2), (3, .i i3), (4, .y entry4), (5, .p (AV.lists path5))] [] rfl rfl rfl ?_
  refine sg [0] rfl ?_
  refine rp rfl rfl (p_asg rfl rfl) ?_
  refine rz [(0, .i mode0), (1, .y head1), (2, .i n2), (3, .i i3), (4, .y entry4), (5, .p (AV.lists path5))] [] rfl rfl rfl ?_
  refine AW2_seq ?_
  refine AW2_block ?_
  refine sg [0, 1, 2] rfl ?_
  refine rp rfl rfl (p_move rfl rfl) ?_
  refine bindK H fun r'1 h1 H => ?_
  refine rp rfl rfl (p_callp rfl rfl rfl Tryd.func80 rfl rfl (g_ref_badMode_ac h1) ⟨rfl, trivial⟩) ?_
  refine rp rfl rfl (p_asg rfl rfl) ?_
  refine rz [(0, .i mode0), (1, .y head1), (2, .i n2), (3, .i i3), (4, .y entry4), (5, .p (AV.lists path5)), (19, .b r'1)] [] rfl rfl rfl ?_
  refine AW2_cond rfl (fun h2 => ?_) (fun h2 => ?_)
  · replace H := ite_then h2 H
    refine sg [0] rfl ?_
    refine rp rfl rfl (p_asg rfl rfl) ?_
    refine rz [(12, .i (2 : Int))] [] rfl rfl rfl ?_
    refine AW2_ret ?_
    have hz := some_elim H
    subst hz
    exact ⟨⟨res_tmp (.same _), trivial⟩, trivial⟩
  · replace H := ite_else (ne_true h2) H
    refine AW2_seq ?_
    refine AW2_mid (⟨[(0, .i mode0), (1, .y head1), (2, .i n2), (3, .i i3), (4, .y entry4), (5, .p (AV.lists path5)), (22, .b (decide ((n2 < (0 : Int)) ∨ (n2 > (64 : Int)))))], [], 112⟩ : TS) ?_ ?_
    · refine AW2_reg [0, 1, 2, 3, 4, 5, 6] rfl ?_
      refine rp rfl rfl (p_move rfl rfl) ?_
      refine rp rfl rfl (p_bin rfl rfl rfl rfl) ?_
      refine rp rfl rfl (p_move rfl rfl) ?_
      refine (Classical.em (n2 < (0 : Int))).elim (fun h3 => ?_) (fun h3 => ?_)
      · refine r_off rfl rfl rfl rfl (decide_eq_true (p := n2 < (0 : Int)) h3) rfl rfl ?_
        refine r_off rfl rfl rfl rfl (decide_eq_true (p := n2 < (0 : Int)) h3) rfl rfl ?_
        refine rp rfl rfl (p_pkt rfl rfl (decide_eq_true (p := n2 < (0 : Int)) h3) (tb (decide_eq_true (p := (n2 < (0 : Int)) ∨ (n2 > (64 : Int))) (Or.inl h3)).symm)) ?_
        refine rp rfl rfl (p_asg rfl rfl) ?_
        refine rs [(0, .i mode0), (1, .y head1), (2, .i n2), (3, .i i3), (4, .y entry4), (5, .p (AV.lists path5)), (22, .b (decide ((n2 < (0 : Int)) ∨ (n2 > (64 : Int)))))] [] rfl rfl rfl ?_
        exact RunW_nil rfl
      · refine r_on rfl rfl rfl rfl (decide_eq_false (p := n2 < (0 : Int)) h3) rfl (PureD.opD (p_move rfl rfl)) ?_
        refine r_on rfl rfl rfl rfl (decide_eq_false (p := n2 < (0 : Int)) h3) rfl (PureD.opD (p_bin rfl rfl rfl rfl)) ?_
        refine rp rfl rfl (p_pkf rfl rfl (decide_eq_false (p := n2 < (0 : Int)) h3) (tb ((or_l (p := n2 < (0 : Int)) (q := n2 > (64 : Int)) h3)))) ?_
        refine rp rfl rfl (p_asg rfl rfl) ?_
        refine rs [(0, .i mode0), (1, .y head1), (2, .i n2), (3, .i i3), (4, .y entry4), (5, .p (AV.lists path5)), (22, .b (decide ((n2 < (0 : Int)) ∨ (n2 > (64 : Int)))))] [] rfl rfl rfl ?_
        exact RunW_nil rfl
    · refine AW2_if (p := (n2 < (0 : Int)) ∨ (n2 > (64 : Int))) rfl (fun h4 => ?_) (fun h4 => ?_)
      · replace H := ite_then h4 H
        refine sg [0] rfl ?_
        refine rp rfl rfl (p_asg rfl rfl) ?_
        refine rz [(12, .i (1 : Int))] [] rfl rfl rfl ?_
        refine AW2_ret ?_
        have hz := some_elim H
        subst hz
        exact ⟨⟨res_tmp (.same _), trivial⟩, trivial⟩
      · replace H := ite_else h4 H
        refine AW2_seq ?_
        refine AW2_mid (⟨[(0, .i mode0), (1, .y head1), (2, .i n2), (3, .i i3), (4, .y entry4), (5, .p (AV.lists path5)), (29, .b (decide ((i3 < (0 : Int)) ∨ (i3 ≥ n2))))], [], 112⟩ : TS) ?_ ?_
        · refine AW2_reg [0, 1, 2, 3, 4, 5, 6, 7] rfl ?_
          refine rp rfl rfl (p_move rfl rfl) ?_
          refine rp rfl rfl (p_bin rfl rfl rfl rfl) ?_
          refine rp rfl rfl (p_move rfl rfl) ?_
          refine (Classical.em (i3 < (0 : Int))).elim (fun h5 => ?_) (fun h5 => ?_)
          · refine r_off rfl rfl rfl rfl (decide_eq_true (p := i3 < (0 : Int)) h5) rfl rfl ?_
            refine r_off rfl rfl rfl rfl (decide_eq_true (p := i3 < (0 : Int)) h5) rfl rfl ?_
            refine r_off rfl rfl rfl rfl (decide_eq_true (p := i3 < (0 : Int)) h5) rfl rfl ?_
            refine rp rfl rfl (p_pkt rfl rfl (decide_eq_true (p := i3 < (0 : Int)) h5) (tb (decide_eq_true (p := (i3 < (0 : Int)) ∨ (i3 ≥ n2)) (Or.inl h5)).symm)) ?_
            refine rp rfl rfl (p_asg rfl rfl) ?_
            refine rs [(0, .i mode0), (1, .y head1), (2, .i n2), (3, .i i3), (4, .y entry4), (5, .p (AV.lists path5)), (29, .b (decide ((i3 < (0 : Int)) ∨ (i3 ≥ n2))))] [] rfl rfl rfl ?_
            exact RunW_nil rfl
          · refine r_on rfl rfl rfl rfl (decide_eq_false (p := i3 < (0 : Int)) h5) rfl (PureD.opD (p_move rfl rfl)) ?_
            refine r_on rfl rfl rfl rfl (decide_eq_false (p := i3 < (0 : Int)) h5) rfl (PureD.opD (p_move rfl rfl)) ?_
            refine r_on rfl rfl rfl rfl (decide_eq_false (p := i3 < (0 : Int)) h5) rfl (PureD.opD (p_bin rfl rfl rfl rfl)) ?_
            refine rp rfl rfl (p_pkf rfl rfl (decide_eq_false (p := i3 < (0 : Int)) h5) (tb ((or_l (p := i3 < (0 : Int)) (q := i3 ≥ n2) h5)))) ?_
            refine rp rfl rfl (p_asg rfl rfl) ?_
            refine rs [(0, .i mode0), (1, .y head1), (2, .i n2), (3, .i i3), (4, .y entry4), (5, .p (AV.lists path5)), (29, .b (decide ((i3 < (0 : Int)) ∨ (i3 ≥ n2))))] [] rfl rfl rfl ?_
            exact RunW_nil rfl
        · refine AW2_if (p := (i3 < (0 : Int)) ∨ (i3 ≥ n2)) rfl (fun h6 => ?_) (fun h6 => ?_)
          · replace H := ite_then h6 H
            refine sg [0] rfl ?_
            refine rp rfl rfl (p_asg rfl rfl) ?_
            refine rz [(12, .i (6 : Int))] [] rfl rfl rfl ?_
            refine AW2_ret ?_
            have hz := some_elim H
            subst hz
            exact ⟨⟨res_tmp (.same _), trivial⟩, trivial⟩
          · replace H := ite_else h6 H
            refine as2 [(0, .i mode0), (1, .y head1), (2, .i n2), (3, .i i3), (4, .y entry4), (5, .p (AV.lists path5))] [] rfl rfl rfl ?_
            refine AW2_skip ?_
            refine sg [0, 1, 2, 3, 4, 5, 6, 7, 8] rfl ?_
            refine rp rfl rfl (p_move rfl rfl) ?_
            refine rp rfl rfl (p_move rfl rfl) ?_
            refine r_op rfl rfl (MakeD.opD (u_bs 40 rfl Tryd.underlying53 in_33 rfl one_33 (by decide) (by decide) rfl rfl rfl) rfl rfl rfl rfl) ?_
            refine RunW_st [(0, .i mode0), (1, .y head1), (2, .i n2), (3, .i i3), (4, .y entry4), (5, .p (AV.lists path5)), (38, .i mode0), (39, .y entry4), (40, .c (.own 40 ([entry4] : List (List UInt8)).length 1))] [(40, .pure (([entry4] : List (List UInt8)).map AV.bytes))] rfl ⟨TLes.same _, TLes.same _, TLes.same _, TLes.same _, TLes.same _, TLes.same _, TLes.same _, TLes.same _, TLes.own rfl, trivial⟩ ⟨rfl, trivial⟩ ?_
            refine RunW_gho (Gho_pubs [40] ⟨rfl, trivial⟩ rfl (ml AV.bytes ([entry4] : List (List UInt8))) (by decide)) ?_
            refine bindK H fun r'2 h7 H => ?_
            refine rp rfl rfl (p_callp rfl rfl rfl Tryd.func62 rfl rfl (g_ref_DigestOf_ac h7) ⟨rfl, rfl, rfl, trivial⟩) ?_
            refine rp rfl rfl (p_move rfl rfl) ?_
            refine rp rfl rfl (p_ext rfl rfl rfl rfl) ?_
            refine rp rfl rfl (p_ext rfl rfl rfl rfl) ?_
            refine rp rfl rfl (p_asg rfl rfl) ?_
            refine rp rfl rfl (p_asg rfl rfl) ?_
            refine rz [(0, .i mode0), (1, .y head1), (2, .i n2), (3, .i i3), (5, .p (AV.lists path5)), (13, .y r'2.1), (14, .i r'2.2)] [] rfl rfl rfl ?_
            refine sg [0, 1, 2, 3, 4] rfl ?_
            refine rp rfl rfl (p_move rfl rfl) ?_
            refine rp rfl rfl (p_move rfl rfl) ?_
            refine rp rfl rfl (p_bin rfl rfl rfl rfl) ?_
            refine rp rfl rfl (p_asg rfl rfl) ?_
            refine rp rfl rfl (p_asg rfl rfl) ?_
            refine rz [(0, .i mode0), (1, .y head1), (5, .p (AV.lists path5)), (13, .y r'2.1), (14, .i r'2.2), (15, .i i3), (16, .i (w64 (n2 - (1 : Int))))] [] rfl rfl rfl ?_
            refine AW2_seq ?_
            refine sg [0, 1, 2] rfl ?_
            refine rp rfl rfl (p_move rfl rfl) ?_
            refine rp rfl rfl (p_lenl rfl Tryd.underlying53 rfl rfl) ?_
            refine rp rfl rfl (p_move rfl rfl) ?_
            refine rz [(0, .i mode0), (1, .y head1), (13, .y r'2.1), (14, .i r'2.2), (15, .i i3), (16, .i (w64 (n2 - (1 : Int)))), (47, .p (AV.lists path5)), (48, .i (path5.length : Int)), (49, .i (0 : Int))] [] rfl rfl rfl ?_
            refine AW2_block ?_
            refine as2 [(0, .i mode0), (1, .y head1), (13, .y r'2.1), (14, .i r'2.2), (15, .i i3), (16, .i (w64 (n2 - (1 : Int)))), (47, .p (AV.lists path5)), (48, .i (path5.length : Int)), (49, .i (0 : Int))] [] rfl rfl rfl ?_
            refine bindK H fun o'13 h20 H => ?_
            refine AW2_loopO (fun a'10 : (List UInt8) × Int × Int × Int × Int => (⟨[(0, .i mode0), (1, .y head1), (13, .y a'10.1), (14, .i a'10.2.1), (15, .i a'10.2.2.1), (16, .i a'10.2.2.2.1), (47, .p (AV.lists path5)), (48, .i (path5.length : Int)), (49, .i a'10.2.2.2.2)], [], 112⟩ : TS)) (fun (o : Int ⊕ ((List UInt8) × Int × Int)) e s' => match o with | .inl y'11 => e = Go.Exit.ret ∧ ResAll Tryd.prog s' [ResultVar.tmp 12] [.i y'11] ∧ HFits s' [] | .inr (y'12) => e = Go.Exit.exit 1 ∧ s' = (⟨[(1, .y head1), (13, .y y'12.1), (14, .i y'12.2.1), (16, .i y'12.2.2)], [], 112⟩ : TS)) h20 rfl (fun a x hx => ?_) (fun e s' hs => ?_)
            · clear H
              obtain ⟨d13_0, e14_0, at15_0, last16_0, t49_0⟩ := a
              have H := hx
              clear hx
              unfold g_ref_IncludeFault_l0 at H
              refine sg [0] rfl ?_
              refine rp rfl rfl (p_bin rfl rfl rfl rfl) ?_
              refine rz [(0, .i mode0), (1, .y head1), (13, .y d13_0), (14, .i e14_0), (15, .i at15_0), (16, .i last16_0), (47, .p (AV.lists path5)), (48, .i (path5.length : Int)), (49, .i t49_0), (50, .b (decide (t49_0 < (path5.length : Int))))] [] rfl rfl rfl ?_
              refine AW2_seq ?_
              refine AW2_if (p := t49_0 < (path5.length : Int)) rfl (fun h8 => ?_) (fun h8 => ?_)
              · replace H := ite_then h8 H
                refine as2 [(0, .i mode0), (1, .y head1), (13, .y d13_0), (14, .i e14_0), (15, .i at15_0), (16, .i last16_0), (47, .p (AV.lists path5)), (48, .i (path5.length : Int)), (49, .i t49_0)] [] rfl rfl rfl ?_
                refine AW2_skip ?_
                refine AW2_seq ?_
                refine AW2_block ?_
                refine sg [0, 1, 2] rfl ?_
                refine chkK H fun h9 H => ?_
                refine rp rfl rfl (u_ixl rfl rfl Tryd.underlying53 in_33 rfl rfl (ixe h9) (ixn h9) (lne (ixn h9))) ?_
                refine rp rfl rfl (u_ld rfl rfl Tryd.underlying33 rfl rfl (Sub.map default (ixn h9))) ?_
                refine rp rfl rfl (p_asg rfl rfl) ?_
                refine rz [(0, .i mode0), (1, .y head1), (13, .y d13_0), (14, .i e14_0), (15, .i at15_0), (16, .i last16_0), (18, .y (lrd path5 t49_0.toNat)), (47, .p (AV.lists path5)), (48, .i (path5.length : Int)), (49, .i t49_0)] [] rfl rfl rfl ?_
                refine AW2_seq ?_
                refine AW2_seq ?_
                refine AW2_mid (⟨[(0, .i mode0), (1, .y head1), (13, .y d13_0), (15, .i at15_0), (16, .i last16_0), (18, .y (lrd path5 t49_0.toNat)), (47, .p (AV.lists path5)), (48, .i (path5.length : Int)), (49, .i t49_0), (58, .b (decide ((e14_0 ≠ (0 : Int)) ∨ (last16_0 = (0 : Int)))))], [], 112⟩ : TS) ?_ ?_
                · refine AW2_reg [0, 1, 2, 3, 4, 5] rfl ?_
                  refine rp rfl rfl (p_move rfl rfl) ?_
                  refine rp rfl rfl (p_ine rfl rfl rfl) ?_
                  refine rp rfl rfl (p_move rfl rfl) ?_
                  refine (Classical.em (e14_0 ≠ (0 : Int))).elim (fun h10 => ?_) (fun h10 => ?_)
                  · refine r_off rfl rfl rfl rfl (decide_eq_true (p := e14_0 ≠ (0 : Int)) h10) rfl rfl ?_
                    refine r_off rfl rfl rfl rfl (decide_eq_true (p := e14_0 ≠ (0 : Int)) h10) rfl rfl ?_
                    refine rp rfl rfl (p_pkt rfl rfl (decide_eq_true (p := e14_0 ≠ (0 : Int)) h10) (tb (decide_eq_true (p := (e14_0 ≠ (0 : Int)) ∨ (last16_0 = (0 : Int))) (Or.inl h10)).symm)) ?_
                    refine rs [(0, .i mode0), (1, .y head1), (13, .y d13_0), (15, .i at15_0), (16, .i last16_0), (18, .y (lrd path5 t49_0.toNat)), (47, .p (AV.lists path5)), (48, .i (path5.length : Int)), (49, .i t49_0), (58, .b (decide ((e14_0 ≠ (0 : Int)) ∨ (last16_0 = (0 : Int)))))] [] rfl rfl rfl ?_
                    exact RunW_nil rfl
                  · refine r_on rfl rfl rfl rfl (decide_eq_false (p := e14_0 ≠ (0 : Int)) h10) rfl (PureD.opD (p_move rfl rfl)) ?_
                    refine r_on rfl rfl rfl rfl (decide_eq_false (p := e14_0 ≠ (0 : Int)) h10) rfl (PureD.opD (p_ieq rfl rfl rfl)) ?_
                    refine rp rfl rfl (p_pkf rfl rfl (decide_eq_false (p := e14_0 ≠ (0 : Int)) h10) (tb ((or_l (p := e14_0 ≠ (0 : Int)) (q := last16_0 = (0 : Int)) h10)))) ?_
                    refine rs [(0, .i mode0), (1, .y head1), (13, .y d13_0), (15, .i at15_0), (16, .i last16_0), (18, .y (lrd path5 t49_0.toNat)), (47, .p (AV.lists path5)), (48, .i (path5.length : Int)), (49, .i t49_0), (58, .b (decide ((e14_0 ≠ (0 : Int)) ∨ (last16_0 = (0 : Int)))))] [] rfl rfl rfl ?_
                    exact RunW_nil rfl
                · refine AW2_if (p := (e14_0 ≠ (0 : Int)) ∨ (last16_0 = (0 : Int))) rfl (fun h11 => ?_) (fun h11 => ?_)
                  · replace H := ite_then h11 H
                    refine sg [0] rfl ?_
                    refine rp rfl rfl (p_asg rfl rfl) ?_
                    refine rz [(12, .i (10 : Int))] [] rfl rfl rfl ?_
                    refine AW2_ret ?_
                    have hz := some_elim H
                    subst hz
                    exact ⟨rfl, ⟨res_tmp (.same _), trivial⟩, trivial⟩
                  · replace H := ite_else h11 H
                    refine as2 [(0, .i mode0), (1, .y head1), (13, .y d13_0), (15, .i at15_0), (16, .i last16_0), (18, .y (lrd path5 t49_0.toNat)), (47, .p (AV.lists path5)), (48, .i (path5.length : Int)), (49, .i t49_0)] [] rfl rfl rfl ?_
                    refine AW2_skip ?_
                    refine AW2_seq ?_
                    refine bindK H fun j'3 h12 H => ?_
                    refine AW2_mid (⟨[(0, .i mode0), (1, .y head1), (13, .y j'3.1), (14, .i j'3.2.1), (15, .i j'3.2.2.1), (16, .i j'3.2.2.2), (47, .p (AV.lists path5)), (48, .i (path5.length : Int)), (49, .i t49_0)], [], 112⟩ : TS) ?_ ?_
                    · clear H
                      have H := h12
                      clear h12
                      refine AW2_seq ?_
                      refine AW2_mid (⟨[(0, .i mode0), (1, .y head1), (13, .y d13_0), (15, .i at15_0), (16, .i last16_0), (18, .y (lrd path5 t49_0.toNat)), (47, .p (AV.lists path5)), (48, .i (path5.length : Int)), (49, .i t49_0), (66, .b (decide ((at15_0.tmod (2 : Int) = (1 : Int)) ∨ (at15_0 = last16_0))))], [], 112⟩ : TS) ?_ ?_
                      · refine AW2_reg [0, 1, 2, 3, 4, 5, 6, 7] rfl ?_
                        refine rp rfl rfl (p_move rfl rfl) ?_
                        refine rp rfl rfl (p_irem rfl rfl rfl (by decide)) ?_
                        refine rp rfl rfl (p_ieq rfl rfl rfl) ?_
                        refine rp rfl rfl (p_move rfl rfl) ?_
                        refine (Classical.em (at15_0.tmod (2 : Int) = (1 : Int))).elim (fun h13 => ?_) (fun h13 => ?_)
                        · refine r_off rfl rfl rfl rfl (decide_eq_true (p := at15_0.tmod (2 : Int) = (1 : Int)) h13) rfl rfl ?_
                          refine r_off rfl rfl rfl rfl (decide_eq_true (p := at15_0.tmod (2 : Int) = (1 : Int)) h13) rfl rfl ?_
                          refine r_off rfl rfl rfl rfl (decide_eq_true (p := at15_0.tmod (2 : Int) = (1 : Int)) h13) rfl rfl ?_
                          refine rp rfl rfl (p_pkt rfl rfl (decide_eq_true (p := at15_0.tmod (2 : Int) = (1 : Int)) h13) (tb (decide_eq_true (p := (at15_0.tmod (2 : Int) = (1 : Int)) ∨ (at15_0 = last16_0)) (Or.inl h13)).symm)) ?_
                          refine rs [(0, .i mode0), (1, .y head1), (13, .y d13_0), (15, .i at15_0), (16, .i last16_0), (18, .y (lrd path5 t49_0.toNat)), (47, .p (AV.lists path5)), (48, .i (path5.length : Int)), (49, .i t49_0), (66, .b (decide ((at15_0.tmod (2 : Int) = (1 : Int)) ∨ (at15_0 = last16_0))))] [] rfl rfl rfl ?_
                          exact RunW_nil rfl
                        · refine r_on rfl rfl rfl rfl (decide_eq_false (p := at15_0.tmod (2 : Int) = (1 : Int)) h13) rfl (PureD.opD (p_move rfl rfl)) ?_
                          refine r_on rfl rfl rfl rfl (decide_eq_false (p := at15_0.tmod (2 : Int) = (1 : Int)) h13) rfl (PureD.opD (p_move rfl rfl)) ?_
                          refine r_on rfl rfl rfl rfl (decide_eq_false (p := at15_0.tmod (2 : Int) = (1 : Int)) h13) rfl (PureD.opD (p_ieq rfl rfl rfl)) ?_
                          refine rp rfl rfl (p_pkf rfl rfl (decide_eq_false (p := at15_0.tmod (2 : Int) = (1 : Int)) h13) (tb ((or_l (p := at15_0.tmod (2 : Int) = (1 : Int)) (q := at15_0 = last16_0) h13)))) ?_
                          refine rs [(0, .i mode0), (1, .y head1), (13, .y d13_0), (15, .i at15_0), (16, .i last16_0), (18, .y (lrd path5 t49_0.toNat)), (47, .p (AV.lists path5)), (48, .i (path5.length : Int)), (49, .i t49_0), (66, .b (decide ((at15_0.tmod (2 : Int) = (1 : Int)) ∨ (at15_0 = last16_0))))] [] rfl rfl rfl ?_
                          exact RunW_nil rfl
                      · refine AW2_if (p := (at15_0.tmod (2 : Int) = (1 : Int)) ∨ (at15_0 = last16_0)) rfl (fun h14 => ?_) (fun h14 => ?_)
                        · replace H := ite_then h14 H
                          refine sg [0, 1, 2, 3, 4, 5, 6, 7, 8, 9] rfl ?_
                          refine rp rfl rfl (p_move rfl rfl) ?_
                          refine rp rfl rfl (p_move rfl rfl) ?_
                          refine rp rfl rfl (p_move rfl rfl) ?_
                          refine r_op rfl rfl (MakeD.opD (u_bs 71 rfl Tryd.underlying53 in_33 rfl one_33 (by decide) (by decide) rfl rfl rfl) rfl rfl rfl rfl) ?_
                          refine RunW_st [(0, .i mode0), (1, .y head1), (13, .y d13_0), (15, .i at15_0), (16, .i last16_0), (18, .y (lrd path5 t49_0.toNat)), (47, .p (AV.lists path5)), (48, .i (path5.length : Int)), (49, .i t49_0), (66, .b (decide ((at15_0.tmod (2 : Int) = (1 : Int)) ∨ (at15_0 = last16_0)))), (68, .i mode0), (69, .y (lrd path5 t49_0.toNat)), (70, .y d13_0), (71, .c (.own 71 ([(lrd path5 t49_0.toNat), d13_0] : List (List UInt8)).length 1))] [(71, .pure (([(lrd path5 t49_0.toNat), d13_0] : List (List UInt8)).map AV.bytes))] rfl ⟨TLes.same _, TLes.same _, TLes.same _, TLes.same _, TLes.same _, TLes.same _, TLes.same _, TLes.same _, TLes.same _, TLes.same _, TLes.same _, TLes.same _, TLes.same _, TLes.own rfl, trivial⟩ ⟨rfl, trivial⟩ ?_
                          refine RunW_gho (Gho_pubs [71] ⟨rfl, trivial⟩ rfl (ml AV.bytes ([(lrd path5 t49_0.toNat), d13_0] : List (List UInt8))) (by decide)) ?_
                          refine bindK H fun r'4 h15 H => ?_
                          refine rp rfl rfl (p_callp rfl rfl rfl Tryd.func62 rfl rfl (g_ref_DigestOf_ac h15) ⟨rfl, rfl, rfl, trivial⟩) ?_
                          refine rp rfl rfl (p_move rfl rfl) ?_
                          refine rp rfl rfl (p_ext rfl rfl rfl rfl) ?_
                          refine rp rfl rfl (p_ext rfl rfl rfl rfl) ?_
                          refine rp rfl rfl (p_asg rfl rfl) ?_
                          refine rp rfl rfl (p_asg rfl rfl) ?_
                          refine rz [(0, .i mode0), (1, .y head1), (13, .y r'4.1), (14, .i r'4.2), (15, .i at15_0), (16, .i last16_0), (47, .p (AV.lists path5)), (48, .i (path5.length : Int)), (49, .i t49_0)] [] rfl rfl rfl ?_
                          refine AW2_block ?_
                          refine as2 [(0, .i mode0), (1, .y head1), (13, .y r'4.1), (14, .i r'4.2), (15, .i at15_0), (16, .i last16_0), (47, .p (AV.lists path5)), (48, .i (path5.length : Int)), (49, .i t49_0)] [] rfl rfl rfl ?_
                          refine bindK H fun y'8 h18 H => ?_
                          refine AW2_loopO (fun a'5 : Int × Int => (⟨[(0, .i mode0), (1, .y head1), (13, .y r'4.1), (14, .i r'4.2), (15, .i a'5.1), (16, .i a'5.2), (47, .p (AV.lists path5)), (48, .i (path5.length : Int)), (49, .i t49_0)], [], 112⟩ : TS)) (fun (y'6 : (Int × Int)) e s' => e = Go.Exit.exit 3 ∧ s' = (⟨[(0, .i mode0), (1, .y head1), (13, .y r'4.1), (14, .i r'4.2), (15, .i y'6.1), (16, .i y'6.2), (47, .p (AV.lists path5)), (48, .i (path5.length : Int)), (49, .i t49_0)], [], 112⟩ : TS)) h18 rfl (fun a x hx => ?_) (fun e s' hs => ?_)
                          · clear H
                            obtain ⟨at15_1, last16_1⟩ := a
                            have H := hx
                            clear hx
                            unfold g_ref_IncludeFault_l1 at H
                            refine AW2_seq ?_
                            refine AW2_seq ?_
                            refine AW2_mid (⟨[(0, .i mode0), (1, .y head1), (13, .y r'4.1), (14, .i r'4.2), (15, .i at15_1), (16, .i last16_1), (47, .p (AV.lists path5)), (48, .i (path5.length : Int)), (49, .i t49_0), (81, .b (decide ((at15_1.tmod (2 : Int) = (0 : Int)) ∧ (at15_1 > (0 : Int)))))], [], 112⟩ : TS) ?_ ?_
                            · refine AW2_reg [0, 1, 2, 3, 4, 5, 6] rfl ?_
                              refine rp rfl rfl (p_move rfl rfl) ?_
                              refine rp rfl rfl (p_irem rfl rfl rfl (by decide)) ?_
                              refine rp rfl rfl (p_ieq rfl rfl rfl) ?_
                              refine rp rfl rfl (p_move rfl rfl) ?_
                              refine (Classical.em (at15_1.tmod (2 : Int) = (0 : Int))).elim (fun h16 => ?_) (fun h16 => ?_)
                              · refine r_on rfl rfl rfl rfl (decide_eq_true (p := at15_1.tmod (2 : Int) = (0 : Int)) h16) rfl (PureD.opD (p_move rfl rfl)) ?_
                                refine r_on rfl rfl rfl rfl (decide_eq_true (p := at15_1.tmod (2 : Int) = (0 : Int)) h16) rfl (PureD.opD (p_bin rfl rfl rfl rfl)) ?_
                                refine rp rfl rfl (p_pkt rfl rfl (decide_eq_true (p := at15_1.tmod (2 : Int) = (0 : Int)) h16) (tb ((and_l (p := at15_1.tmod (2 : Int) = (0 : Int)) (q := at15_1 > (0 : Int)) h16)))) ?_
                                refine rs [(0, .i mode0), (1, .y head1), (13, .y r'4.1), (14, .i r'4.2), (15, .i at15_1), (16, .i last16_1), (47, .p (AV.lists path5)), (48, .i (path5.length : Int)), (49, .i t49_0), (81, .b (decide ((at15_1.tmod (2 : Int) = (0 : Int)) ∧ (at15_1 > (0 : Int)))))] [] rfl rfl rfl ?_
                                exact RunW_nil rfl
                              · refine r_off rfl rfl rfl rfl (decide_eq_false (p := at15_1.tmod (2 : Int) = (0 : Int)) h16) rfl rfl ?_
                                refine r_off rfl rfl rfl rfl (decide_eq_false (p := at15_1.tmod (2 : Int) = (0 : Int)) h16) rfl rfl ?_
                                refine rp rfl rfl (p_pkf rfl rfl (decide_eq_false (p := at15_1.tmod (2 : Int) = (0 : Int)) h16) (tb (decide_eq_false (p := (at15_1.tmod (2 : Int) = (0 : Int)) ∧ (at15_1 > (0 : Int))) (fun x => h16 x.1)).symm)) ?_
                                refine rs [(0, .i mode0), (1, .y head1), (13, .y r'4.1), (14, .i r'4.2), (15, .i at15_1), (16, .i last16_1), (47, .p (AV.lists path5)), (48, .i (path5.length : Int)), (49, .i t49_0), (81, .b (decide ((at15_1.tmod (2 : Int) = (0 : Int)) ∧ (at15_1 > (0 : Int)))))] [] rfl rfl rfl ?_
                                exact RunW_nil rfl
                            · refine AW2_if (p := (at15_1.tmod (2 : Int) = (0 : Int)) ∧ (at15_1 > (0 : Int))) rfl (fun h17 => ?_) (fun h17 => ?_)
                              · replace H := ite_then h17 H
                                refine as2 [(0, .i mode0), (1, .y head1), (13, .y r'4.1), (14, .i r'4.2), (15, .i at15_1), (16, .i last16_1), (47, .p (AV.lists path5)), (48, .i (path5.length : Int)), (49, .i t49_0)] [] rfl rfl rfl ?_
                                refine AW2_skip ?_
                                refine AW2_block ?_
                                refine AW2_reg [0, 1, 2, 3, 4, 5] rfl ?_
                                refine rp rfl rfl (p_move rfl rfl) ?_
                                refine rp rfl rfl (p_iquo rfl rfl rfl (by decide)) ?_
                                refine rp rfl rfl (p_move rfl rfl) ?_
                                refine rp rfl rfl (p_iquo rfl rfl rfl (by decide)) ?_
                                refine rp rfl rfl (p_asg rfl rfl) ?_
                                refine rp rfl rfl (p_asg rfl rfl) ?_
                                refine rz [(0, .i mode0), (1, .y head1), (13, .y r'4.1), (14, .i r'4.2), (15, .i (w64 (at15_1.tdiv (2 : Int)))), (16, .i (w64 (last16_1.tdiv (2 : Int)))), (47, .p (AV.lists path5)), (48, .i (path5.length : Int)), (49, .i t49_0)] [] rfl rfl rfl ?_
                                have hz := some_elim H
                                subst hz
                                exact ⟨rfl, rfl⟩
                              · replace H := ite_else h17 H
                                refine as2 [(0, .i mode0), (1, .y head1), (13, .y r'4.1), (14, .i r'4.2), (15, .i at15_1), (16, .i last16_1), (47, .p (AV.lists path5)), (48, .i (path5.length : Int)), (49, .i t49_0)] [] rfl rfl rfl ?_
                                refine AW2_exit ?_
                                refine thenQ2_exit ?_
                                have hz := some_elim H
                                subst hz
                                exact ⟨rfl, rfl⟩
                          · obtain ⟨rfl, rfl⟩ := hs
                            refine ⟨by simp, ?_⟩
                            refine blockQ2_exit ?_
                            have hz := some_elim H
                            subst hz
                            exact rfl
                        · replace H := ite_else h14 H
                          refine AW2_reg [0, 1, 2, 3, 4, 5, 6, 7, 8, 9] rfl ?_
                          refine rp rfl rfl (p_move rfl rfl) ?_
                          refine rp rfl rfl (p_move rfl rfl) ?_
                          refine rp rfl rfl (p_move rfl rfl) ?_
                          refine r_op rfl rfl (MakeD.opD (u_bs 90 rfl Tryd.underlying53 in_33 rfl one_33 (by decide) (by decide) rfl rfl rfl) rfl rfl rfl rfl) ?_
                          refine RunW_st [(0, .i mode0), (1, .y head1), (13, .y d13_0), (15, .i at15_0), (16, .i last16_0), (18, .y (lrd path5 t49_0.toNat)), (47, .p (AV.lists path5)), (48, .i (path5.length : Int)), (49, .i t49_0), (66, .b (decide ((at15_0.tmod (2 : Int) = (1 : Int)) ∨ (at15_0 = last16_0)))), (87, .i mode0), (88, .y d13_0), (89, .y (lrd path5 t49_0.toNat)), (90, .c (.own 90 ([d13_0, (lrd path5 t49_0.toNat)] : List (List UInt8)).length 1))] [(90, .pure (([d13_0, (lrd path5 t49_0.toNat)] : List (List UInt8)).map AV.bytes))] rfl ⟨TLes.same _, TLes.same _, TLes.same _, TLes.same _, TLes.same _, TLes.same _, TLes.same _, TLes.same _, TLes.same _, TLes.same _, TLes.same _, TLes.same _, TLes.same _, TLes.own rfl, trivial⟩ ⟨rfl, trivial⟩ ?_
                          refine RunW_gho (Gho_pubs [90] ⟨rfl, trivial⟩ rfl (ml AV.bytes ([d13_0, (lrd path5 t49_0.toNat)] : List (List UInt8))) (by decide)) ?_
                          refine bindK H fun r'9 h19 H => ?_
                          refine rp rfl rfl (p_callp rfl rfl rfl Tryd.func62 rfl rfl (g_ref_DigestOf_ac h19) ⟨rfl, rfl, rfl, trivial⟩) ?_
                          refine rp rfl rfl (p_move rfl rfl) ?_
                          refine rp rfl rfl (p_ext rfl rfl rfl rfl) ?_
                          refine rp rfl rfl (p_ext rfl rfl rfl rfl) ?_
                          refine rp rfl rfl (p_asg rfl rfl) ?_
                          refine rp rfl rfl (p_asg rfl rfl) ?_
                          refine rz [(0, .i mode0), (1, .y head1), (13, .y r'9.1), (14, .i r'9.2), (15, .i at15_0), (16, .i last16_0), (47, .p (AV.lists path5)), (48, .i (path5.length : Int)), (49, .i t49_0)] [] rfl rfl rfl ?_
                          have hz := some_elim H
                          subst hz
                          exact rfl
                    · refine AW2_reg [0, 1, 2, 3, 4, 5] rfl ?_
                      refine rp rfl rfl (p_move rfl rfl) ?_
                      refine rp rfl rfl (p_iquo rfl rfl rfl (by decide)) ?_
                      refine rp rfl rfl (p_move rfl rfl) ?_
                      refine rp rfl rfl (p_iquo rfl rfl rfl (by decide)) ?_
                      refine rp rfl rfl (p_asg rfl rfl) ?_
                      refine rp rfl rfl (p_asg rfl rfl) ?_
                      refine rz [(0, .i mode0), (1, .y head1), (13, .y j'3.1), (14, .i j'3.2.1), (15, .i (w64 (j'3.2.2.1.tdiv (2 : Int)))), (16, .i (w64 (j'3.2.2.2.tdiv (2 : Int)))), (47, .p (AV.lists path5)), (48, .i (path5.length : Int)), (49, .i t49_0)] [] rfl rfl rfl ?_
                      refine AW2_reg [0, 1] rfl ?_
                      refine rp rfl rfl (p_bin rfl rfl rfl rfl) ?_
                      refine rp rfl rfl (p_move rfl rfl) ?_
                      refine rz [(0, .i mode0), (1, .y head1), (13, .y j'3.1), (14, .i j'3.2.1), (15, .i (w64 (j'3.2.2.1.tdiv (2 : Int)))), (16, .i (w64 (j'3.2.2.2.tdiv (2 : Int)))), (47, .p (AV.lists path5)), (48, .i (path5.length : Int)), (49, .i (w64 (t49_0 + (1 : Int))))] [] rfl rfl rfl ?_
                      have hz := some_elim H
                      subst hz
                      exact ⟨rfl, rfl⟩
              · replace H := ite_else h8 H
                refine as2 [(1, .y head1), (13, .y d13_0), (14, .i e14_0), (16, .i last16_0)] [] rfl rfl rfl ?_
                refine AW2_exit ?_
                refine thenQ2_exit ?_
                have hz := some_elim H
                subst hz
                exact ⟨rfl, rfl⟩
            · rcases o'13 with y'14 | y'15
              · obtain ⟨rfl, hs⟩ := hs
                refine ⟨by simp, ?_⟩
                have hz := some_elim H
                subst hz
                exact ⟨hs.1, hs.2⟩
              · obtain ⟨rfl, rfl⟩ := hs
                refine ⟨by simp, ?_⟩
                refine blockQ2_exit ?_
                refine AW2_seq ?_
                refine AW2_seq ?_
                refine AW2_mid (⟨[(111, .b (decide (((y'15.2.1 ≠ (0 : Int)) ∨ (y'15.2.2 ≠ (0 : Int))) ∨ (y'15.1 ≠ head1))))], [], 112⟩ : TS) ?_ ?_
                · refine AW2_reg [0, 1, 2, 3, 4, 5, 6, 7, 8, 9, 10, 11, 12] rfl ?_
                  refine rp rfl rfl (p_move rfl rfl) ?_
                  refine rp rfl rfl (p_ine rfl rfl rfl) ?_
                  refine rp rfl rfl (p_move rfl rfl) ?_
                  refine (Classical.em (y'15.2.1 ≠ (0 : Int))).elim (fun h21 => ?_) (fun h21 => ?_)
                  · refine r_off rfl rfl rfl rfl (decide_eq_true (p := y'15.2.1 ≠ (0 : Int)) h21) rfl rfl ?_
                    refine r_off rfl rfl rfl rfl (decide_eq_true (p := y'15.2.1 ≠ (0 : Int)) h21) rfl rfl ?_
                    refine rp rfl rfl (p_pkt rfl rfl (decide_eq_true (p := y'15.2.1 ≠ (0 : Int)) h21) (tb (decide_eq_true (p := (y'15.2.1 ≠ (0 : Int)) ∨ (y'15.2.2 ≠ (0 : Int))) (Or.inl h21)).symm)) ?_
                    refine rp rfl rfl (p_move rfl rfl) ?_
                    refine r_off rfl rfl rfl rfl (decide_eq_true (p := (y'15.2.1 ≠ (0 : Int)) ∨ (y'15.2.2 ≠ (0 : Int))) (Or.inl h21)) rfl rfl ?_
                    refine r_off rfl rfl rfl rfl (decide_eq_true (p := (y'15.2.1 ≠ (0 : Int)) ∨ (y'15.2.2 ≠ (0 : Int))) (Or.inl h21)) rfl rfl ?_
                    refine r_off rfl rfl rfl rfl (decide_eq_true (p := (y'15.2.1 ≠ (0 : Int)) ∨ (y'15.2.2 ≠ (0 : Int))) (Or.inl h21)) rfl rfl ?_
                    refine r_off rfl rfl rfl rfl (decide_eq_true (p := (y'15.2.1 ≠ (0 : Int)) ∨ (y'15.2.2 ≠ (0 : Int))) (Or.inl h21)) rfl rfl ?_
                    refine r_off rfl rfl rfl rfl (decide_eq_true (p := (y'15.2.1 ≠ (0 : Int)) ∨ (y'15.2.2 ≠ (0 : Int))) (Or.inl h21)) rfl rfl ?_
                    refine rp rfl rfl (p_pkt rfl rfl (decide_eq_true (p := (y'15.2.1 ≠ (0 : Int)) ∨ (y'15.2.2 ≠ (0 : Int))) (Or.inl h21)) (tb (decide_eq_true (p := ((y'15.2.1 ≠ (0 : Int)) ∨ (y'15.2.2 ≠ (0 : Int))) ∨ (y'15.1 ≠ head1)) (Or.inl (Or.inl h21))).symm)) ?_
                    refine rs [(111, .b (decide (((y'15.2.1 ≠ (0 : Int)) ∨ (y'15.2.2 ≠ (0 : Int))) ∨ (y'15.1 ≠ head1))))] [] rfl rfl rfl ?_
                    exact RunW_nil rfl
                  · refine r_on rfl rfl rfl rfl (decide_eq_false (p := y'15.2.1 ≠ (0 : Int)) h21) rfl (PureD.opD (p_move rfl rfl)) ?_
                    refine r_on rfl rfl rfl rfl (decide_eq_false (p := y'15.2.1 ≠ (0 : Int)) h21) rfl (PureD.opD (p_ine rfl rfl rfl)) ?_
                    refine rp rfl rfl (p_pkf rfl rfl (decide_eq_false (p := y'15.2.1 ≠ (0 : Int)) h21) (tb ((or_l (p := y'15.2.1 ≠ (0 : Int)) (q := y'15.2.2 ≠ (0 : Int)) h21)))) ?_
                    refine rp rfl rfl (p_move rfl rfl) ?_
                    refine (Classical.em (y'15.2.2 ≠ (0 : Int))).elim (fun h22 => ?_) (fun h22 => ?_)
                    · refine r_off rfl rfl rfl rfl (decide_eq_true (p := (y'15.2.1 ≠ (0 : Int)) ∨ (y'15.2.2 ≠ (0 : Int))) (Or.inr h22)) rfl rfl ?_
                      refine r_off rfl rfl rfl rfl (decide_eq_true (p := (y'15.2.1 ≠ (0 : Int)) ∨ (y'15.2.2 ≠ (0 : Int))) (Or.inr h22)) rfl rfl ?_
                      refine r_off rfl rfl rfl rfl (decide_eq_true (p := (y'15.2.1 ≠ (0 : Int)) ∨ (y'15.2.2 ≠ (0 : Int))) (Or.inr h22)) rfl rfl ?_
                      refine r_off rfl rfl rfl rfl (decide_eq_true (p := (y'15.2.1 ≠ (0 : Int)) ∨ (y'15.2.2 ≠ (0 : Int))) (Or.inr h22)) rfl rfl ?_
                      refine r_off rfl rfl rfl rfl (decide_eq_true (p := (y'15.2.1 ≠ (0 : Int)) ∨ (y'15.2.2 ≠ (0 : Int))) (Or.inr h22)) rfl rfl ?_
                      refine rp rfl rfl (p_pkt rfl rfl (decide_eq_true (p := (y'15.2.1 ≠ (0 : Int)) ∨ (y'15.2.2 ≠ (0 : Int))) (Or.inr h22)) (tb (decide_eq_true (p := ((y'15.2.1 ≠ (0 : Int)) ∨ (y'15.2.2 ≠ (0 : Int))) ∨ (y'15.1 ≠ head1)) (Or.inl (Or.inr h22))).symm)) ?_
                      refine rs [(111, .b (decide (((y'15.2.1 ≠ (0 : Int)) ∨ (y'15.2.2 ≠ (0 : Int))) ∨ (y'15.1 ≠ head1))))] [] rfl rfl rfl ?_
                      exact RunW_nil rfl
                    · refine r_on rfl rfl rfl rfl (decide_eq_false (p := (y'15.2.1 ≠ (0 : Int)) ∨ (y'15.2.2 ≠ (0 : Int))) (not_or.2 ⟨h21, h22⟩)) rfl (PureD.opD (p_move rfl rfl)) ?_
                      refine r_on rfl rfl rfl rfl (decide_eq_false (p := (y'15.2.1 ≠ (0 : Int)) ∨ (y'15.2.2 ≠ (0 : Int))) (not_or.2 ⟨h21, h22⟩)) rfl (PureD.opD (p_cb rfl rfl Tryd.underlying33 Tryd.underlying5 Tryd.underlying9 rfl)) ?_
                      refine r_on rfl rfl rfl rfl (decide_eq_false (p := (y'15.2.1 ≠ (0 : Int)) ∨ (y'15.2.2 ≠ (0 : Int))) (not_or.2 ⟨h21, h22⟩)) rfl (PureD.opD (p_move rfl rfl)) ?_
                      refine r_on rfl rfl rfl rfl (decide_eq_false (p := (y'15.2.1 ≠ (0 : Int)) ∨ (y'15.2.2 ≠ (0 : Int))) (not_or.2 ⟨h21, h22⟩)) rfl (PureD.opD (p_cb rfl rfl Tryd.underlying33 Tryd.underlying5 Tryd.underlying9 rfl)) ?_
                      refine r_on rfl rfl rfl rfl (decide_eq_false (p := (y'15.2.1 ≠ (0 : Int)) ∨ (y'15.2.2 ≠ (0 : Int))) (not_or.2 ⟨h21, h22⟩)) rfl (PureD.opD (p_sne rfl rfl rfl)) ?_
                      refine rp rfl rfl (p_pkf rfl rfl (decide_eq_false (p := (y'15.2.1 ≠ (0 : Int)) ∨ (y'15.2.2 ≠ (0 : Int))) (not_or.2 ⟨h21, h22⟩)) (tb ((or_l (p := (y'15.2.1 ≠ (0 : Int)) ∨ (y'15.2.2 ≠ (0 : Int))) (q := y'15.1 ≠ head1) (not_or.2 ⟨h21, h22⟩))))) ?_
                      refine rs [(111, .b (decide (((y'15.2.1 ≠ (0 : Int)) ∨ (y'15.2.2 ≠ (0 : Int))) ∨ (y'15.1 ≠ head1))))] [] rfl rfl rfl ?_
                      exact RunW_nil rfl
                · refine AW2_if (p := ((y'15.2.1 ≠ (0 : Int)) ∨ (y'15.2.2 ≠ (0 : Int))) ∨ (y'15.1 ≠ head1)) rfl (fun h23 => ?_) (fun h23 => ?_)
                  · replace H := ite_then h23 H
                    refine sg [0] rfl ?_
                    refine rp rfl rfl (p_asg rfl rfl) ?_
                    refine rz [(12, .i (10 : Int))] [] rfl rfl rfl ?_
                    refine AW2_ret ?_
                    have hz := some_elim H
                    subst hz
                    exact ⟨⟨res_tmp (.same _), trivial⟩, trivial⟩
                  · replace H := ite_else h23 H
                    refine as2 [] [] rfl rfl rfl ?_
                    refine AW2_skip ?_
                    refine sg [0] rfl ?_
                    refine rp rfl rfl (p_asg rfl rfl) ?_
                    refine rz [(12, .i (0 : Int))] [] rfl rfl rfl ?_
                    refine AW2_ret ?_
                    have hz := some_elim H
                    subst hz
                    exact ⟨⟨res_tmp (.same _), trivial⟩, trivial⟩

/-! chirographref.ReceiptFault -/
noncomputable def g_ref_ReceiptFault (mode0 : Int) (head1 : List UInt8) (n2 : Int) (i3 : Int) (state4 : List UInt8) (s5 : GSlot) (path6 : List (List UInt8)) : Option (Int) :=
  (g_ref_EntryOf mode0 state4 s5).bind fun r'1 => (if r'1.2 ≠ (0 : Int) then some r'1.2 else (g_ref_IncludeFault mode0 head1 n2 i3 r'1.1 path6).bind fun r'2 => some r'2)
set_option maxHeartbeats 4000000 in
set_option maxRecDepth 100000 in
theorem g_ref_ReceiptFault_ac {mode0 : Int} {head1 : List UInt8} {n2 : Int} {i3 : Int} {state4 : List UInt8} {s5 : GSlot} {path6 : List (List UInt8)} {r : Int} (H : g_ref_ReceiptFault mode0 head1 n2 i3 state4 s5 path6 = some r) : ACp Tryd.prog 33 [(AV.int mode0), (AV.bytes head1), (AV.int n2), (AV.int i3), (AV.bytes state4), (.agg (GSlot.cs s5)), (AV.lists path6)] (AV.int r) := by
  refine ACp_of (AC2_of_body (vs := [.i r]) Tryd.func33 rfl rfl (Nat.le_of_ble_eq_true rfl) rfl ?_) (fun _ => .same _)
  unfold g_ref_ReceiptFault at H
  refine as2 [(0, .i mode0), (1, .y head1), (2, .i n2), (3, .i i3), (4, .y state4), (5, .g (GSlot.cs s5)), (6, .p (AV.lists path6))] [] rfl rfl rfl ?_
  refine sg [0, 1] rfl ?_
  refine r_op rfl rfl (MakeD.opD (n_box 12 rfl rfl) rfl rfl rfl rfl) ?_
  refine rp rfl rfl (p_asg rfl rfl) ?_
  refine rz [(0, .i mode0), (1, .y head1), (2, .i n2), (3, .i i3), (4, .y state4), (6, .p (AV.lists path6)), (12, .q 12 (0))] [(12, .pure (GSlot.cs s5))] rfl rfl rfl ?_
  refine sg [0, 1, 2, 3, 4, 5, 6, 7, 8] rfl ?_
  refine rp rfl rfl (p_move rfl rfl) ?_
  refine rp rfl rfl (p_move rfl rfl) ?_
  refine rp rfl rfl (u_lda rfl rfl Tryd.underlying52 rfl in_52 rfl (Nat.succ_pos _) (Sub.refl _) (GSlot.len s5)) ?_
  refine bindK H fun r'1 h1 H => ?_
  refine rp rfl rfl (p_callp rfl rfl rfl Tryd.func37 rfl rfl (g_ref_EntryOf_ac h1) ⟨rfl, rfl, rfl, trivial⟩) ?_
  refine rp rfl rfl (p_move rfl rfl) ?_
  refine rp rfl rfl (p_ext rfl rfl rfl rfl) ?_
  refine rp rfl rfl (p_ext rfl rfl rfl rfl) ?_
  refine rp rfl rfl (p_asg rfl rfl) ?_
  refine rp rfl rfl (p_asg rfl rfl) ?_
  refine rz [(0, .i mode0), (1, .y head1), (2, .i n2), (3, .i i3), (6, .p (AV.lists path6)), (15, .y r'1.1), (16, .i r'1.2)] [] rfl rfl rfl ?_
  refine AW2_seq ?_
  refine sg [0, 1] rfl ?_
  refine rp rfl rfl (p_move rfl rfl) ?_
  refine rp rfl rfl (p_ine rfl rfl rfl) ?_
  refine rz [(0, .i mode0), (1, .y head1), (2, .i n2), (3, .i i3), (6, .p (AV.lists path6)), (15, .y r'1.1), (16, .i r'1.2), (25, .b (decide (r'1.2 ≠ (0 : Int))))] [] rfl rfl rfl ?_
  refine AW2_if (p := r'1.2 ≠ (0 : Int)) rfl (fun h2 => ?_) (fun h2 => ?_)
  · replace H := ite_then h2 H
    refine sg [0, 1] rfl ?_
    refine rp rfl rfl (p_move rfl rfl) ?_
    refine rp rfl rfl (p_asg rfl rfl) ?_
    refine rz [(14, .i r'1.2)] [] rfl rfl rfl ?_
    refine AW2_ret ?_
    have hz := some_elim H
    subst hz
    exact ⟨⟨res_tmp (.same _), trivial⟩, trivial⟩
  · replace H := ite_else h2 H
    refine as2 [(0, .i mode0), (1, .y head1), (2, .i n2), (3, .i i3), (6, .p (AV.lists path6)), (15, .y r'1.1)] [] rfl rfl rfl ?_
    refine AW2_skip ?_
    refine sg [0, 1, 2, 3, 4, 5, 6, 7] rfl ?_
    refine rp rfl rfl (p_move rfl rfl) ?_
    refine rp rfl rfl (p_move rfl rfl) ?_
    refine rp rfl rfl (p_move rfl rfl) ?_
    refine rp rfl rfl (p_move rfl rfl) ?_
    refine rp rfl rfl (p_move rfl rfl) ?_
    refine rp rfl rfl (p_move rfl rfl) ?_
    refine bindK H fun r'2 h3 H => ?_
    refine rp rfl rfl (p_callp rfl rfl rfl Tryd.func60 rfl rfl (g_ref_IncludeFault_ac h3) ⟨rfl, rfl, rfl, rfl, rfl, rfl, trivial⟩) ?_
    refine rp rfl rfl (p_asg rfl rfl) ?_
    refine rz [(14, .i r'2)] [] rfl rfl rfl ?_
    refine AW2_ret ?_
    have hz := some_elim H
    subst hz
    exact ⟨⟨res_tmp (.same _), trivial⟩, trivial⟩

/-! chirographlaw.AuditReceipts -/
noncomputable def g_law_AuditReceipts (mode0 : Int) (head1 : List UInt8) (n2 : Int) (i3 : Int) (state4 : List UInt8) (s5 : GSlot) (path6 : List (List UInt8)) : Option (Bool) :=
  (g_audit_Receipt mode0 head1 n2 i3 state4 s5 path6).bind fun r'1 => (g_ref_ReceiptFault mode0 head1 n2 i3 state4 s5 path6).bind fun r'2 => some (decide (r'1 = r'2))
set_option maxHeartbeats 4000000 in
set_option maxRecDepth 100000 in
theorem g_law_AuditReceipts_ac {mode0 : Int} {head1 : List UInt8} {n2 : Int} {i3 : Int} {state4 : List UInt8} {s5 : GSlot} {path6 : List (List UInt8)} {r : Bool} (H : g_law_AuditReceipts mode0 head1 n2 i3 state4 s5 path6 = some r) : ACp Tryd.prog 11 [(AV.int mode0), (AV.bytes head1), (AV.int n2), (AV.int i3), (AV.bytes state4), (.agg (GSlot.cs s5)), (AV.lists path6)] (AV.bool r) := by
  refine ACp_of (AC2_of_body (vs := [.b r]) Tryd.func11 rfl rfl (Nat.le_of_ble_eq_true rfl) rfl ?_) (fun _ => .same _)
  unfold g_law_AuditReceipts at H
  refine as2 [(0, .i mode0), (1, .y head1), (2, .i n2), (3, .i i3), (4, .y state4), (5, .g (GSlot.cs s5)), (6, .p (AV.lists path6))] [] rfl rfl rfl ?_
  refine sg [0, 1] rfl ?_
  refine r_op rfl rfl (MakeD.opD (n_box 12 rfl rfl) rfl rfl rfl rfl) ?_
  refine rp rfl rfl (p_asg rfl rfl) ?_
  refine rz [(0, .i mode0), (1, .y head1), (2, .i n2), (3, .i i3), (4, .y state4), (6, .p (AV.lists path6)), (12, .q 12 (0))] [(12, .pure (GSlot.cs s5))] rfl rfl rfl ?_
  refine sg [0, 1, 2, 3, 4, 5, 6, 7, 8] rfl ?_
  refine rp rfl rfl (p_move rfl rfl) ?_
  refine rp rfl rfl (p_move rfl rfl) ?_
  refine rp rfl rfl (p_move rfl rfl) ?_
  refine rp rfl rfl (p_move rfl rfl) ?_
  refine rp rfl rfl (p_move rfl rfl) ?_
  refine rp rfl rfl (u_lda rfl rfl Tryd.underlying52 rfl in_52 rfl (Nat.succ_pos _) (Sub.refl _) (GSlot.len s5)) ?_
  refine rp rfl rfl (p_move rfl rfl) ?_
  refine bindK H fun r'1 h1 H => ?_
  refine rp rfl rfl (p_callp rfl rfl rfl Tryd.func32 rfl rfl (g_audit_Receipt_ac h1) ⟨rfl, rfl, rfl, rfl, rfl, rfl, rfl, trivial⟩) ?_
  refine rp rfl rfl (p_asg rfl rfl) ?_
  refine rz [(0, .i mode0), (1, .y head1), (2, .i n2), (3, .i i3), (4, .y state4), (6, .p (AV.lists path6)), (12, .q 12 (0)), (15, .i r'1)] [(12, .pure (GSlot.cs s5))] rfl rfl rfl ?_
  refine sg [0, 1, 2, 3, 4, 5, 6, 7, 8] rfl ?_
  refine rp rfl rfl (p_move rfl rfl) ?_
  refine rp rfl rfl (p_move rfl rfl) ?_
  refine rp rfl rfl (p_move rfl rfl) ?_
  refine rp rfl rfl (p_move rfl rfl) ?_
  refine rp rfl rfl (p_move rfl rfl) ?_
  refine rp rfl rfl (u_lda rfl rfl Tryd.underlying52 rfl in_52 rfl (Nat.succ_pos _) (Sub.refl _) (GSlot.len s5)) ?_
  refine rp rfl rfl (p_move rfl rfl) ?_
  refine bindK H fun r'2 h2 H => ?_
  refine rp rfl rfl (p_callp rfl rfl rfl Tryd.func33 rfl rfl (g_ref_ReceiptFault_ac h2) ⟨rfl, rfl, rfl, rfl, rfl, rfl, rfl, trivial⟩) ?_
  refine rp rfl rfl (p_asg rfl rfl) ?_
  refine rz [(15, .i r'1), (16, .i r'2)] [] rfl rfl rfl ?_
  refine sg [0, 1, 2, 3] rfl ?_
  refine rp rfl rfl (p_move rfl rfl) ?_
  refine rp rfl rfl (p_move rfl rfl) ?_
  refine rp rfl rfl (p_ieq rfl rfl rfl) ?_
  refine rp rfl rfl (p_asg rfl rfl) ?_
  refine rz [(14, .b (decide (r'1 = r'2)))] [] rfl rfl rfl ?_
  refine AW2_ret ?_
  have hz := some_elim H
  subst hz
  exact ⟨⟨res_tmp (.same _), trivial⟩, trivial⟩
end Go.Proofs.YtfekkhinjdmcbaaDoor.VM
