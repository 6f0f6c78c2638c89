/- Functions of the program, as they answer, and that their code comes to these answers. -/
import Derived.Test.YtkaeboabpahemaaDoorGs1
namespace Go.Proofs.YtkaeboabpahemaaDoor.VM
open Go Go.RowKit

theorem in_24 : Info Tryd.prog 24 3 56 (.agg #[.bool false, .slice none 0 0, .slice none 0 0]) := by unfold Info; kernel_rfl
theorem one_24 : (.agg #[.bool false, .slice none 0 0, .slice none 0 0] : Value).cells.all (·.oneCell') = true := by kernel_rfl
theorem zc_24 : ((.agg #[.bool false, .slice none 0 0, .slice none 0 0] : Value).cells.toList.map zcell) = GSlot.cs GSlot.zero := by rfl
theorem pl_24 : placesOf Tryd.prog 24 = some [(0, 1), (1, 1), (2, 1)] := by kernel_rfl
set_option maxRecDepth 100000 in
theorem ty_3 {d : Nat} {cs : List AV} (h : Typed Tryd.prog (d + 1) 3 cs) : ∃ x : Int, cs = [(AV.int x)] ∧ okI x := ty_int Tryd.underlying3 h
set_option maxRecDepth 100000 in
theorem ty_4 {d : Nat} {cs : List AV} (h : Typed Tryd.prog (d + 1) 4 cs) : ∃ x : Bool, cs = [(AV.bool x)] ∧ okA x := ty_bool Tryd.underlying4 h
set_option maxRecDepth 100000 in
theorem ty_5 {d : Nat} {cs : List AV} (h : Typed Tryd.prog (d + 1) 5 cs) : ∃ x : UInt8, cs = [(AV.b8 x)] ∧ okA x := ty_u8 Tryd.underlying5 h
set_option maxRecDepth 100000 in
theorem ty_22 {d : Nat} {cs : List AV} (h : Typed Tryd.prog (d + 2) 22 cs) : ∃ x : List UInt8, cs = [(AV.bytes x)] ∧ (okL 1 okA) x := ty_slice (f := AV.b8) Tryd.underlying22 (bytes_of in_5) (fun _ hx => ty_5 hx) h
def GSlot.ok (x : GSlot) : Prop := okA x.Full ∧ (okL 1 okA) x.Salt ∧ (okL 1 okA) x.Data
set_option maxRecDepth 100000 in
theorem ty_24 {d : Nat} {cs : List AV} (h : Typed Tryd.prog (d + 3) 24 cs) : ∃ x : GSlot, cs = GSlot.cs x ∧ GSlot.ok x := by
  obtain ⟨es, rfl, hl, hf⟩ := ty_struct Tryd.underlying24 h
  match es, hl, hf with
  | [e0, e1, e2], _, hf =>
    obtain ⟨x0, h0, q0⟩ := ty_4 (hf 0 _ e0 rfl rfl)
    obtain ⟨x1, h1, q1⟩ := ty_22 (hf 1 _ e1 rfl rfl)
    obtain ⟨x2, h2, q2⟩ := ty_22 (hf 2 _ e2 rfl rfl)
    refine ⟨⟨x0, x1, x2⟩, ?_, ⟨q0, q1, q2⟩⟩
    rw [h0, h1, h2]
    simp only [List.flatten_cons, List.flatten_nil, List.append_nil, GSlot.cs]
set_option maxRecDepth 100000 in
theorem ty_30 {d : Nat} {cs : List AV} (h : Typed Tryd.prog (d + 4) 30 cs) : ∃ x : List GSlot, cs = [((fun q : List GSlot => AV.lst (q.flatMap GSlot.cs) q.length) x)] ∧ (okL 56 GSlot.ok) x := ty_slicef (g := fun b : GSlot => GSlot.cs b) Tryd.underlying30 (bytes_of in_24) (fun _ hx => ty_24 hx) h

/-! chirographref.ended -/
noncomputable def g_ref_ended_l0 : (List UInt8) → Option (((List UInt8)) ⊕ (((List UInt8))))
  | all3_0 => (if (all3_0.length : Int).tmod (64 : Int) ≠ (56 : Int) then if all3_0.length + [0].length ≤ 9223372036854775807 then some (.inl (all3_0 ++ [0])) else none else some (.inr all3_0))
noncomputable def g_ref_ended_l1 (r'7 : Vector UInt32 8) : (List UInt8) × Int → Option (((List UInt8) × Int) ⊕ (((List UInt8))))
  | (t5_1, t30_1) => (if t30_1 < (8 : Int) then if 0 ≤ t30_1 ∧ t30_1 < (8 : Int) then (g_ref_big ((vrd r'7 t30_1.toNat).toUInt64) (4 : Int)).bind fun r'8 => if t5_1.length + r'8.length ≤ 9223372036854775807 then some (.inl (t5_1 ++ r'8, w64 (t30_1 + (1 : Int)))) else none else none else some (.inr t5_1))
noncomputable def g_ref_ended_l2 (y'12 : (List UInt8)) : Int × (Vector UInt8 32) → Option ((Int × (Vector UInt8 32)) ⊕ (((Vector UInt8 32))))
  | (t39_2, out8_2) => (if t39_2 < (32 : Int) then if 0 ≤ t39_2 ∧ t39_2 < (y'12.length : Int) then if 0 ≤ t39_2 ∧ t39_2 < (32 : Int) then some (.inl (w64 (t39_2 + (1 : Int)), (vwr out8_2 t39_2.toNat (lrd y'12 t39_2.toNat)))) else none else none else some (.inr out8_2))
noncomputable def g_ref_ended (s0 : GStream) : Option ((Vector UInt8 32)) :=
  (g_ref_heldOf s0).bind fun r'1 => if r'1.length + [128].length ≤ 9223372036854775807 then (loopO (g_ref_ended_l0) (r'1 ++ [128])).bind fun y'5 => (g_ref_big ((UInt64.ofInt s0.Len) * (8 : UInt64)) (8 : Int)).bind fun r'6 => if y'5.length + r'6.length ≤ 9223372036854775807 then (g_ref_blocks s0.H (y'5 ++ r'6)).bind fun r'7 => (loopO (g_ref_ended_l1 r'7) ([], (0 : Int))).bind fun y'12 => (loopO (g_ref_ended_l2 y'12) ((0 : Int), (Vector.replicate 32 (0 : UInt8)))).bind fun y'16 => some y'16 else none else none
set_option maxHeartbeats 4000000 in
set_option maxRecDepth 100000 in
theorem g_ref_ended_ac {s0 : GStream} {r : (Vector UInt8 32)} (H : g_ref_ended s0 = some r) : ACp Tryd.prog 87 [(.agg (GStream.cs s0))] (.agg (bcells r.toList)) := by
  refine ACp_of (AC2_of_body (vs := [.g (bcells r.toList)]) Tryd.func87 rfl rfl (Nat.le_of_ble_eq_true rfl) rfl ?_) (fun _ => .same _)
  unfold g_ref_ended at H
  refine as2 [(0, .g (GStream.cs s0))] [] rfl rfl rfl ?_
  refine sg [0, 1] rfl ?_
  refine r_op rfl rfl (MakeD.opD (n_box 1 rfl rfl) rfl rfl rfl rfl) ?_
  refine r_op rfl rfl (MakeD.opD (u_alloc 2 rfl in_82 one_82 zc_82) rfl rfl rfl rfl) ?_
  refine rz [(1, .q 1 (0)), (2, .q 2 (0))] [(1, .pure (GStream.cs s0)), (2, .pure (bcells ((Vector.replicate 32 (0 : UInt8)).toList)))] rfl rfl rfl ?_
  refine sg [0, 1, 2, 3] rfl ?_
  refine rp rfl rfl (u_lda rfl rfl Tryd.underlying96 rfl in_96 rfl (Nat.succ_pos _) (Sub.refl _) (GStream.len s0)) ?_
  refine bindK H fun r'1 h1 H => ?_
  refine rp rfl rfl (p_callp rfl rfl rfl Tryd.func92 rfl rfl (g_ref_heldOf_ac h1) ⟨rfl, trivial⟩) ?_
  refine chkK H fun h2 H => ?_
  refine rp rfl rfl (p_cat rfl rfl rfl h2) ?_
  refine rp rfl rfl (p_asg rfl rfl) ?_
  refine rz [(1, .q 1 (0)), (2, .q 2 (0)), (3, .t (r'1 ++ [128]))] [(1, .pure (GStream.cs s0)), (2, .pure (bcells ((Vector.replicate 32 (0 : UInt8)).toList)))] rfl rfl rfl ?_
  refine AW2_seq ?_
  refine AW2_block ?_
  refine as2 [(1, .q 1 (0)), (2, .q 2 (0)), (3, .t (r'1 ++ [128]))] [(1, .pure (GStream.cs s0)), (2, .pure (bcells ((Vector.replicate 32 (0 : UInt8)).toList)))] rfl rfl rfl ?_
  refine bindK H fun y'5 h5 H => ?_
  refine AW2_loopO (fun a'2 : (List UInt8) => (⟨[(1, .q 1 (0)), (2, .q 2 (0)), (3, .t a'2)], [(1, .pure (GStream.cs s0)), (2, .pure (bcells ((Vector.replicate 32 (0 : UInt8)).toList)))], 49⟩ : TS)) (fun (y'3 : ((List UInt8))) e s' => e = Go.Exit.exit 0 ∧ s' = (⟨[(1, .q 1 (0)), (2, .q 2 (0)), (3, .t y'3)], [(1, .pure (GStream.cs s0)), (2, .pure (bcells ((Vector.replicate 32 (0 : UInt8)).toList)))], 49⟩ : TS)) h5 rfl (fun all3_0 x hx => ?_) (fun e s' hs => ?_)
  · clear H
    have H := hx
    clear hx
    unfold g_ref_ended_l0 at H
    refine AW2_seq ?_
    refine sg [0, 1, 2, 3] rfl ?_
    refine rp rfl rfl (p_move rfl rfl) ?_
    refine rp rfl rfl (p_lent rfl Tryd.underlying9 rfl) ?_
    refine rp rfl rfl (p_irem rfl rfl rfl (by decide)) ?_
    refine rp rfl rfl (p_ine rfl rfl rfl) ?_
    refine rz [(1, .q 1 (0)), (2, .q 2 (0)), (3, .t all3_0), (16, .b (decide ((all3_0.length : Int).tmod (64 : Int) ≠ (56 : Int))))] [(1, .pure (GStream.cs s0)), (2, .pure (bcells ((Vector.replicate 32 (0 : UInt8)).toList)))] rfl rfl rfl ?_
    refine AW2_if (p := (all3_0.length : Int).tmod (64 : Int) ≠ (56 : Int)) rfl (fun h3 => ?_) (fun h3 => ?_)
    · replace H := ite_then h3 H
      refine as2 [(1, .q 1 (0)), (2, .q 2 (0)), (3, .t all3_0)] [(1, .pure (GStream.cs s0)), (2, .pure (bcells ((Vector.replicate 32 (0 : UInt8)).toList)))] rfl rfl rfl ?_
      refine AW2_skip ?_
      refine AW2_block ?_
      refine AW2_reg [0, 1, 2] rfl ?_
      refine rp rfl rfl (p_move rfl rfl) ?_
      refine chkK H fun h4 H => ?_
      refine rp rfl rfl (p_cat rfl rfl rfl h4) ?_
      refine rp rfl rfl (p_asg rfl rfl) ?_
      refine rz [(1, .q 1 (0)), (2, .q 2 (0)), (3, .t (all3_0 ++ [0]))] [(1, .pure (GStream.cs s0)), (2, .pure (bcells ((Vector.replicate 32 (0 : UInt8)).toList)))] rfl rfl rfl ?_
      have hz := some_elim H
      subst hz
      exact ⟨rfl, rfl⟩
    · replace H := ite_else h3 H
      refine as2 [(1, .q 1 (0)), (2, .q 2 (0)), (3, .t all3_0)] [(1, .pure (GStream.cs s0)), (2, .pure (bcells ((Vector.replicate 32 (0 : UInt8)).toList)))] rfl rfl rfl ?_
      refine AW2_exit ?_
      refine thenQ2_exit ?_
      have hz := some_elim H
      subst hz
      exact ⟨rfl, rfl⟩
  · obtain ⟨rfl, rfl⟩ := hs
    refine ⟨by simp, ?_⟩
    refine blockQ2_exit ?_
    refine AW2_seq ?_
    refine bindK H fun r'6 h6 H => ?_
    refine chkK H fun h7 H => ?_
    refine bindK H fun r'7 h8 H => ?_
    refine AW2_ghoQ ?_
    refine AW2_draw 11 [11] (fun k => ([.q 1 (0 + 0), .g (s0.H.toList.map AV.u32), .t y'5, .q 1 (0 + 73), .i s0.Len, .p (AV.u64 (UInt64.ofInt s0.Len)), .p (AV.u64 ((UInt64.ofInt s0.Len) * (8 : UInt64))), .t r'6, .t (y'5 ++ r'6), .g (r'7.toList.map AV.u32), .q 4 (0)] : List TV).getD k TV.any) (fun k => ([[(1, none)], [(19, some 0)], [(3, none)], [(1, none)], [(22, some 3)], [(23, some 4)], [(24, some 5)], [(25, some 6)], [(21, some 2), (26, some 7)], [(20, some 1), (27, some 8)], []] : List (List (Nat × Option Nat))).getD k []) [(2, none), (4, some 10), (28, some 9)] [(10, 4, (((Vector.replicate 8 (0 : UInt32)).toList).map AV.u32))] (fun k => ([[], [0], [], [], [3], [3, 4], [3, 4, 5], [3, 4, 5, 6], [2, 3, 4, 5, 6, 7], [0, 1, 2, 3, 4, 5, 6, 7, 8], [], [0, 1, 2, 3, 4, 5, 6, 7, 8, 9, 10]] : List (List Nat)).getD k []) mixed (by kernel_rfl) rfl rfl (a_op (g_x rfl (x_p rfl (u_fa rfl rfl Tryd.underlying96 rfl in_93 (Nat.succ_ne_zero _) rfl rfl (ne_of_lt (n := 0) (Nat.lt_of_lt_of_eq (by decide) (Eq.symm (GStream.len s0))))) rfl)) (a_op (g_x rfl (x_p rfl (u_lda rfl rfl Tryd.underlying93 rfl in_93 rfl (Nat.succ_pos _) ((Sub.refl _).trans (GStream.sub0 s0)) (vmap_len (f := AV.u32) s0.H)) rfl)) (a_op (g_x rfl (x_p rfl (p_move rfl rfl) rfl)) (a_op (g_x rfl (x_p rfl (u_fa rfl rfl Tryd.underlying96 rfl in_3 (Nat.succ_ne_zero _) rfl rfl (ne_of_lt (n := 0) (Nat.lt_of_lt_of_eq (by decide) (Eq.symm (GStream.len s0))))) rfl)) (a_op (g_x rfl (x_p rfl (u_ld rfl rfl Tryd.underlying3 rfl rfl ((Sub.refl _).trans (GStream.sub3 s0))) rfl)) (a_op (g_x rfl (x_p rfl (p_i_u64 rfl Tryd.underlying3 Tryd.underlying103 rfl) rfl)) (a_op (g_x rfl (x_p rfl (p_u64mul (a := UInt64.ofInt s0.Len) (b := (8 : UInt64)) rfl rfl rfl) rfl)) (a_op (g_x rfl (x_p rfl (p_callp rfl rfl rfl Tryd.func90 rfl rfl (g_ref_big_ac h6) ⟨rfl, rfl, trivial⟩) rfl)) (a_op (g_x rfl (x_p rfl (p_cat rfl rfl rfl h7) rfl)) (a_op (g_x rfl (x_p rfl (p_callp rfl rfl rfl Tryd.func93 rfl rfl (g_ref_blocks_ac h8) ⟨rfl, rfl, trivial⟩) rfl)) (a_op (g_x rfl (x_m rfl (u_alloc 4 rfl in_93 one_93 zc_93) rfl rfl)) (a_nil)))))))))))) ?_
    refine t_op rfl rfl (u_st rfl rfl rfl rfl rfl in_93 (vmap_len (f := AV.u32) r'7) (ne_of_lt (n := 0) (Nat.lt_of_lt_of_eq (by decide) (Eq.symm (vmap_len (f := AV.u32) (Vector.replicate 8 (0 : UInt32)))))) (Upd.refl ((vmap_len (f := AV.u32) r'7).trans (vmap_len (f := AV.u32) (Vector.replicate 8 (0 : UInt32))).symm))) ?_
    refine t_gho (Gho_st (L := [(2, .q 2 (0)), (4, .q 4 (0))]) (H := [(2, .pure (bcells ((Vector.replicate 32 (0 : UInt8)).toList))), (4, .pure (r'7.toList.map AV.u32))]) rfl ⟨TLes.same _, TLes.same _, trivial⟩ ⟨rfl, rfl, trivial⟩) ?_
    refine sg [0] rfl ?_
    refine rp rfl rfl (p_asg rfl rfl) ?_
    refine rz [(2, .q 2 (0)), (4, .q 4 (0)), (5, .t [])] [(2, .pure (bcells ((Vector.replicate 32 (0 : UInt8)).toList))), (4, .pure (r'7.toList.map AV.u32))] rfl rfl rfl ?_
    refine AW2_seq ?_
    refine sg [0, 1] rfl ?_
    refine rp rfl rfl (u_lda rfl rfl Tryd.underlying93 rfl in_93 rfl (Nat.succ_pos _) (Sub.refl _) (vmap_len (f := AV.u32) r'7)) ?_
    refine rp rfl rfl (p_move rfl rfl) ?_
    refine rz [(2, .q 2 (0)), (5, .t []), (29, .g (r'7.toList.map AV.u32)), (30, .i (0 : Int))] [(2, .pure (bcells ((Vector.replicate 32 (0 : UInt8)).toList)))] rfl rfl rfl ?_
    refine AW2_block ?_
    refine as2 [(2, .q 2 (0)), (5, .t []), (29, .g (r'7.toList.map AV.u32)), (30, .i (0 : Int))] [(2, .pure (bcells ((Vector.replicate 32 (0 : UInt8)).toList)))] rfl rfl rfl ?_
    refine bindK H fun y'12 h13 H => ?_
    refine AW2_loopO (fun a'9 : (List UInt8) × Int => (⟨[(2, .q 2 (0)), (5, .t a'9.1), (29, .g (r'7.toList.map AV.u32)), (30, .i a'9.2)], [(2, .pure (bcells ((Vector.replicate 32 (0 : UInt8)).toList)))], 49⟩ : TS)) (fun (y'10 : ((List UInt8))) e s' => e = Go.Exit.exit 2 ∧ s' = (⟨[(2, .q 2 (0)), (5, .t y'10)], [(2, .pure (bcells ((Vector.replicate 32 (0 : UInt8)).toList)))], 49⟩ : TS)) h13 rfl (fun a x hx => ?_) (fun e s' hs => ?_)
    · clear H
      obtain ⟨t5_1, t30_1⟩ := a
      have H := hx
      clear hx
      unfold g_ref_ended_l1 at H
      refine sg [0] rfl ?_
      refine rp rfl rfl (p_bin rfl rfl rfl rfl) ?_
      refine rz [(2, .q 2 (0)), (5, .t t5_1), (29, .g (r'7.toList.map AV.u32)), (30, .i t30_1), (31, .b (decide (t30_1 < (8 : Int))))] [(2, .pure (bcells ((Vector.replicate 32 (0 : UInt8)).toList)))] rfl rfl rfl ?_
      refine AW2_seq ?_
      refine AW2_if (p := t30_1 < (8 : Int)) rfl (fun h9 => ?_) (fun h9 => ?_)
      · replace H := ite_then h9 H
        refine as2 [(2, .q 2 (0)), (5, .t t5_1), (29, .g (r'7.toList.map AV.u32)), (30, .i t30_1)] [(2, .pure (bcells ((Vector.replicate 32 (0 : UInt8)).toList)))] rfl rfl rfl ?_
        refine AW2_skip ?_
        refine AW2_seq ?_
        refine AW2_block ?_
        refine sg [0, 1] rfl ?_
        refine chkK H fun h10 H => ?_
        refine rp rfl rfl (u_ixa rfl rfl Tryd.underlying93 in_92 Tryd.underlying92 rfl rfl rfl (ixe h10) (ixn h10) (Sub.vmap (ixn h10))) ?_
        refine rp rfl rfl (p_asg rfl rfl) ?_
        refine rz [(2, .q 2 (0)), (5, .t t5_1), (7, .p (AV.u32 (vrd r'7 t30_1.toNat))), (29, .g (r'7.toList.map AV.u32)), (30, .i t30_1)] [(2, .pure (bcells ((Vector.replicate 32 (0 : UInt8)).toList)))] rfl rfl rfl ?_
        refine AW2_reg [0, 1, 2, 3, 4, 5] rfl ?_
        refine rp rfl rfl (p_move rfl rfl) ?_
        refine rp rfl rfl (p_move rfl rfl) ?_
        refine rp rfl rfl (p_u32_u64 (a := (vrd r'7 t30_1.toNat)) rfl Tryd.underlying92 Tryd.underlying103 rfl) ?_
        refine bindK H fun r'8 h11 H => ?_
        refine rp rfl rfl (p_callp rfl rfl rfl Tryd.func90 rfl rfl (g_ref_big_ac h11) ⟨rfl, rfl, trivial⟩) ?_
        refine chkK H fun h12 H => ?_
        refine rp rfl rfl (p_cat rfl rfl rfl h12) ?_
        refine rp rfl rfl (p_asg rfl rfl) ?_
        refine rz [(2, .q 2 (0)), (5, .t (t5_1 ++ r'8)), (29, .g (r'7.toList.map AV.u32)), (30, .i t30_1)] [(2, .pure (bcells ((Vector.replicate 32 (0 : UInt8)).toList)))] rfl rfl rfl ?_
        refine AW2_reg [0, 1] rfl ?_
        refine rp rfl rfl (p_bin rfl rfl rfl rfl) ?_
        refine rp rfl rfl (p_move rfl rfl) ?_
        refine rz [(2, .q 2 (0)), (5, .t (t5_1 ++ r'8)), (29, .g (r'7.toList.map AV.u32)), (30, .i (w64 (t30_1 + (1 : Int))))] [(2, .pure (bcells ((Vector.replicate 32 (0 : UInt8)).toList)))] rfl rfl rfl ?_
        have hz := some_elim H
        subst hz
        exact ⟨rfl, rfl⟩
      · replace H := ite_else h9 H
        refine as2 [(2, .q 2 (0)), (5, .t t5_1)] [(2, .pure (bcells ((Vector.replicate 32 (0 : UInt8)).toList)))] rfl rfl rfl ?_
        refine AW2_exit ?_
        refine thenQ2_exit ?_
        have hz := some_elim H
        subst hz
        exact ⟨rfl, rfl⟩
    · obtain ⟨rfl, rfl⟩ := hs
      refine ⟨by simp, ?_⟩
      refine blockQ2_exit ?_
      refine sg [0] rfl ?_
      refine r_op rfl rfl (MakeD.opD (u_alloc 8 rfl in_82 one_82 zc_82) rfl rfl rfl rfl) ?_
      refine rz [(2, .q 2 (0)), (5, .t y'12), (8, .q 8 (0))] [(2, .pure (bcells ((Vector.replicate 32 (0 : UInt8)).toList))), (8, .pure (bcells ((Vector.replicate 32 (0 : UInt8)).toList)))] rfl rfl rfl ?_
      refine AW2_seq ?_
      refine sg [0] rfl ?_
      refine rp rfl rfl (p_move rfl rfl) ?_
      refine rz [(2, .q 2 (0)), (5, .t y'12), (8, .q 8 (0)), (39, .i (0 : Int))] [(2, .pure (bcells ((Vector.replicate 32 (0 : UInt8)).toList))), (8, .pure (bcells ((Vector.replicate 32 (0 : UInt8)).toList)))] rfl rfl rfl ?_
      refine AW2_block ?_
      refine as2 [(2, .q 2 (0)), (5, .t y'12), (8, .q 8 (0)), (39, .i (0 : Int))] [(2, .pure (bcells ((Vector.replicate 32 (0 : UInt8)).toList))), (8, .pure (bcells ((Vector.replicate 32 (0 : UInt8)).toList)))] rfl rfl rfl ?_
      refine bindK H fun y'16 h17 H => ?_
      refine AW2_loopO (fun a'13 : Int × (Vector UInt8 32) => (⟨[(2, .q 2 (0)), (5, .t y'12), (8, .q 8 (0)), (39, .i a'13.1)], [(2, .pure (bcells ((Vector.replicate 32 (0 : UInt8)).toList))), (8, .pure (bcells a'13.2.toList))], 49⟩ : TS)) (fun (y'14 : ((Vector UInt8 32))) e s' => e = Go.Exit.exit 4 ∧ s' = (⟨[(2, .q 2 (0)), (8, .q 8 (0))], [(2, .pure (bcells ((Vector.replicate 32 (0 : UInt8)).toList))), (8, .pure (bcells y'14.toList))], 49⟩ : TS)) h17 rfl (fun a x hx => ?_) (fun e s' hs => ?_)
      · clear H
        obtain ⟨t39_2, out8_2⟩ := a
        have H := hx
        clear hx
        unfold g_ref_ended_l2 at H
        refine sg [0] rfl ?_
        refine rp rfl rfl (p_bin rfl rfl rfl rfl) ?_
        refine rz [(2, .q 2 (0)), (5, .t y'12), (8, .q 8 (0)), (39, .i t39_2), (40, .b (decide (t39_2 < (32 : Int))))] [(2, .pure (bcells ((Vector.replicate 32 (0 : UInt8)).toList))), (8, .pure (bcells out8_2.toList))] rfl rfl rfl ?_
        refine AW2_seq ?_
        refine AW2_if (p := t39_2 < (32 : Int)) rfl (fun h14 => ?_) (fun h14 => ?_)
        · replace H := ite_then h14 H
          refine as2 [(2, .q 2 (0)), (5, .t y'12), (8, .q 8 (0)), (39, .i t39_2)] [(2, .pure (bcells ((Vector.replicate 32 (0 : UInt8)).toList))), (8, .pure (bcells out8_2.toList))] rfl rfl rfl ?_
          refine AW2_skip ?_
          refine AW2_seq ?_
          refine AW2_block ?_
          refine sg [0, 1] rfl ?_
          refine rp rfl rfl (p_move rfl rfl) ?_
          refine rp rfl rfl (p_asg rfl rfl) ?_
          refine rz [(2, .q 2 (0)), (5, .t y'12), (8, .q 8 (0)), (9, .i t39_2), (39, .i t39_2)] [(2, .pure (bcells ((Vector.replicate 32 (0 : UInt8)).toList))), (8, .pure (bcells out8_2.toList))] rfl rfl rfl ?_
          refine AW2_reg [0, 1, 2, 3, 4, 5] rfl ?_
          refine rp rfl rfl (p_move rfl rfl) ?_
          refine rp rfl rfl (p_move rfl rfl) ?_
          refine rp rfl rfl (p_move rfl rfl) ?_
          refine chkK H fun h15 H => ?_
          refine rp rfl rfl (p_ixt rfl Tryd.underlying9 rfl rfl (ixe h15) (lrd_get (ixn h15))) ?_
          refine chkK H fun h16 H => ?_
          refine rp rfl rfl (u_ixp rfl rfl Tryd.underlying82 in_5 rfl rfl (ne_of_lt (n := 0) (Nat.lt_of_lt_of_eq (by decide) (Eq.symm ((bcells_length _).trans (vlen out8_2))))) rfl (ixe h16) (ixn h16)) ?_
          refine r_op rfl rfl (u_st rfl rfl rfl rfl rfl in_5 rfl (ne_of_lt (n := 0) (Nat.lt_of_lt_of_eq (by decide) (Eq.symm ((bcells_length _).trans (vlen out8_2))))) (Upd.trans (Sub.refl _) (Upd.vmap (ixn h16)) (Upd.refl (((bcells_length _).trans (vlen (vwr out8_2 t39_2.toNat (lrd y'12 t39_2.toNat)))).trans ((bcells_length _).trans (vlen out8_2)).symm)))) ?_
          refine rz [(2, .q 2 (0)), (5, .t y'12), (8, .q 8 (0)), (39, .i t39_2)] [(2, .pure (bcells ((Vector.replicate 32 (0 : UInt8)).toList))), (8, .pure (bcells ((vwr out8_2 t39_2.toNat (lrd y'12 t39_2.toNat)).toList)))] rfl rfl rfl ?_
          refine AW2_reg [0, 1] rfl ?_
          refine rp rfl rfl (p_bin rfl rfl rfl rfl) ?_
          refine rp rfl rfl (p_move rfl rfl) ?_
          refine rz [(2, .q 2 (0)), (5, .t y'12), (8, .q 8 (0)), (39, .i (w64 (t39_2 + (1 : Int))))] [(2, .pure (bcells ((Vector.replicate 32 (0 : UInt8)).toList))), (8, .pure (bcells ((vwr out8_2 t39_2.toNat (lrd y'12 t39_2.toNat)).toList)))] rfl rfl rfl ?_
          have hz := some_elim H
          subst hz
          exact ⟨rfl, rfl⟩
        · replace H := ite_else h14 H
          refine as2 [(2, .q 2 (0)), (8, .q 8 (0))] [(2, .pure (bcells ((Vector.replicate 32 (0 : UInt8)).toList))), (8, .pure (bcells out8_2.toList))] rfl rfl rfl ?_
          refine AW2_exit ?_
          refine thenQ2_exit ?_
          have hz := some_elim H
          subst hz
          exact ⟨rfl, rfl⟩
      · obtain ⟨rfl, rfl⟩ := hs
        refine ⟨by simp, ?_⟩
        refine blockQ2_exit ?_
        refine sg [0, 1] rfl ?_
        refine rp rfl rfl (u_lda rfl rfl Tryd.underlying82 rfl in_82 rfl (Nat.succ_pos _) (Sub.refl _) ((bcells_length _).trans (vlen y'16))) ?_
        refine r_op rfl rfl (u_st rfl rfl rfl rfl rfl in_82 ((bcells_length _).trans (vlen y'16)) (ne_of_lt (n := 0) (Nat.lt_of_lt_of_eq (by decide) (Eq.symm ((bcells_length _).trans (vlen (Vector.replicate 32 (0 : UInt8))))))) (Upd.refl (((bcells_length _).trans (vlen y'16)).trans ((bcells_length _).trans (vlen (Vector.replicate 32 (0 : UInt8)))).symm))) ?_
        refine rz [(2, .q 2 (0))] [(2, .pure (bcells y'16.toList))] rfl rfl rfl ?_
        refine AW2_ret ?_
        have hz := some_elim H
        subst hz
        exact ⟨⟨res_cella Tryd.underlying82 rfl in_82.sz rfl (Sub.le (Sub.refl _) ((bcells_length _).trans (vlen y'16))) (by decide) (Sub.take (Sub.refl _) ((bcells_length _).trans (vlen y'16))), trivial⟩, trivial⟩

/-! chirographref.Summed -/
noncomputable def g_ref_Summed (b0 : List UInt8) : Option ((Vector UInt8 32)) :=
  (g_ref_Begun).bind fun r'1 => (g_ref_Added r'1 b0).bind fun r'2 => (g_ref_ended r'2.1).bind fun r'3 => some r'3
set_option maxHeartbeats 4000000 in
set_option maxRecDepth 100000 in
theorem g_ref_Summed_ac {b0 : List UInt8} {r : (Vector UInt8 32)} (H : g_ref_Summed b0 = some r) : ACp Tryd.prog 75 [(AV.bytes b0)] (.agg (bcells r.toList)) := by
  refine ACp_of (AC2_of_body (vs := [.g (bcells r.toList)]) Tryd.func75 rfl rfl (Nat.le_of_ble_eq_true rfl) rfl ?_) (fun _ => .same _)
  unfold g_ref_Summed at H
  refine as2 [(0, .y b0)] [] rfl rfl rfl ?_
  refine sg [0] rfl ?_
  refine r_op rfl rfl (MakeD.opD (u_alloc 2 rfl in_82 one_82 zc_82) rfl rfl rfl rfl) ?_
  refine rz [(0, .y b0), (2, .q 2 (0))] [(2, .pure (bcells ((Vector.replicate 32 (0 : UInt8)).toList)))] rfl rfl rfl ?_
  refine sg [0, 1, 2, 3, 4, 5, 6, 7, 8] rfl ?_
  refine bindK H fun r'1 h1 H => ?_
  refine rp rfl rfl (p_callp rfl rfl rfl Tryd.func86 rfl rfl (g_ref_Begun_ac h1) trivial) ?_
  refine rp rfl rfl (p_move rfl rfl) ?_
  refine bindK H fun r'2 h2 H => ?_
  refine rp rfl rfl (p_callp rfl rfl rfl Tryd.func85 rfl rfl (g_ref_Added_ac h2) ⟨rfl, rfl, trivial⟩) ?_
  refine rp rfl rfl (p_move rfl rfl) ?_
  refine rp rfl rfl (p_ext rfl rfl rfl rfl) ?_
  refine rp rfl rfl (p_ext rfl rfl rfl rfl) ?_
  refine r_op rfl rfl (MakeD.opD (u_alloc 3 rfl in_96 one_96 zc_96) rfl rfl rfl rfl) ?_
  refine r_op rfl rfl (u_st rfl rfl rfl rfl rfl in_96 (GStream.len r'2.1) (ne_of_lt (n := 0) (Nat.lt_of_lt_of_eq (by decide) (Eq.symm (GStream.len GStream.zero)))) (Upd.refl ((GStream.len r'2.1).trans (GStream.len GStream.zero).symm))) ?_
  refine rp rfl rfl (p_asg rfl rfl) ?_
  refine rz [(2, .q 2 (0)), (3, .q 3 (0))] [(2, .pure (bcells ((Vector.replicate 32 (0 : UInt8)).toList))), (3, .pure (GStream.cs r'2.1))] rfl rfl rfl ?_
  refine sg [0, 1, 2] rfl ?_
  refine rp rfl rfl (u_lda rfl rfl Tryd.underlying96 rfl in_96 rfl (Nat.succ_pos _) (Sub.refl _) (GStream.len r'2.1)) ?_
  refine bindK H fun r'3 h3 H => ?_
  refine rp rfl rfl (p_callp rfl rfl rfl Tryd.func87 rfl rfl (g_ref_ended_ac h3) ⟨rfl, trivial⟩) ?_
  refine r_op rfl rfl (u_st rfl rfl rfl rfl rfl in_82 ((bcells_length _).trans (vlen r'3)) (ne_of_lt (n := 0) (Nat.lt_of_lt_of_eq (by decide) (Eq.symm ((bcells_length _).trans (vlen (Vector.replicate 32 (0 : UInt8))))))) (Upd.refl (((bcells_length _).trans (vlen r'3)).trans ((bcells_length _).trans (vlen (Vector.replicate 32 (0 : UInt8)))).symm))) ?_
  refine rz [(2, .q 2 (0))] [(2, .pure (bcells r'3.toList))] rfl rfl rfl ?_
  refine AW2_ret ?_
  have hz := some_elim H
  subst hz
  exact ⟨⟨res_cella Tryd.underlying82 rfl in_82.sz rfl (Sub.le (Sub.refl _) ((bcells_length _).trans (vlen r'3))) (by decide) (Sub.take (Sub.refl _) ((bcells_length _).trans (vlen r'3))), trivial⟩, trivial⟩

/-! chirographref.DigestOf -/
noncomputable def g_ref_DigestOf (mode0 : Int) (tag1 : Int) (parts2 : List (List UInt8)) : Option ((List UInt8) × Int) :=
  (g_ref_badMode mode0).bind fun r'1 => (if r'1 = true then some ([], (2 : Int)) else (g_ref_FrameOf tag1 parts2).bind fun r'2 => ((if (r'2.2 = (0 : Int)) ∧ (mode0 = (1 : Int)) then (g_ref_Summed r'2.1).bind fun r'4 => some r'4.toList else some r'2.1)).bind fun j'3 => some (j'3, r'2.2))
set_option maxHeartbeats 4000000 in
set_option maxRecDepth 100000 in
theorem g_ref_DigestOf_ac {mode0 : Int} {tag1 : Int} {parts2 : List (List UInt8)} {r : (List UInt8) × Int} (H : g_ref_DigestOf mode0 tag1 parts2 = some r) : ACp Tryd.prog 42 [(AV.int mode0), (AV.int tag1), (AV.lists parts2)] (.tup [(AV.bytes r.1), (AV.int r.2)]) := by
  refine ACp_of (AC2_of_body (vs := [.y r.1, .i r.2]) Tryd.func42 rfl rfl (Nat.le_of_ble_eq_true rfl) rfl ?_) (fun _ => .same _)
  unfold g_ref_DigestOf at H
  refine as2 [(0, .i mode0), (1, .i tag1), (2, .p (AV.lists parts2))] [] rfl rfl rfl ?_
  refine sg [0, 1] rfl ?_
  refine rp rfl rfl (p_asgn rfl) ?_
  refine rp rfl rfl (p_asg rfl rfl) ?_
  refine rz [(0, .i mode0), (1, .i tag1), (2, .p (AV.lists parts2))] [] rfl rfl rfl ?_
  refine AW2_seq ?_
  refine sg [0, 1] rfl ?_
  refine rp rfl rfl (p_move rfl rfl) ?_
  refine bindK H fun r'1 h1 H => ?_
  refine rp rfl rfl (p_callp rfl rfl rfl Tryd.func41 rfl rfl (g_ref_badMode_ac h1) ⟨rfl, trivial⟩) ?_
  refine rz [(0, .i mode0), (1, .i tag1), (2, .p (AV.lists parts2)), (12, .b r'1)] [] rfl rfl rfl ?_
  refine AW2_cond rfl (fun h2 => ?_) (fun h2 => ?_)
  · replace H := ite_then h2 H
    refine sg [0, 1] rfl ?_
    refine rp rfl rfl (p_asgn rfl) ?_
    refine rp rfl rfl (p_asg rfl rfl) ?_
    refine rz [(6, .p .nil), (7, .i (2 : Int))] [] rfl rfl rfl ?_
    refine AW2_ret ?_
    have hz := some_elim H
    subst hz
    exact ⟨⟨res_tmp TLes.nil0, res_tmp (.same _), trivial⟩, trivial⟩
  · replace H := ite_else (ne_true h2) H
    refine as2 [(0, .i mode0), (1, .i tag1), (2, .p (AV.lists parts2))] [] rfl rfl rfl ?_
    refine AW2_skip ?_
    refine sg [0, 1, 2, 3, 4, 5, 6, 7] rfl ?_
    refine rp rfl rfl (p_move rfl rfl) ?_
    refine rp rfl rfl (p_move rfl rfl) ?_
    refine bindK H fun r'2 h3 H => ?_
    refine rp rfl rfl (p_callp rfl rfl rfl Tryd.func74 rfl rfl (g_ref_FrameOf_ac h3) ⟨rfl, rfl, trivial⟩) ?_
    refine rp rfl rfl (p_move rfl rfl) ?_
    refine rp rfl rfl (p_ext rfl rfl rfl rfl) ?_
    refine rp rfl rfl (p_ext rfl rfl rfl rfl) ?_
    refine rp rfl rfl (p_asg rfl rfl) ?_
    refine rp rfl rfl (p_asg rfl rfl) ?_
    refine rz [(0, .i mode0), (8, .y r'2.1), (9, .i r'2.2)] [] rfl rfl rfl ?_
    refine AW2_seq ?_
    refine bindK H fun j'3 h4 H => ?_
    refine AW2_mid (⟨[(8, .y j'3), (9, .i r'2.2)], [], 32⟩ : TS) ?_ ?_
    · clear H
      have H := h4
      clear h4
      refine AW2_seq ?_
      refine AW2_mid (⟨[(8, .y r'2.1), (9, .i r'2.2), (24, .b (decide ((r'2.2 = (0 : Int)) ∧ (mode0 = (1 : Int)))))], [], 32⟩ : TS) ?_ ?_
      · refine AW2_reg [0, 1, 2, 3, 4, 5] rfl ?_
        refine rp rfl rfl (p_move rfl rfl) ?_
        refine rp rfl rfl (p_ieq rfl rfl rfl) ?_
        refine rp rfl rfl (p_move rfl rfl) ?_
        refine (Classical.em (r'2.2 = (0 : Int))).elim (fun h5 => ?_) (fun h5 => ?_)
        · refine r_on rfl rfl rfl rfl (decide_eq_true (p := r'2.2 = (0 : Int)) h5) rfl (PureD.opD (p_move rfl rfl)) ?_
          refine r_on rfl rfl rfl rfl (decide_eq_true (p := r'2.2 = (0 : Int)) h5) rfl (PureD.opD (p_ieq rfl rfl rfl)) ?_
          refine rp rfl rfl (p_pkt rfl rfl (decide_eq_true (p := r'2.2 = (0 : Int)) h5) (tb ((and_l (p := r'2.2 = (0 : Int)) (q := mode0 = (1 : Int)) h5)))) ?_
          refine rs [(8, .y r'2.1), (9, .i r'2.2), (24, .b (decide ((r'2.2 = (0 : Int)) ∧ (mode0 = (1 : Int)))))] [] rfl rfl rfl ?_
          exact RunW_nil rfl
        · refine r_off rfl rfl rfl rfl (decide_eq_false (p := r'2.2 = (0 : Int)) h5) rfl rfl ?_
          refine r_off rfl rfl rfl rfl (decide_eq_false (p := r'2.2 = (0 : Int)) h5) rfl rfl ?_
          refine rp rfl rfl (p_pkf rfl rfl (decide_eq_false (p := r'2.2 = (0 : Int)) h5) (tb (decide_eq_false (p := (r'2.2 = (0 : Int)) ∧ (mode0 = (1 : Int))) (fun x => h5 x.1)).symm)) ?_
          refine rs [(8, .y r'2.1), (9, .i r'2.2), (24, .b (decide ((r'2.2 = (0 : Int)) ∧ (mode0 = (1 : Int)))))] [] rfl rfl rfl ?_
          exact RunW_nil rfl
      · refine AW2_if (p := (r'2.2 = (0 : Int)) ∧ (mode0 = (1 : Int))) rfl (fun h6 => ?_) (fun h6 => ?_)
        · replace H := ite_then h6 H
          refine sg [0, 1, 2, 3] rfl ?_
          refine rp rfl rfl (p_move rfl rfl) ?_
          refine bindK H fun r'4 h7 H => ?_
          refine rp rfl rfl (p_callp rfl rfl rfl Tryd.func75 rfl rfl (g_ref_Summed_ac h7) ⟨rfl, trivial⟩) ?_
          refine r_op rfl rfl (MakeD.opD (u_alloc 10 rfl in_82 one_82 zc_82) rfl rfl rfl rfl) ?_
          refine r_op rfl rfl (u_st rfl rfl rfl rfl rfl in_82 ((bcells_length _).trans (vlen r'4)) (ne_of_lt (n := 0) (Nat.lt_of_lt_of_eq (by decide) (Eq.symm ((bcells_length _).trans (vlen (Vector.replicate 32 (0 : UInt8))))))) (Upd.refl (((bcells_length _).trans (vlen r'4)).trans ((bcells_length _).trans (vlen (Vector.replicate 32 (0 : UInt8)))).symm))) ?_
          refine rz [(9, .i r'2.2), (10, .q 10 (0))] [(10, .pure (bcells r'4.toList))] rfl rfl rfl ?_
          refine AW2_reg [0, 1, 2, 3] rfl ?_
          refine rp rfl rfl (u_cuta rfl rfl Tryd.underlying82 in_5 rfl rfl (ne_of_lt (n := 0) (Nat.lt_of_lt_of_eq (by decide) (Eq.symm ((bcells_length _).trans (vlen r'4))))) (Sub.refl _) (((bcells_length _).trans (vlen r'4)).trans (by decide))) ?_
          refine rp rfl rfl (u_cbl rfl rfl Tryd.underlying22 Tryd.underlying5 Tryd.underlying9 (bs := r'4.toList) (vlen _) rfl rfl (ne_of_lt (n := 0) (Nat.lt_of_lt_of_eq (by decide) (Eq.symm ((bcells_length _).trans (vlen r'4))))) (Sub.refl _)) ?_
          refine r_op rfl rfl (MakeD.opD (n_sb 29 rfl Tryd.underlying9 Tryd.underlying22 Tryd.underlying5 rfl) rfl rfl rfl rfl) ?_
          refine rp rfl rfl (p_asg rfl rfl) ?_
          refine rs [(8, .c (.own 29 r'4.toList.length 1)), (9, .i r'2.2)] [(29, .pure (bcells r'4.toList))] rfl rfl rfl ?_
          refine RunW_gho (Gho_ren 29 8 rfl rfl rfl rfl rfl) ?_
          refine rs [(8, .c (.own 8 r'4.toList.length 1)), (9, .i r'2.2)] [(8, .pure (bcells r'4.toList))] rfl rfl rfl ?_
          refine RunW_gho (Gho_pubs [8] ⟨rfl, trivial⟩ rfl (bl r'4.toList) (by decide)) ?_
          refine rz [(8, .y r'4.toList), (9, .i r'2.2)] [] rfl rfl rfl ?_
          have hz := some_elim H
          subst hz
          exact rfl
        · replace H := ite_else h6 H
          refine as2 [(8, .y r'2.1), (9, .i r'2.2)] [] rfl rfl rfl ?_
          refine AW2_skip ?_
          have hz := some_elim H
          subst hz
          exact rfl
    · refine sg [0, 1, 2, 3] rfl ?_
      refine rp rfl rfl (p_move rfl rfl) ?_
      refine rp rfl rfl (p_move rfl rfl) ?_
      refine rp rfl rfl (p_asg rfl rfl) ?_
      refine rp rfl rfl (p_asg rfl rfl) ?_
      refine rz [(6, .y j'3), (7, .i r'2.2)] [] rfl rfl rfl ?_
      refine AW2_ret ?_
      have hz := some_elim H
      subst hz
      exact ⟨⟨res_tmp (.same _), res_tmp (.same _), trivial⟩, trivial⟩

/-! chirographref.LeafOf -/
noncomputable def g_ref_LeafOf (mode0 : Int) (s1 : GSlot) : Option ((List UInt8) × Int) :=
  (g_ref_badMode mode0).bind fun r'1 => (if r'1 = true then some ([], (2 : Int)) else (if ((!s1.Full) = true) ∧ ((s1.Data.length : Int) > (0 : Int)) then some ([], (3 : Int)) else (if ((s1.Salt.length : Int) > (80 : Int)) ∨ ((s1.Data.length : Int) > (400 : Int)) then some ([], (1 : Int)) else ((if s1.Full = true then if [1].length + s1.Data.length ≤ 9223372036854775807 then some ([1] ++ s1.Data) else none else some [0])).bind fun j'2 => (g_ref_DigestOf mode0 (1 : Int) ([s1.Salt, j'2] : List (List UInt8))).bind fun r'3 => some (r'3.1, r'3.2))))
set_option maxHeartbeats 4000000 in
set_option maxRecDepth 100000 in
theorem g_ref_LeafOf_ac {mode0 : Int} {s1 : GSlot} {r : (List UInt8) × Int} (H : g_ref_LeafOf mode0 s1 = some r) : ACp Tryd.prog 15 [(AV.int mode0), (.agg (GSlot.cs s1))] (.tup [(AV.bytes r.1), (AV.int r.2)]) := by
  refine ACp_of (AC2_of_body (vs := [.y r.1, .i r.2]) Tryd.func15 rfl rfl (Nat.le_of_ble_eq_true rfl) rfl ?_) (fun _ => .same _)
  unfold g_ref_LeafOf at H
  refine as2 [(0, .i mode0), (1, .g (GSlot.cs s1))] [] rfl rfl rfl ?_
  refine sg [0, 1, 2] rfl ?_
  refine r_op rfl rfl (MakeD.opD (n_box 3 rfl rfl) rfl rfl rfl rfl) ?_
  refine rp rfl rfl (p_asgn rfl) ?_
  refine rp rfl rfl (p_asg rfl rfl) ?_
  refine rz [(0, .i mode0), (3, .q 3 (0))] [(3, .pure (GSlot.cs s1))] rfl rfl rfl ?_
  refine AW2_seq ?_
  refine AW2_block ?_
  refine sg [0, 1, 2] rfl ?_
  refine rp rfl rfl (p_move rfl rfl) ?_
  refine bindK H fun r'1 h1 H => ?_
  refine rp rfl rfl (p_callp rfl rfl rfl Tryd.func41 rfl rfl (g_ref_badMode_ac h1) ⟨rfl, trivial⟩) ?_
  refine rp rfl rfl (p_asg rfl rfl) ?_
  refine rz [(0, .i mode0), (3, .q 3 (0)), (7, .b r'1)] [(3, .pure (GSlot.cs s1))] rfl rfl rfl ?_
  refine AW2_cond rfl (fun h2 => ?_) (fun h2 => ?_)
  · replace H := ite_then h2 H
    refine sg [0, 1] rfl ?_
    refine rp rfl rfl (p_asgn rfl) ?_
    refine rp rfl rfl (p_asg rfl rfl) ?_
    refine rz [(4, .p .nil), (5, .i (2 : Int))] [] rfl rfl rfl ?_
    refine AW2_ret ?_
    have hz := some_elim H
    subst hz
    exact ⟨⟨res_tmp TLes.nil0, res_tmp (.same _), trivial⟩, trivial⟩
  · replace H := ite_else (ne_true h2) H
    refine AW2_seq ?_
    refine AW2_mid (⟨[(0, .i mode0), (3, .q 3 (0)), (10, .b (decide (((!s1.Full) = true) ∧ ((s1.Data.length : Int) > (0 : Int)))))], [(3, .pure (GSlot.cs s1))], 46⟩ : TS) ?_ ?_
    · refine AW2_reg [0, 1, 2, 3, 4, 5, 6, 7, 8, 9] rfl ?_
      refine rp rfl rfl (u_fa rfl rfl Tryd.underlying24 rfl in_4 (Nat.succ_ne_zero _) rfl rfl (ne_of_lt (n := 0) (Nat.lt_of_lt_of_eq (by decide) (Eq.symm (GSlot.len s1))))) ?_
      refine rp rfl rfl (u_ld rfl rfl Tryd.underlying4 rfl rfl ((Sub.refl _).trans (GSlot.sub0 s1))) ?_
      refine rp rfl rfl (p_not rfl rfl) ?_
      refine rp rfl rfl (p_move rfl rfl) ?_
      refine (Classical.em ((!s1.Full) = true)).elim (fun h3 => ?_) (fun h3 => ?_)
      · refine rn rfl rfl rfl rfl h3 rfl (u_fa rfl rfl Tryd.underlying24 rfl in_22 (Nat.succ_ne_zero _) rfl rfl (ne_of_lt (n := 0) (Nat.lt_of_lt_of_eq (by decide) (Eq.symm (GSlot.len s1))))) ?_
        refine rn rfl rfl rfl rfl h3 rfl (u_ld rfl rfl Tryd.underlying22 rfl rfl ((Sub.refl _).trans (GSlot.sub2 s1))) ?_
        refine rn rfl rfl rfl rfl h3 rfl (p_lenl rfl Tryd.underlying22 rfl rfl) ?_
        refine rn rfl rfl rfl rfl h3 rfl (p_bin rfl rfl rfl rfl) ?_
        refine rp rfl rfl (p_pkt rfl rfl h3 (tb ((and_l (p := (!s1.Full) = true) (q := (s1.Data.length : Int) > (0 : Int)) h3)))) ?_
        refine rp rfl rfl (p_asg rfl rfl) ?_
        refine rs [(0, .i mode0), (3, .q 3 (0)), (10, .b (decide (((!s1.Full) = true) ∧ ((s1.Data.length : Int) > (0 : Int)))))] [(3, .pure (GSlot.cs s1))] rfl rfl rfl ?_
        exact RunW_nil rfl
      · refine r_off rfl rfl rfl rfl (bfalse h3) rfl rfl ?_
        refine r_off rfl rfl rfl rfl (bfalse h3) rfl rfl ?_
        refine r_off rfl rfl rfl rfl (bfalse h3) rfl rfl ?_
        refine r_off rfl rfl rfl rfl (bfalse h3) rfl rfl ?_
        refine rp rfl rfl (p_pkf rfl rfl (bfalse h3) (tb (decide_eq_false (p := ((!s1.Full) = true) ∧ ((s1.Data.length : Int) > (0 : Int))) (fun x => h3 x.1)).symm)) ?_
        refine rp rfl rfl (p_asg rfl rfl) ?_
        refine rs [(0, .i mode0), (3, .q 3 (0)), (10, .b (decide (((!s1.Full) = true) ∧ ((s1.Data.length : Int) > (0 : Int)))))] [(3, .pure (GSlot.cs s1))] rfl rfl rfl ?_
        exact RunW_nil rfl
    · refine AW2_if (p := ((!s1.Full) = true) ∧ ((s1.Data.length : Int) > (0 : Int))) rfl (fun h4 => ?_) (fun h4 => ?_)
      · replace H := ite_then h4 H
        refine sg [0, 1] rfl ?_
        refine rp rfl rfl (p_asgn rfl) ?_
        refine rp rfl rfl (p_asg rfl rfl) ?_
        refine rz [(4, .p .nil), (5, .i (3 : Int))] [] rfl rfl rfl ?_
        refine AW2_ret ?_
        have hz := some_elim H
        subst hz
        exact ⟨⟨res_tmp TLes.nil0, res_tmp (.same _), trivial⟩, trivial⟩
      · replace H := ite_else h4 H
        refine AW2_seq ?_
        refine AW2_mid (⟨[(0, .i mode0), (3, .q 3 (0)), (20, .b (decide (((s1.Salt.length : Int) > (80 : Int)) ∨ ((s1.Data.length : Int) > (400 : Int)))))], [(3, .pure (GSlot.cs s1))], 46⟩ : TS) ?_ ?_
        · refine AW2_reg [0, 1, 2, 3, 4, 5, 6, 7, 8, 9, 10] rfl ?_
          refine rp rfl rfl (u_fa rfl rfl Tryd.underlying24 rfl in_22 (Nat.succ_ne_zero _) rfl rfl (ne_of_lt (n := 0) (Nat.lt_of_lt_of_eq (by decide) (Eq.symm (GSlot.len s1))))) ?_
          refine rp rfl rfl (u_ld rfl rfl Tryd.underlying22 rfl rfl ((Sub.refl _).trans (GSlot.sub1 s1))) ?_
          refine rp rfl rfl (p_lenl rfl Tryd.underlying22 rfl rfl) ?_
          refine rp rfl rfl (p_bin rfl rfl rfl rfl) ?_
          refine rp rfl rfl (p_move rfl rfl) ?_
          refine (Classical.em ((s1.Salt.length : Int) > (80 : Int))).elim (fun h5 => ?_) (fun h5 => ?_)
          · refine r_off rfl rfl rfl rfl (decide_eq_true (p := (s1.Salt.length : Int) > (80 : Int)) h5) rfl rfl ?_
            refine r_off rfl rfl rfl rfl (decide_eq_true (p := (s1.Salt.length : Int) > (80 : Int)) h5) rfl rfl ?_
            refine r_off rfl rfl rfl rfl (decide_eq_true (p := (s1.Salt.length : Int) > (80 : Int)) h5) rfl rfl ?_
            refine r_off rfl rfl rfl rfl (decide_eq_true (p := (s1.Salt.length : Int) > (80 : Int)) h5) rfl rfl ?_
            refine rp rfl rfl (p_pkt rfl rfl (decide_eq_true (p := (s1.Salt.length : Int) > (80 : Int)) h5) (tb (decide_eq_true (p := ((s1.Salt.length : Int) > (80 : Int)) ∨ ((s1.Data.length : Int) > (400 : Int))) (Or.inl h5)).symm)) ?_
            refine rp rfl rfl (p_asg rfl rfl) ?_
            refine rs [(0, .i mode0), (3, .q 3 (0)), (20, .b (decide (((s1.Salt.length : Int) > (80 : Int)) ∨ ((s1.Data.length : Int) > (400 : Int)))))] [(3, .pure (GSlot.cs s1))] rfl rfl rfl ?_
            exact RunW_nil rfl
          · refine r_on rfl rfl rfl rfl (decide_eq_false (p := (s1.Salt.length : Int) > (80 : Int)) h5) rfl (PureD.opD (u_fa rfl rfl Tryd.underlying24 rfl in_22 (Nat.succ_ne_zero _) rfl rfl (ne_of_lt (n := 0) (Nat.lt_of_lt_of_eq (by decide) (Eq.symm (GSlot.len s1)))))) ?_
            refine r_on rfl rfl rfl rfl (decide_eq_false (p := (s1.Salt.length : Int) > (80 : Int)) h5) rfl (PureD.opD (u_ld rfl rfl Tryd.underlying22 rfl rfl ((Sub.refl _).trans (GSlot.sub2 s1)))) ?_
            refine r_on rfl rfl rfl rfl (decide_eq_false (p := (s1.Salt.length : Int) > (80 : Int)) h5) rfl (PureD.opD (p_lenl rfl Tryd.underlying22 rfl rfl)) ?_
            refine r_on rfl rfl rfl rfl (decide_eq_false (p := (s1.Salt.length : Int) > (80 : Int)) h5) rfl (PureD.opD (p_bin rfl rfl rfl rfl)) ?_
            refine rp rfl rfl (p_pkf rfl rfl (decide_eq_false (p := (s1.Salt.length : Int) > (80 : Int)) h5) (tb ((or_l (p := (s1.Salt.length : Int) > (80 : Int)) (q := (s1.Data.length : Int) > (400 : Int)) h5)))) ?_
            refine rp rfl rfl (p_asg rfl rfl) ?_
            refine rs [(0, .i mode0), (3, .q 3 (0)), (20, .b (decide (((s1.Salt.length : Int) > (80 : Int)) ∨ ((s1.Data.length : Int) > (400 : Int)))))] [(3, .pure (GSlot.cs s1))] rfl rfl rfl ?_
            exact RunW_nil rfl
        · refine AW2_if (p := ((s1.Salt.length : Int) > (80 : Int)) ∨ ((s1.Data.length : Int) > (400 : Int))) rfl (fun h6 => ?_) (fun h6 => ?_)
          · replace H := ite_then h6 H
            refine sg [0, 1] rfl ?_
            refine rp rfl rfl (p_asgn rfl) ?_
            refine rp rfl rfl (p_asg rfl rfl) ?_
            refine rz [(4, .p .nil), (5, .i (1 : Int))] [] rfl rfl rfl ?_
            refine AW2_ret ?_
            have hz := some_elim H
            subst hz
            exact ⟨⟨res_tmp TLes.nil0, res_tmp (.same _), trivial⟩, trivial⟩
          · replace H := ite_else h6 H
            refine as2 [(0, .i mode0), (3, .q 3 (0))] [(3, .pure (GSlot.cs s1))] rfl rfl rfl ?_
            refine AW2_skip ?_
            refine sg [0] rfl ?_
            refine rp rfl rfl (p_asg rfl rfl) ?_
            refine rz [(0, .i mode0), (3, .q 3 (0)), (6, .t [0])] [(3, .pure (GSlot.cs s1))] rfl rfl rfl ?_
            refine AW2_seq ?_
            refine bindK H fun j'2 h7 H => ?_
            refine AW2_mid (⟨[(0, .i mode0), (3, .q 3 (0)), (6, .t j'2)], [(3, .pure (GSlot.cs s1))], 46⟩ : TS) ?_ ?_
            · clear H
              have H := h7
              clear h7
              refine sg [0, 1] rfl ?_
              refine rp rfl rfl (u_fa rfl rfl Tryd.underlying24 rfl in_4 (Nat.succ_ne_zero _) rfl rfl (ne_of_lt (n := 0) (Nat.lt_of_lt_of_eq (by decide) (Eq.symm (GSlot.len s1))))) ?_
              refine rp rfl rfl (u_ld rfl rfl Tryd.underlying4 rfl rfl ((Sub.refl _).trans (GSlot.sub0 s1))) ?_
              refine rz [(0, .i mode0), (3, .q 3 (0)), (6, .t [0]), (32, .b s1.Full)] [(3, .pure (GSlot.cs s1))] rfl rfl rfl ?_
              refine AW2_cond rfl (fun h8 => ?_) (fun h8 => ?_)
              · replace H := ite_then h8 H
                refine AW2_reg [0, 1, 2, 3, 4] rfl ?_
                refine rp rfl rfl (u_fa rfl rfl Tryd.underlying24 rfl in_22 (Nat.succ_ne_zero _) rfl rfl (ne_of_lt (n := 0) (Nat.lt_of_lt_of_eq (by decide) (Eq.symm (GSlot.len s1))))) ?_
                refine rp rfl rfl (u_ld rfl rfl Tryd.underlying22 rfl rfl ((Sub.refl _).trans (GSlot.sub2 s1))) ?_
                refine rp rfl rfl (p_cb rfl rfl Tryd.underlying22 Tryd.underlying5 Tryd.underlying9 rfl) ?_
                refine chkK H fun h9 H => ?_
                refine rp rfl rfl (p_cat rfl rfl rfl h9) ?_
                refine rp rfl rfl (p_asg rfl rfl) ?_
                refine rz [(0, .i mode0), (3, .q 3 (0)), (6, .t ([1] ++ s1.Data))] [(3, .pure (GSlot.cs s1))] rfl rfl rfl ?_
                have hz := some_elim H
                subst hz
                exact rfl
              · replace H := ite_else (ne_true h8) H
                refine as2 [(0, .i mode0), (3, .q 3 (0)), (6, .t [0])] [(3, .pure (GSlot.cs s1))] rfl rfl rfl ?_
                refine AW2_skip ?_
                have hz := some_elim H
                subst hz
                exact rfl
            · refine sg [0, 1, 2, 3, 4, 5, 6, 7, 8, 9, 10] rfl ?_
              refine rp rfl rfl (p_move rfl rfl) ?_
              refine rp rfl rfl (u_fa rfl rfl Tryd.underlying24 rfl in_22 (Nat.succ_ne_zero _) rfl rfl (ne_of_lt (n := 0) (Nat.lt_of_lt_of_eq (by decide) (Eq.symm (GSlot.len s1))))) ?_
              refine rp rfl rfl (u_ld rfl rfl Tryd.underlying22 rfl rfl ((Sub.refl _).trans (GSlot.sub1 s1))) ?_
              refine rp rfl rfl (p_move rfl rfl) ?_
              refine r_op rfl rfl (MakeD.opD (n_sb 41 rfl Tryd.underlying9 Tryd.underlying22 Tryd.underlying5 rfl) rfl rfl rfl rfl) ?_
              refine RunW_gho (Gho_pubs [41] ⟨rfl, trivial⟩ rfl (bl j'2) (by decide)) ?_
              refine r_op rfl rfl (MakeD.opD (u_bs 42 rfl Tryd.underlying33 in_22 rfl one_22 (by decide) (by decide) rfl rfl rfl) rfl rfl rfl rfl) ?_
              refine RunW_st [(0, .i mode0), (3, .q 3 (0)), (6, .t j'2), (37, .i mode0), (38, .q 3 (0 + 1)), (39, .y s1.Salt), (40, .t j'2), (41, .y j'2), (42, .c (.own 42 ([s1.Salt, j'2] : List (List UInt8)).length 1))] [(3, .pure (GSlot.cs s1)), (42, .pure (([s1.Salt, j'2] : List (List UInt8)).map AV.bytes))] rfl ⟨TLes.same _, TLes.same _, TLes.same _, TLes.same _, TLes.same _, TLes.same _, TLes.same _, TLes.same _, TLes.own rfl, trivial⟩ ⟨rfl, rfl, trivial⟩ ?_
              refine RunW_gho (Gho_pubs [42] ⟨rfl, trivial⟩ rfl (ml AV.bytes ([s1.Salt, j'2] : List (List UInt8))) (by decide)) ?_
              refine bindK H fun r'3 h10 H => ?_
              refine rp rfl rfl (p_callp rfl rfl rfl Tryd.func42 rfl rfl (g_ref_DigestOf_ac h10) ⟨rfl, rfl, rfl, trivial⟩) ?_
              refine rp rfl rfl (p_ext rfl rfl rfl rfl) ?_
              refine rp rfl rfl (p_ext rfl rfl rfl rfl) ?_
              refine rp rfl rfl (p_asg rfl rfl) ?_
              refine rp rfl rfl (p_asg rfl rfl) ?_
              refine rz [(4, .y r'3.1), (5, .i r'3.2)] [] rfl rfl rfl ?_
              refine AW2_ret ?_
              have hz := some_elim H
              subst hz
              exact ⟨⟨res_tmp (.same _), res_tmp (.same _), trivial⟩, trivial⟩

/-! chirographlaw.sameBytes -/
noncomputable def g_law_sameBytes (a0 : List UInt8) (b1 : List UInt8) : Option (Bool) :=
  some (decide (a0 = b1))
set_option maxHeartbeats 4000000 in
set_option maxRecDepth 100000 in
theorem g_law_sameBytes_ac {a0 : List UInt8} {b1 : List UInt8} {r : Bool} (H : g_law_sameBytes a0 b1 = some r) : ACp Tryd.prog 16 [(AV.bytes a0), (AV.bytes b1)] (AV.bool r) := by
  refine ACp_of (AC2_of_body (vs := [.b r]) Tryd.func16 rfl rfl (Nat.le_of_ble_eq_true rfl) rfl ?_) (fun _ => .same _)
  unfold g_law_sameBytes at H
  refine as2 [(0, .y a0), (1, .y b1)] [] rfl rfl rfl ?_
  refine sg [0] rfl ?_
  refine rp rfl rfl (p_asg rfl rfl) ?_
  refine rz [(0, .y a0), (1, .y b1)] [] rfl rfl rfl ?_
  refine sg [0, 1, 2, 3, 4, 5] rfl ?_
  refine rp rfl rfl (p_move rfl rfl) ?_
  refine rp rfl rfl (p_cb rfl rfl Tryd.underlying22 Tryd.underlying5 Tryd.underlying9 rfl) ?_
  refine rp rfl rfl (p_move rfl rfl) ?_
  refine rp rfl rfl (p_cb rfl rfl Tryd.underlying22 Tryd.underlying5 Tryd.underlying9 rfl) ?_
  refine rp rfl rfl (p_seq rfl rfl rfl) ?_
  refine rp rfl rfl (p_asg rfl rfl) ?_
  refine rz [(4, .b (decide (a0 = b1)))] [] rfl rfl rfl ?_
  refine AW2_ret ?_
  have hz := some_elim H
  subst hz
  exact ⟨⟨res_tmp (.same _), trivial⟩, trivial⟩

/-! chirographlaw.SlotsLeaves -/
noncomputable def g_law_SlotsLeaves (mode0 : Int) (s1 : GSlot) : Option (Bool) :=
  (g_slots_Leaf mode0 s1).bind fun r'1 => (g_ref_LeafOf mode0 s1).bind fun r'2 => ((if r'1.2 = r'2.2 then (g_law_sameBytes r'1.1 r'2.1).bind fun r'4 => some r'4 else some false)).bind fun g'5 => some g'5
set_option maxHeartbeats 4000000 in
set_option maxRecDepth 100000 in
theorem g_law_SlotsLeaves_ac {mode0 : Int} {s1 : GSlot} {r : Bool} (H : g_law_SlotsLeaves mode0 s1 = some r) : ACp Tryd.prog 3 [(AV.int mode0), (.agg (GSlot.cs s1))] (AV.bool r) := by
  refine ACp_of (AC2_of_body (vs := [.b r]) Tryd.func3 rfl rfl (Nat.le_of_ble_eq_true rfl) rfl ?_) (fun _ => .same _)
  unfold g_law_SlotsLeaves at H
  refine as2 [(0, .i mode0), (1, .g (GSlot.cs s1))] [] rfl rfl rfl ?_
  refine sg [0, 1] rfl ?_
  refine r_op rfl rfl (MakeD.opD (n_box 3 rfl rfl) rfl rfl rfl rfl) ?_
  refine rp rfl rfl (p_asg rfl rfl) ?_
  refine rz [(0, .i mode0), (3, .q 3 (0))] [(3, .pure (GSlot.cs s1))] rfl rfl rfl ?_
  refine sg [0, 1, 2, 3, 4, 5, 6, 7] rfl ?_
  refine rp rfl rfl (p_move rfl rfl) ?_
  refine rp rfl rfl (u_lda rfl rfl Tryd.underlying24 rfl in_24 rfl (Nat.succ_pos _) (Sub.refl _) (GSlot.len s1)) ?_
  refine bindK H fun r'1 h1 H => ?_
  refine rp rfl rfl (p_callp rfl rfl rfl Tryd.func14 rfl rfl (g_slots_Leaf_ac h1) ⟨rfl, rfl, trivial⟩) ?_
  refine rp rfl rfl (p_move rfl rfl) ?_
  refine rp rfl rfl (p_ext rfl rfl rfl rfl) ?_
  refine rp rfl rfl (p_ext rfl rfl rfl rfl) ?_
  refine rp rfl rfl (p_asg rfl rfl) ?_
  refine rp rfl rfl (p_asg rfl rfl) ?_
  refine rz [(0, .i mode0), (3, .q 3 (0)), (5, .y r'1.1), (6, .i r'1.2)] [(3, .pure (GSlot.cs s1))] rfl rfl rfl ?_
  refine sg [0, 1, 2, 3, 4, 5, 6, 7] rfl ?_
  refine rp rfl rfl (p_move rfl rfl) ?_
  refine rp rfl rfl (u_lda rfl rfl Tryd.underlying24 rfl in_24 rfl (Nat.succ_pos _) (Sub.refl _) (GSlot.len s1)) ?_
  refine bindK H fun r'2 h2 H => ?_
  refine rp rfl rfl (p_callp rfl rfl rfl Tryd.func15 rfl rfl (g_ref_LeafOf_ac h2) ⟨rfl, rfl, trivial⟩) ?_
  refine rp rfl rfl (p_move rfl rfl) ?_
  refine rp rfl rfl (p_ext rfl rfl rfl rfl) ?_
  refine rp rfl rfl (p_ext rfl rfl rfl rfl) ?_
  refine rp rfl rfl (p_asg rfl rfl) ?_
  refine rp rfl rfl (p_asg rfl rfl) ?_
  refine rz [(5, .y r'1.1), (6, .i r'1.2), (7, .y r'2.1), (8, .i r'2.2)] [] rfl rfl rfl ?_
  refine AW2_seq ?_
  refine bindK H fun g'5 h6 H => ?_
  refine AW2_mid (⟨[(4, .b g'5)], [], 29⟩ : TS) ?_ ?_
  · clear H
    have H := h6
    clear h6
    refine AW2_reg [0, 1, 2, 3, 4, 5, 6, 7, 8] rfl ?_
    refine rp rfl rfl (p_move rfl rfl) ?_
    refine rp rfl rfl (p_move rfl rfl) ?_
    refine rp rfl rfl (p_ieq rfl rfl rfl) ?_
    refine rp rfl rfl (p_move rfl rfl) ?_
    refine (Classical.em (r'1.2 = r'2.2)).elim (fun h4 => ?_) (fun h4 => ?_)
    · replace H := ite_then h4 H
      refine r_on rfl rfl rfl rfl (decide_eq_true (p := r'1.2 = r'2.2) h4) rfl (PureD.opD (p_move rfl rfl)) ?_
      refine r_on rfl rfl rfl rfl (decide_eq_true (p := r'1.2 = r'2.2) h4) rfl (PureD.opD (p_move rfl rfl)) ?_
      refine bindK H fun r'4 h5 H => ?_
      refine r_on rfl rfl rfl rfl (decide_eq_true (p := r'1.2 = r'2.2) h4) rfl (PureD.opD (p_callp rfl rfl rfl Tryd.func16 rfl rfl (g_law_sameBytes_ac h5) ⟨rfl, rfl, trivial⟩)) ?_
      refine rp rfl rfl (p_pkt rfl rfl (decide_eq_true (p := r'1.2 = r'2.2) h4) (.same _)) ?_
      refine rp rfl rfl (p_asg rfl rfl) ?_
      refine rs [(4, .b r'4)] [] rfl rfl rfl ?_
      have hz := some_elim H
      subst hz
      exact RunW_nil rfl
    · replace H := ite_else h4 H
      refine r_off rfl rfl rfl rfl (decide_eq_false (p := r'1.2 = r'2.2) h4) rfl rfl ?_
      refine r_off rfl rfl rfl rfl (decide_eq_false (p := r'1.2 = r'2.2) h4) rfl rfl ?_
      refine r_off rfl rfl rfl rfl (decide_eq_false (p := r'1.2 = r'2.2) h4) rfl rfl ?_
      refine rp rfl rfl (p_pkf rfl rfl (decide_eq_false (p := r'1.2 = r'2.2) h4) (.same _)) ?_
      refine rp rfl rfl (p_asg rfl rfl) ?_
      refine rs [(4, .b false)] [] rfl rfl rfl ?_
      have hz := some_elim H
      subst hz
      exact RunW_nil rfl
  · refine AW2_ret ?_
    have hz := some_elim H
    subst hz
    exact ⟨⟨res_tmp (.same _), trivial⟩, trivial⟩

/-! slots.power -/
noncomputable def g_slots_power (n0 : Int) : Option (Bool) :=
  some (decide (((n0 ≥ (1 : Int)) ∧ (n0 ≤ (64 : Int))) ∧ (iand n0 (w64 (n0 - (1 : Int))) = (0 : Int))))
set_option maxHeartbeats 4000000 in
set_option maxRecDepth 100000 in
theorem g_slots_power_ac {n0 : Int} {r : Bool} (H : g_slots_power n0 = some r) : ACp Tryd.prog 47 [(AV.int n0)] (AV.bool r) := by
  refine ACp_of (AC2_of_body (vs := [.b r]) Tryd.func47 rfl rfl (Nat.le_of_ble_eq_true rfl) rfl ?_) (fun _ => .same _)
  unfold g_slots_power at H
  refine as2 [(0, .i n0)] [] rfl rfl rfl ?_
  refine sg [0] rfl ?_
  refine rp rfl rfl (p_asg rfl rfl) ?_
  refine rz [(0, .i n0)] [] rfl rfl rfl ?_
  refine AW2_seq ?_
  refine AW2_mid (⟨[(2, .b (decide (((n0 ≥ (1 : Int)) ∧ (n0 ≤ (64 : Int))) ∧ (iand n0 (w64 (n0 - (1 : Int))) = (0 : Int)))))], [], 16⟩ : TS) ?_ ?_
  · refine AW2_reg [0, 1, 2, 3, 4, 5, 6, 7, 8, 9, 10, 11, 12, 13] rfl ?_
    refine rp rfl rfl (p_move rfl rfl) ?_
    refine rp rfl rfl (p_bin rfl rfl rfl rfl) ?_
    refine rp rfl rfl (p_move rfl rfl) ?_
    refine (Classical.em (n0 ≥ (1 : Int))).elim (fun h1 => ?_) (fun h1 => ?_)
    · refine r_on rfl rfl rfl rfl (decide_eq_true (p := n0 ≥ (1 : Int)) h1) rfl (PureD.opD (p_move rfl rfl)) ?_
      refine r_on rfl rfl rfl rfl (decide_eq_true (p := n0 ≥ (1 : Int)) h1) rfl (PureD.opD (p_bin rfl rfl rfl rfl)) ?_
      refine rp rfl rfl (p_pkt rfl rfl (decide_eq_true (p := n0 ≥ (1 : Int)) h1) (tb ((and_l (p := n0 ≥ (1 : Int)) (q := n0 ≤ (64 : Int)) h1)))) ?_
      refine rp rfl rfl (p_move rfl rfl) ?_
      refine (Classical.em (n0 ≤ (64 : Int))).elim (fun h2 => ?_) (fun h2 => ?_)
      · refine r_on rfl rfl rfl rfl (decide_eq_true (p := (n0 ≥ (1 : Int)) ∧ (n0 ≤ (64 : Int))) ⟨h1, h2⟩) rfl (PureD.opD (p_move rfl rfl)) ?_
        refine r_on rfl rfl rfl rfl (decide_eq_true (p := (n0 ≥ (1 : Int)) ∧ (n0 ≤ (64 : Int))) ⟨h1, h2⟩) rfl (PureD.opD (p_move rfl rfl)) ?_
        refine r_on rfl rfl rfl rfl (decide_eq_true (p := (n0 ≥ (1 : Int)) ∧ (n0 ≤ (64 : Int))) ⟨h1, h2⟩) rfl (PureD.opD (p_bin rfl rfl rfl rfl)) ?_
        refine r_on rfl rfl rfl rfl (decide_eq_true (p := (n0 ≥ (1 : Int)) ∧ (n0 ≤ (64 : Int))) ⟨h1, h2⟩) rfl (PureD.opD (p_bin rfl rfl rfl rfl)) ?_
        refine r_on rfl rfl rfl rfl (decide_eq_true (p := (n0 ≥ (1 : Int)) ∧ (n0 ≤ (64 : Int))) ⟨h1, h2⟩) rfl (PureD.opD (p_ieq rfl rfl rfl)) ?_
        refine rp rfl rfl (p_pkt rfl rfl (decide_eq_true (p := (n0 ≥ (1 : Int)) ∧ (n0 ≤ (64 : Int))) ⟨h1, h2⟩) (tb ((and_l (p := (n0 ≥ (1 : Int)) ∧ (n0 ≤ (64 : Int))) (q := iand n0 (w64 (n0 - (1 : Int))) = (0 : Int)) ⟨h1, h2⟩)))) ?_
        refine rp rfl rfl (p_asg rfl rfl) ?_
        refine rs [(2, .b (decide (((n0 ≥ (1 : Int)) ∧ (n0 ≤ (64 : Int))) ∧ (iand n0 (w64 (n0 - (1 : Int))) = (0 : Int)))))] [] rfl rfl rfl ?_
        exact RunW_nil rfl
      · refine r_off rfl rfl rfl rfl (decide_eq_false (p := (n0 ≥ (1 : Int)) ∧ (n0 ≤ (64 : Int))) (fun h => h2 h.2)) rfl rfl ?_
        refine r_off rfl rfl rfl rfl (decide_eq_false (p := (n0 ≥ (1 : Int)) ∧ (n0 ≤ (64 : Int))) (fun h => h2 h.2)) rfl rfl ?_
        refine r_off rfl rfl rfl rfl (decide_eq_false (p := (n0 ≥ (1 : Int)) ∧ (n0 ≤ (64 : Int))) (fun h => h2 h.2)) rfl rfl ?_
        refine r_off rfl rfl rfl rfl (decide_eq_false (p := (n0 ≥ (1 : Int)) ∧ (n0 ≤ (64 : Int))) (fun h => h2 h.2)) rfl rfl ?_
        refine r_off rfl rfl rfl rfl (decide_eq_false (p := (n0 ≥ (1 : Int)) ∧ (n0 ≤ (64 : Int))) (fun h => h2 h.2)) rfl rfl ?_
        refine rp rfl rfl (p_pkf rfl rfl (decide_eq_false (p := (n0 ≥ (1 : Int)) ∧ (n0 ≤ (64 : Int))) (fun h => h2 h.2)) (tb (decide_eq_false (p := ((n0 ≥ (1 : Int)) ∧ (n0 ≤ (64 : Int))) ∧ (iand n0 (w64 (n0 - (1 : Int))) = (0 : Int))) (fun x => (fun h => h2 h.2) x.1)).symm)) ?_
        refine rp rfl rfl (p_asg rfl rfl) ?_
        refine rs [(2, .b (decide (((n0 ≥ (1 : Int)) ∧ (n0 ≤ (64 : Int))) ∧ (iand n0 (w64 (n0 - (1 : Int))) = (0 : Int)))))] [] rfl rfl rfl ?_
        exact RunW_nil rfl
    · refine r_off rfl rfl rfl rfl (decide_eq_false (p := n0 ≥ (1 : Int)) h1) rfl rfl ?_
      refine r_off rfl rfl rfl rfl (decide_eq_false (p := n0 ≥ (1 : Int)) h1) rfl rfl ?_
      refine rp rfl rfl (p_pkf rfl rfl (decide_eq_false (p := n0 ≥ (1 : Int)) h1) (tb (decide_eq_false (p := (n0 ≥ (1 : Int)) ∧ (n0 ≤ (64 : Int))) (fun x => h1 x.1)).symm)) ?_
      refine rp rfl rfl (p_move rfl rfl) ?_
      refine r_off rfl rfl rfl rfl (decide_eq_false (p := (n0 ≥ (1 : Int)) ∧ (n0 ≤ (64 : Int))) (fun h => h1 h.1)) rfl rfl ?_
      refine r_off rfl rfl rfl rfl (decide_eq_false (p := (n0 ≥ (1 : Int)) ∧ (n0 ≤ (64 : Int))) (fun h => h1 h.1)) rfl rfl ?_
      refine r_off rfl rfl rfl rfl (decide_eq_false (p := (n0 ≥ (1 : Int)) ∧ (n0 ≤ (64 : Int))) (fun h => h1 h.1)) rfl rfl ?_
      refine r_off rfl rfl rfl rfl (decide_eq_false (p := (n0 ≥ (1 : Int)) ∧ (n0 ≤ (64 : Int))) (fun h => h1 h.1)) rfl rfl ?_
      refine r_off rfl rfl rfl rfl (decide_eq_false (p := (n0 ≥ (1 : Int)) ∧ (n0 ≤ (64 : Int))) (fun h => h1 h.1)) rfl rfl ?_
      refine rp rfl rfl (p_pkf rfl rfl (decide_eq_false (p := (n0 ≥ (1 : Int)) ∧ (n0 ≤ (64 : Int))) (fun h => h1 h.1)) (tb (decide_eq_false (p := ((n0 ≥ (1 : Int)) ∧ (n0 ≤ (64 : Int))) ∧ (iand n0 (w64 (n0 - (1 : Int))) = (0 : Int))) (fun x => (fun h => h1 h.1) x.1)).symm)) ?_
      refine rp rfl rfl (p_asg rfl rfl) ?_
      refine rs [(2, .b (decide (((n0 ≥ (1 : Int)) ∧ (n0 ≤ (64 : Int))) ∧ (iand n0 (w64 (n0 - (1 : Int))) = (0 : Int)))))] [] rfl rfl rfl ?_
      exact RunW_nil rfl
  · refine AW2_ret ?_
    have hz := some_elim H
    subst hz
    exact ⟨⟨res_tmp (.same _), trivial⟩, trivial⟩

/-! slots.leaves -/
noncomputable def g_slots_leaves_l0 (mode0 : Int) (l1 : List GSlot) : Int × (List (List UInt8)) → Option ((Int × (List (List UInt8))) ⊕ (((List (List UInt8)) × Int) ⊕ ((List (List UInt8)))))
  | (t20_0, out6_0) => (if t20_0 < (l1.length : Int) then if 0 ≤ t20_0 ∧ t20_0 < (l1.length : Int) then (g_slots_Leaf mode0 (lrd l1 t20_0.toNat)).bind fun r'3 => (if r'3.2 ≠ (0 : Int) then some (.inr (.inl (([] : List (List UInt8)), r'3.2))) else if room (out6_0.length + ([r'3.1] : List (List UInt8)).length) 24 then some (.inl (w64 (t20_0 + (1 : Int)), out6_0 ++ ([r'3.1] : List (List UInt8)))) else none) else none else some (.inr (.inr out6_0)))
noncomputable def g_slots_leaves (mode0 : Int) (l1 : List GSlot) : Option ((List (List UInt8)) × Int) :=
  (g_slots_modes mode0).bind fun r'1 => (if (!r'1) = true then some (([] : List (List UInt8)), (2 : Int)) else (g_slots_power (l1.length : Int)).bind fun r'2 => (if (!r'2) = true then some (([] : List (List UInt8)), (1 : Int)) else (loopO (g_slots_leaves_l0 mode0 l1) ((0 : Int), ([] : List (List UInt8)))).bind fun o'7 => match o'7 with | .inl y'8 => some y'8 | .inr (y'9) => some (y'9, (0 : Int))))
set_option maxHeartbeats 4000000 in
set_option maxRecDepth 100000 in
theorem g_slots_leaves_ac2 {mode0 : Int} {l1 : List GSlot} {r : (List (List UInt8)) × Int} (H : g_slots_leaves mode0 l1 = some r) : AC2 Tryd.prog 43 (pureT [(AV.int mode0), ((fun q : List GSlot => AV.lst (q.flatMap GSlot.cs) q.length) l1)]) [] (retV [.c (.own 4 r.1.length 1), .i r.2]) [(4, .pure (r.1.map AV.bytes))] := by
  refine AC2_of_body (vs := [.c (.own 4 r.1.length 1), .i r.2]) Tryd.func43 rfl rfl (Nat.le_of_ble_eq_true rfl) rfl ?_
  unfold g_slots_leaves at H
  refine as2 [(0, .i mode0), (1, .p ((fun q : List GSlot => AV.lst (q.flatMap GSlot.cs) q.length) l1))] [] rfl rfl rfl ?_
  refine sg [0, 1] rfl ?_
  refine rp rfl rfl (p_asgn rfl) ?_
  refine rp rfl rfl (p_asg rfl rfl) ?_
  refine rz [(0, .i mode0), (1, .p ((fun q : List GSlot => AV.lst (q.flatMap GSlot.cs) q.length) l1))] [] rfl rfl rfl ?_
  refine AW2_seq ?_
  refine sg [0, 1, 2] rfl ?_
  refine rp rfl rfl (p_move rfl rfl) ?_
  refine bindK H fun r'1 h1 H => ?_
  refine rp rfl rfl (p_callp rfl rfl rfl Tryd.func39 rfl rfl (g_slots_modes_ac h1) ⟨rfl, trivial⟩) ?_
  refine rp rfl rfl (p_not rfl rfl) ?_
  refine rz [(0, .i mode0), (1, .p ((fun q : List GSlot => AV.lst (q.flatMap GSlot.cs) q.length) l1)), (13, .b (!r'1))] [] rfl rfl rfl ?_
  refine AW2_cond rfl (fun h2 => ?_) (fun h2 => ?_)
  · replace H := ite_then h2 H
    refine sg [0, 1] rfl ?_
    refine rp rfl rfl (p_asgn rfl) ?_
    refine rp rfl rfl (p_asg rfl rfl) ?_
    refine rz [(4, .p .nil), (5, .i (2 : Int))] [] rfl rfl rfl ?_
    refine as2 [(4, .p .nil), (5, .i (2 : Int))] [] rfl rfl rfl ?_
    refine AW2_gho (Gho_own (d := 4) (b := 4) (z := 1) rfl rfl rfl rfl) ?_
    refine AW2_st [(4, .c (.own 4 ([] : List (List UInt8)).length 1)), (5, .i (2 : Int))] [(4, .pure (([] : List (List UInt8)).map AV.bytes))] rfl ⟨TLes.own rfl, TLes.same _, trivial⟩ ⟨rfl, trivial⟩ ?_
    refine AW2_ret ?_
    have hz := some_elim H
    subst hz
    exact ⟨⟨res_tmp (.same _), res_tmp (.same _), trivial⟩, ⟨rfl, trivial⟩⟩
  · replace H := ite_else (ne_true h2) H
    refine as2 [(0, .i mode0), (1, .p ((fun q : List GSlot => AV.lst (q.flatMap GSlot.cs) q.length) l1))] [] rfl rfl rfl ?_
    refine AW2_skip ?_
    refine AW2_seq ?_
    refine sg [0, 1, 2, 3] rfl ?_
    refine rp rfl rfl (p_move rfl rfl) ?_
    refine rp rfl rfl (p_lenl rfl Tryd.underlying30 rfl rfl) ?_
    refine bindK H fun r'2 h3 H => ?_
    refine rp rfl rfl (p_callp rfl rfl rfl Tryd.func47 rfl rfl (g_slots_power_ac h3) ⟨rfl, trivial⟩) ?_
    refine rp rfl rfl (p_not rfl rfl) ?_
    refine rz [(0, .i mode0), (1, .p ((fun q : List GSlot => AV.lst (q.flatMap GSlot.cs) q.length) l1)), (17, .b (!r'2))] [] rfl rfl rfl ?_
    refine AW2_cond rfl (fun h4 => ?_) (fun h4 => ?_)
    · replace H := ite_then h4 H
      refine sg [0, 1] rfl ?_
      refine rp rfl rfl (p_asgn rfl) ?_
      refine rp rfl rfl (p_asg rfl rfl) ?_
      refine rz [(4, .p .nil), (5, .i (1 : Int))] [] rfl rfl rfl ?_
      refine as2 [(4, .p .nil), (5, .i (1 : Int))] [] rfl rfl rfl ?_
      refine AW2_gho (Gho_own (d := 4) (b := 4) (z := 1) rfl rfl rfl rfl) ?_
      refine AW2_st [(4, .c (.own 4 ([] : List (List UInt8)).length 1)), (5, .i (1 : Int))] [(4, .pure (([] : List (List UInt8)).map AV.bytes))] rfl ⟨TLes.own rfl, TLes.same _, trivial⟩ ⟨rfl, trivial⟩ ?_
      refine AW2_ret ?_
      have hz := some_elim H
      subst hz
      exact ⟨⟨res_tmp (.same _), res_tmp (.same _), trivial⟩, ⟨rfl, trivial⟩⟩
    · replace H := ite_else (ne_true h4) H
      refine as2 [(0, .i mode0), (1, .p ((fun q : List GSlot => AV.lst (q.flatMap GSlot.cs) q.length) l1))] [] rfl rfl rfl ?_
      refine AW2_skip ?_
      refine sg [0] rfl ?_
      refine rp rfl rfl (p_asgn rfl) ?_
      refine rz [(0, .i mode0), (1, .p ((fun q : List GSlot => AV.lst (q.flatMap GSlot.cs) q.length) l1)), (6, .p .nil)] [] rfl rfl rfl ?_
      refine AW2_seq ?_
      refine sg [0, 1, 2] rfl ?_
      refine rp rfl rfl (p_move rfl rfl) ?_
      refine rp rfl rfl (p_lenl rfl Tryd.underlying30 rfl rfl) ?_
      refine rp rfl rfl (p_move rfl rfl) ?_
      refine rz [(0, .i mode0), (6, .p .nil), (18, .p ((fun q : List GSlot => AV.lst (q.flatMap GSlot.cs) q.length) l1)), (19, .i (l1.length : Int)), (20, .i (0 : Int))] [] rfl rfl rfl ?_
      refine AW2_block ?_
      refine as2 [(0, .i mode0), (6, .p .nil), (18, .p ((fun q : List GSlot => AV.lst (q.flatMap GSlot.cs) q.length) l1)), (19, .i (l1.length : Int)), (20, .i (0 : Int))] [] rfl rfl rfl ?_
      refine AW2_gho (Gho_own (d := 6) (b := 6) (z := 1) rfl rfl rfl rfl) ?_
      refine AW2_st [(0, .i mode0), (6, .c (.own 6 ([] : List (List UInt8)).length 1)), (18, .p ((fun q : List GSlot => AV.lst (q.flatMap GSlot.cs) q.length) l1)), (19, .i (l1.length : Int)), (20, .i (0 : Int))] [(6, .pure (([] : List (List UInt8)).map AV.bytes))] rfl ⟨TLes.same _, TLes.own rfl, TLes.same _, TLes.same _, TLes.same _, trivial⟩ ⟨rfl, trivial⟩ ?_
      refine bindK H fun o'7 h10 H => ?_
      refine AW2_loopO (fun a'4 : Int × (List (List UInt8)) => (⟨[(0, .i mode0), (6, .c (.own 6 a'4.2.length 1)), (18, .p ((fun q : List GSlot => AV.lst (q.flatMap GSlot.cs) q.length) l1)), (19, .i (l1.length : Int)), (20, .i a'4.1)], [(6, .pure (a'4.2.map AV.bytes))], 39⟩ : TS)) (fun (o : ((List (List UInt8)) × Int) ⊕ ((List (List UInt8)))) e s' => match o with | .inl y'5 => e = Go.Exit.ret ∧ ResAll Tryd.prog s' [ResultVar.tmp 4, ResultVar.tmp 5] [.c (.own 4 y'5.1.length 1), .i y'5.2] ∧ HFits s' [(4, .pure (y'5.1.map AV.bytes))] | .inr (y'6) => e = Go.Exit.exit 0 ∧ s' = (⟨[(6, .c (.own 6 y'6.length 1))], [(6, .pure (y'6.map AV.bytes))], 39⟩ : TS)) h10 rfl (fun a x hx => ?_) (fun e s' hs => ?_)
      · clear H
        obtain ⟨t20_0, out6_0⟩ := a
        have H := hx
        clear hx
        unfold g_slots_leaves_l0 at H
        refine sg [0] rfl ?_
        refine rp rfl rfl (p_bin rfl rfl rfl rfl) ?_
        refine rz [(0, .i mode0), (6, .c (.own 6 out6_0.length 1)), (18, .p ((fun q : List GSlot => AV.lst (q.flatMap GSlot.cs) q.length) l1)), (19, .i (l1.length : Int)), (20, .i t20_0), (21, .b (decide (t20_0 < (l1.length : Int))))] [(6, .pure (out6_0.map AV.bytes))] rfl rfl rfl ?_
        refine AW2_seq ?_
        refine AW2_if (p := t20_0 < (l1.length : Int)) rfl (fun h5 => ?_) (fun h5 => ?_)
        · replace H := ite_then h5 H
          refine as2 [(0, .i mode0), (6, .c (.own 6 out6_0.length 1)), (18, .p ((fun q : List GSlot => AV.lst (q.flatMap GSlot.cs) q.length) l1)), (19, .i (l1.length : Int)), (20, .i t20_0)] [(6, .pure (out6_0.map AV.bytes))] rfl rfl rfl ?_
          refine AW2_skip ?_
          refine AW2_seq ?_
          refine AW2_block ?_
          refine sg [0, 1, 2, 3] rfl ?_
          refine chkK H fun h6 H => ?_
          refine rp rfl rfl (u_ixl rfl rfl Tryd.underlying30 in_24 rfl rfl (ixe h6) (ixn h6) (fne (fun x => (GSlot.len x)) (by decide) (ixn h6))) ?_
          refine rp rfl rfl (u_lda rfl rfl Tryd.underlying24 rfl in_24 rfl (Nat.succ_pos _) (Sub.fm default (fun x => (GSlot.len x)) (ixn h6)) (GSlot.len (lrd l1 t20_0.toNat))) ?_
          refine r_op rfl rfl (MakeD.opD (u_alloc 8 rfl in_24 one_24 zc_24) rfl rfl rfl rfl) ?_
          refine r_op rfl rfl (u_st rfl rfl rfl rfl rfl in_24 (GSlot.len (lrd l1 t20_0.toNat)) (ne_of_lt (n := 0) (Nat.lt_of_lt_of_eq (by decide) (Eq.symm (GSlot.len GSlot.zero)))) (Upd.refl ((GSlot.len (lrd l1 t20_0.toNat)).trans (GSlot.len GSlot.zero).symm))) ?_
          refine rz [(0, .i mode0), (6, .c (.own 6 out6_0.length 1)), (8, .q 8 (0)), (18, .p ((fun q : List GSlot => AV.lst (q.flatMap GSlot.cs) q.length) l1)), (19, .i (l1.length : Int)), (20, .i t20_0)] [(6, .pure (out6_0.map AV.bytes)), (8, .pure (GSlot.cs (lrd l1 t20_0.toNat)))] rfl rfl rfl ?_
          refine sg [0, 1, 2, 3, 4, 5, 6, 7] rfl ?_
          refine rp rfl rfl (p_move rfl rfl) ?_
          refine rp rfl rfl (u_lda rfl rfl Tryd.underlying24 rfl in_24 rfl (Nat.succ_pos _) (Sub.refl _) (GSlot.len (lrd l1 t20_0.toNat))) ?_
          refine bindK H fun r'3 h7 H => ?_
          refine rp rfl rfl (p_callp rfl rfl rfl Tryd.func14 rfl rfl (g_slots_Leaf_ac h7) ⟨rfl, rfl, trivial⟩) ?_
          refine rp rfl rfl (p_move rfl rfl) ?_
          refine rp rfl rfl (p_ext rfl rfl rfl rfl) ?_
          refine rp rfl rfl (p_ext rfl rfl rfl rfl) ?_
          refine rp rfl rfl (p_asg rfl rfl) ?_
          refine rp rfl rfl (p_asg rfl rfl) ?_
          refine rz [(0, .i mode0), (6, .c (.own 6 out6_0.length 1)), (9, .y r'3.1), (10, .i r'3.2), (18, .p ((fun q : List GSlot => AV.lst (q.flatMap GSlot.cs) q.length) l1)), (19, .i (l1.length : Int)), (20, .i t20_0)] [(6, .pure (out6_0.map AV.bytes))] rfl rfl rfl ?_
          refine AW2_seq ?_
          refine sg [0, 1] rfl ?_
          refine rp rfl rfl (p_move rfl rfl) ?_
          refine rp rfl rfl (p_ine rfl rfl rfl) ?_
          refine rz [(0, .i mode0), (6, .c (.own 6 out6_0.length 1)), (9, .y r'3.1), (10, .i r'3.2), (18, .p ((fun q : List GSlot => AV.lst (q.flatMap GSlot.cs) q.length) l1)), (19, .i (l1.length : Int)), (20, .i t20_0), (31, .b (decide (r'3.2 ≠ (0 : Int))))] [(6, .pure (out6_0.map AV.bytes))] rfl rfl rfl ?_
          refine AW2_if (p := r'3.2 ≠ (0 : Int)) rfl (fun h8 => ?_) (fun h8 => ?_)
          · replace H := ite_then h8 H
            refine sg [0, 1, 2] rfl ?_
            refine rp rfl rfl (p_move rfl rfl) ?_
            refine rp rfl rfl (p_asgn rfl) ?_
            refine rp rfl rfl (p_asg rfl rfl) ?_
            refine rz [(4, .p .nil), (5, .i r'3.2)] [] rfl rfl rfl ?_
            refine as2 [(4, .p .nil), (5, .i r'3.2)] [] rfl rfl rfl ?_
            refine AW2_gho (Gho_own (d := 4) (b := 4) (z := 1) rfl rfl rfl rfl) ?_
            refine AW2_st [(4, .c (.own 4 ([] : List (List UInt8)).length 1)), (5, .i r'3.2)] [(4, .pure (([] : List (List UInt8)).map AV.bytes))] rfl ⟨TLes.own rfl, TLes.same _, trivial⟩ ⟨rfl, trivial⟩ ?_
            refine AW2_ret ?_
            have hz := some_elim H
            subst hz
            exact ⟨rfl, ⟨res_tmp (.same _), res_tmp (.same _), trivial⟩, ⟨rfl, trivial⟩⟩
          · replace H := ite_else h8 H
            refine as2 [(0, .i mode0), (6, .c (.own 6 out6_0.length 1)), (9, .y r'3.1), (18, .p ((fun q : List GSlot => AV.lst (q.flatMap GSlot.cs) q.length) l1)), (19, .i (l1.length : Int)), (20, .i t20_0)] [(6, .pure (out6_0.map AV.bytes))] rfl rfl rfl ?_
            refine AW2_skip ?_
            refine AW2_reg [0, 1, 2, 3, 4] rfl ?_
            refine rp rfl rfl (p_move rfl rfl) ?_
            refine rp rfl rfl (p_move rfl rfl) ?_
            refine r_op rfl rfl (MakeD.opD (u_bs 35 rfl Tryd.underlying33 in_22 rfl one_22 (by decide) (by decide) rfl rfl rfl) rfl rfl rfl rfl) ?_
            refine chkK H fun h9 H => ?_
            refine r_op rfl rfl (u_app [6, 33] rfl rfl rfl rfl Tryd.underlying33 Tryd.underlying33 in_22 rfl rfl rfl (ml AV.bytes out6_0) (by decide) (srcT_o rfl rfl (ml AV.bytes ([r'3.1] : List (List UInt8))) (by decide)) (ml AV.bytes ([r'3.1] : List (List UInt8))) h9 (by decide) rfl rfl (mapp AV.bytes out6_0 ([r'3.1] : List (List UInt8))) (lapp out6_0 ([r'3.1] : List (List UInt8)))) ?_
            refine rp rfl rfl (p_asg rfl rfl) ?_
            refine rz [(0, .i mode0), (6, .c (.own 6 (out6_0 ++ ([r'3.1] : List (List UInt8))).length 1)), (18, .p ((fun q : List GSlot => AV.lst (q.flatMap GSlot.cs) q.length) l1)), (19, .i (l1.length : Int)), (20, .i t20_0)] [(6, .pure ((out6_0 ++ ([r'3.1] : List (List UInt8))).map AV.bytes))] rfl rfl rfl ?_
            refine AW2_reg [0, 1] rfl ?_
            refine rp rfl rfl (p_bin rfl rfl rfl rfl) ?_
            refine rp rfl rfl (p_move rfl rfl) ?_
            refine rz [(0, .i mode0), (6, .c (.own 6 (out6_0 ++ ([r'3.1] : List (List UInt8))).length 1)), (18, .p ((fun q : List GSlot => AV.lst (q.flatMap GSlot.cs) q.length) l1)), (19, .i (l1.length : Int)), (20, .i (w64 (t20_0 + (1 : Int))))] [(6, .pure ((out6_0 ++ ([r'3.1] : List (List UInt8))).map AV.bytes))] rfl rfl rfl ?_
            have hz := some_elim H
            subst hz
            exact ⟨rfl, rfl⟩
        · replace H := ite_else h5 H
          refine as2 [(6, .c (.own 6 out6_0.length 1))] [(6, .pure (out6_0.map AV.bytes))] rfl rfl rfl ?_
          refine AW2_exit ?_
          refine thenQ2_exit ?_
          have hz := some_elim H
          subst hz
          exact ⟨rfl, rfl⟩
      · rcases o'7 with y'8 | y'9
        · obtain ⟨rfl, hs⟩ := hs
          refine ⟨by simp, ?_⟩
          have hz := some_elim H
          subst hz
          exact ⟨hs.1, hs.2⟩
        · obtain ⟨rfl, rfl⟩ := hs
          refine ⟨by simp, ?_⟩
          refine blockQ2_exit ?_
          refine sg [0, 1, 2] rfl ?_
          refine rp rfl rfl (p_move rfl rfl) ?_
          refine rp rfl rfl (p_asg rfl rfl) ?_
          refine rp rfl rfl (p_asg rfl rfl) ?_
          refine rs [(4, .c (.own 6 y'9.length 1)), (5, .i (0 : Int))] [(6, .pure (y'9.map AV.bytes))] rfl rfl rfl ?_
          refine RunW_gho (Gho_ren 6 4 rfl rfl rfl rfl rfl) ?_
          refine rz [(4, .c (.own 4 y'9.length 1)), (5, .i (0 : Int))] [(4, .pure (y'9.map AV.bytes))] rfl rfl rfl ?_
          refine as2 [(4, .c (.own 4 y'9.length 1)), (5, .i (0 : Int))] [(4, .pure (y'9.map AV.bytes))] rfl rfl rfl ?_
          refine AW2_ret ?_
          have hz := some_elim H
          subst hz
          exact ⟨⟨res_tmp (.same _), res_tmp (.same _), trivial⟩, ⟨rfl, trivial⟩⟩
theorem g_slots_leaves_ac {mode0 : Int} {l1 : List GSlot} {r : (List (List UInt8)) × Int} (H : g_slots_leaves mode0 l1 = some r) : ACp Tryd.prog 43 [(AV.int mode0), ((fun q : List GSlot => AV.lst (q.flatMap GSlot.cs) q.length) l1)] (.tup [(AV.lists r.1), (AV.int r.2)]) := ACp_pub (g_slots_leaves_ac2 H) (fun _ _ hm => lent_tup ⟨lent_own hm rfl (ml AV.bytes r.1) (by decide), .same _, trivial⟩)

/-! slots.node -/
noncomputable def g_slots_node (mode0 : Int) (l1 : List UInt8) (r2 : List UInt8) : Option ((List UInt8) × Int) :=
  (g_oracle_Digest mode0 (2 : Int) ([l1, r2] : List (List UInt8))).bind fun r'1 => some (r'1.1, r'1.2)
set_option maxHeartbeats 4000000 in
set_option maxRecDepth 100000 in
theorem g_slots_node_ac {mode0 : Int} {l1 : List UInt8} {r2 : List UInt8} {r : (List UInt8) × Int} (H : g_slots_node mode0 l1 r2 = some r) : ACp Tryd.prog 48 [(AV.int mode0), (AV.bytes l1), (AV.bytes r2)] (.tup [(AV.bytes r.1), (AV.int r.2)]) := by
  refine ACp_of (AC2_of_body (vs := [.y r.1, .i r.2]) Tryd.func48 rfl rfl (Nat.le_of_ble_eq_true rfl) rfl ?_) (fun _ => .same _)
  unfold g_slots_node at H
  refine as2 [(0, .i mode0), (1, .y l1), (2, .y r2)] [] rfl rfl rfl ?_
  refine sg [0, 1] rfl ?_
  refine rp rfl rfl (p_asgn rfl) ?_
  refine rp rfl rfl (p_asg rfl rfl) ?_
  refine rz [(0, .i mode0), (1, .y l1), (2, .y r2)] [] rfl rfl rfl ?_
  refine sg [0, 1, 2, 3, 4, 5, 6, 7, 8] rfl ?_
  refine rp rfl rfl (p_move rfl rfl) ?_
  refine rp rfl rfl (p_move rfl rfl) ?_
  refine rp rfl rfl (p_move rfl rfl) ?_
  refine r_op rfl rfl (MakeD.opD (u_bs 11 rfl Tryd.underlying33 in_22 rfl one_22 (by decide) (by decide) rfl rfl rfl) rfl rfl rfl rfl) ?_
  refine RunW_st [(0, .i mode0), (1, .y l1), (2, .y r2), (8, .i mode0), (9, .y l1), (10, .y r2), (11, .c (.own 11 ([l1, r2] : List (List UInt8)).length 1))] [(11, .pure (([l1, r2] : List (List UInt8)).map AV.bytes))] rfl ⟨TLes.same _, TLes.same _, TLes.same _, TLes.same _, TLes.same _, TLes.same _, TLes.own rfl, trivial⟩ ⟨rfl, trivial⟩ ?_
  refine RunW_gho (Gho_pubs [11] ⟨rfl, trivial⟩ rfl (ml AV.bytes ([l1, r2] : List (List UInt8))) (by decide)) ?_
  refine bindK H fun r'1 h1 H => ?_
  refine rp rfl rfl (p_callp rfl rfl rfl Tryd.func40 rfl rfl (g_oracle_Digest_ac h1) ⟨rfl, rfl, rfl, trivial⟩) ?_
  refine rp rfl rfl (p_ext rfl rfl rfl rfl) ?_
  refine rp rfl rfl (p_ext rfl rfl rfl rfl) ?_
  refine rp rfl rfl (p_asg rfl rfl) ?_
  refine rp rfl rfl (p_asg rfl rfl) ?_
  refine rz [(6, .y r'1.1), (7, .i r'1.2)] [] rfl rfl rfl ?_
  refine AW2_ret ?_
  have hz := some_elim H
  subst hz
  exact ⟨⟨res_tmp (.same _), res_tmp (.same _), trivial⟩, trivial⟩

/-! slots.up -/
noncomputable def g_slots_up_l0 (mode0 : Int) (row1 : List (List UInt8)) : Int × (List (List UInt8)) → Option ((Int × (List (List UInt8))) ⊕ (((List (List UInt8)) × Int) ⊕ ((List (List UInt8)))))
  | (i7_0, next6_0) => (if w64 (i7_0 + (1 : Int)) < (row1.length : Int) then if 0 ≤ i7_0 ∧ i7_0 < (row1.length : Int) then if 0 ≤ w64 (i7_0 + (1 : Int)) ∧ w64 (i7_0 + (1 : Int)) < (row1.length : Int) then (g_slots_node mode0 (lrd row1 i7_0.toNat) (lrd row1 ((w64 (i7_0 + (1 : Int))).toNat))).bind fun r'1 => (if r'1.2 ≠ (0 : Int) then some (.inr (.inl (([] : List (List UInt8)), r'1.2))) else if room (next6_0.length + ([r'1.1] : List (List UInt8)).length) 24 then some (.inl (w64 (i7_0 + (2 : Int)), next6_0 ++ ([r'1.1] : List (List UInt8)))) else none) else none else none else some (.inr (.inr next6_0)))
noncomputable def g_slots_up (mode0 : Int) (row1 : List (List UInt8)) : Option ((List (List UInt8)) × Int) :=
  (loopO (g_slots_up_l0 mode0 row1) ((0 : Int), ([] : List (List UInt8)))).bind fun o'5 => match o'5 with | .inl y'6 => some y'6 | .inr (y'7) => some (y'7, (0 : Int))
set_option maxHeartbeats 4000000 in
set_option maxRecDepth 100000 in
theorem g_slots_up_ac2 {mode0 : Int} {row1 : List (List UInt8)} {r : (List (List UInt8)) × Int} (H : g_slots_up mode0 row1 = some r) : AC2 Tryd.prog 44 (pureT [(AV.int mode0), (AV.lists row1)]) [] (retV [.c (.own 4 r.1.length 1), .i r.2]) [(4, .pure (r.1.map AV.bytes))] := by
  refine AC2_of_body (vs := [.c (.own 4 r.1.length 1), .i r.2]) Tryd.func44 rfl rfl (Nat.le_of_ble_eq_true rfl) rfl ?_
  unfold g_slots_up at H
  refine as2 [(0, .i mode0), (1, .p (AV.lists row1))] [] rfl rfl rfl ?_
  refine sg [0, 1] rfl ?_
  refine rp rfl rfl (p_asgn rfl) ?_
  refine rp rfl rfl (p_asg rfl rfl) ?_
  refine rz [(0, .i mode0), (1, .p (AV.lists row1))] [] rfl rfl rfl ?_
  refine sg [0] rfl ?_
  refine rp rfl rfl (p_asgn rfl) ?_
  refine rz [(0, .i mode0), (1, .p (AV.lists row1)), (6, .p .nil)] [] rfl rfl rfl ?_
  refine AW2_seq ?_
  refine sg [0] rfl ?_
  refine rp rfl rfl (p_asg rfl rfl) ?_
  refine rz [(0, .i mode0), (1, .p (AV.lists row1)), (6, .p .nil), (7, .i (0 : Int))] [] rfl rfl rfl ?_
  refine AW2_block ?_
  refine as2 [(0, .i mode0), (1, .p (AV.lists row1)), (6, .p .nil), (7, .i (0 : Int))] [] rfl rfl rfl ?_
  refine AW2_gho (Gho_own (d := 6) (b := 6) (z := 1) rfl rfl rfl rfl) ?_
  refine AW2_st [(0, .i mode0), (1, .p (AV.lists row1)), (6, .c (.own 6 ([] : List (List UInt8)).length 1)), (7, .i (0 : Int))] [(6, .pure (([] : List (List UInt8)).map AV.bytes))] rfl ⟨TLes.same _, TLes.same _, TLes.own rfl, TLes.same _, trivial⟩ ⟨rfl, trivial⟩ ?_
  refine bindK H fun o'5 h7 H => ?_
  refine AW2_loopO (fun a'2 : Int × (List (List UInt8)) => (⟨[(0, .i mode0), (1, .p (AV.lists row1)), (6, .c (.own 6 a'2.2.length 1)), (7, .i a'2.1)], [(6, .pure (a'2.2.map AV.bytes))], 39⟩ : TS)) (fun (o : ((List (List UInt8)) × Int) ⊕ ((List (List UInt8)))) e s' => match o with | .inl y'3 => e = Go.Exit.ret ∧ ResAll Tryd.prog s' [ResultVar.tmp 4, ResultVar.tmp 5] [.c (.own 4 y'3.1.length 1), .i y'3.2] ∧ HFits s' [(4, .pure (y'3.1.map AV.bytes))] | .inr (y'4) => e = Go.Exit.exit 0 ∧ s' = (⟨[(6, .c (.own 6 y'4.length 1))], [(6, .pure (y'4.map AV.bytes))], 39⟩ : TS)) h7 rfl (fun a x hx => ?_) (fun e s' hs => ?_)
  · clear H
    obtain ⟨i7_0, next6_0⟩ := a
    have H := hx
    clear hx
    unfold g_slots_up_l0 at H
    refine AW2_seq ?_
    refine sg [0, 1, 2, 3, 4] rfl ?_
    refine rp rfl rfl (p_move rfl rfl) ?_
    refine rp rfl rfl (p_bin rfl rfl rfl rfl) ?_
    refine rp rfl rfl (p_move rfl rfl) ?_
    refine rp rfl rfl (p_lenl rfl Tryd.underlying33 rfl rfl) ?_
    refine rp rfl rfl (p_bin rfl rfl rfl rfl) ?_
    refine rz [(0, .i mode0), (1, .p (AV.lists row1)), (6, .c (.own 6 next6_0.length 1)), (7, .i i7_0), (14, .b (decide (w64 (i7_0 + (1 : Int)) < (row1.length : Int))))] [(6, .pure (next6_0.map AV.bytes))] rfl rfl rfl ?_
    refine AW2_if (p := w64 (i7_0 + (1 : Int)) < (row1.length : Int)) rfl (fun h1 => ?_) (fun h1 => ?_)
    · replace H := ite_then h1 H
      refine as2 [(0, .i mode0), (1, .p (AV.lists row1)), (6, .c (.own 6 next6_0.length 1)), (7, .i i7_0)] [(6, .pure (next6_0.map AV.bytes))] rfl rfl rfl ?_
      refine AW2_skip ?_
      refine AW2_seq ?_
      refine AW2_block ?_
      refine AW2_seq ?_
      refine chkK H fun h2 H => ?_
      refine chkK H fun h3 H => ?_
      refine bindK H fun r'1 h4 H => ?_
      refine AW2_ghoQ ?_
      refine AW2_draw 15 [15] (fun k => ([.i mode0, .p (AV.lists row1), .i i7_0, .p (.rptr (row1.map AV.bytes) (i7_0.toNat * 1)), .y (lrd row1 i7_0.toNat), .p (AV.lists row1), .i i7_0, .i (w64 (i7_0 + (1 : Int))), .p (.rptr (row1.map AV.bytes) (((w64 (i7_0 + (1 : Int))).toNat) * 1)), .y (lrd row1 ((w64 (i7_0 + (1 : Int))).toNat)), .p (.tup [(AV.bytes r'1.1), (AV.int r'1.2)]), .p (.tup [(AV.bytes r'1.1), (AV.int r'1.2)]), .y r'1.1, .i r'1.2, .y r'1.1] : List TV).getD k TV.any) (fun k => ([[(0, none)], [(1, none)], [(7, none)], [(19, some 1), (20, some 2)], [(21, some 3)], [(1, none)], [(7, none)], [(24, some 6)], [(23, some 5), (25, some 7)], [(26, some 8)], [(18, some 0), (22, some 4), (27, some 9)], [(28, some 10)], [(17, some 11)], [(17, some 11)], [(29, some 12)]] : List (List (Nat × Option Nat))).getD k []) [(0, none), (1, none), (6, none), (7, none), (8, some 14), (30, some 13)] [] (fun k => ([[], [], [], [1, 2], [1, 2, 3], [], [], [6], [5, 6, 7], [5, 6, 7, 8], [0, 1, 2, 3, 4, 5, 6, 7, 8, 9], [0, 1, 2, 3, 4, 5, 6, 7, 8, 9, 10], [0, 1, 2, 3, 4, 5, 6, 7, 8, 9, 10, 11], [0, 1, 2, 3, 4, 5, 6, 7, 8, 9, 10, 11], [0, 1, 2, 3, 4, 5, 6, 7, 8, 9, 10, 11, 12], [0, 1, 2, 3, 4, 5, 6, 7, 8, 9, 10, 11, 12, 13, 14]] : List (List Nat)).getD k []) mixed (by kernel_rfl) rfl rfl (a_op (g_x rfl (x_p rfl (p_move rfl rfl) rfl)) (a_op (g_x rfl (x_p rfl (p_move rfl rfl) rfl)) (a_op (g_x rfl (x_p rfl (p_move rfl rfl) rfl)) (a_op (g_x rfl (x_p rfl (u_ixl rfl rfl Tryd.underlying33 in_22 rfl rfl (ixe h2) (ixn h2) (lne (ixn h2))) rfl)) (a_op (g_x rfl (x_p rfl (u_ld rfl rfl Tryd.underlying22 rfl rfl (Sub.map default (ixn h2))) rfl)) (a_op (g_x rfl (x_p rfl (p_move rfl rfl) rfl)) (a_op (g_x rfl (x_p rfl (p_move rfl rfl) rfl)) (a_op (g_x rfl (x_p rfl (p_bin rfl rfl rfl rfl) rfl)) (a_op (g_x rfl (x_p rfl (u_ixl rfl rfl Tryd.underlying33 in_22 rfl rfl (ixe h3) (ixn h3) (lne (ixn h3))) rfl)) (a_op (g_x rfl (x_p rfl (u_ld rfl rfl Tryd.underlying22 rfl rfl (Sub.map default (ixn h3))) rfl)) (a_op (g_x rfl (x_p rfl (p_callp rfl rfl rfl Tryd.func48 rfl rfl (g_slots_node_ac h4) ⟨rfl, rfl, rfl, trivial⟩) rfl)) (a_op (g_x rfl (x_p rfl (p_move rfl rfl) rfl)) (a_op (g_x rfl (x_p rfl (p_ext rfl rfl rfl rfl) rfl)) (a_op (g_x rfl (x_p rfl (p_ext rfl rfl rfl rfl) rfl)) (a_op (g_x rfl (x_p rfl (p_asg rfl rfl) rfl)) (a_nil)))))))))))))))) ?_
      refine t_op rfl rfl (PureD.opD (p_asg rfl rfl)) ?_
      refine t_gho (Gho_st (L := [(0, .i mode0), (1, .p (AV.lists row1)), (6, .c (.own 6 next6_0.length 1)), (7, .i i7_0), (8, .y r'1.1), (9, .i r'1.2)]) (H := [(6, .pure (next6_0.map AV.bytes))]) rfl ⟨TLes.same _, TLes.same _, TLes.same _, TLes.same _, TLes.same _, TLes.same _, trivial⟩ ⟨rfl, trivial⟩) ?_
      refine AW2_seq ?_
      refine sg [0, 1] rfl ?_
      refine rp rfl rfl (p_move rfl rfl) ?_
      refine rp rfl rfl (p_ine rfl rfl rfl) ?_
      refine rz [(0, .i mode0), (1, .p (AV.lists row1)), (6, .c (.own 6 next6_0.length 1)), (7, .i i7_0), (8, .y r'1.1), (9, .i r'1.2), (32, .b (decide (r'1.2 ≠ (0 : Int))))] [(6, .pure (next6_0.map AV.bytes))] rfl rfl rfl ?_
      refine AW2_if (p := r'1.2 ≠ (0 : Int)) rfl (fun h5 => ?_) (fun h5 => ?_)
      · replace H := ite_then h5 H
        refine sg [0, 1, 2] rfl ?_
        refine rp rfl rfl (p_move rfl rfl) ?_
        refine rp rfl rfl (p_asgn rfl) ?_
        refine rp rfl rfl (p_asg rfl rfl) ?_
        refine rz [(4, .p .nil), (5, .i r'1.2)] [] rfl rfl rfl ?_
        refine as2 [(4, .p .nil), (5, .i r'1.2)] [] rfl rfl rfl ?_
        refine AW2_gho (Gho_own (d := 4) (b := 4) (z := 1) rfl rfl rfl rfl) ?_
        refine AW2_st [(4, .c (.own 4 ([] : List (List UInt8)).length 1)), (5, .i r'1.2)] [(4, .pure (([] : List (List UInt8)).map AV.bytes))] rfl ⟨TLes.own rfl, TLes.same _, trivial⟩ ⟨rfl, trivial⟩ ?_
        refine AW2_ret ?_
        have hz := some_elim H
        subst hz
        exact ⟨rfl, ⟨res_tmp (.same _), res_tmp (.same _), trivial⟩, ⟨rfl, trivial⟩⟩
      · replace H := ite_else h5 H
        refine as2 [(0, .i mode0), (1, .p (AV.lists row1)), (6, .c (.own 6 next6_0.length 1)), (7, .i i7_0), (8, .y r'1.1)] [(6, .pure (next6_0.map AV.bytes))] rfl rfl rfl ?_
        refine AW2_skip ?_
        refine AW2_reg [0, 1, 2, 3, 4] rfl ?_
        refine rp rfl rfl (p_move rfl rfl) ?_
        refine rp rfl rfl (p_move rfl rfl) ?_
        refine r_op rfl rfl (MakeD.opD (u_bs 36 rfl Tryd.underlying33 in_22 rfl one_22 (by decide) (by decide) rfl rfl rfl) rfl rfl rfl rfl) ?_
        refine chkK H fun h6 H => ?_
        refine r_op rfl rfl (u_app [6, 34] rfl rfl rfl rfl Tryd.underlying33 Tryd.underlying33 in_22 rfl rfl rfl (ml AV.bytes next6_0) (by decide) (srcT_o rfl rfl (ml AV.bytes ([r'1.1] : List (List UInt8))) (by decide)) (ml AV.bytes ([r'1.1] : List (List UInt8))) h6 (by decide) rfl rfl (mapp AV.bytes next6_0 ([r'1.1] : List (List UInt8))) (lapp next6_0 ([r'1.1] : List (List UInt8)))) ?_
        refine rp rfl rfl (p_asg rfl rfl) ?_
        refine rz [(0, .i mode0), (1, .p (AV.lists row1)), (6, .c (.own 6 (next6_0 ++ ([r'1.1] : List (List UInt8))).length 1)), (7, .i i7_0)] [(6, .pure ((next6_0 ++ ([r'1.1] : List (List UInt8))).map AV.bytes))] rfl rfl rfl ?_
        refine AW2_reg [0, 1, 2] rfl ?_
        refine rp rfl rfl (p_move rfl rfl) ?_
        refine rp rfl rfl (p_bin rfl rfl rfl rfl) ?_
        refine rp rfl rfl (p_asg rfl rfl) ?_
        refine rz [(0, .i mode0), (1, .p (AV.lists row1)), (6, .c (.own 6 (next6_0 ++ ([r'1.1] : List (List UInt8))).length 1)), (7, .i (w64 (i7_0 + (2 : Int))))] [(6, .pure ((next6_0 ++ ([r'1.1] : List (List UInt8))).map AV.bytes))] rfl rfl rfl ?_
        have hz := some_elim H
        subst hz
        exact ⟨rfl, rfl⟩
    · replace H := ite_else h1 H
      refine as2 [(6, .c (.own 6 next6_0.length 1))] [(6, .pure (next6_0.map AV.bytes))] rfl rfl rfl ?_
      refine AW2_exit ?_
      refine thenQ2_exit ?_
      have hz := some_elim H
      subst hz
      exact ⟨rfl, rfl⟩
  · rcases o'5 with y'6 | y'7
    · obtain ⟨rfl, hs⟩ := hs
      refine ⟨by simp, ?_⟩
      have hz := some_elim H
      subst hz
      exact ⟨hs.1, hs.2⟩
    · obtain ⟨rfl, rfl⟩ := hs
      refine ⟨by simp, ?_⟩
      refine blockQ2_exit ?_
      refine sg [0, 1, 2] rfl ?_
      refine rp rfl rfl (p_move rfl rfl) ?_
      refine rp rfl rfl (p_asg rfl rfl) ?_
      refine rp rfl rfl (p_asg rfl rfl) ?_
      refine rs [(4, .c (.own 6 y'7.length 1)), (5, .i (0 : Int))] [(6, .pure (y'7.map AV.bytes))] rfl rfl rfl ?_
      refine RunW_gho (Gho_ren 6 4 rfl rfl rfl rfl rfl) ?_
      refine rz [(4, .c (.own 4 y'7.length 1)), (5, .i (0 : Int))] [(4, .pure (y'7.map AV.bytes))] rfl rfl rfl ?_
      refine as2 [(4, .c (.own 4 y'7.length 1)), (5, .i (0 : Int))] [(4, .pure (y'7.map AV.bytes))] rfl rfl rfl ?_
      refine AW2_ret ?_
      have hz := some_elim H
      subst hz
      exact ⟨⟨res_tmp (.same _), res_tmp (.same _), trivial⟩, ⟨rfl, trivial⟩⟩
theorem g_slots_up_ac {mode0 : Int} {row1 : List (List UInt8)} {r : (List (List UInt8)) × Int} (H : g_slots_up mode0 row1 = some r) : ACp Tryd.prog 44 [(AV.int mode0), (AV.lists row1)] (.tup [(AV.lists r.1), (AV.int r.2)]) := ACp_pub (g_slots_up_ac2 H) (fun _ _ hm => lent_tup ⟨lent_own hm rfl (ml AV.bytes r.1) (by decide), .same _, trivial⟩)

/-! slots.Root -/
noncomputable def g_slots_Root_l0 (mode0 : Int) : (List (List UInt8)) × Int → Option (((List (List UInt8)) × Int) ⊕ (((List (List UInt8)) × Int)))
  | (row6_0, e7_0) => (if (e7_0 = (0 : Int)) ∧ ((row6_0.length : Int) > (1 : Int)) then (g_slots_up mode0 row6_0).bind fun r'2 => some (.inl (r'2.1, r'2.2)) else some (.inr (row6_0, e7_0)))
noncomputable def g_slots_Root (mode0 : Int) (l1 : List GSlot) : Option ((List UInt8) × Int) :=
  (g_slots_leaves mode0 l1).bind fun r'1 => (loopO (g_slots_Root_l0 mode0) (r'1.1, r'1.2)).bind fun y'6 => (if y'6.2 ≠ (0 : Int) then some ([], y'6.2) else if 0 < y'6.1.length then some ((lrd y'6.1 0), (0 : Int)) else none)
set_option maxHeartbeats 4000000 in
set_option maxRecDepth 100000 in
theorem g_slots_Root_ac {mode0 : Int} {l1 : List GSlot} {r : (List UInt8) × Int} (H : g_slots_Root mode0 l1 = some r) : ACp Tryd.prog 17 [(AV.int mode0), ((fun q : List GSlot => AV.lst (q.flatMap GSlot.cs) q.length) l1)] (.tup [(AV.bytes r.1), (AV.int r.2)]) := by
  refine ACp_of (AC2_of_body (vs := [.y r.1, .i r.2]) Tryd.func17 rfl rfl (Nat.le_of_ble_eq_true rfl) rfl ?_) (fun _ => .same _)
  unfold g_slots_Root at H
  refine as2 [(0, .i mode0), (1, .p ((fun q : List GSlot => AV.lst (q.flatMap GSlot.cs) q.length) l1))] [] rfl rfl rfl ?_
  refine sg [0, 1] rfl ?_
  refine rp rfl rfl (p_asgn rfl) ?_
  refine rp rfl rfl (p_asg rfl rfl) ?_
  refine rz [(0, .i mode0), (1, .p ((fun q : List GSlot => AV.lst (q.flatMap GSlot.cs) q.length) l1))] [] rfl rfl rfl ?_
  refine sg [0, 1, 2, 3, 4, 5, 6, 7] rfl ?_
  refine rp rfl rfl (p_move rfl rfl) ?_
  refine rp rfl rfl (p_move rfl rfl) ?_
  refine bindK H fun r'1 h1 H => ?_
  refine rp rfl rfl (p_callp rfl rfl rfl Tryd.func43 rfl rfl (g_slots_leaves_ac h1) ⟨rfl, rfl, trivial⟩) ?_
  refine rp rfl rfl (p_move rfl rfl) ?_
  refine rp rfl rfl (p_ext rfl rfl rfl rfl) ?_
  refine rp rfl rfl (p_ext rfl rfl rfl rfl) ?_
  refine rp rfl rfl (p_asg rfl rfl) ?_
  refine rp rfl rfl (p_asg rfl rfl) ?_
  refine rz [(0, .i mode0), (6, .p (AV.lists r'1.1)), (7, .i r'1.2)] [] rfl rfl rfl ?_
  refine AW2_seq ?_
  refine AW2_block ?_
  refine as2 [(0, .i mode0), (6, .p (AV.lists r'1.1)), (7, .i r'1.2)] [] rfl rfl rfl ?_
  refine bindK H fun y'6 h5 H => ?_
  refine AW2_loopO (fun a'3 : (List (List UInt8)) × Int => (⟨[(0, .i mode0), (6, .p (AV.lists a'3.1)), (7, .i a'3.2)], [], 33⟩ : TS)) (fun (y'4 : ((List (List UInt8)) × Int)) e s' => e = Go.Exit.exit 0 ∧ s' = (⟨[(6, .p (AV.lists y'4.1)), (7, .i y'4.2)], [], 33⟩ : TS)) h5 rfl (fun a x hx => ?_) (fun e s' hs => ?_)
  · clear H
    obtain ⟨row6_0, e7_0⟩ := a
    have H := hx
    clear hx
    unfold g_slots_Root_l0 at H
    refine AW2_seq ?_
    refine AW2_seq ?_
    refine AW2_mid (⟨[(0, .i mode0), (6, .p (AV.lists row6_0)), (7, .i e7_0), (20, .b (decide ((e7_0 = (0 : Int)) ∧ ((row6_0.length : Int) > (1 : Int)))))], [], 33⟩ : TS) ?_ ?_
    · refine AW2_reg [0, 1, 2, 3, 4, 5, 6] rfl ?_
      refine rp rfl rfl (p_move rfl rfl) ?_
      refine rp rfl rfl (p_ieq rfl rfl rfl) ?_
      refine rp rfl rfl (p_move rfl rfl) ?_
      refine (Classical.em (e7_0 = (0 : Int))).elim (fun h2 => ?_) (fun h2 => ?_)
      · refine r_on rfl rfl rfl rfl (decide_eq_true (p := e7_0 = (0 : Int)) h2) rfl (PureD.opD (p_move rfl rfl)) ?_
        refine r_on rfl rfl rfl rfl (decide_eq_true (p := e7_0 = (0 : Int)) h2) rfl (PureD.opD (p_lenl rfl Tryd.underlying33 rfl rfl)) ?_
        refine r_on rfl rfl rfl rfl (decide_eq_true (p := e7_0 = (0 : Int)) h2) rfl (PureD.opD (p_bin rfl rfl rfl rfl)) ?_
        refine rp rfl rfl (p_pkt rfl rfl (decide_eq_true (p := e7_0 = (0 : Int)) h2) (tb ((and_l (p := e7_0 = (0 : Int)) (q := (row6_0.length : Int) > (1 : Int)) h2)))) ?_
        refine rs [(0, .i mode0), (6, .p (AV.lists row6_0)), (7, .i e7_0), (20, .b (decide ((e7_0 = (0 : Int)) ∧ ((row6_0.length : Int) > (1 : Int)))))] [] rfl rfl rfl ?_
        exact RunW_nil rfl
      · refine r_off rfl rfl rfl rfl (decide_eq_false (p := e7_0 = (0 : Int)) h2) rfl rfl ?_
        refine r_off rfl rfl rfl rfl (decide_eq_false (p := e7_0 = (0 : Int)) h2) rfl rfl ?_
        refine r_off rfl rfl rfl rfl (decide_eq_false (p := e7_0 = (0 : Int)) h2) rfl rfl ?_
        refine rp rfl rfl (p_pkf rfl rfl (decide_eq_false (p := e7_0 = (0 : Int)) h2) (tb (decide_eq_false (p := (e7_0 = (0 : Int)) ∧ ((row6_0.length : Int) > (1 : Int))) (fun x => h2 x.1)).symm)) ?_
        refine rs [(0, .i mode0), (6, .p (AV.lists row6_0)), (7, .i e7_0), (20, .b (decide ((e7_0 = (0 : Int)) ∧ ((row6_0.length : Int) > (1 : Int)))))] [] rfl rfl rfl ?_
        exact RunW_nil rfl
    · refine AW2_if (p := (e7_0 = (0 : Int)) ∧ ((row6_0.length : Int) > (1 : Int))) rfl (fun h3 => ?_) (fun h3 => ?_)
      · replace H := ite_then h3 H
        refine as2 [(0, .i mode0), (6, .p (AV.lists row6_0))] [] rfl rfl rfl ?_
        refine AW2_skip ?_
        refine AW2_block ?_
        refine AW2_reg [0, 1, 2, 3, 4, 5, 6, 7] rfl ?_
        refine rp rfl rfl (p_move rfl rfl) ?_
        refine rp rfl rfl (p_move rfl rfl) ?_
        refine bindK H fun r'2 h4 H => ?_
        refine rp rfl rfl (p_callp rfl rfl rfl Tryd.func44 rfl rfl (g_slots_up_ac h4) ⟨rfl, rfl, trivial⟩) ?_
        refine rp rfl rfl (p_move rfl rfl) ?_
        refine rp rfl rfl (p_ext rfl rfl rfl rfl) ?_
        refine rp rfl rfl (p_ext rfl rfl rfl rfl) ?_
        refine rp rfl rfl (p_asg rfl rfl) ?_
        refine rp rfl rfl (p_asg rfl rfl) ?_
        refine rz [(0, .i mode0), (6, .p (AV.lists r'2.1)), (7, .i r'2.2)] [] rfl rfl rfl ?_
        have hz := some_elim H
        subst hz
        exact ⟨rfl, rfl⟩
      · replace H := ite_else h3 H
        refine as2 [(6, .p (AV.lists row6_0)), (7, .i e7_0)] [] rfl rfl rfl ?_
        refine AW2_exit ?_
        refine thenQ2_exit ?_
        have hz := some_elim H
        subst hz
        exact ⟨rfl, rfl⟩
  · obtain ⟨rfl, rfl⟩ := hs
    refine ⟨by simp, ?_⟩
    refine blockQ2_exit ?_
    refine AW2_seq ?_
    refine sg [0, 1] rfl ?_
    refine rp rfl rfl (p_move rfl rfl) ?_
    refine rp rfl rfl (p_ine rfl rfl rfl) ?_
    refine rz [(6, .p (AV.lists y'6.1)), (7, .i y'6.2), (28, .b (decide (y'6.2 ≠ (0 : Int))))] [] rfl rfl rfl ?_
    refine AW2_if (p := y'6.2 ≠ (0 : Int)) rfl (fun h6 => ?_) (fun h6 => ?_)
    · replace H := ite_then h6 H
      refine sg [0, 1, 2] rfl ?_
      refine rp rfl rfl (p_move rfl rfl) ?_
      refine rp rfl rfl (p_asgn rfl) ?_
      refine rp rfl rfl (p_asg rfl rfl) ?_
      refine rz [(4, .p .nil), (5, .i y'6.2)] [] rfl rfl rfl ?_
      refine AW2_ret ?_
      have hz := some_elim H
      subst hz
      exact ⟨⟨res_tmp TLes.nil0, res_tmp (.same _), trivial⟩, trivial⟩
    · replace H := ite_else h6 H
      refine as2 [(6, .p (AV.lists y'6.1))] [] rfl rfl rfl ?_
      refine AW2_skip ?_
      refine sg [0, 1, 2, 3, 4] rfl ?_
      refine rp rfl rfl (p_move rfl rfl) ?_
      refine chkK H fun h7 H => ?_
      refine rp rfl rfl (u_ixl rfl rfl Tryd.underlying33 in_22 rfl rfl rfl h7 (lne h7)) ?_
      refine rp rfl rfl (u_ld rfl rfl Tryd.underlying22 rfl rfl (Sub.map default h7)) ?_
      refine rp rfl rfl (p_asg rfl rfl) ?_
      refine rp rfl rfl (p_asg rfl rfl) ?_
      refine rz [(4, .y (lrd y'6.1 0)), (5, .i (0 : Int))] [] rfl rfl rfl ?_
      refine AW2_ret ?_
      have hz := some_elim H
      subst hz
      exact ⟨⟨res_tmp (.same _), res_tmp (.same _), trivial⟩, trivial⟩

/-! chirographref.whole -/
noncomputable def g_ref_whole_l0 (n0 : Int) (t6'1 : Int) (t5'2 : List Int) : Int → Option (Int ⊕ (Bool ⊕ Unit))
  | t7_0 => (if t7_0 < t6'1 then if 0 ≤ t7_0 ∧ t7_0 < (t5'2.length : Int) then (if n0 = (lrd t5'2 t7_0.toNat) then some (.inr (.inl true)) else some (.inl (w64 (t7_0 + (1 : Int))))) else none else some (.inr (.inr ())))
noncomputable def g_ref_whole (n0 : Int) : Option (Bool) :=
  letO ((([(1 : Int), (2 : Int), (4 : Int), (8 : Int), (16 : Int), (32 : Int), (64 : Int)] : List Int).length : Int)) fun t6'1 => letO (([(1 : Int), (2 : Int), (4 : Int), (8 : Int), (16 : Int), (32 : Int), (64 : Int)] : List Int)) fun t5'2 => (loopO (g_ref_whole_l0 n0 t6'1 t5'2) (0 : Int)).bind fun o'6 => match o'6 with | .inl y'7 => some y'7 | .inr (y'8) => some false
set_option maxHeartbeats 4000000 in
set_option maxRecDepth 100000 in
theorem g_ref_whole_ac {n0 : Int} {r : Bool} (H : g_ref_whole n0 = some r) : ACp Tryd.prog 50 [(AV.int n0)] (AV.bool r) := by
  refine ACp_of (AC2_of_body (vs := [.b r]) Tryd.func50 rfl rfl (Nat.le_of_ble_eq_true rfl) rfl ?_) (fun _ => .same _)
  unfold g_ref_whole at H
  refine as2 [(0, .i n0)] [] rfl rfl rfl ?_
  refine sg [0] rfl ?_
  refine rp rfl rfl (p_asg rfl rfl) ?_
  refine rz [(0, .i n0)] [] rfl rfl rfl ?_
  refine AW2_seq ?_
  refine sg [0, 1, 2] rfl ?_
  refine r_op rfl rfl (MakeD.opD (u_bs 5 rfl Tryd.underlying85 in_3 rfl one_3 (by decide) (by decide) rfl rfl rfl) rfl rfl rfl rfl) ?_
  refine rp rfl rfl (p_leno rfl Tryd.underlying85 rfl rfl rfl (ml AV.int ([(1 : Int), (2 : Int), (4 : Int), (8 : Int), (16 : Int), (32 : Int), (64 : Int)] : List Int)) (by decide)) ?_
  refine rp rfl rfl (p_move rfl rfl) ?_
  refine RunW_st [(0, .i n0), (5, .c (.own 5 ([(1 : Int), (2 : Int), (4 : Int), (8 : Int), (16 : Int), (32 : Int), (64 : Int)] : List Int).length 1)), (6, .i (([(1 : Int), (2 : Int), (4 : Int), (8 : Int), (16 : Int), (32 : Int), (64 : Int)] : List Int).length : Int)), (7, .i (0 : Int))] [(5, .pure (([(1 : Int), (2 : Int), (4 : Int), (8 : Int), (16 : Int), (32 : Int), (64 : Int)] : List Int).map AV.int))] rfl ⟨TLes.same _, TLes.own rfl, TLes.same _, TLes.same _, trivial⟩ ⟨rfl, trivial⟩ ?_
  refine RunW_nil ?_
  refine gen1 (fun t6'1 => (⟨[(0, .i n0), (5, .c (.own 5 ([(1 : Int), (2 : Int), (4 : Int), (8 : Int), (16 : Int), (32 : Int), (64 : Int)] : List Int).length 1)), (6, .i t6'1), (7, .i (0 : Int))], [(5, .pure (([(1 : Int), (2 : Int), (4 : Int), (8 : Int), (16 : Int), (32 : Int), (64 : Int)] : List Int).map AV.int))], 15⟩ : TS)) H ?_
  intro t6'1 H
  refine gen1 (fun t5'2 => (⟨[(0, .i n0), (5, .c (.own 5 t5'2.length 1)), (6, .i t6'1), (7, .i (0 : Int))], [(5, .pure (t5'2.map AV.int))], 15⟩ : TS)) H ?_
  intro t5'2 H
  refine AW2_block ?_
  refine as2 [(0, .i n0), (5, .c (.own 5 t5'2.length 1)), (6, .i t6'1), (7, .i (0 : Int))] [(5, .pure (t5'2.map AV.int))] rfl rfl rfl ?_
  refine bindK H fun o'6 h4 H => ?_
  refine AW2_loopO (fun a'3 : Int => (⟨[(0, .i n0), (5, .c (.own 5 t5'2.length 1)), (6, .i t6'1), (7, .i a'3)], [(5, .pure (t5'2.map AV.int))], 15⟩ : TS)) (fun (o : Bool ⊕ Unit) e s' => match o with | .inl y'4 => e = Go.Exit.ret ∧ ResAll Tryd.prog s' [ResultVar.tmp 2] [.b y'4] ∧ HFits s' [] | .inr (y'5) => e = Go.Exit.exit 0 ∧ s' = (⟨[], [], 15⟩ : TS)) h4 rfl (fun t7_0 x hx => ?_) (fun e s' hs => ?_)
  · clear H
    have H := hx
    clear hx
    unfold g_ref_whole_l0 at H
    refine sg [0] rfl ?_
    refine rp rfl rfl (p_bin rfl rfl rfl rfl) ?_
    refine rz [(0, .i n0), (5, .c (.own 5 t5'2.length 1)), (6, .i t6'1), (7, .i t7_0), (8, .b (decide (t7_0 < t6'1)))] [(5, .pure (t5'2.map AV.int))] rfl rfl rfl ?_
    refine AW2_seq ?_
    refine AW2_if (p := t7_0 < t6'1) rfl (fun h1 => ?_) (fun h1 => ?_)
    · replace H := ite_then h1 H
      refine as2 [(0, .i n0), (5, .c (.own 5 t5'2.length 1)), (6, .i t6'1), (7, .i t7_0)] [(5, .pure (t5'2.map AV.int))] rfl rfl rfl ?_
      refine AW2_skip ?_
      refine AW2_seq ?_
      refine AW2_block ?_
      refine sg [0, 1, 2] rfl ?_
      refine chkK H fun h2 H => ?_
      refine rp rfl rfl (u_ixo rfl rfl Tryd.underlying85 in_3 rfl rfl (lne (ixn h2)) rfl (ixe h2) (ixn h2)) ?_
      refine rp rfl rfl (u_ld rfl rfl Tryd.underlying3 rfl rfl ((Sub.refl _).trans (Sub.map default (ixn h2)))) ?_
      refine rp rfl rfl (p_asg rfl rfl) ?_
      refine rz [(0, .i n0), (4, .i (lrd t5'2 t7_0.toNat)), (5, .c (.own 5 t5'2.length 1)), (6, .i t6'1), (7, .i t7_0)] [(5, .pure (t5'2.map AV.int))] rfl rfl rfl ?_
      refine sg [0, 1, 2] rfl ?_
      refine rp rfl rfl (p_move rfl rfl) ?_
      refine rp rfl rfl (p_move rfl rfl) ?_
      refine rp rfl rfl (p_ieq rfl rfl rfl) ?_
      refine rz [(0, .i n0), (5, .c (.own 5 t5'2.length 1)), (6, .i t6'1), (7, .i t7_0), (13, .b (decide (n0 = (lrd t5'2 t7_0.toNat))))] [(5, .pure (t5'2.map AV.int))] rfl rfl rfl ?_
      refine AW2_if (p := n0 = (lrd t5'2 t7_0.toNat)) rfl (fun h3 => ?_) (fun h3 => ?_)
      · replace H := ite_then h3 H
        refine sg [0] rfl ?_
        refine rp rfl rfl (p_asg rfl rfl) ?_
        refine rz [(2, .b true)] [] rfl rfl rfl ?_
        refine AW2_ret ?_
        have hz := some_elim H
        subst hz
        exact ⟨rfl, ⟨res_tmp (.same _), trivial⟩, trivial⟩
      · replace H := ite_else h3 H
        refine as2 [(0, .i n0), (5, .c (.own 5 t5'2.length 1)), (6, .i t6'1), (7, .i t7_0)] [(5, .pure (t5'2.map AV.int))] rfl rfl rfl ?_
        refine AW2_skip ?_
        refine AW2_reg [0, 1] rfl ?_
        refine rp rfl rfl (p_bin rfl rfl rfl rfl) ?_
        refine rp rfl rfl (p_move rfl rfl) ?_
        refine rz [(0, .i n0), (5, .c (.own 5 t5'2.length 1)), (6, .i t6'1), (7, .i (w64 (t7_0 + (1 : Int))))] [(5, .pure (t5'2.map AV.int))] rfl rfl rfl ?_
        have hz := some_elim H
        subst hz
        exact ⟨rfl, rfl⟩
    · replace H := ite_else h1 H
      refine as2 [] [] rfl rfl rfl ?_
      refine AW2_exit ?_
      refine thenQ2_exit ?_
      have hz := some_elim H
      subst hz
      exact ⟨rfl, rfl⟩
  · rcases o'6 with y'7 | y'8
    · obtain ⟨rfl, hs⟩ := hs
      refine ⟨by simp, ?_⟩
      have hz := some_elim H
      subst hz
      exact ⟨hs.1, hs.2⟩
    · obtain ⟨rfl, rfl⟩ := hs
      refine ⟨by simp, ?_⟩
      refine blockQ2_exit ?_
      refine sg [0] rfl ?_
      refine rp rfl rfl (p_asg rfl rfl) ?_
      refine rz [(2, .b false)] [] rfl rfl rfl ?_
      refine AW2_ret ?_
      have hz := some_elim H
      subst hz
      exact ⟨⟨res_tmp (.same _), trivial⟩, trivial⟩

/-! chirographref.slotsFault -/
noncomputable def g_ref_slotsFault_l0 (mode0 : Int) (l1 : List GSlot) : Int → Option (Int ⊕ (Int ⊕ Unit))
  | t17_0 => (if t17_0 < (l1.length : Int) then if 0 ≤ t17_0 ∧ t17_0 < (l1.length : Int) then (g_ref_LeafOf mode0 (lrd l1 t17_0.toNat)).bind fun r'3 => (if r'3.2 ≠ (0 : Int) then some (.inr (.inl r'3.2)) else some (.inl (w64 (t17_0 + (1 : Int))))) else none else some (.inr (.inr ())))
noncomputable def g_ref_slotsFault (mode0 : Int) (l1 : List GSlot) : Option (Int) :=
  (g_ref_badMode mode0).bind fun r'1 => (if r'1 = true then some (2 : Int) else (g_ref_whole (l1.length : Int)).bind fun r'2 => (if (!r'2) = true then some (1 : Int) else (loopO (g_ref_slotsFault_l0 mode0 l1) (0 : Int)).bind fun o'7 => match o'7 with | .inl y'8 => some y'8 | .inr (y'9) => some (0 : Int)))
set_option maxHeartbeats 4000000 in
set_option maxRecDepth 100000 in
theorem g_ref_slotsFault_ac {mode0 : Int} {l1 : List GSlot} {r : Int} (H : g_ref_slotsFault mode0 l1 = some r) : ACp Tryd.prog 45 [(AV.int mode0), ((fun q : List GSlot => AV.lst (q.flatMap GSlot.cs) q.length) l1)] (AV.int r) := by
  refine ACp_of (AC2_of_body (vs := [.i r]) Tryd.func45 rfl rfl (Nat.le_of_ble_eq_true rfl) rfl ?_) (fun _ => .same _)
  unfold g_ref_slotsFault at H
  refine as2 [(0, .i mode0), (1, .p ((fun q : List GSlot => AV.lst (q.flatMap GSlot.cs) q.length) l1))] [] rfl rfl rfl ?_
  refine sg [0] rfl ?_
  refine rp rfl rfl (p_asg rfl rfl) ?_
  refine rz [(0, .i mode0), (1, .p ((fun q : List GSlot => AV.lst (q.flatMap GSlot.cs) q.length) l1))] [] rfl rfl rfl ?_
  refine AW2_seq ?_
  refine sg [0, 1] rfl ?_
  refine rp rfl rfl (p_move rfl rfl) ?_
  refine bindK H fun r'1 h1 H => ?_
  refine rp rfl rfl (p_callp rfl rfl rfl Tryd.func41 rfl rfl (g_ref_badMode_ac h1) ⟨rfl, trivial⟩) ?_
  refine rz [(0, .i mode0), (1, .p ((fun q : List GSlot => AV.lst (q.flatMap GSlot.cs) q.length) l1)), (10, .b r'1)] [] rfl rfl rfl ?_
  refine AW2_cond rfl (fun h2 => ?_) (fun h2 => ?_)
  · replace H := ite_then h2 H
    refine sg [0] rfl ?_
    refine rp rfl rfl (p_asg rfl rfl) ?_
    refine rz [(4, .i (2 : Int))] [] rfl rfl rfl ?_
    refine AW2_ret ?_
    have hz := some_elim H
    subst hz
    exact ⟨⟨res_tmp (.same _), trivial⟩, trivial⟩
  · replace H := ite_else (ne_true h2) H
    refine as2 [(0, .i mode0), (1, .p ((fun q : List GSlot => AV.lst (q.flatMap GSlot.cs) q.length) l1))] [] rfl rfl rfl ?_
    refine AW2_skip ?_
    refine AW2_seq ?_
    refine sg [0, 1, 2, 3] rfl ?_
    refine rp rfl rfl (p_move rfl rfl) ?_
    refine rp rfl rfl (p_lenl rfl Tryd.underlying30 rfl rfl) ?_
    refine bindK H fun r'2 h3 H => ?_
    refine rp rfl rfl (p_callp rfl rfl rfl Tryd.func50 rfl rfl (g_ref_whole_ac h3) ⟨rfl, trivial⟩) ?_
    refine rp rfl rfl (p_not rfl rfl) ?_
    refine rz [(0, .i mode0), (1, .p ((fun q : List GSlot => AV.lst (q.flatMap GSlot.cs) q.length) l1)), (14, .b (!r'2))] [] rfl rfl rfl ?_
    refine AW2_cond rfl (fun h4 => ?_) (fun h4 => ?_)
    · replace H := ite_then h4 H
      refine sg [0] rfl ?_
      refine rp rfl rfl (p_asg rfl rfl) ?_
      refine rz [(4, .i (1 : Int))] [] rfl rfl rfl ?_
      refine AW2_ret ?_
      have hz := some_elim H
      subst hz
      exact ⟨⟨res_tmp (.same _), trivial⟩, trivial⟩
    · replace H := ite_else (ne_true h4) H
      refine as2 [(0, .i mode0), (1, .p ((fun q : List GSlot => AV.lst (q.flatMap GSlot.cs) q.length) l1))] [] rfl rfl rfl ?_
      refine AW2_skip ?_
      refine AW2_seq ?_
      refine sg [0, 1, 2] rfl ?_
      refine rp rfl rfl (p_move rfl rfl) ?_
      refine rp rfl rfl (p_lenl rfl Tryd.underlying30 rfl rfl) ?_
      refine rp rfl rfl (p_move rfl rfl) ?_
      refine rz [(0, .i mode0), (15, .p ((fun q : List GSlot => AV.lst (q.flatMap GSlot.cs) q.length) l1)), (16, .i (l1.length : Int)), (17, .i (0 : Int))] [] rfl rfl rfl ?_
      refine AW2_block ?_
      refine as2 [(0, .i mode0), (15, .p ((fun q : List GSlot => AV.lst (q.flatMap GSlot.cs) q.length) l1)), (16, .i (l1.length : Int)), (17, .i (0 : Int))] [] rfl rfl rfl ?_
      refine bindK H fun o'7 h9 H => ?_
      refine AW2_loopO (fun a'4 : Int => (⟨[(0, .i mode0), (15, .p ((fun q : List GSlot => AV.lst (q.flatMap GSlot.cs) q.length) l1)), (16, .i (l1.length : Int)), (17, .i a'4)], [], 31⟩ : TS)) (fun (o : Int ⊕ Unit) e s' => match o with | .inl y'5 => e = Go.Exit.ret ∧ ResAll Tryd.prog s' [ResultVar.tmp 4] [.i y'5] ∧ HFits s' [] | .inr (y'6) => e = Go.Exit.exit 0 ∧ s' = (⟨[], [], 31⟩ : TS)) h9 rfl (fun t17_0 x hx => ?_) (fun e s' hs => ?_)
      · clear H
        have H := hx
        clear hx
        unfold g_ref_slotsFault_l0 at H
        refine sg [0] rfl ?_
        refine rp rfl rfl (p_bin rfl rfl rfl rfl) ?_
        refine rz [(0, .i mode0), (15, .p ((fun q : List GSlot => AV.lst (q.flatMap GSlot.cs) q.length) l1)), (16, .i (l1.length : Int)), (17, .i t17_0), (18, .b (decide (t17_0 < (l1.length : Int))))] [] rfl rfl rfl ?_
        refine AW2_seq ?_
        refine AW2_if (p := t17_0 < (l1.length : Int)) rfl (fun h5 => ?_) (fun h5 => ?_)
        · replace H := ite_then h5 H
          refine as2 [(0, .i mode0), (15, .p ((fun q : List GSlot => AV.lst (q.flatMap GSlot.cs) q.length) l1)), (16, .i (l1.length : Int)), (17, .i t17_0)] [] rfl rfl rfl ?_
          refine AW2_skip ?_
          refine AW2_seq ?_
          refine AW2_block ?_
          refine sg [0, 1, 2, 3] rfl ?_
          refine chkK H fun h6 H => ?_
          refine rp rfl rfl (u_ixl rfl rfl Tryd.underlying30 in_24 rfl rfl (ixe h6) (ixn h6) (fne (fun x => (GSlot.len x)) (by decide) (ixn h6))) ?_
          refine rp rfl rfl (u_lda rfl rfl Tryd.underlying24 rfl in_24 rfl (Nat.succ_pos _) (Sub.fm default (fun x => (GSlot.len x)) (ixn h6)) (GSlot.len (lrd l1 t17_0.toNat))) ?_
          refine r_op rfl rfl (MakeD.opD (u_alloc 6 rfl in_24 one_24 zc_24) rfl rfl rfl rfl) ?_
          refine r_op rfl rfl (u_st rfl rfl rfl rfl rfl in_24 (GSlot.len (lrd l1 t17_0.toNat)) (ne_of_lt (n := 0) (Nat.lt_of_lt_of_eq (by decide) (Eq.symm (GSlot.len GSlot.zero)))) (Upd.refl ((GSlot.len (lrd l1 t17_0.toNat)).trans (GSlot.len GSlot.zero).symm))) ?_
          refine rz [(0, .i mode0), (6, .q 6 (0)), (15, .p ((fun q : List GSlot => AV.lst (q.flatMap GSlot.cs) q.length) l1)), (16, .i (l1.length : Int)), (17, .i t17_0)] [(6, .pure (GSlot.cs (lrd l1 t17_0.toNat)))] rfl rfl rfl ?_
          refine sg [0, 1, 2, 3, 4, 5, 6, 7] rfl ?_
          refine rp rfl rfl (p_move rfl rfl) ?_
          refine rp rfl rfl (u_lda rfl rfl Tryd.underlying24 rfl in_24 rfl (Nat.succ_pos _) (Sub.refl _) (GSlot.len (lrd l1 t17_0.toNat))) ?_
          refine bindK H fun r'3 h7 H => ?_
          refine rp rfl rfl (p_callp rfl rfl rfl Tryd.func15 rfl rfl (g_ref_LeafOf_ac h7) ⟨rfl, rfl, trivial⟩) ?_
          refine rp rfl rfl (p_move rfl rfl) ?_
          refine rp rfl rfl (p_ext rfl rfl rfl rfl) ?_
          refine rp rfl rfl (p_ext rfl rfl rfl rfl) ?_
          refine rp rfl rfl (p_asg rfl rfl) ?_
          refine rp rfl rfl (p_asg rfl rfl) ?_
          refine rz [(0, .i mode0), (8, .i r'3.2), (15, .p ((fun q : List GSlot => AV.lst (q.flatMap GSlot.cs) q.length) l1)), (16, .i (l1.length : Int)), (17, .i t17_0)] [] rfl rfl rfl ?_
          refine sg [0, 1] rfl ?_
          refine rp rfl rfl (p_move rfl rfl) ?_
          refine rp rfl rfl (p_ine rfl rfl rfl) ?_
          refine rz [(0, .i mode0), (8, .i r'3.2), (15, .p ((fun q : List GSlot => AV.lst (q.flatMap GSlot.cs) q.length) l1)), (16, .i (l1.length : Int)), (17, .i t17_0), (28, .b (decide (r'3.2 ≠ (0 : Int))))] [] rfl rfl rfl ?_
          refine AW2_if (p := r'3.2 ≠ (0 : Int)) rfl (fun h8 => ?_) (fun h8 => ?_)
          · replace H := ite_then h8 H
            refine sg [0, 1] rfl ?_
            refine rp rfl rfl (p_move rfl rfl) ?_
            refine rp rfl rfl (p_asg rfl rfl) ?_
            refine rz [(4, .i r'3.2)] [] rfl rfl rfl ?_
            refine AW2_ret ?_
            have hz := some_elim H
            subst hz
            exact ⟨rfl, ⟨res_tmp (.same _), trivial⟩, trivial⟩
          · replace H := ite_else h8 H
            refine as2 [(0, .i mode0), (15, .p ((fun q : List GSlot => AV.lst (q.flatMap GSlot.cs) q.length) l1)), (16, .i (l1.length : Int)), (17, .i t17_0)] [] rfl rfl rfl ?_
            refine AW2_skip ?_
            refine AW2_reg [0, 1] rfl ?_
            refine rp rfl rfl (p_bin rfl rfl rfl rfl) ?_
            refine rp rfl rfl (p_move rfl rfl) ?_
            refine rz [(0, .i mode0), (15, .p ((fun q : List GSlot => AV.lst (q.flatMap GSlot.cs) q.length) l1)), (16, .i (l1.length : Int)), (17, .i (w64 (t17_0 + (1 : Int))))] [] rfl rfl rfl ?_
            have hz := some_elim H
            subst hz
            exact ⟨rfl, rfl⟩
        · replace H := ite_else h5 H
          refine as2 [] [] rfl rfl rfl ?_
          refine AW2_exit ?_
          refine thenQ2_exit ?_
          have hz := some_elim H
          subst hz
          exact ⟨rfl, rfl⟩
      · rcases o'7 with y'8 | y'9
        · obtain ⟨rfl, hs⟩ := hs
          refine ⟨by simp, ?_⟩
          have hz := some_elim H
          subst hz
          exact ⟨hs.1, hs.2⟩
        · obtain ⟨rfl, rfl⟩ := hs
          refine ⟨by simp, ?_⟩
          refine blockQ2_exit ?_
          refine sg [0] rfl ?_
          refine rp rfl rfl (p_asg rfl rfl) ?_
          refine rz [(4, .i (0 : Int))] [] rfl rfl rfl ?_
          refine AW2_ret ?_
          have hz := some_elim H
          subst hz
          exact ⟨⟨res_tmp (.same _), trivial⟩, trivial⟩

/-! chirographref.joined -/
noncomputable def g_ref_joined (mode0 : Int) (tag1 : Int) (a2 : List UInt8) (b3 : List UInt8) : Option ((List UInt8)) :=
  (g_ref_DigestOf mode0 tag1 ([a2, b3] : List (List UInt8))).bind fun r'1 => some r'1.1
set_option maxHeartbeats 4000000 in
set_option maxRecDepth 100000 in
theorem g_ref_joined_ac {mode0 : Int} {tag1 : Int} {a2 : List UInt8} {b3 : List UInt8} {r : (List UInt8)} (H : g_ref_joined mode0 tag1 a2 b3 = some r) : ACp Tryd.prog 76 [(AV.int mode0), (AV.int tag1), (AV.bytes a2), (AV.bytes b3)] (AV.bytes r) := by
  refine ACp_of (AC2_of_body (vs := [.y r]) Tryd.func76 rfl rfl (Nat.le_of_ble_eq_true rfl) rfl ?_) (fun _ => .same _)
  unfold g_ref_joined at H
  refine as2 [(0, .i mode0), (1, .i tag1), (2, .y a2), (3, .y b3)] [] rfl rfl rfl ?_
  refine sg [0] rfl ?_
  refine rp rfl rfl (p_asgn rfl) ?_
  refine rz [(0, .i mode0), (1, .i tag1), (2, .y a2), (3, .y b3)] [] rfl rfl rfl ?_
  refine sg [0, 1, 2, 3, 4, 5, 6, 7, 8, 9, 10] rfl ?_
  refine rp rfl rfl (p_move rfl rfl) ?_
  refine rp rfl rfl (p_move rfl rfl) ?_
  refine rp rfl rfl (p_move rfl rfl) ?_
  refine rp rfl rfl (p_move rfl rfl) ?_
  refine r_op rfl rfl (MakeD.opD (u_bs 16 rfl Tryd.underlying33 in_22 rfl one_22 (by decide) (by decide) rfl rfl rfl) rfl rfl rfl rfl) ?_
  refine RunW_st [(0, .i mode0), (1, .i tag1), (2, .y a2), (3, .y b3), (12, .i mode0), (13, .i tag1), (14, .y a2), (15, .y b3), (16, .c (.own 16 ([a2, b3] : List (List UInt8)).length 1))] [(16, .pure (([a2, b3] : List (List UInt8)).map AV.bytes))] rfl ⟨TLes.same _, TLes.same _, TLes.same _, TLes.same _, TLes.same _, TLes.same _, TLes.same _, TLes.same _, TLes.own rfl, trivial⟩ ⟨rfl, trivial⟩ ?_
  refine RunW_gho (Gho_pubs [16] ⟨rfl, trivial⟩ rfl (ml AV.bytes ([a2, b3] : List (List UInt8))) (by decide)) ?_
  refine bindK H fun r'1 h1 H => ?_
  refine rp rfl rfl (p_callp rfl rfl rfl Tryd.func42 rfl rfl (g_ref_DigestOf_ac h1) ⟨rfl, rfl, rfl, trivial⟩) ?_
  refine rp rfl rfl (p_move rfl rfl) ?_
  refine rp rfl rfl (p_ext rfl rfl rfl rfl) ?_
  refine rp rfl rfl (p_ext rfl rfl rfl rfl) ?_
  refine rp rfl rfl (p_asg rfl rfl) ?_
  refine rp rfl rfl (p_asg rfl rfl) ?_
  refine rz [(9, .y r'1.1)] [] rfl rfl rfl ?_
  refine sg [0, 1] rfl ?_
  refine rp rfl rfl (p_move rfl rfl) ?_
  refine rp rfl rfl (p_asg rfl rfl) ?_
  refine rz [(8, .y r'1.1)] [] rfl rfl rfl ?_
  refine AW2_ret ?_
  have hz := some_elim H
  subst hz
  exact ⟨⟨res_tmp (.same _), trivial⟩, trivial⟩

/-! chirographref.rootOf -/
noncomputable def g_ref_rootOf_b (R' : Int → (List GSlot) → Option ((List UInt8))) (mode0 : Int) (l1 : List GSlot) : Option ((List UInt8)) :=
  (if (l1.length : Int) = (1 : Int) then if 0 < l1.length then (g_ref_LeafOf mode0 (lrd l1 0)).bind fun r'1 => some r'1.1 else none else if 0 ≤ w64 ((l1.length : Int).tdiv (2 : Int)) ∧ w64 ((l1.length : Int).tdiv (2 : Int)) ≤ (l1.length : Int) then (R' mode0 (cut l1 (0 : Int) (w64 ((l1.length : Int).tdiv (2 : Int))))).bind fun r'2 => if 0 ≤ w64 ((l1.length : Int).tdiv (2 : Int)) ∧ w64 ((l1.length : Int).tdiv (2 : Int)) ≤ (l1.length : Int) then (R' mode0 (cut l1 (w64 ((l1.length : Int).tdiv (2 : Int))) (l1.length : Int))).bind fun r'3 => (g_ref_joined mode0 (2 : Int) r'2 r'3).bind fun r'4 => some r'4 else none else none)
noncomputable def g_ref_rootOf : Nat → Int → (List GSlot) → Option ((List UInt8))
  | 0, _, _ => none
  | fu + 1, mode0, l1 => g_ref_rootOf_b (g_ref_rootOf fu) mode0 l1
set_option maxHeartbeats 4000000 in
set_option maxRecDepth 100000 in
theorem g_ref_rootOf_ac0 {R' : Int → (List GSlot) → Option ((List UInt8))} (hR : ∀ {mode0 : Int} {l1 : List GSlot} {r : (List UInt8)}, R' mode0 l1 = some r → ACp Tryd.prog 46 [(AV.int mode0), ((fun q : List GSlot => AV.lst (q.flatMap GSlot.cs) q.length) l1)] (AV.bytes r)) {mode0 : Int} {l1 : List GSlot} {r : (List UInt8)} (H : g_ref_rootOf_b R' mode0 l1 = some r) : ACp Tryd.prog 46 [(AV.int mode0), ((fun q : List GSlot => AV.lst (q.flatMap GSlot.cs) q.length) l1)] (AV.bytes r) := by
  refine ACp_of (AC2_of_body (vs := [.y r]) Tryd.func46 rfl rfl (Nat.le_of_ble_eq_true rfl) rfl ?_) (fun _ => .same _)
  unfold g_ref_rootOf_b at H
  refine as2 [(0, .i mode0), (1, .p ((fun q : List GSlot => AV.lst (q.flatMap GSlot.cs) q.length) l1))] [] rfl rfl rfl ?_
  refine sg [0] rfl ?_
  refine rp rfl rfl (p_asgn rfl) ?_
  refine rz [(0, .i mode0), (1, .p ((fun q : List GSlot => AV.lst (q.flatMap GSlot.cs) q.length) l1))] [] rfl rfl rfl ?_
  refine AW2_seq ?_
  refine sg [0, 1, 2] rfl ?_
  refine rp rfl rfl (p_move rfl rfl) ?_
  refine rp rfl rfl (p_lenl rfl Tryd.underlying30 rfl rfl) ?_
  refine rp rfl rfl (p_ieq rfl rfl rfl) ?_
  refine rz [(0, .i mode0), (1, .p ((fun q : List GSlot => AV.lst (q.flatMap GSlot.cs) q.length) l1)), (10, .b (decide ((l1.length : Int) = (1 : Int))))] [] rfl rfl rfl ?_
  refine AW2_if (p := (l1.length : Int) = (1 : Int)) rfl (fun h1 => ?_) (fun h1 => ?_)
  · replace H := ite_then h1 H
    refine sg [0, 1, 2, 3, 4, 5, 6, 7, 8, 9] rfl ?_
    refine rp rfl rfl (p_move rfl rfl) ?_
    refine rp rfl rfl (p_move rfl rfl) ?_
    refine chkK H fun h2 H => ?_
    refine rp rfl rfl (u_ixl rfl rfl Tryd.underlying30 in_24 rfl rfl rfl h2 (fne (fun x => (GSlot.len x)) (by decide) h2)) ?_
    refine rp rfl rfl (u_lda rfl rfl Tryd.underlying24 rfl in_24 rfl (Nat.succ_pos _) (Sub.fm default (fun x => (GSlot.len x)) h2) (GSlot.len (lrd l1 0))) ?_
    refine bindK H fun r'1 h3 H => ?_
    refine rp rfl rfl (p_callp rfl rfl rfl Tryd.func15 rfl rfl (g_ref_LeafOf_ac h3) ⟨rfl, rfl, trivial⟩) ?_
    refine rp rfl rfl (p_move rfl rfl) ?_
    refine rp rfl rfl (p_ext rfl rfl rfl rfl) ?_
    refine rp rfl rfl (p_ext rfl rfl rfl rfl) ?_
    refine rp rfl rfl (p_asg rfl rfl) ?_
    refine rp rfl rfl (p_asg rfl rfl) ?_
    refine rz [(5, .y r'1.1)] [] rfl rfl rfl ?_
    refine sg [0, 1] rfl ?_
    refine rp rfl rfl (p_move rfl rfl) ?_
    refine rp rfl rfl (p_asg rfl rfl) ?_
    refine rz [(4, .y r'1.1)] [] rfl rfl rfl ?_
    refine AW2_ret ?_
    have hz := some_elim H
    subst hz
    exact ⟨⟨res_tmp (.same _), trivial⟩, trivial⟩
  · replace H := ite_else h1 H
    refine as2 [(0, .i mode0), (1, .p ((fun q : List GSlot => AV.lst (q.flatMap GSlot.cs) q.length) l1))] [] rfl rfl rfl ?_
    refine AW2_skip ?_
    refine sg [0, 1, 2, 3] rfl ?_
    refine rp rfl rfl (p_move rfl rfl) ?_
    refine rp rfl rfl (p_lenl rfl Tryd.underlying30 rfl rfl) ?_
    refine rp rfl rfl (p_iquo rfl rfl rfl (by decide)) ?_
    refine rp rfl rfl (p_asg rfl rfl) ?_
    refine rz [(0, .i mode0), (1, .p ((fun q : List GSlot => AV.lst (q.flatMap GSlot.cs) q.length) l1)), (7, .i (w64 ((l1.length : Int).tdiv (2 : Int))))] [] rfl rfl rfl ?_
    refine AW2_seq ?_
    refine chkK H fun h4 H => ?_
    refine bindK H fun r'2 h5 H => ?_
    refine chkK H fun h6 H => ?_
    refine bindK H fun r'3 h7 H => ?_
    refine bindK H fun r'4 h8 H => ?_
    refine AW2_ghoQ ?_
    refine AW2_draw 11 [11, 12] (fun k => ([.i mode0, .i mode0, .p ((fun q : List GSlot => AV.lst (q.flatMap GSlot.cs) q.length) l1), .i (w64 ((l1.length : Int).tdiv (2 : Int))), .p ((fun q : List GSlot => AV.lst (q.flatMap GSlot.cs) q.length) (cut l1 (0 : Int) (w64 ((l1.length : Int).tdiv (2 : Int))))), .y r'2, .i mode0, .p ((fun q : List GSlot => AV.lst (q.flatMap GSlot.cs) q.length) l1), .i (w64 ((l1.length : Int).tdiv (2 : Int))), .p ((fun q : List GSlot => AV.lst (q.flatMap GSlot.cs) q.length) (cut l1 (w64 ((l1.length : Int).tdiv (2 : Int))) (l1.length : Int))), .y r'3] : List TV).getD k TV.any) (fun k => ([[(0, none)], [(0, none)], [(1, none)], [(7, none)], [(25, some 2), (26, some 3)], [(24, some 1), (27, some 4)], [(0, none)], [(1, none)], [(7, none)], [(30, some 7), (31, some 8)], [(29, some 6), (32, some 9)]] : List (List (Nat × Option Nat))).getD k []) [(23, some 0), (28, some 5), (33, some 10)] [] (fun k => ([[], [], [], [], [2, 3], [1, 2, 3, 4], [], [], [], [7, 8], [1, 2, 3, 4, 5, 6, 7, 8, 9], [0, 1, 2, 3, 4, 5, 6, 7, 8, 9, 10], [0, 1, 2, 3, 4, 5, 6, 7, 8, 9, 10, 11]] : List (List Nat)).getD k []) mixed (by kernel_rfl) rfl rfl (a_op (g_x rfl (x_p rfl (p_move rfl rfl) rfl)) (a_op (g_x rfl (x_p rfl (p_move rfl rfl) rfl)) (a_op (g_x rfl (x_p rfl (p_move rfl rfl) rfl)) (a_op (g_x rfl (x_p rfl (p_move rfl rfl) rfl)) (a_op (g_x rfl (x_p rfl (u_cutl (g := (fun l => l.flatMap GSlot.cs)) (a := (0 : Int)) (b := w64 ((l1.length : Int).tdiv (2 : Int))) rfl rfl Tryd.underlying30 in_24 rfl bT_zero (bT_i (Int.le_trans (show 0 ≤ (0 : Int) ∧ (0 : Int) ≤ w64 ((l1.length : Int).tdiv (2 : Int)) ∧ w64 ((l1.length : Int).tdiv (2 : Int)) ≤ (l1.length : Int) from ⟨Int.le_refl _, h4.1, h4.2⟩).1 (show 0 ≤ (0 : Int) ∧ (0 : Int) ≤ w64 ((l1.length : Int).tdiv (2 : Int)) ∧ w64 ((l1.length : Int).tdiv (2 : Int)) ≤ (l1.length : Int) from ⟨Int.le_refl _, h4.1, h4.2⟩).2.1) rfl) (.inl rfl) (show 0 ≤ (0 : Int) ∧ (0 : Int) ≤ w64 ((l1.length : Int).tdiv (2 : Int)) ∧ w64 ((l1.length : Int).tdiv (2 : Int)) ≤ (l1.length : Int) from ⟨Int.le_refl _, h4.1, h4.2⟩) (g_fm (fun x => (GSlot.len x)))) rfl)) (a_op (g_x rfl (x_p rfl (p_callp rfl rfl rfl Tryd.func46 rfl rfl (hR h5) ⟨rfl, rfl, trivial⟩) rfl)) (a_op (g_x rfl (x_p rfl (p_move rfl rfl) rfl)) (a_op (g_x rfl (x_p rfl (p_move rfl rfl) rfl)) (a_op (g_x rfl (x_p rfl (p_move rfl rfl) rfl)) (a_op (g_x rfl (x_p rfl (u_cutl (g := (fun l => l.flatMap GSlot.cs)) (a := w64 ((l1.length : Int).tdiv (2 : Int))) (b := (l1.length : Int)) rfl rfl Tryd.underlying30 in_24 rfl (bT_i (show 0 ≤ w64 ((l1.length : Int).tdiv (2 : Int)) ∧ w64 ((l1.length : Int).tdiv (2 : Int)) ≤ (l1.length : Int) ∧ (l1.length : Int) ≤ (l1.length : Int) from ⟨h6.1, h6.2, Int.le_refl _⟩).1 rfl) (bT_len _) (.inl rfl) (show 0 ≤ w64 ((l1.length : Int).tdiv (2 : Int)) ∧ w64 ((l1.length : Int).tdiv (2 : Int)) ≤ (l1.length : Int) ∧ (l1.length : Int) ≤ (l1.length : Int) from ⟨h6.1, h6.2, Int.le_refl _⟩) (g_fm (fun x => (GSlot.len x)))) rfl)) (a_op (g_x rfl (x_p rfl (p_callp rfl rfl rfl Tryd.func46 rfl rfl (hR h7) ⟨rfl, rfl, trivial⟩) rfl)) (a_nil)))))))))))) ?_
    refine t_op rfl rfl (PureD.opD (p_callp rfl rfl rfl Tryd.func76 rfl rfl (g_ref_joined_ac h8) ⟨rfl, rfl, rfl, rfl, trivial⟩)) ?_
    refine t_op rfl rfl (PureD.opD (p_asg rfl rfl)) ?_
    refine t_gho (Gho_st (L := [(4, .y r'4)]) (H := []) rfl ⟨TLes.same _, trivial⟩ trivial) ?_
    refine AW2_ret ?_
    have hz := some_elim H
    subst hz
    exact ⟨⟨res_tmp (.same _), trivial⟩, trivial⟩
theorem g_ref_rootOf_acN : ∀ (fu : Nat) {mode0 : Int} {l1 : List GSlot} {r : (List UInt8)}, g_ref_rootOf fu mode0 l1 = some r → ACp Tryd.prog 46 [(AV.int mode0), ((fun q : List GSlot => AV.lst (q.flatMap GSlot.cs) q.length) l1)] (AV.bytes r)
  | 0, _, _, _, H => (by cases H)
  | fu + 1, _, _, _, H => g_ref_rootOf_ac0 (g_ref_rootOf_acN fu) H
theorem g_ref_rootOf_ac {mode0 : Int} {l1 : List GSlot} {r : (List UInt8)} (H : g_ref_rootOf 100000 mode0 l1 = some r) : ACp Tryd.prog 46 [(AV.int mode0), ((fun q : List GSlot => AV.lst (q.flatMap GSlot.cs) q.length) l1)] (AV.bytes r) := g_ref_rootOf_acN 100000 H

/-! chirographref.RootOf -/
noncomputable def g_ref_RootOf (mode0 : Int) (l1 : List GSlot) : Option ((List UInt8) × Int) :=
  (g_ref_slotsFault mode0 l1).bind fun r'1 => (if r'1 ≠ (0 : Int) then some ([], r'1) else (g_ref_rootOf 100000 mode0 l1).bind fun r'2 => some (r'2, (0 : Int)))
set_option maxHeartbeats 4000000 in
set_option maxRecDepth 100000 in
theorem g_ref_RootOf_ac {mode0 : Int} {l1 : List GSlot} {r : (List UInt8) × Int} (H : g_ref_RootOf mode0 l1 = some r) : ACp Tryd.prog 18 [(AV.int mode0), ((fun q : List GSlot => AV.lst (q.flatMap GSlot.cs) q.length) l1)] (.tup [(AV.bytes r.1), (AV.int r.2)]) := by
  refine ACp_of (AC2_of_body (vs := [.y r.1, .i r.2]) Tryd.func18 rfl rfl (Nat.le_of_ble_eq_true rfl) rfl ?_) (fun _ => .same _)
  unfold g_ref_RootOf at H
  refine as2 [(0, .i mode0), (1, .p ((fun q : List GSlot => AV.lst (q.flatMap GSlot.cs) q.length) l1))] [] rfl rfl rfl ?_
  refine sg [0, 1] rfl ?_
  refine rp rfl rfl (p_asgn rfl) ?_
  refine rp rfl rfl (p_asg rfl rfl) ?_
  refine rz [(0, .i mode0), (1, .p ((fun q : List GSlot => AV.lst (q.flatMap GSlot.cs) q.length) l1))] [] rfl rfl rfl ?_
  refine AW2_seq ?_
  refine sg [0, 1, 2, 3] rfl ?_
  refine rp rfl rfl (p_move rfl rfl) ?_
  refine rp rfl rfl (p_move rfl rfl) ?_
  refine bindK H fun r'1 h1 H => ?_
  refine rp rfl rfl (p_callp rfl rfl rfl Tryd.func45 rfl rfl (g_ref_slotsFault_ac h1) ⟨rfl, rfl, trivial⟩) ?_
  refine rp rfl rfl (p_asg rfl rfl) ?_
  refine rz [(0, .i mode0), (1, .p ((fun q : List GSlot => AV.lst (q.flatMap GSlot.cs) q.length) l1)), (6, .i r'1)] [] rfl rfl rfl ?_
  refine sg [0, 1] rfl ?_
  refine rp rfl rfl (p_move rfl rfl) ?_
  refine rp rfl rfl (p_ine rfl rfl rfl) ?_
  refine rz [(0, .i mode0), (1, .p ((fun q : List GSlot => AV.lst (q.flatMap GSlot.cs) q.length) l1)), (6, .i r'1), (11, .b (decide (r'1 ≠ (0 : Int))))] [] rfl rfl rfl ?_
  refine AW2_if (p := r'1 ≠ (0 : Int)) rfl (fun h2 => ?_) (fun h2 => ?_)
  · replace H := ite_then h2 H
    refine sg [0, 1, 2] rfl ?_
    refine rp rfl rfl (p_move rfl rfl) ?_
    refine rp rfl rfl (p_asgn rfl) ?_
    refine rp rfl rfl (p_asg rfl rfl) ?_
    refine rz [(4, .p .nil), (5, .i r'1)] [] rfl rfl rfl ?_
    refine AW2_ret ?_
    have hz := some_elim H
    subst hz
    exact ⟨⟨res_tmp TLes.nil0, res_tmp (.same _), trivial⟩, trivial⟩
  · replace H := ite_else h2 H
    refine as2 [(0, .i mode0), (1, .p ((fun q : List GSlot => AV.lst (q.flatMap GSlot.cs) q.length) l1))] [] rfl rfl rfl ?_
    refine AW2_skip ?_
    refine sg [0, 1, 2, 3, 4] rfl ?_
    refine rp rfl rfl (p_move rfl rfl) ?_
    refine rp rfl rfl (p_move rfl rfl) ?_
    refine bindK H fun r'2 h3 H => ?_
    refine rp rfl rfl (p_callp rfl rfl rfl Tryd.func46 rfl rfl (g_ref_rootOf_ac h3) ⟨rfl, rfl, trivial⟩) ?_
    refine rp rfl rfl (p_asg rfl rfl) ?_
    refine rp rfl rfl (p_asg rfl rfl) ?_
    refine rz [(4, .y r'2), (5, .i (0 : Int))] [] rfl rfl rfl ?_
    refine AW2_ret ?_
    have hz := some_elim H
    subst hz
    exact ⟨⟨res_tmp (.same _), res_tmp (.same _), trivial⟩, trivial⟩

/-! chirographlaw.SlotsRoots -/
noncomputable def g_law_SlotsRoots (mode0 : Int) (l1 : List GSlot) : Option (Bool) :=
  (g_slots_Root mode0 l1).bind fun r'1 => (g_ref_RootOf mode0 l1).bind fun r'2 => ((if r'1.2 = r'2.2 then (g_law_sameBytes r'1.1 r'2.1).bind fun r'4 => some r'4 else some false)).bind fun g'5 => some g'5
set_option maxHeartbeats 4000000 in
set_option maxRecDepth 100000 in
theorem g_law_SlotsRoots_ac {mode0 : Int} {l1 : List GSlot} {r : Bool} (H : g_law_SlotsRoots mode0 l1 = some r) : ACp Tryd.prog 4 [(AV.int mode0), ((fun q : List GSlot => AV.lst (q.flatMap GSlot.cs) q.length) l1)] (AV.bool r) := by
  refine ACp_of (AC2_of_body (vs := [.b r]) Tryd.func4 rfl rfl (Nat.le_of_ble_eq_true rfl) rfl ?_) (fun _ => .same _)
  unfold g_law_SlotsRoots at H
  refine as2 [(0, .i mode0), (1, .p ((fun q : List GSlot => AV.lst (q.flatMap GSlot.cs) q.length) l1))] [] rfl rfl rfl ?_
  refine sg [0] rfl ?_
  refine rp rfl rfl (p_asg rfl rfl) ?_
  refine rz [(0, .i mode0), (1, .p ((fun q : List GSlot => AV.lst (q.flatMap GSlot.cs) q.length) l1))] [] rfl rfl rfl ?_
  refine sg [0, 1, 2, 3, 4, 5, 6, 7] rfl ?_
  refine rp rfl rfl (p_move rfl rfl) ?_
  refine rp rfl rfl (p_move rfl rfl) ?_
  refine bindK H fun r'1 h1 H => ?_
  refine rp rfl rfl (p_callp rfl rfl rfl Tryd.func17 rfl rfl (g_slots_Root_ac h1) ⟨rfl, rfl, trivial⟩) ?_
  refine rp rfl rfl (p_move rfl rfl) ?_
  refine rp rfl rfl (p_ext rfl rfl rfl rfl) ?_
  refine rp rfl rfl (p_ext rfl rfl rfl rfl) ?_
  refine rp rfl rfl (p_asg rfl rfl) ?_
  refine rp rfl rfl (p_asg rfl rfl) ?_
  refine rz [(0, .i mode0), (1, .p ((fun q : List GSlot => AV.lst (q.flatMap GSlot.cs) q.length) l1)), (5, .y r'1.1), (6, .i r'1.2)] [] rfl rfl rfl ?_
  refine sg [0, 1, 2, 3, 4, 5, 6, 7] rfl ?_
  refine rp rfl rfl (p_move rfl rfl) ?_
  refine rp rfl rfl (p_move rfl rfl) ?_
  refine bindK H fun r'2 h2 H => ?_
  refine rp rfl rfl (p_callp rfl rfl rfl Tryd.func18 rfl rfl (g_ref_RootOf_ac h2) ⟨rfl, rfl, trivial⟩) ?_
  refine rp rfl rfl (p_move rfl rfl) ?_
  refine rp rfl rfl (p_ext rfl rfl rfl rfl) ?_
  refine rp rfl rfl (p_ext rfl rfl rfl rfl) ?_
  refine rp rfl rfl (p_asg rfl rfl) ?_
  refine rp rfl rfl (p_asg rfl rfl) ?_
  refine rz [(5, .y r'1.1), (6, .i r'1.2), (7, .y r'2.1), (8, .i r'2.2)] [] rfl rfl rfl ?_
  refine AW2_seq ?_
  refine bindK H fun g'5 h6 H => ?_
  refine AW2_mid (⟨[(4, .b g'5)], [], 29⟩ : TS) ?_ ?_
  · clear H
    have H := h6
    clear h6
    refine AW2_reg [0, 1, 2, 3, 4, 5, 6, 7, 8] rfl ?_
    refine rp rfl rfl (p_move rfl rfl) ?_
    refine rp rfl rfl (p_move rfl rfl) ?_
    refine rp rfl rfl (p_ieq rfl rfl rfl) ?_
    refine rp rfl rfl (p_move rfl rfl) ?_
    refine (Classical.em (r'1.2 = r'2.2)).elim (fun h4 => ?_) (fun h4 => ?_)
    · replace H := ite_then h4 H
      refine r_on rfl rfl rfl rfl (decide_eq_true (p := r'1.2 = r'2.2) h4) rfl (PureD.opD (p_move rfl rfl)) ?_
      refine r_on rfl rfl rfl rfl (decide_eq_true (p := r'1.2 = r'2.2) h4) rfl (PureD.opD (p_move rfl rfl)) ?_
      refine bindK H fun r'4 h5 H => ?_
      refine r_on rfl rfl rfl rfl (decide_eq_true (p := r'1.2 = r'2.2) h4) rfl (PureD.opD (p_callp rfl rfl rfl Tryd.func16 rfl rfl (g_law_sameBytes_ac h5) ⟨rfl, rfl, trivial⟩)) ?_
      refine rp rfl rfl (p_pkt rfl rfl (decide_eq_true (p := r'1.2 = r'2.2) h4) (.same _)) ?_
      refine rp rfl rfl (p_asg rfl rfl) ?_
      refine rs [(4, .b r'4)] [] rfl rfl rfl ?_
      have hz := some_elim H
      subst hz
      exact RunW_nil rfl
    · replace H := ite_else h4 H
      refine r_off rfl rfl rfl rfl (decide_eq_false (p := r'1.2 = r'2.2) h4) rfl rfl ?_
      refine r_off rfl rfl rfl rfl (decide_eq_false (p := r'1.2 = r'2.2) h4) rfl rfl ?_
      refine r_off rfl rfl rfl rfl (decide_eq_false (p := r'1.2 = r'2.2) h4) rfl rfl ?_
      refine rp rfl rfl (p_pkf rfl rfl (decide_eq_false (p := r'1.2 = r'2.2) h4) (.same _)) ?_
      refine rp rfl rfl (p_asg rfl rfl) ?_
      refine rs [(4, .b false)] [] rfl rfl rfl ?_
      have hz := some_elim H
      subst hz
      exact RunW_nil rfl
  · refine AW2_ret ?_
    have hz := some_elim H
    subst hz
    exact ⟨⟨res_tmp (.same _), trivial⟩, trivial⟩

/-! slots.Path -/
noncomputable def g_slots_Path_l0 (mode0 : Int) : Int × (List (List UInt8)) × (List (List UInt8)) → Option ((Int × (List (List UInt8)) × (List (List UInt8))) ⊕ (((List (List UInt8)) × Int) ⊕ ((List (List UInt8)))))
  | (i2_0, row8_0, out10_0) => (if (row8_0.length : Int) > (1 : Int) then if 0 ≤ ixor i2_0 (1 : Int) ∧ ixor i2_0 (1 : Int) < (row8_0.length : Int) then if room (([] : List UInt8).length + (lrd row8_0 ((ixor i2_0 (1 : Int)).toNat)).length) 1 then if room (out10_0.length + ([([] : List UInt8) ++ (lrd row8_0 ((ixor i2_0 (1 : Int)).toNat))] : List (List UInt8)).length) 24 then letO (out10_0 ++ ([([] : List UInt8) ++ (lrd row8_0 ((ixor i2_0 (1 : Int)).toNat))] : List (List UInt8))) fun out10'2 => (g_slots_up mode0 row8_0).bind fun r'3 => (if r'3.2 ≠ (0 : Int) then some (.inr (.inl (([] : List (List UInt8)), r'3.2))) else some (.inl (w64 (i2_0.tdiv (2 : Int)), r'3.1, out10'2))) else none else none else none else some (.inr (.inr out10_0)))
noncomputable def g_slots_Path (mode0 : Int) (l1 : List GSlot) (i2 : Int) : Option ((List (List UInt8)) × Int) :=
  (g_slots_leaves mode0 l1).bind fun r'1 => (if r'1.2 ≠ (0 : Int) then some (([] : List (List UInt8)), r'1.2) else (if (i2 < (0 : Int)) ∨ (i2 ≥ (l1.length : Int)) then some (([] : List (List UInt8)), (6 : Int)) else (loopO (g_slots_Path_l0 mode0) (i2, r'1.1, ([] : List (List UInt8)))).bind fun o'7 => match o'7 with | .inl y'8 => some y'8 | .inr (y'9) => some (y'9, (0 : Int))))
set_option maxHeartbeats 4000000 in
set_option maxRecDepth 100000 in
theorem g_slots_Path_ac2 {mode0 : Int} {l1 : List GSlot} {i2 : Int} {r : (List (List UInt8)) × Int} (H : g_slots_Path mode0 l1 i2 = some r) : AC2 Tryd.prog 19 (pureT [(AV.int mode0), ((fun q : List GSlot => AV.lst (q.flatMap GSlot.cs) q.length) l1), (AV.int i2)]) [] (retV [.c (.own 6 r.1.length 1), .i r.2]) [(6, .pure (r.1.map AV.bytes))] := by
  refine AC2_of_body (vs := [.c (.own 6 r.1.length 1), .i r.2]) Tryd.func19 rfl rfl (Nat.le_of_ble_eq_true rfl) rfl ?_
  unfold g_slots_Path at H
  refine as2 [(0, .i mode0), (1, .p ((fun q : List GSlot => AV.lst (q.flatMap GSlot.cs) q.length) l1)), (2, .i i2)] [] rfl rfl rfl ?_
  refine sg [0, 1] rfl ?_
  refine rp rfl rfl (p_asgn rfl) ?_
  refine rp rfl rfl (p_asg rfl rfl) ?_
  refine rz [(0, .i mode0), (1, .p ((fun q : List GSlot => AV.lst (q.flatMap GSlot.cs) q.length) l1)), (2, .i i2)] [] rfl rfl rfl ?_
  refine sg [0, 1, 2, 3, 4, 5, 6, 7] rfl ?_
  refine rp rfl rfl (p_move rfl rfl) ?_
  refine rp rfl rfl (p_move rfl rfl) ?_
  refine bindK H fun r'1 h1 H => ?_
  refine rp rfl rfl (p_callp rfl rfl rfl Tryd.func43 rfl rfl (g_slots_leaves_ac h1) ⟨rfl, rfl, trivial⟩) ?_
  refine rp rfl rfl (p_move rfl rfl) ?_
  refine rp rfl rfl (p_ext rfl rfl rfl rfl) ?_
  refine rp rfl rfl (p_ext rfl rfl rfl rfl) ?_
  refine rp rfl rfl (p_asg rfl rfl) ?_
  refine rp rfl rfl (p_asg rfl rfl) ?_
  refine rz [(0, .i mode0), (1, .p ((fun q : List GSlot => AV.lst (q.flatMap GSlot.cs) q.length) l1)), (2, .i i2), (8, .p (AV.lists r'1.1)), (9, .i r'1.2)] [] rfl rfl rfl ?_
  refine AW2_seq ?_
  refine sg [0, 1] rfl ?_
  refine rp rfl rfl (p_move rfl rfl) ?_
  refine rp rfl rfl (p_ine rfl rfl rfl) ?_
  refine rz [(0, .i mode0), (1, .p ((fun q : List GSlot => AV.lst (q.flatMap GSlot.cs) q.length) l1)), (2, .i i2), (8, .p (AV.lists r'1.1)), (9, .i r'1.2), (18, .b (decide (r'1.2 ≠ (0 : Int))))] [] rfl rfl rfl ?_
  refine AW2_if (p := r'1.2 ≠ (0 : Int)) rfl (fun h2 => ?_) (fun h2 => ?_)
  · replace H := ite_then h2 H
    refine sg [0, 1, 2] rfl ?_
    refine rp rfl rfl (p_move rfl rfl) ?_
    refine rp rfl rfl (p_asgn rfl) ?_
    refine rp rfl rfl (p_asg rfl rfl) ?_
    refine rz [(6, .p .nil), (7, .i r'1.2)] [] rfl rfl rfl ?_
    refine as2 [(6, .p .nil), (7, .i r'1.2)] [] rfl rfl rfl ?_
    refine AW2_gho (Gho_own (d := 6) (b := 6) (z := 1) rfl rfl rfl rfl) ?_
    refine AW2_st [(6, .c (.own 6 ([] : List (List UInt8)).length 1)), (7, .i r'1.2)] [(6, .pure (([] : List (List UInt8)).map AV.bytes))] rfl ⟨TLes.own rfl, TLes.same _, trivial⟩ ⟨rfl, trivial⟩ ?_
    refine AW2_ret ?_
    have hz := some_elim H
    subst hz
    exact ⟨⟨res_tmp (.same _), res_tmp (.same _), trivial⟩, ⟨rfl, trivial⟩⟩
  · replace H := ite_else h2 H
    refine as2 [(0, .i mode0), (1, .p ((fun q : List GSlot => AV.lst (q.flatMap GSlot.cs) q.length) l1)), (2, .i i2), (8, .p (AV.lists r'1.1))] [] rfl rfl rfl ?_
    refine AW2_skip ?_
    refine AW2_seq ?_
    refine AW2_seq ?_
    refine AW2_mid (⟨[(0, .i mode0), (2, .i i2), (8, .p (AV.lists r'1.1)), (27, .b (decide ((i2 < (0 : Int)) ∨ (i2 ≥ (l1.length : Int)))))], [], 53⟩ : TS) ?_ ?_
    · refine AW2_reg [0, 1, 2, 3, 4, 5, 6, 7] rfl ?_
      refine rp rfl rfl (p_move rfl rfl) ?_
      refine rp rfl rfl (p_bin rfl rfl rfl rfl) ?_
      refine rp rfl rfl (p_move rfl rfl) ?_
      refine (Classical.em (i2 < (0 : Int))).elim (fun h3 => ?_) (fun h3 => ?_)
      · refine r_off rfl rfl rfl rfl (decide_eq_true (p := i2 < (0 : Int)) h3) rfl rfl ?_
        refine r_off rfl rfl rfl rfl (decide_eq_true (p := i2 < (0 : Int)) h3) rfl rfl ?_
        refine r_off rfl rfl rfl rfl (decide_eq_true (p := i2 < (0 : Int)) h3) rfl rfl ?_
        refine r_off rfl rfl rfl rfl (decide_eq_true (p := i2 < (0 : Int)) h3) rfl rfl ?_
        refine rp rfl rfl (p_pkt rfl rfl (decide_eq_true (p := i2 < (0 : Int)) h3) (tb (decide_eq_true (p := (i2 < (0 : Int)) ∨ (i2 ≥ (l1.length : Int))) (Or.inl h3)).symm)) ?_
        refine rs [(0, .i mode0), (2, .i i2), (8, .p (AV.lists r'1.1)), (27, .b (decide ((i2 < (0 : Int)) ∨ (i2 ≥ (l1.length : Int)))))] [] rfl rfl rfl ?_
        exact RunW_nil rfl
      · refine r_on rfl rfl rfl rfl (decide_eq_false (p := i2 < (0 : Int)) h3) rfl (PureD.opD (p_move rfl rfl)) ?_
        refine r_on rfl rfl rfl rfl (decide_eq_false (p := i2 < (0 : Int)) h3) rfl (PureD.opD (p_move rfl rfl)) ?_
        refine r_on rfl rfl rfl rfl (decide_eq_false (p := i2 < (0 : Int)) h3) rfl (PureD.opD (p_lenl rfl Tryd.underlying30 rfl rfl)) ?_
        refine r_on rfl rfl rfl rfl (decide_eq_false (p := i2 < (0 : Int)) h3) rfl (PureD.opD (p_bin rfl rfl rfl rfl)) ?_
        refine rp rfl rfl (p_pkf rfl rfl (decide_eq_false (p := i2 < (0 : Int)) h3) (tb ((or_l (p := i2 < (0 : Int)) (q := i2 ≥ (l1.length : Int)) h3)))) ?_
        refine rs [(0, .i mode0), (2, .i i2), (8, .p (AV.lists r'1.1)), (27, .b (decide ((i2 < (0 : Int)) ∨ (i2 ≥ (l1.length : Int)))))] [] rfl rfl rfl ?_
        exact RunW_nil rfl
    · refine AW2_if (p := (i2 < (0 : Int)) ∨ (i2 ≥ (l1.length : Int))) rfl (fun h4 => ?_) (fun h4 => ?_)
      · replace H := ite_then h4 H
        refine sg [0, 1] rfl ?_
        refine rp rfl rfl (p_asgn rfl) ?_
        refine rp rfl rfl (p_asg rfl rfl) ?_
        refine rz [(6, .p .nil), (7, .i (6 : Int))] [] rfl rfl rfl ?_
        refine as2 [(6, .p .nil), (7, .i (6 : Int))] [] rfl rfl rfl ?_
        refine AW2_gho (Gho_own (d := 6) (b := 6) (z := 1) rfl rfl rfl rfl) ?_
        refine AW2_st [(6, .c (.own 6 ([] : List (List UInt8)).length 1)), (7, .i (6 : Int))] [(6, .pure (([] : List (List UInt8)).map AV.bytes))] rfl ⟨TLes.own rfl, TLes.same _, trivial⟩ ⟨rfl, trivial⟩ ?_
        refine AW2_ret ?_
        have hz := some_elim H
        subst hz
        exact ⟨⟨res_tmp (.same _), res_tmp (.same _), trivial⟩, ⟨rfl, trivial⟩⟩
      · replace H := ite_else h4 H
        refine as2 [(0, .i mode0), (2, .i i2), (8, .p (AV.lists r'1.1))] [] rfl rfl rfl ?_
        refine AW2_skip ?_
        refine sg [0] rfl ?_
        refine rp rfl rfl (p_asgn rfl) ?_
        refine rz [(0, .i mode0), (2, .i i2), (8, .p (AV.lists r'1.1)), (10, .p .nil)] [] rfl rfl rfl ?_
        refine AW2_seq ?_
        refine AW2_block ?_
        refine as2 [(0, .i mode0), (2, .i i2), (8, .p (AV.lists r'1.1)), (10, .p .nil)] [] rfl rfl rfl ?_
        refine AW2_gho (Gho_own (d := 10) (b := 10) (z := 1) rfl rfl rfl rfl) ?_
        refine AW2_st [(0, .i mode0), (2, .i i2), (8, .p (AV.lists r'1.1)), (10, .c (.own 10 ([] : List (List UInt8)).length 1))] [(10, .pure (([] : List (List UInt8)).map AV.bytes))] rfl ⟨TLes.same _, TLes.same _, TLes.same _, TLes.own rfl, trivial⟩ ⟨rfl, trivial⟩ ?_
        refine bindK H fun o'7 h11 H => ?_
        refine AW2_loopO (fun a'4 : Int × (List (List UInt8)) × (List (List UInt8)) => (⟨[(0, .i mode0), (2, .i a'4.1), (8, .p (AV.lists a'4.2.1)), (10, .c (.own 10 a'4.2.2.length 1))], [(10, .pure (a'4.2.2.map AV.bytes))], 53⟩ : TS)) (fun (o : ((List (List UInt8)) × Int) ⊕ ((List (List UInt8)))) e s' => match o with | .inl y'5 => e = Go.Exit.ret ∧ ResAll Tryd.prog s' [ResultVar.tmp 6, ResultVar.tmp 7] [.c (.own 6 y'5.1.length 1), .i y'5.2] ∧ HFits s' [(6, .pure (y'5.1.map AV.bytes))] | .inr (y'6) => e = Go.Exit.exit 0 ∧ s' = (⟨[(10, .c (.own 10 y'6.length 1))], [(10, .pure (y'6.map AV.bytes))], 53⟩ : TS)) h11 rfl (fun a x hx => ?_) (fun e s' hs => ?_)
        · clear H
          obtain ⟨i2_0, row8_0, out10_0⟩ := a
          have H := hx
          clear hx
          unfold g_slots_Path_l0 at H
          refine AW2_seq ?_
          refine sg [0, 1, 2] rfl ?_
          refine rp rfl rfl (p_move rfl rfl) ?_
          refine rp rfl rfl (p_lenl rfl Tryd.underlying33 rfl rfl) ?_
          refine rp rfl rfl (p_bin rfl rfl rfl rfl) ?_
          refine rz [(0, .i mode0), (2, .i i2_0), (8, .p (AV.lists row8_0)), (10, .c (.own 10 out10_0.length 1)), (30, .b (decide ((row8_0.length : Int) > (1 : Int))))] [(10, .pure (out10_0.map AV.bytes))] rfl rfl rfl ?_
          refine AW2_if (p := (row8_0.length : Int) > (1 : Int)) rfl (fun h5 => ?_) (fun h5 => ?_)
          · replace H := ite_then h5 H
            refine as2 [(0, .i mode0), (2, .i i2_0), (8, .p (AV.lists row8_0)), (10, .c (.own 10 out10_0.length 1))] [(10, .pure (out10_0.map AV.bytes))] rfl rfl rfl ?_
            refine AW2_skip ?_
            refine AW2_block ?_
            refine sg [0, 1, 2, 3, 4, 5, 6, 7, 8, 9, 10] rfl ?_
            refine rp rfl rfl (p_move rfl rfl) ?_
            refine r_op rfl rfl (MakeD.opD (n_bs0 32 rfl Tryd.underlying22 in_5) rfl rfl rfl rfl) ?_
            refine rp rfl rfl (p_move rfl rfl) ?_
            refine rp rfl rfl (p_move rfl rfl) ?_
            refine rp rfl rfl (p_bin rfl rfl rfl rfl) ?_
            refine chkK H fun h6 H => ?_
            refine rp rfl rfl (u_ixl rfl rfl Tryd.underlying33 in_22 rfl rfl (ixe h6) (ixn h6) (lne (ixn h6))) ?_
            refine rp rfl rfl (u_ld rfl rfl Tryd.underlying22 rfl rfl (Sub.map default (ixn h6))) ?_
            refine chkK H fun h7 H => ?_
            refine r_op rfl rfl (u_app [32] rfl rfl rfl rfl Tryd.underlying22 Tryd.underlying22 in_5 rfl rfl rfl (bl ([] : List UInt8)) (by decide) rfl (bl (lrd row8_0 ((ixor i2_0 (1 : Int)).toNat))) h7 (by decide) rfl rfl (bapp ([] : List UInt8) (lrd row8_0 ((ixor i2_0 (1 : Int)).toNat))) (lapp ([] : List UInt8) (lrd row8_0 ((ixor i2_0 (1 : Int)).toNat)))) ?_
            refine RunW_gho (Gho_pubs [38] ⟨rfl, trivial⟩ rfl (bl (([] : List UInt8) ++ (lrd row8_0 ((ixor i2_0 (1 : Int)).toNat)))) (by decide)) ?_
            refine r_op rfl rfl (MakeD.opD (u_bs 39 rfl Tryd.underlying33 in_22 rfl one_22 (by decide) (by decide) rfl rfl rfl) rfl rfl rfl rfl) ?_
            refine chkK H fun h8 H => ?_
            refine r_op rfl rfl (u_app [10, 31] rfl rfl rfl rfl Tryd.underlying33 Tryd.underlying33 in_22 rfl rfl rfl (ml AV.bytes out10_0) (by decide) (srcT_o rfl rfl (ml AV.bytes ([([] : List UInt8) ++ (lrd row8_0 ((ixor i2_0 (1 : Int)).toNat))] : List (List UInt8))) (by decide)) (ml AV.bytes ([([] : List UInt8) ++ (lrd row8_0 ((ixor i2_0 (1 : Int)).toNat))] : List (List UInt8))) h8 (by decide) rfl rfl (mapp AV.bytes out10_0 ([([] : List UInt8) ++ (lrd row8_0 ((ixor i2_0 (1 : Int)).toNat))] : List (List UInt8))) (lapp out10_0 ([([] : List UInt8) ++ (lrd row8_0 ((ixor i2_0 (1 : Int)).toNat))] : List (List UInt8)))) ?_
            refine rp rfl rfl (p_asg rfl rfl) ?_
            refine rz [(0, .i mode0), (2, .i i2_0), (8, .p (AV.lists row8_0)), (10, .c (.own 10 (out10_0 ++ ([([] : List UInt8) ++ (lrd row8_0 ((ixor i2_0 (1 : Int)).toNat))] : List (List UInt8))).length 1))] [(10, .pure ((out10_0 ++ ([([] : List UInt8) ++ (lrd row8_0 ((ixor i2_0 (1 : Int)).toNat))] : List (List UInt8))).map AV.bytes))] rfl rfl rfl ?_
            refine gen1 (fun out10'2 => (⟨[(0, .i mode0), (2, .i i2_0), (8, .p (AV.lists row8_0)), (10, .c (.own 10 out10'2.length 1))], [(10, .pure (out10'2.map AV.bytes))], 53⟩ : TS)) H ?_
            intro out10'2 H
            refine sg [0, 1, 2, 3, 4, 5, 6, 7] rfl ?_
            refine rp rfl rfl (p_move rfl rfl) ?_
            refine rp rfl rfl (p_move rfl rfl) ?_
            refine bindK H fun r'3 h9 H => ?_
            refine rp rfl rfl (p_callp rfl rfl rfl Tryd.func44 rfl rfl (g_slots_up_ac h9) ⟨rfl, rfl, trivial⟩) ?_
            refine rp rfl rfl (p_move rfl rfl) ?_
            refine rp rfl rfl (p_ext rfl rfl rfl rfl) ?_
            refine rp rfl rfl (p_ext rfl rfl rfl rfl) ?_
            refine rp rfl rfl (p_asg rfl rfl) ?_
            refine rp rfl rfl (p_asg rfl rfl) ?_
            refine rz [(0, .i mode0), (2, .i i2_0), (8, .p (AV.lists r'3.1)), (9, .i r'3.2), (10, .c (.own 10 out10'2.length 1))] [(10, .pure (out10'2.map AV.bytes))] rfl rfl rfl ?_
            refine AW2_seq ?_
            refine sg [0, 1] rfl ?_
            refine rp rfl rfl (p_move rfl rfl) ?_
            refine rp rfl rfl (p_ine rfl rfl rfl) ?_
            refine rz [(0, .i mode0), (2, .i i2_0), (8, .p (AV.lists r'3.1)), (9, .i r'3.2), (10, .c (.own 10 out10'2.length 1)), (48, .b (decide (r'3.2 ≠ (0 : Int))))] [(10, .pure (out10'2.map AV.bytes))] rfl rfl rfl ?_
            refine AW2_if (p := r'3.2 ≠ (0 : Int)) rfl (fun h10 => ?_) (fun h10 => ?_)
            · replace H := ite_then h10 H
              refine sg [0, 1, 2] rfl ?_
              refine rp rfl rfl (p_move rfl rfl) ?_
              refine rp rfl rfl (p_asgn rfl) ?_
              refine rp rfl rfl (p_asg rfl rfl) ?_
              refine rz [(6, .p .nil), (7, .i r'3.2)] [] rfl rfl rfl ?_
              refine as2 [(6, .p .nil), (7, .i r'3.2)] [] rfl rfl rfl ?_
              refine AW2_gho (Gho_own (d := 6) (b := 6) (z := 1) rfl rfl rfl rfl) ?_
              refine AW2_st [(6, .c (.own 6 ([] : List (List UInt8)).length 1)), (7, .i r'3.2)] [(6, .pure (([] : List (List UInt8)).map AV.bytes))] rfl ⟨TLes.own rfl, TLes.same _, trivial⟩ ⟨rfl, trivial⟩ ?_
              refine AW2_ret ?_
              have hz := some_elim H
              subst hz
              exact ⟨rfl, ⟨res_tmp (.same _), res_tmp (.same _), trivial⟩, ⟨rfl, trivial⟩⟩
            · replace H := ite_else h10 H
              refine as2 [(0, .i mode0), (2, .i i2_0), (8, .p (AV.lists r'3.1)), (10, .c (.own 10 out10'2.length 1))] [(10, .pure (out10'2.map AV.bytes))] rfl rfl rfl ?_
              refine AW2_skip ?_
              refine AW2_reg [0, 1, 2] rfl ?_
              refine rp rfl rfl (p_move rfl rfl) ?_
              refine rp rfl rfl (p_iquo rfl rfl rfl (by decide)) ?_
              refine rp rfl rfl (p_asg rfl rfl) ?_
              refine rz [(0, .i mode0), (2, .i (w64 (i2_0.tdiv (2 : Int)))), (8, .p (AV.lists r'3.1)), (10, .c (.own 10 out10'2.length 1))] [(10, .pure (out10'2.map AV.bytes))] rfl rfl rfl ?_
              have hz := some_elim H
              subst hz
              exact ⟨rfl, rfl⟩
          · replace H := ite_else h5 H
            refine as2 [(10, .c (.own 10 out10_0.length 1))] [(10, .pure (out10_0.map AV.bytes))] rfl rfl rfl ?_
            refine AW2_exit ?_
            refine thenQ2_exit ?_
            have hz := some_elim H
            subst hz
            exact ⟨rfl, rfl⟩
        · rcases o'7 with y'8 | y'9
          · obtain ⟨rfl, hs⟩ := hs
            refine ⟨by simp, ?_⟩
            have hz := some_elim H
            subst hz
            exact ⟨hs.1, hs.2⟩
          · obtain ⟨rfl, rfl⟩ := hs
            refine ⟨by simp, ?_⟩
            refine blockQ2_exit ?_
            refine sg [0, 1, 2] rfl ?_
            refine rp rfl rfl (p_move rfl rfl) ?_
            refine rp rfl rfl (p_asg rfl rfl) ?_
            refine rp rfl rfl (p_asg rfl rfl) ?_
            refine rs [(6, .c (.own 10 y'9.length 1)), (7, .i (0 : Int))] [(10, .pure (y'9.map AV.bytes))] rfl rfl rfl ?_
            refine RunW_gho (Gho_ren 10 6 rfl rfl rfl rfl rfl) ?_
            refine rz [(6, .c (.own 6 y'9.length 1)), (7, .i (0 : Int))] [(6, .pure (y'9.map AV.bytes))] rfl rfl rfl ?_
            refine as2 [(6, .c (.own 6 y'9.length 1)), (7, .i (0 : Int))] [(6, .pure (y'9.map AV.bytes))] rfl rfl rfl ?_
            refine AW2_ret ?_
            have hz := some_elim H
            subst hz
            exact ⟨⟨res_tmp (.same _), res_tmp (.same _), trivial⟩, ⟨rfl, trivial⟩⟩
theorem g_slots_Path_ac {mode0 : Int} {l1 : List GSlot} {i2 : Int} {r : (List (List UInt8)) × Int} (H : g_slots_Path mode0 l1 i2 = some r) : ACp Tryd.prog 19 [(AV.int mode0), ((fun q : List GSlot => AV.lst (q.flatMap GSlot.cs) q.length) l1), (AV.int i2)] (.tup [(AV.lists r.1), (AV.int r.2)]) := ACp_pub (g_slots_Path_ac2 H) (fun _ _ hm => lent_tup ⟨lent_own hm rfl (ml AV.bytes r.1) (by decide), .same _, trivial⟩)

/-! chirographref.PathOf -/
noncomputable def g_ref_PathOf_l0 (mode0 : Int) (l1 : List GSlot) (i2 : Int) : Int × (List (List UInt8)) → Option ((Int × (List (List UInt8))) ⊕ (((List (List UInt8)))))
  | (size10_0, out9_0) => (if size10_0 < (l1.length : Int) then if size10_0 ≠ 0 then if 0 ≤ w64 ((ixor (w64 (i2.tdiv size10_0)) (1 : Int)) * size10_0) ∧ w64 ((ixor (w64 (i2.tdiv size10_0)) (1 : Int)) * size10_0) ≤ w64 ((w64 ((ixor (w64 (i2.tdiv size10_0)) (1 : Int)) * size10_0)) + size10_0) ∧ w64 ((w64 ((ixor (w64 (i2.tdiv size10_0)) (1 : Int)) * size10_0)) + size10_0) ≤ (l1.length : Int) then (g_ref_rootOf 100000 mode0 (cut l1 (w64 ((ixor (w64 (i2.tdiv size10_0)) (1 : Int)) * size10_0)) (w64 ((w64 ((ixor (w64 (i2.tdiv size10_0)) (1 : Int)) * size10_0)) + size10_0)))).bind fun r'2 => if room (out9_0.length + ([r'2] : List (List UInt8)).length) 24 then some (.inl (w64 (size10_0 * (2 : Int)), out9_0 ++ ([r'2] : List (List UInt8)))) else none else none else none else some (.inr out9_0))
noncomputable def g_ref_PathOf (mode0 : Int) (l1 : List GSlot) (i2 : Int) : Option ((List (List UInt8)) × Int) :=
  (g_ref_slotsFault mode0 l1).bind fun r'1 => (if r'1 ≠ (0 : Int) then some (([] : List (List UInt8)), r'1) else (if (i2 < (0 : Int)) ∨ (i2 ≥ (l1.length : Int)) then some (([] : List (List UInt8)), (6 : Int)) else (loopO (g_ref_PathOf_l0 mode0 l1 i2) ((1 : Int), ([] : List (List UInt8)))).bind fun y'6 => some (y'6, (0 : Int))))
set_option maxHeartbeats 4000000 in
set_option maxRecDepth 100000 in
theorem g_ref_PathOf_ac2 {mode0 : Int} {l1 : List GSlot} {i2 : Int} {r : (List (List UInt8)) × Int} (H : g_ref_PathOf mode0 l1 i2 = some r) : AC2 Tryd.prog 20 (pureT [(AV.int mode0), ((fun q : List GSlot => AV.lst (q.flatMap GSlot.cs) q.length) l1), (AV.int i2)]) [] (retV [.c (.own 6 r.1.length 1), .i r.2]) [(6, .pure (r.1.map AV.bytes))] := by
  refine AC2_of_body (vs := [.c (.own 6 r.1.length 1), .i r.2]) Tryd.func20 rfl rfl (Nat.le_of_ble_eq_true rfl) rfl ?_
  unfold g_ref_PathOf at H
  refine as2 [(0, .i mode0), (1, .p ((fun q : List GSlot => AV.lst (q.flatMap GSlot.cs) q.length) l1)), (2, .i i2)] [] rfl rfl rfl ?_
  refine sg [0, 1] rfl ?_
  refine rp rfl rfl (p_asgn rfl) ?_
  refine rp rfl rfl (p_asg rfl rfl) ?_
  refine rz [(0, .i mode0), (1, .p ((fun q : List GSlot => AV.lst (q.flatMap GSlot.cs) q.length) l1)), (2, .i i2)] [] rfl rfl rfl ?_
  refine AW2_seq ?_
  refine sg [0, 1, 2, 3] rfl ?_
  refine rp rfl rfl (p_move rfl rfl) ?_
  refine rp rfl rfl (p_move rfl rfl) ?_
  refine bindK H fun r'1 h1 H => ?_
  refine rp rfl rfl (p_callp rfl rfl rfl Tryd.func45 rfl rfl (g_ref_slotsFault_ac h1) ⟨rfl, rfl, trivial⟩) ?_
  refine rp rfl rfl (p_asg rfl rfl) ?_
  refine rz [(0, .i mode0), (1, .p ((fun q : List GSlot => AV.lst (q.flatMap GSlot.cs) q.length) l1)), (2, .i i2), (8, .i r'1)] [] rfl rfl rfl ?_
  refine sg [0, 1] rfl ?_
  refine rp rfl rfl (p_move rfl rfl) ?_
  refine rp rfl rfl (p_ine rfl rfl rfl) ?_
  refine rz [(0, .i mode0), (1, .p ((fun q : List GSlot => AV.lst (q.flatMap GSlot.cs) q.length) l1)), (2, .i i2), (8, .i r'1), (16, .b (decide (r'1 ≠ (0 : Int))))] [] rfl rfl rfl ?_
  refine AW2_if (p := r'1 ≠ (0 : Int)) rfl (fun h2 => ?_) (fun h2 => ?_)
  · replace H := ite_then h2 H
    refine sg [0, 1, 2] rfl ?_
    refine rp rfl rfl (p_move rfl rfl) ?_
    refine rp rfl rfl (p_asgn rfl) ?_
    refine rp rfl rfl (p_asg rfl rfl) ?_
    refine rz [(6, .p .nil), (7, .i r'1)] [] rfl rfl rfl ?_
    refine as2 [(6, .p .nil), (7, .i r'1)] [] rfl rfl rfl ?_
    refine AW2_gho (Gho_own (d := 6) (b := 6) (z := 1) rfl rfl rfl rfl) ?_
    refine AW2_st [(6, .c (.own 6 ([] : List (List UInt8)).length 1)), (7, .i r'1)] [(6, .pure (([] : List (List UInt8)).map AV.bytes))] rfl ⟨TLes.own rfl, TLes.same _, trivial⟩ ⟨rfl, trivial⟩ ?_
    refine AW2_ret ?_
    have hz := some_elim H
    subst hz
    exact ⟨⟨res_tmp (.same _), res_tmp (.same _), trivial⟩, ⟨rfl, trivial⟩⟩
  · replace H := ite_else h2 H
    refine as2 [(0, .i mode0), (1, .p ((fun q : List GSlot => AV.lst (q.flatMap GSlot.cs) q.length) l1)), (2, .i i2)] [] rfl rfl rfl ?_
    refine AW2_skip ?_
    refine AW2_seq ?_
    refine AW2_seq ?_
    refine AW2_mid (⟨[(0, .i mode0), (1, .p ((fun q : List GSlot => AV.lst (q.flatMap GSlot.cs) q.length) l1)), (2, .i i2), (25, .b (decide ((i2 < (0 : Int)) ∨ (i2 ≥ (l1.length : Int)))))], [], 50⟩ : TS) ?_ ?_
    · refine AW2_reg [0, 1, 2, 3, 4, 5, 6, 7] rfl ?_
      refine rp rfl rfl (p_move rfl rfl) ?_
      refine rp rfl rfl (p_bin rfl rfl rfl rfl) ?_
      refine rp rfl rfl (p_move rfl rfl) ?_
      refine (Classical.em (i2 < (0 : Int))).elim (fun h3 => ?_) (fun h3 => ?_)
      · refine r_off rfl rfl rfl rfl (decide_eq_true (p := i2 < (0 : Int)) h3) rfl rfl ?_
        refine r_off rfl rfl rfl rfl (decide_eq_true (p := i2 < (0 : Int)) h3) rfl rfl ?_
        refine r_off rfl rfl rfl rfl (decide_eq_true (p := i2 < (0 : Int)) h3) rfl rfl ?_
        refine r_off rfl rfl rfl rfl (decide_eq_true (p := i2 < (0 : Int)) h3) rfl rfl ?_
        refine rp rfl rfl (p_pkt rfl rfl (decide_eq_true (p := i2 < (0 : Int)) h3) (tb (decide_eq_true (p := (i2 < (0 : Int)) ∨ (i2 ≥ (l1.length : Int))) (Or.inl h3)).symm)) ?_
        refine rs [(0, .i mode0), (1, .p ((fun q : List GSlot => AV.lst (q.flatMap GSlot.cs) q.length) l1)), (2, .i i2), (25, .b (decide ((i2 < (0 : Int)) ∨ (i2 ≥ (l1.length : Int)))))] [] rfl rfl rfl ?_
        exact RunW_nil rfl
      · refine r_on rfl rfl rfl rfl (decide_eq_false (p := i2 < (0 : Int)) h3) rfl (PureD.opD (p_move rfl rfl)) ?_
        refine r_on rfl rfl rfl rfl (decide_eq_false (p := i2 < (0 : Int)) h3) rfl (PureD.opD (p_move rfl rfl)) ?_
        refine r_on rfl rfl rfl rfl (decide_eq_false (p := i2 < (0 : Int)) h3) rfl (PureD.opD (p_lenl rfl Tryd.underlying30 rfl rfl)) ?_
        refine r_on rfl rfl rfl rfl (decide_eq_false (p := i2 < (0 : Int)) h3) rfl (PureD.opD (p_bin rfl rfl rfl rfl)) ?_
        refine rp rfl rfl (p_pkf rfl rfl (decide_eq_false (p := i2 < (0 : Int)) h3) (tb ((or_l (p := i2 < (0 : Int)) (q := i2 ≥ (l1.length : Int)) h3)))) ?_
        refine rs [(0, .i mode0), (1, .p ((fun q : List GSlot => AV.lst (q.flatMap GSlot.cs) q.length) l1)), (2, .i i2), (25, .b (decide ((i2 < (0 : Int)) ∨ (i2 ≥ (l1.length : Int)))))] [] rfl rfl rfl ?_
        exact RunW_nil rfl
    · refine AW2_if (p := (i2 < (0 : Int)) ∨ (i2 ≥ (l1.length : Int))) rfl (fun h4 => ?_) (fun h4 => ?_)
      · replace H := ite_then h4 H
        refine sg [0, 1] rfl ?_
        refine rp rfl rfl (p_asgn rfl) ?_
        refine rp rfl rfl (p_asg rfl rfl) ?_
        refine rz [(6, .p .nil), (7, .i (6 : Int))] [] rfl rfl rfl ?_
        refine as2 [(6, .p .nil), (7, .i (6 : Int))] [] rfl rfl rfl ?_
        refine AW2_gho (Gho_own (d := 6) (b := 6) (z := 1) rfl rfl rfl rfl) ?_
        refine AW2_st [(6, .c (.own 6 ([] : List (List UInt8)).length 1)), (7, .i (6 : Int))] [(6, .pure (([] : List (List UInt8)).map AV.bytes))] rfl ⟨TLes.own rfl, TLes.same _, trivial⟩ ⟨rfl, trivial⟩ ?_
        refine AW2_ret ?_
        have hz := some_elim H
        subst hz
        exact ⟨⟨res_tmp (.same _), res_tmp (.same _), trivial⟩, ⟨rfl, trivial⟩⟩
      · replace H := ite_else h4 H
        refine as2 [(0, .i mode0), (1, .p ((fun q : List GSlot => AV.lst (q.flatMap GSlot.cs) q.length) l1)), (2, .i i2)] [] rfl rfl rfl ?_
        refine AW2_skip ?_
        refine sg [0] rfl ?_
        refine rp rfl rfl (p_asgn rfl) ?_
        refine rz [(0, .i mode0), (1, .p ((fun q : List GSlot => AV.lst (q.flatMap GSlot.cs) q.length) l1)), (2, .i i2), (9, .p .nil)] [] rfl rfl rfl ?_
        refine AW2_seq ?_
        refine sg [0] rfl ?_
        refine rp rfl rfl (p_asg rfl rfl) ?_
        refine rz [(0, .i mode0), (1, .p ((fun q : List GSlot => AV.lst (q.flatMap GSlot.cs) q.length) l1)), (2, .i i2), (9, .p .nil), (10, .i (1 : Int))] [] rfl rfl rfl ?_
        refine AW2_block ?_
        refine as2 [(0, .i mode0), (1, .p ((fun q : List GSlot => AV.lst (q.flatMap GSlot.cs) q.length) l1)), (2, .i i2), (9, .p .nil), (10, .i (1 : Int))] [] rfl rfl rfl ?_
        refine AW2_gho (Gho_own (d := 9) (b := 9) (z := 1) rfl rfl rfl rfl) ?_
        refine AW2_st [(0, .i mode0), (1, .p ((fun q : List GSlot => AV.lst (q.flatMap GSlot.cs) q.length) l1)), (2, .i i2), (9, .c (.own 9 ([] : List (List UInt8)).length 1)), (10, .i (1 : Int))] [(9, .pure (([] : List (List UInt8)).map AV.bytes))] rfl ⟨TLes.same _, TLes.same _, TLes.same _, TLes.own rfl, TLes.same _, trivial⟩ ⟨rfl, trivial⟩ ?_
        refine bindK H fun y'6 h10 H => ?_
        refine AW2_loopO (fun a'3 : Int × (List (List UInt8)) => (⟨[(0, .i mode0), (1, .p ((fun q : List GSlot => AV.lst (q.flatMap GSlot.cs) q.length) l1)), (2, .i i2), (9, .c (.own 9 a'3.2.length 1)), (10, .i a'3.1)], [(9, .pure (a'3.2.map AV.bytes))], 50⟩ : TS)) (fun (y'4 : ((List (List UInt8)))) e s' => e = Go.Exit.exit 0 ∧ s' = (⟨[(9, .c (.own 9 y'4.length 1))], [(9, .pure (y'4.map AV.bytes))], 50⟩ : TS)) h10 rfl (fun a x hx => ?_) (fun e s' hs => ?_)
        · clear H
          obtain ⟨size10_0, out9_0⟩ := a
          have H := hx
          clear hx
          unfold g_ref_PathOf_l0 at H
          refine AW2_seq ?_
          refine sg [0, 1, 2, 3] rfl ?_
          refine rp rfl rfl (p_move rfl rfl) ?_
          refine rp rfl rfl (p_move rfl rfl) ?_
          refine rp rfl rfl (p_lenl rfl Tryd.underlying30 rfl rfl) ?_
          refine rp rfl rfl (p_bin rfl rfl rfl rfl) ?_
          refine rz [(0, .i mode0), (1, .p ((fun q : List GSlot => AV.lst (q.flatMap GSlot.cs) q.length) l1)), (2, .i i2), (9, .c (.own 9 out9_0.length 1)), (10, .i size10_0), (29, .b (decide (size10_0 < (l1.length : Int))))] [(9, .pure (out9_0.map AV.bytes))] rfl rfl rfl ?_
          refine AW2_if (p := size10_0 < (l1.length : Int)) rfl (fun h5 => ?_) (fun h5 => ?_)
          · replace H := ite_then h5 H
            refine as2 [(0, .i mode0), (1, .p ((fun q : List GSlot => AV.lst (q.flatMap GSlot.cs) q.length) l1)), (2, .i i2), (9, .c (.own 9 out9_0.length 1)), (10, .i size10_0)] [(9, .pure (out9_0.map AV.bytes))] rfl rfl rfl ?_
            refine AW2_skip ?_
            refine AW2_seq ?_
            refine AW2_block ?_
            refine sg [0, 1, 2, 3, 4, 5, 6] rfl ?_
            refine rp rfl rfl (p_move rfl rfl) ?_
            refine rp rfl rfl (p_move rfl rfl) ?_
            refine chkK H fun h6 H => ?_
            refine rp rfl rfl (p_iquo rfl rfl rfl h6) ?_
            refine rp rfl rfl (p_bin rfl rfl rfl rfl) ?_
            refine rp rfl rfl (p_move rfl rfl) ?_
            refine rp rfl rfl (p_bin rfl rfl rfl rfl) ?_
            refine rp rfl rfl (p_asg rfl rfl) ?_
            refine rz [(0, .i mode0), (1, .p ((fun q : List GSlot => AV.lst (q.flatMap GSlot.cs) q.length) l1)), (2, .i i2), (9, .c (.own 9 out9_0.length 1)), (10, .i size10_0), (11, .i (w64 ((ixor (w64 (i2.tdiv size10_0)) (1 : Int)) * size10_0)))] [(9, .pure (out9_0.map AV.bytes))] rfl rfl rfl ?_
            refine AW2_reg [0, 1, 2, 3, 4, 5, 6, 7, 8, 9, 10, 11] rfl ?_
            refine rp rfl rfl (p_move rfl rfl) ?_
            refine rp rfl rfl (p_move rfl rfl) ?_
            refine rp rfl rfl (p_move rfl rfl) ?_
            refine rp rfl rfl (p_move rfl rfl) ?_
            refine rp rfl rfl (p_move rfl rfl) ?_
            refine rp rfl rfl (p_move rfl rfl) ?_
            refine rp rfl rfl (p_bin rfl rfl rfl rfl) ?_
            refine chkK H fun h7 H => ?_
            refine rp rfl rfl (u_cutl (g := (fun l => l.flatMap GSlot.cs)) (a := w64 ((ixor (w64 (i2.tdiv size10_0)) (1 : Int)) * size10_0)) (b := w64 ((w64 ((ixor (w64 (i2.tdiv size10_0)) (1 : Int)) * size10_0)) + size10_0)) rfl rfl Tryd.underlying30 in_24 rfl (bT_i (show 0 ≤ w64 ((ixor (w64 (i2.tdiv size10_0)) (1 : Int)) * size10_0) ∧ w64 ((ixor (w64 (i2.tdiv size10_0)) (1 : Int)) * size10_0) ≤ w64 ((w64 ((ixor (w64 (i2.tdiv size10_0)) (1 : Int)) * size10_0)) + size10_0) ∧ w64 ((w64 ((ixor (w64 (i2.tdiv size10_0)) (1 : Int)) * size10_0)) + size10_0) ≤ (l1.length : Int) from h7).1 rfl) (bT_i (Int.le_trans (show 0 ≤ w64 ((ixor (w64 (i2.tdiv size10_0)) (1 : Int)) * size10_0) ∧ w64 ((ixor (w64 (i2.tdiv size10_0)) (1 : Int)) * size10_0) ≤ w64 ((w64 ((ixor (w64 (i2.tdiv size10_0)) (1 : Int)) * size10_0)) + size10_0) ∧ w64 ((w64 ((ixor (w64 (i2.tdiv size10_0)) (1 : Int)) * size10_0)) + size10_0) ≤ (l1.length : Int) from h7).1 (show 0 ≤ w64 ((ixor (w64 (i2.tdiv size10_0)) (1 : Int)) * size10_0) ∧ w64 ((ixor (w64 (i2.tdiv size10_0)) (1 : Int)) * size10_0) ≤ w64 ((w64 ((ixor (w64 (i2.tdiv size10_0)) (1 : Int)) * size10_0)) + size10_0) ∧ w64 ((w64 ((ixor (w64 (i2.tdiv size10_0)) (1 : Int)) * size10_0)) + size10_0) ≤ (l1.length : Int) from h7).2.1) rfl) (.inl rfl) (show 0 ≤ w64 ((ixor (w64 (i2.tdiv size10_0)) (1 : Int)) * size10_0) ∧ w64 ((ixor (w64 (i2.tdiv size10_0)) (1 : Int)) * size10_0) ≤ w64 ((w64 ((ixor (w64 (i2.tdiv size10_0)) (1 : Int)) * size10_0)) + size10_0) ∧ w64 ((w64 ((ixor (w64 (i2.tdiv size10_0)) (1 : Int)) * size10_0)) + size10_0) ≤ (l1.length : Int) from h7) (g_fm (fun x => (GSlot.len x)))) ?_
            refine bindK H fun r'2 h8 H => ?_
            refine rp rfl rfl (p_callp rfl rfl rfl Tryd.func46 rfl rfl (g_ref_rootOf_ac h8) ⟨rfl, rfl, trivial⟩) ?_
            refine r_op rfl rfl (MakeD.opD (u_bs 47 rfl Tryd.underlying33 in_22 rfl one_22 (by decide) (by decide) rfl rfl rfl) rfl rfl rfl rfl) ?_
            refine chkK H fun h9 H => ?_
            refine r_op rfl rfl (u_app [9, 38] rfl rfl rfl rfl Tryd.underlying33 Tryd.underlying33 in_22 rfl rfl rfl (ml AV.bytes out9_0) (by decide) (srcT_o rfl rfl (ml AV.bytes ([r'2] : List (List UInt8))) (by decide)) (ml AV.bytes ([r'2] : List (List UInt8))) h9 (by decide) rfl rfl (mapp AV.bytes out9_0 ([r'2] : List (List UInt8))) (lapp out9_0 ([r'2] : List (List UInt8)))) ?_
            refine rp rfl rfl (p_asg rfl rfl) ?_
            refine rz [(0, .i mode0), (1, .p ((fun q : List GSlot => AV.lst (q.flatMap GSlot.cs) q.length) l1)), (2, .i i2), (9, .c (.own 9 (out9_0 ++ ([r'2] : List (List UInt8))).length 1)), (10, .i size10_0)] [(9, .pure ((out9_0 ++ ([r'2] : List (List UInt8))).map AV.bytes))] rfl rfl rfl ?_
            refine AW2_reg [0, 1, 2] rfl ?_
            refine rp rfl rfl (p_move rfl rfl) ?_
            refine rp rfl rfl (p_bin rfl rfl rfl rfl) ?_
            refine rp rfl rfl (p_asg rfl rfl) ?_
            refine rz [(0, .i mode0), (1, .p ((fun q : List GSlot => AV.lst (q.flatMap GSlot.cs) q.length) l1)), (2, .i i2), (9, .c (.own 9 (out9_0 ++ ([r'2] : List (List UInt8))).length 1)), (10, .i (w64 (size10_0 * (2 : Int))))] [(9, .pure ((out9_0 ++ ([r'2] : List (List UInt8))).map AV.bytes))] rfl rfl rfl ?_
            have hz := some_elim H
            subst hz
            exact ⟨rfl, rfl⟩
          · replace H := ite_else h5 H
            refine as2 [(9, .c (.own 9 out9_0.length 1))] [(9, .pure (out9_0.map AV.bytes))] rfl rfl rfl ?_
            refine AW2_exit ?_
            refine thenQ2_exit ?_
            have hz := some_elim H
            subst hz
            exact ⟨rfl, rfl⟩
        · obtain ⟨rfl, rfl⟩ := hs
          refine ⟨by simp, ?_⟩
          refine blockQ2_exit ?_
          refine sg [0, 1, 2] rfl ?_
          refine rp rfl rfl (p_move rfl rfl) ?_
          refine rp rfl rfl (p_asg rfl rfl) ?_
          refine rp rfl rfl (p_asg rfl rfl) ?_
          refine rs [(6, .c (.own 9 y'6.length 1)), (7, .i (0 : Int))] [(9, .pure (y'6.map AV.bytes))] rfl rfl rfl ?_
          refine RunW_gho (Gho_ren 9 6 rfl rfl rfl rfl rfl) ?_
          refine rz [(6, .c (.own 6 y'6.length 1)), (7, .i (0 : Int))] [(6, .pure (y'6.map AV.bytes))] rfl rfl rfl ?_
          refine as2 [(6, .c (.own 6 y'6.length 1)), (7, .i (0 : Int))] [(6, .pure (y'6.map AV.bytes))] rfl rfl rfl ?_
          refine AW2_ret ?_
          have hz := some_elim H
          subst hz
          exact ⟨⟨res_tmp (.same _), res_tmp (.same _), trivial⟩, ⟨rfl, trivial⟩⟩
theorem g_ref_PathOf_ac {mode0 : Int} {l1 : List GSlot} {i2 : Int} {r : (List (List UInt8)) × Int} (H : g_ref_PathOf mode0 l1 i2 = some r) : ACp Tryd.prog 20 [(AV.int mode0), ((fun q : List GSlot => AV.lst (q.flatMap GSlot.cs) q.length) l1), (AV.int i2)] (.tup [(AV.lists r.1), (AV.int r.2)]) := ACp_pub (g_ref_PathOf_ac2 H) (fun _ _ hm => lent_tup ⟨lent_own hm rfl (ml AV.bytes r.1) (by decide), .same _, trivial⟩)
end Go.Proofs.YtkaeboabpahemaaDoor.VM
