/- Functions of the program, as they answer, and that their code comes to these answers. -/
import Derived.Test.YteilidpbnndnpaaDoorSr1
namespace Go.Proofs.YteilidpbnndnpaaDoor.VM
open Go Go.RowKit

theorem in_26 : Info Tryd.prog 26 2 48 (.agg #[.slice none 0 0, .slice none 0 0]) := by unfold Info; kernel_rfl
theorem one_26 : (.agg #[.slice none 0 0, .slice none 0 0] : Value).cells.all (·.oneCell') = true := by kernel_rfl
theorem zc_26 : ((.agg #[.slice none 0 0, .slice none 0 0] : Value).cells.toList.map zcell) = GCover.cs GCover.zero := by rfl
theorem pl_26 : placesOf Tryd.prog 26 = some [(0, 1), (1, 1)] := by kernel_rfl
set_option maxRecDepth 100000 in
theorem ty_3 {d : Nat} {cs : List AV} (h : Typed Tryd.prog d 3 cs) : ∃ x : Int, cs = [(AV.int x)] ∧ okI x := match d, h with
  | 0, h => False.elim h
  | d + 1, h => ty_int Tryd.underlying3 h
set_option maxRecDepth 100000 in
theorem ty_4 {d : Nat} {cs : List AV} (h : Typed Tryd.prog d 4 cs) : ∃ x : Bool, cs = [(AV.bool x)] ∧ okA x := match d, h with
  | 0, h => False.elim h
  | d + 1, h => ty_bool Tryd.underlying4 h
set_option maxRecDepth 100000 in
theorem ty_22 {d : Nat} {cs : List AV} (h : Typed Tryd.prog d 22 cs) : ∃ x : List Bool, cs = [((fun q : List Bool => AV.lst (q.map AV.bool) q.length) x)] ∧ (okL 1 okA) x := match d, h with
  | 0, h => False.elim h
  | d + 1, h => ty_slice (f := AV.bool) Tryd.underlying22 (bytes_of in_4) (fun _ hx => ty_4 hx) h
set_option maxRecDepth 100000 in
theorem ty_5 {d : Nat} {cs : List AV} (h : Typed Tryd.prog d 5 cs) : ∃ x : UInt8, cs = [(AV.b8 x)] ∧ okA x := match d, h with
  | 0, h => False.elim h
  | d + 1, h => ty_u8 Tryd.underlying5 h
set_option maxRecDepth 100000 in
theorem ty_27 {d : Nat} {cs : List AV} (h : Typed Tryd.prog d 27 cs) : ∃ x : List UInt8, cs = [(AV.bytes x)] ∧ (okL 1 okA) x := match d, h with
  | 0, h => False.elim h
  | d + 1, h => ty_slice (f := AV.b8) Tryd.underlying27 (bytes_of in_5) (fun _ hx => ty_5 hx) h
def GSlot.ok (x : GSlot) : Prop := okA x.Full ∧ (okL 1 okA) x.Salt ∧ (okL 1 okA) x.Data
set_option maxRecDepth 100000 in
theorem ty_49 {d : Nat} {cs : List AV} (h : Typed Tryd.prog d 49 cs) : ∃ x : GSlot, cs = GSlot.cs x ∧ GSlot.ok x := match d, h with
  | 0, h => False.elim h
  | d + 1, h => by
    obtain ⟨es, rfl, hl, hf⟩ := ty_struct Tryd.underlying49 h
    match es, hl, hf with
    | [e0, e1, e2], _, hf =>
    obtain ⟨x0, h0, q0⟩ := ty_4 (hf 0 _ e0 rfl rfl)
    obtain ⟨x1, h1, q1⟩ := ty_27 (hf 1 _ e1 rfl rfl)
    obtain ⟨x2, h2, q2⟩ := ty_27 (hf 2 _ e2 rfl rfl)
    refine ⟨⟨x0, x1, x2⟩, ?_, ⟨q0, q1, q2⟩⟩
    rw [h0, h1, h2]
    simp only [List.flatten_cons, List.flatten_nil, List.append_nil, GSlot.cs]
set_option maxRecDepth 100000 in
theorem ty_23 {d : Nat} {cs : List AV} (h : Typed Tryd.prog d 23 cs) : ∃ x : List GSlot, cs = [((fun q : List GSlot => AV.lst (q.flatMap GSlot.cs) q.length) x)] ∧ (okL 56 GSlot.ok) x := match d, h with
  | 0, h => False.elim h
  | d + 1, h => ty_slicef (g := fun b : GSlot => GSlot.cs b) Tryd.underlying23 (bytes_of in_49) (fun _ hx => ty_49 hx) h
set_option maxRecDepth 100000 in
theorem ty_24 {d : Nat} {cs : List AV} (h : Typed Tryd.prog d 24 cs) : ∃ x : List (List UInt8), cs = [(AV.lists x)] ∧ (okL 24 (okL 1 okA)) x := match d, h with
  | 0, h => False.elim h
  | d + 1, h => ty_slice (f := AV.bytes) Tryd.underlying24 (bytes_of in_27) (fun _ hx => ty_27 hx) h
def GCover.ok (x : GCover) : Prop := (okL 56 GSlot.ok) x.Open ∧ (okL 24 (okL 1 okA)) x.Rest
set_option maxRecDepth 100000 in
theorem ty_26 {d : Nat} {cs : List AV} (h : Typed Tryd.prog d 26 cs) : ∃ x : GCover, cs = GCover.cs x ∧ GCover.ok x := match d, h with
  | 0, h => False.elim h
  | d + 1, h => by
    obtain ⟨es, rfl, hl, hf⟩ := ty_struct Tryd.underlying26 h
    match es, hl, hf with
    | [e0, e1], _, hf =>
    obtain ⟨x0, h0, q0⟩ := ty_23 (hf 0 _ e0 rfl rfl)
    obtain ⟨x1, h1, q1⟩ := ty_24 (hf 1 _ e1 rfl rfl)
    refine ⟨⟨x0, x1⟩, ?_, ⟨q0, q1⟩⟩
    rw [h0, h1]
    simp only [List.flatten_cons, List.flatten_nil, List.append_nil, GCover.cs]

/-! chirographref.Added -/
def g_ref_Added_r5 : List (List (Nat × Option Nat)) := [[(2, none)], [(20, some 0)], [(1, none)], [(22, some 2)]]
def g_ref_Added_r5c : List (List Nat) := [[], [0], [], [2], [0, 1, 2, 3], [0, 1, 2, 3, 4]]
def g_ref_Added_r6 : List (List (Nat × Option Nat)) := [[(2, none)], [(25, some 0)], [(6, none)], [(26, some 1), (27, some 2)], [(2, none)], [(29, some 4)], [(1, none)], [(31, some 6)], [(30, some 5), (32, some 7)], [(28, some 3), (33, some 8)], []]
def g_ref_Added_r6c : List (List Nat) := [[], [0], [], [0, 1, 2], [], [4], [], [6], [4, 5, 6, 7], [0, 1, 2, 3, 4, 5, 6, 7, 8], [], [0, 1, 2, 3, 4, 5, 6, 7, 8, 9, 10]]
noncomputable def g_ref_Added_l0 (rest8'5 : List UInt8) : Int × GStream → Option ((Int × GStream) ⊕ (GStream))
  | (i9_0, out7_0) => (if i9_0 < (rest8'5.length : Int) then if 0 ≤ i9_0 ∧ i9_0 < (rest8'5.length : Int) then if 0 ≤ i9_0 ∧ i9_0 < (64 : Int) then letO ({ out7_0 with Held := (vwr out7_0.Held i9_0.toNat (lrd rest8'5 i9_0.toNat)) }) fun out7'6 => some (.inl (w64 (i9_0 + (1 : Int)), out7'6)) else none else none else some (.inr out7_0))
noncomputable def g_ref_Added (s0 : GStream) (b1 : List UInt8) : Option (GStream × Int) :=
  (g_ref_badStream s0).bind fun r'1 => (if r'1 = true then some (GStream.zero, (11 : Int)) else (if s0.Len > w64 ((1152921504606846976 : Int) - (b1.length : Int)) then some (GStream.zero, (1 : Int)) else (g_ref_heldOf s0).bind fun r'2 => if r'2.length + b1.length ≤ 9223372036854775807 then (g_ref_blocks s0.H (r'2 ++ b1)).bind fun r'3 => letO ({ { GStream.zero with H := r'3 } with Len := w64 (s0.Len + (b1.length : Int)) }) fun out7'4 => if 0 ≤ w64 (((r'2 ++ b1).length : Int) - (((r'2 ++ b1).length : Int).tmod (64 : Int))) ∧ w64 (((r'2 ++ b1).length : Int) - (((r'2 ++ b1).length : Int).tmod (64 : Int))) ≤ ((r'2 ++ b1).length : Int) then letO ((cut (r'2 ++ b1) (w64 (((r'2 ++ b1).length : Int) - (((r'2 ++ b1).length : Int).tmod (64 : Int)))) ((r'2 ++ b1).length : Int))) fun rest8'5 => (loopO (g_ref_Added_l0 rest8'5) ((0 : Int), { out7'4 with N := (rest8'5.length : Int) })).bind fun y'10 => some (y'10, (0 : Int)) else none else none))
set_option maxHeartbeats 4000000 in
set_option maxRecDepth 100000 in
theorem g_ref_Added_ac {s0 : GStream} {b1 : List UInt8} {r : GStream × Int} (H : g_ref_Added s0 b1 = some r) : ACp Tryd.prog 41 [(.agg (GStream.cs s0)), (AV.bytes b1)] (.tup [(.agg (GStream.cs r.1)), (AV.int r.2)]) := by
 refine ACp_of (AC2_of_body (vs := [.g (GStream.cs r.1), .i r.2]) Tryd.func41 Y Y (Nat.le_of_ble_eq_true Y) Y ?_) (fun _ => .same _)
 unfold g_ref_Added at H
 refine as2 [(0, .g (GStream.cs s0)), (1, .y b1)] [] Y Y Y ?_
 refine sg [0, 1, 2] Y ?_
 refine r_op Y Y (MakeD.opD (n_box 2 Y Y) Y Y Y Y) ?_
 refine r_op Y Y (MakeD.opD (u_alloc 4 Y in_70 one_70 zc_70) Y Y Y Y) ?_
 refine rp Y Y (p_asg Y Y) ?_
 refine rz [(1, .y b1), (2, .q 2 (0)), (4, .q 4 (0))] [(2, .pure (GStream.cs s0)), (4, .pure (GStream.cs GStream.zero))] Y Y Y ?_
 refine AW2_seq ?_
 refine sg [0, 1] Y ?_
 refine rp Y Y (u_lda Y Y Tryd.underlying70 Y in_70 Y (Nat.succ_pos _) (Sub.refl _) (GStream.len s0)) ?_
 refine bindK H fun r'1 h1 H => ?_
 refine rp Y Y (p_callp Y Y Y Tryd.func49 Y Y (g_ref_badStream_ac h1) ⟨Y, trivial⟩) ?_
 refine rz [(1, .y b1), (2, .q 2 (0)), (4, .q 4 (0)), (11, .b r'1)] [(2, .pure (GStream.cs s0)), (4, .pure (GStream.cs GStream.zero))] Y Y Y ?_
 refine AW2_cond Y (fun h2 => ?_) (fun h2 => ?_)
 ·replace H := ite_then h2 H
  refine sg [0, 1, 2] Y ?_
  refine rp Y Y (u_bld Y in_70 one_70 zc_70 pl_70 Y Y) ?_
  refine r_op Y Y (u_st Y Y Y Y Y in_70 (GStream.len GStream.zero) (nl (GStream.len GStream.zero)) (Upd.refl ((GStream.len GStream.zero).trans (GStream.len GStream.zero).symm))) ?_
  refine rp Y Y (p_asg Y Y) ?_
  refine rz [(4, .q 4 (0)), (5, .i (11 : Int))] [(4, .pure (GStream.cs GStream.zero))] Y Y Y ?_
  refine AW2_ret ?_
  have hz := some_elim H
  subst hz
  exact ⟨⟨res_cella Tryd.underlying70 Y in_70.sz Y (Sub.le (Sub.refl _) (GStream.len GStream.zero)) (by decide) (Sub.take (Sub.refl _) (GStream.len GStream.zero)), res_tmp (.same _), trivial⟩, trivial⟩
 ·replace H := ite_else (ne_true h2) H
  refine as2 [(1, .y b1), (2, .q 2 (0)), (4, .q 4 (0))] [(2, .pure (GStream.cs s0)), (4, .pure (GStream.cs GStream.zero))] Y Y Y ?_
  refine AW2_skip ?_
  refine AW2_seq ?_
  refine sg [0, 1, 2, 3, 4, 5] Y ?_
  refine rp Y Y (u_fa Y Y Tryd.underlying70 Y in_3 nz Y Y (nl (GStream.len s0))) ?_
  refine rp Y Y (u_ld Y Y Tryd.underlying3 Y Y ((Sub.refl _).trans (GStream.sub3 s0))) ?_
  refine rp Y Y (p_move Y Y) ?_
  refine rp Y Y (p_lenl Y Tryd.underlying27 Y Y) ?_
  refine rp Y Y (p_bin Y Y Y Y) ?_
  refine rp Y Y (p_bin Y Y Y Y) ?_
  refine rz [(1, .y b1), (2, .q 2 (0)), (4, .q 4 (0)), (18, .b (decide (s0.Len > w64 ((1152921504606846976 : Int) - (b1.length : Int)))))] [(2, .pure (GStream.cs s0)), (4, .pure (GStream.cs GStream.zero))] Y Y Y ?_
  refine AW2_if (p := s0.Len > w64 ((1152921504606846976 : Int) - (b1.length : Int))) Y (fun h3 => ?_) (fun h3 => ?_)
  ·replace H := ite_then h3 H
   refine sg [0, 1, 2] Y ?_
   refine rp Y Y (u_bld Y in_70 one_70 zc_70 pl_70 Y Y) ?_
   refine r_op Y Y (u_st Y Y Y Y Y in_70 (GStream.len GStream.zero) (nl (GStream.len GStream.zero)) (Upd.refl ((GStream.len GStream.zero).trans (GStream.len GStream.zero).symm))) ?_
   refine rp Y Y (p_asg Y Y) ?_
   refine rz [(4, .q 4 (0)), (5, .i (1 : Int))] [(4, .pure (GStream.cs GStream.zero))] Y Y Y ?_
   refine AW2_ret ?_
   have hz := some_elim H
   subst hz
   exact ⟨⟨res_cella Tryd.underlying70 Y in_70.sz Y (Sub.le (Sub.refl _) (GStream.len GStream.zero)) (by decide) (Sub.take (Sub.refl _) (GStream.len GStream.zero)), res_tmp (.same _), trivial⟩, trivial⟩
  ·replace H := ite_else h3 H
   refine as2 [(1, .y b1), (2, .q 2 (0)), (4, .q 4 (0))] [(2, .pure (GStream.cs s0)), (4, .pure (GStream.cs GStream.zero))] Y Y Y ?_
   refine AW2_skip ?_
   refine AW2_seq ?_
   refine bindK H fun r'2 h4 H => ?_
   refine chkK H fun h5 H => ?_
   refine AW2_ghoQ ?_
   refine AW2_draw 4 [4, 5] (fun k => ([.g (GStream.cs s0), .t r'2, .y b1, .t b1] : List TV).getD k TV.any) (fun k => g_ref_Added_r5.getD k []) [(1, none), (2, none), (4, none), (21, some 1), (23, some 3)] [] (fun k => g_ref_Added_r5c.getD k []) mixed (by kernel_rfl) Y Y (a_op (g_x Y (x_p Y (u_lda Y Y Tryd.underlying70 Y in_70 Y (Nat.succ_pos _) (Sub.refl _) (GStream.len s0)) Y)) (a_op (g_x Y (x_p Y (p_callp Y Y Y Tryd.func50 Y Y (g_ref_heldOf_ac h4) ⟨Y, trivial⟩) Y)) (a_op (g_x Y (x_p Y (p_move Y Y) Y)) (a_op (g_x Y (x_p Y (p_cb Y Y Tryd.underlying27 Tryd.underlying5 Tryd.underlying9 Y) Y)) (a_nil))))) ?_
   refine t_op Y Y (PureD.opD (p_cat Y Y Y h5)) ?_
   refine t_op Y Y (PureD.opD (p_asg Y Y)) ?_
   refine t_gho (Gho_st (L := [(1, .y b1), (2, .q 2 (0)), (4, .q 4 (0)), (6, .t (r'2 ++ b1))]) (H := [(2, .pure (GStream.cs s0)), (4, .pure (GStream.cs GStream.zero))]) (N := 59) Y ⟨TLes.same _, TLes.same _, TLes.same _, TLes.same _, trivial⟩ ⟨Y, Y, trivial⟩) ?_
   refine AW2_seq ?_
   refine bindK H fun r'3 h6 H => ?_
   refine AW2_ghoQ ?_
   refine AW2_draw 11 [11] (fun k => ([.q 2 (0 + 0), .g (s0.H.toList.map AV.u32), .t (r'2 ++ b1), .g (r'3.toList.map AV.u32), .q 2 (0 + 73), .i s0.Len, .y b1, .i (b1.length : Int), .i (w64 (s0.Len + (b1.length : Int))), .g (GStream.cs ((GStream.w3 (GStream.w0 GStream.zero r'3) (w64 (s0.Len + (b1.length : Int)))))), .q 7 (0)] : List TV).getD k TV.any) (fun k => g_ref_Added_r6.getD k []) [(4, none), (6, none), (7, some 10), (34, some 9)] [(10, 7, (GStream.cs GStream.zero))] (fun k => g_ref_Added_r6c.getD k []) mixed (by kernel_rfl) Y Y (a_op (g_x Y (x_p Y (u_fa Y Y Tryd.underlying70 Y in_67 nz Y Y (nl (GStream.len s0))) Y)) (a_op (g_x Y (x_p Y (u_lda Y Y Tryd.underlying67 Y in_67 Y (Nat.succ_pos _) ((Sub.refl _).trans (GStream.sub0 s0)) (vmap_len (f := AV.u32) s0.H)) Y)) (a_op (g_x Y (x_p Y (p_move Y Y) Y)) (a_op (g_x Y (x_p Y (p_callp Y Y Y Tryd.func51 Y Y (g_ref_blocks_ac h6) ⟨Y, Y, trivial⟩) Y)) (a_op (g_x Y (x_p Y (u_fa Y Y Tryd.underlying70 Y in_3 nz Y Y (nl (GStream.len s0))) Y)) (a_op (g_x Y (x_p Y (u_ld Y Y Tryd.underlying3 Y Y ((Sub.refl _).trans (GStream.sub3 s0))) Y)) (a_op (g_x Y (x_p Y (p_move Y Y) Y)) (a_op (g_x Y (x_p Y (p_lenl Y Tryd.underlying27 Y Y) Y)) (a_op (g_x Y (x_p Y (p_bin Y Y Y Y) Y)) (a_op (g_x Y (x_p Y (u_bld Y in_70 one_70 zc_70 pl_70 Y (af_cons Y (vmap_len (f := AV.u32) r'3) (GStream.upd0 GStream.zero r'3) (af_cons Y Y (GStream.upd3 ((GStream.w0 GStream.zero r'3)) (w64 (s0.Len + (b1.length : Int)))) Y))) Y)) (a_op (g_x Y (x_m Y (u_alloc 7 Y in_70 one_70 zc_70) Y Y)) (a_nil)))))))))))) ?_
   refine t_op Y Y (u_st Y Y Y Y Y in_70 (GStream.len ((GStream.w3 (GStream.w0 GStream.zero r'3) (w64 (s0.Len + (b1.length : Int)))))) (nl (GStream.len GStream.zero)) (Upd.refl ((GStream.len ((GStream.w3 (GStream.w0 GStream.zero r'3) (w64 (s0.Len + (b1.length : Int)))))).trans (GStream.len GStream.zero).symm))) ?_
   refine t_gho (Gho_st (L := [(4, .q 4 (0)), (6, .t (r'2 ++ b1)), (7, .q 7 (0))]) (H := [(4, .pure (GStream.cs GStream.zero)), (7, .pure (GStream.cs ((GStream.w3 (GStream.w0 GStream.zero r'3) (w64 (s0.Len + (b1.length : Int)))))))]) (N := 59) Y ⟨TLes.same _, TLes.same _, TLes.same _, trivial⟩ ⟨Y, Y, trivial⟩) ?_
   refine gen1 (fun out7'4 => (⟨[(4, .q 4 (0)), (6, .t (r'2 ++ b1)), (7, .q 7 (0))], [(4, .pure (GStream.cs GStream.zero)), (7, .pure (GStream.cs out7'4))], 59⟩ : TS)) H ?_
   intro out7'4 H
   refine sg [0, 1, 2, 3, 4, 5, 6, 7, 8] Y ?_
   refine rp Y Y (p_move Y Y) ?_
   refine rp Y Y (p_move Y Y) ?_
   refine rp Y Y (p_lent Y Tryd.underlying9 Y) ?_
   refine rp Y Y (p_move Y Y) ?_
   refine rp Y Y (p_lent Y Tryd.underlying9 Y) ?_
   refine rp Y Y (p_irem Y Y Y (by decide)) ?_
   refine rp Y Y (p_bin Y Y Y Y) ?_
   refine chkK H fun h7 H => ?_
   refine rp Y Y (u_cutt (a := w64 (((r'2 ++ b1).length : Int) - (((r'2 ++ b1).length : Int).tmod (64 : Int)))) (b := ((r'2 ++ b1).length : Int)) Y Tryd.underlying9 Y (bT_i (show 0 ≤ w64 (((r'2 ++ b1).length : Int) - (((r'2 ++ b1).length : Int).tmod (64 : Int))) ∧ w64 (((r'2 ++ b1).length : Int) - (((r'2 ++ b1).length : Int).tmod (64 : Int))) ≤ ((r'2 ++ b1).length : Int) ∧ ((r'2 ++ b1).length : Int) ≤ ((r'2 ++ b1).length : Int) from ⟨h7.1, h7.2, Int.le_refl _⟩).1 Y) (bT_len _) (show 0 ≤ w64 (((r'2 ++ b1).length : Int) - (((r'2 ++ b1).length : Int).tmod (64 : Int))) ∧ w64 (((r'2 ++ b1).length : Int) - (((r'2 ++ b1).length : Int).tmod (64 : Int))) ≤ ((r'2 ++ b1).length : Int) ∧ ((r'2 ++ b1).length : Int) ≤ ((r'2 ++ b1).length : Int) from ⟨h7.1, h7.2, Int.le_refl _⟩)) ?_
   refine rp Y Y (p_asg Y Y) ?_
   refine rz [(4, .q 4 (0)), (7, .q 7 (0)), (8, .t (cut (r'2 ++ b1) (w64 (((r'2 ++ b1).length : Int) - (((r'2 ++ b1).length : Int).tmod (64 : Int)))) ((r'2 ++ b1).length : Int)))] [(4, .pure (GStream.cs GStream.zero)), (7, .pure (GStream.cs out7'4))] Y Y Y ?_
   refine gen1 (fun rest8'5 => (⟨[(4, .q 4 (0)), (7, .q 7 (0)), (8, .t rest8'5)], [(4, .pure (GStream.cs GStream.zero)), (7, .pure (GStream.cs out7'4))], 59⟩ : TS)) H ?_
   intro rest8'5 H
   refine sg [0, 1, 2, 3] Y ?_
   refine rp Y Y (p_move Y Y) ?_
   refine rp Y Y (p_lent Y Tryd.underlying9 Y) ?_
   refine rp Y Y (u_fa Y Y Tryd.underlying70 Y in_3 nz Y Y (nl (GStream.len out7'4))) ?_
   refine r_op Y Y (u_st Y Y Y Y Y in_3 Y (nl (GStream.len out7'4)) (Upd.trans (Sub.refl _) (GStream.upd2 out7'4 (rest8'5.length : Int)) (Upd.refl ((GStream.len ((GStream.w2 out7'4 (rest8'5.length : Int)))).trans (GStream.len out7'4).symm)))) ?_
   refine rz [(4, .q 4 (0)), (7, .q 7 (0)), (8, .t rest8'5)] [(4, .pure (GStream.cs GStream.zero)), (7, .pure (GStream.cs ((GStream.w2 out7'4 (rest8'5.length : Int)))))] Y Y Y ?_
   refine AW2_seq ?_
   refine sg [0] Y ?_
   refine rp Y Y (p_asg Y Y) ?_
   refine rz [(4, .q 4 (0)), (7, .q 7 (0)), (8, .t rest8'5), (9, .i (0 : Int))] [(4, .pure (GStream.cs GStream.zero)), (7, .pure (GStream.cs ((GStream.w2 out7'4 (rest8'5.length : Int)))))] Y Y Y ?_
   refine AW2_block ?_
   refine as2 [(4, .q 4 (0)), (7, .q 7 (0)), (8, .t rest8'5), (9, .i (0 : Int))] [(4, .pure (GStream.cs GStream.zero)), (7, .pure (GStream.cs ((GStream.w2 out7'4 (rest8'5.length : Int)))))] Y Y Y ?_
   refine bindK H fun y'10 h11 H => ?_
   refine AW2_loopO (fun a'7 : Int × GStream => (⟨[(4, .q 4 (0)), (7, .q 7 (0)), (8, .t rest8'5), (9, .i a'7.1)], [(4, .pure (GStream.cs GStream.zero)), (7, .pure (GStream.cs a'7.2))], 59⟩ : TS)) (fun (y'8 : GStream) e s' => e = Go.Exit.exit 0 ∧ s' = (⟨[(4, .q 4 (0)), (7, .q 7 (0))], [(4, .pure (GStream.cs GStream.zero)), (7, .pure (GStream.cs y'8))], 59⟩ : TS)) h11 Y (fun a x hx => ?_) (fun e s' hs => ?_)
   ·clear H
    obtain ⟨i9_0, out7_0⟩ := a
    have H := hx
    clear hx
    unfold g_ref_Added_l0 at H
    refine AW2_seq ?_
    refine sg [0, 1, 2, 3] Y ?_
    refine rp Y Y (p_move Y Y) ?_
    refine rp Y Y (p_move Y Y) ?_
    refine rp Y Y (p_lent Y Tryd.underlying9 Y) ?_
    refine rp Y Y (p_bin Y Y Y Y) ?_
    refine rz [(4, .q 4 (0)), (7, .q 7 (0)), (8, .t rest8'5), (9, .i i9_0), (49, .b (decide (i9_0 < (rest8'5.length : Int))))] [(4, .pure (GStream.cs GStream.zero)), (7, .pure (GStream.cs out7_0))] Y Y Y ?_
    refine AW2_if (p := i9_0 < (rest8'5.length : Int)) Y (fun h8 => ?_) (fun h8 => ?_)
    ·replace H := ite_then h8 H
     refine as2 [(4, .q 4 (0)), (7, .q 7 (0)), (8, .t rest8'5), (9, .i i9_0)] [(4, .pure (GStream.cs GStream.zero)), (7, .pure (GStream.cs out7_0))] Y Y Y ?_
     refine AW2_skip ?_
     refine AW2_seq ?_
     refine AW2_block ?_
     refine AW2_reg [0, 1, 2, 3, 4, 5, 6] Y ?_
     refine rp Y Y (p_move Y Y) ?_
     refine rp Y Y (p_move Y Y) ?_
     refine rp Y Y (p_move Y Y) ?_
     refine chkK H fun h9 H => ?_
     refine rp Y Y (p_ixt Y Tryd.underlying9 Y Y (ixe h9) (lrd_get (ixn h9))) ?_
     refine rp Y Y (u_fa Y Y Tryd.underlying70 Y in_68 nz Y Y (nl (GStream.len out7_0))) ?_
     refine chkK H fun h10 H => ?_
     refine rp Y Y (u_ixp Y Y Tryd.underlying68 in_5 Y Y (nl (GStream.len out7_0)) Y (ixe h10) (ixn h10)) ?_
     refine r_op Y Y (u_st Y Y Y Y Y in_5 Y (nl (GStream.len out7_0)) (Upd.trans ((Sub.refl _).trans (GStream.sub1 out7_0)) (Upd.vmap (ixn h10)) (Upd.trans (Sub.refl _) (GStream.upd1 out7_0 (vwr out7_0.Held i9_0.toNat (lrd rest8'5 i9_0.toNat))) (Upd.refl ((GStream.len ((GStream.w1 out7_0 (vwr out7_0.Held i9_0.toNat (lrd rest8'5 i9_0.toNat))))).trans (GStream.len out7_0).symm))))) ?_
     refine rz [(4, .q 4 (0)), (7, .q 7 (0)), (8, .t rest8'5), (9, .i i9_0)] [(4, .pure (GStream.cs GStream.zero)), (7, .pure (GStream.cs ((GStream.w1 out7_0 (vwr out7_0.Held i9_0.toNat (lrd rest8'5 i9_0.toNat))))))] Y Y Y ?_
     refine gen1 (fun out7'6 => (⟨[(4, .q 4 (0)), (7, .q 7 (0)), (8, .t rest8'5), (9, .i i9_0)], [(4, .pure (GStream.cs GStream.zero)), (7, .pure (GStream.cs out7'6))], 59⟩ : TS)) H ?_
     intro out7'6 H
     refine AW2_reg [0, 1, 2] Y ?_
     refine rp Y Y (p_move Y Y) ?_
     refine rp Y Y (p_bin Y Y Y Y) ?_
     refine rp Y Y (p_asg Y Y) ?_
     refine rz [(4, .q 4 (0)), (7, .q 7 (0)), (8, .t rest8'5), (9, .i (w64 (i9_0 + (1 : Int))))] [(4, .pure (GStream.cs GStream.zero)), (7, .pure (GStream.cs out7'6))] Y Y Y ?_
     have hz := some_elim H
     subst hz
     exact ⟨Y, Y⟩
    ·replace H := ite_else h8 H
     refine as2 [(4, .q 4 (0)), (7, .q 7 (0))] [(4, .pure (GStream.cs GStream.zero)), (7, .pure (GStream.cs out7_0))] Y Y Y ?_
     refine AW2_exit ?_
     refine thenQ2_exit ?_
     have hz := some_elim H
     subst hz
     exact ⟨Y, Y⟩
   ·obtain ⟨rfl, rfl⟩ := hs
    refine ⟨by simp, ?_⟩
    refine blockQ2_exit ?_
    refine sg [0, 1, 2] Y ?_
    refine rp Y Y (u_lda Y Y Tryd.underlying70 Y in_70 Y (Nat.succ_pos _) (Sub.refl _) (GStream.len y'10)) ?_
    refine r_op Y Y (u_st Y Y Y Y Y in_70 (GStream.len y'10) (nl (GStream.len GStream.zero)) (Upd.refl ((GStream.len y'10).trans (GStream.len GStream.zero).symm))) ?_
    refine rp Y Y (p_asg Y Y) ?_
    refine rz [(4, .q 4 (0)), (5, .i (0 : Int))] [(4, .pure (GStream.cs y'10))] Y Y Y ?_
    refine AW2_ret ?_
    have hz := some_elim H
    subst hz
    exact ⟨⟨res_cella Tryd.underlying70 Y in_70.sz Y (Sub.le (Sub.refl _) (GStream.len y'10)) (by decide) (Sub.take (Sub.refl _) (GStream.len y'10)), res_tmp (.same _), trivial⟩, trivial⟩

/-! chirographref.ended -/
def g_ref_ended_r4 : List (List (Nat × Option Nat)) := [[(1, none)], [(19, some 0)], [(3, none)], [(1, none)], [(22, some 3)], [(23, some 4)], [(24, some 5)], [(25, some 6)], [(21, some 2), (26, some 7)], [(20, some 1), (27, some 8)], []]
def g_ref_ended_r4c : List (List Nat) := [[], [0], [], [], [3], [3, 4], [3, 4, 5], [3, 4, 5, 6], [2, 3, 4, 5, 6, 7], [0, 1, 2, 3, 4, 5, 6, 7, 8], [], [0, 1, 2, 3, 4, 5, 6, 7, 8, 9, 10]]
noncomputable def g_ref_ended_l0 : (List UInt8) → Option (((List UInt8)) ⊕ (((List UInt8))))
  | all3_0 => (if (all3_0.length : Int).tmod (64 : Int) ≠ (56 : Int) then if all3_0.length + [0].length ≤ 9223372036854775807 then some (.inl (all3_0 ++ [0])) else none else some (.inr all3_0))
noncomputable def g_ref_ended_l1 (r'7 : Vector UInt32 8) : (List UInt8) × Int → Option (((List UInt8) × Int) ⊕ (((List UInt8))))
  | (t5_1, t30_1) => (if t30_1 < (8 : Int) then if 0 ≤ t30_1 ∧ t30_1 < (8 : Int) then (g_ref_big ((vrd r'7 t30_1.toNat).toUInt64) (4 : Int)).bind fun r'8 => if t5_1.length + r'8.length ≤ 9223372036854775807 then some (.inl (t5_1 ++ r'8, w64 (t30_1 + (1 : Int)))) else none else none else some (.inr t5_1))
noncomputable def g_ref_ended_l2 (y'12 : (List UInt8)) : Int × (Vector UInt8 32) → Option ((Int × (Vector UInt8 32)) ⊕ (((Vector UInt8 32))))
  | (t39_2, out8_2) => (if t39_2 < (32 : Int) then if 0 ≤ t39_2 ∧ t39_2 < (y'12.length : Int) then if 0 ≤ t39_2 ∧ t39_2 < (32 : Int) then some (.inl (w64 (t39_2 + (1 : Int)), (vwr out8_2 t39_2.toNat (lrd y'12 t39_2.toNat)))) else none else none else some (.inr out8_2))
noncomputable def g_ref_ended (s0 : GStream) : Option ((Vector UInt8 32)) :=
  (g_ref_heldOf s0).bind fun r'1 => if r'1.length + [128].length ≤ 9223372036854775807 then (loopO (g_ref_ended_l0) (r'1 ++ [128])).bind fun y'5 => (g_ref_big ((UInt64.ofInt s0.Len) * (8 : UInt64)) (8 : Int)).bind fun r'6 => if y'5.length + r'6.length ≤ 9223372036854775807 then (g_ref_blocks s0.H (y'5 ++ r'6)).bind fun r'7 => (loopO (g_ref_ended_l1 r'7) ([], (0 : Int))).bind fun y'12 => (loopO (g_ref_ended_l2 y'12) ((0 : Int), (Vector.replicate 32 (0 : UInt8)))).bind fun y'16 => some y'16 else none else none
set_option maxHeartbeats 4000000 in
set_option maxRecDepth 100000 in
theorem g_ref_ended_ac {s0 : GStream} {r : (Vector UInt8 32)} (H : g_ref_ended s0 = some r) : ACp Tryd.prog 43 [(.agg (GStream.cs s0))] (.agg (bcells r.toList)) := by
 refine ACp_of (AC2_of_body (vs := [.g (bcells r.toList)]) Tryd.func43 Y Y (Nat.le_of_ble_eq_true Y) Y ?_) (fun _ => .same _)
 unfold g_ref_ended at H
 refine as2 [(0, .g (GStream.cs s0))] [] Y Y Y ?_
 refine sg [0, 1] Y ?_
 refine r_op Y Y (MakeD.opD (n_box 1 Y Y) Y Y Y Y) ?_
 refine r_op Y Y (MakeD.opD (u_alloc 2 Y in_62 one_62 zc_62) Y Y Y Y) ?_
 refine rz [(1, .q 1 (0)), (2, .q 2 (0))] [(1, .pure (GStream.cs s0)), (2, .pure (bcells ((Vector.replicate 32 (0 : UInt8)).toList)))] Y Y Y ?_
 refine sg [0, 1, 2, 3] Y ?_
 refine rp Y Y (u_lda Y Y Tryd.underlying70 Y in_70 Y (Nat.succ_pos _) (Sub.refl _) (GStream.len s0)) ?_
 refine bindK H fun r'1 h1 H => ?_
 refine rp Y Y (p_callp Y Y Y Tryd.func50 Y Y (g_ref_heldOf_ac h1) ⟨Y, trivial⟩) ?_
 refine chkK H fun h2 H => ?_
 refine rp Y Y (p_cat Y Y Y h2) ?_
 refine rp Y Y (p_asg Y Y) ?_
 refine rz [(1, .q 1 (0)), (2, .q 2 (0)), (3, .t (r'1 ++ [128]))] [(1, .pure (GStream.cs s0)), (2, .pure (bcells ((Vector.replicate 32 (0 : UInt8)).toList)))] Y Y Y ?_
 refine AW2_seq ?_
 refine AW2_block ?_
 refine as2 [(1, .q 1 (0)), (2, .q 2 (0)), (3, .t (r'1 ++ [128]))] [(1, .pure (GStream.cs s0)), (2, .pure (bcells ((Vector.replicate 32 (0 : UInt8)).toList)))] Y Y Y ?_
 refine bindK H fun y'5 h5 H => ?_
 refine AW2_loopO (fun a'2 : (List UInt8) => (⟨[(1, .q 1 (0)), (2, .q 2 (0)), (3, .t a'2)], [(1, .pure (GStream.cs s0)), (2, .pure (bcells ((Vector.replicate 32 (0 : UInt8)).toList)))], 49⟩ : TS)) (fun (y'3 : ((List UInt8))) e s' => e = Go.Exit.exit 0 ∧ s' = (⟨[(1, .q 1 (0)), (2, .q 2 (0)), (3, .t y'3)], [(1, .pure (GStream.cs s0)), (2, .pure (bcells ((Vector.replicate 32 (0 : UInt8)).toList)))], 49⟩ : TS)) h5 Y (fun all3_0 x hx => ?_) (fun e s' hs => ?_)
 ·clear H
  have H := hx
  clear hx
  unfold g_ref_ended_l0 at H
  refine AW2_seq ?_
  refine sg [0, 1, 2, 3] Y ?_
  refine rp Y Y (p_move Y Y) ?_
  refine rp Y Y (p_lent Y Tryd.underlying9 Y) ?_
  refine rp Y Y (p_irem Y Y Y (by decide)) ?_
  refine rp Y Y (p_ine Y Y Y) ?_
  refine rz [(1, .q 1 (0)), (2, .q 2 (0)), (3, .t all3_0), (16, .b (decide ((all3_0.length : Int).tmod (64 : Int) ≠ (56 : Int))))] [(1, .pure (GStream.cs s0)), (2, .pure (bcells ((Vector.replicate 32 (0 : UInt8)).toList)))] Y Y Y ?_
  refine AW2_if (p := (all3_0.length : Int).tmod (64 : Int) ≠ (56 : Int)) Y (fun h3 => ?_) (fun h3 => ?_)
  ·replace H := ite_then h3 H
   refine as2 [(1, .q 1 (0)), (2, .q 2 (0)), (3, .t all3_0)] [(1, .pure (GStream.cs s0)), (2, .pure (bcells ((Vector.replicate 32 (0 : UInt8)).toList)))] Y Y Y ?_
   refine AW2_skip ?_
   refine AW2_block ?_
   refine AW2_reg [0, 1, 2] Y ?_
   refine rp Y Y (p_move Y Y) ?_
   refine chkK H fun h4 H => ?_
   refine rp Y Y (p_cat Y Y Y h4) ?_
   refine rp Y Y (p_asg Y Y) ?_
   refine rz [(1, .q 1 (0)), (2, .q 2 (0)), (3, .t (all3_0 ++ [0]))] [(1, .pure (GStream.cs s0)), (2, .pure (bcells ((Vector.replicate 32 (0 : UInt8)).toList)))] Y Y Y ?_
   have hz := some_elim H
   subst hz
   exact ⟨Y, Y⟩
  ·replace H := ite_else h3 H
   refine as2 [(1, .q 1 (0)), (2, .q 2 (0)), (3, .t all3_0)] [(1, .pure (GStream.cs s0)), (2, .pure (bcells ((Vector.replicate 32 (0 : UInt8)).toList)))] Y Y Y ?_
   refine AW2_exit ?_
   refine thenQ2_exit ?_
   have hz := some_elim H
   subst hz
   exact ⟨Y, Y⟩
 ·obtain ⟨rfl, rfl⟩ := hs
  refine ⟨by simp, ?_⟩
  refine blockQ2_exit ?_
  refine AW2_seq ?_
  refine bindK H fun r'6 h6 H => ?_
  refine chkK H fun h7 H => ?_
  refine bindK H fun r'7 h8 H => ?_
  refine AW2_ghoQ ?_
  refine AW2_draw 11 [11] (fun k => ([.q 1 (0 + 0), .g (s0.H.toList.map AV.u32), .t y'5, .q 1 (0 + 73), .i s0.Len, .p (AV.u64 (UInt64.ofInt s0.Len)), .p (AV.u64 ((UInt64.ofInt s0.Len) * (8 : UInt64))), .t r'6, .t (y'5 ++ r'6), .g (r'7.toList.map AV.u32), .q 4 (0)] : List TV).getD k TV.any) (fun k => g_ref_ended_r4.getD k []) [(2, none), (4, some 10), (28, some 9)] [(10, 4, (((Vector.replicate 8 (0 : UInt32)).toList).map AV.u32))] (fun k => g_ref_ended_r4c.getD k []) mixed (by kernel_rfl) Y Y (a_op (g_x Y (x_p Y (u_fa Y Y Tryd.underlying70 Y in_67 nz Y Y (nl (GStream.len s0))) Y)) (a_op (g_x Y (x_p Y (u_lda Y Y Tryd.underlying67 Y in_67 Y (Nat.succ_pos _) ((Sub.refl _).trans (GStream.sub0 s0)) (vmap_len (f := AV.u32) s0.H)) Y)) (a_op (g_x Y (x_p Y (p_move Y Y) Y)) (a_op (g_x Y (x_p Y (u_fa Y Y Tryd.underlying70 Y in_3 nz Y Y (nl (GStream.len s0))) Y)) (a_op (g_x Y (x_p Y (u_ld Y Y Tryd.underlying3 Y Y ((Sub.refl _).trans (GStream.sub3 s0))) Y)) (a_op (g_x Y (x_p Y (p_i_u64 Y Tryd.underlying3 Tryd.underlying78 Y) Y)) (a_op (g_x Y (x_p Y (p_u64mul (a := UInt64.ofInt s0.Len) (b := (8 : UInt64)) Y Y Y) Y)) (a_op (g_x Y (x_p Y (p_callp Y Y Y Tryd.func48 Y Y (g_ref_big_ac h6) ⟨Y, Y, trivial⟩) Y)) (a_op (g_x Y (x_p Y (p_cat Y Y Y h7) Y)) (a_op (g_x Y (x_p Y (p_callp Y Y Y Tryd.func51 Y Y (g_ref_blocks_ac h8) ⟨Y, Y, trivial⟩) Y)) (a_op (g_x Y (x_m Y (u_alloc 4 Y in_67 one_67 zc_67) Y Y)) (a_nil)))))))))))) ?_
  refine t_op Y Y (u_st Y Y Y Y Y in_67 (vmap_len (f := AV.u32) r'7) (nl (vmap_len (f := AV.u32) (Vector.replicate 8 (0 : UInt32)))) (Upd.refl ((vmap_len (f := AV.u32) r'7).trans (vmap_len (f := AV.u32) (Vector.replicate 8 (0 : UInt32))).symm))) ?_
  refine t_gho (Gho_st (L := [(2, .q 2 (0)), (4, .q 4 (0))]) (H := [(2, .pure (bcells ((Vector.replicate 32 (0 : UInt8)).toList))), (4, .pure (r'7.toList.map AV.u32))]) (N := 49) Y ⟨TLes.same _, TLes.same _, trivial⟩ ⟨Y, Y, trivial⟩) ?_
  refine sg [0] Y ?_
  refine rp Y Y (p_asg Y Y) ?_
  refine rz [(2, .q 2 (0)), (4, .q 4 (0)), (5, .t [])] [(2, .pure (bcells ((Vector.replicate 32 (0 : UInt8)).toList))), (4, .pure (r'7.toList.map AV.u32))] Y Y Y ?_
  refine AW2_seq ?_
  refine sg [0, 1] Y ?_
  refine rp Y Y (u_lda Y Y Tryd.underlying67 Y in_67 Y (Nat.succ_pos _) (Sub.refl _) (vmap_len (f := AV.u32) r'7)) ?_
  refine rp Y Y (p_move Y Y) ?_
  refine rz [(2, .q 2 (0)), (5, .t []), (29, .g (r'7.toList.map AV.u32)), (30, .i (0 : Int))] [(2, .pure (bcells ((Vector.replicate 32 (0 : UInt8)).toList)))] Y Y Y ?_
  refine AW2_block ?_
  refine as2 [(2, .q 2 (0)), (5, .t []), (29, .g (r'7.toList.map AV.u32)), (30, .i (0 : Int))] [(2, .pure (bcells ((Vector.replicate 32 (0 : UInt8)).toList)))] Y Y Y ?_
  refine bindK H fun y'12 h13 H => ?_
  refine AW2_loopO (fun a'9 : (List UInt8) × Int => (⟨[(2, .q 2 (0)), (5, .t a'9.1), (29, .g (r'7.toList.map AV.u32)), (30, .i a'9.2)], [(2, .pure (bcells ((Vector.replicate 32 (0 : UInt8)).toList)))], 49⟩ : TS)) (fun (y'10 : ((List UInt8))) e s' => e = Go.Exit.exit 2 ∧ s' = (⟨[(2, .q 2 (0)), (5, .t y'10)], [(2, .pure (bcells ((Vector.replicate 32 (0 : UInt8)).toList)))], 49⟩ : TS)) h13 Y (fun a x hx => ?_) (fun e s' hs => ?_)
  ·clear H
   obtain ⟨t5_1, t30_1⟩ := a
   have H := hx
   clear hx
   unfold g_ref_ended_l1 at H
   refine sg [0] Y ?_
   refine rp Y Y (p_bin Y Y Y Y) ?_
   refine rz [(2, .q 2 (0)), (5, .t t5_1), (29, .g (r'7.toList.map AV.u32)), (30, .i t30_1), (31, .b (decide (t30_1 < (8 : Int))))] [(2, .pure (bcells ((Vector.replicate 32 (0 : UInt8)).toList)))] Y Y Y ?_
   refine AW2_seq ?_
   refine AW2_if (p := t30_1 < (8 : Int)) Y (fun h9 => ?_) (fun h9 => ?_)
   ·replace H := ite_then h9 H
    refine as2 [(2, .q 2 (0)), (5, .t t5_1), (29, .g (r'7.toList.map AV.u32)), (30, .i t30_1)] [(2, .pure (bcells ((Vector.replicate 32 (0 : UInt8)).toList)))] Y Y Y ?_
    refine AW2_skip ?_
    refine AW2_seq ?_
    refine AW2_block ?_
    refine sg [0, 1] Y ?_
    refine chkK H fun h10 H => ?_
    refine rp Y Y (u_ixa Y Y Tryd.underlying67 in_66 Tryd.underlying66 Y Y Y (ixe h10) (ixn h10) (Sub.vmap (ixn h10))) ?_
    refine rp Y Y (p_asg Y Y) ?_
    refine rz [(2, .q 2 (0)), (5, .t t5_1), (7, .p (AV.u32 (vrd r'7 t30_1.toNat))), (29, .g (r'7.toList.map AV.u32)), (30, .i t30_1)] [(2, .pure (bcells ((Vector.replicate 32 (0 : UInt8)).toList)))] Y Y Y ?_
    refine AW2_reg [0, 1, 2, 3, 4, 5] Y ?_
    refine rp Y Y (p_move Y Y) ?_
    refine rp Y Y (p_move Y Y) ?_
    refine rp Y Y (p_u32_u64 (a := (vrd r'7 t30_1.toNat)) Y Tryd.underlying66 Tryd.underlying78 Y) ?_
    refine bindK H fun r'8 h11 H => ?_
    refine rp Y Y (p_callp Y Y Y Tryd.func48 Y Y (g_ref_big_ac h11) ⟨Y, Y, trivial⟩) ?_
    refine chkK H fun h12 H => ?_
    refine rp Y Y (p_cat Y Y Y h12) ?_
    refine rp Y Y (p_asg Y Y) ?_
    refine rz [(2, .q 2 (0)), (5, .t (t5_1 ++ r'8)), (29, .g (r'7.toList.map AV.u32)), (30, .i t30_1)] [(2, .pure (bcells ((Vector.replicate 32 (0 : UInt8)).toList)))] Y Y Y ?_
    refine AW2_reg [0, 1] Y ?_
    refine rp Y Y (p_bin Y Y Y Y) ?_
    refine rp Y Y (p_move Y Y) ?_
    refine rz [(2, .q 2 (0)), (5, .t (t5_1 ++ r'8)), (29, .g (r'7.toList.map AV.u32)), (30, .i (w64 (t30_1 + (1 : Int))))] [(2, .pure (bcells ((Vector.replicate 32 (0 : UInt8)).toList)))] Y Y Y ?_
    have hz := some_elim H
    subst hz
    exact ⟨Y, Y⟩
   ·replace H := ite_else h9 H
    refine as2 [(2, .q 2 (0)), (5, .t t5_1)] [(2, .pure (bcells ((Vector.replicate 32 (0 : UInt8)).toList)))] Y Y Y ?_
    refine AW2_exit ?_
    refine thenQ2_exit ?_
    have hz := some_elim H
    subst hz
    exact ⟨Y, Y⟩
  ·obtain ⟨rfl, rfl⟩ := hs
   refine ⟨by simp, ?_⟩
   refine blockQ2_exit ?_
   refine sg [0] Y ?_
   refine r_op Y Y (MakeD.opD (u_alloc 8 Y in_62 one_62 zc_62) Y Y Y Y) ?_
   refine rz [(2, .q 2 (0)), (5, .t y'12), (8, .q 8 (0))] [(2, .pure (bcells ((Vector.replicate 32 (0 : UInt8)).toList))), (8, .pure (bcells ((Vector.replicate 32 (0 : UInt8)).toList)))] Y Y Y ?_
   refine AW2_seq ?_
   refine sg [0] Y ?_
   refine rp Y Y (p_move Y Y) ?_
   refine rz [(2, .q 2 (0)), (5, .t y'12), (8, .q 8 (0)), (39, .i (0 : Int))] [(2, .pure (bcells ((Vector.replicate 32 (0 : UInt8)).toList))), (8, .pure (bcells ((Vector.replicate 32 (0 : UInt8)).toList)))] Y Y Y ?_
   refine AW2_block ?_
   refine as2 [(2, .q 2 (0)), (5, .t y'12), (8, .q 8 (0)), (39, .i (0 : Int))] [(2, .pure (bcells ((Vector.replicate 32 (0 : UInt8)).toList))), (8, .pure (bcells ((Vector.replicate 32 (0 : UInt8)).toList)))] Y Y Y ?_
   refine bindK H fun y'16 h17 H => ?_
   refine AW2_loopO (fun a'13 : Int × (Vector UInt8 32) => (⟨[(2, .q 2 (0)), (5, .t y'12), (8, .q 8 (0)), (39, .i a'13.1)], [(2, .pure (bcells ((Vector.replicate 32 (0 : UInt8)).toList))), (8, .pure (bcells a'13.2.toList))], 49⟩ : TS)) (fun (y'14 : ((Vector UInt8 32))) e s' => e = Go.Exit.exit 4 ∧ s' = (⟨[(2, .q 2 (0)), (8, .q 8 (0))], [(2, .pure (bcells ((Vector.replicate 32 (0 : UInt8)).toList))), (8, .pure (bcells y'14.toList))], 49⟩ : TS)) h17 Y (fun a x hx => ?_) (fun e s' hs => ?_)
   ·clear H
    obtain ⟨t39_2, out8_2⟩ := a
    have H := hx
    clear hx
    unfold g_ref_ended_l2 at H
    refine sg [0] Y ?_
    refine rp Y Y (p_bin Y Y Y Y) ?_
    refine rz [(2, .q 2 (0)), (5, .t y'12), (8, .q 8 (0)), (39, .i t39_2), (40, .b (decide (t39_2 < (32 : Int))))] [(2, .pure (bcells ((Vector.replicate 32 (0 : UInt8)).toList))), (8, .pure (bcells out8_2.toList))] Y Y Y ?_
    refine AW2_seq ?_
    refine AW2_if (p := t39_2 < (32 : Int)) Y (fun h14 => ?_) (fun h14 => ?_)
    ·replace H := ite_then h14 H
     refine as2 [(2, .q 2 (0)), (5, .t y'12), (8, .q 8 (0)), (39, .i t39_2)] [(2, .pure (bcells ((Vector.replicate 32 (0 : UInt8)).toList))), (8, .pure (bcells out8_2.toList))] Y Y Y ?_
     refine AW2_skip ?_
     refine AW2_seq ?_
     refine AW2_block ?_
     refine sg [0, 1] Y ?_
     refine rp Y Y (p_move Y Y) ?_
     refine rp Y Y (p_asg Y Y) ?_
     refine rz [(2, .q 2 (0)), (5, .t y'12), (8, .q 8 (0)), (9, .i t39_2), (39, .i t39_2)] [(2, .pure (bcells ((Vector.replicate 32 (0 : UInt8)).toList))), (8, .pure (bcells out8_2.toList))] Y Y Y ?_
     refine AW2_reg [0, 1, 2, 3, 4, 5] Y ?_
     refine rp Y Y (p_move Y Y) ?_
     refine rp Y Y (p_move Y Y) ?_
     refine rp Y Y (p_move Y Y) ?_
     refine chkK H fun h15 H => ?_
     refine rp Y Y (p_ixt Y Tryd.underlying9 Y Y (ixe h15) (lrd_get (ixn h15))) ?_
     refine chkK H fun h16 H => ?_
     refine rp Y Y (u_ixp Y Y Tryd.underlying62 in_5 Y Y (nl ((bcells_length _).trans (vlen out8_2))) Y (ixe h16) (ixn h16)) ?_
     refine r_op Y Y (u_st Y Y Y Y Y in_5 Y (nl ((bcells_length _).trans (vlen out8_2))) (Upd.trans (Sub.refl _) (Upd.vmap (ixn h16)) (Upd.refl (((bcells_length _).trans (vlen (vwr out8_2 t39_2.toNat (lrd y'12 t39_2.toNat)))).trans ((bcells_length _).trans (vlen out8_2)).symm)))) ?_
     refine rz [(2, .q 2 (0)), (5, .t y'12), (8, .q 8 (0)), (39, .i t39_2)] [(2, .pure (bcells ((Vector.replicate 32 (0 : UInt8)).toList))), (8, .pure (bcells ((vwr out8_2 t39_2.toNat (lrd y'12 t39_2.toNat)).toList)))] Y Y Y ?_
     refine AW2_reg [0, 1] Y ?_
     refine rp Y Y (p_bin Y Y Y Y) ?_
     refine rp Y Y (p_move Y Y) ?_
     refine rz [(2, .q 2 (0)), (5, .t y'12), (8, .q 8 (0)), (39, .i (w64 (t39_2 + (1 : Int))))] [(2, .pure (bcells ((Vector.replicate 32 (0 : UInt8)).toList))), (8, .pure (bcells ((vwr out8_2 t39_2.toNat (lrd y'12 t39_2.toNat)).toList)))] Y Y Y ?_
     have hz := some_elim H
     subst hz
     exact ⟨Y, Y⟩
    ·replace H := ite_else h14 H
     refine as2 [(2, .q 2 (0)), (8, .q 8 (0))] [(2, .pure (bcells ((Vector.replicate 32 (0 : UInt8)).toList))), (8, .pure (bcells out8_2.toList))] Y Y Y ?_
     refine AW2_exit ?_
     refine thenQ2_exit ?_
     have hz := some_elim H
     subst hz
     exact ⟨Y, Y⟩
   ·obtain ⟨rfl, rfl⟩ := hs
    refine ⟨by simp, ?_⟩
    refine blockQ2_exit ?_
    refine sg [0, 1] Y ?_
    refine rp Y Y (u_lda Y Y Tryd.underlying62 Y in_62 Y (Nat.succ_pos _) (Sub.refl _) ((bcells_length _).trans (vlen y'16))) ?_
    refine r_op Y Y (u_st Y Y Y Y Y in_62 ((bcells_length _).trans (vlen y'16)) (nl ((bcells_length _).trans (vlen (Vector.replicate 32 (0 : UInt8))))) (Upd.refl (((bcells_length _).trans (vlen y'16)).trans ((bcells_length _).trans (vlen (Vector.replicate 32 (0 : UInt8)))).symm))) ?_
    refine rz [(2, .q 2 (0))] [(2, .pure (bcells y'16.toList))] Y Y Y ?_
    refine AW2_ret ?_
    have hz := some_elim H
    subst hz
    exact ⟨⟨res_cella Tryd.underlying62 Y in_62.sz Y (Sub.le (Sub.refl _) ((bcells_length _).trans (vlen y'16))) (by decide) (Sub.take (Sub.refl _) ((bcells_length _).trans (vlen y'16))), trivial⟩, trivial⟩

/-! chirographref.Summed -/
noncomputable def g_ref_Summed (b0 : List UInt8) : Option ((Vector UInt8 32)) :=
  (g_ref_Begun).bind fun r'1 => (g_ref_Added r'1 b0).bind fun r'2 => (g_ref_ended r'2.1).bind fun r'3 => some r'3
set_option maxHeartbeats 4000000 in
set_option maxRecDepth 100000 in
theorem g_ref_Summed_ac {b0 : List UInt8} {r : (Vector UInt8 32)} (H : g_ref_Summed b0 = some r) : ACp Tryd.prog 36 [(AV.bytes b0)] (.agg (bcells r.toList)) := by
 refine ACp_of (AC2_of_body (vs := [.g (bcells r.toList)]) Tryd.func36 Y Y (Nat.le_of_ble_eq_true Y) Y ?_) (fun _ => .same _)
 unfold g_ref_Summed at H
 refine as2 [(0, .y b0)] [] Y Y Y ?_
 refine sg [0] Y ?_
 refine r_op Y Y (MakeD.opD (u_alloc 2 Y in_62 one_62 zc_62) Y Y Y Y) ?_
 refine rz [(0, .y b0), (2, .q 2 (0))] [(2, .pure (bcells ((Vector.replicate 32 (0 : UInt8)).toList)))] Y Y Y ?_
 refine sg [0, 1, 2, 3, 4, 5, 6, 7, 8] Y ?_
 refine bindK H fun r'1 h1 H => ?_
 refine rp Y Y (p_callp Y Y Y Tryd.func42 Y Y (g_ref_Begun_ac h1) trivial) ?_
 refine rp Y Y (p_move Y Y) ?_
 refine bindK H fun r'2 h2 H => ?_
 refine rp Y Y (p_callp Y Y Y Tryd.func41 Y Y (g_ref_Added_ac h2) ⟨Y, Y, trivial⟩) ?_
 refine rp Y Y (p_move Y Y) ?_
 refine rp Y Y (p_ext Y Y Y Y) ?_
 refine rp Y Y (p_ext Y Y Y Y) ?_
 refine r_op Y Y (MakeD.opD (u_alloc 3 Y in_70 one_70 zc_70) Y Y Y Y) ?_
 refine r_op Y Y (u_st Y Y Y Y Y in_70 (GStream.len r'2.1) (nl (GStream.len GStream.zero)) (Upd.refl ((GStream.len r'2.1).trans (GStream.len GStream.zero).symm))) ?_
 refine rp Y Y (p_asg Y Y) ?_
 refine rz [(2, .q 2 (0)), (3, .q 3 (0))] [(2, .pure (bcells ((Vector.replicate 32 (0 : UInt8)).toList))), (3, .pure (GStream.cs r'2.1))] Y Y Y ?_
 refine sg [0, 1, 2] Y ?_
 refine rp Y Y (u_lda Y Y Tryd.underlying70 Y in_70 Y (Nat.succ_pos _) (Sub.refl _) (GStream.len r'2.1)) ?_
 refine bindK H fun r'3 h3 H => ?_
 refine rp Y Y (p_callp Y Y Y Tryd.func43 Y Y (g_ref_ended_ac h3) ⟨Y, trivial⟩) ?_
 refine r_op Y Y (u_st Y Y Y Y Y in_62 ((bcells_length _).trans (vlen r'3)) (nl ((bcells_length _).trans (vlen (Vector.replicate 32 (0 : UInt8))))) (Upd.refl (((bcells_length _).trans (vlen r'3)).trans ((bcells_length _).trans (vlen (Vector.replicate 32 (0 : UInt8)))).symm))) ?_
 refine rz [(2, .q 2 (0))] [(2, .pure (bcells r'3.toList))] Y Y Y ?_
 refine AW2_ret ?_
 have hz := some_elim H
 subst hz
 exact ⟨⟨res_cella Tryd.underlying62 Y in_62.sz Y (Sub.le (Sub.refl _) ((bcells_length _).trans (vlen r'3))) (by decide) (Sub.take (Sub.refl _) ((bcells_length _).trans (vlen r'3))), trivial⟩, trivial⟩

/-! chirographref.DigestOf -/
noncomputable def g_ref_DigestOf (mode0 : Int) (tag1 : Int) (parts2 : List (List UInt8)) : Option ((List UInt8) × Int) :=
  (g_ref_badMode mode0).bind fun r'1 => (if r'1 = true then some ([], (2 : Int)) else (g_ref_FrameOf tag1 parts2).bind fun r'2 => ((if (r'2.2 = (0 : Int)) ∧ (mode0 = (1 : Int)) then (g_ref_Summed r'2.1).bind fun r'4 => some r'4.toList else some r'2.1)).bind fun j'3 => some (j'3, r'2.2))
set_option maxHeartbeats 4000000 in
set_option maxRecDepth 100000 in
theorem g_ref_DigestOf_ac {mode0 : Int} {tag1 : Int} {parts2 : List (List UInt8)} {r : (List UInt8) × Int} (H : g_ref_DigestOf mode0 tag1 parts2 = some r) : ACp Tryd.prog 30 [(AV.int mode0), (AV.int tag1), (AV.lists parts2)] (.tup [(AV.bytes r.1), (AV.int r.2)]) := by
 refine ACp_of (AC2_of_body (vs := [.y r.1, .i r.2]) Tryd.func30 Y Y (Nat.le_of_ble_eq_true Y) Y ?_) (fun _ => .same _)
 unfold g_ref_DigestOf at H
 refine as2 [(0, .i mode0), (1, .i tag1), (2, .p (AV.lists parts2))] [] Y Y Y ?_
 refine sg [0, 1] Y ?_
 refine rp Y Y (p_asgn Y) ?_
 refine rp Y Y (p_asg Y Y) ?_
 refine rz [(0, .i mode0), (1, .i tag1), (2, .p (AV.lists parts2))] [] Y Y Y ?_
 refine AW2_seq ?_
 refine sg [0, 1] Y ?_
 refine rp Y Y (p_move Y Y) ?_
 refine bindK H fun r'1 h1 H => ?_
 refine rp Y Y (p_callp Y Y Y Tryd.func14 Y Y (g_ref_badMode_ac h1) ⟨Y, trivial⟩) ?_
 refine rz [(0, .i mode0), (1, .i tag1), (2, .p (AV.lists parts2)), (12, .b r'1)] [] Y Y Y ?_
 refine AW2_cond Y (fun h2 => ?_) (fun h2 => ?_)
 ·replace H := ite_then h2 H
  refine sg [0, 1] Y ?_
  refine rp Y Y (p_asgn Y) ?_
  refine rp Y Y (p_asg Y Y) ?_
  refine rz [(6, .p .nil), (7, .i (2 : Int))] [] Y Y Y ?_
  refine AW2_ret ?_
  have hz := some_elim H
  subst hz
  exact ⟨⟨res_tmp TLes.nil0, res_tmp (.same _), trivial⟩, trivial⟩
 ·replace H := ite_else (ne_true h2) H
  refine as2 [(0, .i mode0), (1, .i tag1), (2, .p (AV.lists parts2))] [] Y Y Y ?_
  refine AW2_skip ?_
  refine sg [0, 1, 2, 3, 4, 5, 6, 7] Y ?_
  refine rp Y Y (p_move Y Y) ?_
  refine rp Y Y (p_move Y Y) ?_
  refine bindK H fun r'2 h3 H => ?_
  refine rp Y Y (p_callp Y Y Y Tryd.func35 Y Y (g_ref_FrameOf_ac h3) ⟨Y, Y, trivial⟩) ?_
  refine rp Y Y (p_move Y Y) ?_
  refine rp Y Y (p_ext Y Y Y Y) ?_
  refine rp Y Y (p_ext Y Y Y Y) ?_
  refine rp Y Y (p_asg Y Y) ?_
  refine rp Y Y (p_asg Y Y) ?_
  refine rz [(0, .i mode0), (8, .y r'2.1), (9, .i r'2.2)] [] Y Y Y ?_
  refine AW2_seq ?_
  refine bindK H fun j'3 h4 H => ?_
  refine AW2_mid (⟨[(8, .y j'3), (9, .i r'2.2)], [], 32⟩ : TS) ?_ ?_
  ·clear H
   have H := h4
   clear h4
   refine AW2_seq ?_
   refine AW2_mid (⟨[(8, .y r'2.1), (9, .i r'2.2), (24, .b (decide ((r'2.2 = (0 : Int)) ∧ (mode0 = (1 : Int)))))], [], 32⟩ : TS) ?_ ?_
   ·refine AW2_reg [0, 1, 2, 3, 4, 5] Y ?_
    refine rp Y Y (p_move Y Y) ?_
    refine rp Y Y (p_ieq Y Y Y) ?_
    refine rp Y Y (p_move Y Y) ?_
    refine (Classical.em (r'2.2 = (0 : Int))).elim (fun h5 => ?_) (fun h5 => ?_)
    ·refine r_on Y Y Y Y (dT h5) Y (PureD.opD (p_move Y Y)) ?_
     refine r_on Y Y Y Y (dT h5) Y (PureD.opD (p_ieq Y Y Y)) ?_
     refine rp Y Y (p_pkt Y Y (dT h5) (tb ((and_l (p := r'2.2 = (0 : Int)) (q := mode0 = (1 : Int)) h5)))) ?_
     refine rs [(8, .y r'2.1), (9, .i r'2.2), (24, .b (decide ((r'2.2 = (0 : Int)) ∧ (mode0 = (1 : Int)))))] [] Y Y Y ?_
     exact RunW_nil rfl
    ·refine r_off Y Y Y Y (dF h5) Y Y ?_
     refine r_off Y Y Y Y (dF h5) Y Y ?_
     refine rp Y Y (p_pkf Y Y (dF h5) (tb (dF (p := (r'2.2 = (0 : Int)) ∧ (mode0 = (1 : Int))) (fun x => h5 x.1)).symm)) ?_
     refine rs [(8, .y r'2.1), (9, .i r'2.2), (24, .b (decide ((r'2.2 = (0 : Int)) ∧ (mode0 = (1 : Int)))))] [] Y Y Y ?_
     exact RunW_nil rfl
   ·refine AW2_if (p := (r'2.2 = (0 : Int)) ∧ (mode0 = (1 : Int))) Y (fun h6 => ?_) (fun h6 => ?_)
    ·replace H := ite_then h6 H
     refine sg [0, 1, 2, 3] Y ?_
     refine rp Y Y (p_move Y Y) ?_
     refine bindK H fun r'4 h7 H => ?_
     refine rp Y Y (p_callp Y Y Y Tryd.func36 Y Y (g_ref_Summed_ac h7) ⟨Y, trivial⟩) ?_
     refine r_op Y Y (MakeD.opD (u_alloc 10 Y in_62 one_62 zc_62) Y Y Y Y) ?_
     refine r_op Y Y (u_st Y Y Y Y Y in_62 ((bcells_length _).trans (vlen r'4)) (nl ((bcells_length _).trans (vlen (Vector.replicate 32 (0 : UInt8))))) (Upd.refl (((bcells_length _).trans (vlen r'4)).trans ((bcells_length _).trans (vlen (Vector.replicate 32 (0 : UInt8)))).symm))) ?_
     refine rz [(9, .i r'2.2), (10, .q 10 (0))] [(10, .pure (bcells r'4.toList))] Y Y Y ?_
     refine AW2_reg [0, 1, 2, 3] Y ?_
     refine rp Y Y (u_cuta Y Y Tryd.underlying62 in_5 Y Y (nl ((bcells_length _).trans (vlen r'4))) (Sub.refl _) (((bcells_length _).trans (vlen r'4)).trans (by decide))) ?_
     refine rp Y Y (u_cbl Y Y Tryd.underlying27 Tryd.underlying5 Tryd.underlying9 (bs := r'4.toList) (vlen _) Y Y (nl ((bcells_length _).trans (vlen r'4))) (Sub.refl _)) ?_
     refine r_op Y Y (MakeD.opD (n_sb 29 Y Tryd.underlying9 Tryd.underlying27 Tryd.underlying5 Y) Y Y Y Y) ?_
     refine rp Y Y (p_asg Y Y) ?_
     refine rs [(8, .c (.own 29 r'4.toList.length 1)), (9, .i r'2.2)] [(29, .pure (bcells r'4.toList))] Y Y Y ?_
     refine RunW_gho (Gho_ren 29 8 Y Y Y Y Y) ?_
     refine rs [(8, .c (.own 8 r'4.toList.length 1)), (9, .i r'2.2)] [(8, .pure (bcells r'4.toList))] Y Y Y ?_
     refine RunW_gho (Gho_pubs [8] ⟨Y, trivial⟩ Y (bl r'4.toList) (by decide)) ?_
     refine rz [(8, .y r'4.toList), (9, .i r'2.2)] [] Y Y Y ?_
     have hz := some_elim H
     subst hz
     exact rfl
    ·replace H := ite_else h6 H
     refine as2 [(8, .y r'2.1), (9, .i r'2.2)] [] Y Y Y ?_
     refine AW2_skip ?_
     have hz := some_elim H
     subst hz
     exact rfl
  ·refine sg [0, 1, 2, 3] Y ?_
   refine rp Y Y (p_move Y Y) ?_
   refine rp Y Y (p_move Y Y) ?_
   refine rp Y Y (p_asg Y Y) ?_
   refine rp Y Y (p_asg Y Y) ?_
   refine rz [(6, .y j'3), (7, .i r'2.2)] [] Y Y Y ?_
   refine AW2_ret ?_
   have hz := some_elim H
   subst hz
   exact ⟨⟨res_tmp (.same _), res_tmp (.same _), trivial⟩, trivial⟩

/-! chirographref.LeafOf -/
noncomputable def g_ref_LeafOf (mode0 : Int) (s1 : GSlot) : Option ((List UInt8) × Int) :=
  (g_ref_badMode mode0).bind fun r'1 => (if r'1 = true then some ([], (2 : Int)) else (if ((!s1.Full) = true) ∧ ((s1.Data.length : Int) > (0 : Int)) then some ([], (3 : Int)) else (if ((s1.Salt.length : Int) > (80 : Int)) ∨ ((s1.Data.length : Int) > (400 : Int)) then some ([], (1 : Int)) else ((if s1.Full = true then if [1].length + s1.Data.length ≤ 9223372036854775807 then some ([1] ++ s1.Data) else none else some [0])).bind fun j'2 => (g_ref_DigestOf mode0 (1 : Int) ([s1.Salt, j'2] : List (List UInt8))).bind fun r'3 => some (r'3.1, r'3.2))))
set_option maxHeartbeats 4000000 in
set_option maxRecDepth 100000 in
theorem g_ref_LeafOf_ac {mode0 : Int} {s1 : GSlot} {r : (List UInt8) × Int} (H : g_ref_LeafOf mode0 s1 = some r) : ACp Tryd.prog 29 [(AV.int mode0), (.agg (GSlot.cs s1))] (.tup [(AV.bytes r.1), (AV.int r.2)]) := by
 refine ACp_of (AC2_of_body (vs := [.y r.1, .i r.2]) Tryd.func29 Y Y (Nat.le_of_ble_eq_true Y) Y ?_) (fun _ => .same _)
 unfold g_ref_LeafOf at H
 refine as2 [(0, .i mode0), (1, .g (GSlot.cs s1))] [] Y Y Y ?_
 refine sg [0, 1, 2] Y ?_
 refine r_op Y Y (MakeD.opD (n_box 3 Y Y) Y Y Y Y) ?_
 refine rp Y Y (p_asgn Y) ?_
 refine rp Y Y (p_asg Y Y) ?_
 refine rz [(0, .i mode0), (3, .q 3 (0))] [(3, .pure (GSlot.cs s1))] Y Y Y ?_
 refine AW2_seq ?_
 refine AW2_block ?_
 refine sg [0, 1, 2] Y ?_
 refine rp Y Y (p_move Y Y) ?_
 refine bindK H fun r'1 h1 H => ?_
 refine rp Y Y (p_callp Y Y Y Tryd.func14 Y Y (g_ref_badMode_ac h1) ⟨Y, trivial⟩) ?_
 refine rp Y Y (p_asg Y Y) ?_
 refine rz [(0, .i mode0), (3, .q 3 (0)), (7, .b r'1)] [(3, .pure (GSlot.cs s1))] Y Y Y ?_
 refine AW2_cond Y (fun h2 => ?_) (fun h2 => ?_)
 ·replace H := ite_then h2 H
  refine sg [0, 1] Y ?_
  refine rp Y Y (p_asgn Y) ?_
  refine rp Y Y (p_asg Y Y) ?_
  refine rz [(4, .p .nil), (5, .i (2 : Int))] [] Y Y Y ?_
  refine AW2_ret ?_
  have hz := some_elim H
  subst hz
  exact ⟨⟨res_tmp TLes.nil0, res_tmp (.same _), trivial⟩, trivial⟩
 ·replace H := ite_else (ne_true h2) H
  refine AW2_seq ?_
  refine AW2_mid (⟨[(0, .i mode0), (3, .q 3 (0)), (10, .b (decide (((!s1.Full) = true) ∧ ((s1.Data.length : Int) > (0 : Int)))))], [(3, .pure (GSlot.cs s1))], 46⟩ : TS) ?_ ?_
  ·refine AW2_reg [0, 1, 2, 3, 4, 5, 6, 7, 8, 9] Y ?_
   refine rp Y Y (u_fa Y Y Tryd.underlying49 Y in_4 nz Y Y (nl (GSlot.len s1))) ?_
   refine rp Y Y (u_ld Y Y Tryd.underlying4 Y Y ((Sub.refl _).trans (GSlot.sub0 s1))) ?_
   refine rp Y Y (p_not Y Y) ?_
   refine rp Y Y (p_move Y Y) ?_
   refine (Classical.em ((!s1.Full) = true)).elim (fun h3 => ?_) (fun h3 => ?_)
   ·refine rn Y Y Y Y h3 Y (u_fa Y Y Tryd.underlying49 Y in_27 nz Y Y (nl (GSlot.len s1))) ?_
    refine rn Y Y Y Y h3 Y (u_ld Y Y Tryd.underlying27 Y Y ((Sub.refl _).trans (GSlot.sub2 s1))) ?_
    refine rn Y Y Y Y h3 Y (p_lenl Y Tryd.underlying27 Y Y) ?_
    refine rn Y Y Y Y h3 Y (p_bin Y Y Y Y) ?_
    refine rp Y Y (p_pkt Y Y h3 (tb ((and_l (p := (!s1.Full) = true) (q := (s1.Data.length : Int) > (0 : Int)) h3)))) ?_
    refine rp Y Y (p_asg Y Y) ?_
    refine rs [(0, .i mode0), (3, .q 3 (0)), (10, .b (decide (((!s1.Full) = true) ∧ ((s1.Data.length : Int) > (0 : Int)))))] [(3, .pure (GSlot.cs s1))] Y Y Y ?_
    exact RunW_nil rfl
   ·refine r_off Y Y Y Y (bfalse h3) Y Y ?_
    refine r_off Y Y Y Y (bfalse h3) Y Y ?_
    refine r_off Y Y Y Y (bfalse h3) Y Y ?_
    refine r_off Y Y Y Y (bfalse h3) Y Y ?_
    refine rp Y Y (p_pkf Y Y (bfalse h3) (tb (dF (p := ((!s1.Full) = true) ∧ ((s1.Data.length : Int) > (0 : Int))) (fun x => h3 x.1)).symm)) ?_
    refine rp Y Y (p_asg Y Y) ?_
    refine rs [(0, .i mode0), (3, .q 3 (0)), (10, .b (decide (((!s1.Full) = true) ∧ ((s1.Data.length : Int) > (0 : Int)))))] [(3, .pure (GSlot.cs s1))] Y Y Y ?_
    exact RunW_nil rfl
  ·refine AW2_if (p := ((!s1.Full) = true) ∧ ((s1.Data.length : Int) > (0 : Int))) Y (fun h4 => ?_) (fun h4 => ?_)
   ·replace H := ite_then h4 H
    refine sg [0, 1] Y ?_
    refine rp Y Y (p_asgn Y) ?_
    refine rp Y Y (p_asg Y Y) ?_
    refine rz [(4, .p .nil), (5, .i (3 : Int))] [] Y Y Y ?_
    refine AW2_ret ?_
    have hz := some_elim H
    subst hz
    exact ⟨⟨res_tmp TLes.nil0, res_tmp (.same _), trivial⟩, trivial⟩
   ·replace H := ite_else h4 H
    refine AW2_seq ?_
    refine AW2_mid (⟨[(0, .i mode0), (3, .q 3 (0)), (20, .b (decide (((s1.Salt.length : Int) > (80 : Int)) ∨ ((s1.Data.length : Int) > (400 : Int)))))], [(3, .pure (GSlot.cs s1))], 46⟩ : TS) ?_ ?_
    ·refine AW2_reg [0, 1, 2, 3, 4, 5, 6, 7, 8, 9, 10] Y ?_
     refine rp Y Y (u_fa Y Y Tryd.underlying49 Y in_27 nz Y Y (nl (GSlot.len s1))) ?_
     refine rp Y Y (u_ld Y Y Tryd.underlying27 Y Y ((Sub.refl _).trans (GSlot.sub1 s1))) ?_
     refine rp Y Y (p_lenl Y Tryd.underlying27 Y Y) ?_
     refine rp Y Y (p_bin Y Y Y Y) ?_
     refine rp Y Y (p_move Y Y) ?_
     refine (Classical.em ((s1.Salt.length : Int) > (80 : Int))).elim (fun h5 => ?_) (fun h5 => ?_)
     ·refine r_off Y Y Y Y (dT h5) Y Y ?_
      refine r_off Y Y Y Y (dT h5) Y Y ?_
      refine r_off Y Y Y Y (dT h5) Y Y ?_
      refine r_off Y Y Y Y (dT h5) Y Y ?_
      refine rp Y Y (p_pkt Y Y (dT h5) (tb (dT (p := ((s1.Salt.length : Int) > (80 : Int)) ∨ ((s1.Data.length : Int) > (400 : Int))) (Or.inl h5)).symm)) ?_
      refine rp Y Y (p_asg Y Y) ?_
      refine rs [(0, .i mode0), (3, .q 3 (0)), (20, .b (decide (((s1.Salt.length : Int) > (80 : Int)) ∨ ((s1.Data.length : Int) > (400 : Int)))))] [(3, .pure (GSlot.cs s1))] Y Y Y ?_
      exact RunW_nil rfl
     ·refine r_on Y Y Y Y (dF h5) Y (PureD.opD (u_fa Y Y Tryd.underlying49 Y in_27 nz Y Y (nl (GSlot.len s1)))) ?_
      refine r_on Y Y Y Y (dF h5) Y (PureD.opD (u_ld Y Y Tryd.underlying27 Y Y ((Sub.refl _).trans (GSlot.sub2 s1)))) ?_
      refine r_on Y Y Y Y (dF h5) Y (PureD.opD (p_lenl Y Tryd.underlying27 Y Y)) ?_
      refine r_on Y Y Y Y (dF h5) Y (PureD.opD (p_bin Y Y Y Y)) ?_
      refine rp Y Y (p_pkf Y Y (dF h5) (tb ((or_l (p := (s1.Salt.length : Int) > (80 : Int)) (q := (s1.Data.length : Int) > (400 : Int)) h5)))) ?_
      refine rp Y Y (p_asg Y Y) ?_
      refine rs [(0, .i mode0), (3, .q 3 (0)), (20, .b (decide (((s1.Salt.length : Int) > (80 : Int)) ∨ ((s1.Data.length : Int) > (400 : Int)))))] [(3, .pure (GSlot.cs s1))] Y Y Y ?_
      exact RunW_nil rfl
    ·refine AW2_if (p := ((s1.Salt.length : Int) > (80 : Int)) ∨ ((s1.Data.length : Int) > (400 : Int))) Y (fun h6 => ?_) (fun h6 => ?_)
     ·replace H := ite_then h6 H
      refine sg [0, 1] Y ?_
      refine rp Y Y (p_asgn Y) ?_
      refine rp Y Y (p_asg Y Y) ?_
      refine rz [(4, .p .nil), (5, .i (1 : Int))] [] Y Y Y ?_
      refine AW2_ret ?_
      have hz := some_elim H
      subst hz
      exact ⟨⟨res_tmp TLes.nil0, res_tmp (.same _), trivial⟩, trivial⟩
     ·replace H := ite_else h6 H
      refine as2 [(0, .i mode0), (3, .q 3 (0))] [(3, .pure (GSlot.cs s1))] Y Y Y ?_
      refine AW2_skip ?_
      refine sg [0] Y ?_
      refine rp Y Y (p_asg Y Y) ?_
      refine rz [(0, .i mode0), (3, .q 3 (0)), (6, .t [0])] [(3, .pure (GSlot.cs s1))] Y Y Y ?_
      refine AW2_seq ?_
      refine bindK H fun j'2 h7 H => ?_
      refine AW2_mid (⟨[(0, .i mode0), (3, .q 3 (0)), (6, .t j'2)], [(3, .pure (GSlot.cs s1))], 46⟩ : TS) ?_ ?_
      ·clear H
       have H := h7
       clear h7
       refine sg [0, 1] Y ?_
       refine rp Y Y (u_fa Y Y Tryd.underlying49 Y in_4 nz Y Y (nl (GSlot.len s1))) ?_
       refine rp Y Y (u_ld Y Y Tryd.underlying4 Y Y ((Sub.refl _).trans (GSlot.sub0 s1))) ?_
       refine rz [(0, .i mode0), (3, .q 3 (0)), (6, .t [0]), (32, .b s1.Full)] [(3, .pure (GSlot.cs s1))] Y Y Y ?_
       refine AW2_cond Y (fun h8 => ?_) (fun h8 => ?_)
       ·replace H := ite_then h8 H
        refine AW2_reg [0, 1, 2, 3, 4] Y ?_
        refine rp Y Y (u_fa Y Y Tryd.underlying49 Y in_27 nz Y Y (nl (GSlot.len s1))) ?_
        refine rp Y Y (u_ld Y Y Tryd.underlying27 Y Y ((Sub.refl _).trans (GSlot.sub2 s1))) ?_
        refine rp Y Y (p_cb Y Y Tryd.underlying27 Tryd.underlying5 Tryd.underlying9 Y) ?_
        refine chkK H fun h9 H => ?_
        refine rp Y Y (p_cat Y Y Y h9) ?_
        refine rp Y Y (p_asg Y Y) ?_
        refine rz [(0, .i mode0), (3, .q 3 (0)), (6, .t ([1] ++ s1.Data))] [(3, .pure (GSlot.cs s1))] Y Y Y ?_
        have hz := some_elim H
        subst hz
        exact rfl
       ·replace H := ite_else (ne_true h8) H
        refine as2 [(0, .i mode0), (3, .q 3 (0)), (6, .t [0])] [(3, .pure (GSlot.cs s1))] Y Y Y ?_
        refine AW2_skip ?_
        have hz := some_elim H
        subst hz
        exact rfl
      ·refine sg [0, 1, 2, 3, 4, 5, 6, 7, 8, 9, 10] Y ?_
       refine rp Y Y (p_move Y Y) ?_
       refine rp Y Y (u_fa Y Y Tryd.underlying49 Y in_27 nz Y Y (nl (GSlot.len s1))) ?_
       refine rp Y Y (u_ld Y Y Tryd.underlying27 Y Y ((Sub.refl _).trans (GSlot.sub1 s1))) ?_
       refine rp Y Y (p_move Y Y) ?_
       refine r_op Y Y (MakeD.opD (n_sb 41 Y Tryd.underlying9 Tryd.underlying27 Tryd.underlying5 Y) Y Y Y Y) ?_
       refine RunW_gho (Gho_pubs [41] ⟨Y, trivial⟩ Y (bl j'2) (by decide)) ?_
       refine r_op Y Y (MakeD.opD (u_bs 42 Y Tryd.underlying24 in_27 Y one_27 (by decide) (by decide) Y Y Y) Y Y Y Y) ?_
       refine RunW_st [(0, .i mode0), (3, .q 3 (0)), (6, .t j'2), (37, .i mode0), (38, .q 3 (0 + 1)), (39, .y s1.Salt), (40, .t j'2), (41, .y j'2), (42, .c (.own 42 ([s1.Salt, j'2] : List (List UInt8)).length 1))] [(3, .pure (GSlot.cs s1)), (42, .pure (([s1.Salt, j'2] : List (List UInt8)).map AV.bytes))] Y ⟨TLes.same _, TLes.same _, TLes.same _, TLes.same _, TLes.same _, TLes.same _, TLes.same _, TLes.same _, TLes.own Y, trivial⟩ ⟨Y, Y, trivial⟩ ?_
       refine RunW_gho (Gho_pubs [42] ⟨Y, trivial⟩ Y (ml AV.bytes ([s1.Salt, j'2] : List (List UInt8))) (by decide)) ?_
       refine bindK H fun r'3 h10 H => ?_
       refine rp Y Y (p_callp Y Y Y Tryd.func30 Y Y (g_ref_DigestOf_ac h10) ⟨Y, Y, Y, trivial⟩) ?_
       refine rp Y Y (p_ext Y Y Y Y) ?_
       refine rp Y Y (p_ext Y Y Y Y) ?_
       refine rp Y Y (p_asg Y Y) ?_
       refine rp Y Y (p_asg Y Y) ?_
       refine rz [(4, .y r'3.1), (5, .i r'3.2)] [] Y Y Y ?_
       refine AW2_ret ?_
       have hz := some_elim H
       subst hz
       exact ⟨⟨res_tmp (.same _), res_tmp (.same _), trivial⟩, trivial⟩

/-! chirographref.uncovered -/
def g_ref_uncovered_r7 : List (List (Nat × Option Nat)) := [[(1, none)], [(10, none)], [(44, some 0), (45, some 1)], [(46, some 2)], [(1, none)], [(10, none)], [(48, some 4), (49, some 5)]]
def g_ref_uncovered_r7c : List (List Nat) := [[], [], [0, 1], [0, 1, 2], [], [], [4, 5], [0, 1, 2, 3, 4, 5, 6], [0, 1, 2, 3, 4, 5, 6, 7], [0, 1, 2, 3, 4, 5, 6, 7, 8]]
def g_ref_uncovered_r8 : List (List (Nat × Option Nat)) := [[(0, none)], [(1, none)], [(10, none)], [(54, some 1), (55, some 2)], [(5, none)], [(57, some 4)], [(11, none)], [(58, some 5), (59, some 6)], [(5, none)], [(61, some 8)], [(12, none)], [(62, some 9), (63, some 10)], [(60, some 7), (64, some 11)], [(53, some 0), (56, some 3), (65, some 12)], [(66, some 13)], [(52, some 14)], [(52, some 14)], [(67, some 15)]]
def g_ref_uncovered_r8c : List (List Nat) := [[], [], [], [1, 2], [], [4], [], [4, 5, 6], [], [8], [], [8, 9, 10], [4, 5, 6, 7, 8, 9, 10, 11], [0, 1, 2, 3, 4, 5, 6, 7, 8, 9, 10, 11, 12], [0, 1, 2, 3, 4, 5, 6, 7, 8, 9, 10, 11, 12, 13], [0, 1, 2, 3, 4, 5, 6, 7, 8, 9, 10, 11, 12, 13, 14], [0, 1, 2, 3, 4, 5, 6, 7, 8, 9, 10, 11, 12, 13, 14], [0, 1, 2, 3, 4, 5, 6, 7, 8, 9, 10, 11, 12, 13, 14, 15], [0, 1, 2, 3, 4, 5, 6, 7, 8, 9, 10, 11, 12, 13, 14, 15, 16, 17]]
def g_ref_uncovered_r9 : List (List (Nat × Option Nat)) := [[(0, none)], [(1, none)], [(10, none)], [(71, some 1), (72, some 2)], [(5, none)], [(74, some 4)], [(11, none)], [(75, some 5), (76, some 6)], [(5, none)], [(78, some 8)], [(12, none)], [(79, some 9), (80, some 10)], [(77, some 7), (81, some 11)], [(70, some 0), (73, some 3), (82, some 12)], [(83, some 13)], [(69, some 14)], [(69, some 14)], [(84, some 15)]]
def g_ref_uncovered_r9c : List (List Nat) := [[], [], [], [1, 2], [], [4], [], [4, 5, 6], [], [8], [], [8, 9, 10], [4, 5, 6, 7, 8, 9, 10, 11], [0, 1, 2, 3, 4, 5, 6, 7, 8, 9, 10, 11, 12], [0, 1, 2, 3, 4, 5, 6, 7, 8, 9, 10, 11, 12, 13], [0, 1, 2, 3, 4, 5, 6, 7, 8, 9, 10, 11, 12, 13, 14], [0, 1, 2, 3, 4, 5, 6, 7, 8, 9, 10, 11, 12, 13, 14], [0, 1, 2, 3, 4, 5, 6, 7, 8, 9, 10, 11, 12, 13, 14, 15], [0, 1, 2, 3, 4, 5, 6, 7, 8, 9, 10, 11, 12, 13, 14, 15, 16, 17]]
noncomputable def g_ref_uncovered_b (R' : Int → (List Bool) → GCover → Option ((List UInt8) × Bool)) (mode0 : Int) (open1 : List Bool) (c2 : GCover) : Option ((List UInt8) × Bool) :=
  (g_ref_count open1).bind fun r'1 => (if r'1 = (0 : Int) then if 0 < c2.Rest.length then some ((lrd c2.Rest 0), true) else none else (if (open1.length : Int) = (1 : Int) then if 0 < c2.Open.length then (g_ref_LeafOf mode0 (lrd c2.Open 0)).bind fun r'2 => some (r'2.1, (decide (r'2.2 = (0 : Int)))) else none else if 0 ≤ w64 ((open1.length : Int).tdiv (2 : Int)) ∧ w64 ((open1.length : Int).tdiv (2 : Int)) ≤ (open1.length : Int) then (g_ref_count (cut open1 (0 : Int) (w64 ((open1.length : Int).tdiv (2 : Int))))).bind fun r'3 => if 0 ≤ w64 ((open1.length : Int).tdiv (2 : Int)) ∧ w64 ((open1.length : Int).tdiv (2 : Int)) ≤ (open1.length : Int) then (g_ref_rests 100000 (cut open1 (0 : Int) (w64 ((open1.length : Int).tdiv (2 : Int))))).bind fun r'4 => if 0 ≤ w64 ((open1.length : Int).tdiv (2 : Int)) ∧ w64 ((open1.length : Int).tdiv (2 : Int)) ≤ (open1.length : Int) then if 0 ≤ r'3 ∧ r'3 ≤ (c2.Open.length : Int) then if 0 ≤ r'4 ∧ r'4 ≤ (c2.Rest.length : Int) then (R' mode0 (cut open1 (0 : Int) (w64 ((open1.length : Int).tdiv (2 : Int)))) ({ { GCover.zero with Open := (cut c2.Open (0 : Int) r'3) } with Rest := (cut c2.Rest (0 : Int) r'4) })).bind fun r'5 => if 0 ≤ w64 ((open1.length : Int).tdiv (2 : Int)) ∧ w64 ((open1.length : Int).tdiv (2 : Int)) ≤ (open1.length : Int) then if 0 ≤ r'3 ∧ r'3 ≤ (c2.Open.length : Int) then if 0 ≤ r'4 ∧ r'4 ≤ (c2.Rest.length : Int) then (R' mode0 (cut open1 (w64 ((open1.length : Int).tdiv (2 : Int))) (open1.length : Int)) ({ { GCover.zero with Open := (cut c2.Open r'3 (c2.Open.length : Int)) } with Rest := (cut c2.Rest r'4 (c2.Rest.length : Int)) })).bind fun r'6 => (if ((!r'5.2) = true) ∨ ((!r'6.2) = true) then some ([], false) else (g_ref_DigestOf mode0 (2 : Int) ([r'5.1, r'6.1] : List (List UInt8))).bind fun r'7 => some (r'7.1, (decide (r'7.2 = (0 : Int))))) else none else none else none else none else none else none else none else none))
noncomputable def g_ref_uncovered : Nat → Int → (List Bool) → GCover → Option ((List UInt8) × Bool)
  | 0, _, _, _ => none
  | fu + 1, mode0, open1, c2 => g_ref_uncovered_b (g_ref_uncovered fu) mode0 open1 c2
set_option maxHeartbeats 4000000 in
set_option maxRecDepth 100000 in
theorem g_ref_uncovered_ac0 {R' : Int → (List Bool) → GCover → Option ((List UInt8) × Bool)} (hR : ∀ {mode0 : Int} {open1 : List Bool} {c2 : GCover} {r : (List UInt8) × Bool}, R' mode0 open1 c2 = some r → ACp Tryd.prog 18 [(AV.int mode0), ((fun q : List Bool => AV.lst (q.map AV.bool) q.length) open1), (.agg (GCover.cs c2))] (.tup [(AV.bytes r.1), (AV.bool r.2)])) {mode0 : Int} {open1 : List Bool} {c2 : GCover} {r : (List UInt8) × Bool} (H : g_ref_uncovered_b R' mode0 open1 c2 = some r) : ACp Tryd.prog 18 [(AV.int mode0), ((fun q : List Bool => AV.lst (q.map AV.bool) q.length) open1), (.agg (GCover.cs c2))] (.tup [(AV.bytes r.1), (AV.bool r.2)]) := by
 refine ACp_of (AC2_of_body (vs := [.y r.1, .b r.2]) Tryd.func18 Y Y (Nat.le_of_ble_eq_true Y) Y ?_) (fun _ => .same _)
 unfold g_ref_uncovered_b at H
 refine as2 [(0, .i mode0), (1, .p ((fun q : List Bool => AV.lst (q.map AV.bool) q.length) open1)), (2, .g (GCover.cs c2))] [] Y Y Y ?_
 refine sg [0, 1, 2] Y ?_
 refine r_op Y Y (MakeD.opD (n_box 5 Y Y) Y Y Y Y) ?_
 refine rp Y Y (p_asgn Y) ?_
 refine rp Y Y (p_asg Y Y) ?_
 refine rz [(0, .i mode0), (1, .p ((fun q : List Bool => AV.lst (q.map AV.bool) q.length) open1)), (5, .q 5 (0))] [(5, .pure (GCover.cs c2))] Y Y Y ?_
 refine AW2_seq ?_
 refine sg [0, 1, 2] Y ?_
 refine rp Y Y (p_move Y Y) ?_
 refine bindK H fun r'1 h1 H => ?_
 refine rp Y Y (p_callp Y Y Y Tryd.func16 Y Y (g_ref_count_ac h1) ⟨Y, trivial⟩) ?_
 refine rp Y Y (p_ieq Y Y Y) ?_
 refine rz [(0, .i mode0), (1, .p ((fun q : List Bool => AV.lst (q.map AV.bool) q.length) open1)), (5, .q 5 (0)), (21, .b (decide (r'1 = (0 : Int))))] [(5, .pure (GCover.cs c2))] Y Y Y ?_
 refine AW2_if (p := r'1 = (0 : Int)) Y (fun h2 => ?_) (fun h2 => ?_)
 ·replace H := ite_then h2 H
  refine sg [0, 1, 2, 3, 4, 5] Y ?_
  refine rp Y Y (u_fa Y Y Tryd.underlying26 Y in_24 nz Y Y (nl (GCover.len c2))) ?_
  refine rp Y Y (u_ld Y Y Tryd.underlying24 Y Y ((Sub.refl _).trans (GCover.sub1 c2))) ?_
  refine chkK H fun h3 H => ?_
  refine rp Y Y (u_ixl Y Y Tryd.underlying24 in_27 Y Y Y h3 (lne h3)) ?_
  refine rp Y Y (u_ld Y Y Tryd.underlying27 Y Y (Sub.map default h3)) ?_
  refine rp Y Y (p_asg Y Y) ?_
  refine rp Y Y (p_asg Y Y) ?_
  refine rz [(6, .y (lrd c2.Rest 0)), (7, .b true)] [] Y Y Y ?_
  refine AW2_ret ?_
  have hz := some_elim H
  subst hz
  exact ⟨⟨res_tmp (.same _), res_tmp (.same _), trivial⟩, trivial⟩
 ·replace H := ite_else h2 H
  refine as2 [(0, .i mode0), (1, .p ((fun q : List Bool => AV.lst (q.map AV.bool) q.length) open1)), (5, .q 5 (0))] [(5, .pure (GCover.cs c2))] Y Y Y ?_
  refine AW2_skip ?_
  refine AW2_seq ?_
  refine sg [0, 1, 2] Y ?_
  refine rp Y Y (p_move Y Y) ?_
  refine rp Y Y (p_lenl Y Tryd.underlying22 Y Y) ?_
  refine rp Y Y (p_ieq Y Y Y) ?_
  refine rz [(0, .i mode0), (1, .p ((fun q : List Bool => AV.lst (q.map AV.bool) q.length) open1)), (5, .q 5 (0)), (28, .b (decide ((open1.length : Int) = (1 : Int))))] [(5, .pure (GCover.cs c2))] Y Y Y ?_
  refine AW2_if (p := (open1.length : Int) = (1 : Int)) Y (fun h4 => ?_) (fun h4 => ?_)
  ·replace H := ite_then h4 H
   refine sg [0, 1, 2, 3, 4, 5, 6, 7, 8, 9, 10] Y ?_
   refine rp Y Y (p_move Y Y) ?_
   refine rp Y Y (u_fa Y Y Tryd.underlying26 Y in_23 nz Y Y (nl (GCover.len c2))) ?_
   refine rp Y Y (u_ld Y Y Tryd.underlying23 Y Y ((Sub.refl _).trans (GCover.sub0 c2))) ?_
   refine chkK H fun h5 H => ?_
   refine rp Y Y (u_ixl Y Y Tryd.underlying23 in_49 Y Y Y h5 (fne (fun x => (GSlot.len x)) (by decide) h5)) ?_
   refine rp Y Y (u_lda Y Y Tryd.underlying49 Y in_49 Y (Nat.succ_pos _) (Sub.fm default (fun x => (GSlot.len x)) h5) (GSlot.len (lrd c2.Open 0))) ?_
   refine bindK H fun r'2 h6 H => ?_
   refine rp Y Y (p_callp Y Y Y Tryd.func29 Y Y (g_ref_LeafOf_ac h6) ⟨Y, Y, trivial⟩) ?_
   refine rp Y Y (p_move Y Y) ?_
   refine rp Y Y (p_ext Y Y Y Y) ?_
   refine rp Y Y (p_ext Y Y Y Y) ?_
   refine rp Y Y (p_asg Y Y) ?_
   refine rp Y Y (p_asg Y Y) ?_
   refine rz [(8, .y r'2.1), (9, .i r'2.2)] [] Y Y Y ?_
   refine sg [0, 1, 2, 3, 4] Y ?_
   refine rp Y Y (p_move Y Y) ?_
   refine rp Y Y (p_move Y Y) ?_
   refine rp Y Y (p_ieq Y Y Y) ?_
   refine rp Y Y (p_asg Y Y) ?_
   refine rp Y Y (p_asg Y Y) ?_
   refine rz [(6, .y r'2.1), (7, .b (decide (r'2.2 = (0 : Int))))] [] Y Y Y ?_
   refine AW2_ret ?_
   have hz := some_elim H
   subst hz
   exact ⟨⟨res_tmp (.same _), res_tmp (.same _), trivial⟩, trivial⟩
  ·replace H := ite_else h4 H
   refine as2 [(0, .i mode0), (1, .p ((fun q : List Bool => AV.lst (q.map AV.bool) q.length) open1)), (5, .q 5 (0))] [(5, .pure (GCover.cs c2))] Y Y Y ?_
   refine AW2_skip ?_
   refine sg [0, 1, 2, 3] Y ?_
   refine rp Y Y (p_move Y Y) ?_
   refine rp Y Y (p_lenl Y Tryd.underlying22 Y Y) ?_
   refine rp Y Y (p_iquo Y Y Y (by decide)) ?_
   refine rp Y Y (p_asg Y Y) ?_
   refine rz [(0, .i mode0), (1, .p ((fun q : List Bool => AV.lst (q.map AV.bool) q.length) open1)), (5, .q 5 (0)), (10, .i (w64 ((open1.length : Int).tdiv (2 : Int))))] [(5, .pure (GCover.cs c2))] Y Y Y ?_
   refine AW2_seq ?_
   refine chkK H fun h7 H => ?_
   refine bindK H fun r'3 h8 H => ?_
   refine chkK H fun h9 H => ?_
   refine bindK H fun r'4 h10 H => ?_
   refine AW2_ghoQ ?_
   refine AW2_draw 7 [7, 8, 9] (fun k => ([.p ((fun q : List Bool => AV.lst (q.map AV.bool) q.length) open1), .i (w64 ((open1.length : Int).tdiv (2 : Int))), .p ((fun q : List Bool => AV.lst (q.map AV.bool) q.length) (cut open1 (0 : Int) (w64 ((open1.length : Int).tdiv (2 : Int))))), .i r'3, .p ((fun q : List Bool => AV.lst (q.map AV.bool) q.length) open1), .i (w64 ((open1.length : Int).tdiv (2 : Int))), .p ((fun q : List Bool => AV.lst (q.map AV.bool) q.length) (cut open1 (0 : Int) (w64 ((open1.length : Int).tdiv (2 : Int)))))] : List TV).getD k TV.any) (fun k => g_ref_uncovered_r7.getD k []) [(0, none), (1, none), (5, none), (10, none), (47, some 3), (50, some 6)] [] (fun k => g_ref_uncovered_r7c.getD k []) mixed (by kernel_rfl) Y Y (a_op (g_x Y (x_p Y (p_move Y Y) Y)) (a_op (g_x Y (x_p Y (p_move Y Y) Y)) (a_op (g_x Y (x_p Y (u_cutl (g := (fun l => l.map AV.bool)) (a := (0 : Int)) (b := w64 ((open1.length : Int).tdiv (2 : Int))) Y Y Tryd.underlying22 in_4 Y bT_zero (bT_i (Int.le_trans (show 0 ≤ (0 : Int) ∧ (0 : Int) ≤ w64 ((open1.length : Int).tdiv (2 : Int)) ∧ w64 ((open1.length : Int).tdiv (2 : Int)) ≤ (open1.length : Int) from ⟨Int.le_refl _, h7.1, h7.2⟩).1 (show 0 ≤ (0 : Int) ∧ (0 : Int) ≤ w64 ((open1.length : Int).tdiv (2 : Int)) ∧ w64 ((open1.length : Int).tdiv (2 : Int)) ≤ (open1.length : Int) from ⟨Int.le_refl _, h7.1, h7.2⟩).2.1) Y) (.inl Y) (show 0 ≤ (0 : Int) ∧ (0 : Int) ≤ w64 ((open1.length : Int).tdiv (2 : Int)) ∧ w64 ((open1.length : Int).tdiv (2 : Int)) ≤ (open1.length : Int) from ⟨Int.le_refl _, h7.1, h7.2⟩) (g_map AV.bool)) Y)) (a_op (g_x Y (x_p Y (p_callp Y Y Y Tryd.func16 Y Y (g_ref_count_ac h8) ⟨Y, trivial⟩) Y)) (a_op (g_x Y (x_p Y (p_move Y Y) Y)) (a_op (g_x Y (x_p Y (p_move Y Y) Y)) (a_op (g_x Y (x_p Y (u_cutl (g := (fun l => l.map AV.bool)) (a := (0 : Int)) (b := w64 ((open1.length : Int).tdiv (2 : Int))) Y Y Tryd.underlying22 in_4 Y bT_zero (bT_i (Int.le_trans (show 0 ≤ (0 : Int) ∧ (0 : Int) ≤ w64 ((open1.length : Int).tdiv (2 : Int)) ∧ w64 ((open1.length : Int).tdiv (2 : Int)) ≤ (open1.length : Int) from ⟨Int.le_refl _, h9.1, h9.2⟩).1 (show 0 ≤ (0 : Int) ∧ (0 : Int) ≤ w64 ((open1.length : Int).tdiv (2 : Int)) ∧ w64 ((open1.length : Int).tdiv (2 : Int)) ≤ (open1.length : Int) from ⟨Int.le_refl _, h9.1, h9.2⟩).2.1) Y) (.inl Y) (show 0 ≤ (0 : Int) ∧ (0 : Int) ≤ w64 ((open1.length : Int).tdiv (2 : Int)) ∧ w64 ((open1.length : Int).tdiv (2 : Int)) ≤ (open1.length : Int) from ⟨Int.le_refl _, h9.1, h9.2⟩) (g_map AV.bool)) Y)) (a_nil)))))))) ?_
   refine t_op Y Y (PureD.opD (p_callp Y Y Y Tryd.func17 Y Y (g_ref_rests_ac h10) ⟨Y, trivial⟩)) ?_
   refine t_op Y Y (PureD.opD (p_asg Y Y)) ?_
   refine t_op Y Y (PureD.opD (p_asg Y Y)) ?_
   refine t_gho (Gho_st (L := [(0, .i mode0), (1, .p ((fun q : List Bool => AV.lst (q.map AV.bool) q.length) open1)), (5, .q 5 (0)), (10, .i (w64 ((open1.length : Int).tdiv (2 : Int)))), (11, .i r'3), (12, .i r'4)]) (H := [(5, .pure (GCover.cs c2))]) (N := 103) Y ⟨TLes.same _, TLes.same _, TLes.same _, TLes.same _, TLes.same _, TLes.same _, trivial⟩ ⟨Y, trivial⟩) ?_
   refine AW2_seq ?_
   refine chkK H fun h11 H => ?_
   refine chkK H fun h12 H => ?_
   refine chkK H fun h13 H => ?_
   refine bindK H fun r'5 h14 H => ?_
   refine AW2_ghoQ ?_
   refine AW2_draw 18 [18] (fun k => ([.i mode0, .p ((fun q : List Bool => AV.lst (q.map AV.bool) q.length) open1), .i (w64 ((open1.length : Int).tdiv (2 : Int))), .p ((fun q : List Bool => AV.lst (q.map AV.bool) q.length) (cut open1 (0 : Int) (w64 ((open1.length : Int).tdiv (2 : Int))))), .q 5 (0 + 0), .p ((fun q : List GSlot => AV.lst (q.flatMap GSlot.cs) q.length) c2.Open), .i r'3, .p ((fun q : List GSlot => AV.lst (q.flatMap GSlot.cs) q.length) (cut c2.Open (0 : Int) r'3)), .q 5 (0 + 1), .p (AV.lists c2.Rest), .i r'4, .p (AV.lists (cut c2.Rest (0 : Int) r'4)), .g (GCover.cs ((GCover.w1 (GCover.w0 GCover.zero (cut c2.Open (0 : Int) r'3)) (cut c2.Rest (0 : Int) r'4)))), .p (.tup [(AV.bytes r'5.1), (AV.bool r'5.2)]), .p (.tup [(AV.bytes r'5.1), (AV.bool r'5.2)]), .y r'5.1, .b r'5.2, .y r'5.1] : List TV).getD k TV.any) (fun k => g_ref_uncovered_r8.getD k []) [(0, none), (1, none), (5, none), (10, none), (11, none), (12, none), (13, some 17), (68, some 16)] [] (fun k => g_ref_uncovered_r8c.getD k []) mixed (by kernel_rfl) Y Y (a_op (g_x Y (x_p Y (p_move Y Y) Y)) (a_op (g_x Y (x_p Y (p_move Y Y) Y)) (a_op (g_x Y (x_p Y (p_move Y Y) Y)) (a_op (g_x Y (x_p Y (u_cutl (g := (fun l => l.map AV.bool)) (a := (0 : Int)) (b := w64 ((open1.length : Int).tdiv (2 : Int))) Y Y Tryd.underlying22 in_4 Y bT_zero (bT_i (Int.le_trans (show 0 ≤ (0 : Int) ∧ (0 : Int) ≤ w64 ((open1.length : Int).tdiv (2 : Int)) ∧ w64 ((open1.length : Int).tdiv (2 : Int)) ≤ (open1.length : Int) from ⟨Int.le_refl _, h11.1, h11.2⟩).1 (show 0 ≤ (0 : Int) ∧ (0 : Int) ≤ w64 ((open1.length : Int).tdiv (2 : Int)) ∧ w64 ((open1.length : Int).tdiv (2 : Int)) ≤ (open1.length : Int) from ⟨Int.le_refl _, h11.1, h11.2⟩).2.1) Y) (.inl Y) (show 0 ≤ (0 : Int) ∧ (0 : Int) ≤ w64 ((open1.length : Int).tdiv (2 : Int)) ∧ w64 ((open1.length : Int).tdiv (2 : Int)) ≤ (open1.length : Int) from ⟨Int.le_refl _, h11.1, h11.2⟩) (g_map AV.bool)) Y)) (a_op (g_x Y (x_p Y (u_fa Y Y Tryd.underlying26 Y in_23 nz Y Y (nl (GCover.len c2))) Y)) (a_op (g_x Y (x_p Y (u_ld Y Y Tryd.underlying23 Y Y ((Sub.refl _).trans (GCover.sub0 c2))) Y)) (a_op (g_x Y (x_p Y (p_move Y Y) Y)) (a_op (g_x Y (x_p Y (u_cutl (g := (fun l => l.flatMap GSlot.cs)) (a := (0 : Int)) (b := r'3) Y Y Tryd.underlying23 in_49 Y bT_zero (bT_i (Int.le_trans (show 0 ≤ (0 : Int) ∧ (0 : Int) ≤ r'3 ∧ r'3 ≤ (c2.Open.length : Int) from ⟨Int.le_refl _, h12.1, h12.2⟩).1 (show 0 ≤ (0 : Int) ∧ (0 : Int) ≤ r'3 ∧ r'3 ≤ (c2.Open.length : Int) from ⟨Int.le_refl _, h12.1, h12.2⟩).2.1) Y) (.inl Y) (show 0 ≤ (0 : Int) ∧ (0 : Int) ≤ r'3 ∧ r'3 ≤ (c2.Open.length : Int) from ⟨Int.le_refl _, h12.1, h12.2⟩) (g_fm (fun x => (GSlot.len x)))) Y)) (a_op (g_x Y (x_p Y (u_fa Y Y Tryd.underlying26 Y in_24 nz Y Y (nl (GCover.len c2))) Y)) (a_op (g_x Y (x_p Y (u_ld Y Y Tryd.underlying24 Y Y ((Sub.refl _).trans (GCover.sub1 c2))) Y)) (a_op (g_x Y (x_p Y (p_move Y Y) Y)) (a_op (g_x Y (x_p Y (u_cutl (g := (fun l => l.map AV.bytes)) (a := (0 : Int)) (b := r'4) Y Y Tryd.underlying24 in_27 Y bT_zero (bT_i (Int.le_trans (show 0 ≤ (0 : Int) ∧ (0 : Int) ≤ r'4 ∧ r'4 ≤ (c2.Rest.length : Int) from ⟨Int.le_refl _, h13.1, h13.2⟩).1 (show 0 ≤ (0 : Int) ∧ (0 : Int) ≤ r'4 ∧ r'4 ≤ (c2.Rest.length : Int) from ⟨Int.le_refl _, h13.1, h13.2⟩).2.1) Y) (.inl Y) (show 0 ≤ (0 : Int) ∧ (0 : Int) ≤ r'4 ∧ r'4 ≤ (c2.Rest.length : Int) from ⟨Int.le_refl _, h13.1, h13.2⟩) (g_map AV.bytes)) Y)) (a_op (g_x Y (x_p Y (u_bld Y in_26 one_26 zc_26 pl_26 Y (af_cons Y Y (GCover.upd0 GCover.zero (cut c2.Open (0 : Int) r'3)) (af_cons Y Y (GCover.upd1 ((GCover.w0 GCover.zero (cut c2.Open (0 : Int) r'3))) (cut c2.Rest (0 : Int) r'4)) Y))) Y)) (a_op (g_x Y (x_p Y (p_callp Y Y Y Tryd.func18 Y Y (hR h14) ⟨Y, Y, Y, trivial⟩) Y)) (a_op (g_x Y (x_p Y (p_move Y Y) Y)) (a_op (g_x Y (x_p Y (p_ext Y Y Y Y) Y)) (a_op (g_x Y (x_p Y (p_ext Y Y Y Y) Y)) (a_op (g_x Y (x_p Y (p_asg Y Y) Y)) (a_nil))))))))))))))))))) ?_
   refine t_op Y Y (PureD.opD (p_asg Y Y)) ?_
   refine t_gho (Gho_st (L := [(0, .i mode0), (1, .p ((fun q : List Bool => AV.lst (q.map AV.bool) q.length) open1)), (5, .q 5 (0)), (10, .i (w64 ((open1.length : Int).tdiv (2 : Int)))), (11, .i r'3), (12, .i r'4), (13, .y r'5.1), (14, .b r'5.2)]) (H := [(5, .pure (GCover.cs c2))]) (N := 103) Y ⟨TLes.same _, TLes.same _, TLes.same _, TLes.same _, TLes.same _, TLes.same _, TLes.same _, TLes.same _, trivial⟩ ⟨Y, trivial⟩) ?_
   refine AW2_seq ?_
   refine chkK H fun h15 H => ?_
   refine chkK H fun h16 H => ?_
   refine chkK H fun h17 H => ?_
   refine bindK H fun r'6 h18 H => ?_
   refine AW2_ghoQ ?_
   refine AW2_draw 18 [18] (fun k => ([.i mode0, .p ((fun q : List Bool => AV.lst (q.map AV.bool) q.length) open1), .i (w64 ((open1.length : Int).tdiv (2 : Int))), .p ((fun q : List Bool => AV.lst (q.map AV.bool) q.length) (cut open1 (w64 ((open1.length : Int).tdiv (2 : Int))) (open1.length : Int))), .q 5 (0 + 0), .p ((fun q : List GSlot => AV.lst (q.flatMap GSlot.cs) q.length) c2.Open), .i r'3, .p ((fun q : List GSlot => AV.lst (q.flatMap GSlot.cs) q.length) (cut c2.Open r'3 (c2.Open.length : Int))), .q 5 (0 + 1), .p (AV.lists c2.Rest), .i r'4, .p (AV.lists (cut c2.Rest r'4 (c2.Rest.length : Int))), .g (GCover.cs ((GCover.w1 (GCover.w0 GCover.zero (cut c2.Open r'3 (c2.Open.length : Int))) (cut c2.Rest r'4 (c2.Rest.length : Int))))), .p (.tup [(AV.bytes r'6.1), (AV.bool r'6.2)]), .p (.tup [(AV.bytes r'6.1), (AV.bool r'6.2)]), .y r'6.1, .b r'6.2, .y r'6.1] : List TV).getD k TV.any) (fun k => g_ref_uncovered_r9.getD k []) [(0, none), (13, none), (14, none), (15, some 17), (85, some 16)] [] (fun k => g_ref_uncovered_r9c.getD k []) mixed (by kernel_rfl) Y Y (a_op (g_x Y (x_p Y (p_move Y Y) Y)) (a_op (g_x Y (x_p Y (p_move Y Y) Y)) (a_op (g_x Y (x_p Y (p_move Y Y) Y)) (a_op (g_x Y (x_p Y (u_cutl (g := (fun l => l.map AV.bool)) (a := w64 ((open1.length : Int).tdiv (2 : Int))) (b := (open1.length : Int)) Y Y Tryd.underlying22 in_4 Y (bT_i (show 0 ≤ w64 ((open1.length : Int).tdiv (2 : Int)) ∧ w64 ((open1.length : Int).tdiv (2 : Int)) ≤ (open1.length : Int) ∧ (open1.length : Int) ≤ (open1.length : Int) from ⟨h15.1, h15.2, Int.le_refl _⟩).1 Y) (bT_len _) (.inl Y) (show 0 ≤ w64 ((open1.length : Int).tdiv (2 : Int)) ∧ w64 ((open1.length : Int).tdiv (2 : Int)) ≤ (open1.length : Int) ∧ (open1.length : Int) ≤ (open1.length : Int) from ⟨h15.1, h15.2, Int.le_refl _⟩) (g_map AV.bool)) Y)) (a_op (g_x Y (x_p Y (u_fa Y Y Tryd.underlying26 Y in_23 nz Y Y (nl (GCover.len c2))) Y)) (a_op (g_x Y (x_p Y (u_ld Y Y Tryd.underlying23 Y Y ((Sub.refl _).trans (GCover.sub0 c2))) Y)) (a_op (g_x Y (x_p Y (p_move Y Y) Y)) (a_op (g_x Y (x_p Y (u_cutl (g := (fun l => l.flatMap GSlot.cs)) (a := r'3) (b := (c2.Open.length : Int)) Y Y Tryd.underlying23 in_49 Y (bT_i (show 0 ≤ r'3 ∧ r'3 ≤ (c2.Open.length : Int) ∧ (c2.Open.length : Int) ≤ (c2.Open.length : Int) from ⟨h16.1, h16.2, Int.le_refl _⟩).1 Y) (bT_len _) (.inl Y) (show 0 ≤ r'3 ∧ r'3 ≤ (c2.Open.length : Int) ∧ (c2.Open.length : Int) ≤ (c2.Open.length : Int) from ⟨h16.1, h16.2, Int.le_refl _⟩) (g_fm (fun x => (GSlot.len x)))) Y)) (a_op (g_x Y (x_p Y (u_fa Y Y Tryd.underlying26 Y in_24 nz Y Y (nl (GCover.len c2))) Y)) (a_op (g_x Y (x_p Y (u_ld Y Y Tryd.underlying24 Y Y ((Sub.refl _).trans (GCover.sub1 c2))) Y)) (a_op (g_x Y (x_p Y (p_move Y Y) Y)) (a_op (g_x Y (x_p Y (u_cutl (g := (fun l => l.map AV.bytes)) (a := r'4) (b := (c2.Rest.length : Int)) Y Y Tryd.underlying24 in_27 Y (bT_i (show 0 ≤ r'4 ∧ r'4 ≤ (c2.Rest.length : Int) ∧ (c2.Rest.length : Int) ≤ (c2.Rest.length : Int) from ⟨h17.1, h17.2, Int.le_refl _⟩).1 Y) (bT_len _) (.inl Y) (show 0 ≤ r'4 ∧ r'4 ≤ (c2.Rest.length : Int) ∧ (c2.Rest.length : Int) ≤ (c2.Rest.length : Int) from ⟨h17.1, h17.2, Int.le_refl _⟩) (g_map AV.bytes)) Y)) (a_op (g_x Y (x_p Y (u_bld Y in_26 one_26 zc_26 pl_26 Y (af_cons Y Y (GCover.upd0 GCover.zero (cut c2.Open r'3 (c2.Open.length : Int))) (af_cons Y Y (GCover.upd1 ((GCover.w0 GCover.zero (cut c2.Open r'3 (c2.Open.length : Int)))) (cut c2.Rest r'4 (c2.Rest.length : Int))) Y))) Y)) (a_op (g_x Y (x_p Y (p_callp Y Y Y Tryd.func18 Y Y (hR h18) ⟨Y, Y, Y, trivial⟩) Y)) (a_op (g_x Y (x_p Y (p_move Y Y) Y)) (a_op (g_x Y (x_p Y (p_ext Y Y Y Y) Y)) (a_op (g_x Y (x_p Y (p_ext Y Y Y Y) Y)) (a_op (g_x Y (x_p Y (p_asg Y Y) Y)) (a_nil))))))))))))))))))) ?_
   refine t_op Y Y (PureD.opD (p_asg Y Y)) ?_
   refine t_gho (Gho_st (L := [(0, .i mode0), (13, .y r'5.1), (14, .b r'5.2), (15, .y r'6.1), (16, .b r'6.2)]) (H := []) (N := 103) Y ⟨TLes.same _, TLes.same _, TLes.same _, TLes.same _, TLes.same _, trivial⟩ trivial) ?_
   refine AW2_seq ?_
   refine AW2_seq ?_
   refine AW2_mid (⟨[(0, .i mode0), (13, .y r'5.1), (15, .y r'6.1), (91, .b (decide (((!r'5.2) = true) ∨ ((!r'6.2) = true))))], [], 103⟩ : TS) ?_ ?_
   ·refine AW2_reg [0, 1, 2, 3, 4, 5] Y ?_
    refine rp Y Y (p_move Y Y) ?_
    refine rp Y Y (p_not Y Y) ?_
    refine rp Y Y (p_move Y Y) ?_
    refine (Classical.em ((!r'5.2) = true)).elim (fun h19 => ?_) (fun h19 => ?_)
    ·refine r_off Y Y Y Y h19 Y Y ?_
     refine r_off Y Y Y Y h19 Y Y ?_
     refine rp Y Y (p_pkt Y Y h19 (tb (dT (p := ((!r'5.2) = true) ∨ ((!r'6.2) = true)) (Or.inl h19)).symm)) ?_
     refine rs [(0, .i mode0), (13, .y r'5.1), (15, .y r'6.1), (91, .b (decide (((!r'5.2) = true) ∨ ((!r'6.2) = true))))] [] Y Y Y ?_
     exact RunW_nil rfl
    ·refine r_on Y Y Y Y (bfalse h19) Y (PureD.opD (p_move Y Y)) ?_
     refine r_on Y Y Y Y (bfalse h19) Y (PureD.opD (p_not Y Y)) ?_
     refine rp Y Y (p_pkf Y Y (bfalse h19) (tb ((bdec _).trans (or_l (p := (!r'5.2) = true) (q := (!r'6.2) = true) h19)))) ?_
     refine rs [(0, .i mode0), (13, .y r'5.1), (15, .y r'6.1), (91, .b (decide (((!r'5.2) = true) ∨ ((!r'6.2) = true))))] [] Y Y Y ?_
     exact RunW_nil rfl
   ·refine AW2_if (p := ((!r'5.2) = true) ∨ ((!r'6.2) = true)) Y (fun h20 => ?_) (fun h20 => ?_)
    ·replace H := ite_then h20 H
     refine sg [0, 1] Y ?_
     refine rp Y Y (p_asgn Y) ?_
     refine rp Y Y (p_asg Y Y) ?_
     refine rz [(6, .p .nil), (7, .b false)] [] Y Y Y ?_
     refine AW2_ret ?_
     have hz := some_elim H
     subst hz
     exact ⟨⟨res_tmp TLes.nil0, res_tmp (.same _), trivial⟩, trivial⟩
    ·replace H := ite_else h20 H
     refine as2 [(0, .i mode0), (13, .y r'5.1), (15, .y r'6.1)] [] Y Y Y ?_
     refine AW2_skip ?_
     refine sg [0, 1, 2, 3, 4, 5, 6, 7, 8, 9] Y ?_
     refine rp Y Y (p_move Y Y) ?_
     refine rp Y Y (p_move Y Y) ?_
     refine rp Y Y (p_move Y Y) ?_
     refine r_op Y Y (MakeD.opD (u_bs 96 Y Tryd.underlying24 in_27 Y one_27 (by decide) (by decide) Y Y Y) Y Y Y Y) ?_
     refine RunW_st [(0, .i mode0), (13, .y r'5.1), (15, .y r'6.1), (93, .i mode0), (94, .y r'5.1), (95, .y r'6.1), (96, .c (.own 96 ([r'5.1, r'6.1] : List (List UInt8)).length 1))] [(96, .pure (([r'5.1, r'6.1] : List (List UInt8)).map AV.bytes))] Y ⟨TLes.same _, TLes.same _, TLes.same _, TLes.same _, TLes.same _, TLes.same _, TLes.own Y, trivial⟩ ⟨Y, trivial⟩ ?_
     refine RunW_gho (Gho_pubs [96] ⟨Y, trivial⟩ Y (ml AV.bytes ([r'5.1, r'6.1] : List (List UInt8))) (by decide)) ?_
     refine bindK H fun r'7 h21 H => ?_
     refine rp Y Y (p_callp Y Y Y Tryd.func30 Y Y (g_ref_DigestOf_ac h21) ⟨Y, Y, Y, trivial⟩) ?_
     refine rp Y Y (p_move Y Y) ?_
     refine rp Y Y (p_ext Y Y Y Y) ?_
     refine rp Y Y (p_ext Y Y Y Y) ?_
     refine rp Y Y (p_asg Y Y) ?_
     refine rp Y Y (p_asg Y Y) ?_
     refine rz [(17, .y r'7.1), (18, .i r'7.2)] [] Y Y Y ?_
     refine sg [0, 1, 2, 3, 4] Y ?_
     refine rp Y Y (p_move Y Y) ?_
     refine rp Y Y (p_move Y Y) ?_
     refine rp Y Y (p_ieq Y Y Y) ?_
     refine rp Y Y (p_asg Y Y) ?_
     refine rp Y Y (p_asg Y Y) ?_
     refine rz [(6, .y r'7.1), (7, .b (decide (r'7.2 = (0 : Int))))] [] Y Y Y ?_
     refine AW2_ret ?_
     have hz := some_elim H
     subst hz
     exact ⟨⟨res_tmp (.same _), res_tmp (.same _), trivial⟩, trivial⟩
theorem g_ref_uncovered_acN : ∀ (fu : Nat) {mode0 : Int} {open1 : List Bool} {c2 : GCover} {r : (List UInt8) × Bool}, g_ref_uncovered fu mode0 open1 c2 = some r → ACp Tryd.prog 18 [(AV.int mode0), ((fun q : List Bool => AV.lst (q.map AV.bool) q.length) open1), (.agg (GCover.cs c2))] (.tup [(AV.bytes r.1), (AV.bool r.2)])
 | 0, _, _, _, _, H => (by cases H)
 | fu + 1, _, _, _, _, H => g_ref_uncovered_ac0 (g_ref_uncovered_acN fu) H
theorem g_ref_uncovered_ac {mode0 : Int} {open1 : List Bool} {c2 : GCover} {r : (List UInt8) × Bool} (H : g_ref_uncovered 100000 mode0 open1 c2 = some r) : ACp Tryd.prog 18 [(AV.int mode0), ((fun q : List Bool => AV.lst (q.map AV.bool) q.length) open1), (.agg (GCover.cs c2))] (.tup [(AV.bytes r.1), (AV.bool r.2)]) := g_ref_uncovered_acN 100000 H

/-! chirographref.Rooted -/
def g_ref_Rooted_r5 : List (List (Nat × Option Nat)) := [[(5, none)], [(16, some 0)], [(17, some 1)], [(1, none)], [(19, some 3)], [(18, some 2), (20, some 4)], [(21, some 5)], [(5, none), (22, some 6)], [(22, some 6), (23, some 7)], [(22, some 6), (24, some 8)], [(1, none), (22, some 6)], [(22, some 6), (26, some 10)]]
def g_ref_Rooted_r5c : List (List Nat) := [[], [0], [0, 1], [], [3], [0, 1, 2, 3, 4], [0, 1, 2, 3, 4, 5], [0, 1, 2, 3, 4, 5, 6], [0, 1, 2, 3, 4, 5, 6, 7], [0, 1, 2, 3, 4, 5, 6, 7, 8], [0, 1, 2, 3, 4, 5, 6], [0, 1, 2, 3, 4, 5, 6, 10], [0, 1, 2, 3, 4, 5, 6, 7, 8, 9, 10, 11], [0, 1, 2, 3, 4, 5, 6, 7, 8, 9, 10, 11, 12]]
noncomputable def g_ref_Rooted (mode0 : Int) (open1 : List Bool) (c2 : GCover) : Option ((List UInt8) × Int) :=
  (g_ref_badMode mode0).bind fun r'1 => (if r'1 = true then some ([], (2 : Int)) else (g_ref_whole (open1.length : Int)).bind fun r'2 => (if (!r'2) = true then some ([], (1 : Int)) else ((g_ref_count open1).bind fun r'3 => (if (c2.Open.length : Int) ≠ r'3 then some true else (g_ref_rests 100000 open1).bind fun r'4 => some (decide ((c2.Rest.length : Int) ≠ r'4)))).bind fun g'5 => (if g'5 = true then some ([], (10 : Int)) else (g_ref_uncovered 100000 mode0 open1 c2).bind fun r'6 => (if (!r'6.2) = true then some ([], (10 : Int)) else some (r'6.1, (0 : Int))))))
set_option maxHeartbeats 4000000 in
set_option maxRecDepth 100000 in
theorem g_ref_Rooted_ac {mode0 : Int} {open1 : List Bool} {c2 : GCover} {r : (List UInt8) × Int} (H : g_ref_Rooted mode0 open1 c2 = some r) : ACp Tryd.prog 6 [(AV.int mode0), ((fun q : List Bool => AV.lst (q.map AV.bool) q.length) open1), (.agg (GCover.cs c2))] (.tup [(AV.bytes r.1), (AV.int r.2)]) := by
 refine ACp_of (AC2_of_body (vs := [.y r.1, .i r.2]) Tryd.func6 Y Y (Nat.le_of_ble_eq_true Y) Y ?_) (fun _ => .same _)
 unfold g_ref_Rooted at H
 refine as2 [(0, .i mode0), (1, .p ((fun q : List Bool => AV.lst (q.map AV.bool) q.length) open1)), (2, .g (GCover.cs c2))] [] Y Y Y ?_
 refine sg [0, 1, 2] Y ?_
 refine r_op Y Y (MakeD.opD (n_box 5 Y Y) Y Y Y Y) ?_
 refine rp Y Y (p_asgn Y) ?_
 refine rp Y Y (p_asg Y Y) ?_
 refine rz [(0, .i mode0), (1, .p ((fun q : List Bool => AV.lst (q.map AV.bool) q.length) open1)), (5, .q 5 (0))] [(5, .pure (GCover.cs c2))] Y Y Y ?_
 refine AW2_seq ?_
 refine sg [0, 1] Y ?_
 refine rp Y Y (p_move Y Y) ?_
 refine bindK H fun r'1 h1 H => ?_
 refine rp Y Y (p_callp Y Y Y Tryd.func14 Y Y (g_ref_badMode_ac h1) ⟨Y, trivial⟩) ?_
 refine rz [(0, .i mode0), (1, .p ((fun q : List Bool => AV.lst (q.map AV.bool) q.length) open1)), (5, .q 5 (0)), (11, .b r'1)] [(5, .pure (GCover.cs c2))] Y Y Y ?_
 refine AW2_cond Y (fun h2 => ?_) (fun h2 => ?_)
 ·replace H := ite_then h2 H
  refine sg [0, 1] Y ?_
  refine rp Y Y (p_asgn Y) ?_
  refine rp Y Y (p_asg Y Y) ?_
  refine rz [(6, .p .nil), (7, .i (2 : Int))] [] Y Y Y ?_
  refine AW2_ret ?_
  have hz := some_elim H
  subst hz
  exact ⟨⟨res_tmp TLes.nil0, res_tmp (.same _), trivial⟩, trivial⟩
 ·replace H := ite_else (ne_true h2) H
  refine as2 [(0, .i mode0), (1, .p ((fun q : List Bool => AV.lst (q.map AV.bool) q.length) open1)), (5, .q 5 (0))] [(5, .pure (GCover.cs c2))] Y Y Y ?_
  refine AW2_skip ?_
  refine AW2_seq ?_
  refine sg [0, 1, 2, 3] Y ?_
  refine rp Y Y (p_move Y Y) ?_
  refine rp Y Y (p_lenl Y Tryd.underlying22 Y Y) ?_
  refine bindK H fun r'2 h3 H => ?_
  refine rp Y Y (p_callp Y Y Y Tryd.func15 Y Y (g_ref_whole_ac h3) ⟨Y, trivial⟩) ?_
  refine rp Y Y (p_not Y Y) ?_
  refine rz [(0, .i mode0), (1, .p ((fun q : List Bool => AV.lst (q.map AV.bool) q.length) open1)), (5, .q 5 (0)), (15, .b (!r'2))] [(5, .pure (GCover.cs c2))] Y Y Y ?_
  refine AW2_cond Y (fun h4 => ?_) (fun h4 => ?_)
  ·replace H := ite_then h4 H
   refine sg [0, 1] Y ?_
   refine rp Y Y (p_asgn Y) ?_
   refine rp Y Y (p_asg Y Y) ?_
   refine rz [(6, .p .nil), (7, .i (1 : Int))] [] Y Y Y ?_
   refine AW2_ret ?_
   have hz := some_elim H
   subst hz
   exact ⟨⟨res_tmp TLes.nil0, res_tmp (.same _), trivial⟩, trivial⟩
  ·replace H := ite_else (ne_true h4) H
   refine as2 [(0, .i mode0), (1, .p ((fun q : List Bool => AV.lst (q.map AV.bool) q.length) open1)), (5, .q 5 (0))] [(5, .pure (GCover.cs c2))] Y Y Y ?_
   refine AW2_skip ?_
   refine AW2_seq ?_
   refine AW2_seq ?_
   refine bindK H fun g'5 h8 H => ?_
   refine AW2_mid (⟨[(0, .i mode0), (1, .p ((fun q : List Bool => AV.lst (q.map AV.bool) q.length) open1)), (5, .q 5 (0)), (29, .b g'5)], [(5, .pure (GCover.cs c2))], 40⟩ : TS) ?_ ?_
   ·clear H
    have H := h8
    clear h8
    refine bindK H fun r'3 h5 H => ?_
    refine (Classical.em ((c2.Open.length : Int) ≠ r'3)).elim (fun h6 => ?_) (fun h6 => ?_)
    ·replace H := ite_then h6 H
     have hz := some_elim H
     subst hz
     refine AW2_ghoQ ?_
     refine AW2_draw 12 [12, 13] (fun k => ([.q 5 (0 + 0), .p ((fun q : List GSlot => AV.lst (q.flatMap GSlot.cs) q.length) c2.Open), .i (c2.Open.length : Int), .p ((fun q : List Bool => AV.lst (q.map AV.bool) q.length) open1), .i r'3, .b (decide ((c2.Open.length : Int) ≠ r'3)), .b (decide ((c2.Open.length : Int) ≠ r'3)), .p (.tup []), .p (.tup []), .p (.tup []), .p (.tup []), .p (.tup [])] : List TV).getD k TV.any) (fun k => g_ref_Rooted_r5.getD k []) [(0, none), (1, none), (5, none), (22, some 6), (25, some 9), (27, some 11)] [] (fun k => g_ref_Rooted_r5c.getD k []) mixed (by kernel_rfl) Y Y (a_op (g_x Y (x_p Y (u_fa Y Y Tryd.underlying26 Y in_23 nz Y Y (nl (GCover.len c2))) Y)) (a_op (g_x Y (x_p Y (u_ld Y Y Tryd.underlying23 Y Y ((Sub.refl _).trans (GCover.sub0 c2))) Y)) (a_op (g_x Y (x_p Y (p_lenl Y Tryd.underlying23 Y Y) Y)) (a_op (g_x Y (x_p Y (p_move Y Y) Y)) (a_op (g_x Y (x_p Y (p_callp Y Y Y Tryd.func16 Y Y (g_ref_count_ac h5) ⟨Y, trivial⟩) Y)) (a_op (g_x Y (x_p Y (p_ine Y Y Y) Y)) (a_op (g_x Y (x_p Y (p_move Y Y) Y)) (a_op (g_off Y Y Y Y Y (dT h6) Y Y) (a_op (g_off Y Y Y Y Y (dT h6) Y Y) (a_op (g_off Y Y Y Y Y (dT h6) Y Y) (a_op (g_off Y Y Y Y Y (dT h6) Y Y) (a_op (g_off Y Y Y Y Y (dT h6) Y Y) (a_nil))))))))))))) ?_
     refine t_off Y Y Y Y (dT h6) Y Y ?_
     refine t_op Y Y (PureD.opD (p_pkt Y Y (dT h6) (.same _))) ?_
     refine t_gho (Gho_st (L := [(0, .i mode0), (1, .p ((fun q : List Bool => AV.lst (q.map AV.bool) q.length) open1)), (5, .q 5 (0)), (29, .b true)]) (H := [(5, .pure (GCover.cs c2))]) (N := 40) Y ⟨TLes.same _, TLes.same _, TLes.same _, TLes.same _, trivial⟩ ⟨Y, trivial⟩) ?_
     exact rfl
    ·replace H := ite_else h6 H
     refine bindK H fun r'4 h7 H => ?_
     have hz := some_elim H
     subst hz
     refine AW2_ghoQ ?_
     refine AW2_draw 12 [12, 13] (fun k => ([.q 5 (0 + 0), .p ((fun q : List GSlot => AV.lst (q.flatMap GSlot.cs) q.length) c2.Open), .i (c2.Open.length : Int), .p ((fun q : List Bool => AV.lst (q.map AV.bool) q.length) open1), .i r'3, .b (decide ((c2.Open.length : Int) ≠ r'3)), .b (decide ((c2.Open.length : Int) ≠ r'3)), .q 5 (0 + 1), .p (AV.lists c2.Rest), .i (c2.Rest.length : Int), .p ((fun q : List Bool => AV.lst (q.map AV.bool) q.length) open1), .i r'4] : List TV).getD k TV.any) (fun k => g_ref_Rooted_r5.getD k []) [(0, none), (1, none), (5, none), (22, some 6), (25, some 9), (27, some 11)] [] (fun k => g_ref_Rooted_r5c.getD k []) mixed (by kernel_rfl) Y Y (a_op (g_x Y (x_p Y (u_fa Y Y Tryd.underlying26 Y in_23 nz Y Y (nl (GCover.len c2))) Y)) (a_op (g_x Y (x_p Y (u_ld Y Y Tryd.underlying23 Y Y ((Sub.refl _).trans (GCover.sub0 c2))) Y)) (a_op (g_x Y (x_p Y (p_lenl Y Tryd.underlying23 Y Y) Y)) (a_op (g_x Y (x_p Y (p_move Y Y) Y)) (a_op (g_x Y (x_p Y (p_callp Y Y Y Tryd.func16 Y Y (g_ref_count_ac h5) ⟨Y, trivial⟩) Y)) (a_op (g_x Y (x_p Y (p_ine Y Y Y) Y)) (a_op (g_x Y (x_p Y (p_move Y Y) Y)) (a_op (g_on Y Y Y (dF h6) Y (x_p Y (u_fa Y Y Tryd.underlying26 Y in_24 nz Y Y (nl (GCover.len c2))) Y)) (a_op (g_on Y Y Y (dF h6) Y (x_p Y (u_ld Y Y Tryd.underlying24 Y Y ((Sub.refl _).trans (GCover.sub1 c2))) Y)) (a_op (g_on Y Y Y (dF h6) Y (x_p Y (p_lenl Y Tryd.underlying24 Y Y) Y)) (a_op (g_on Y Y Y (dF h6) Y (x_p Y (p_move Y Y) Y)) (a_op (g_on Y Y Y (dF h6) Y (x_p Y (p_callp Y Y Y Tryd.func17 Y Y (g_ref_rests_ac h7) ⟨Y, trivial⟩) Y)) (a_nil))))))))))))) ?_
     refine t_on Y Y Y Y (dF h6) Y (PureD.opD (p_ine Y Y Y)) ?_
     refine t_op Y Y (PureD.opD (p_pkf Y Y (dF h6) (.same _))) ?_
     refine t_gho (Gho_st (L := [(0, .i mode0), (1, .p ((fun q : List Bool => AV.lst (q.map AV.bool) q.length) open1)), (5, .q 5 (0)), (29, .b (decide ((c2.Rest.length : Int) ≠ r'4)))]) (H := [(5, .pure (GCover.cs c2))]) (N := 40) Y ⟨TLes.same _, TLes.same _, TLes.same _, TLes.same _, trivial⟩ ⟨Y, trivial⟩) ?_
     exact rfl
   ·refine AW2_cond Y (fun h9 => ?_) (fun h9 => ?_)
    ·replace H := ite_then h9 H
     refine sg [0, 1] Y ?_
     refine rp Y Y (p_asgn Y) ?_
     refine rp Y Y (p_asg Y Y) ?_
     refine rz [(6, .p .nil), (7, .i (10 : Int))] [] Y Y Y ?_
     refine AW2_ret ?_
     have hz := some_elim H
     subst hz
     exact ⟨⟨res_tmp TLes.nil0, res_tmp (.same _), trivial⟩, trivial⟩
    ·replace H := ite_else (ne_true h9) H
     refine as2 [(0, .i mode0), (1, .p ((fun q : List Bool => AV.lst (q.map AV.bool) q.length) open1)), (5, .q 5 (0))] [(5, .pure (GCover.cs c2))] Y Y Y ?_
     refine AW2_skip ?_
     refine sg [0, 1, 2, 3, 4, 5, 6, 7, 8] Y ?_
     refine rp Y Y (p_move Y Y) ?_
     refine rp Y Y (p_move Y Y) ?_
     refine rp Y Y (u_lda Y Y Tryd.underlying26 Y in_26 Y (Nat.succ_pos _) (Sub.refl _) (GCover.len c2)) ?_
     refine bindK H fun r'6 h10 H => ?_
     refine rp Y Y (p_callp Y Y Y Tryd.func18 Y Y (g_ref_uncovered_ac h10) ⟨Y, Y, Y, trivial⟩) ?_
     refine rp Y Y (p_move Y Y) ?_
     refine rp Y Y (p_ext Y Y Y Y) ?_
     refine rp Y Y (p_ext Y Y Y Y) ?_
     refine rp Y Y (p_asg Y Y) ?_
     refine rp Y Y (p_asg Y Y) ?_
     refine rz [(8, .y r'6.1), (9, .b r'6.2)] [] Y Y Y ?_
     refine AW2_seq ?_
     refine sg [0, 1] Y ?_
     refine rp Y Y (p_move Y Y) ?_
     refine rp Y Y (p_not Y Y) ?_
     refine rz [(8, .y r'6.1), (38, .b (!r'6.2))] [] Y Y Y ?_
     refine AW2_cond Y (fun h11 => ?_) (fun h11 => ?_)
     ·replace H := ite_then h11 H
      refine sg [0, 1] Y ?_
      refine rp Y Y (p_asgn Y) ?_
      refine rp Y Y (p_asg Y Y) ?_
      refine rz [(6, .p .nil), (7, .i (10 : Int))] [] Y Y Y ?_
      refine AW2_ret ?_
      have hz := some_elim H
      subst hz
      exact ⟨⟨res_tmp TLes.nil0, res_tmp (.same _), trivial⟩, trivial⟩
     ·replace H := ite_else (ne_true h11) H
      refine as2 [(8, .y r'6.1)] [] Y Y Y ?_
      refine AW2_skip ?_
      refine sg [0, 1, 2] Y ?_
      refine rp Y Y (p_move Y Y) ?_
      refine rp Y Y (p_asg Y Y) ?_
      refine rp Y Y (p_asg Y Y) ?_
      refine rz [(6, .y r'6.1), (7, .i (0 : Int))] [] Y Y Y ?_
      refine AW2_ret ?_
      have hz := some_elim H
      subst hz
      exact ⟨⟨res_tmp (.same _), res_tmp (.same _), trivial⟩, trivial⟩

/-! chirographlaw.sameBytes -/
noncomputable def g_law_sameBytes (a0 : List UInt8) (b1 : List UInt8) : Option (Bool) :=
  some (decide (a0 = b1))
set_option maxHeartbeats 4000000 in
set_option maxRecDepth 100000 in
theorem g_law_sameBytes_ac {a0 : List UInt8} {b1 : List UInt8} {r : Bool} (H : g_law_sameBytes a0 b1 = some r) : ACp Tryd.prog 7 [(AV.bytes a0), (AV.bytes b1)] (AV.bool r) := by
 refine ACp_of (AC2_of_body (vs := [.b r]) Tryd.func7 Y Y (Nat.le_of_ble_eq_true Y) Y ?_) (fun _ => .same _)
 unfold g_law_sameBytes at H
 refine as2 [(0, .y a0), (1, .y b1)] [] Y Y Y ?_
 refine sg [0] Y ?_
 refine rp Y Y (p_asg Y Y) ?_
 refine rz [(0, .y a0), (1, .y b1)] [] Y Y Y ?_
 refine sg [0, 1, 2, 3, 4, 5] Y ?_
 refine rp Y Y (p_move Y Y) ?_
 refine rp Y Y (p_cb Y Y Tryd.underlying27 Tryd.underlying5 Tryd.underlying9 Y) ?_
 refine rp Y Y (p_move Y Y) ?_
 refine rp Y Y (p_cb Y Y Tryd.underlying27 Tryd.underlying5 Tryd.underlying9 Y) ?_
 refine rp Y Y (p_seq Y Y Y) ?_
 refine rp Y Y (p_asg Y Y) ?_
 refine rz [(4, .b (decide (a0 = b1)))] [] Y Y Y ?_
 refine AW2_ret ?_
 have hz := some_elim H
 subst hz
 exact ⟨⟨res_tmp (.same _), trivial⟩, trivial⟩

/-! chirographlaw.SlotsRooted -/
noncomputable def g_law_SlotsRooted (mode0 : Int) (open1 : List Bool) (c2 : GCover) : Option (Bool) :=
  (g_slots_Rooted mode0 open1 c2).bind fun r'1 => (g_ref_Rooted mode0 open1 c2).bind fun r'2 => ((if r'1.2 = r'2.2 then (g_law_sameBytes r'1.1 r'2.1).bind fun r'4 => some r'4 else some false)).bind fun g'5 => some g'5
set_option maxHeartbeats 4000000 in
set_option maxRecDepth 100000 in
theorem g_law_SlotsRooted_ac {mode0 : Int} {open1 : List Bool} {c2 : GCover} {r : Bool} (H : g_law_SlotsRooted mode0 open1 c2 = some r) : ACp Tryd.prog 3 [(AV.int mode0), ((fun q : List Bool => AV.lst (q.map AV.bool) q.length) open1), (.agg (GCover.cs c2))] (AV.bool r) := by
 refine ACp_of (AC2_of_body (vs := [.b r]) Tryd.func3 Y Y (Nat.le_of_ble_eq_true Y) Y ?_) (fun _ => .same _)
 unfold g_law_SlotsRooted at H
 refine as2 [(0, .i mode0), (1, .p ((fun q : List Bool => AV.lst (q.map AV.bool) q.length) open1)), (2, .g (GCover.cs c2))] [] Y Y Y ?_
 refine sg [0, 1] Y ?_
 refine r_op Y Y (MakeD.opD (n_box 5 Y Y) Y Y Y Y) ?_
 refine rp Y Y (p_asg Y Y) ?_
 refine rz [(0, .i mode0), (1, .p ((fun q : List Bool => AV.lst (q.map AV.bool) q.length) open1)), (5, .q 5 (0))] [(5, .pure (GCover.cs c2))] Y Y Y ?_
 refine sg [0, 1, 2, 3, 4, 5, 6, 7, 8] Y ?_
 refine rp Y Y (p_move Y Y) ?_
 refine rp Y Y (p_move Y Y) ?_
 refine rp Y Y (u_lda Y Y Tryd.underlying26 Y in_26 Y (Nat.succ_pos _) (Sub.refl _) (GCover.len c2)) ?_
 refine bindK H fun r'1 h1 H => ?_
 refine rp Y Y (p_callp Y Y Y Tryd.func5 Y Y (g_slots_Rooted_ac h1) ⟨Y, Y, Y, trivial⟩) ?_
 refine rp Y Y (p_move Y Y) ?_
 refine rp Y Y (p_ext Y Y Y Y) ?_
 refine rp Y Y (p_ext Y Y Y Y) ?_
 refine rp Y Y (p_asg Y Y) ?_
 refine rp Y Y (p_asg Y Y) ?_
 refine rz [(0, .i mode0), (1, .p ((fun q : List Bool => AV.lst (q.map AV.bool) q.length) open1)), (5, .q 5 (0)), (7, .y r'1.1), (8, .i r'1.2)] [(5, .pure (GCover.cs c2))] Y Y Y ?_
 refine sg [0, 1, 2, 3, 4, 5, 6, 7, 8] Y ?_
 refine rp Y Y (p_move Y Y) ?_
 refine rp Y Y (p_move Y Y) ?_
 refine rp Y Y (u_lda Y Y Tryd.underlying26 Y in_26 Y (Nat.succ_pos _) (Sub.refl _) (GCover.len c2)) ?_
 refine bindK H fun r'2 h2 H => ?_
 refine rp Y Y (p_callp Y Y Y Tryd.func6 Y Y (g_ref_Rooted_ac h2) ⟨Y, Y, Y, trivial⟩) ?_
 refine rp Y Y (p_move Y Y) ?_
 refine rp Y Y (p_ext Y Y Y Y) ?_
 refine rp Y Y (p_ext Y Y Y Y) ?_
 refine rp Y Y (p_asg Y Y) ?_
 refine rp Y Y (p_asg Y Y) ?_
 refine rz [(7, .y r'1.1), (8, .i r'1.2), (9, .y r'2.1), (10, .i r'2.2)] [] Y Y Y ?_
 refine AW2_seq ?_
 refine bindK H fun g'5 h6 H => ?_
 refine AW2_mid (⟨[(6, .b g'5)], [], 33⟩ : TS) ?_ ?_
 ·clear H
  have H := h6
  clear h6
  refine AW2_reg [0, 1, 2, 3, 4, 5, 6, 7, 8] Y ?_
  refine rp Y Y (p_move Y Y) ?_
  refine rp Y Y (p_move Y Y) ?_
  refine rp Y Y (p_ieq Y Y Y) ?_
  refine rp Y Y (p_move Y Y) ?_
  refine (Classical.em (r'1.2 = r'2.2)).elim (fun h4 => ?_) (fun h4 => ?_)
  ·replace H := ite_then h4 H
   refine r_on Y Y Y Y (dT h4) Y (PureD.opD (p_move Y Y)) ?_
   refine r_on Y Y Y Y (dT h4) Y (PureD.opD (p_move Y Y)) ?_
   refine bindK H fun r'4 h5 H => ?_
   refine r_on Y Y Y Y (dT h4) Y (PureD.opD (p_callp Y Y Y Tryd.func7 Y Y (g_law_sameBytes_ac h5) ⟨Y, Y, trivial⟩)) ?_
   refine rp Y Y (p_pkt Y Y (dT h4) (.same _)) ?_
   refine rp Y Y (p_asg Y Y) ?_
   refine rs [(6, .b r'4)] [] Y Y Y ?_
   have hz := some_elim H
   subst hz
   exact RunW_nil rfl
  ·replace H := ite_else h4 H
   refine r_off Y Y Y Y (dF h4) Y Y ?_
   refine r_off Y Y Y Y (dF h4) Y Y ?_
   refine r_off Y Y Y Y (dF h4) Y Y ?_
   refine rp Y Y (p_pkf Y Y (dF h4) (.same _)) ?_
   refine rp Y Y (p_asg Y Y) ?_
   refine rs [(6, .b false)] [] Y Y Y ?_
   have hz := some_elim H
   subst hz
   exact RunW_nil rfl
 ·refine AW2_ret ?_
  have hz := some_elim H
  subst hz
  exact ⟨⟨res_tmp (.same _), trivial⟩, trivial⟩
end Go.Proofs.YteilidpbnndnpaaDoor.VM
