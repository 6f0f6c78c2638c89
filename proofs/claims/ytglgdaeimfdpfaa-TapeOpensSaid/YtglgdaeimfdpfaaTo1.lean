/- Functions of the program, as they answer, and that their code comes to these answers. -/
import Derived.Test.YtglgdaeimfdpfaaTo0
namespace Go.Proofs.Ytglgdaeimfdpfaa.VM
open Go Go.RowKit

set_option maxRecDepth 100000 in
theorem ty_5 {d : Nat} {cs : List AV} (h : Typed Try.prog d 5 cs) : ∃ x : UInt8, cs = [(AV.b8 x)] ∧ okA x := match d, h with
  | 0, h => False.elim h
  | d + 1, h => ty_u8 Try.underlying5 h
set_option maxRecDepth 100000 in
theorem ty_32 {d : Nat} {cs : List AV} (h : Typed Try.prog d 32 cs) : ∃ x : Vector UInt8 32, cs = bcells x.toList ∧ (okV okA) x := match d, h with
  | 0, h => False.elim h
  | d + 1, h => ty_array (f := AV.b8) Try.underlying32 (fun _ hx => ty_5 hx) h
set_option maxRecDepth 100000 in
theorem ty_22 {d : Nat} {cs : List AV} (h : Typed Try.prog d 22 cs) : ∃ x : List (Vector UInt8 32), cs = [((fun q : List (Vector UInt8 32) => AV.lst (q.flatMap (fun v : Vector UInt8 32 => bcells v.toList)) q.length) x)] ∧ (okL 32 (okV okA)) x := match d, h with
  | 0, h => False.elim h
  | d + 1, h => ty_slicef (g := fun b : Vector UInt8 32 => bcells b.toList) Try.underlying22 (bytes_of in_32) (fun _ hx => ty_32 hx) h
set_option maxRecDepth 100000 in
theorem ty_3 {d : Nat} {cs : List AV} (h : Typed Try.prog d 3 cs) : ∃ x : Int, cs = [(AV.int x)] ∧ okI x := match d, h with
  | 0, h => False.elim h
  | d + 1, h => ty_int Try.underlying3 h
def GPut.ok (x : GPut) : Prop := okI x.At ∧ (okV okA) x.Data
set_option maxRecDepth 100000 in
theorem ty_70 {d : Nat} {cs : List AV} (h : Typed Try.prog d 70 cs) : ∃ x : GPut, cs = GPut.cs x ∧ GPut.ok x := match d, h with
  | 0, h => False.elim h
  | d + 1, h => by
    obtain ⟨es, rfl, hl, hf⟩ := ty_struct Try.underlying70 h
    match es, hl, hf with
    | [e0, e1], _, hf =>
    obtain ⟨x0, h0, q0⟩ := ty_3 (hf 0 _ e0 rfl rfl)
    obtain ⟨x1, h1, q1⟩ := ty_32 (hf 1 _ e1 rfl rfl)
    refine ⟨⟨x0, x1⟩, ?_, ⟨q0, q1⟩⟩
    rw [h0, h1]
    simp only [List.flatten_cons, List.flatten_nil, List.append_nil, GPut.cs]
set_option maxRecDepth 100000 in
theorem ty_23 {d : Nat} {cs : List AV} (h : Typed Try.prog d 23 cs) : ∃ x : List GPut, cs = [((fun q : List GPut => AV.lst (q.flatMap GPut.cs) q.length) x)] ∧ (okL 40 GPut.ok) x := match d, h with
  | 0, h => False.elim h
  | d + 1, h => ty_slicef (g := fun b : GPut => GPut.cs b) Try.underlying23 (bytes_of in_70) (fun _ hx => ty_70 hx) h
def GDisk.ok (x : GDisk) : Prop := (okL 32 (okV okA)) x.Lasts ∧ (okL 40 GPut.ok) x.Writes
set_option maxRecDepth 100000 in
theorem ty_25 {d : Nat} {cs : List AV} (h : Typed Try.prog d 25 cs) : ∃ x : GDisk, cs = GDisk.cs x ∧ GDisk.ok x := match d, h with
  | 0, h => False.elim h
  | d + 1, h => by
    obtain ⟨es, rfl, hl, hf⟩ := ty_struct Try.underlying25 h
    match es, hl, hf with
    | [e0, e1], _, hf =>
    obtain ⟨x0, h0, q0⟩ := ty_22 (hf 0 _ e0 rfl rfl)
    obtain ⟨x1, h1, q1⟩ := ty_23 (hf 1 _ e1 rfl rfl)
    refine ⟨⟨x0, x1⟩, ?_, ⟨q0, q1⟩⟩
    rw [h0, h1]
    simp only [List.flatten_cons, List.flatten_nil, List.append_nil, GDisk.cs]

/-! chirographref.Checked -/
noncomputable def g_ref_Checked_l1 (b0 : List UInt8) (t10_0 : Int) : UInt32 × Int → Option ((UInt32 × Int) ⊕ (UInt32))
  | (left3_1, i6_1) => (if i6_1 < (8 : Int) then if 0 ≤ i6_1 then letO ((left3_1 ^^^ (shr_u32 ((lrd b0 t10_0.toNat).toUInt32) i6_1.toNat)) &&& (1 : UInt32)) fun odd7'1 => some (.inl ((shr_u32 left3_1 1) ^^^ (odd7'1 * (2197175160 : UInt32)), w64 (i6_1 + (1 : Int)))) else none else some (.inr left3_1))
noncomputable def g_ref_Checked_l0 (b0 : List UInt8) : UInt32 × Int → Option ((UInt32 × Int) ⊕ (UInt32))
  | (left3_0, t10_0) => (if t10_0 < (b0.length : Int) then if 0 ≤ t10_0 ∧ t10_0 < (b0.length : Int) then (loopO (g_ref_Checked_l1 b0 t10_0) (left3_0, (0 : Int))).bind fun y'5 => some (.inl (y'5, w64 (t10_0 + (1 : Int)))) else none else some (.inr left3_0))
noncomputable def g_ref_Checked (b0 : List UInt8) : Option (UInt32) :=
  (loopO (g_ref_Checked_l0 b0) ((4294967295 : UInt32), (0 : Int))).bind fun y'9 => some (y'9 ^^^ (4294967295 : UInt32))
set_option maxHeartbeats 4000000 in
set_option maxRecDepth 100000 in
theorem g_ref_Checked_ac {b0 : List UInt8} {r : UInt32} (H : g_ref_Checked b0 = some r) : ACp Try.prog 48 [(AV.bytes b0)] (AV.u32 r) := by
 refine ACp_of (AC2_of_body (vs := [.p (AV.u32 r)]) Try.func48 Y Y (Nat.le_of_ble_eq_true Y) Y ?_) (fun _ => .same _)
 unfold g_ref_Checked at H
 refine as2 [(0, .y b0)] [] Y Y Y ?_
 refine sg [0] Y ?_
 refine rp Y Y (p_asg Y Y) ?_
 refine rz [(0, .y b0)] [] Y Y Y ?_
 refine sg [0] Y ?_
 refine rp Y Y (p_asg Y Y) ?_
 refine rz [(0, .y b0), (3, .p (AV.u32 (4294967295 : UInt32)))] [] Y Y Y ?_
 refine AW2_seq ?_
 refine sg [0, 1, 2] Y ?_
 refine rp Y Y (p_move Y Y) ?_
 refine rp Y Y (p_lenl Y Try.underlying45 Y Y) ?_
 refine rp Y Y (p_move Y Y) ?_
 refine rz [(3, .p (AV.u32 (4294967295 : UInt32))), (8, .y b0), (9, .i (b0.length : Int)), (10, .i (0 : Int))] [] Y Y Y ?_
 refine AW2_block ?_
 refine as2 [(3, .p (AV.u32 (4294967295 : UInt32))), (8, .y b0), (9, .i (b0.length : Int)), (10, .i (0 : Int))] [] Y Y Y ?_
 refine bindK H fun y'9 h6 H => ?_
 refine AW2_loopO (fun a'6 : UInt32 × Int => (⟨[(3, .p (AV.u32 a'6.1)), (8, .y b0), (9, .i (b0.length : Int)), (10, .i a'6.2)], [], 33⟩ : TS)) (fun (y'7 : UInt32) e s' => e = Go.Exit.exit 0 ∧ s' = (⟨[(3, .p (AV.u32 y'7))], [], 33⟩ : TS)) h6 Y (fun a x hx => ?_) (fun e s' hs => ?_)
 ·clear H
  obtain ⟨left3_0, t10_0⟩ := a
  have H := hx
  clear hx
  unfold g_ref_Checked_l0 at H
  refine sg [0] Y ?_
  refine rp Y Y (p_bin Y Y Y Y) ?_
  refine rz [(3, .p (AV.u32 left3_0)), (8, .y b0), (9, .i (b0.length : Int)), (10, .i t10_0), (11, .b (decide (t10_0 < (b0.length : Int))))] [] Y Y Y ?_
  refine AW2_seq ?_
  refine AW2_if (p := t10_0 < (b0.length : Int)) Y (fun h1 => ?_) (fun h1 => ?_)
  ·replace H := ite_then h1 H
   refine as2 [(3, .p (AV.u32 left3_0)), (8, .y b0), (9, .i (b0.length : Int)), (10, .i t10_0)] [] Y Y Y ?_
   refine AW2_skip ?_
   refine AW2_seq ?_
   refine AW2_block ?_
   refine sg [0, 1, 2] Y ?_
   refine chkK H fun h2 H => ?_
   refine rp Y Y (u_ixl Y Y Try.underlying45 in_5 Y Y (ixe h2) (ixn h2) (lne (ixn h2))) ?_
   refine rp Y Y (u_ld Y Y Try.underlying5 Y Y (Sub.map default (ixn h2))) ?_
   refine rp Y Y (p_asg Y Y) ?_
   refine rz [(3, .p (AV.u32 left3_0)), (5, .p (AV.b8 (lrd b0 t10_0.toNat))), (8, .y b0), (9, .i (b0.length : Int)), (10, .i t10_0)] [] Y Y Y ?_
   refine sg [0] Y ?_
   refine rp Y Y (p_asg Y Y) ?_
   refine rz [(3, .p (AV.u32 left3_0)), (5, .p (AV.b8 (lrd b0 t10_0.toNat))), (6, .i (0 : Int)), (8, .y b0), (9, .i (b0.length : Int)), (10, .i t10_0)] [] Y Y Y ?_
   refine AW2_block ?_
   refine as2 [(3, .p (AV.u32 left3_0)), (5, .p (AV.b8 (lrd b0 t10_0.toNat))), (6, .i (0 : Int)), (8, .y b0), (9, .i (b0.length : Int)), (10, .i t10_0)] [] Y Y Y ?_
   refine bindK H fun y'5 h5 H => ?_
   refine AW2_loopO (fun a'2 : UInt32 × Int => (⟨[(3, .p (AV.u32 a'2.1)), (5, .p (AV.b8 (lrd b0 t10_0.toNat))), (6, .i a'2.2), (8, .y b0), (9, .i (b0.length : Int)), (10, .i t10_0)], [], 33⟩ : TS)) (fun (y'3 : UInt32) e s' => e = Go.Exit.exit 2 ∧ s' = (⟨[(3, .p (AV.u32 y'3)), (8, .y b0), (9, .i (b0.length : Int)), (10, .i t10_0)], [], 33⟩ : TS)) h5 Y (fun a x hx => ?_) (fun e s' hs => ?_)
   ·clear H
    obtain ⟨left3_1, i6_1⟩ := a
    have H := hx
    clear hx
    unfold g_ref_Checked_l1 at H
    refine AW2_seq ?_
    refine sg [0, 1] Y ?_
    refine rp Y Y (p_move Y Y) ?_
    refine rp Y Y (p_bin Y Y Y Y) ?_
    refine rz [(3, .p (AV.u32 left3_1)), (5, .p (AV.b8 (lrd b0 t10_0.toNat))), (6, .i i6_1), (8, .y b0), (9, .i (b0.length : Int)), (10, .i t10_0), (15, .b (decide (i6_1 < (8 : Int))))] [] Y Y Y ?_
    refine AW2_if (p := i6_1 < (8 : Int)) Y (fun h3 => ?_) (fun h3 => ?_)
    ·replace H := ite_then h3 H
     refine as2 [(3, .p (AV.u32 left3_1)), (5, .p (AV.b8 (lrd b0 t10_0.toNat))), (6, .i i6_1), (8, .y b0), (9, .i (b0.length : Int)), (10, .i t10_0)] [] Y Y Y ?_
     refine AW2_skip ?_
     refine AW2_seq ?_
     refine AW2_block ?_
     refine sg [0, 1, 2, 3, 4, 5, 6, 7] Y ?_
     refine rp Y Y (p_move Y Y) ?_
     refine rp Y Y (p_move Y Y) ?_
     refine rp Y Y (p_u8_u32 (a := (lrd b0 t10_0.toNat)) Y Try.underlying5 Try.underlying78 Y) ?_
     refine rp Y Y (p_move Y Y) ?_
     refine chkK H fun h4 H => ?_
     refine rp Y Y (p_u32shr (n := i6_1.toNat) Y Y Y (Int.toNat_of_nonneg h4).symm) ?_
     refine rp Y Y (p_u32xor (a := left3_1) (b := shr_u32 ((lrd b0 t10_0.toNat).toUInt32) i6_1.toNat) Y Y Y) ?_
     refine rp Y Y (p_u32and (a := left3_1 ^^^ (shr_u32 ((lrd b0 t10_0.toNat).toUInt32) i6_1.toNat)) (b := (1 : UInt32)) Y Y Y) ?_
     refine rp Y Y (p_asg Y Y) ?_
     refine rz [(3, .p (AV.u32 left3_1)), (5, .p (AV.b8 (lrd b0 t10_0.toNat))), (6, .i i6_1), (7, .p (AV.u32 ((left3_1 ^^^ (shr_u32 ((lrd b0 t10_0.toNat).toUInt32) i6_1.toNat)) &&& (1 : UInt32)))), (8, .y b0), (9, .i (b0.length : Int)), (10, .i t10_0)] [] Y Y Y ?_
     refine gen1 (fun odd7'1 => (⟨[(3, .p (AV.u32 left3_1)), (5, .p (AV.b8 (lrd b0 t10_0.toNat))), (6, .i i6_1), (7, .p (AV.u32 odd7'1)), (8, .y b0), (9, .i (b0.length : Int)), (10, .i t10_0)], [], 33⟩ : TS)) H ?_
     intro odd7'1 H
     refine AW2_reg [0, 1, 2, 3, 4, 5] Y ?_
     refine rp Y Y (p_move Y Y) ?_
     refine rp Y Y (p_u32shr (n := 1) Y Y Y Y) ?_
     refine rp Y Y (p_move Y Y) ?_
     refine rp Y Y (p_u32mul (a := odd7'1) (b := (2197175160 : UInt32)) Y Y Y) ?_
     refine rp Y Y (p_u32xor (a := shr_u32 left3_1 1) (b := odd7'1 * (2197175160 : UInt32)) Y Y Y) ?_
     refine rp Y Y (p_asg Y Y) ?_
     refine rz [(3, .p (AV.u32 ((shr_u32 left3_1 1) ^^^ (odd7'1 * (2197175160 : UInt32))))), (5, .p (AV.b8 (lrd b0 t10_0.toNat))), (6, .i i6_1), (8, .y b0), (9, .i (b0.length : Int)), (10, .i t10_0)] [] Y Y Y ?_
     refine AW2_reg [0, 1, 2] Y ?_
     refine rp Y Y (p_move Y Y) ?_
     refine rp Y Y (p_bin Y Y Y Y) ?_
     refine rp Y Y (p_asg Y Y) ?_
     refine rz [(3, .p (AV.u32 ((shr_u32 left3_1 1) ^^^ (odd7'1 * (2197175160 : UInt32))))), (5, .p (AV.b8 (lrd b0 t10_0.toNat))), (6, .i (w64 (i6_1 + (1 : Int)))), (8, .y b0), (9, .i (b0.length : Int)), (10, .i t10_0)] [] Y Y Y ?_
     have hz := some_elim H
     subst hz
     exact ⟨Y, Y⟩
    ·replace H := ite_else h3 H
     refine as2 [(3, .p (AV.u32 left3_1)), (8, .y b0), (9, .i (b0.length : Int)), (10, .i t10_0)] [] Y Y Y ?_
     refine AW2_exit ?_
     refine thenQ2_exit ?_
     have hz := some_elim H
     subst hz
     exact ⟨Y, Y⟩
   ·obtain ⟨rfl, rfl⟩ := hs
    refine ⟨by simp, ?_⟩
    refine blockQ2_exit ?_
    refine AW2_reg [0, 1] Y ?_
    refine rp Y Y (p_bin Y Y Y Y) ?_
    refine rp Y Y (p_move Y Y) ?_
    refine rz [(3, .p (AV.u32 y'5)), (8, .y b0), (9, .i (b0.length : Int)), (10, .i (w64 (t10_0 + (1 : Int))))] [] Y Y Y ?_
    have hz := some_elim H
    subst hz
    exact ⟨Y, Y⟩
  ·replace H := ite_else h1 H
   refine as2 [(3, .p (AV.u32 left3_0))] [] Y Y Y ?_
   refine AW2_exit ?_
   refine thenQ2_exit ?_
   have hz := some_elim H
   subst hz
   exact ⟨Y, Y⟩
 ·obtain ⟨rfl, rfl⟩ := hs
  refine ⟨by simp, ?_⟩
  refine blockQ2_exit ?_
  refine sg [0, 1, 2] Y ?_
  refine rp Y Y (p_move Y Y) ?_
  refine rp Y Y (p_u32xor (a := y'9) (b := (4294967295 : UInt32)) Y Y Y) ?_
  refine rp Y Y (p_asg Y Y) ?_
  refine rz [(2, .p (AV.u32 (y'9 ^^^ (4294967295 : UInt32))))] [] Y Y Y ?_
  refine AW2_ret ?_
  have hz := some_elim H
  subst hz
  exact ⟨⟨res_tmp (.same _), trivial⟩, trivial⟩

/-! chirographref.recordText -/
def g_ref_recordText_r1 : List (List (Nat × Option Nat)) := [[(0, none)], [(3, some 0)], [(4, some 1)], [(5, some 2)], [(0, none)], [(7, some 4)], [(8, some 5)], [(9, some 6)], [(6, some 3), (10, some 7)], [(0, none)], [(12, some 9)]]
def g_ref_recordText_r1c : List (List Nat) := [[], [0], [0, 1], [0, 1, 2], [], [0, 1, 2, 3, 4], [0, 1, 2, 3, 4, 5], [0, 1, 2, 3, 4, 5, 6], [0, 1, 2, 3, 4, 5, 6, 7], [], [9], [0, 1, 2, 3, 4, 5, 6, 7, 8, 9, 10], [0, 1, 2, 3, 4, 5, 6, 7, 8, 9, 10, 11]]
noncomputable def g_ref_recordText (r0 : List UInt8) : Option ((List UInt8)) :=
  (g_ref_big (UInt64.ofInt (r0.length : Int)) (2 : Int)).bind fun r'1 => (g_ref_Checked r0).bind fun r'2 => (g_ref_big r'2.toUInt64 (4 : Int)).bind fun r'3 => if r'1.length + r'3.length ≤ 9223372036854775807 then if (r'1 ++ r'3).length + r0.length ≤ 9223372036854775807 then some ((r'1 ++ r'3) ++ r0) else none else none
set_option maxHeartbeats 4000000 in
set_option maxRecDepth 100000 in
theorem g_ref_recordText_ac {r0 : List UInt8} {r : (List UInt8)} (H : g_ref_recordText r0 = some r) : ACp Try.prog 39 [(AV.bytes r0)] (AV.txt r) := by
 refine ACp_of (AC2_of_body (vs := [.t r]) Try.func39 Y Y (Nat.le_of_ble_eq_true Y) Y ?_) (fun _ => .same _)
 unfold g_ref_recordText at H
 refine as2 [(0, .y r0)] [] Y Y Y ?_
 refine sg [0] Y ?_
 refine rp Y Y (p_asg Y Y) ?_
 refine rz [(0, .y r0)] [] Y Y Y ?_
 refine AW2_seq ?_
 refine bindK H fun r'1 h1 H => ?_
 refine bindK H fun r'2 h2 H => ?_
 refine bindK H fun r'3 h3 H => ?_
 refine chkK H fun h4 H => ?_
 refine chkK H fun h5 H => ?_
 refine AW2_ghoQ ?_
 refine AW2_draw 11 [11, 12] (fun k => ([.y r0, .i (r0.length : Int), .p (AV.u64 (UInt64.ofInt (r0.length : Int))), .t r'1, .y r0, .p (AV.u32 r'2), .p (AV.u64 r'2.toUInt64), .t r'3, .t (r'1 ++ r'3), .y r0, .t r0] : List TV).getD k TV.any) (fun k => g_ref_recordText_r1.getD k []) [(11, some 8), (13, some 10)] [] (fun k => g_ref_recordText_r1c.getD k []) mixed (by kernel_rfl) Y Y (a_op (g_x Y (x_p Y (p_move Y Y) Y)) (a_op (g_x Y (x_p Y (p_lenl Y Try.underlying45 Y Y) Y)) (a_op (g_x Y (x_p Y (p_i_u64 Y Try.underlying3 Try.underlying82 Y) Y)) (a_op (g_x Y (x_p Y (p_callp Y Y Y Try.func43 Y Y (g_ref_big_ac h1) ⟨Y, Y, trivial⟩) Y)) (a_op (g_x Y (x_p Y (p_move Y Y) Y)) (a_op (g_x Y (x_p Y (p_callp Y Y Y Try.func48 Y Y (g_ref_Checked_ac h2) ⟨Y, trivial⟩) Y)) (a_op (g_x Y (x_p Y (p_u32_u64 (a := r'2) Y Try.underlying78 Try.underlying82 Y) Y)) (a_op (g_x Y (x_p Y (p_callp Y Y Y Try.func43 Y Y (g_ref_big_ac h3) ⟨Y, Y, trivial⟩) Y)) (a_op (g_x Y (x_p Y (p_cat Y Y Y h4) Y)) (a_op (g_x Y (x_p Y (p_move Y Y) Y)) (a_op (g_x Y (x_p Y (p_cb Y Y Try.underlying45 Try.underlying5 Try.underlying9 Y) Y)) (a_nil)))))))))))) ?_
 refine t_op Y Y (PureD.opD (p_cat Y Y Y h5)) ?_
 refine t_op Y Y (PureD.opD (p_asg Y Y)) ?_
 refine t_gho (Gho_st (L := [(2, .t ((r'1 ++ r'3) ++ r0))]) (H := []) (N := 15) Y ⟨TLes.same _, trivial⟩ trivial) ?_
 refine AW2_ret ?_
 have hz := some_elim H
 subst hz
 exact ⟨⟨res_tmp (.same _), trivial⟩, trivial⟩

/-! chirographref.RecordsOf -/
def g_ref_RecordsOf_r12 : List (List (Nat × Option Nat)) := [[(8, none)], [(44, some 0)], [(4, none)], [(7, none)], [(47, some 3)], [(46, some 2), (48, some 4)]]
def g_ref_RecordsOf_r12c : List (List Nat) := [[], [0], [], [], [3], [2, 3, 4], [0, 1, 2, 3, 4, 5]]
noncomputable def g_ref_RecordsOf_l0 : (List UInt8) × (List (List UInt8)) → Option (((List UInt8) × (List (List UInt8))) ⊕ (((List (List UInt8)) × Int) ⊕ ((List (List UInt8)))))
  | (s4_0, out6_0) => (if s4_0 ≠ [] then ((if (s4_0.length : Int) ≥ (2 : Int) then if 0 ≤ (2 : Int) ∧ (2 : Int) ≤ (s4_0.length : Int) then (g_ref_number (cut s4_0 (0 : Int) (2 : Int))).bind fun r'3 => some (w64 (r'3.toNat : Int)) else none else some (0 : Int))).bind fun j'2 => (if ((j'2 = (0 : Int)) ∨ (j'2 > (310 : Int))) ∨ ((s4_0.length : Int) < w64 ((6 : Int) + j'2)) then some (.inr (.inl (([] : List (List UInt8)), (11 : Int)))) else if 0 ≤ (6 : Int) ∧ (6 : Int) ≤ w64 ((6 : Int) + j'2) ∧ w64 ((6 : Int) + j'2) ≤ (s4_0.length : Int) then (g_ref_recordText (cut s4_0 (6 : Int) (w64 ((6 : Int) + j'2)))).bind fun r'4 => if 0 ≤ w64 ((6 : Int) + j'2) ∧ w64 ((6 : Int) + j'2) ≤ (s4_0.length : Int) then (if r'4 ≠ (cut s4_0 (0 : Int) (w64 ((6 : Int) + j'2))) then some (.inr (.inl (([] : List (List UInt8)), (11 : Int)))) else if room (out6_0.length + ([(cut s4_0 (6 : Int) (w64 ((6 : Int) + j'2)))] : List (List UInt8)).length) 24 then letO (out6_0 ++ ([(cut s4_0 (6 : Int) (w64 ((6 : Int) + j'2)))] : List (List UInt8))) fun out6'5 => if 0 ≤ w64 ((6 : Int) + j'2) ∧ w64 ((6 : Int) + j'2) ≤ (s4_0.length : Int) then some (.inl ((cut s4_0 (w64 ((6 : Int) + j'2)) (s4_0.length : Int)), out6'5)) else none else none) else none else none) else some (.inr (.inr out6_0)))
noncomputable def g_ref_RecordsOf (d0 : GDisk) : Option ((List (List UInt8)) × Int) :=
  (g_ref_tapeText d0).bind fun r'1 => (if r'1.2 ≠ (0 : Int) then some (([] : List (List UInt8)), r'1.2) else (loopO (g_ref_RecordsOf_l0) (r'1.1, ([] : List (List UInt8)))).bind fun o'9 => match o'9 with | .inl y'10 => some y'10 | .inr (y'11) => some (y'11, (0 : Int)))
set_option maxHeartbeats 4000000 in
set_option maxRecDepth 100000 in
theorem g_ref_RecordsOf_ac2 {d0 : GDisk} {r : (List (List UInt8)) × Int} (H : g_ref_RecordsOf d0 = some r) : AC2 Try.prog 22 (pureT [(.agg (GDisk.cs d0))]) [] (retV [.c (.own 2 r.1.length 1), .i r.2]) [(2, .pure (r.1.map AV.bytes))] := by
 refine AC2_of_body (vs := [.c (.own 2 r.1.length 1), .i r.2]) Try.func22 Y Y (Nat.le_of_ble_eq_true Y) Y ?_
 unfold g_ref_RecordsOf at H
 refine as2 [(0, .g (GDisk.cs d0))] [] Y Y Y ?_
 refine sg [0, 1, 2] Y ?_
 refine r_op Y Y (MakeD.opD (n_box 1 Y Y) Y Y Y Y) ?_
 refine rp Y Y (p_asgn Y) ?_
 refine rp Y Y (p_asg Y Y) ?_
 refine rz [(1, .q 1 (0))] [(1, .pure (GDisk.cs d0))] Y Y Y ?_
 refine sg [0, 1, 2, 3, 4, 5, 6] Y ?_
 refine rp Y Y (u_lda Y Y Try.underlying25 Y in_25 Y (Nat.succ_pos _) (Sub.refl _) (GDisk.len d0)) ?_
 refine bindK H fun r'1 h1 H => ?_
 refine rp Y Y (p_callp Y Y Y Try.func37 Y Y (g_ref_tapeText_ac h1) ⟨Y, trivial⟩) ?_
 refine rp Y Y (p_move Y Y) ?_
 refine rp Y Y (p_ext Y Y Y Y) ?_
 refine rp Y Y (p_ext Y Y Y Y) ?_
 refine rp Y Y (p_asg Y Y) ?_
 refine rp Y Y (p_asg Y Y) ?_
 refine rz [(4, .t r'1.1), (5, .i r'1.2)] [] Y Y Y ?_
 refine AW2_seq ?_
 refine sg [0, 1] Y ?_
 refine rp Y Y (p_move Y Y) ?_
 refine rp Y Y (p_ine Y Y Y) ?_
 refine rz [(4, .t r'1.1), (5, .i r'1.2), (15, .b (decide (r'1.2 ≠ (0 : Int))))] [] Y Y Y ?_
 refine AW2_if (p := r'1.2 ≠ (0 : Int)) Y (fun h2 => ?_) (fun h2 => ?_)
 ·replace H := ite_then h2 H
  refine sg [0, 1, 2] Y ?_
  refine rp Y Y (p_move Y Y) ?_
  refine rp Y Y (p_asgn Y) ?_
  refine rp Y Y (p_asg Y Y) ?_
  refine rz [(2, .p .nil), (3, .i r'1.2)] [] Y Y Y ?_
  refine as2 [(2, .p .nil), (3, .i r'1.2)] [] Y Y Y ?_
  refine AW2_gho (Gho_own (d := 2) (b := 2) (z := 1) Y Y Y Y) ?_
  refine AW2_st [(2, .c (.own 2 ([] : List (List UInt8)).length 1)), (3, .i r'1.2)] [(2, .pure (([] : List (List UInt8)).map AV.bytes))] Y ⟨TLes.own Y, TLes.same _, trivial⟩ ⟨Y, trivial⟩ ?_
  refine AW2_ret ?_
  have hz := some_elim H
  subst hz
  exact ⟨⟨res_tmp (.same _), res_tmp (.same _), trivial⟩, ⟨Y, trivial⟩⟩
 ·replace H := ite_else h2 H
  refine as2 [(4, .t r'1.1)] [] Y Y Y ?_
  refine AW2_skip ?_
  refine sg [0] Y ?_
  refine rp Y Y (p_asgn Y) ?_
  refine rz [(4, .t r'1.1), (6, .p .nil)] [] Y Y Y ?_
  refine AW2_seq ?_
  refine AW2_block ?_
  refine as2 [(4, .t r'1.1), (6, .p .nil)] [] Y Y Y ?_
  refine AW2_gho (Gho_own (d := 6) (b := 6) (z := 1) Y Y Y Y) ?_
  refine AW2_st [(4, .t r'1.1), (6, .c (.own 6 ([] : List (List UInt8)).length 1))] [(6, .pure (([] : List (List UInt8)).map AV.bytes))] Y ⟨TLes.same _, TLes.own Y, trivial⟩ ⟨Y, trivial⟩ ?_
  refine bindK H fun o'9 h17 H => ?_
  refine AW2_loopO (fun a'6 : (List UInt8) × (List (List UInt8)) => (⟨[(4, .t a'6.1), (6, .c (.own 6 a'6.2.length 1))], [(6, .pure (a'6.2.map AV.bytes))], 60⟩ : TS)) (fun (o : ((List (List UInt8)) × Int) ⊕ ((List (List UInt8)))) e s' => match o with | .inl y'7 => e = Go.Exit.ret ∧ ResAll Try.prog s' [ResultVar.tmp 2, ResultVar.tmp 3] [.c (.own 2 y'7.1.length 1), .i y'7.2] ∧ HFits s' [(2, .pure (y'7.1.map AV.bytes))] | .inr (y'8) => e = Go.Exit.exit 0 ∧ s' = (⟨[(6, .c (.own 6 y'8.length 1))], [(6, .pure (y'8.map AV.bytes))], 60⟩ : TS)) h17 Y (fun a x hx => ?_) (fun e s' hs => ?_)
  ·clear H
   obtain ⟨s4_0, out6_0⟩ := a
   have H := hx
   clear hx
   unfold g_ref_RecordsOf_l0 at H
   refine AW2_seq ?_
   refine sg [0, 1] Y ?_
   refine rp Y Y (p_move Y Y) ?_
   refine rp Y Y (p_sne Y Y Y) ?_
   refine rz [(4, .t s4_0), (6, .c (.own 6 out6_0.length 1)), (18, .b (decide (s4_0 ≠ [])))] [(6, .pure (out6_0.map AV.bytes))] Y Y Y ?_
   refine AW2_if (p := s4_0 ≠ []) Y (fun h3 => ?_) (fun h3 => ?_)
   ·replace H := ite_then h3 H
    refine as2 [(4, .t s4_0), (6, .c (.own 6 out6_0.length 1))] [(6, .pure (out6_0.map AV.bytes))] Y Y Y ?_
    refine AW2_skip ?_
    refine AW2_block ?_
    refine sg [0] Y ?_
    refine rp Y Y (p_asg Y Y) ?_
    refine rz [(4, .t s4_0), (6, .c (.own 6 out6_0.length 1)), (7, .i (0 : Int))] [(6, .pure (out6_0.map AV.bytes))] Y Y Y ?_
    refine AW2_seq ?_
    refine bindK H fun j'2 h4 H => ?_
    refine AW2_mid (⟨[(4, .t s4_0), (6, .c (.own 6 out6_0.length 1)), (7, .i j'2)], [(6, .pure (out6_0.map AV.bytes))], 60⟩ : TS) ?_ ?_
    ·clear H
     have H := h4
     clear h4
     refine sg [0, 1, 2] Y ?_
     refine rp Y Y (p_move Y Y) ?_
     refine rp Y Y (p_lent Y Try.underlying9 Y) ?_
     refine rp Y Y (p_bin Y Y Y Y) ?_
     refine rz [(4, .t s4_0), (6, .c (.own 6 out6_0.length 1)), (7, .i (0 : Int)), (21, .b (decide ((s4_0.length : Int) ≥ (2 : Int))))] [(6, .pure (out6_0.map AV.bytes))] Y Y Y ?_
     refine AW2_if (p := (s4_0.length : Int) ≥ (2 : Int)) Y (fun h5 => ?_) (fun h5 => ?_)
     ·replace H := ite_then h5 H
      refine AW2_reg [0, 1, 2, 3, 4] Y ?_
      refine rp Y Y (p_move Y Y) ?_
      refine chkK H fun h6 H => ?_
      refine rp Y Y (u_cutt (a := (0 : Int)) (b := (2 : Int)) Y Try.underlying9 Y bT_zero (bT_i (Int.le_trans (show 0 ≤ (0 : Int) ∧ (0 : Int) ≤ (2 : Int) ∧ (2 : Int) ≤ (s4_0.length : Int) from ⟨Int.le_refl _, h6.1, h6.2⟩).1 (show 0 ≤ (0 : Int) ∧ (0 : Int) ≤ (2 : Int) ∧ (2 : Int) ≤ (s4_0.length : Int) from ⟨Int.le_refl _, h6.1, h6.2⟩).2.1) Y) (show 0 ≤ (0 : Int) ∧ (0 : Int) ≤ (2 : Int) ∧ (2 : Int) ≤ (s4_0.length : Int) from ⟨Int.le_refl _, h6.1, h6.2⟩)) ?_
      refine bindK H fun r'3 h7 H => ?_
      refine rp Y Y (p_callp Y Y Y Try.func38 Y Y (g_ref_number_ac h7) ⟨Y, trivial⟩) ?_
      refine rp Y Y (p_u64_i (a := r'3) Y Try.underlying82 Try.underlying3 Y) ?_
      refine rp Y Y (p_asg Y Y) ?_
      refine rz [(4, .t s4_0), (6, .c (.own 6 out6_0.length 1)), (7, .i (w64 (r'3.toNat : Int)))] [(6, .pure (out6_0.map AV.bytes))] Y Y Y ?_
      have hz := some_elim H
      subst hz
      exact rfl
     ·replace H := ite_else h5 H
      refine as2 [(4, .t s4_0), (6, .c (.own 6 out6_0.length 1)), (7, .i (0 : Int))] [(6, .pure (out6_0.map AV.bytes))] Y Y Y ?_
      refine AW2_skip ?_
      have hz := some_elim H
      subst hz
      exact rfl
    ·refine AW2_seq ?_
     refine AW2_seq ?_
     refine AW2_mid (⟨[(4, .t s4_0), (6, .c (.own 6 out6_0.length 1)), (7, .i j'2), (38, .b (decide (((j'2 = (0 : Int)) ∨ (j'2 > (310 : Int))) ∨ ((s4_0.length : Int) < w64 ((6 : Int) + j'2)))))], [(6, .pure (out6_0.map AV.bytes))], 60⟩ : TS) ?_ ?_
     ·refine AW2_reg [0, 1, 2, 3, 4, 5, 6, 7, 8, 9, 10, 11, 12] Y ?_
      refine rp Y Y (p_move Y Y) ?_
      refine rp Y Y (p_ieq Y Y Y) ?_
      refine rp Y Y (p_move Y Y) ?_
      refine (Classical.em (j'2 = (0 : Int))).elim (fun h8 => ?_) (fun h8 => ?_)
      ·refine r_off Y Y Y Y (dT h8) Y Y ?_
       refine r_off Y Y Y Y (dT h8) Y Y ?_
       refine rp Y Y (p_pkt Y Y (dT h8) (tb (dT (p := (j'2 = (0 : Int)) ∨ (j'2 > (310 : Int))) (Or.inl h8)).symm)) ?_
       refine rp Y Y (p_move Y Y) ?_
       refine r_off Y Y Y Y (dT (p := (j'2 = (0 : Int)) ∨ (j'2 > (310 : Int))) (Or.inl h8)) Y Y ?_
       refine r_off Y Y Y Y (dT (p := (j'2 = (0 : Int)) ∨ (j'2 > (310 : Int))) (Or.inl h8)) Y Y ?_
       refine r_off Y Y Y Y (dT (p := (j'2 = (0 : Int)) ∨ (j'2 > (310 : Int))) (Or.inl h8)) Y Y ?_
       refine r_off Y Y Y Y (dT (p := (j'2 = (0 : Int)) ∨ (j'2 > (310 : Int))) (Or.inl h8)) Y Y ?_
       refine r_off Y Y Y Y (dT (p := (j'2 = (0 : Int)) ∨ (j'2 > (310 : Int))) (Or.inl h8)) Y Y ?_
       refine rp Y Y (p_pkt Y Y (dT (p := (j'2 = (0 : Int)) ∨ (j'2 > (310 : Int))) (Or.inl h8)) (tb (dT (p := ((j'2 = (0 : Int)) ∨ (j'2 > (310 : Int))) ∨ ((s4_0.length : Int) < w64 ((6 : Int) + j'2))) (Or.inl (Or.inl h8))).symm)) ?_
       refine rs [(4, .t s4_0), (6, .c (.own 6 out6_0.length 1)), (7, .i j'2), (38, .b (decide (((j'2 = (0 : Int)) ∨ (j'2 > (310 : Int))) ∨ ((s4_0.length : Int) < w64 ((6 : Int) + j'2)))))] [(6, .pure (out6_0.map AV.bytes))] Y Y Y ?_
       exact RunW_nil rfl
      ·refine r_on Y Y Y Y (dF h8) Y (PureD.opD (p_move Y Y)) ?_
       refine r_on Y Y Y Y (dF h8) Y (PureD.opD (p_bin Y Y Y Y)) ?_
       refine rp Y Y (p_pkf Y Y (dF h8) (tb ((or_l (p := j'2 = (0 : Int)) (q := j'2 > (310 : Int)) h8)))) ?_
       refine rp Y Y (p_move Y Y) ?_
       refine (Classical.em (j'2 > (310 : Int))).elim (fun h9 => ?_) (fun h9 => ?_)
       ·refine r_off Y Y Y Y (dT (p := (j'2 = (0 : Int)) ∨ (j'2 > (310 : Int))) (Or.inr h9)) Y Y ?_
        refine r_off Y Y Y Y (dT (p := (j'2 = (0 : Int)) ∨ (j'2 > (310 : Int))) (Or.inr h9)) Y Y ?_
        refine r_off Y Y Y Y (dT (p := (j'2 = (0 : Int)) ∨ (j'2 > (310 : Int))) (Or.inr h9)) Y Y ?_
        refine r_off Y Y Y Y (dT (p := (j'2 = (0 : Int)) ∨ (j'2 > (310 : Int))) (Or.inr h9)) Y Y ?_
        refine r_off Y Y Y Y (dT (p := (j'2 = (0 : Int)) ∨ (j'2 > (310 : Int))) (Or.inr h9)) Y Y ?_
        refine rp Y Y (p_pkt Y Y (dT (p := (j'2 = (0 : Int)) ∨ (j'2 > (310 : Int))) (Or.inr h9)) (tb (dT (p := ((j'2 = (0 : Int)) ∨ (j'2 > (310 : Int))) ∨ ((s4_0.length : Int) < w64 ((6 : Int) + j'2))) (Or.inl (Or.inr h9))).symm)) ?_
        refine rs [(4, .t s4_0), (6, .c (.own 6 out6_0.length 1)), (7, .i j'2), (38, .b (decide (((j'2 = (0 : Int)) ∨ (j'2 > (310 : Int))) ∨ ((s4_0.length : Int) < w64 ((6 : Int) + j'2)))))] [(6, .pure (out6_0.map AV.bytes))] Y Y Y ?_
        exact RunW_nil rfl
       ·refine r_on Y Y Y Y (dF (p := (j'2 = (0 : Int)) ∨ (j'2 > (310 : Int))) (not_or.2 ⟨h8, h9⟩)) Y (PureD.opD (p_move Y Y)) ?_
        refine r_on Y Y Y Y (dF (p := (j'2 = (0 : Int)) ∨ (j'2 > (310 : Int))) (not_or.2 ⟨h8, h9⟩)) Y (PureD.opD (p_lent Y Try.underlying9 Y)) ?_
        refine r_on Y Y Y Y (dF (p := (j'2 = (0 : Int)) ∨ (j'2 > (310 : Int))) (not_or.2 ⟨h8, h9⟩)) Y (PureD.opD (p_move Y Y)) ?_
        refine r_on Y Y Y Y (dF (p := (j'2 = (0 : Int)) ∨ (j'2 > (310 : Int))) (not_or.2 ⟨h8, h9⟩)) Y (PureD.opD (p_bin Y Y Y Y)) ?_
        refine r_on Y Y Y Y (dF (p := (j'2 = (0 : Int)) ∨ (j'2 > (310 : Int))) (not_or.2 ⟨h8, h9⟩)) Y (PureD.opD (p_bin Y Y Y Y)) ?_
        refine rp Y Y (p_pkf Y Y (dF (p := (j'2 = (0 : Int)) ∨ (j'2 > (310 : Int))) (not_or.2 ⟨h8, h9⟩)) (tb ((or_l (p := (j'2 = (0 : Int)) ∨ (j'2 > (310 : Int))) (q := (s4_0.length : Int) < w64 ((6 : Int) + j'2)) (not_or.2 ⟨h8, h9⟩))))) ?_
        refine rs [(4, .t s4_0), (6, .c (.own 6 out6_0.length 1)), (7, .i j'2), (38, .b (decide (((j'2 = (0 : Int)) ∨ (j'2 > (310 : Int))) ∨ ((s4_0.length : Int) < w64 ((6 : Int) + j'2)))))] [(6, .pure (out6_0.map AV.bytes))] Y Y Y ?_
        exact RunW_nil rfl
     ·refine AW2_if (p := ((j'2 = (0 : Int)) ∨ (j'2 > (310 : Int))) ∨ ((s4_0.length : Int) < w64 ((6 : Int) + j'2))) Y (fun h10 => ?_) (fun h10 => ?_)
      ·replace H := ite_then h10 H
       refine sg [0, 1] Y ?_
       refine rp Y Y (p_asgn Y) ?_
       refine rp Y Y (p_asg Y Y) ?_
       refine rz [(2, .p .nil), (3, .i (11 : Int))] [] Y Y Y ?_
       refine as2 [(2, .p .nil), (3, .i (11 : Int))] [] Y Y Y ?_
       refine AW2_gho (Gho_own (d := 2) (b := 2) (z := 1) Y Y Y Y) ?_
       refine AW2_st [(2, .c (.own 2 ([] : List (List UInt8)).length 1)), (3, .i (11 : Int))] [(2, .pure (([] : List (List UInt8)).map AV.bytes))] Y ⟨TLes.own Y, TLes.same _, trivial⟩ ⟨Y, trivial⟩ ?_
       refine AW2_ret ?_
       have hz := some_elim H
       subst hz
       exact ⟨Y, ⟨res_tmp (.same _), res_tmp (.same _), trivial⟩, ⟨Y, trivial⟩⟩
      ·replace H := ite_else h10 H
       refine as2 [(4, .t s4_0), (6, .c (.own 6 out6_0.length 1)), (7, .i j'2)] [(6, .pure (out6_0.map AV.bytes))] Y Y Y ?_
       refine AW2_skip ?_
       refine sg [0, 1, 2, 3, 4, 5] Y ?_
       refine rp Y Y (p_move Y Y) ?_
       refine rp Y Y (p_move Y Y) ?_
       refine rp Y Y (p_bin Y Y Y Y) ?_
       refine chkK H fun h11 H => ?_
       refine rp Y Y (u_cutt (a := (6 : Int)) (b := w64 ((6 : Int) + j'2)) Y Try.underlying9 Y (bT_i (show 0 ≤ (6 : Int) ∧ (6 : Int) ≤ w64 ((6 : Int) + j'2) ∧ w64 ((6 : Int) + j'2) ≤ (s4_0.length : Int) from h11).1 Y) (bT_i (Int.le_trans (show 0 ≤ (6 : Int) ∧ (6 : Int) ≤ w64 ((6 : Int) + j'2) ∧ w64 ((6 : Int) + j'2) ≤ (s4_0.length : Int) from h11).1 (show 0 ≤ (6 : Int) ∧ (6 : Int) ≤ w64 ((6 : Int) + j'2) ∧ w64 ((6 : Int) + j'2) ≤ (s4_0.length : Int) from h11).2.1) Y) (show 0 ≤ (6 : Int) ∧ (6 : Int) ≤ w64 ((6 : Int) + j'2) ∧ w64 ((6 : Int) + j'2) ≤ (s4_0.length : Int) from h11)) ?_
       refine r_op Y Y (MakeD.opD (n_sb 43 Y Try.underlying9 Try.underlying45 Try.underlying5 Y) Y Y Y Y) ?_
       refine rp Y Y (p_asg Y Y) ?_
       refine rs [(4, .t s4_0), (6, .c (.own 6 out6_0.length 1)), (7, .i j'2), (8, .c (.own 43 (cut s4_0 (6 : Int) (w64 ((6 : Int) + j'2))).length 1))] [(6, .pure (out6_0.map AV.bytes)), (43, .pure (bcells (cut s4_0 (6 : Int) (w64 ((6 : Int) + j'2)))))] Y Y Y ?_
       refine RunW_gho (Gho_ren 43 8 Y Y Y Y Y) ?_
       refine rz [(4, .t s4_0), (6, .c (.own 6 out6_0.length 1)), (7, .i j'2), (8, .c (.own 8 (cut s4_0 (6 : Int) (w64 ((6 : Int) + j'2))).length 1))] [(6, .pure (out6_0.map AV.bytes)), (8, .pure (bcells (cut s4_0 (6 : Int) (w64 ((6 : Int) + j'2)))))] Y Y Y ?_
       refine AW2_seq ?_
       refine AW2_seq ?_
       refine bindK H fun r'4 h12 H => ?_
       refine chkK H fun h13 H => ?_
       refine AW2_ghoQ ?_
       refine AW2_draw 6 [6] (fun k => ([.c (.own 8 (cut s4_0 (6 : Int) (w64 ((6 : Int) + j'2))).length 1), .t r'4, .t s4_0, .i j'2, .i (w64 ((6 : Int) + j'2)), .t (cut s4_0 (0 : Int) (w64 ((6 : Int) + j'2)))] : List TV).getD k TV.any) (fun k => g_ref_RecordsOf_r12.getD k []) [(4, none), (6, none), (7, none), (8, none), (45, some 1), (49, some 5)] [] (fun k => g_ref_RecordsOf_r12c.getD k []) mixed (by kernel_rfl) Y Y (a_op (g_x Y (x_p Y (p_move Y Y) Y)) (a_op (g_x Y (x_p Y (p_calll Y Y Y Try.func39 Y Y (g_ref_recordText_ac h12) Y ⟨lend_o Y Y Y (bl (cut s4_0 (6 : Int) (w64 ((6 : Int) + j'2)))) (by decide), trivial⟩) Y)) (a_op (g_x Y (x_p Y (p_move Y Y) Y)) (a_op (g_x Y (x_p Y (p_move Y Y) Y)) (a_op (g_x Y (x_p Y (p_bin Y Y Y Y) Y)) (a_op (g_x Y (x_p Y (u_cutt (a := (0 : Int)) (b := w64 ((6 : Int) + j'2)) Y Try.underlying9 Y bT_zero (bT_i (Int.le_trans (show 0 ≤ (0 : Int) ∧ (0 : Int) ≤ w64 ((6 : Int) + j'2) ∧ w64 ((6 : Int) + j'2) ≤ (s4_0.length : Int) from ⟨Int.le_refl _, h13.1, h13.2⟩).1 (show 0 ≤ (0 : Int) ∧ (0 : Int) ≤ w64 ((6 : Int) + j'2) ∧ w64 ((6 : Int) + j'2) ≤ (s4_0.length : Int) from ⟨Int.le_refl _, h13.1, h13.2⟩).2.1) Y) (show 0 ≤ (0 : Int) ∧ (0 : Int) ≤ w64 ((6 : Int) + j'2) ∧ w64 ((6 : Int) + j'2) ≤ (s4_0.length : Int) from ⟨Int.le_refl _, h13.1, h13.2⟩)) Y)) (a_nil))))))) ?_
       refine t_op Y Y (PureD.opD (p_sne Y Y Y)) ?_
       refine t_gho (Gho_st (L := [(4, .t s4_0), (6, .c (.own 6 out6_0.length 1)), (7, .i j'2), (8, .c (.own 8 (cut s4_0 (6 : Int) (w64 ((6 : Int) + j'2))).length 1)), (50, .b (decide (r'4 ≠ (cut s4_0 (0 : Int) (w64 ((6 : Int) + j'2))))))]) (H := [(6, .pure (out6_0.map AV.bytes)), (8, .pure (bcells (cut s4_0 (6 : Int) (w64 ((6 : Int) + j'2)))))]) (N := 60) Y ⟨TLes.same _, TLes.same _, TLes.same _, TLes.same _, TLes.same _, trivial⟩ ⟨Y, Y, trivial⟩) ?_
       refine AW2_if (p := r'4 ≠ (cut s4_0 (0 : Int) (w64 ((6 : Int) + j'2)))) Y (fun h14 => ?_) (fun h14 => ?_)
       ·replace H := ite_then h14 H
        refine sg [0, 1] Y ?_
        refine rp Y Y (p_asgn Y) ?_
        refine rp Y Y (p_asg Y Y) ?_
        refine rz [(2, .p .nil), (3, .i (11 : Int))] [] Y Y Y ?_
        refine as2 [(2, .p .nil), (3, .i (11 : Int))] [] Y Y Y ?_
        refine AW2_gho (Gho_own (d := 2) (b := 2) (z := 1) Y Y Y Y) ?_
        refine AW2_st [(2, .c (.own 2 ([] : List (List UInt8)).length 1)), (3, .i (11 : Int))] [(2, .pure (([] : List (List UInt8)).map AV.bytes))] Y ⟨TLes.own Y, TLes.same _, trivial⟩ ⟨Y, trivial⟩ ?_
        refine AW2_ret ?_
        have hz := some_elim H
        subst hz
        exact ⟨Y, ⟨res_tmp (.same _), res_tmp (.same _), trivial⟩, ⟨Y, trivial⟩⟩
       ·replace H := ite_else h14 H
        refine as2 [(4, .t s4_0), (6, .c (.own 6 out6_0.length 1)), (7, .i j'2), (8, .c (.own 8 (cut s4_0 (6 : Int) (w64 ((6 : Int) + j'2))).length 1))] [(6, .pure (out6_0.map AV.bytes)), (8, .pure (bcells (cut s4_0 (6 : Int) (w64 ((6 : Int) + j'2)))))] Y Y Y ?_
        refine AW2_skip ?_
        refine sg [0, 1, 2, 3, 4] Y ?_
        refine rp Y Y (p_move Y Y) ?_
        refine rp Y Y (p_move Y Y) ?_
        refine RunW_gho (Gho_pubs [8, 52] ⟨Y, Y, trivial⟩ Y (bl (cut s4_0 (6 : Int) (w64 ((6 : Int) + j'2)))) (by decide)) ?_
        refine r_op Y Y (MakeD.opD (u_bs 53 Y Try.underlying40 in_45 Y one_45 (by decide) (by decide) Y Y Y) Y Y Y Y) ?_
        refine chkK H fun h15 H => ?_
        refine r_op Y Y (u_app [6, 51] Y Y Y Y Try.underlying40 Try.underlying40 in_45 Y Y Y (ml AV.bytes out6_0) (by decide) (srcT_o Y Y (ml AV.bytes ([(cut s4_0 (6 : Int) (w64 ((6 : Int) + j'2)))] : List (List UInt8))) (by decide)) (ml AV.bytes ([(cut s4_0 (6 : Int) (w64 ((6 : Int) + j'2)))] : List (List UInt8))) h15 (by decide) Y Y (mapp AV.bytes out6_0 ([(cut s4_0 (6 : Int) (w64 ((6 : Int) + j'2)))] : List (List UInt8))) (lapp out6_0 ([(cut s4_0 (6 : Int) (w64 ((6 : Int) + j'2)))] : List (List UInt8)))) ?_
        refine rp Y Y (p_asg Y Y) ?_
        refine rz [(4, .t s4_0), (6, .c (.own 6 (out6_0 ++ ([(cut s4_0 (6 : Int) (w64 ((6 : Int) + j'2)))] : List (List UInt8))).length 1)), (7, .i j'2)] [(6, .pure ((out6_0 ++ ([(cut s4_0 (6 : Int) (w64 ((6 : Int) + j'2)))] : List (List UInt8))).map AV.bytes))] Y Y Y ?_
        refine gen1 (fun out6'5 => (⟨[(4, .t s4_0), (6, .c (.own 6 out6'5.length 1)), (7, .i j'2)], [(6, .pure (out6'5.map AV.bytes))], 60⟩ : TS)) H ?_
        intro out6'5 H
        refine AW2_reg [0, 1, 2, 3, 4] Y ?_
        refine rp Y Y (p_move Y Y) ?_
        refine rp Y Y (p_move Y Y) ?_
        refine rp Y Y (p_bin Y Y Y Y) ?_
        refine chkK H fun h16 H => ?_
        refine rp Y Y (u_cutt (a := w64 ((6 : Int) + j'2)) (b := (s4_0.length : Int)) Y Try.underlying9 Y (bT_i (show 0 ≤ w64 ((6 : Int) + j'2) ∧ w64 ((6 : Int) + j'2) ≤ (s4_0.length : Int) ∧ (s4_0.length : Int) ≤ (s4_0.length : Int) from ⟨h16.1, h16.2, Int.le_refl _⟩).1 Y) (bT_len _) (show 0 ≤ w64 ((6 : Int) + j'2) ∧ w64 ((6 : Int) + j'2) ≤ (s4_0.length : Int) ∧ (s4_0.length : Int) ≤ (s4_0.length : Int) from ⟨h16.1, h16.2, Int.le_refl _⟩)) ?_
        refine rp Y Y (p_asg Y Y) ?_
        refine rz [(4, .t (cut s4_0 (w64 ((6 : Int) + j'2)) (s4_0.length : Int))), (6, .c (.own 6 out6'5.length 1))] [(6, .pure (out6'5.map AV.bytes))] Y Y Y ?_
        have hz := some_elim H
        subst hz
        exact ⟨Y, Y⟩
   ·replace H := ite_else h3 H
    refine as2 [(6, .c (.own 6 out6_0.length 1))] [(6, .pure (out6_0.map AV.bytes))] Y Y Y ?_
    refine AW2_exit ?_
    refine thenQ2_exit ?_
    have hz := some_elim H
    subst hz
    exact ⟨Y, Y⟩
  ·rcases o'9 with y'10 | y'11
   ·obtain ⟨rfl, hs⟩ := hs
    refine ⟨by simp, ?_⟩
    have hz := some_elim H
    subst hz
    exact ⟨hs.1, hs.2⟩
   ·obtain ⟨rfl, rfl⟩ := hs
    refine ⟨by simp, ?_⟩
    refine blockQ2_exit ?_
    refine sg [0, 1, 2] Y ?_
    refine rp Y Y (p_move Y Y) ?_
    refine rp Y Y (p_asg Y Y) ?_
    refine rp Y Y (p_asg Y Y) ?_
    refine rs [(2, .c (.own 6 y'11.length 1)), (3, .i (0 : Int))] [(6, .pure (y'11.map AV.bytes))] Y Y Y ?_
    refine RunW_gho (Gho_ren 6 2 Y Y Y Y Y) ?_
    refine rz [(2, .c (.own 2 y'11.length 1)), (3, .i (0 : Int))] [(2, .pure (y'11.map AV.bytes))] Y Y Y ?_
    refine as2 [(2, .c (.own 2 y'11.length 1)), (3, .i (0 : Int))] [(2, .pure (y'11.map AV.bytes))] Y Y Y ?_
    refine AW2_ret ?_
    have hz := some_elim H
    subst hz
    exact ⟨⟨res_tmp (.same _), res_tmp (.same _), trivial⟩, ⟨Y, trivial⟩⟩
theorem g_ref_RecordsOf_ac {d0 : GDisk} {r : (List (List UInt8)) × Int} (H : g_ref_RecordsOf d0 = some r) : ACp Try.prog 22 [(.agg (GDisk.cs d0))] (.tup [(AV.lists r.1), (AV.int r.2)]) := ACp_pub (g_ref_RecordsOf_ac2 H) (fun _ _ hm => lent_tup ⟨lent_own hm rfl (ml AV.bytes r.1) (by decide), .same _, trivial⟩)

/-! chirographlaw.sameLists -/
def g_law_sameLists_r6 : List (List (Nat × Option Nat)) := [[(0, none)], [(5, none)], [(16, some 0), (17, some 1)], [(18, some 2)], [(19, some 3)], [(1, none)], [(5, none)], [(21, some 5), (22, some 6)], [(23, some 7)], [(24, some 8)]]
def g_law_sameLists_r6c : List (List Nat) := [[], [], [0, 1], [0, 1, 2], [0, 1, 2, 3], [], [], [5, 6], [5, 6, 7], [5, 6, 7, 8], [0, 1, 2, 3, 4, 5, 6, 7, 8, 9]]
noncomputable def g_law_sameLists_l0 (a0 : List (List UInt8)) (b1 : List (List UInt8)) : Int → Option (Int ⊕ (Bool ⊕ Unit))
  | t13_0 => (if t13_0 < (a0.length : Int) then if 0 ≤ t13_0 ∧ t13_0 < (a0.length : Int) then if 0 ≤ t13_0 ∧ t13_0 < (b1.length : Int) then (if (lrd a0 t13_0.toNat) ≠ (lrd b1 t13_0.toNat) then some (.inr (.inl false)) else some (.inl (w64 (t13_0 + (1 : Int))))) else none else none else some (.inr (.inr ())))
noncomputable def g_law_sameLists (a0 : List (List UInt8)) (b1 : List (List UInt8)) : Option (Bool) :=
  (if (a0.length : Int) ≠ (b1.length : Int) then some false else (loopO (g_law_sameLists_l0 a0 b1) (0 : Int)).bind fun o'4 => match o'4 with | .inl y'5 => some y'5 | .inr (y'6) => some true)
set_option maxHeartbeats 4000000 in
set_option maxRecDepth 100000 in
theorem g_law_sameLists_ac {a0 : List (List UInt8)} {b1 : List (List UInt8)} {r : Bool} (H : g_law_sameLists a0 b1 = some r) : ACp Try.prog 23 [(AV.lists a0), (AV.lists b1)] (AV.bool r) := by
 refine ACp_of (AC2_of_body (vs := [.b r]) Try.func23 Y Y (Nat.le_of_ble_eq_true Y) Y ?_) (fun _ => .same _)
 unfold g_law_sameLists at H
 refine as2 [(0, .p (AV.lists a0)), (1, .p (AV.lists b1))] [] Y Y Y ?_
 refine sg [0] Y ?_
 refine rp Y Y (p_asg Y Y) ?_
 refine rz [(0, .p (AV.lists a0)), (1, .p (AV.lists b1))] [] Y Y Y ?_
 refine AW2_seq ?_
 refine sg [0, 1, 2, 3, 4] Y ?_
 refine rp Y Y (p_move Y Y) ?_
 refine rp Y Y (p_lenl Y Try.underlying40 Y Y) ?_
 refine rp Y Y (p_move Y Y) ?_
 refine rp Y Y (p_lenl Y Try.underlying40 Y Y) ?_
 refine rp Y Y (p_ine Y Y Y) ?_
 refine rz [(0, .p (AV.lists a0)), (1, .p (AV.lists b1)), (10, .b (decide ((a0.length : Int) ≠ (b1.length : Int))))] [] Y Y Y ?_
 refine AW2_if (p := (a0.length : Int) ≠ (b1.length : Int)) Y (fun h1 => ?_) (fun h1 => ?_)
 ·replace H := ite_then h1 H
  refine sg [0] Y ?_
  refine rp Y Y (p_asg Y Y) ?_
  refine rz [(4, .b false)] [] Y Y Y ?_
  refine AW2_ret ?_
  have hz := some_elim H
  subst hz
  exact ⟨⟨res_tmp (.same _), trivial⟩, trivial⟩
 ·replace H := ite_else h1 H
  refine as2 [(0, .p (AV.lists a0)), (1, .p (AV.lists b1))] [] Y Y Y ?_
  refine AW2_skip ?_
  refine AW2_seq ?_
  refine sg [0, 1, 2] Y ?_
  refine rp Y Y (p_move Y Y) ?_
  refine rp Y Y (p_lenl Y Try.underlying40 Y Y) ?_
  refine rp Y Y (p_move Y Y) ?_
  refine rz [(0, .p (AV.lists a0)), (1, .p (AV.lists b1)), (12, .i (a0.length : Int)), (13, .i (0 : Int))] [] Y Y Y ?_
  refine AW2_block ?_
  refine as2 [(0, .p (AV.lists a0)), (1, .p (AV.lists b1)), (12, .i (a0.length : Int)), (13, .i (0 : Int))] [] Y Y Y ?_
  refine bindK H fun o'4 h6 H => ?_
  refine AW2_loopO (fun a'1 : Int => (⟨[(0, .p (AV.lists a0)), (1, .p (AV.lists b1)), (12, .i (a0.length : Int)), (13, .i a'1)], [], 28⟩ : TS)) (fun (o : Bool ⊕ Unit) e s' => match o with | .inl y'2 => e = Go.Exit.ret ∧ ResAll Try.prog s' [ResultVar.tmp 4] [.b y'2] ∧ HFits s' [] | .inr (y'3) => e = Go.Exit.exit 0 ∧ s' = (⟨[], [], 28⟩ : TS)) h6 Y (fun t13_0 x hx => ?_) (fun e s' hs => ?_)
  ·clear H
   have H := hx
   clear hx
   unfold g_law_sameLists_l0 at H
   refine sg [0] Y ?_
   refine rp Y Y (p_bin Y Y Y Y) ?_
   refine rz [(0, .p (AV.lists a0)), (1, .p (AV.lists b1)), (12, .i (a0.length : Int)), (13, .i t13_0), (14, .b (decide (t13_0 < (a0.length : Int))))] [] Y Y Y ?_
   refine AW2_seq ?_
   refine AW2_if (p := t13_0 < (a0.length : Int)) Y (fun h2 => ?_) (fun h2 => ?_)
   ·replace H := ite_then h2 H
    refine as2 [(0, .p (AV.lists a0)), (1, .p (AV.lists b1)), (12, .i (a0.length : Int)), (13, .i t13_0)] [] Y Y Y ?_
    refine AW2_skip ?_
    refine AW2_seq ?_
    refine AW2_block ?_
    refine sg [0, 1] Y ?_
    refine rp Y Y (p_move Y Y) ?_
    refine rp Y Y (p_asg Y Y) ?_
    refine rz [(0, .p (AV.lists a0)), (1, .p (AV.lists b1)), (5, .i t13_0), (12, .i (a0.length : Int)), (13, .i t13_0)] [] Y Y Y ?_
    refine AW2_seq ?_
    refine chkK H fun h3 H => ?_
    refine chkK H fun h4 H => ?_
    refine AW2_ghoQ ?_
    refine AW2_draw 10 [10] (fun k => ([.p (AV.lists a0), .i t13_0, .p (.rptr (a0.map AV.bytes) (t13_0.toNat * 1)), .y (lrd a0 t13_0.toNat), .t (lrd a0 t13_0.toNat), .p (AV.lists b1), .i t13_0, .p (.rptr (b1.map AV.bytes) (t13_0.toNat * 1)), .y (lrd b1 t13_0.toNat), .t (lrd b1 t13_0.toNat)] : List TV).getD k TV.any) (fun k => g_law_sameLists_r6.getD k []) [(0, none), (1, none), (12, none), (13, none), (20, some 4), (25, some 9)] [] (fun k => g_law_sameLists_r6c.getD k []) mixed (by kernel_rfl) Y Y (a_op (g_x Y (x_p Y (p_move Y Y) Y)) (a_op (g_x Y (x_p Y (p_move Y Y) Y)) (a_op (g_x Y (x_p Y (u_ixl Y Y Try.underlying40 in_45 Y Y (ixe h3) (ixn h3) (lne (ixn h3))) Y)) (a_op (g_x Y (x_p Y (u_ld Y Y Try.underlying45 Y Y (Sub.map default (ixn h3))) Y)) (a_op (g_x Y (x_p Y (p_cb Y Y Try.underlying45 Try.underlying5 Try.underlying9 Y) Y)) (a_op (g_x Y (x_p Y (p_move Y Y) Y)) (a_op (g_x Y (x_p Y (p_move Y Y) Y)) (a_op (g_x Y (x_p Y (u_ixl Y Y Try.underlying40 in_45 Y Y (ixe h4) (ixn h4) (lne (ixn h4))) Y)) (a_op (g_x Y (x_p Y (u_ld Y Y Try.underlying45 Y Y (Sub.map default (ixn h4))) Y)) (a_op (g_x Y (x_p Y (p_cb Y Y Try.underlying45 Try.underlying5 Try.underlying9 Y) Y)) (a_nil))))))))))) ?_
    refine t_op Y Y (PureD.opD (p_sne Y Y Y)) ?_
    refine t_gho (Gho_st (L := [(0, .p (AV.lists a0)), (1, .p (AV.lists b1)), (12, .i (a0.length : Int)), (13, .i t13_0), (26, .b (decide ((lrd a0 t13_0.toNat) ≠ (lrd b1 t13_0.toNat))))]) (H := []) (N := 28) Y ⟨TLes.same _, TLes.same _, TLes.same _, TLes.same _, TLes.same _, trivial⟩ trivial) ?_
    refine AW2_if (p := (lrd a0 t13_0.toNat) ≠ (lrd b1 t13_0.toNat)) Y (fun h5 => ?_) (fun h5 => ?_)
    ·replace H := ite_then h5 H
     refine sg [0] Y ?_
     refine rp Y Y (p_asg Y Y) ?_
     refine rz [(4, .b false)] [] Y Y Y ?_
     refine AW2_ret ?_
     have hz := some_elim H
     subst hz
     exact ⟨Y, ⟨res_tmp (.same _), trivial⟩, trivial⟩
    ·replace H := ite_else h5 H
     refine as2 [(0, .p (AV.lists a0)), (1, .p (AV.lists b1)), (12, .i (a0.length : Int)), (13, .i t13_0)] [] Y Y Y ?_
     refine AW2_skip ?_
     refine AW2_reg [0, 1] Y ?_
     refine rp Y Y (p_bin Y Y Y Y) ?_
     refine rp Y Y (p_move Y Y) ?_
     refine rz [(0, .p (AV.lists a0)), (1, .p (AV.lists b1)), (12, .i (a0.length : Int)), (13, .i (w64 (t13_0 + (1 : Int))))] [] Y Y Y ?_
     have hz := some_elim H
     subst hz
     exact ⟨Y, Y⟩
   ·replace H := ite_else h2 H
    refine as2 [] [] Y Y Y ?_
    refine AW2_exit ?_
    refine thenQ2_exit ?_
    have hz := some_elim H
    subst hz
    exact ⟨Y, Y⟩
  ·rcases o'4 with y'5 | y'6
   ·obtain ⟨rfl, hs⟩ := hs
    refine ⟨by simp, ?_⟩
    have hz := some_elim H
    subst hz
    exact ⟨hs.1, hs.2⟩
   ·obtain ⟨rfl, rfl⟩ := hs
    refine ⟨by simp, ?_⟩
    refine blockQ2_exit ?_
    refine sg [0] Y ?_
    refine rp Y Y (p_asg Y Y) ?_
    refine rz [(4, .b true)] [] Y Y Y ?_
    refine AW2_ret ?_
    have hz := some_elim H
    subst hz
    exact ⟨⟨res_tmp (.same _), trivial⟩, trivial⟩

/-! chirographlaw.TapeOpens -/
noncomputable def g_law_TapeOpens (d0 : GDisk) : Option (Bool) :=
  (g_tape_Open d0).bind fun r'1 => (g_ref_RecordsOf d0).bind fun r'2 => ((if r'1.2 = r'2.2 then (g_law_sameLists r'1.1 r'2.1).bind fun r'4 => some r'4 else some false)).bind fun g'5 => some g'5
set_option maxHeartbeats 4000000 in
set_option maxRecDepth 100000 in
theorem g_law_TapeOpens_ac {d0 : GDisk} {r : Bool} (H : g_law_TapeOpens d0 = some r) : ACp Try.prog 7 [(.agg (GDisk.cs d0))] (AV.bool r) := by
 refine ACp_of (AC2_of_body (vs := [.b r]) Try.func7 Y Y (Nat.le_of_ble_eq_true Y) Y ?_) (fun _ => .same _)
 unfold g_law_TapeOpens at H
 refine as2 [(0, .g (GDisk.cs d0))] [] Y Y Y ?_
 refine sg [0, 1] Y ?_
 refine r_op Y Y (MakeD.opD (n_box 1 Y Y) Y Y Y Y) ?_
 refine rp Y Y (p_asg Y Y) ?_
 refine rz [(1, .q 1 (0))] [(1, .pure (GDisk.cs d0))] Y Y Y ?_
 refine sg [0, 1, 2, 3, 4, 5, 6] Y ?_
 refine rp Y Y (u_lda Y Y Try.underlying25 Y in_25 Y (Nat.succ_pos _) (Sub.refl _) (GDisk.len d0)) ?_
 refine bindK H fun r'1 h1 H => ?_
 refine rp Y Y (p_callp Y Y Y Try.func21 Y Y (g_tape_Open_ac h1) ⟨Y, trivial⟩) ?_
 refine rp Y Y (p_move Y Y) ?_
 refine rp Y Y (p_ext Y Y Y Y) ?_
 refine rp Y Y (p_ext Y Y Y Y) ?_
 refine rp Y Y (p_asg Y Y) ?_
 refine rp Y Y (p_asg Y Y) ?_
 refine rz [(1, .q 1 (0)), (3, .p (AV.lists r'1.1)), (4, .i r'1.2)] [(1, .pure (GDisk.cs d0))] Y Y Y ?_
 refine sg [0, 1, 2, 3, 4, 5, 6] Y ?_
 refine rp Y Y (u_lda Y Y Try.underlying25 Y in_25 Y (Nat.succ_pos _) (Sub.refl _) (GDisk.len d0)) ?_
 refine bindK H fun r'2 h2 H => ?_
 refine rp Y Y (p_callp Y Y Y Try.func22 Y Y (g_ref_RecordsOf_ac h2) ⟨Y, trivial⟩) ?_
 refine rp Y Y (p_move Y Y) ?_
 refine rp Y Y (p_ext Y Y Y Y) ?_
 refine rp Y Y (p_ext Y Y Y Y) ?_
 refine rp Y Y (p_asg Y Y) ?_
 refine rp Y Y (p_asg Y Y) ?_
 refine rz [(3, .p (AV.lists r'1.1)), (4, .i r'1.2), (5, .p (AV.lists r'2.1)), (6, .i r'2.2)] [] Y Y Y ?_
 refine AW2_seq ?_
 refine bindK H fun g'5 h6 H => ?_
 refine AW2_mid (⟨[(2, .b g'5)], [], 25⟩ : TS) ?_ ?_
 ·clear H
  have H := h6
  clear h6
  refine AW2_reg [0, 1, 2, 3, 4, 5, 6, 7, 8] Y ?_
  refine rp Y Y (p_move Y Y) ?_
  refine rp Y Y (p_move Y Y) ?_
  refine rp Y Y (p_ieq Y Y Y) ?_
  refine rp Y Y (p_move Y Y) ?_
  refine (Classical.em (r'1.2 = r'2.2)).elim (fun h4 => ?_) (fun h4 => ?_)
  ·replace H := ite_then h4 H
   refine r_on Y Y Y Y (dT h4) Y (PureD.opD (p_move Y Y)) ?_
   refine r_on Y Y Y Y (dT h4) Y (PureD.opD (p_move Y Y)) ?_
   refine bindK H fun r'4 h5 H => ?_
   refine r_on Y Y Y Y (dT h4) Y (PureD.opD (p_callp Y Y Y Try.func23 Y Y (g_law_sameLists_ac h5) ⟨Y, Y, trivial⟩)) ?_
   refine rp Y Y (p_pkt Y Y (dT h4) (.same _)) ?_
   refine rp Y Y (p_asg Y Y) ?_
   refine rs [(2, .b r'4)] [] Y Y Y ?_
   have hz := some_elim H
   subst hz
   exact RunW_nil rfl
  ·replace H := ite_else h4 H
   refine r_off Y Y Y Y (dF h4) Y Y ?_
   refine r_off Y Y Y Y (dF h4) Y Y ?_
   refine r_off Y Y Y Y (dF h4) Y Y ?_
   refine rp Y Y (p_pkf Y Y (dF h4) (.same _)) ?_
   refine rp Y Y (p_asg Y Y) ?_
   refine rs [(2, .b false)] [] Y Y Y ?_
   have hz := some_elim H
   subst hz
   exact RunW_nil rfl
 ·refine AW2_ret ?_
  have hz := some_elim H
  subst hz
  exact ⟨⟨res_tmp (.same _), trivial⟩, trivial⟩
end Go.Proofs.Ytglgdaeimfdpfaa.VM
