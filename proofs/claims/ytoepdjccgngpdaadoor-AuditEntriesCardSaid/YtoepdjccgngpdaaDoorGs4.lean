/- Functions of the program, as they answer, and that their code comes to these answers. -/
import Derived.Test.YtoepdjccgngpdaaDoorGs3
namespace Go.Proofs.YtoepdjccgngpdaaDoor.VM
open Go Go.RowKit



/-! chirographref.block -/
def g_ref_block_t0 : List UInt8 := [52, 50, 56, 97, 50, 102, 57, 56, 55, 49, 51, 55, 52, 52, 57, 49, 98, 53, 99, 48, 102, 98, 99, 102, 101, 57, 98, 53, 100, 98, 97, 53, 51, 57, 53, 54, 99, 50, 53, 98, 53, 57, 102, 49, 49, 49, 102, 49, 57, 50, 51, 102, 56, 50, 97, 52, 97, 98, 49, 99, 53, 101, 100, 53, 100, 56, 48, 55, 97, 97, 57, 56, 49, 50, 56, 51, 53, 98, 48, 49, 50, 52, 51, 49, 56, 53, 98, 101, 53, 53, 48, 99, 55, 100, 99, 51, 55, 50, 98, 101, 53, 100, 55, 52, 56, 48, 100, 101, 98, 49, 102, 101, 57, 98, 100, 99, 48, 54, 97, 55, 99, 49, 57, 98, 102, 49, 55, 52, 101, 52, 57, 98, 54, 57, 99, 49, 101, 102, 98, 101, 52, 55, 56, 54, 48, 102, 99, 49, 57, 100, 99, 54, 50, 52, 48, 99, 97, 49, 99, 99, 50, 100, 101, 57, 50, 99, 54, 102, 52, 97, 55, 52, 56, 52, 97, 97, 53, 99, 98, 48, 97, 57, 100, 99, 55, 54, 102, 57, 56, 56, 100, 97, 57, 56, 51, 101, 53, 49, 53, 50, 97, 56, 51, 49, 99, 54, 54, 100, 98, 48, 48, 51, 50, 55, 99, 56, 98, 102, 53, 57, 55, 102, 99, 55, 99, 54, 101, 48, 48, 98, 102, 51, 100, 53, 97, 55, 57, 49, 52, 55, 48, 54, 99, 97, 54, 51, 53, 49, 49, 52, 50, 57, 50, 57, 54, 55, 50, 55, 98, 55, 48, 97, 56, 53, 50, 101, 49, 98, 50, 49, 51, 56, 52, 100, 50, 99, 54, 100, 102, 99, 53, 51, 51, 56, 48, 100, 49, 51, 54, 53, 48, 97, 55, 51, 53, 52, 55, 54, 54, 97, 48, 97, 98, 98, 56, 49, 99, 50, 99, 57, 50, 101, 57, 50, 55, 50, 50, 99, 56, 53, 97, 50, 98, 102, 101, 56, 97, 49, 97, 56, 49, 97, 54, 54, 52, 98, 99, 50, 52, 98, 56, 98, 55, 48, 99, 55, 54, 99, 53, 49, 97, 51, 100, 49, 57, 50, 101, 56, 49, 57, 100, 54, 57, 57, 48, 54, 50, 52, 102, 52, 48, 101, 51, 53, 56, 53, 49, 48, 54, 97, 97, 48, 55, 48, 49, 57, 97, 52, 99, 49, 49, 54, 49, 101, 51, 55, 54, 99, 48, 56, 50, 55, 52, 56, 55, 55, 52, 99, 51, 52, 98, 48, 98, 99, 98, 53, 51, 57, 49, 99, 48, 99, 98, 51, 52, 101, 100, 56, 97, 97, 52, 97, 53, 98, 57, 99, 99, 97, 52, 102, 54, 56, 50, 101, 54, 102, 102, 51, 55, 52, 56, 102, 56, 50, 101, 101, 55, 56, 97, 53, 54, 51, 54, 102, 56, 52, 99, 56, 55, 56, 49, 52, 56, 99, 99, 55, 48, 50, 48, 56, 57, 48, 98, 101, 102, 102, 102, 97, 97, 52, 53, 48, 54, 99, 101, 98, 98, 101, 102, 57, 97, 51, 102, 55, 99, 54, 55, 49, 55, 56, 102, 50]
noncomputable def g_ref_block_l0 (r'1 : List UInt32) : UInt32 × UInt32 × UInt32 × UInt32 × UInt32 × UInt32 × UInt32 × UInt32 × Int → Option ((UInt32 × UInt32 × UInt32 × UInt32 × UInt32 × UInt32 × UInt32 × UInt32 × Int) ⊕ ((UInt32 × UInt32 × UInt32 × UInt32 × UInt32 × UInt32 × UInt32 × UInt32)))
  | (p6_0, q7_0, r8_0, s9_0, t10_0, u11_0, v12_0, x13_0, i14_0) => (if i14_0 < (64 : Int) then (g_ref_rot t10_0 (6 : Int)).bind fun r'2 => (g_ref_rot t10_0 (11 : Int)).bind fun r'3 => (g_ref_rot t10_0 (25 : Int)).bind fun r'4 => (g_ref_hexWord g_ref_block_t0 i14_0).bind fun r'5 => if 0 ≤ i14_0 ∧ i14_0 < (r'1.length : Int) then letO ((((x13_0 + ((r'2 ^^^ r'3) ^^^ r'4)) + ((t10_0 &&& u11_0) ||| ((~~~ t10_0) &&& v12_0))) + r'5) + (lrd r'1 i14_0.toNat)) fun one17'6 => (g_ref_rot p6_0 (2 : Int)).bind fun r'7 => (g_ref_rot p6_0 (13 : Int)).bind fun r'8 => (g_ref_rot p6_0 (22 : Int)).bind fun r'9 => letO (((r'7 ^^^ r'8) ^^^ r'9) + (((p6_0 &&& q7_0) ||| (p6_0 &&& r8_0)) ||| (q7_0 &&& r8_0))) fun two18'10 => some (.inl (one17'6 + two18'10, p6_0, q7_0, r8_0, s9_0 + one17'6, t10_0, u11_0, v12_0, w64 (i14_0 + (1 : Int)))) else none else some (.inr (p6_0, q7_0, r8_0, s9_0, t10_0, u11_0, v12_0, x13_0)))
noncomputable def g_ref_block (h0 : Vector UInt32 8) (b1 : List UInt8) : Option ((Vector UInt32 8)) :=
  (g_ref_schedule b1).bind fun r'1 => (loopO (g_ref_block_l0 r'1) ((vrd h0 0), (vrd h0 1), (vrd h0 2), (vrd h0 3), (vrd h0 4), (vrd h0 5), (vrd h0 6), (vrd h0 7), (0 : Int))).bind fun y'14 => letO (#v[(vrd h0 0) + y'14.1, (vrd h0 1) + y'14.2.1, (vrd h0 2) + y'14.2.2.1, (vrd h0 3) + y'14.2.2.2.1, (vrd h0 4) + y'14.2.2.2.2.1, (vrd h0 5) + y'14.2.2.2.2.2.1, (vrd h0 6) + y'14.2.2.2.2.2.2.1, (vrd h0 7) + y'14.2.2.2.2.2.2.2]) fun t4'15 => some t4'15
set_option maxHeartbeats 4000000 in
set_option maxRecDepth 100000 in
theorem g_ref_block_ac {h0 : Vector UInt32 8} {b1 : List UInt8} {r : (Vector UInt32 8)} (H : g_ref_block h0 b1 = some r) : ACp Tryd.prog 51 [(.agg (h0.toList.map AV.u32)), (AV.txt b1)] (.agg (r.toList.map AV.u32)) := by
  refine ACp_of (AC2_of_body (vs := [.c (.p (.agg (r.toList.map AV.u32)))]) Tryd.func51 rfl rfl (Nat.le_of_ble_eq_true rfl) rfl ?_) (fun _ => .same _)
  unfold g_ref_block at H
  refine AW2_st [(0, .c (.p (.agg (h0.toList.map AV.u32)))), (1, .c (.p (AV.txt b1)))] [] rfl ⟨TLes.same _, TLes.same _, trivial⟩ trivial ?_
  refine AW2_seq ?_
  refine AW2_reg [0, 1] rfl ?_
  refine r_op rfl rfl (MakeD.opD (n_box 2 rfl rfl) rfl rfl rfl rfl) ?_
  refine r_op rfl rfl (MakeD.opD (u_alloc 4 rfl in_27 one_27 zc_27) rfl rfl rfl rfl) ?_
  refine RunW_st [(1, .c (.p (AV.txt b1))), (2, .c (.ptr 2 (0))), (4, .c (.ptr 4 (0)))] [(2, .pure (h0.toList.map AV.u32)), (4, .pure (((Vector.replicate 8 (0 : UInt32)).toList).map AV.u32))] rfl ⟨TLes.same _, TLes.same _, TLes.same _, trivial⟩ ⟨rfl, rfl, trivial⟩ ?_
  refine RunW_nil ?_
  refine AW2_seq ?_
  refine AW2_reg [0, 1, 2] rfl ?_
  refine r_op rfl rfl (PureD.opD (p_move rfl rfl)) ?_
  refine bindK H fun r'1 h1 H => ?_
  refine r_op rfl rfl (PureD.opD (p_callp rfl rfl rfl Tryd.func54 rfl rfl (g_ref_schedule_ac h1) ⟨rfl, trivial⟩)) ?_
  refine r_op rfl rfl (PureD.opD (p_asg rfl rfl)) ?_
  refine RunW_st [(2, .c (.ptr 2 (0))), (4, .c (.ptr 4 (0))), (5, .c (.p ((fun q : List UInt32 => AV.lst (q.map AV.u32) q.length) r'1)))] [(2, .pure (h0.toList.map AV.u32)), (4, .pure (((Vector.replicate 8 (0 : UInt32)).toList).map AV.u32))] rfl ⟨TLes.same _, TLes.same _, TLes.same _, trivial⟩ ⟨rfl, rfl, trivial⟩ ?_
  refine RunW_nil ?_
  refine AW2_seq ?_
  refine AW2_ghoQ ?_
  refine AW2_draw 23 [23] (fun k => ([.c (.ptr 2 (0 + 0 * 1)), .c (.p (AV.u32 (vrd h0 0))), .c (.ptr 2 (0 + 1 * 1)), .c (.p (AV.u32 (vrd h0 1))), .c (.ptr 2 (0 + 2 * 1)), .c (.p (AV.u32 (vrd h0 2))), .c (.ptr 2 (0 + 3 * 1)), .c (.p (AV.u32 (vrd h0 3))), .c (.ptr 2 (0 + 4 * 1)), .c (.p (AV.u32 (vrd h0 4))), .c (.ptr 2 (0 + 5 * 1)), .c (.p (AV.u32 (vrd h0 5))), .c (.ptr 2 (0 + 6 * 1)), .c (.p (AV.u32 (vrd h0 6))), .c (.ptr 2 (0 + 7 * 1)), .c (.p (AV.u32 (vrd h0 7))), .c (.p (AV.u32 (vrd h0 0))), .c (.p (AV.u32 (vrd h0 1))), .c (.p (AV.u32 (vrd h0 2))), .c (.p (AV.u32 (vrd h0 3))), .c (.p (AV.u32 (vrd h0 4))), .c (.p (AV.u32 (vrd h0 5))), .c (.p (AV.u32 (vrd h0 6)))] : List TV).getD k TV.any) (fun k => ([[(2, none)], [(21, some 0)], [(2, none)], [(23, some 2)], [(2, none)], [(25, some 4)], [(2, none)], [(27, some 6)], [(2, none)], [(29, some 8)], [(2, none)], [(31, some 10)], [(2, none)], [(33, some 12)], [(2, none)], [(35, some 14)], [(22, some 1)], [(24, some 3)], [(26, some 5)], [(28, some 7)], [(30, some 9)], [(32, some 11)], [(34, some 13)]] : List (List (Nat × Option Nat))).getD k []) [(2, none), (4, none), (5, none), (6, some 16), (7, some 17), (8, some 18), (9, some 19), (10, some 20), (11, some 21), (12, some 22), (36, some 15)] [] (fun k => ([[], [0], [], [2], [], [4], [], [6], [], [8], [], [10], [], [12], [], [14], [0, 1], [0, 1, 2, 3, 16], [0, 1, 2, 3, 4, 5, 16, 17], [0, 1, 2, 3, 4, 5, 6, 7, 16, 17, 18], [0, 1, 2, 3, 4, 5, 6, 7, 8, 9, 16, 17, 18, 19], [0, 1, 2, 3, 4, 5, 6, 7, 8, 9, 10, 11, 16, 17, 18, 19, 20], [0, 1, 2, 3, 4, 5, 6, 7, 8, 9, 10, 11, 12, 13, 16, 17, 18, 19, 20, 21], [0, 1, 2, 3, 4, 5, 6, 7, 8, 9, 10, 11, 12, 13, 14, 15, 16, 17, 18, 19, 20, 21, 22]] : List (List Nat)).getD k []) mixed (by kernel_rfl) rfl rfl (a_op (g_x rfl (x_p rfl (u_ixp rfl rfl Tryd.underlying27 in_26 rfl rfl (ne_of_lt (n := 0) (Nat.lt_of_lt_of_eq (by decide) (Eq.symm (vmap_len (f := AV.u32) h0)))) rfl rfl (by decide)) rfl)) (a_op (g_x rfl (x_p rfl (u_ld rfl rfl Tryd.underlying26 rfl rfl ((Sub.refl _).trans (Sub.vmap (by decide)))) rfl)) (a_op (g_x rfl (x_p rfl (u_ixp rfl rfl Tryd.underlying27 in_26 rfl rfl (ne_of_lt (n := 0) (Nat.lt_of_lt_of_eq (by decide) (Eq.symm (vmap_len (f := AV.u32) h0)))) rfl rfl (by decide)) rfl)) (a_op (g_x rfl (x_p rfl (u_ld rfl rfl Tryd.underlying26 rfl rfl ((Sub.refl _).trans (Sub.vmap (by decide)))) rfl)) (a_op (g_x rfl (x_p rfl (u_ixp rfl rfl Tryd.underlying27 in_26 rfl rfl (ne_of_lt (n := 0) (Nat.lt_of_lt_of_eq (by decide) (Eq.symm (vmap_len (f := AV.u32) h0)))) rfl rfl (by decide)) rfl)) (a_op (g_x rfl (x_p rfl (u_ld rfl rfl Tryd.underlying26 rfl rfl ((Sub.refl _).trans (Sub.vmap (by decide)))) rfl)) (a_op (g_x rfl (x_p rfl (u_ixp rfl rfl Tryd.underlying27 in_26 rfl rfl (ne_of_lt (n := 0) (Nat.lt_of_lt_of_eq (by decide) (Eq.symm (vmap_len (f := AV.u32) h0)))) rfl rfl (by decide)) rfl)) (a_op (g_x rfl (x_p rfl (u_ld rfl rfl Tryd.underlying26 rfl rfl ((Sub.refl _).trans (Sub.vmap (by decide)))) rfl)) (a_op (g_x rfl (x_p rfl (u_ixp rfl rfl Tryd.underlying27 in_26 rfl rfl (ne_of_lt (n := 0) (Nat.lt_of_lt_of_eq (by decide) (Eq.symm (vmap_len (f := AV.u32) h0)))) rfl rfl (by decide)) rfl)) (a_op (g_x rfl (x_p rfl (u_ld rfl rfl Tryd.underlying26 rfl rfl ((Sub.refl _).trans (Sub.vmap (by decide)))) rfl)) (a_op (g_x rfl (x_p rfl (u_ixp rfl rfl Tryd.underlying27 in_26 rfl rfl (ne_of_lt (n := 0) (Nat.lt_of_lt_of_eq (by decide) (Eq.symm (vmap_len (f := AV.u32) h0)))) rfl rfl (by decide)) rfl)) (a_op (g_x rfl (x_p rfl (u_ld rfl rfl Tryd.underlying26 rfl rfl ((Sub.refl _).trans (Sub.vmap (by decide)))) rfl)) (a_op (g_x rfl (x_p rfl (u_ixp rfl rfl Tryd.underlying27 in_26 rfl rfl (ne_of_lt (n := 0) (Nat.lt_of_lt_of_eq (by decide) (Eq.symm (vmap_len (f := AV.u32) h0)))) rfl rfl (by decide)) rfl)) (a_op (g_x rfl (x_p rfl (u_ld rfl rfl Tryd.underlying26 rfl rfl ((Sub.refl _).trans (Sub.vmap (by decide)))) rfl)) (a_op (g_x rfl (x_p rfl (u_ixp rfl rfl Tryd.underlying27 in_26 rfl rfl (ne_of_lt (n := 0) (Nat.lt_of_lt_of_eq (by decide) (Eq.symm (vmap_len (f := AV.u32) h0)))) rfl rfl (by decide)) rfl)) (a_op (g_x rfl (x_p rfl (u_ld rfl rfl Tryd.underlying26 rfl rfl ((Sub.refl _).trans (Sub.vmap (by decide)))) rfl)) (a_op (g_x rfl (x_p rfl (p_asg rfl rfl) rfl)) (a_op (g_x rfl (x_p rfl (p_asg rfl rfl) rfl)) (a_op (g_x rfl (x_p rfl (p_asg rfl rfl) rfl)) (a_op (g_x rfl (x_p rfl (p_asg rfl rfl) rfl)) (a_op (g_x rfl (x_p rfl (p_asg rfl rfl) rfl)) (a_op (g_x rfl (x_p rfl (p_asg rfl rfl) rfl)) (a_op (g_x rfl (x_p rfl (p_asg rfl rfl) rfl)) (a_nil)))))))))))))))))))))))) ?_
  refine t_op rfl rfl (PureD.opD (p_asg rfl rfl)) ?_
  refine t_gho (Gho_st (L := [(2, .c (.ptr 2 (0))), (4, .c (.ptr 4 (0))), (5, .c (.p ((fun q : List UInt32 => AV.lst (q.map AV.u32) q.length) r'1))), (6, .c (.p (AV.u32 (vrd h0 0)))), (7, .c (.p (AV.u32 (vrd h0 1)))), (8, .c (.p (AV.u32 (vrd h0 2)))), (9, .c (.p (AV.u32 (vrd h0 3)))), (10, .c (.p (AV.u32 (vrd h0 4)))), (11, .c (.p (AV.u32 (vrd h0 5)))), (12, .c (.p (AV.u32 (vrd h0 6)))), (13, .c (.p (AV.u32 (vrd h0 7))))]) (H := [(2, .pure (h0.toList.map AV.u32)), (4, .pure (((Vector.replicate 8 (0 : UInt32)).toList).map AV.u32))]) rfl ⟨TLes.same _, TLes.same _, TLes.same _, TLes.same _, TLes.same _, TLes.same _, TLes.same _, TLes.same _, TLes.same _, TLes.same _, TLes.same _, trivial⟩ ⟨rfl, rfl, trivial⟩) ?_
  refine AW2_seq ?_
  refine AW2_seq ?_
  refine AW2_reg [0] rfl ?_
  refine r_op rfl rfl (PureD.opD (p_asg rfl rfl)) ?_
  refine RunW_st [(2, .c (.ptr 2 (0))), (4, .c (.ptr 4 (0))), (5, .c (.p ((fun q : List UInt32 => AV.lst (q.map AV.u32) q.length) r'1))), (6, .c (.p (AV.u32 (vrd h0 0)))), (7, .c (.p (AV.u32 (vrd h0 1)))), (8, .c (.p (AV.u32 (vrd h0 2)))), (9, .c (.p (AV.u32 (vrd h0 3)))), (10, .c (.p (AV.u32 (vrd h0 4)))), (11, .c (.p (AV.u32 (vrd h0 5)))), (12, .c (.p (AV.u32 (vrd h0 6)))), (13, .c (.p (AV.u32 (vrd h0 7)))), (14, .c (.p (AV.int (0 : Int))))] [(2, .pure (h0.toList.map AV.u32)), (4, .pure (((Vector.replicate 8 (0 : UInt32)).toList).map AV.u32))] rfl ⟨TLes.same _, TLes.same _, TLes.same _, TLes.same _, TLes.same _, TLes.same _, TLes.same _, TLes.same _, TLes.same _, TLes.same _, TLes.same _, TLes.same _, trivial⟩ ⟨rfl, rfl, trivial⟩ ?_
  refine RunW_nil ?_
  refine AW2_block ?_
  refine AW2_st [(2, .c (.ptr 2 (0))), (4, .c (.ptr 4 (0))), (5, .c (.p ((fun q : List UInt32 => AV.lst (q.map AV.u32) q.length) r'1))), (6, .c (.p (AV.u32 (vrd h0 0)))), (7, .c (.p (AV.u32 (vrd h0 1)))), (8, .c (.p (AV.u32 (vrd h0 2)))), (9, .c (.p (AV.u32 (vrd h0 3)))), (10, .c (.p (AV.u32 (vrd h0 4)))), (11, .c (.p (AV.u32 (vrd h0 5)))), (12, .c (.p (AV.u32 (vrd h0 6)))), (13, .c (.p (AV.u32 (vrd h0 7)))), (14, .c (.p (AV.int (0 : Int))))] [(2, .pure (h0.toList.map AV.u32)), (4, .pure (((Vector.replicate 8 (0 : UInt32)).toList).map AV.u32))] rfl ⟨TLes.same _, TLes.same _, TLes.same _, TLes.same _, TLes.same _, TLes.same _, TLes.same _, TLes.same _, TLes.same _, TLes.same _, TLes.same _, TLes.same _, trivial⟩ ⟨rfl, rfl, trivial⟩ ?_
  refine bindK H fun y'14 h11 H => ?_
  refine AW2_loopO (fun a'11 : UInt32 × UInt32 × UInt32 × UInt32 × UInt32 × UInt32 × UInt32 × UInt32 × Int => (⟨[(2, .c (.ptr 2 (0))), (4, .c (.ptr 4 (0))), (5, .c (.p ((fun q : List UInt32 => AV.lst (q.map AV.u32) q.length) r'1))), (6, .c (.p (AV.u32 a'11.1))), (7, .c (.p (AV.u32 a'11.2.1))), (8, .c (.p (AV.u32 a'11.2.2.1))), (9, .c (.p (AV.u32 a'11.2.2.2.1))), (10, .c (.p (AV.u32 a'11.2.2.2.2.1))), (11, .c (.p (AV.u32 a'11.2.2.2.2.2.1))), (12, .c (.p (AV.u32 a'11.2.2.2.2.2.2.1))), (13, .c (.p (AV.u32 a'11.2.2.2.2.2.2.2.1))), (14, .c (.p (AV.int a'11.2.2.2.2.2.2.2.2)))], [(2, .pure (h0.toList.map AV.u32)), (4, .pure (((Vector.replicate 8 (0 : UInt32)).toList).map AV.u32))], 135⟩ : TS)) (fun (y'12 : (UInt32 × UInt32 × UInt32 × UInt32 × UInt32 × UInt32 × UInt32 × UInt32)) e s' => e = Go.Exit.exit 0 ∧ s' = (⟨[(2, .c (.ptr 2 (0))), (4, .c (.ptr 4 (0))), (6, .c (.p (AV.u32 y'12.1))), (7, .c (.p (AV.u32 y'12.2.1))), (8, .c (.p (AV.u32 y'12.2.2.1))), (9, .c (.p (AV.u32 y'12.2.2.2.1))), (10, .c (.p (AV.u32 y'12.2.2.2.2.1))), (11, .c (.p (AV.u32 y'12.2.2.2.2.2.1))), (12, .c (.p (AV.u32 y'12.2.2.2.2.2.2.1))), (13, .c (.p (AV.u32 y'12.2.2.2.2.2.2.2)))], [(2, .pure (h0.toList.map AV.u32)), (4, .pure (((Vector.replicate 8 (0 : UInt32)).toList).map AV.u32))], 135⟩ : TS)) h11 rfl (fun a x hx => ?_) (fun e s' hs => ?_)
  · clear H
    obtain ⟨p6_0, q7_0, r8_0, s9_0, t10_0, u11_0, v12_0, x13_0, i14_0⟩ := a
    have H := hx
    clear hx
    unfold g_ref_block_l0 at H
    refine AW2_seq ?_
    refine AW2_seq ?_
    refine AW2_reg [0, 1] rfl ?_
    refine r_op rfl rfl (PureD.opD (p_move rfl rfl)) ?_
    refine r_op rfl rfl (PureD.opD (p_bin rfl rfl rfl rfl)) ?_
    refine RunW_st [(2, .c (.ptr 2 (0))), (4, .c (.ptr 4 (0))), (5, .c (.p ((fun q : List UInt32 => AV.lst (q.map AV.u32) q.length) r'1))), (6, .c (.p (AV.u32 p6_0))), (7, .c (.p (AV.u32 q7_0))), (8, .c (.p (AV.u32 r8_0))), (9, .c (.p (AV.u32 s9_0))), (10, .c (.p (AV.u32 t10_0))), (11, .c (.p (AV.u32 u11_0))), (12, .c (.p (AV.u32 v12_0))), (13, .c (.p (AV.u32 x13_0))), (14, .c (.p (AV.int i14_0))), (38, .c (.p (.bool (decide (i14_0 < (64 : Int))))))] [(2, .pure (h0.toList.map AV.u32)), (4, .pure (((Vector.replicate 8 (0 : UInt32)).toList).map AV.u32))] rfl ⟨TLes.same _, TLes.same _, TLes.same _, TLes.same _, TLes.same _, TLes.same _, TLes.same _, TLes.same _, TLes.same _, TLes.same _, TLes.same _, TLes.same _, TLes.same _, trivial⟩ ⟨rfl, rfl, trivial⟩ ?_
    refine RunW_nil ?_
    refine AW2_if (p := i14_0 < (64 : Int)) rfl (fun h2 => ?_) (fun h2 => ?_)
    · replace H := ite_then h2 H
      refine AW2_st [(2, .c (.ptr 2 (0))), (4, .c (.ptr 4 (0))), (5, .c (.p ((fun q : List UInt32 => AV.lst (q.map AV.u32) q.length) r'1))), (6, .c (.p (AV.u32 p6_0))), (7, .c (.p (AV.u32 q7_0))), (8, .c (.p (AV.u32 r8_0))), (9, .c (.p (AV.u32 s9_0))), (10, .c (.p (AV.u32 t10_0))), (11, .c (.p (AV.u32 u11_0))), (12, .c (.p (AV.u32 v12_0))), (13, .c (.p (AV.u32 x13_0))), (14, .c (.p (AV.int i14_0)))] [(2, .pure (h0.toList.map AV.u32)), (4, .pure (((Vector.replicate 8 (0 : UInt32)).toList).map AV.u32))] rfl ⟨TLes.same _, TLes.same _, TLes.same _, TLes.same _, TLes.same _, TLes.same _, TLes.same _, TLes.same _, TLes.same _, TLes.same _, TLes.same _, TLes.same _, trivial⟩ ⟨rfl, rfl, trivial⟩ ?_
      refine AW2_skip ?_
      refine AW2_seq ?_
      refine AW2_block ?_
      refine AW2_seq ?_
      refine AW2_reg [0, 1, 2, 3, 4, 5, 6, 7, 8] rfl ?_
      refine r_op rfl rfl (PureD.opD (p_move rfl rfl)) ?_
      refine r_op rfl rfl (PureD.opD (p_move rfl rfl)) ?_
      refine r_op rfl rfl (PureD.opD (p_u32and (a := t10_0) (b := u11_0) rfl rfl rfl)) ?_
      refine r_op rfl rfl (PureD.opD (p_move rfl rfl)) ?_
      refine r_op rfl rfl (PureD.opD (p_u32cpl rfl rfl)) ?_
      refine r_op rfl rfl (PureD.opD (p_move rfl rfl)) ?_
      refine r_op rfl rfl (PureD.opD (p_u32and (a := ~~~ t10_0) (b := v12_0) rfl rfl rfl)) ?_
      refine r_op rfl rfl (PureD.opD (p_u32or (a := t10_0 &&& u11_0) (b := (~~~ t10_0) &&& v12_0) rfl rfl rfl)) ?_
      refine r_op rfl rfl (PureD.opD (p_asg rfl rfl)) ?_
      refine RunW_st [(2, .c (.ptr 2 (0))), (4, .c (.ptr 4 (0))), (5, .c (.p ((fun q : List UInt32 => AV.lst (q.map AV.u32) q.length) r'1))), (6, .c (.p (AV.u32 p6_0))), (7, .c (.p (AV.u32 q7_0))), (8, .c (.p (AV.u32 r8_0))), (9, .c (.p (AV.u32 s9_0))), (10, .c (.p (AV.u32 t10_0))), (11, .c (.p (AV.u32 u11_0))), (12, .c (.p (AV.u32 v12_0))), (13, .c (.p (AV.u32 x13_0))), (14, .c (.p (AV.int i14_0))), (15, .c (.p (AV.u32 ((t10_0 &&& u11_0) ||| ((~~~ t10_0) &&& v12_0)))))] [(2, .pure (h0.toList.map AV.u32)), (4, .pure (((Vector.replicate 8 (0 : UInt32)).toList).map AV.u32))] rfl ⟨TLes.same _, TLes.same _, TLes.same _, TLes.same _, TLes.same _, TLes.same _, TLes.same _, TLes.same _, TLes.same _, TLes.same _, TLes.same _, TLes.same _, TLes.same _, trivial⟩ ⟨rfl, rfl, trivial⟩ ?_
      refine RunW_nil ?_
      refine AW2_seq ?_
      refine AW2_reg [0, 1, 2, 3, 4, 5, 6, 7, 8, 9, 10, 11] rfl ?_
      refine r_op rfl rfl (PureD.opD (p_move rfl rfl)) ?_
      refine r_op rfl rfl (PureD.opD (p_move rfl rfl)) ?_
      refine r_op rfl rfl (PureD.opD (p_u32and (a := p6_0) (b := q7_0) rfl rfl rfl)) ?_
      refine r_op rfl rfl (PureD.opD (p_move rfl rfl)) ?_
      refine r_op rfl rfl (PureD.opD (p_move rfl rfl)) ?_
      refine r_op rfl rfl (PureD.opD (p_u32and (a := p6_0) (b := r8_0) rfl rfl rfl)) ?_
      refine r_op rfl rfl (PureD.opD (p_u32or (a := p6_0 &&& q7_0) (b := p6_0 &&& r8_0) rfl rfl rfl)) ?_
      refine r_op rfl rfl (PureD.opD (p_move rfl rfl)) ?_
      refine r_op rfl rfl (PureD.opD (p_move rfl rfl)) ?_
      refine r_op rfl rfl (PureD.opD (p_u32and (a := q7_0) (b := r8_0) rfl rfl rfl)) ?_
      refine r_op rfl rfl (PureD.opD (p_u32or (a := (p6_0 &&& q7_0) ||| (p6_0 &&& r8_0)) (b := q7_0 &&& r8_0) rfl rfl rfl)) ?_
      refine r_op rfl rfl (PureD.opD (p_asg rfl rfl)) ?_
      refine RunW_st [(2, .c (.ptr 2 (0))), (4, .c (.ptr 4 (0))), (5, .c (.p ((fun q : List UInt32 => AV.lst (q.map AV.u32) q.length) r'1))), (6, .c (.p (AV.u32 p6_0))), (7, .c (.p (AV.u32 q7_0))), (8, .c (.p (AV.u32 r8_0))), (9, .c (.p (AV.u32 s9_0))), (10, .c (.p (AV.u32 t10_0))), (11, .c (.p (AV.u32 u11_0))), (12, .c (.p (AV.u32 v12_0))), (13, .c (.p (AV.u32 x13_0))), (14, .c (.p (AV.int i14_0))), (15, .c (.p (AV.u32 ((t10_0 &&& u11_0) ||| ((~~~ t10_0) &&& v12_0))))), (16, .c (.p (AV.u32 (((p6_0 &&& q7_0) ||| (p6_0 &&& r8_0)) ||| (q7_0 &&& r8_0)))))] [(2, .pure (h0.toList.map AV.u32)), (4, .pure (((Vector.replicate 8 (0 : UInt32)).toList).map AV.u32))] rfl ⟨TLes.same _, TLes.same _, TLes.same _, TLes.same _, TLes.same _, TLes.same _, TLes.same _, TLes.same _, TLes.same _, TLes.same _, TLes.same _, TLes.same _, TLes.same _, TLes.same _, trivial⟩ ⟨rfl, rfl, trivial⟩ ?_
      refine RunW_nil ?_
      refine AW2_seq ?_
      refine bindK H fun r'2 h3 H => ?_
      refine bindK H fun r'3 h4 H => ?_
      refine bindK H fun r'4 h5 H => ?_
      refine bindK H fun r'5 h6 H => ?_
      refine chkK H fun h7 H => ?_
      refine AW2_ghoQ ?_
      refine AW2_draw 19 [19, 20] (fun k => ([.c (.p (AV.u32 x13_0)), .c (.p (AV.u32 t10_0)), .c (.p (AV.u32 r'2)), .c (.p (AV.u32 t10_0)), .c (.p (AV.u32 r'3)), .c (.p (AV.u32 (r'2 ^^^ r'3))), .c (.p (AV.u32 t10_0)), .c (.p (AV.u32 r'4)), .c (.p (AV.u32 ((r'2 ^^^ r'3) ^^^ r'4))), .c (.p (AV.u32 (x13_0 + ((r'2 ^^^ r'3) ^^^ r'4)))), .c (.p (AV.u32 ((t10_0 &&& u11_0) ||| ((~~~ t10_0) &&& v12_0)))), .c (.p (AV.u32 ((x13_0 + ((r'2 ^^^ r'3) ^^^ r'4)) + ((t10_0 &&& u11_0) ||| ((~~~ t10_0) &&& v12_0))))), .c (.p (AV.int i14_0)), .c (.p (AV.u32 r'5)), .c (.p (AV.u32 (((x13_0 + ((r'2 ^^^ r'3) ^^^ r'4)) + ((t10_0 &&& u11_0) ||| ((~~~ t10_0) &&& v12_0))) + r'5))), .c (.p ((fun q : List UInt32 => AV.lst (q.map AV.u32) q.length) r'1)), .c (.p (AV.int i14_0)), .c (.p (.rptr (r'1.map AV.u32) (i14_0.toNat * 1))), .c (.p (AV.u32 (lrd r'1 i14_0.toNat)))] : List TV).getD k TV.any) (fun k => ([[(13, none)], [(10, none)], [(61, some 1)], [(10, none)], [(63, some 3)], [(62, some 2), (64, some 4)], [(10, none)], [(66, some 6)], [(65, some 5), (67, some 7)], [(60, some 0), (68, some 8)], [(15, none)], [(69, some 9), (70, some 10)], [(14, none)], [(72, some 12)], [(71, some 11), (73, some 13)], [(5, none)], [(14, none)], [(75, some 15), (76, some 16)], [(77, some 17)]] : List (List (Nat × Option Nat))).getD k []) [(2, none), (4, none), (5, none), (6, none), (7, none), (8, none), (9, none), (10, none), (11, none), (12, none), (14, none), (16, none), (74, some 14), (78, some 18)] [] (fun k => ([[], [], [1], [], [1, 2, 3], [1, 2, 3, 4], [], [1, 2, 3, 4, 6], [1, 2, 3, 4, 5, 6, 7], [0, 1, 2, 3, 4, 5, 6, 7, 8], [], [0, 1, 2, 3, 4, 5, 6, 7, 8, 9, 10], [], [1, 2, 3, 4, 6, 7, 12], [0, 1, 2, 3, 4, 5, 6, 7, 8, 9, 10, 11, 12, 13], [], [], [15, 16], [15, 16, 17], [0, 1, 2, 3, 4, 5, 6, 7, 8, 9, 10, 11, 12, 13, 14, 15, 16, 17, 18], [0, 1, 2, 3, 4, 5, 6, 7, 8, 9, 10, 11, 12, 13, 14, 15, 16, 17, 18, 19]] : List (List Nat)).getD k []) mixed (by kernel_rfl) rfl rfl (a_op (g_x rfl (x_p rfl (p_move rfl rfl) rfl)) (a_op (g_x rfl (x_p rfl (p_move rfl rfl) rfl)) (a_op (g_x rfl (x_p rfl (p_callp rfl rfl rfl Tryd.func55 rfl rfl (g_ref_rot_ac h3) ⟨rfl, rfl, trivial⟩) rfl)) (a_op (g_x rfl (x_p rfl (p_move rfl rfl) rfl)) (a_op (g_x rfl (x_p rfl (p_callp rfl rfl rfl Tryd.func55 rfl rfl (g_ref_rot_ac h4) ⟨rfl, rfl, trivial⟩) rfl)) (a_op (g_x rfl (x_p rfl (p_u32xor (a := r'2) (b := r'3) rfl rfl rfl) rfl)) (a_op (g_x rfl (x_p rfl (p_move rfl rfl) rfl)) (a_op (g_x rfl (x_p rfl (p_callp rfl rfl rfl Tryd.func55 rfl rfl (g_ref_rot_ac h5) ⟨rfl, rfl, trivial⟩) rfl)) (a_op (g_x rfl (x_p rfl (p_u32xor (a := r'2 ^^^ r'3) (b := r'4) rfl rfl rfl) rfl)) (a_op (g_x rfl (x_p rfl (p_u32add (a := x13_0) (b := (r'2 ^^^ r'3) ^^^ r'4) rfl rfl rfl) rfl)) (a_op (g_x rfl (x_p rfl (p_move rfl rfl) rfl)) (a_op (g_x rfl (x_p rfl (p_u32add (a := x13_0 + ((r'2 ^^^ r'3) ^^^ r'4)) (b := (t10_0 &&& u11_0) ||| ((~~~ t10_0) &&& v12_0)) rfl rfl rfl) rfl)) (a_op (g_x rfl (x_p rfl (p_move rfl rfl) rfl)) (a_op (g_x rfl (x_p rfl (p_callp rfl rfl rfl Tryd.func40 rfl rfl (g_ref_hexWord_ac h6) ⟨by kernel_rfl, rfl, trivial⟩) rfl)) (a_op (g_x rfl (x_p rfl (p_u32add (a := (x13_0 + ((r'2 ^^^ r'3) ^^^ r'4)) + ((t10_0 &&& u11_0) ||| ((~~~ t10_0) &&& v12_0))) (b := r'5) rfl rfl rfl) rfl)) (a_op (g_x rfl (x_p rfl (p_move rfl rfl) rfl)) (a_op (g_x rfl (x_p rfl (p_move rfl rfl) rfl)) (a_op (g_x rfl (x_p rfl (u_ixl rfl rfl Tryd.underlying73 in_26 rfl rfl (ixe h7) (ixn h7) (lne (ixn h7))) rfl)) (a_op (g_x rfl (x_p rfl (u_ld rfl rfl Tryd.underlying26 rfl rfl (Sub.map default (ixn h7))) rfl)) (a_nil)))))))))))))))))))) ?_
      refine t_op rfl rfl (PureD.opD (p_u32add (a := ((x13_0 + ((r'2 ^^^ r'3) ^^^ r'4)) + ((t10_0 &&& u11_0) ||| ((~~~ t10_0) &&& v12_0))) + r'5) (b := (lrd r'1 i14_0.toNat)) rfl rfl rfl)) ?_
      refine t_op rfl rfl (PureD.opD (p_asg rfl rfl)) ?_
      refine t_gho (Gho_st (L := [(2, .c (.ptr 2 (0))), (4, .c (.ptr 4 (0))), (5, .c (.p ((fun q : List UInt32 => AV.lst (q.map AV.u32) q.length) r'1))), (6, .c (.p (AV.u32 p6_0))), (7, .c (.p (AV.u32 q7_0))), (8, .c (.p (AV.u32 r8_0))), (9, .c (.p (AV.u32 s9_0))), (10, .c (.p (AV.u32 t10_0))), (11, .c (.p (AV.u32 u11_0))), (12, .c (.p (AV.u32 v12_0))), (14, .c (.p (AV.int i14_0))), (16, .c (.p (AV.u32 (((p6_0 &&& q7_0) ||| (p6_0 &&& r8_0)) ||| (q7_0 &&& r8_0))))), (17, .c (.p (AV.u32 ((((x13_0 + ((r'2 ^^^ r'3) ^^^ r'4)) + ((t10_0 &&& u11_0) ||| ((~~~ t10_0) &&& v12_0))) + r'5) + (lrd r'1 i14_0.toNat)))))]) (H := [(2, .pure (h0.toList.map AV.u32)), (4, .pure (((Vector.replicate 8 (0 : UInt32)).toList).map AV.u32))]) rfl ⟨TLes.same _, TLes.same _, TLes.same _, TLes.same _, TLes.same _, TLes.same _, TLes.same _, TLes.same _, TLes.same _, TLes.same _, TLes.same _, TLes.same _, TLes.same _, trivial⟩ ⟨rfl, rfl, trivial⟩) ?_
      refine gen1 (fun one17'6 => (⟨[(2, .c (.ptr 2 (0))), (4, .c (.ptr 4 (0))), (5, .c (.p ((fun q : List UInt32 => AV.lst (q.map AV.u32) q.length) r'1))), (6, .c (.p (AV.u32 p6_0))), (7, .c (.p (AV.u32 q7_0))), (8, .c (.p (AV.u32 r8_0))), (9, .c (.p (AV.u32 s9_0))), (10, .c (.p (AV.u32 t10_0))), (11, .c (.p (AV.u32 u11_0))), (12, .c (.p (AV.u32 v12_0))), (14, .c (.p (AV.int i14_0))), (16, .c (.p (AV.u32 (((p6_0 &&& q7_0) ||| (p6_0 &&& r8_0)) ||| (q7_0 &&& r8_0))))), (17, .c (.p (AV.u32 one17'6)))], [(2, .pure (h0.toList.map AV.u32)), (4, .pure (((Vector.replicate 8 (0 : UInt32)).toList).map AV.u32))], 135⟩ : TS)) H ?_
      intro one17'6 H
      refine AW2_seq ?_
      refine AW2_reg [0, 1, 2, 3, 4, 5, 6, 7, 8, 9, 10] rfl ?_
      refine r_op rfl rfl (PureD.opD (p_move rfl rfl)) ?_
      refine bindK H fun r'7 h8 H => ?_
      refine r_op rfl rfl (PureD.opD (p_callp rfl rfl rfl Tryd.func55 rfl rfl (g_ref_rot_ac h8) ⟨rfl, rfl, trivial⟩)) ?_
      refine r_op rfl rfl (PureD.opD (p_move rfl rfl)) ?_
      refine bindK H fun r'8 h9 H => ?_
      refine r_op rfl rfl (PureD.opD (p_callp rfl rfl rfl Tryd.func55 rfl rfl (g_ref_rot_ac h9) ⟨rfl, rfl, trivial⟩)) ?_
      refine r_op rfl rfl (PureD.opD (p_u32xor (a := r'7) (b := r'8) rfl rfl rfl)) ?_
      refine r_op rfl rfl (PureD.opD (p_move rfl rfl)) ?_
      refine bindK H fun r'9 h10 H => ?_
      refine r_op rfl rfl (PureD.opD (p_callp rfl rfl rfl Tryd.func55 rfl rfl (g_ref_rot_ac h10) ⟨rfl, rfl, trivial⟩)) ?_
      refine r_op rfl rfl (PureD.opD (p_u32xor (a := r'7 ^^^ r'8) (b := r'9) rfl rfl rfl)) ?_
      refine r_op rfl rfl (PureD.opD (p_move rfl rfl)) ?_
      refine r_op rfl rfl (PureD.opD (p_u32add (a := (r'7 ^^^ r'8) ^^^ r'9) (b := ((p6_0 &&& q7_0) ||| (p6_0 &&& r8_0)) ||| (q7_0 &&& r8_0)) rfl rfl rfl)) ?_
      refine r_op rfl rfl (PureD.opD (p_asg rfl rfl)) ?_
      refine RunW_st [(2, .c (.ptr 2 (0))), (4, .c (.ptr 4 (0))), (5, .c (.p ((fun q : List UInt32 => AV.lst (q.map AV.u32) q.length) r'1))), (6, .c (.p (AV.u32 p6_0))), (7, .c (.p (AV.u32 q7_0))), (8, .c (.p (AV.u32 r8_0))), (9, .c (.p (AV.u32 s9_0))), (10, .c (.p (AV.u32 t10_0))), (11, .c (.p (AV.u32 u11_0))), (12, .c (.p (AV.u32 v12_0))), (14, .c (.p (AV.int i14_0))), (17, .c (.p (AV.u32 one17'6))), (18, .c (.p (AV.u32 (((r'7 ^^^ r'8) ^^^ r'9) + (((p6_0 &&& q7_0) ||| (p6_0 &&& r8_0)) ||| (q7_0 &&& r8_0))))))] [(2, .pure (h0.toList.map AV.u32)), (4, .pure (((Vector.replicate 8 (0 : UInt32)).toList).map AV.u32))] rfl ⟨TLes.same _, TLes.same _, TLes.same _, TLes.same _, TLes.same _, TLes.same _, TLes.same _, TLes.same _, TLes.same _, TLes.same _, TLes.same _, TLes.same _, TLes.same _, trivial⟩ ⟨rfl, rfl, trivial⟩ ?_
      refine RunW_nil ?_
      refine gen1 (fun two18'10 => (⟨[(2, .c (.ptr 2 (0))), (4, .c (.ptr 4 (0))), (5, .c (.p ((fun q : List UInt32 => AV.lst (q.map AV.u32) q.length) r'1))), (6, .c (.p (AV.u32 p6_0))), (7, .c (.p (AV.u32 q7_0))), (8, .c (.p (AV.u32 r8_0))), (9, .c (.p (AV.u32 s9_0))), (10, .c (.p (AV.u32 t10_0))), (11, .c (.p (AV.u32 u11_0))), (12, .c (.p (AV.u32 v12_0))), (14, .c (.p (AV.int i14_0))), (17, .c (.p (AV.u32 one17'6))), (18, .c (.p (AV.u32 two18'10)))], [(2, .pure (h0.toList.map AV.u32)), (4, .pure (((Vector.replicate 8 (0 : UInt32)).toList).map AV.u32))], 135⟩ : TS)) H ?_
      intro two18'10 H
      refine AW2_reg [0, 1, 2, 3, 4, 5, 6, 7, 8, 9, 10, 11, 12, 13, 14, 15, 16, 17, 18, 19] rfl ?_
      refine r_op rfl rfl (PureD.opD (p_move rfl rfl)) ?_
      refine r_op rfl rfl (PureD.opD (p_move rfl rfl)) ?_
      refine r_op rfl rfl (PureD.opD (p_u32add (a := one17'6) (b := two18'10) rfl rfl rfl)) ?_
      refine r_op rfl rfl (PureD.opD (p_move rfl rfl)) ?_
      refine r_op rfl rfl (PureD.opD (p_move rfl rfl)) ?_
      refine r_op rfl rfl (PureD.opD (p_move rfl rfl)) ?_
      refine r_op rfl rfl (PureD.opD (p_move rfl rfl)) ?_
      refine r_op rfl rfl (PureD.opD (p_move rfl rfl)) ?_
      refine r_op rfl rfl (PureD.opD (p_u32add (a := s9_0) (b := one17'6) rfl rfl rfl)) ?_
      refine r_op rfl rfl (PureD.opD (p_move rfl rfl)) ?_
      refine r_op rfl rfl (PureD.opD (p_move rfl rfl)) ?_
      refine r_op rfl rfl (PureD.opD (p_move rfl rfl)) ?_
      refine r_op rfl rfl (PureD.opD (p_asg rfl rfl)) ?_
      refine r_op rfl rfl (PureD.opD (p_asg rfl rfl)) ?_
      refine r_op rfl rfl (PureD.opD (p_asg rfl rfl)) ?_
      refine r_op rfl rfl (PureD.opD (p_asg rfl rfl)) ?_
      refine r_op rfl rfl (PureD.opD (p_asg rfl rfl)) ?_
      refine r_op rfl rfl (PureD.opD (p_asg rfl rfl)) ?_
      refine r_op rfl rfl (PureD.opD (p_asg rfl rfl)) ?_
      refine r_op rfl rfl (PureD.opD (p_asg rfl rfl)) ?_
      refine RunW_st [(2, .c (.ptr 2 (0))), (4, .c (.ptr 4 (0))), (5, .c (.p ((fun q : List UInt32 => AV.lst (q.map AV.u32) q.length) r'1))), (6, .c (.p (AV.u32 (one17'6 + two18'10)))), (7, .c (.p (AV.u32 p6_0))), (8, .c (.p (AV.u32 q7_0))), (9, .c (.p (AV.u32 r8_0))), (10, .c (.p (AV.u32 (s9_0 + one17'6)))), (11, .c (.p (AV.u32 t10_0))), (12, .c (.p (AV.u32 u11_0))), (13, .c (.p (AV.u32 v12_0))), (14, .c (.p (AV.int i14_0)))] [(2, .pure (h0.toList.map AV.u32)), (4, .pure (((Vector.replicate 8 (0 : UInt32)).toList).map AV.u32))] rfl ⟨TLes.same _, TLes.same _, TLes.same _, TLes.same _, TLes.same _, TLes.same _, TLes.same _, TLes.same _, TLes.same _, TLes.same _, TLes.same _, TLes.same _, trivial⟩ ⟨rfl, rfl, trivial⟩ ?_
      refine RunW_nil ?_
      refine AW2_reg [0, 1, 2] rfl ?_
      refine r_op rfl rfl (PureD.opD (p_move rfl rfl)) ?_
      refine r_op rfl rfl (PureD.opD (p_bin rfl rfl rfl rfl)) ?_
      refine r_op rfl rfl (PureD.opD (p_asg rfl rfl)) ?_
      refine RunW_st [(2, .c (.ptr 2 (0))), (4, .c (.ptr 4 (0))), (5, .c (.p ((fun q : List UInt32 => AV.lst (q.map AV.u32) q.length) r'1))), (6, .c (.p (AV.u32 (one17'6 + two18'10)))), (7, .c (.p (AV.u32 p6_0))), (8, .c (.p (AV.u32 q7_0))), (9, .c (.p (AV.u32 r8_0))), (10, .c (.p (AV.u32 (s9_0 + one17'6)))), (11, .c (.p (AV.u32 t10_0))), (12, .c (.p (AV.u32 u11_0))), (13, .c (.p (AV.u32 v12_0))), (14, .c (.p (AV.int (w64 (i14_0 + (1 : Int))))))] [(2, .pure (h0.toList.map AV.u32)), (4, .pure (((Vector.replicate 8 (0 : UInt32)).toList).map AV.u32))] rfl ⟨TLes.same _, TLes.same _, TLes.same _, TLes.same _, TLes.same _, TLes.same _, TLes.same _, TLes.same _, TLes.same _, TLes.same _, TLes.same _, TLes.same _, trivial⟩ ⟨rfl, rfl, trivial⟩ ?_
      refine RunW_nil ?_
      have hz := some_elim H
      subst hz
      exact ⟨rfl, rfl⟩
    · replace H := ite_else h2 H
      refine AW2_st [(2, .c (.ptr 2 (0))), (4, .c (.ptr 4 (0))), (6, .c (.p (AV.u32 p6_0))), (7, .c (.p (AV.u32 q7_0))), (8, .c (.p (AV.u32 r8_0))), (9, .c (.p (AV.u32 s9_0))), (10, .c (.p (AV.u32 t10_0))), (11, .c (.p (AV.u32 u11_0))), (12, .c (.p (AV.u32 v12_0))), (13, .c (.p (AV.u32 x13_0)))] [(2, .pure (h0.toList.map AV.u32)), (4, .pure (((Vector.replicate 8 (0 : UInt32)).toList).map AV.u32))] rfl ⟨TLes.same _, TLes.same _, TLes.same _, TLes.same _, TLes.same _, TLes.same _, TLes.same _, TLes.same _, TLes.same _, TLes.same _, trivial⟩ ⟨rfl, rfl, trivial⟩ ?_
      refine AW2_exit ?_
      refine thenQ2_exit ?_
      have hz := some_elim H
      subst hz
      exact ⟨rfl, rfl⟩
  · obtain ⟨rfl, rfl⟩ := hs
    refine ⟨by simp, ?_⟩
    refine blockQ2_exit ?_
    refine AW2_seq ?_
    refine AW2_reg [0, 1, 2, 3, 4, 5, 6, 7, 8, 9, 10, 11, 12, 13, 14, 15, 16, 17, 18, 19, 20, 21, 22, 23, 24, 25, 26, 27, 28, 29, 30, 31, 32, 33] rfl ?_
    refine r_op rfl rfl (PureD.opD (u_ixp rfl rfl Tryd.underlying27 in_26 rfl rfl (ne_of_lt (n := 0) (Nat.lt_of_lt_of_eq (by decide) (Eq.symm (vmap_len (f := AV.u32) h0)))) rfl rfl (by decide))) ?_
    refine r_op rfl rfl (PureD.opD (u_ld rfl rfl Tryd.underlying26 rfl rfl ((Sub.refl _).trans (Sub.vmap (by decide))))) ?_
    refine r_op rfl rfl (PureD.opD (p_move rfl rfl)) ?_
    refine r_op rfl rfl (PureD.opD (p_u32add (a := (vrd h0 0)) (b := y'14.1) rfl rfl rfl)) ?_
    refine r_op rfl rfl (PureD.opD (u_ixp rfl rfl Tryd.underlying27 in_26 rfl rfl (ne_of_lt (n := 0) (Nat.lt_of_lt_of_eq (by decide) (Eq.symm (vmap_len (f := AV.u32) h0)))) rfl rfl (by decide))) ?_
    refine r_op rfl rfl (PureD.opD (u_ld rfl rfl Tryd.underlying26 rfl rfl ((Sub.refl _).trans (Sub.vmap (by decide))))) ?_
    refine r_op rfl rfl (PureD.opD (p_move rfl rfl)) ?_
    refine r_op rfl rfl (PureD.opD (p_u32add (a := (vrd h0 1)) (b := y'14.2.1) rfl rfl rfl)) ?_
    refine r_op rfl rfl (PureD.opD (u_ixp rfl rfl Tryd.underlying27 in_26 rfl rfl (ne_of_lt (n := 0) (Nat.lt_of_lt_of_eq (by decide) (Eq.symm (vmap_len (f := AV.u32) h0)))) rfl rfl (by decide))) ?_
    refine r_op rfl rfl (PureD.opD (u_ld rfl rfl Tryd.underlying26 rfl rfl ((Sub.refl _).trans (Sub.vmap (by decide))))) ?_
    refine r_op rfl rfl (PureD.opD (p_move rfl rfl)) ?_
    refine r_op rfl rfl (PureD.opD (p_u32add (a := (vrd h0 2)) (b := y'14.2.2.1) rfl rfl rfl)) ?_
    refine r_op rfl rfl (PureD.opD (u_ixp rfl rfl Tryd.underlying27 in_26 rfl rfl (ne_of_lt (n := 0) (Nat.lt_of_lt_of_eq (by decide) (Eq.symm (vmap_len (f := AV.u32) h0)))) rfl rfl (by decide))) ?_
    refine r_op rfl rfl (PureD.opD (u_ld rfl rfl Tryd.underlying26 rfl rfl ((Sub.refl _).trans (Sub.vmap (by decide))))) ?_
    refine r_op rfl rfl (PureD.opD (p_move rfl rfl)) ?_
    refine r_op rfl rfl (PureD.opD (p_u32add (a := (vrd h0 3)) (b := y'14.2.2.2.1) rfl rfl rfl)) ?_
    refine r_op rfl rfl (PureD.opD (u_ixp rfl rfl Tryd.underlying27 in_26 rfl rfl (ne_of_lt (n := 0) (Nat.lt_of_lt_of_eq (by decide) (Eq.symm (vmap_len (f := AV.u32) h0)))) rfl rfl (by decide))) ?_
    refine r_op rfl rfl (PureD.opD (u_ld rfl rfl Tryd.underlying26 rfl rfl ((Sub.refl _).trans (Sub.vmap (by decide))))) ?_
    refine r_op rfl rfl (PureD.opD (p_move rfl rfl)) ?_
    refine r_op rfl rfl (PureD.opD (p_u32add (a := (vrd h0 4)) (b := y'14.2.2.2.2.1) rfl rfl rfl)) ?_
    refine r_op rfl rfl (PureD.opD (u_ixp rfl rfl Tryd.underlying27 in_26 rfl rfl (ne_of_lt (n := 0) (Nat.lt_of_lt_of_eq (by decide) (Eq.symm (vmap_len (f := AV.u32) h0)))) rfl rfl (by decide))) ?_
    refine r_op rfl rfl (PureD.opD (u_ld rfl rfl Tryd.underlying26 rfl rfl ((Sub.refl _).trans (Sub.vmap (by decide))))) ?_
    refine r_op rfl rfl (PureD.opD (p_move rfl rfl)) ?_
    refine r_op rfl rfl (PureD.opD (p_u32add (a := (vrd h0 5)) (b := y'14.2.2.2.2.2.1) rfl rfl rfl)) ?_
    refine r_op rfl rfl (PureD.opD (u_ixp rfl rfl Tryd.underlying27 in_26 rfl rfl (ne_of_lt (n := 0) (Nat.lt_of_lt_of_eq (by decide) (Eq.symm (vmap_len (f := AV.u32) h0)))) rfl rfl (by decide))) ?_
    refine r_op rfl rfl (PureD.opD (u_ld rfl rfl Tryd.underlying26 rfl rfl ((Sub.refl _).trans (Sub.vmap (by decide))))) ?_
    refine r_op rfl rfl (PureD.opD (p_move rfl rfl)) ?_
    refine r_op rfl rfl (PureD.opD (p_u32add (a := (vrd h0 6)) (b := y'14.2.2.2.2.2.2.1) rfl rfl rfl)) ?_
    refine r_op rfl rfl (PureD.opD (u_ixp rfl rfl Tryd.underlying27 in_26 rfl rfl (ne_of_lt (n := 0) (Nat.lt_of_lt_of_eq (by decide) (Eq.symm (vmap_len (f := AV.u32) h0)))) rfl rfl (by decide))) ?_
    refine r_op rfl rfl (PureD.opD (u_ld rfl rfl Tryd.underlying26 rfl rfl ((Sub.refl _).trans (Sub.vmap (by decide))))) ?_
    refine r_op rfl rfl (PureD.opD (p_move rfl rfl)) ?_
    refine r_op rfl rfl (PureD.opD (p_u32add (a := (vrd h0 7)) (b := y'14.2.2.2.2.2.2.2) rfl rfl rfl)) ?_
    refine r_op rfl rfl (PureD.opD (u_blda rfl in_27 one_27 rfl Tryd.underlying27 in_26 rfl rfl)) ?_
    refine r_op rfl rfl (u_st rfl rfl rfl rfl rfl in_27 (vmap_len (f := AV.u32) (#v[(vrd h0 0) + y'14.1, (vrd h0 1) + y'14.2.1, (vrd h0 2) + y'14.2.2.1, (vrd h0 3) + y'14.2.2.2.1, (vrd h0 4) + y'14.2.2.2.2.1, (vrd h0 5) + y'14.2.2.2.2.2.1, (vrd h0 6) + y'14.2.2.2.2.2.2.1, (vrd h0 7) + y'14.2.2.2.2.2.2.2])) (ne_of_lt (n := 0) (Nat.lt_of_lt_of_eq (by decide) (Eq.symm (vmap_len (f := AV.u32) (Vector.replicate 8 (0 : UInt32)))))) (Upd.refl ((vmap_len (f := AV.u32) (#v[(vrd h0 0) + y'14.1, (vrd h0 1) + y'14.2.1, (vrd h0 2) + y'14.2.2.1, (vrd h0 3) + y'14.2.2.2.1, (vrd h0 4) + y'14.2.2.2.2.1, (vrd h0 5) + y'14.2.2.2.2.2.1, (vrd h0 6) + y'14.2.2.2.2.2.2.1, (vrd h0 7) + y'14.2.2.2.2.2.2.2])).trans (vmap_len (f := AV.u32) (Vector.replicate 8 (0 : UInt32))).symm))) ?_
    refine RunW_st [(4, .c (.ptr 4 (0)))] [(4, .pure (((#v[(vrd h0 0) + y'14.1, (vrd h0 1) + y'14.2.1, (vrd h0 2) + y'14.2.2.1, (vrd h0 3) + y'14.2.2.2.1, (vrd h0 4) + y'14.2.2.2.2.1, (vrd h0 5) + y'14.2.2.2.2.2.1, (vrd h0 6) + y'14.2.2.2.2.2.2.1, (vrd h0 7) + y'14.2.2.2.2.2.2.2]).toList).map AV.u32))] rfl ⟨TLes.same _, trivial⟩ ⟨rfl, trivial⟩ ?_
    refine RunW_nil ?_
    refine gen1 (fun t4'15 => (⟨[(4, .c (.ptr 4 (0)))], [(4, .pure (t4'15.toList.map AV.u32))], 135⟩ : TS)) H ?_
    intro t4'15 H
    refine AW2_ret ?_
    have hz := some_elim H
    subst hz
    exact ⟨⟨res_cella Tryd.underlying27 rfl in_27.sz rfl (Sub.le (Sub.refl _) (vmap_len (f := AV.u32) t4'15)) (by decide) (Sub.take (Sub.refl _) (vmap_len (f := AV.u32) t4'15)), trivial⟩, trivial⟩
end Go.Proofs.YtoepdjccgngpdaaDoor.VM
