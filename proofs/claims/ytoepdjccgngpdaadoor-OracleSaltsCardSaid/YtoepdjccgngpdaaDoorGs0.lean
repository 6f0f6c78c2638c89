/- Functions of the program, as they answer, and that their code comes to these answers. -/
import Derived.Test.YtoepdjccgngpdaaDoorVtTabs
import Derived.Test.YtoepdjccgngpdaaDoorVtDrawU
namespace Go.Proofs.YtoepdjccgngpdaaDoor.VM
open Go Go.RowKit

structure GStream where
  H : Vector UInt32 8
  Held : Vector UInt8 64
  N : Int
  Len : Int
deriving DecidableEq, Inhabited
def GStream.zero : GStream := ⟨(Vector.replicate 8 (0 : UInt32)), (Vector.replicate 64 (0 : UInt8)), (0 : Int), (0 : Int)⟩
def GStream.cs (x : GStream) : List AV := (x.H.toList.map AV.u32) ++ ((bcells x.Held.toList) ++ (([(AV.int x.N)]) ++ ([(AV.int x.Len)])))
theorem GStream.len (x : GStream) : (GStream.cs x).length = 74 := by
  simp only [GStream.cs, List.length_append]
  rw [show (x.H.toList.map AV.u32).length = 8 from (vmap_len (f := AV.u32) x.H), show (bcells x.Held.toList).length = 64 from ((bcells_length _).trans (vlen x.Held)), show ([(AV.int x.N)]).length = 1 from (show ([(AV.int x.N)]).length = 1 from rfl), show ([(AV.int x.Len)]).length = 1 from (show ([(AV.int x.Len)]).length = 1 from rfl)]
theorem GStream.sub0 (x : GStream) : Sub (GStream.cs x) 0 (x.H.toList.map AV.u32) := Sub.head _ _
theorem GStream.upd0 (x : GStream) (y : Vector UInt32 8) : Upd (GStream.cs x) 0 (y.toList.map AV.u32) (GStream.cs { x with H := y }) := Upd.head ((vmap_len (f := AV.u32) y).trans (vmap_len (f := AV.u32) x.H).symm)
theorem GStream.sub1 (x : GStream) : Sub (GStream.cs x) 8 (bcells x.Held.toList) := Sub.skip (k := 8) (vmap_len (f := AV.u32) x.H) (Sub.head _ _)
theorem GStream.upd1 (x : GStream) (y : Vector UInt8 64) : Upd (GStream.cs x) 8 (bcells y.toList) (GStream.cs { x with Held := y }) := Upd.skip (k := 8) (vmap_len (f := AV.u32) x.H) (Upd.head (((bcells_length _).trans (vlen y)).trans ((bcells_length _).trans (vlen x.Held)).symm))
theorem GStream.sub2 (x : GStream) : Sub (GStream.cs x) 72 ([(AV.int x.N)]) := Sub.skip (k := 8) (vmap_len (f := AV.u32) x.H) (Sub.skip (k := 64) ((bcells_length _).trans (vlen x.Held)) (Sub.head _ _))
theorem GStream.upd2 (x : GStream) (y : Int) : Upd (GStream.cs x) 72 ([(AV.int y)]) (GStream.cs { x with N := y }) := Upd.skip (k := 8) (vmap_len (f := AV.u32) x.H) (Upd.skip (k := 64) ((bcells_length _).trans (vlen x.Held)) (Upd.head (show ([(AV.int y)]).length = ([(AV.int x.N)]).length from rfl)))
theorem GStream.sub3 (x : GStream) : Sub (GStream.cs x) 73 ([(AV.int x.Len)]) := Sub.skip (k := 8) (vmap_len (f := AV.u32) x.H) (Sub.skip (k := 64) ((bcells_length _).trans (vlen x.Held)) (Sub.skip (k := 1) (show ([(AV.int x.N)]).length = 1 from rfl) (Sub.refl _)))
theorem GStream.upd3 (x : GStream) (y : Int) : Upd (GStream.cs x) 73 ([(AV.int y)]) (GStream.cs { x with Len := y }) := Upd.skip (k := 8) (vmap_len (f := AV.u32) x.H) (Upd.skip (k := 64) ((bcells_length _).trans (vlen x.Held)) (Upd.skip (k := 1) (show ([(AV.int x.N)]).length = 1 from rfl) (Upd.refl (show ([(AV.int y)]).length = ([(AV.int x.Len)]).length from rfl))))
theorem GStream.nl (x : GStream) : (GStream.cs x).all noLst1 = true := nlA (nlM _ _ (fun _ => rfl)) (nlA (nlB _) (nlA rfl (rfl)))
theorem in_30 : Info Tryd.prog 30 74 112 (.agg #[.int .u32 0, .int .u32 0, .int .u32 0, .int .u32 0, .int .u32 0, .int .u32 0, .int .u32 0, .int .u32 0, .int .u8 0, .int .u8 0, .int .u8 0, .int .u8 0, .int .u8 0, .int .u8 0, .int .u8 0, .int .u8 0, .int .u8 0, .int .u8 0, .int .u8 0, .int .u8 0, .int .u8 0, .int .u8 0, .int .u8 0, .int .u8 0, .int .u8 0, .int .u8 0, .int .u8 0, .int .u8 0, .int .u8 0, .int .u8 0, .int .u8 0, .int .u8 0, .int .u8 0, .int .u8 0, .int .u8 0, .int .u8 0, .int .u8 0, .int .u8 0, .int .u8 0, .int .u8 0, .int .u8 0, .int .u8 0, .int .u8 0, .int .u8 0, .int .u8 0, .int .u8 0, .int .u8 0, .int .u8 0, .int .u8 0, .int .u8 0, .int .u8 0, .int .u8 0, .int .u8 0, .int .u8 0, .int .u8 0, .int .u8 0, .int .u8 0, .int .u8 0, .int .u8 0, .int .u8 0, .int .u8 0, .int .u8 0, .int .u8 0, .int .u8 0, .int .u8 0, .int .u8 0, .int .u8 0, .int .u8 0, .int .u8 0, .int .u8 0, .int .u8 0, .int .u8 0, .int .i64 0, .int .i64 0]) := by unfold Info; kernel_rfl
theorem one_30 : (.agg #[.int .u32 0, .int .u32 0, .int .u32 0, .int .u32 0, .int .u32 0, .int .u32 0, .int .u32 0, .int .u32 0, .int .u8 0, .int .u8 0, .int .u8 0, .int .u8 0, .int .u8 0, .int .u8 0, .int .u8 0, .int .u8 0, .int .u8 0, .int .u8 0, .int .u8 0, .int .u8 0, .int .u8 0, .int .u8 0, .int .u8 0, .int .u8 0, .int .u8 0, .int .u8 0, .int .u8 0, .int .u8 0, .int .u8 0, .int .u8 0, .int .u8 0, .int .u8 0, .int .u8 0, .int .u8 0, .int .u8 0, .int .u8 0, .int .u8 0, .int .u8 0, .int .u8 0, .int .u8 0, .int .u8 0, .int .u8 0, .int .u8 0, .int .u8 0, .int .u8 0, .int .u8 0, .int .u8 0, .int .u8 0, .int .u8 0, .int .u8 0, .int .u8 0, .int .u8 0, .int .u8 0, .int .u8 0, .int .u8 0, .int .u8 0, .int .u8 0, .int .u8 0, .int .u8 0, .int .u8 0, .int .u8 0, .int .u8 0, .int .u8 0, .int .u8 0, .int .u8 0, .int .u8 0, .int .u8 0, .int .u8 0, .int .u8 0, .int .u8 0, .int .u8 0, .int .u8 0, .int .i64 0, .int .i64 0] : Value).cells.all (·.oneCell') = true := by kernel_rfl
theorem zc_30 : ((.agg #[.int .u32 0, .int .u32 0, .int .u32 0, .int .u32 0, .int .u32 0, .int .u32 0, .int .u32 0, .int .u32 0, .int .u8 0, .int .u8 0, .int .u8 0, .int .u8 0, .int .u8 0, .int .u8 0, .int .u8 0, .int .u8 0, .int .u8 0, .int .u8 0, .int .u8 0, .int .u8 0, .int .u8 0, .int .u8 0, .int .u8 0, .int .u8 0, .int .u8 0, .int .u8 0, .int .u8 0, .int .u8 0, .int .u8 0, .int .u8 0, .int .u8 0, .int .u8 0, .int .u8 0, .int .u8 0, .int .u8 0, .int .u8 0, .int .u8 0, .int .u8 0, .int .u8 0, .int .u8 0, .int .u8 0, .int .u8 0, .int .u8 0, .int .u8 0, .int .u8 0, .int .u8 0, .int .u8 0, .int .u8 0, .int .u8 0, .int .u8 0, .int .u8 0, .int .u8 0, .int .u8 0, .int .u8 0, .int .u8 0, .int .u8 0, .int .u8 0, .int .u8 0, .int .u8 0, .int .u8 0, .int .u8 0, .int .u8 0, .int .u8 0, .int .u8 0, .int .u8 0, .int .u8 0, .int .u8 0, .int .u8 0, .int .u8 0, .int .u8 0, .int .u8 0, .int .u8 0, .int .i64 0, .int .i64 0] : Value).cells.toList.map zcell) = GStream.cs GStream.zero := by rfl
theorem pl_30 : placesOf Tryd.prog 30 = some [(0, 8), (8, 64), (72, 1), (73, 1)] := by kernel_rfl
theorem in_27 : Info Tryd.prog 27 8 32 (.agg #[.int .u32 0, .int .u32 0, .int .u32 0, .int .u32 0, .int .u32 0, .int .u32 0, .int .u32 0, .int .u32 0]) := by unfold Info; kernel_rfl
theorem one_27 : (.agg #[.int .u32 0, .int .u32 0, .int .u32 0, .int .u32 0, .int .u32 0, .int .u32 0, .int .u32 0, .int .u32 0] : Value).cells.all (·.oneCell') = true := by kernel_rfl
theorem zc_27 : ((.agg #[.int .u32 0, .int .u32 0, .int .u32 0, .int .u32 0, .int .u32 0, .int .u32 0, .int .u32 0, .int .u32 0] : Value).cells.toList.map zcell) = ((Vector.replicate 8 (0 : UInt32)).toList).map AV.u32 := by rfl
theorem in_26 : Info Tryd.prog 26 1 4 (.int .u32 0) := by unfold Info; kernel_rfl
theorem one_26 : (.int .u32 0 : Value).cells.all (·.oneCell') = true := by kernel_rfl
theorem zc_26 : ((.int .u32 0 : Value).cells.toList.map zcell) = [(AV.u32 (0 : UInt32))] := by rfl
theorem in_71 : Info Tryd.prog 71 64 256 (.agg #[.int .u32 0, .int .u32 0, .int .u32 0, .int .u32 0, .int .u32 0, .int .u32 0, .int .u32 0, .int .u32 0, .int .u32 0, .int .u32 0, .int .u32 0, .int .u32 0, .int .u32 0, .int .u32 0, .int .u32 0, .int .u32 0, .int .u32 0, .int .u32 0, .int .u32 0, .int .u32 0, .int .u32 0, .int .u32 0, .int .u32 0, .int .u32 0, .int .u32 0, .int .u32 0, .int .u32 0, .int .u32 0, .int .u32 0, .int .u32 0, .int .u32 0, .int .u32 0, .int .u32 0, .int .u32 0, .int .u32 0, .int .u32 0, .int .u32 0, .int .u32 0, .int .u32 0, .int .u32 0, .int .u32 0, .int .u32 0, .int .u32 0, .int .u32 0, .int .u32 0, .int .u32 0, .int .u32 0, .int .u32 0, .int .u32 0, .int .u32 0, .int .u32 0, .int .u32 0, .int .u32 0, .int .u32 0, .int .u32 0, .int .u32 0, .int .u32 0, .int .u32 0, .int .u32 0, .int .u32 0, .int .u32 0, .int .u32 0, .int .u32 0, .int .u32 0]) := by unfold Info; kernel_rfl
theorem one_71 : (.agg #[.int .u32 0, .int .u32 0, .int .u32 0, .int .u32 0, .int .u32 0, .int .u32 0, .int .u32 0, .int .u32 0, .int .u32 0, .int .u32 0, .int .u32 0, .int .u32 0, .int .u32 0, .int .u32 0, .int .u32 0, .int .u32 0, .int .u32 0, .int .u32 0, .int .u32 0, .int .u32 0, .int .u32 0, .int .u32 0, .int .u32 0, .int .u32 0, .int .u32 0, .int .u32 0, .int .u32 0, .int .u32 0, .int .u32 0, .int .u32 0, .int .u32 0, .int .u32 0, .int .u32 0, .int .u32 0, .int .u32 0, .int .u32 0, .int .u32 0, .int .u32 0, .int .u32 0, .int .u32 0, .int .u32 0, .int .u32 0, .int .u32 0, .int .u32 0, .int .u32 0, .int .u32 0, .int .u32 0, .int .u32 0, .int .u32 0, .int .u32 0, .int .u32 0, .int .u32 0, .int .u32 0, .int .u32 0, .int .u32 0, .int .u32 0, .int .u32 0, .int .u32 0, .int .u32 0, .int .u32 0, .int .u32 0, .int .u32 0, .int .u32 0, .int .u32 0] : Value).cells.all (·.oneCell') = true := by kernel_rfl
theorem zc_71 : ((.agg #[.int .u32 0, .int .u32 0, .int .u32 0, .int .u32 0, .int .u32 0, .int .u32 0, .int .u32 0, .int .u32 0, .int .u32 0, .int .u32 0, .int .u32 0, .int .u32 0, .int .u32 0, .int .u32 0, .int .u32 0, .int .u32 0, .int .u32 0, .int .u32 0, .int .u32 0, .int .u32 0, .int .u32 0, .int .u32 0, .int .u32 0, .int .u32 0, .int .u32 0, .int .u32 0, .int .u32 0, .int .u32 0, .int .u32 0, .int .u32 0, .int .u32 0, .int .u32 0, .int .u32 0, .int .u32 0, .int .u32 0, .int .u32 0, .int .u32 0, .int .u32 0, .int .u32 0, .int .u32 0, .int .u32 0, .int .u32 0, .int .u32 0, .int .u32 0, .int .u32 0, .int .u32 0, .int .u32 0, .int .u32 0, .int .u32 0, .int .u32 0, .int .u32 0, .int .u32 0, .int .u32 0, .int .u32 0, .int .u32 0, .int .u32 0, .int .u32 0, .int .u32 0, .int .u32 0, .int .u32 0, .int .u32 0, .int .u32 0, .int .u32 0, .int .u32 0] : Value).cells.toList.map zcell) = ((Vector.replicate 64 (0 : UInt32)).toList).map AV.u32 := by rfl
theorem in_5 : Info Tryd.prog 5 1 1 (.int .u8 0) := by unfold Info; kernel_rfl
theorem one_5 : (.int .u8 0 : Value).cells.all (·.oneCell') = true := by kernel_rfl
theorem zc_5 : ((.int .u8 0 : Value).cells.toList.map zcell) = [(AV.b8 (0 : UInt8))] := by rfl

/-! sum.Begin -/
noncomputable def g_sum_Begin : Option (GStream) :=
  letO ({ GStream.zero with H := #v[(1779033703 : UInt32), (3144134277 : UInt32), (1013904242 : UInt32), (2773480762 : UInt32), (1359893119 : UInt32), (2600822924 : UInt32), (528734635 : UInt32), (1541459225 : UInt32)] }) fun t0'1 => some t0'1
set_option maxHeartbeats 4000000 in
set_option maxRecDepth 100000 in
theorem g_sum_Begin_ac {r : GStream} (H : g_sum_Begin = some r) : ACp Tryd.prog 16 [] (.agg (GStream.cs r)) := by
  refine ACp_of (AC2_of_body (vs := [.c (.p (.agg (GStream.cs r)))]) Tryd.func16 rfl rfl (Nat.le_of_ble_eq_true rfl) rfl ?_) (fun _ => .same _)
  unfold g_sum_Begin at H
  refine AW2_st [] [] rfl trivial trivial ?_
  refine AW2_seq ?_
  refine AW2_reg [0] rfl ?_
  refine r_op rfl rfl (MakeD.opD (u_alloc 0 rfl in_30 one_30 zc_30) rfl rfl rfl rfl) ?_
  refine RunW_st [(0, .c (.ptr 0 (0)))] [(0, .pure (GStream.cs GStream.zero))] rfl ⟨TLes.same _, trivial⟩ ⟨rfl, trivial⟩ ?_
  refine RunW_nil ?_
  refine AW2_seq ?_
  refine AW2_reg [0, 1, 2] rfl ?_
  refine r_op rfl rfl (PureD.opD (u_blda rfl in_27 one_27 rfl Tryd.underlying27 in_26 rfl rfl)) ?_
  refine r_op rfl rfl (PureD.opD (u_bld rfl in_30 one_30 zc_30 pl_30 rfl (af_cons rfl (vmap_len (f := AV.u32) (#v[(1779033703 : UInt32), (3144134277 : UInt32), (1013904242 : UInt32), (2773480762 : UInt32), (1359893119 : UInt32), (2600822924 : UInt32), (528734635 : UInt32), (1541459225 : UInt32)])) (GStream.upd0 GStream.zero (#v[(1779033703 : UInt32), (3144134277 : UInt32), (1013904242 : UInt32), (2773480762 : UInt32), (1359893119 : UInt32), (2600822924 : UInt32), (528734635 : UInt32), (1541459225 : UInt32)])) rfl))) ?_
  refine r_op rfl rfl (u_st rfl rfl rfl rfl rfl in_30 (GStream.len ({ GStream.zero with H := #v[(1779033703 : UInt32), (3144134277 : UInt32), (1013904242 : UInt32), (2773480762 : UInt32), (1359893119 : UInt32), (2600822924 : UInt32), (528734635 : UInt32), (1541459225 : UInt32)] })) (ne_of_lt (n := 0) (Nat.lt_of_lt_of_eq (by decide) (Eq.symm (GStream.len GStream.zero)))) (Upd.refl ((GStream.len ({ GStream.zero with H := #v[(1779033703 : UInt32), (3144134277 : UInt32), (1013904242 : UInt32), (2773480762 : UInt32), (1359893119 : UInt32), (2600822924 : UInt32), (528734635 : UInt32), (1541459225 : UInt32)] })).trans (GStream.len GStream.zero).symm))) ?_
  refine RunW_st [(0, .c (.ptr 0 (0)))] [(0, .pure (GStream.cs ({ GStream.zero with H := #v[(1779033703 : UInt32), (3144134277 : UInt32), (1013904242 : UInt32), (2773480762 : UInt32), (1359893119 : UInt32), (2600822924 : UInt32), (528734635 : UInt32), (1541459225 : UInt32)] })))] rfl ⟨TLes.same _, trivial⟩ ⟨rfl, trivial⟩ ?_
  refine RunW_nil ?_
  refine gen1 (fun t0'1 => (⟨[(0, .c (.ptr 0 (0)))], [(0, .pure (GStream.cs t0'1))], 3⟩ : TS)) H ?_
  intro t0'1 H
  refine AW2_ret ?_
  have hz := some_elim H
  subst hz
  exact ⟨⟨res_cella Tryd.underlying30 rfl in_30.sz rfl (Sub.le (Sub.refl _) (GStream.len t0'1)) (by decide) (Sub.take (Sub.refl _) (GStream.len t0'1)), trivial⟩, trivial⟩

/-! bits.RotateLeft32 -/
noncomputable def g_bits_RotateLeft32 (x0 : UInt32) (k1 : Int) : Option (UInt32) :=
  letO ((shl_u32 x0 (((UInt64.ofInt k1) &&& (31 : UInt64)).toNat)) ||| (shr_u32 x0 (((32 : UInt64) - ((UInt64.ofInt k1) &&& (31 : UInt64))).toNat))) fun t4'1 => some t4'1
set_option maxHeartbeats 4000000 in
set_option maxRecDepth 100000 in
theorem g_bits_RotateLeft32_ac {x0 : UInt32} {k1 : Int} {r : UInt32} (H : g_bits_RotateLeft32 x0 k1 = some r) : ACp Tryd.prog 53 [(AV.u32 x0), (AV.int k1)] (AV.u32 r) := by
  refine ACp_of (AC2_of_body (vs := [.c (.p (AV.u32 r))]) Tryd.func53 rfl rfl (Nat.le_of_ble_eq_true rfl) rfl ?_) (fun _ => .same _)
  unfold g_bits_RotateLeft32 at H
  refine AW2_st [(0, .c (.p (AV.u32 x0))), (1, .c (.p (AV.int k1)))] [] rfl ⟨TLes.same _, TLes.same _, trivial⟩ trivial ?_
  refine AW2_seq ?_
  refine AW2_reg [0] rfl ?_
  refine r_op rfl rfl (PureD.opD (p_asg rfl rfl)) ?_
  refine RunW_st [(0, .c (.p (AV.u32 x0))), (1, .c (.p (AV.int k1)))] [] rfl ⟨TLes.same _, TLes.same _, trivial⟩ trivial ?_
  refine RunW_nil ?_
  refine AW2_seq ?_
  refine AW2_reg [0, 1, 2, 3] rfl ?_
  refine r_op rfl rfl (PureD.opD (p_move rfl rfl)) ?_
  refine r_op rfl rfl (PureD.opD (p_i_u64 rfl Tryd.underlying3 Tryd.underlying70 rfl)) ?_
  refine r_op rfl rfl (PureD.opD (p_u64and (a := UInt64.ofInt k1) (b := (31 : UInt64)) rfl rfl rfl)) ?_
  refine r_op rfl rfl (PureD.opD (p_asg rfl rfl)) ?_
  refine RunW_st [(0, .c (.p (AV.u32 x0))), (5, .c (.p (AV.u64 ((UInt64.ofInt k1) &&& (31 : UInt64)))))] [] rfl ⟨TLes.same _, TLes.same _, trivial⟩ trivial ?_
  refine RunW_nil ?_
  refine AW2_seq ?_
  refine AW2_reg [0, 1, 2, 3, 4, 5, 6, 7, 8] rfl ?_
  refine r_op rfl rfl (PureD.opD (p_move rfl rfl)) ?_
  refine r_op rfl rfl (PureD.opD (p_move rfl rfl)) ?_
  refine r_op rfl rfl (PureD.opD (p_u32shl (n := ((UInt64.ofInt k1) &&& (31 : UInt64)).toNat) rfl rfl rfl rfl)) ?_
  refine r_op rfl rfl (PureD.opD (p_move rfl rfl)) ?_
  refine r_op rfl rfl (PureD.opD (p_move rfl rfl)) ?_
  refine r_op rfl rfl (PureD.opD (p_u64sub (a := (32 : UInt64)) (b := (UInt64.ofInt k1) &&& (31 : UInt64)) rfl rfl rfl)) ?_
  refine r_op rfl rfl (PureD.opD (p_u32shr (n := ((32 : UInt64) - ((UInt64.ofInt k1) &&& (31 : UInt64))).toNat) rfl rfl rfl rfl)) ?_
  refine r_op rfl rfl (PureD.opD (p_u32or (a := shl_u32 x0 (((UInt64.ofInt k1) &&& (31 : UInt64)).toNat)) (b := shr_u32 x0 (((32 : UInt64) - ((UInt64.ofInt k1) &&& (31 : UInt64))).toNat)) rfl rfl rfl)) ?_
  refine r_op rfl rfl (PureD.opD (p_asg rfl rfl)) ?_
  refine RunW_st [(4, .c (.p (AV.u32 ((shl_u32 x0 (((UInt64.ofInt k1) &&& (31 : UInt64)).toNat)) ||| (shr_u32 x0 (((32 : UInt64) - ((UInt64.ofInt k1) &&& (31 : UInt64))).toNat))))))] [] rfl ⟨TLes.same _, trivial⟩ trivial ?_
  refine RunW_nil ?_
  refine gen1 (fun t4'1 => (⟨[(4, .c (.p (AV.u32 t4'1)))], [], 17⟩ : TS)) H ?_
  intro t4'1 H
  refine AW2_ret ?_
  have hz := some_elim H
  subst hz
  exact ⟨⟨res_tmp (.same _), trivial⟩, trivial⟩

/-! sum.turn -/
noncomputable def g_sum_turn_l0 (b1 : Vector UInt8 64) : Int × (Vector UInt32 64) → Option ((Int × (Vector UInt32 64)) ⊕ (((Vector UInt32 64))))
  | (t20_0, w5_0) => (if t20_0 < (16 : Int) then if 0 ≤ w64 ((4 : Int) * t20_0) ∧ w64 ((4 : Int) * t20_0) < (64 : Int) then if 0 ≤ w64 ((w64 ((4 : Int) * t20_0)) + (1 : Int)) ∧ w64 ((w64 ((4 : Int) * t20_0)) + (1 : Int)) < (64 : Int) then if 0 ≤ w64 ((w64 ((4 : Int) * t20_0)) + (2 : Int)) ∧ w64 ((w64 ((4 : Int) * t20_0)) + (2 : Int)) < (64 : Int) then if 0 ≤ w64 ((w64 ((4 : Int) * t20_0)) + (3 : Int)) ∧ w64 ((w64 ((4 : Int) * t20_0)) + (3 : Int)) < (64 : Int) then if 0 ≤ t20_0 ∧ t20_0 < (64 : Int) then letO ((vwr w5_0 t20_0.toNat ((((shl_u32 ((vrd b1 ((w64 ((4 : Int) * t20_0)).toNat)).toUInt32) 24) ||| (shl_u32 ((vrd b1 ((w64 ((w64 ((4 : Int) * t20_0)) + (1 : Int))).toNat)).toUInt32) 16)) ||| (shl_u32 ((vrd b1 ((w64 ((w64 ((4 : Int) * t20_0)) + (2 : Int))).toNat)).toUInt32) 8)) ||| ((vrd b1 ((w64 ((w64 ((4 : Int) * t20_0)) + (3 : Int))).toNat)).toUInt32)))) fun w5'1 => some (.inl (w64 (t20_0 + (1 : Int)), w5'1)) else none else none else none else none else none else some (.inr w5_0))
noncomputable def g_sum_turn_l1 : Int × (Vector UInt32 64) → Option ((Int × (Vector UInt32 64)) ⊕ (((Vector UInt32 64))))
  | (i7_1, w5_1) => (if i7_1 < (64 : Int) then if 0 ≤ w64 (i7_1 - (15 : Int)) ∧ w64 (i7_1 - (15 : Int)) < (64 : Int) then if 0 ≤ w64 (i7_1 - (2 : Int)) ∧ w64 (i7_1 - (2 : Int)) < (64 : Int) then (g_bits_RotateLeft32 (vrd w5_1 ((w64 (i7_1 - (15 : Int))).toNat)) (-7 : Int)).bind fun r'6 => (g_bits_RotateLeft32 (vrd w5_1 ((w64 (i7_1 - (15 : Int))).toNat)) (-18 : Int)).bind fun r'7 => letO ((r'6 ^^^ r'7) ^^^ (shr_u32 (vrd w5_1 ((w64 (i7_1 - (15 : Int))).toNat)) 3)) fun s10'8 => (g_bits_RotateLeft32 (vrd w5_1 ((w64 (i7_1 - (2 : Int))).toNat)) (-17 : Int)).bind fun r'9 => (g_bits_RotateLeft32 (vrd w5_1 ((w64 (i7_1 - (2 : Int))).toNat)) (-19 : Int)).bind fun r'10 => letO ((r'9 ^^^ r'10) ^^^ (shr_u32 (vrd w5_1 ((w64 (i7_1 - (2 : Int))).toNat)) 10)) fun t11'11 => if 0 ≤ w64 (i7_1 - (16 : Int)) ∧ w64 (i7_1 - (16 : Int)) < (64 : Int) then if 0 ≤ w64 (i7_1 - (7 : Int)) ∧ w64 (i7_1 - (7 : Int)) < (64 : Int) then if 0 ≤ i7_1 ∧ i7_1 < (64 : Int) then letO ((vwr w5_1 i7_1.toNat ((((vrd w5_1 ((w64 (i7_1 - (16 : Int))).toNat)) + s10'8) + (vrd w5_1 ((w64 (i7_1 - (7 : Int))).toNat))) + t11'11))) fun w5'12 => some (.inl (w64 (i7_1 + (1 : Int)), w5'12)) else none else none else none else none else none else some (.inr w5_1))
noncomputable def g_sum_turn_l2 (y'16 : (Vector UInt32 64)) : Int × (Vector UInt32 8) → Option ((Int × (Vector UInt32 8)) ⊕ (((Vector UInt32 8))))
  | (t99_2, v12_2) => (if t99_2 < (64 : Int) then (g_bits_RotateLeft32 (vrd v12_2 4) (-6 : Int)).bind fun r'17 => (g_bits_RotateLeft32 (vrd v12_2 4) (-11 : Int)).bind fun r'18 => (g_bits_RotateLeft32 (vrd v12_2 4) (-25 : Int)).bind fun r'19 => if 0 ≤ t99_2 ∧ t99_2 < (64 : Int) then if 0 ≤ t99_2 ∧ t99_2 < (64 : Int) then letO (((((vrd v12_2 7) + ((r'17 ^^^ r'18) ^^^ r'19)) + (((vrd v12_2 4) &&& (vrd v12_2 5)) ^^^ ((~~~ (vrd v12_2 4)) &&& (vrd v12_2 6)))) + (lrd tab0 t99_2.toNat)) + (vrd y'16 t99_2.toNat)) fun t17'20 => (g_bits_RotateLeft32 (vrd v12_2 0) (-2 : Int)).bind fun r'21 => (g_bits_RotateLeft32 (vrd v12_2 0) (-13 : Int)).bind fun r'22 => (g_bits_RotateLeft32 (vrd v12_2 0) (-22 : Int)).bind fun r'23 => letO (((r'21 ^^^ r'22) ^^^ r'23) + ((((vrd v12_2 0) &&& (vrd v12_2 1)) ^^^ ((vrd v12_2 0) &&& (vrd v12_2 2))) ^^^ ((vrd v12_2 1) &&& (vrd v12_2 2)))) fun u18'24 => letO (#v[t17'20 + u18'24, (vrd v12_2 0), (vrd v12_2 1), (vrd v12_2 2), (vrd v12_2 3) + t17'20, (vrd v12_2 4), (vrd v12_2 5), (vrd v12_2 6)]) fun v12'25 => some (.inl (w64 (t99_2 + (1 : Int)), v12'25)) else none else none else some (.inr v12_2))
noncomputable def g_sum_turn_l3 (h0 : Vector UInt32 8) : Int × (Vector UInt32 8) → Option ((Int × (Vector UInt32 8)) ⊕ (((Vector UInt32 8))))
  | (t181_3, v12_3) => (if t181_3 < (8 : Int) then if 0 ≤ t181_3 ∧ t181_3 < (8 : Int) then if 0 ≤ t181_3 ∧ t181_3 < (8 : Int) then if 0 ≤ t181_3 ∧ t181_3 < (8 : Int) then letO ((vwr v12_3 t181_3.toNat ((vrd v12_3 t181_3.toNat) + (vrd h0 t181_3.toNat)))) fun v12'30 => some (.inl (w64 (t181_3 + (1 : Int)), v12'30)) else none else none else none else some (.inr v12_3))
noncomputable def g_sum_turn (h0 : Vector UInt32 8) (b1 : Vector UInt8 64) : Option ((Vector UInt32 8)) :=
  (loopO (g_sum_turn_l0 b1) ((0 : Int), (Vector.replicate 64 (0 : UInt32)))).bind fun y'5 => (loopO (g_sum_turn_l1) ((16 : Int), y'5)).bind fun y'16 => (loopO (g_sum_turn_l2 y'16) ((0 : Int), h0)).bind fun y'29 => (loopO (g_sum_turn_l3 h0) ((0 : Int), y'29)).bind fun y'34 => some y'34
set_option maxHeartbeats 4000000 in
set_option maxRecDepth 100000 in
theorem g_sum_turn_ac {h0 : Vector UInt32 8} {b1 : Vector UInt8 64} {r : (Vector UInt32 8)} (H : g_sum_turn h0 b1 = some r) : ACp Tryd.prog 50 [(.agg (h0.toList.map AV.u32)), (.agg (bcells b1.toList))] (.agg (r.toList.map AV.u32)) := by
  refine ACp_of (AC2_of_body (vs := [.c (.p (.agg (r.toList.map AV.u32)))]) Tryd.func50 rfl rfl (Nat.le_of_ble_eq_true rfl) rfl ?_) (fun _ => .same _)
  unfold g_sum_turn at H
  refine AW2_st [(0, .c (.p (.agg (h0.toList.map AV.u32)))), (1, .c (.p (.agg (bcells b1.toList))))] [] rfl ⟨TLes.same _, TLes.same _, trivial⟩ trivial ?_
  refine AW2_seq ?_
  refine AW2_reg [0, 1, 2] rfl ?_
  refine r_op rfl rfl (MakeD.opD (n_box 2 rfl rfl) rfl rfl rfl rfl) ?_
  refine r_op rfl rfl (MakeD.opD (n_box 3 rfl rfl) rfl rfl rfl rfl) ?_
  refine r_op rfl rfl (MakeD.opD (u_alloc 4 rfl in_27 one_27 zc_27) rfl rfl rfl rfl) ?_
  refine RunW_st [(2, .c (.ptr 2 (0))), (3, .c (.ptr 3 (0))), (4, .c (.ptr 4 (0)))] [(2, .pure (h0.toList.map AV.u32)), (3, .pure (bcells b1.toList)), (4, .pure (((Vector.replicate 8 (0 : UInt32)).toList).map AV.u32))] rfl ⟨TLes.same _, TLes.same _, TLes.same _, trivial⟩ ⟨rfl, rfl, rfl, trivial⟩ ?_
  refine RunW_nil ?_
  refine AW2_seq ?_
  refine AW2_reg [0] rfl ?_
  refine r_op rfl rfl (MakeD.opD (u_alloc 5 rfl in_71 one_71 zc_71) rfl rfl rfl rfl) ?_
  refine RunW_st [(2, .c (.ptr 2 (0))), (3, .c (.ptr 3 (0))), (4, .c (.ptr 4 (0))), (5, .c (.ptr 5 (0)))] [(2, .pure (h0.toList.map AV.u32)), (3, .pure (bcells b1.toList)), (4, .pure (((Vector.replicate 8 (0 : UInt32)).toList).map AV.u32)), (5, .pure (((Vector.replicate 64 (0 : UInt32)).toList).map AV.u32))] rfl ⟨TLes.same _, TLes.same _, TLes.same _, TLes.same _, trivial⟩ ⟨rfl, rfl, rfl, rfl, trivial⟩ ?_
  refine RunW_nil ?_
  refine AW2_seq ?_
  refine AW2_seq ?_
  refine AW2_reg [0] rfl ?_
  refine r_op rfl rfl (PureD.opD (p_move rfl rfl)) ?_
  refine RunW_st [(2, .c (.ptr 2 (0))), (3, .c (.ptr 3 (0))), (4, .c (.ptr 4 (0))), (5, .c (.ptr 5 (0))), (20, .c (.p (AV.int (0 : Int))))] [(2, .pure (h0.toList.map AV.u32)), (3, .pure (bcells b1.toList)), (4, .pure (((Vector.replicate 8 (0 : UInt32)).toList).map AV.u32)), (5, .pure (((Vector.replicate 64 (0 : UInt32)).toList).map AV.u32))] rfl ⟨TLes.same _, TLes.same _, TLes.same _, TLes.same _, TLes.same _, trivial⟩ ⟨rfl, rfl, rfl, rfl, trivial⟩ ?_
  refine RunW_nil ?_
  refine AW2_block ?_
  refine AW2_st [(2, .c (.ptr 2 (0))), (3, .c (.ptr 3 (0))), (4, .c (.ptr 4 (0))), (5, .c (.ptr 5 (0))), (20, .c (.p (AV.int (0 : Int))))] [(2, .pure (h0.toList.map AV.u32)), (3, .pure (bcells b1.toList)), (4, .pure (((Vector.replicate 8 (0 : UInt32)).toList).map AV.u32)), (5, .pure (((Vector.replicate 64 (0 : UInt32)).toList).map AV.u32))] rfl ⟨TLes.same _, TLes.same _, TLes.same _, TLes.same _, TLes.same _, trivial⟩ ⟨rfl, rfl, rfl, rfl, trivial⟩ ?_
  refine bindK H fun y'5 h7 H => ?_
  refine AW2_loopO (fun a'2 : Int × (Vector UInt32 64) => (⟨[(2, .c (.ptr 2 (0))), (3, .c (.ptr 3 (0))), (4, .c (.ptr 4 (0))), (5, .c (.ptr 5 (0))), (20, .c (.p (AV.int a'2.1)))], [(2, .pure (h0.toList.map AV.u32)), (3, .pure (bcells b1.toList)), (4, .pure (((Vector.replicate 8 (0 : UInt32)).toList).map AV.u32)), (5, .pure (a'2.2.toList.map AV.u32))], 194⟩ : TS)) (fun (y'3 : ((Vector UInt32 64))) e s' => e = Go.Exit.exit 0 ∧ s' = (⟨[(2, .c (.ptr 2 (0))), (4, .c (.ptr 4 (0))), (5, .c (.ptr 5 (0)))], [(2, .pure (h0.toList.map AV.u32)), (4, .pure (((Vector.replicate 8 (0 : UInt32)).toList).map AV.u32)), (5, .pure (y'3.toList.map AV.u32))], 194⟩ : TS)) h7 rfl (fun a x hx => ?_) (fun e s' hs => ?_)
  · clear H
    obtain ⟨t20_0, w5_0⟩ := a
    have H := hx
    clear hx
    unfold g_sum_turn_l0 at H
    refine AW2_seq ?_
    refine AW2_reg [0] rfl ?_
    refine r_op rfl rfl (PureD.opD (p_bin rfl rfl rfl rfl)) ?_
    refine RunW_st [(2, .c (.ptr 2 (0))), (3, .c (.ptr 3 (0))), (4, .c (.ptr 4 (0))), (5, .c (.ptr 5 (0))), (20, .c (.p (AV.int t20_0))), (21, .c (.p (.bool (decide (t20_0 < (16 : Int))))))] [(2, .pure (h0.toList.map AV.u32)), (3, .pure (bcells b1.toList)), (4, .pure (((Vector.replicate 8 (0 : UInt32)).toList).map AV.u32)), (5, .pure (w5_0.toList.map AV.u32))] rfl ⟨TLes.same _, TLes.same _, TLes.same _, TLes.same _, TLes.same _, TLes.same _, trivial⟩ ⟨rfl, rfl, rfl, rfl, trivial⟩ ?_
    refine RunW_nil ?_
    refine AW2_seq ?_
    refine AW2_if (p := t20_0 < (16 : Int)) rfl (fun h1 => ?_) (fun h1 => ?_)
    · replace H := ite_then h1 H
      refine AW2_st [(2, .c (.ptr 2 (0))), (3, .c (.ptr 3 (0))), (4, .c (.ptr 4 (0))), (5, .c (.ptr 5 (0))), (20, .c (.p (AV.int t20_0)))] [(2, .pure (h0.toList.map AV.u32)), (3, .pure (bcells b1.toList)), (4, .pure (((Vector.replicate 8 (0 : UInt32)).toList).map AV.u32)), (5, .pure (w5_0.toList.map AV.u32))] rfl ⟨TLes.same _, TLes.same _, TLes.same _, TLes.same _, TLes.same _, trivial⟩ ⟨rfl, rfl, rfl, rfl, trivial⟩ ?_
      refine AW2_skip ?_
      refine AW2_seq ?_
      refine AW2_block ?_
      refine AW2_seq ?_
      refine AW2_reg [0, 1] rfl ?_
      refine r_op rfl rfl (PureD.opD (p_move rfl rfl)) ?_
      refine r_op rfl rfl (PureD.opD (p_asg rfl rfl)) ?_
      refine RunW_st [(2, .c (.ptr 2 (0))), (3, .c (.ptr 3 (0))), (4, .c (.ptr 4 (0))), (5, .c (.ptr 5 (0))), (6, .c (.p (AV.int t20_0))), (20, .c (.p (AV.int t20_0)))] [(2, .pure (h0.toList.map AV.u32)), (3, .pure (bcells b1.toList)), (4, .pure (((Vector.replicate 8 (0 : UInt32)).toList).map AV.u32)), (5, .pure (w5_0.toList.map AV.u32))] rfl ⟨TLes.same _, TLes.same _, TLes.same _, TLes.same _, TLes.same _, TLes.same _, trivial⟩ ⟨rfl, rfl, rfl, rfl, trivial⟩ ?_
      refine RunW_nil ?_
      refine chkK H fun h2 H => ?_
      refine chkK H fun h3 H => ?_
      refine chkK H fun h4 H => ?_
      refine chkK H fun h5 H => ?_
      refine chkK H fun h6 H => ?_
      refine AW2_ghoQ ?_
      refine AW2_draw 30 [30, 31] (fun k => ([.c (.p (AV.int t20_0)), .c (.p (AV.int t20_0)), .c (.p (AV.int (w64 ((4 : Int) * t20_0)))), .c (.ptr 3 (0 + ((w64 ((4 : Int) * t20_0)).toNat) * 1)), .c (.p (AV.b8 (vrd b1 ((w64 ((4 : Int) * t20_0)).toNat)))), .c (.p (AV.u32 ((vrd b1 ((w64 ((4 : Int) * t20_0)).toNat)).toUInt32))), .c (.p (AV.u32 (shl_u32 ((vrd b1 ((w64 ((4 : Int) * t20_0)).toNat)).toUInt32) 24))), .c (.p (AV.int t20_0)), .c (.p (AV.int (w64 ((4 : Int) * t20_0)))), .c (.p (AV.int (w64 ((w64 ((4 : Int) * t20_0)) + (1 : Int))))), .c (.ptr 3 (0 + ((w64 ((w64 ((4 : Int) * t20_0)) + (1 : Int))).toNat) * 1)), .c (.p (AV.b8 (vrd b1 ((w64 ((w64 ((4 : Int) * t20_0)) + (1 : Int))).toNat)))), .c (.p (AV.u32 ((vrd b1 ((w64 ((w64 ((4 : Int) * t20_0)) + (1 : Int))).toNat)).toUInt32))), .c (.p (AV.u32 (shl_u32 ((vrd b1 ((w64 ((w64 ((4 : Int) * t20_0)) + (1 : Int))).toNat)).toUInt32) 16))), .c (.p (AV.u32 ((shl_u32 ((vrd b1 ((w64 ((4 : Int) * t20_0)).toNat)).toUInt32) 24) ||| (shl_u32 ((vrd b1 ((w64 ((w64 ((4 : Int) * t20_0)) + (1 : Int))).toNat)).toUInt32) 16)))), .c (.p (AV.int t20_0)), .c (.p (AV.int (w64 ((4 : Int) * t20_0)))), .c (.p (AV.int (w64 ((w64 ((4 : Int) * t20_0)) + (2 : Int))))), .c (.ptr 3 (0 + ((w64 ((w64 ((4 : Int) * t20_0)) + (2 : Int))).toNat) * 1)), .c (.p (AV.b8 (vrd b1 ((w64 ((w64 ((4 : Int) * t20_0)) + (2 : Int))).toNat)))), .c (.p (AV.u32 ((vrd b1 ((w64 ((w64 ((4 : Int) * t20_0)) + (2 : Int))).toNat)).toUInt32))), .c (.p (AV.u32 (shl_u32 ((vrd b1 ((w64 ((w64 ((4 : Int) * t20_0)) + (2 : Int))).toNat)).toUInt32) 8))), .c (.p (AV.u32 (((shl_u32 ((vrd b1 ((w64 ((4 : Int) * t20_0)).toNat)).toUInt32) 24) ||| (shl_u32 ((vrd b1 ((w64 ((w64 ((4 : Int) * t20_0)) + (1 : Int))).toNat)).toUInt32) 16)) ||| (shl_u32 ((vrd b1 ((w64 ((w64 ((4 : Int) * t20_0)) + (2 : Int))).toNat)).toUInt32) 8)))), .c (.p (AV.int t20_0)), .c (.p (AV.int (w64 ((4 : Int) * t20_0)))), .c (.p (AV.int (w64 ((w64 ((4 : Int) * t20_0)) + (3 : Int))))), .c (.ptr 3 (0 + ((w64 ((w64 ((4 : Int) * t20_0)) + (3 : Int))).toNat) * 1)), .c (.p (AV.b8 (vrd b1 ((w64 ((w64 ((4 : Int) * t20_0)) + (3 : Int))).toNat)))), .c (.p (AV.u32 ((vrd b1 ((w64 ((w64 ((4 : Int) * t20_0)) + (3 : Int))).toNat)).toUInt32))), .c (.p (AV.u32 ((((shl_u32 ((vrd b1 ((w64 ((4 : Int) * t20_0)).toNat)).toUInt32) 24) ||| (shl_u32 ((vrd b1 ((w64 ((w64 ((4 : Int) * t20_0)) + (1 : Int))).toNat)).toUInt32) 16)) ||| (shl_u32 ((vrd b1 ((w64 ((w64 ((4 : Int) * t20_0)) + (2 : Int))).toNat)).toUInt32) 8)) ||| ((vrd b1 ((w64 ((w64 ((4 : Int) * t20_0)) + (3 : Int))).toNat)).toUInt32))))] : List TV).getD k TV.any) (fun k => ([[(6, none)], [(6, none)], [(24, some 1)], [(3, none), (25, some 2)], [(26, some 3)], [(27, some 4)], [(28, some 5)], [(6, none)], [(30, some 7)], [(31, some 8)], [(3, none), (32, some 9)], [(33, some 10)], [(34, some 11)], [(35, some 12)], [(29, some 6), (36, some 13)], [(6, none)], [(38, some 15)], [(39, some 16)], [(3, none), (40, some 17)], [(41, some 18)], [(42, some 19)], [(43, some 20)], [(37, some 14), (44, some 21)], [(6, none)], [(46, some 23)], [(47, some 24)], [(3, none), (48, some 25)], [(49, some 26)], [(50, some 27)], [(45, some 22), (51, some 28)]] : List (List (Nat × Option Nat))).getD k []) [(2, none), (3, none), (4, none), (5, none), (20, none), (23, some 0), (52, some 29)] [] (fun k => ([[], [], [1], [1, 2], [1, 2, 3], [1, 2, 3, 4], [1, 2, 3, 4, 5], [], [7], [7, 8], [7, 8, 9], [7, 8, 9, 10], [7, 8, 9, 10, 11], [7, 8, 9, 10, 11, 12], [1, 2, 3, 4, 5, 6, 7, 8, 9, 10, 11, 12, 13], [], [15], [15, 16], [15, 16, 17], [15, 16, 17, 18], [15, 16, 17, 18, 19], [15, 16, 17, 18, 19, 20], [1, 2, 3, 4, 5, 6, 7, 8, 9, 10, 11, 12, 13, 14, 15, 16, 17, 18, 19, 20, 21], [], [23], [23, 24], [23, 24, 25], [23, 24, 25, 26], [23, 24, 25, 26, 27], [1, 2, 3, 4, 5, 6, 7, 8, 9, 10, 11, 12, 13, 14, 15, 16, 17, 18, 19, 20, 21, 22, 23, 24, 25, 26, 27, 28], [0, 1, 2, 3, 4, 5, 6, 7, 8, 9, 10, 11, 12, 13, 14, 15, 16, 17, 18, 19, 20, 21, 22, 23, 24, 25, 26, 27, 28, 29], [0, 1, 2, 3, 4, 5, 6, 7, 8, 9, 10, 11, 12, 13, 14, 15, 16, 17, 18, 19, 20, 21, 22, 23, 24, 25, 26, 27, 28, 29, 30]] : List (List Nat)).getD k []) mixed (by kernel_rfl) rfl rfl (a_op (g_x rfl (x_p rfl (p_move rfl rfl) rfl)) (a_op (g_x rfl (x_p rfl (p_move rfl rfl) rfl)) (a_op (g_x rfl (x_p rfl (p_bin rfl rfl rfl rfl) rfl)) (a_op (g_x rfl (x_p rfl (u_ixp rfl rfl Tryd.underlying28 in_5 rfl rfl (ne_of_lt (n := 0) (Nat.lt_of_lt_of_eq (by decide) (Eq.symm ((bcells_length _).trans (vlen b1))))) rfl (ixe h2) (ixn h2)) rfl)) (a_op (g_x rfl (x_p rfl (u_ld rfl rfl Tryd.underlying5 rfl rfl ((Sub.refl _).trans (Sub.vmap (ixn h2)))) rfl)) (a_op (g_x rfl (x_p rfl (p_u8_u32 (a := (vrd b1 ((w64 ((4 : Int) * t20_0)).toNat))) rfl Tryd.underlying5 Tryd.underlying26 rfl) rfl)) (a_op (g_x rfl (x_p rfl (p_u32shl (n := 24) rfl rfl rfl rfl) rfl)) (a_op (g_x rfl (x_p rfl (p_move rfl rfl) rfl)) (a_op (g_x rfl (x_p rfl (p_bin rfl rfl rfl rfl) rfl)) (a_op (g_x rfl (x_p rfl (p_bin rfl rfl rfl rfl) rfl)) (a_op (g_x rfl (x_p rfl (u_ixp rfl rfl Tryd.underlying28 in_5 rfl rfl (ne_of_lt (n := 0) (Nat.lt_of_lt_of_eq (by decide) (Eq.symm ((bcells_length _).trans (vlen b1))))) rfl (ixe h3) (ixn h3)) rfl)) (a_op (g_x rfl (x_p rfl (u_ld rfl rfl Tryd.underlying5 rfl rfl ((Sub.refl _).trans (Sub.vmap (ixn h3)))) rfl)) (a_op (g_x rfl (x_p rfl (p_u8_u32 (a := (vrd b1 ((w64 ((w64 ((4 : Int) * t20_0)) + (1 : Int))).toNat))) rfl Tryd.underlying5 Tryd.underlying26 rfl) rfl)) (a_op (g_x rfl (x_p rfl (p_u32shl (n := 16) rfl rfl rfl rfl) rfl)) (a_op (g_x rfl (x_p rfl (p_u32or (a := shl_u32 ((vrd b1 ((w64 ((4 : Int) * t20_0)).toNat)).toUInt32) 24) (b := shl_u32 ((vrd b1 ((w64 ((w64 ((4 : Int) * t20_0)) + (1 : Int))).toNat)).toUInt32) 16) rfl rfl rfl) rfl)) (a_op (g_x rfl (x_p rfl (p_move rfl rfl) rfl)) (a_op (g_x rfl (x_p rfl (p_bin rfl rfl rfl rfl) rfl)) (a_op (g_x rfl (x_p rfl (p_bin rfl rfl rfl rfl) rfl)) (a_op (g_x rfl (x_p rfl (u_ixp rfl rfl Tryd.underlying28 in_5 rfl rfl (ne_of_lt (n := 0) (Nat.lt_of_lt_of_eq (by decide) (Eq.symm ((bcells_length _).trans (vlen b1))))) rfl (ixe h4) (ixn h4)) rfl)) (a_op (g_x rfl (x_p rfl (u_ld rfl rfl Tryd.underlying5 rfl rfl ((Sub.refl _).trans (Sub.vmap (ixn h4)))) rfl)) (a_op (g_x rfl (x_p rfl (p_u8_u32 (a := (vrd b1 ((w64 ((w64 ((4 : Int) * t20_0)) + (2 : Int))).toNat))) rfl Tryd.underlying5 Tryd.underlying26 rfl) rfl)) (a_op (g_x rfl (x_p rfl (p_u32shl (n := 8) rfl rfl rfl rfl) rfl)) (a_op (g_x rfl (x_p rfl (p_u32or (a := (shl_u32 ((vrd b1 ((w64 ((4 : Int) * t20_0)).toNat)).toUInt32) 24) ||| (shl_u32 ((vrd b1 ((w64 ((w64 ((4 : Int) * t20_0)) + (1 : Int))).toNat)).toUInt32) 16)) (b := shl_u32 ((vrd b1 ((w64 ((w64 ((4 : Int) * t20_0)) + (2 : Int))).toNat)).toUInt32) 8) rfl rfl rfl) rfl)) (a_op (g_x rfl (x_p rfl (p_move rfl rfl) rfl)) (a_op (g_x rfl (x_p rfl (p_bin rfl rfl rfl rfl) rfl)) (a_op (g_x rfl (x_p rfl (p_bin rfl rfl rfl rfl) rfl)) (a_op (g_x rfl (x_p rfl (u_ixp rfl rfl Tryd.underlying28 in_5 rfl rfl (ne_of_lt (n := 0) (Nat.lt_of_lt_of_eq (by decide) (Eq.symm ((bcells_length _).trans (vlen b1))))) rfl (ixe h5) (ixn h5)) rfl)) (a_op (g_x rfl (x_p rfl (u_ld rfl rfl Tryd.underlying5 rfl rfl ((Sub.refl _).trans (Sub.vmap (ixn h5)))) rfl)) (a_op (g_x rfl (x_p rfl (p_u8_u32 (a := (vrd b1 ((w64 ((w64 ((4 : Int) * t20_0)) + (3 : Int))).toNat))) rfl Tryd.underlying5 Tryd.underlying26 rfl) rfl)) (a_op (g_x rfl (x_p rfl (p_u32or (a := ((shl_u32 ((vrd b1 ((w64 ((4 : Int) * t20_0)).toNat)).toUInt32) 24) ||| (shl_u32 ((vrd b1 ((w64 ((w64 ((4 : Int) * t20_0)) + (1 : Int))).toNat)).toUInt32) 16)) ||| (shl_u32 ((vrd b1 ((w64 ((w64 ((4 : Int) * t20_0)) + (2 : Int))).toNat)).toUInt32) 8)) (b := (vrd b1 ((w64 ((w64 ((4 : Int) * t20_0)) + (3 : Int))).toNat)).toUInt32) rfl rfl rfl) rfl)) (a_nil))))))))))))))))))))))))))))))) ?_
      refine t_op rfl rfl (PureD.opD (u_ixp rfl rfl Tryd.underlying71 in_26 rfl rfl (ne_of_lt (n := 0) (Nat.lt_of_lt_of_eq (by decide) (Eq.symm (vmap_len (f := AV.u32) w5_0)))) rfl (ixe h6) (ixn h6))) ?_
      refine t_op rfl rfl (u_st rfl rfl rfl rfl rfl in_26 rfl (ne_of_lt (n := 0) (Nat.lt_of_lt_of_eq (by decide) (Eq.symm (vmap_len (f := AV.u32) w5_0)))) (Upd.trans (Sub.refl _) (Upd.vmap (ixn h6)) (Upd.refl ((vmap_len (f := AV.u32) (vwr w5_0 t20_0.toNat ((((shl_u32 ((vrd b1 ((w64 ((4 : Int) * t20_0)).toNat)).toUInt32) 24) ||| (shl_u32 ((vrd b1 ((w64 ((w64 ((4 : Int) * t20_0)) + (1 : Int))).toNat)).toUInt32) 16)) ||| (shl_u32 ((vrd b1 ((w64 ((w64 ((4 : Int) * t20_0)) + (2 : Int))).toNat)).toUInt32) 8)) ||| ((vrd b1 ((w64 ((w64 ((4 : Int) * t20_0)) + (3 : Int))).toNat)).toUInt32)))).trans (vmap_len (f := AV.u32) w5_0).symm)))) ?_
      refine t_gho (Gho_st (L := [(2, .c (.ptr 2 (0))), (3, .c (.ptr 3 (0))), (4, .c (.ptr 4 (0))), (5, .c (.ptr 5 (0))), (20, .c (.p (AV.int t20_0)))]) (H := [(2, .pure (h0.toList.map AV.u32)), (3, .pure (bcells b1.toList)), (4, .pure (((Vector.replicate 8 (0 : UInt32)).toList).map AV.u32)), (5, .pure (((vwr w5_0 t20_0.toNat ((((shl_u32 ((vrd b1 ((w64 ((4 : Int) * t20_0)).toNat)).toUInt32) 24) ||| (shl_u32 ((vrd b1 ((w64 ((w64 ((4 : Int) * t20_0)) + (1 : Int))).toNat)).toUInt32) 16)) ||| (shl_u32 ((vrd b1 ((w64 ((w64 ((4 : Int) * t20_0)) + (2 : Int))).toNat)).toUInt32) 8)) ||| ((vrd b1 ((w64 ((w64 ((4 : Int) * t20_0)) + (3 : Int))).toNat)).toUInt32))).toList).map AV.u32))]) rfl ⟨TLes.same _, TLes.same _, TLes.same _, TLes.same _, TLes.same _, trivial⟩ ⟨rfl, rfl, rfl, rfl, trivial⟩) ?_
      refine gen1 (fun w5'1 => (⟨[(2, .c (.ptr 2 (0))), (3, .c (.ptr 3 (0))), (4, .c (.ptr 4 (0))), (5, .c (.ptr 5 (0))), (20, .c (.p (AV.int t20_0)))], [(2, .pure (h0.toList.map AV.u32)), (3, .pure (bcells b1.toList)), (4, .pure (((Vector.replicate 8 (0 : UInt32)).toList).map AV.u32)), (5, .pure (w5'1.toList.map AV.u32))], 194⟩ : TS)) H ?_
      intro w5'1 H
      refine AW2_reg [0, 1] rfl ?_
      refine r_op rfl rfl (PureD.opD (p_bin rfl rfl rfl rfl)) ?_
      refine r_op rfl rfl (PureD.opD (p_move rfl rfl)) ?_
      refine RunW_st [(2, .c (.ptr 2 (0))), (3, .c (.ptr 3 (0))), (4, .c (.ptr 4 (0))), (5, .c (.ptr 5 (0))), (20, .c (.p (AV.int (w64 (t20_0 + (1 : Int))))))] [(2, .pure (h0.toList.map AV.u32)), (3, .pure (bcells b1.toList)), (4, .pure (((Vector.replicate 8 (0 : UInt32)).toList).map AV.u32)), (5, .pure (w5'1.toList.map AV.u32))] rfl ⟨TLes.same _, TLes.same _, TLes.same _, TLes.same _, TLes.same _, trivial⟩ ⟨rfl, rfl, rfl, rfl, trivial⟩ ?_
      refine RunW_nil ?_
      have hz := some_elim H
      subst hz
      exact ⟨rfl, rfl⟩
    · replace H := ite_else h1 H
      refine AW2_st [(2, .c (.ptr 2 (0))), (4, .c (.ptr 4 (0))), (5, .c (.ptr 5 (0)))] [(2, .pure (h0.toList.map AV.u32)), (4, .pure (((Vector.replicate 8 (0 : UInt32)).toList).map AV.u32)), (5, .pure (w5_0.toList.map AV.u32))] rfl ⟨TLes.same _, TLes.same _, TLes.same _, trivial⟩ ⟨rfl, rfl, rfl, trivial⟩ ?_
      refine AW2_exit ?_
      refine thenQ2_exit ?_
      have hz := some_elim H
      subst hz
      exact ⟨rfl, rfl⟩
  · obtain ⟨rfl, rfl⟩ := hs
    refine ⟨by simp, ?_⟩
    refine blockQ2_exit ?_
    refine AW2_seq ?_
    refine AW2_seq ?_
    refine AW2_reg [0] rfl ?_
    refine r_op rfl rfl (PureD.opD (p_asg rfl rfl)) ?_
    refine RunW_st [(2, .c (.ptr 2 (0))), (4, .c (.ptr 4 (0))), (5, .c (.ptr 5 (0))), (7, .c (.p (AV.int (16 : Int))))] [(2, .pure (h0.toList.map AV.u32)), (4, .pure (((Vector.replicate 8 (0 : UInt32)).toList).map AV.u32)), (5, .pure (y'5.toList.map AV.u32))] rfl ⟨TLes.same _, TLes.same _, TLes.same _, TLes.same _, trivial⟩ ⟨rfl, rfl, rfl, trivial⟩ ?_
    refine RunW_nil ?_
    refine AW2_block ?_
    refine AW2_st [(2, .c (.ptr 2 (0))), (4, .c (.ptr 4 (0))), (5, .c (.ptr 5 (0))), (7, .c (.p (AV.int (16 : Int))))] [(2, .pure (h0.toList.map AV.u32)), (4, .pure (((Vector.replicate 8 (0 : UInt32)).toList).map AV.u32)), (5, .pure (y'5.toList.map AV.u32))] rfl ⟨TLes.same _, TLes.same _, TLes.same _, TLes.same _, trivial⟩ ⟨rfl, rfl, rfl, trivial⟩ ?_
    refine bindK H fun y'16 h18 H => ?_
    refine AW2_loopO (fun a'13 : Int × (Vector UInt32 64) => (⟨[(2, .c (.ptr 2 (0))), (4, .c (.ptr 4 (0))), (5, .c (.ptr 5 (0))), (7, .c (.p (AV.int a'13.1)))], [(2, .pure (h0.toList.map AV.u32)), (4, .pure (((Vector.replicate 8 (0 : UInt32)).toList).map AV.u32)), (5, .pure (a'13.2.toList.map AV.u32))], 194⟩ : TS)) (fun (y'14 : ((Vector UInt32 64))) e s' => e = Go.Exit.exit 2 ∧ s' = (⟨[(2, .c (.ptr 2 (0))), (4, .c (.ptr 4 (0))), (5, .c (.ptr 5 (0)))], [(2, .pure (h0.toList.map AV.u32)), (4, .pure (((Vector.replicate 8 (0 : UInt32)).toList).map AV.u32)), (5, .pure (y'14.toList.map AV.u32))], 194⟩ : TS)) h18 rfl (fun a x hx => ?_) (fun e s' hs => ?_)
    · clear H
      obtain ⟨i7_1, w5_1⟩ := a
      have H := hx
      clear hx
      unfold g_sum_turn_l1 at H
      refine AW2_seq ?_
      refine AW2_seq ?_
      refine AW2_reg [0, 1] rfl ?_
      refine r_op rfl rfl (PureD.opD (p_move rfl rfl)) ?_
      refine r_op rfl rfl (PureD.opD (p_bin rfl rfl rfl rfl)) ?_
      refine RunW_st [(2, .c (.ptr 2 (0))), (4, .c (.ptr 4 (0))), (5, .c (.ptr 5 (0))), (7, .c (.p (AV.int i7_1))), (56, .c (.p (.bool (decide (i7_1 < (64 : Int))))))] [(2, .pure (h0.toList.map AV.u32)), (4, .pure (((Vector.replicate 8 (0 : UInt32)).toList).map AV.u32)), (5, .pure (w5_1.toList.map AV.u32))] rfl ⟨TLes.same _, TLes.same _, TLes.same _, TLes.same _, TLes.same _, trivial⟩ ⟨rfl, rfl, rfl, trivial⟩ ?_
      refine RunW_nil ?_
      refine AW2_if (p := i7_1 < (64 : Int)) rfl (fun h8 => ?_) (fun h8 => ?_)
      · replace H := ite_then h8 H
        refine AW2_st [(2, .c (.ptr 2 (0))), (4, .c (.ptr 4 (0))), (5, .c (.ptr 5 (0))), (7, .c (.p (AV.int i7_1)))] [(2, .pure (h0.toList.map AV.u32)), (4, .pure (((Vector.replicate 8 (0 : UInt32)).toList).map AV.u32)), (5, .pure (w5_1.toList.map AV.u32))] rfl ⟨TLes.same _, TLes.same _, TLes.same _, TLes.same _, trivial⟩ ⟨rfl, rfl, rfl, trivial⟩ ?_
        refine AW2_skip ?_
        refine AW2_seq ?_
        refine AW2_block ?_
        refine AW2_seq ?_
        refine chkK H fun h9 H => ?_
        refine chkK H fun h10 H => ?_
        refine AW2_ghoQ ?_
        refine AW2_draw 9 [9] (fun k => ([.c (.p (AV.int i7_1)), .c (.p (AV.int (w64 (i7_1 - (15 : Int))))), .c (.ptr 5 (0 + ((w64 (i7_1 - (15 : Int))).toNat) * 1)), .c (.p (AV.u32 (vrd w5_1 ((w64 (i7_1 - (15 : Int))).toNat)))), .c (.p (AV.int i7_1)), .c (.p (AV.int (w64 (i7_1 - (2 : Int))))), .c (.ptr 5 (0 + ((w64 (i7_1 - (2 : Int))).toNat) * 1)), .c (.p (AV.u32 (vrd w5_1 ((w64 (i7_1 - (2 : Int))).toNat)))), .c (.p (AV.u32 (vrd w5_1 ((w64 (i7_1 - (15 : Int))).toNat))))] : List TV).getD k TV.any) (fun k => ([[(7, none)], [(59, some 0)], [(5, none), (60, some 1)], [(61, some 2)], [(7, none)], [(63, some 4)], [(5, none), (64, some 5)], [(65, some 6)], [(62, some 3)]] : List (List (Nat × Option Nat))).getD k []) [(2, none), (4, none), (5, none), (7, none), (8, some 8), (66, some 7)] [] (fun k => ([[], [0], [0, 1], [0, 1, 2], [], [4], [4, 5], [4, 5, 6], [0, 1, 2, 3], [0, 1, 2, 3, 4, 5, 6, 7, 8]] : List (List Nat)).getD k []) mixed (by kernel_rfl) rfl rfl (a_op (g_x rfl (x_p rfl (p_move rfl rfl) rfl)) (a_op (g_x rfl (x_p rfl (p_bin rfl rfl rfl rfl) rfl)) (a_op (g_x rfl (x_p rfl (u_ixp rfl rfl Tryd.underlying71 in_26 rfl rfl (ne_of_lt (n := 0) (Nat.lt_of_lt_of_eq (by decide) (Eq.symm (vmap_len (f := AV.u32) w5_1)))) rfl (ixe h9) (ixn h9)) rfl)) (a_op (g_x rfl (x_p rfl (u_ld rfl rfl Tryd.underlying26 rfl rfl ((Sub.refl _).trans (Sub.vmap (ixn h9)))) rfl)) (a_op (g_x rfl (x_p rfl (p_move rfl rfl) rfl)) (a_op (g_x rfl (x_p rfl (p_bin rfl rfl rfl rfl) rfl)) (a_op (g_x rfl (x_p rfl (u_ixp rfl rfl Tryd.underlying71 in_26 rfl rfl (ne_of_lt (n := 0) (Nat.lt_of_lt_of_eq (by decide) (Eq.symm (vmap_len (f := AV.u32) w5_1)))) rfl (ixe h10) (ixn h10)) rfl)) (a_op (g_x rfl (x_p rfl (u_ld rfl rfl Tryd.underlying26 rfl rfl ((Sub.refl _).trans (Sub.vmap (ixn h10)))) rfl)) (a_op (g_x rfl (x_p rfl (p_asg rfl rfl) rfl)) (a_nil)))))))))) ?_
        refine t_op rfl rfl (PureD.opD (p_asg rfl rfl)) ?_
        refine t_gho (Gho_st (L := [(2, .c (.ptr 2 (0))), (4, .c (.ptr 4 (0))), (5, .c (.ptr 5 (0))), (7, .c (.p (AV.int i7_1))), (8, .c (.p (AV.u32 (vrd w5_1 ((w64 (i7_1 - (15 : Int))).toNat))))), (9, .c (.p (AV.u32 (vrd w5_1 ((w64 (i7_1 - (2 : Int))).toNat)))))]) (H := [(2, .pure (h0.toList.map AV.u32)), (4, .pure (((Vector.replicate 8 (0 : UInt32)).toList).map AV.u32)), (5, .pure (w5_1.toList.map AV.u32))]) rfl ⟨TLes.same _, TLes.same _, TLes.same _, TLes.same _, TLes.same _, TLes.same _, trivial⟩ ⟨rfl, rfl, rfl, trivial⟩) ?_
        refine AW2_seq ?_
        refine AW2_reg [0, 1, 2, 3, 4, 5, 6, 7, 8] rfl ?_
        refine r_op rfl rfl (PureD.opD (p_move rfl rfl)) ?_
        refine bindK H fun r'6 h11 H => ?_
        refine r_op rfl rfl (PureD.opD (p_callp rfl rfl rfl Tryd.func53 rfl rfl (g_bits_RotateLeft32_ac h11) ⟨rfl, rfl, trivial⟩)) ?_
        refine r_op rfl rfl (PureD.opD (p_move rfl rfl)) ?_
        refine bindK H fun r'7 h12 H => ?_
        refine r_op rfl rfl (PureD.opD (p_callp rfl rfl rfl Tryd.func53 rfl rfl (g_bits_RotateLeft32_ac h12) ⟨rfl, rfl, trivial⟩)) ?_
        refine r_op rfl rfl (PureD.opD (p_u32xor (a := r'6) (b := r'7) rfl rfl rfl)) ?_
        refine r_op rfl rfl (PureD.opD (p_move rfl rfl)) ?_
        refine r_op rfl rfl (PureD.opD (p_u32shr (n := 3) rfl rfl rfl rfl)) ?_
        refine r_op rfl rfl (PureD.opD (p_u32xor (a := r'6 ^^^ r'7) (b := shr_u32 (vrd w5_1 ((w64 (i7_1 - (15 : Int))).toNat)) 3) rfl rfl rfl)) ?_
        refine r_op rfl rfl (PureD.opD (p_asg rfl rfl)) ?_
        refine RunW_st [(2, .c (.ptr 2 (0))), (4, .c (.ptr 4 (0))), (5, .c (.ptr 5 (0))), (7, .c (.p (AV.int i7_1))), (9, .c (.p (AV.u32 (vrd w5_1 ((w64 (i7_1 - (2 : Int))).toNat))))), (10, .c (.p (AV.u32 ((r'6 ^^^ r'7) ^^^ (shr_u32 (vrd w5_1 ((w64 (i7_1 - (15 : Int))).toNat)) 3)))))] [(2, .pure (h0.toList.map AV.u32)), (4, .pure (((Vector.replicate 8 (0 : UInt32)).toList).map AV.u32)), (5, .pure (w5_1.toList.map AV.u32))] rfl ⟨TLes.same _, TLes.same _, TLes.same _, TLes.same _, TLes.same _, TLes.same _, trivial⟩ ⟨rfl, rfl, rfl, trivial⟩ ?_
        refine RunW_nil ?_
        refine gen1 (fun s10'8 => (⟨[(2, .c (.ptr 2 (0))), (4, .c (.ptr 4 (0))), (5, .c (.ptr 5 (0))), (7, .c (.p (AV.int i7_1))), (9, .c (.p (AV.u32 (vrd w5_1 ((w64 (i7_1 - (2 : Int))).toNat))))), (10, .c (.p (AV.u32 s10'8)))], [(2, .pure (h0.toList.map AV.u32)), (4, .pure (((Vector.replicate 8 (0 : UInt32)).toList).map AV.u32)), (5, .pure (w5_1.toList.map AV.u32))], 194⟩ : TS)) H ?_
        intro s10'8 H
        refine AW2_seq ?_
        refine AW2_reg [0, 1, 2, 3, 4, 5, 6, 7, 8] rfl ?_
        refine r_op rfl rfl (PureD.opD (p_move rfl rfl)) ?_
        refine bindK H fun r'9 h13 H => ?_
        refine r_op rfl rfl (PureD.opD (p_callp rfl rfl rfl Tryd.func53 rfl rfl (g_bits_RotateLeft32_ac h13) ⟨rfl, rfl, trivial⟩)) ?_
        refine r_op rfl rfl (PureD.opD (p_move rfl rfl)) ?_
        refine bindK H fun r'10 h14 H => ?_
        refine r_op rfl rfl (PureD.opD (p_callp rfl rfl rfl Tryd.func53 rfl rfl (g_bits_RotateLeft32_ac h14) ⟨rfl, rfl, trivial⟩)) ?_
        refine r_op rfl rfl (PureD.opD (p_u32xor (a := r'9) (b := r'10) rfl rfl rfl)) ?_
        refine r_op rfl rfl (PureD.opD (p_move rfl rfl)) ?_
        refine r_op rfl rfl (PureD.opD (p_u32shr (n := 10) rfl rfl rfl rfl)) ?_
        refine r_op rfl rfl (PureD.opD (p_u32xor (a := r'9 ^^^ r'10) (b := shr_u32 (vrd w5_1 ((w64 (i7_1 - (2 : Int))).toNat)) 10) rfl rfl rfl)) ?_
        refine r_op rfl rfl (PureD.opD (p_asg rfl rfl)) ?_
        refine RunW_st [(2, .c (.ptr 2 (0))), (4, .c (.ptr 4 (0))), (5, .c (.ptr 5 (0))), (7, .c (.p (AV.int i7_1))), (10, .c (.p (AV.u32 s10'8))), (11, .c (.p (AV.u32 ((r'9 ^^^ r'10) ^^^ (shr_u32 (vrd w5_1 ((w64 (i7_1 - (2 : Int))).toNat)) 10)))))] [(2, .pure (h0.toList.map AV.u32)), (4, .pure (((Vector.replicate 8 (0 : UInt32)).toList).map AV.u32)), (5, .pure (w5_1.toList.map AV.u32))] rfl ⟨TLes.same _, TLes.same _, TLes.same _, TLes.same _, TLes.same _, TLes.same _, trivial⟩ ⟨rfl, rfl, rfl, trivial⟩ ?_
        refine RunW_nil ?_
        refine gen1 (fun t11'11 => (⟨[(2, .c (.ptr 2 (0))), (4, .c (.ptr 4 (0))), (5, .c (.ptr 5 (0))), (7, .c (.p (AV.int i7_1))), (10, .c (.p (AV.u32 s10'8))), (11, .c (.p (AV.u32 t11'11)))], [(2, .pure (h0.toList.map AV.u32)), (4, .pure (((Vector.replicate 8 (0 : UInt32)).toList).map AV.u32)), (5, .pure (w5_1.toList.map AV.u32))], 194⟩ : TS)) H ?_
        intro t11'11 H
        refine chkK H fun h15 H => ?_
        refine chkK H fun h16 H => ?_
        refine chkK H fun h17 H => ?_
        refine AW2_ghoQ ?_
        refine AW2_draw 14 [14, 15] (fun k => ([.c (.p (AV.int i7_1)), .c (.p (AV.int i7_1)), .c (.p (AV.int (w64 (i7_1 - (16 : Int))))), .c (.ptr 5 (0 + ((w64 (i7_1 - (16 : Int))).toNat) * 1)), .c (.p (AV.u32 (vrd w5_1 ((w64 (i7_1 - (16 : Int))).toNat)))), .c (.p (AV.u32 s10'8)), .c (.p (AV.u32 ((vrd w5_1 ((w64 (i7_1 - (16 : Int))).toNat)) + s10'8))), .c (.p (AV.int i7_1)), .c (.p (AV.int (w64 (i7_1 - (7 : Int))))), .c (.ptr 5 (0 + ((w64 (i7_1 - (7 : Int))).toNat) * 1)), .c (.p (AV.u32 (vrd w5_1 ((w64 (i7_1 - (7 : Int))).toNat)))), .c (.p (AV.u32 (((vrd w5_1 ((w64 (i7_1 - (16 : Int))).toNat)) + s10'8) + (vrd w5_1 ((w64 (i7_1 - (7 : Int))).toNat))))), .c (.p (AV.u32 t11'11)), .c (.p (AV.u32 ((((vrd w5_1 ((w64 (i7_1 - (16 : Int))).toNat)) + s10'8) + (vrd w5_1 ((w64 (i7_1 - (7 : Int))).toNat))) + t11'11)))] : List TV).getD k TV.any) (fun k => ([[(7, none)], [(7, none)], [(84, some 1)], [(5, none), (85, some 2)], [(86, some 3)], [(10, none)], [(87, some 4), (88, some 5)], [(7, none)], [(90, some 7)], [(5, none), (91, some 8)], [(92, some 9)], [(89, some 6), (93, some 10)], [(11, none)], [(94, some 11), (95, some 12)]] : List (List (Nat × Option Nat))).getD k []) [(2, none), (4, none), (5, none), (7, none), (83, some 0), (96, some 13)] [] (fun k => ([[], [], [1], [1, 2], [1, 2, 3], [], [1, 2, 3, 4, 5], [], [7], [7, 8], [7, 8, 9], [1, 2, 3, 4, 5, 6, 7, 8, 9, 10], [], [1, 2, 3, 4, 5, 6, 7, 8, 9, 10, 11, 12], [0, 1, 2, 3, 4, 5, 6, 7, 8, 9, 10, 11, 12, 13], [0, 1, 2, 3, 4, 5, 6, 7, 8, 9, 10, 11, 12, 13, 14]] : List (List Nat)).getD k []) mixed (by kernel_rfl) rfl rfl (a_op (g_x rfl (x_p rfl (p_move rfl rfl) rfl)) (a_op (g_x rfl (x_p rfl (p_move rfl rfl) rfl)) (a_op (g_x rfl (x_p rfl (p_bin rfl rfl rfl rfl) rfl)) (a_op (g_x rfl (x_p rfl (u_ixp rfl rfl Tryd.underlying71 in_26 rfl rfl (ne_of_lt (n := 0) (Nat.lt_of_lt_of_eq (by decide) (Eq.symm (vmap_len (f := AV.u32) w5_1)))) rfl (ixe h15) (ixn h15)) rfl)) (a_op (g_x rfl (x_p rfl (u_ld rfl rfl Tryd.underlying26 rfl rfl ((Sub.refl _).trans (Sub.vmap (ixn h15)))) rfl)) (a_op (g_x rfl (x_p rfl (p_move rfl rfl) rfl)) (a_op (g_x rfl (x_p rfl (p_u32add (a := (vrd w5_1 ((w64 (i7_1 - (16 : Int))).toNat))) (b := s10'8) rfl rfl rfl) rfl)) (a_op (g_x rfl (x_p rfl (p_move rfl rfl) rfl)) (a_op (g_x rfl (x_p rfl (p_bin rfl rfl rfl rfl) rfl)) (a_op (g_x rfl (x_p rfl (u_ixp rfl rfl Tryd.underlying71 in_26 rfl rfl (ne_of_lt (n := 0) (Nat.lt_of_lt_of_eq (by decide) (Eq.symm (vmap_len (f := AV.u32) w5_1)))) rfl (ixe h16) (ixn h16)) rfl)) (a_op (g_x rfl (x_p rfl (u_ld rfl rfl Tryd.underlying26 rfl rfl ((Sub.refl _).trans (Sub.vmap (ixn h16)))) rfl)) (a_op (g_x rfl (x_p rfl (p_u32add (a := (vrd w5_1 ((w64 (i7_1 - (16 : Int))).toNat)) + s10'8) (b := (vrd w5_1 ((w64 (i7_1 - (7 : Int))).toNat))) rfl rfl rfl) rfl)) (a_op (g_x rfl (x_p rfl (p_move rfl rfl) rfl)) (a_op (g_x rfl (x_p rfl (p_u32add (a := ((vrd w5_1 ((w64 (i7_1 - (16 : Int))).toNat)) + s10'8) + (vrd w5_1 ((w64 (i7_1 - (7 : Int))).toNat))) (b := t11'11) rfl rfl rfl) rfl)) (a_nil))))))))))))))) ?_
        refine t_op rfl rfl (PureD.opD (u_ixp rfl rfl Tryd.underlying71 in_26 rfl rfl (ne_of_lt (n := 0) (Nat.lt_of_lt_of_eq (by decide) (Eq.symm (vmap_len (f := AV.u32) w5_1)))) rfl (ixe h17) (ixn h17))) ?_
        refine t_op rfl rfl (u_st rfl rfl rfl rfl rfl in_26 rfl (ne_of_lt (n := 0) (Nat.lt_of_lt_of_eq (by decide) (Eq.symm (vmap_len (f := AV.u32) w5_1)))) (Upd.trans (Sub.refl _) (Upd.vmap (ixn h17)) (Upd.refl ((vmap_len (f := AV.u32) (vwr w5_1 i7_1.toNat ((((vrd w5_1 ((w64 (i7_1 - (16 : Int))).toNat)) + s10'8) + (vrd w5_1 ((w64 (i7_1 - (7 : Int))).toNat))) + t11'11))).trans (vmap_len (f := AV.u32) w5_1).symm)))) ?_
        refine t_gho (Gho_st (L := [(2, .c (.ptr 2 (0))), (4, .c (.ptr 4 (0))), (5, .c (.ptr 5 (0))), (7, .c (.p (AV.int i7_1)))]) (H := [(2, .pure (h0.toList.map AV.u32)), (4, .pure (((Vector.replicate 8 (0 : UInt32)).toList).map AV.u32)), (5, .pure (((vwr w5_1 i7_1.toNat ((((vrd w5_1 ((w64 (i7_1 - (16 : Int))).toNat)) + s10'8) + (vrd w5_1 ((w64 (i7_1 - (7 : Int))).toNat))) + t11'11)).toList).map AV.u32))]) rfl ⟨TLes.same _, TLes.same _, TLes.same _, TLes.same _, trivial⟩ ⟨rfl, rfl, rfl, trivial⟩) ?_
        refine gen1 (fun w5'12 => (⟨[(2, .c (.ptr 2 (0))), (4, .c (.ptr 4 (0))), (5, .c (.ptr 5 (0))), (7, .c (.p (AV.int i7_1)))], [(2, .pure (h0.toList.map AV.u32)), (4, .pure (((Vector.replicate 8 (0 : UInt32)).toList).map AV.u32)), (5, .pure (w5'12.toList.map AV.u32))], 194⟩ : TS)) H ?_
        intro w5'12 H
        refine AW2_reg [0, 1, 2] rfl ?_
        refine r_op rfl rfl (PureD.opD (p_move rfl rfl)) ?_
        refine r_op rfl rfl (PureD.opD (p_bin rfl rfl rfl rfl)) ?_
        refine r_op rfl rfl (PureD.opD (p_asg rfl rfl)) ?_
        refine RunW_st [(2, .c (.ptr 2 (0))), (4, .c (.ptr 4 (0))), (5, .c (.ptr 5 (0))), (7, .c (.p (AV.int (w64 (i7_1 + (1 : Int))))))] [(2, .pure (h0.toList.map AV.u32)), (4, .pure (((Vector.replicate 8 (0 : UInt32)).toList).map AV.u32)), (5, .pure (w5'12.toList.map AV.u32))] rfl ⟨TLes.same _, TLes.same _, TLes.same _, TLes.same _, trivial⟩ ⟨rfl, rfl, rfl, trivial⟩ ?_
        refine RunW_nil ?_
        have hz := some_elim H
        subst hz
        exact ⟨rfl, rfl⟩
      · replace H := ite_else h8 H
        refine AW2_st [(2, .c (.ptr 2 (0))), (4, .c (.ptr 4 (0))), (5, .c (.ptr 5 (0)))] [(2, .pure (h0.toList.map AV.u32)), (4, .pure (((Vector.replicate 8 (0 : UInt32)).toList).map AV.u32)), (5, .pure (w5_1.toList.map AV.u32))] rfl ⟨TLes.same _, TLes.same _, TLes.same _, trivial⟩ ⟨rfl, rfl, rfl, trivial⟩ ?_
        refine AW2_exit ?_
        refine thenQ2_exit ?_
        have hz := some_elim H
        subst hz
        exact ⟨rfl, rfl⟩
    · obtain ⟨rfl, rfl⟩ := hs
      refine ⟨by simp, ?_⟩
      refine blockQ2_exit ?_
      refine AW2_seq ?_
      refine AW2_reg [0, 1, 2] rfl ?_
      refine r_op rfl rfl (PureD.opD (u_lda rfl rfl Tryd.underlying27 rfl in_27 rfl (Nat.succ_pos _) (Sub.refl _) (vmap_len (f := AV.u32) h0))) ?_
      refine r_op rfl rfl (MakeD.opD (u_alloc 12 rfl in_27 one_27 zc_27) rfl rfl rfl rfl) ?_
      refine r_op rfl rfl (u_st rfl rfl rfl rfl rfl in_27 (vmap_len (f := AV.u32) h0) (ne_of_lt (n := 0) (Nat.lt_of_lt_of_eq (by decide) (Eq.symm (vmap_len (f := AV.u32) (Vector.replicate 8 (0 : UInt32)))))) (Upd.refl ((vmap_len (f := AV.u32) h0).trans (vmap_len (f := AV.u32) (Vector.replicate 8 (0 : UInt32))).symm))) ?_
      refine RunW_st [(2, .c (.ptr 2 (0))), (4, .c (.ptr 4 (0))), (5, .c (.ptr 5 (0))), (12, .c (.ptr 12 (0)))] [(2, .pure (h0.toList.map AV.u32)), (4, .pure (((Vector.replicate 8 (0 : UInt32)).toList).map AV.u32)), (5, .pure (y'16.toList.map AV.u32)), (12, .pure (h0.toList.map AV.u32))] rfl ⟨TLes.same _, TLes.same _, TLes.same _, TLes.same _, trivial⟩ ⟨rfl, rfl, rfl, rfl, trivial⟩ ?_
      refine RunW_nil ?_
      refine AW2_seq ?_
      refine AW2_seq ?_
      refine AW2_reg [0] rfl ?_
      refine r_op rfl rfl (PureD.opD (p_move rfl rfl)) ?_
      refine RunW_st [(2, .c (.ptr 2 (0))), (4, .c (.ptr 4 (0))), (5, .c (.ptr 5 (0))), (12, .c (.ptr 12 (0))), (99, .c (.p (AV.int (0 : Int))))] [(2, .pure (h0.toList.map AV.u32)), (4, .pure (((Vector.replicate 8 (0 : UInt32)).toList).map AV.u32)), (5, .pure (y'16.toList.map AV.u32)), (12, .pure (h0.toList.map AV.u32))] rfl ⟨TLes.same _, TLes.same _, TLes.same _, TLes.same _, TLes.same _, trivial⟩ ⟨rfl, rfl, rfl, rfl, trivial⟩ ?_
      refine RunW_nil ?_
      refine AW2_block ?_
      refine AW2_st [(2, .c (.ptr 2 (0))), (4, .c (.ptr 4 (0))), (5, .c (.ptr 5 (0))), (12, .c (.ptr 12 (0))), (99, .c (.p (AV.int (0 : Int))))] [(2, .pure (h0.toList.map AV.u32)), (4, .pure (((Vector.replicate 8 (0 : UInt32)).toList).map AV.u32)), (5, .pure (y'16.toList.map AV.u32)), (12, .pure (h0.toList.map AV.u32))] rfl ⟨TLes.same _, TLes.same _, TLes.same _, TLes.same _, TLes.same _, trivial⟩ ⟨rfl, rfl, rfl, rfl, trivial⟩ ?_
      refine bindK H fun y'29 h28 H => ?_
      refine AW2_loopO (fun a'26 : Int × (Vector UInt32 8) => (⟨[(2, .c (.ptr 2 (0))), (4, .c (.ptr 4 (0))), (5, .c (.ptr 5 (0))), (12, .c (.ptr 12 (0))), (99, .c (.p (AV.int a'26.1)))], [(2, .pure (h0.toList.map AV.u32)), (4, .pure (((Vector.replicate 8 (0 : UInt32)).toList).map AV.u32)), (5, .pure (y'16.toList.map AV.u32)), (12, .pure (a'26.2.toList.map AV.u32))], 194⟩ : TS)) (fun (y'27 : ((Vector UInt32 8))) e s' => e = Go.Exit.exit 4 ∧ s' = (⟨[(2, .c (.ptr 2 (0))), (4, .c (.ptr 4 (0))), (12, .c (.ptr 12 (0)))], [(2, .pure (h0.toList.map AV.u32)), (4, .pure (((Vector.replicate 8 (0 : UInt32)).toList).map AV.u32)), (12, .pure (y'27.toList.map AV.u32))], 194⟩ : TS)) h28 rfl (fun a x hx => ?_) (fun e s' hs => ?_)
      · clear H
        obtain ⟨t99_2, v12_2⟩ := a
        have H := hx
        clear hx
        unfold g_sum_turn_l2 at H
        refine AW2_seq ?_
        refine AW2_reg [0] rfl ?_
        refine r_op rfl rfl (PureD.opD (p_bin rfl rfl rfl rfl)) ?_
        refine RunW_st [(2, .c (.ptr 2 (0))), (4, .c (.ptr 4 (0))), (5, .c (.ptr 5 (0))), (12, .c (.ptr 12 (0))), (99, .c (.p (AV.int t99_2))), (100, .c (.p (.bool (decide (t99_2 < (64 : Int))))))] [(2, .pure (h0.toList.map AV.u32)), (4, .pure (((Vector.replicate 8 (0 : UInt32)).toList).map AV.u32)), (5, .pure (y'16.toList.map AV.u32)), (12, .pure (v12_2.toList.map AV.u32))] rfl ⟨TLes.same _, TLes.same _, TLes.same _, TLes.same _, TLes.same _, TLes.same _, trivial⟩ ⟨rfl, rfl, rfl, rfl, trivial⟩ ?_
        refine RunW_nil ?_
        refine AW2_seq ?_
        refine AW2_if (p := t99_2 < (64 : Int)) rfl (fun h19 => ?_) (fun h19 => ?_)
        · replace H := ite_then h19 H
          refine AW2_st [(2, .c (.ptr 2 (0))), (4, .c (.ptr 4 (0))), (5, .c (.ptr 5 (0))), (12, .c (.ptr 12 (0))), (99, .c (.p (AV.int t99_2)))] [(2, .pure (h0.toList.map AV.u32)), (4, .pure (((Vector.replicate 8 (0 : UInt32)).toList).map AV.u32)), (5, .pure (y'16.toList.map AV.u32)), (12, .pure (v12_2.toList.map AV.u32))] rfl ⟨TLes.same _, TLes.same _, TLes.same _, TLes.same _, TLes.same _, trivial⟩ ⟨rfl, rfl, rfl, rfl, trivial⟩ ?_
          refine AW2_skip ?_
          refine AW2_seq ?_
          refine AW2_block ?_
          refine AW2_seq ?_
          refine AW2_reg [0, 1] rfl ?_
          refine r_op rfl rfl (PureD.opD (p_move rfl rfl)) ?_
          refine r_op rfl rfl (PureD.opD (p_asg rfl rfl)) ?_
          refine RunW_st [(2, .c (.ptr 2 (0))), (4, .c (.ptr 4 (0))), (5, .c (.ptr 5 (0))), (12, .c (.ptr 12 (0))), (13, .c (.p (AV.int t99_2))), (99, .c (.p (AV.int t99_2)))] [(2, .pure (h0.toList.map AV.u32)), (4, .pure (((Vector.replicate 8 (0 : UInt32)).toList).map AV.u32)), (5, .pure (y'16.toList.map AV.u32)), (12, .pure (v12_2.toList.map AV.u32))] rfl ⟨TLes.same _, TLes.same _, TLes.same _, TLes.same _, TLes.same _, TLes.same _, trivial⟩ ⟨rfl, rfl, rfl, rfl, trivial⟩ ?_
          refine RunW_nil ?_
          refine AW2_seq ?_
          refine AW2_ghoQ ?_
          refine AW2_draw 5 [5] (fun k => ([.c (.ptr 12 (0 + 4 * 1)), .c (.p (AV.u32 (vrd v12_2 4))), .c (.ptr 12 (0 + 0 * 1)), .c (.p (AV.u32 (vrd v12_2 0))), .c (.p (AV.u32 (vrd v12_2 4)))] : List TV).getD k TV.any) (fun k => ([[(12, none)], [(102, some 0)], [(12, none)], [(104, some 2)], [(103, some 1)]] : List (List (Nat × Option Nat))).getD k []) [(2, none), (4, none), (5, none), (12, none), (13, none), (14, some 4), (99, none), (105, some 3)] [] (fun k => ([[], [0], [], [2], [0, 1], [0, 1, 2, 3, 4]] : List (List Nat)).getD k []) mixed (by kernel_rfl) rfl rfl (a_op (g_x rfl (x_p rfl (u_ixp rfl rfl Tryd.underlying27 in_26 rfl rfl (ne_of_lt (n := 0) (Nat.lt_of_lt_of_eq (by decide) (Eq.symm (vmap_len (f := AV.u32) v12_2)))) rfl rfl (by decide)) rfl)) (a_op (g_x rfl (x_p rfl (u_ld rfl rfl Tryd.underlying26 rfl rfl ((Sub.refl _).trans (Sub.vmap (by decide)))) rfl)) (a_op (g_x rfl (x_p rfl (u_ixp rfl rfl Tryd.underlying27 in_26 rfl rfl (ne_of_lt (n := 0) (Nat.lt_of_lt_of_eq (by decide) (Eq.symm (vmap_len (f := AV.u32) v12_2)))) rfl rfl (by decide)) rfl)) (a_op (g_x rfl (x_p rfl (u_ld rfl rfl Tryd.underlying26 rfl rfl ((Sub.refl _).trans (Sub.vmap (by decide)))) rfl)) (a_op (g_x rfl (x_p rfl (p_asg rfl rfl) rfl)) (a_nil)))))) ?_
          refine t_op rfl rfl (PureD.opD (p_asg rfl rfl)) ?_
          refine t_gho (Gho_st (L := [(2, .c (.ptr 2 (0))), (4, .c (.ptr 4 (0))), (5, .c (.ptr 5 (0))), (12, .c (.ptr 12 (0))), (13, .c (.p (AV.int t99_2))), (14, .c (.p (AV.u32 (vrd v12_2 4)))), (15, .c (.p (AV.u32 (vrd v12_2 0)))), (99, .c (.p (AV.int t99_2)))]) (H := [(2, .pure (h0.toList.map AV.u32)), (4, .pure (((Vector.replicate 8 (0 : UInt32)).toList).map AV.u32)), (5, .pure (y'16.toList.map AV.u32)), (12, .pure (v12_2.toList.map AV.u32))]) rfl ⟨TLes.same _, TLes.same _, TLes.same _, TLes.same _, TLes.same _, TLes.same _, TLes.same _, TLes.same _, trivial⟩ ⟨rfl, rfl, rfl, rfl, trivial⟩) ?_
          refine AW2_seq ?_
          refine AW2_reg [0, 1, 2, 3, 4, 5, 6, 7, 8] rfl ?_
          refine r_op rfl rfl (PureD.opD (p_move rfl rfl)) ?_
          refine bindK H fun r'17 h20 H => ?_
          refine r_op rfl rfl (PureD.opD (p_callp rfl rfl rfl Tryd.func53 rfl rfl (g_bits_RotateLeft32_ac h20) ⟨rfl, rfl, trivial⟩)) ?_
          refine r_op rfl rfl (PureD.opD (p_move rfl rfl)) ?_
          refine bindK H fun r'18 h21 H => ?_
          refine r_op rfl rfl (PureD.opD (p_callp rfl rfl rfl Tryd.func53 rfl rfl (g_bits_RotateLeft32_ac h21) ⟨rfl, rfl, trivial⟩)) ?_
          refine r_op rfl rfl (PureD.opD (p_u32xor (a := r'17) (b := r'18) rfl rfl rfl)) ?_
          refine r_op rfl rfl (PureD.opD (p_move rfl rfl)) ?_
          refine bindK H fun r'19 h22 H => ?_
          refine r_op rfl rfl (PureD.opD (p_callp rfl rfl rfl Tryd.func53 rfl rfl (g_bits_RotateLeft32_ac h22) ⟨rfl, rfl, trivial⟩)) ?_
          refine r_op rfl rfl (PureD.opD (p_u32xor (a := r'17 ^^^ r'18) (b := r'19) rfl rfl rfl)) ?_
          refine r_op rfl rfl (PureD.opD (p_asg rfl rfl)) ?_
          refine RunW_st [(2, .c (.ptr 2 (0))), (4, .c (.ptr 4 (0))), (5, .c (.ptr 5 (0))), (12, .c (.ptr 12 (0))), (13, .c (.p (AV.int t99_2))), (14, .c (.p (AV.u32 (vrd v12_2 4)))), (15, .c (.p (AV.u32 (vrd v12_2 0)))), (16, .c (.p (AV.u32 ((r'17 ^^^ r'18) ^^^ r'19)))), (99, .c (.p (AV.int t99_2)))] [(2, .pure (h0.toList.map AV.u32)), (4, .pure (((Vector.replicate 8 (0 : UInt32)).toList).map AV.u32)), (5, .pure (y'16.toList.map AV.u32)), (12, .pure (v12_2.toList.map AV.u32))] rfl ⟨TLes.same _, TLes.same _, TLes.same _, TLes.same _, TLes.same _, TLes.same _, TLes.same _, TLes.same _, TLes.same _, trivial⟩ ⟨rfl, rfl, rfl, rfl, trivial⟩ ?_
          refine RunW_nil ?_
          refine AW2_seq ?_
          refine chkK H fun h23 H => ?_
          refine chkK H fun h24 H => ?_
          refine AW2_ghoQ ?_
          refine AW2_draw 22 [22, 23] (fun k => ([.c (.ptr 12 (0 + 7 * 1)), .c (.p (AV.u32 (vrd v12_2 7))), .c (.p (AV.u32 ((r'17 ^^^ r'18) ^^^ r'19))), .c (.p (AV.u32 ((vrd v12_2 7) + ((r'17 ^^^ r'18) ^^^ r'19)))), .c (.p (AV.u32 (vrd v12_2 4))), .c (.ptr 12 (0 + 5 * 1)), .c (.p (AV.u32 (vrd v12_2 5))), .c (.p (AV.u32 ((vrd v12_2 4) &&& (vrd v12_2 5)))), .c (.p (AV.u32 (vrd v12_2 4))), .c (.p (AV.u32 (~~~ (vrd v12_2 4)))), .c (.ptr 12 (0 + 6 * 1)), .c (.p (AV.u32 (vrd v12_2 6))), .c (.p (AV.u32 ((~~~ (vrd v12_2 4)) &&& (vrd v12_2 6)))), .c (.p (AV.u32 (((vrd v12_2 4) &&& (vrd v12_2 5)) ^^^ ((~~~ (vrd v12_2 4)) &&& (vrd v12_2 6))))), .c (.p (AV.u32 (((vrd v12_2 7) + ((r'17 ^^^ r'18) ^^^ r'19)) + (((vrd v12_2 4) &&& (vrd v12_2 5)) ^^^ ((~~~ (vrd v12_2 4)) &&& (vrd v12_2 6)))))), .c (.p (AV.int t99_2)), .c (.p (.rptr (tab0.map AV.u32) (0 + t99_2.toNat * 1))), .c (.p (AV.u32 (lrd tab0 t99_2.toNat))), .c (.p (AV.u32 ((((vrd v12_2 7) + ((r'17 ^^^ r'18) ^^^ r'19)) + (((vrd v12_2 4) &&& (vrd v12_2 5)) ^^^ ((~~~ (vrd v12_2 4)) &&& (vrd v12_2 6)))) + (lrd tab0 t99_2.toNat)))), .c (.p (AV.int t99_2)), .c (.ptr 5 (0 + t99_2.toNat * 1)), .c (.p (AV.u32 (vrd y'16 t99_2.toNat)))] : List TV).getD k TV.any) (fun k => ([[(12, none)], [(114, some 0)], [(16, none)], [(115, some 1), (116, some 2)], [(14, none)], [(12, none)], [(119, some 5)], [(118, some 4), (120, some 6)], [(14, none)], [(122, some 8)], [(12, none)], [(124, some 10)], [(123, some 9), (125, some 11)], [(121, some 7), (126, some 12)], [(117, some 3), (127, some 13)], [(13, none)], [(129, some 15)], [(130, some 16)], [(128, some 14), (131, some 17)], [(13, none)], [(5, none), (133, some 19)], [(134, some 20)]] : List (List (Nat × Option Nat))).getD k []) [(2, none), (4, none), (5, none), (12, none), (14, none), (15, none), (99, none), (132, some 18), (135, some 21)] [] (fun k => ([[], [0], [], [0, 1, 2], [], [], [5], [4, 5, 6], [], [8], [], [10], [8, 9, 10, 11], [4, 5, 6, 7, 8, 9, 10, 11, 12], [0, 1, 2, 3, 4, 5, 6, 7, 8, 9, 10, 11, 12, 13], [], [15], [15, 16], [0, 1, 2, 3, 4, 5, 6, 7, 8, 9, 10, 11, 12, 13, 14, 15, 16, 17], [], [19], [19, 20], [0, 1, 2, 3, 4, 5, 6, 7, 8, 9, 10, 11, 12, 13, 14, 15, 16, 17, 18, 19, 20, 21], [0, 1, 2, 3, 4, 5, 6, 7, 8, 9, 10, 11, 12, 13, 14, 15, 16, 17, 18, 19, 20, 21, 22]] : List (List Nat)).getD k []) mixed (by kernel_rfl) rfl rfl (a_op (g_x rfl (x_p rfl (u_ixp rfl rfl Tryd.underlying27 in_26 rfl rfl (ne_of_lt (n := 0) (Nat.lt_of_lt_of_eq (by decide) (Eq.symm (vmap_len (f := AV.u32) v12_2)))) rfl rfl (by decide)) rfl)) (a_op (g_x rfl (x_p rfl (u_ld rfl rfl Tryd.underlying26 rfl rfl ((Sub.refl _).trans (Sub.vmap (by decide)))) rfl)) (a_op (g_x rfl (x_p rfl (p_move rfl rfl) rfl)) (a_op (g_x rfl (x_p rfl (p_u32add (a := (vrd v12_2 7)) (b := (r'17 ^^^ r'18) ^^^ r'19) rfl rfl rfl) rfl)) (a_op (g_x rfl (x_p rfl (p_move rfl rfl) rfl)) (a_op (g_x rfl (x_p rfl (u_ixp rfl rfl Tryd.underlying27 in_26 rfl rfl (ne_of_lt (n := 0) (Nat.lt_of_lt_of_eq (by decide) (Eq.symm (vmap_len (f := AV.u32) v12_2)))) rfl rfl (by decide)) rfl)) (a_op (g_x rfl (x_p rfl (u_ld rfl rfl Tryd.underlying26 rfl rfl ((Sub.refl _).trans (Sub.vmap (by decide)))) rfl)) (a_op (g_x rfl (x_p rfl (p_u32and (a := (vrd v12_2 4)) (b := (vrd v12_2 5)) rfl rfl rfl) rfl)) (a_op (g_x rfl (x_p rfl (p_move rfl rfl) rfl)) (a_op (g_x rfl (x_p rfl (p_u32cpl rfl rfl) rfl)) (a_op (g_x rfl (x_p rfl (u_ixp rfl rfl Tryd.underlying27 in_26 rfl rfl (ne_of_lt (n := 0) (Nat.lt_of_lt_of_eq (by decide) (Eq.symm (vmap_len (f := AV.u32) v12_2)))) rfl rfl (by decide)) rfl)) (a_op (g_x rfl (x_p rfl (u_ld rfl rfl Tryd.underlying26 rfl rfl ((Sub.refl _).trans (Sub.vmap (by decide)))) rfl)) (a_op (g_x rfl (x_p rfl (p_u32and (a := ~~~ (vrd v12_2 4)) (b := (vrd v12_2 6)) rfl rfl rfl) rfl)) (a_op (g_x rfl (x_p rfl (p_u32xor (a := (vrd v12_2 4) &&& (vrd v12_2 5)) (b := (~~~ (vrd v12_2 4)) &&& (vrd v12_2 6)) rfl rfl rfl) rfl)) (a_op (g_x rfl (x_p rfl (p_u32add (a := (vrd v12_2 7) + ((r'17 ^^^ r'18) ^^^ r'19)) (b := ((vrd v12_2 4) &&& (vrd v12_2 5)) ^^^ ((~~~ (vrd v12_2 4)) &&& (vrd v12_2 6))) rfl rfl rfl) rfl)) (a_op (g_x rfl (x_p rfl (p_move rfl rfl) rfl)) (a_op (g_x rfl (x_p rfl (u_ixq rfl rfl Tryd.underlying71 in_26 tab0_rd rfl (ixe h23) (ixn h23)) rfl)) (a_op (g_x rfl (x_p rfl (u_ld rfl rfl Tryd.underlying26 rfl rfl ((Sub.refl _).trans (Sub.map default (ixn h23)))) rfl)) (a_op (g_x rfl (x_p rfl (p_u32add (a := ((vrd v12_2 7) + ((r'17 ^^^ r'18) ^^^ r'19)) + (((vrd v12_2 4) &&& (vrd v12_2 5)) ^^^ ((~~~ (vrd v12_2 4)) &&& (vrd v12_2 6)))) (b := (lrd tab0 t99_2.toNat)) rfl rfl rfl) rfl)) (a_op (g_x rfl (x_p rfl (p_move rfl rfl) rfl)) (a_op (g_x rfl (x_p rfl (u_ixp rfl rfl Tryd.underlying71 in_26 rfl rfl (ne_of_lt (n := 0) (Nat.lt_of_lt_of_eq (by decide) (Eq.symm (vmap_len (f := AV.u32) y'16)))) rfl (ixe h24) (ixn h24)) rfl)) (a_op (g_x rfl (x_p rfl (u_ld rfl rfl Tryd.underlying26 rfl rfl ((Sub.refl _).trans (Sub.vmap (ixn h24)))) rfl)) (a_nil))))))))))))))))))))))) ?_
          refine t_op rfl rfl (PureD.opD (p_u32add (a := (((vrd v12_2 7) + ((r'17 ^^^ r'18) ^^^ r'19)) + (((vrd v12_2 4) &&& (vrd v12_2 5)) ^^^ ((~~~ (vrd v12_2 4)) &&& (vrd v12_2 6)))) + (lrd tab0 t99_2.toNat)) (b := (vrd y'16 t99_2.toNat)) rfl rfl rfl)) ?_
          refine t_op rfl rfl (PureD.opD (p_asg rfl rfl)) ?_
          refine t_gho (Gho_st (L := [(2, .c (.ptr 2 (0))), (4, .c (.ptr 4 (0))), (5, .c (.ptr 5 (0))), (12, .c (.ptr 12 (0))), (14, .c (.p (AV.u32 (vrd v12_2 4)))), (15, .c (.p (AV.u32 (vrd v12_2 0)))), (17, .c (.p (AV.u32 (((((vrd v12_2 7) + ((r'17 ^^^ r'18) ^^^ r'19)) + (((vrd v12_2 4) &&& (vrd v12_2 5)) ^^^ ((~~~ (vrd v12_2 4)) &&& (vrd v12_2 6)))) + (lrd tab0 t99_2.toNat)) + (vrd y'16 t99_2.toNat))))), (99, .c (.p (AV.int t99_2)))]) (H := [(2, .pure (h0.toList.map AV.u32)), (4, .pure (((Vector.replicate 8 (0 : UInt32)).toList).map AV.u32)), (5, .pure (y'16.toList.map AV.u32)), (12, .pure (v12_2.toList.map AV.u32))]) rfl ⟨TLes.same _, TLes.same _, TLes.same _, TLes.same _, TLes.same _, TLes.same _, TLes.same _, TLes.same _, trivial⟩ ⟨rfl, rfl, rfl, rfl, trivial⟩) ?_
          refine gen1 (fun t17'20 => (⟨[(2, .c (.ptr 2 (0))), (4, .c (.ptr 4 (0))), (5, .c (.ptr 5 (0))), (12, .c (.ptr 12 (0))), (14, .c (.p (AV.u32 (vrd v12_2 4)))), (15, .c (.p (AV.u32 (vrd v12_2 0)))), (17, .c (.p (AV.u32 t17'20))), (99, .c (.p (AV.int t99_2)))], [(2, .pure (h0.toList.map AV.u32)), (4, .pure (((Vector.replicate 8 (0 : UInt32)).toList).map AV.u32)), (5, .pure (y'16.toList.map AV.u32)), (12, .pure (v12_2.toList.map AV.u32))], 194⟩ : TS)) H ?_
          intro t17'20 H
          refine AW2_seq ?_
          refine AW2_reg [0, 1, 2, 3, 4, 5, 6, 7, 8] rfl ?_
          refine r_op rfl rfl (PureD.opD (p_move rfl rfl)) ?_
          refine bindK H fun r'21 h25 H => ?_
          refine r_op rfl rfl (PureD.opD (p_callp rfl rfl rfl Tryd.func53 rfl rfl (g_bits_RotateLeft32_ac h25) ⟨rfl, rfl, trivial⟩)) ?_
          refine r_op rfl rfl (PureD.opD (p_move rfl rfl)) ?_
          refine bindK H fun r'22 h26 H => ?_
          refine r_op rfl rfl (PureD.opD (p_callp rfl rfl rfl Tryd.func53 rfl rfl (g_bits_RotateLeft32_ac h26) ⟨rfl, rfl, trivial⟩)) ?_
          refine r_op rfl rfl (PureD.opD (p_u32xor (a := r'21) (b := r'22) rfl rfl rfl)) ?_
          refine r_op rfl rfl (PureD.opD (p_move rfl rfl)) ?_
          refine bindK H fun r'23 h27 H => ?_
          refine r_op rfl rfl (PureD.opD (p_callp rfl rfl rfl Tryd.func53 rfl rfl (g_bits_RotateLeft32_ac h27) ⟨rfl, rfl, trivial⟩)) ?_
          refine r_op rfl rfl (PureD.opD (p_u32xor (a := r'21 ^^^ r'22) (b := r'23) rfl rfl rfl)) ?_
          refine r_op rfl rfl (PureD.opD (p_asg rfl rfl)) ?_
          refine RunW_st [(2, .c (.ptr 2 (0))), (4, .c (.ptr 4 (0))), (5, .c (.ptr 5 (0))), (12, .c (.ptr 12 (0))), (14, .c (.p (AV.u32 (vrd v12_2 4)))), (15, .c (.p (AV.u32 (vrd v12_2 0)))), (17, .c (.p (AV.u32 t17'20))), (18, .c (.p (AV.u32 ((r'21 ^^^ r'22) ^^^ r'23)))), (99, .c (.p (AV.int t99_2)))] [(2, .pure (h0.toList.map AV.u32)), (4, .pure (((Vector.replicate 8 (0 : UInt32)).toList).map AV.u32)), (5, .pure (y'16.toList.map AV.u32)), (12, .pure (v12_2.toList.map AV.u32))] rfl ⟨TLes.same _, TLes.same _, TLes.same _, TLes.same _, TLes.same _, TLes.same _, TLes.same _, TLes.same _, TLes.same _, trivial⟩ ⟨rfl, rfl, rfl, rfl, trivial⟩ ?_
          refine RunW_nil ?_
          refine AW2_seq ?_
          refine AW2_reg [0, 1, 2, 3, 4, 5, 6, 7, 8, 9, 10, 11, 12, 13, 14, 15, 16, 17] rfl ?_
          refine r_op rfl rfl (PureD.opD (p_move rfl rfl)) ?_
          refine r_op rfl rfl (PureD.opD (p_move rfl rfl)) ?_
          refine r_op rfl rfl (PureD.opD (u_ixp rfl rfl Tryd.underlying27 in_26 rfl rfl (ne_of_lt (n := 0) (Nat.lt_of_lt_of_eq (by decide) (Eq.symm (vmap_len (f := AV.u32) v12_2)))) rfl rfl (by decide))) ?_
          refine r_op rfl rfl (PureD.opD (u_ld rfl rfl Tryd.underlying26 rfl rfl ((Sub.refl _).trans (Sub.vmap (by decide))))) ?_
          refine r_op rfl rfl (PureD.opD (p_u32and (a := (vrd v12_2 0)) (b := (vrd v12_2 1)) rfl rfl rfl)) ?_
          refine r_op rfl rfl (PureD.opD (p_move rfl rfl)) ?_
          refine r_op rfl rfl (PureD.opD (u_ixp rfl rfl Tryd.underlying27 in_26 rfl rfl (ne_of_lt (n := 0) (Nat.lt_of_lt_of_eq (by decide) (Eq.symm (vmap_len (f := AV.u32) v12_2)))) rfl rfl (by decide))) ?_
          refine r_op rfl rfl (PureD.opD (u_ld rfl rfl Tryd.underlying26 rfl rfl ((Sub.refl _).trans (Sub.vmap (by decide))))) ?_
          refine r_op rfl rfl (PureD.opD (p_u32and (a := (vrd v12_2 0)) (b := (vrd v12_2 2)) rfl rfl rfl)) ?_
          refine r_op rfl rfl (PureD.opD (p_u32xor (a := (vrd v12_2 0) &&& (vrd v12_2 1)) (b := (vrd v12_2 0) &&& (vrd v12_2 2)) rfl rfl rfl)) ?_
          refine r_op rfl rfl (PureD.opD (u_ixp rfl rfl Tryd.underlying27 in_26 rfl rfl (ne_of_lt (n := 0) (Nat.lt_of_lt_of_eq (by decide) (Eq.symm (vmap_len (f := AV.u32) v12_2)))) rfl rfl (by decide))) ?_
          refine r_op rfl rfl (PureD.opD (u_ld rfl rfl Tryd.underlying26 rfl rfl ((Sub.refl _).trans (Sub.vmap (by decide))))) ?_
          refine r_op rfl rfl (PureD.opD (u_ixp rfl rfl Tryd.underlying27 in_26 rfl rfl (ne_of_lt (n := 0) (Nat.lt_of_lt_of_eq (by decide) (Eq.symm (vmap_len (f := AV.u32) v12_2)))) rfl rfl (by decide))) ?_
          refine r_op rfl rfl (PureD.opD (u_ld rfl rfl Tryd.underlying26 rfl rfl ((Sub.refl _).trans (Sub.vmap (by decide))))) ?_
          refine r_op rfl rfl (PureD.opD (p_u32and (a := (vrd v12_2 1)) (b := (vrd v12_2 2)) rfl rfl rfl)) ?_
          refine r_op rfl rfl (PureD.opD (p_u32xor (a := ((vrd v12_2 0) &&& (vrd v12_2 1)) ^^^ ((vrd v12_2 0) &&& (vrd v12_2 2))) (b := (vrd v12_2 1) &&& (vrd v12_2 2)) rfl rfl rfl)) ?_
          refine r_op rfl rfl (PureD.opD (p_u32add (a := (r'21 ^^^ r'22) ^^^ r'23) (b := (((vrd v12_2 0) &&& (vrd v12_2 1)) ^^^ ((vrd v12_2 0) &&& (vrd v12_2 2))) ^^^ ((vrd v12_2 1) &&& (vrd v12_2 2))) rfl rfl rfl)) ?_
          refine r_op rfl rfl (PureD.opD (p_asg rfl rfl)) ?_
          refine RunW_st [(2, .c (.ptr 2 (0))), (4, .c (.ptr 4 (0))), (5, .c (.ptr 5 (0))), (12, .c (.ptr 12 (0))), (14, .c (.p (AV.u32 (vrd v12_2 4)))), (15, .c (.p (AV.u32 (vrd v12_2 0)))), (17, .c (.p (AV.u32 t17'20))), (18, .c (.p (AV.u32 (((r'21 ^^^ r'22) ^^^ r'23) + ((((vrd v12_2 0) &&& (vrd v12_2 1)) ^^^ ((vrd v12_2 0) &&& (vrd v12_2 2))) ^^^ ((vrd v12_2 1) &&& (vrd v12_2 2))))))), (99, .c (.p (AV.int t99_2)))] [(2, .pure (h0.toList.map AV.u32)), (4, .pure (((Vector.replicate 8 (0 : UInt32)).toList).map AV.u32)), (5, .pure (y'16.toList.map AV.u32)), (12, .pure (v12_2.toList.map AV.u32))] rfl ⟨TLes.same _, TLes.same _, TLes.same _, TLes.same _, TLes.same _, TLes.same _, TLes.same _, TLes.same _, TLes.same _, trivial⟩ ⟨rfl, rfl, rfl, rfl, trivial⟩ ?_
          refine RunW_nil ?_
          refine gen1 (fun u18'24 => (⟨[(2, .c (.ptr 2 (0))), (4, .c (.ptr 4 (0))), (5, .c (.ptr 5 (0))), (12, .c (.ptr 12 (0))), (14, .c (.p (AV.u32 (vrd v12_2 4)))), (15, .c (.p (AV.u32 (vrd v12_2 0)))), (17, .c (.p (AV.u32 t17'20))), (18, .c (.p (AV.u32 u18'24))), (99, .c (.p (AV.int t99_2)))], [(2, .pure (h0.toList.map AV.u32)), (4, .pure (((Vector.replicate 8 (0 : UInt32)).toList).map AV.u32)), (5, .pure (y'16.toList.map AV.u32)), (12, .pure (v12_2.toList.map AV.u32))], 194⟩ : TS)) H ?_
          intro u18'24 H
          refine AW2_reg [0, 1, 2, 3, 4, 5, 6, 7, 8, 9, 10, 11, 12, 13, 14, 15, 16, 17, 18] rfl ?_
          refine r_op rfl rfl (PureD.opD (p_move rfl rfl)) ?_
          refine r_op rfl rfl (PureD.opD (p_move rfl rfl)) ?_
          refine r_op rfl rfl (PureD.opD (p_u32add (a := t17'20) (b := u18'24) rfl rfl rfl)) ?_
          refine r_op rfl rfl (PureD.opD (p_move rfl rfl)) ?_
          refine r_op rfl rfl (PureD.opD (u_ixp rfl rfl Tryd.underlying27 in_26 rfl rfl (ne_of_lt (n := 0) (Nat.lt_of_lt_of_eq (by decide) (Eq.symm (vmap_len (f := AV.u32) v12_2)))) rfl rfl (by decide))) ?_
          refine r_op rfl rfl (PureD.opD (u_ld rfl rfl Tryd.underlying26 rfl rfl ((Sub.refl _).trans (Sub.vmap (by decide))))) ?_
          refine r_op rfl rfl (PureD.opD (u_ixp rfl rfl Tryd.underlying27 in_26 rfl rfl (ne_of_lt (n := 0) (Nat.lt_of_lt_of_eq (by decide) (Eq.symm (vmap_len (f := AV.u32) v12_2)))) rfl rfl (by decide))) ?_
          refine r_op rfl rfl (PureD.opD (u_ld rfl rfl Tryd.underlying26 rfl rfl ((Sub.refl _).trans (Sub.vmap (by decide))))) ?_
          refine r_op rfl rfl (PureD.opD (u_ixp rfl rfl Tryd.underlying27 in_26 rfl rfl (ne_of_lt (n := 0) (Nat.lt_of_lt_of_eq (by decide) (Eq.symm (vmap_len (f := AV.u32) v12_2)))) rfl rfl (by decide))) ?_
          refine r_op rfl rfl (PureD.opD (u_ld rfl rfl Tryd.underlying26 rfl rfl ((Sub.refl _).trans (Sub.vmap (by decide))))) ?_
          refine r_op rfl rfl (PureD.opD (p_move rfl rfl)) ?_
          refine r_op rfl rfl (PureD.opD (p_u32add (a := (vrd v12_2 3)) (b := t17'20) rfl rfl rfl)) ?_
          refine r_op rfl rfl (PureD.opD (p_move rfl rfl)) ?_
          refine r_op rfl rfl (PureD.opD (u_ixp rfl rfl Tryd.underlying27 in_26 rfl rfl (ne_of_lt (n := 0) (Nat.lt_of_lt_of_eq (by decide) (Eq.symm (vmap_len (f := AV.u32) v12_2)))) rfl rfl (by decide))) ?_
          refine r_op rfl rfl (PureD.opD (u_ld rfl rfl Tryd.underlying26 rfl rfl ((Sub.refl _).trans (Sub.vmap (by decide))))) ?_
          refine r_op rfl rfl (PureD.opD (u_ixp rfl rfl Tryd.underlying27 in_26 rfl rfl (ne_of_lt (n := 0) (Nat.lt_of_lt_of_eq (by decide) (Eq.symm (vmap_len (f := AV.u32) v12_2)))) rfl rfl (by decide))) ?_
          refine r_op rfl rfl (PureD.opD (u_ld rfl rfl Tryd.underlying26 rfl rfl ((Sub.refl _).trans (Sub.vmap (by decide))))) ?_
          refine r_op rfl rfl (PureD.opD (u_blda rfl in_27 one_27 rfl Tryd.underlying27 in_26 rfl rfl)) ?_
          refine r_op rfl rfl (u_st rfl rfl rfl rfl rfl in_27 (vmap_len (f := AV.u32) (#v[t17'20 + u18'24, (vrd v12_2 0), (vrd v12_2 1), (vrd v12_2 2), (vrd v12_2 3) + t17'20, (vrd v12_2 4), (vrd v12_2 5), (vrd v12_2 6)])) (ne_of_lt (n := 0) (Nat.lt_of_lt_of_eq (by decide) (Eq.symm (vmap_len (f := AV.u32) v12_2)))) (Upd.refl ((vmap_len (f := AV.u32) (#v[t17'20 + u18'24, (vrd v12_2 0), (vrd v12_2 1), (vrd v12_2 2), (vrd v12_2 3) + t17'20, (vrd v12_2 4), (vrd v12_2 5), (vrd v12_2 6)])).trans (vmap_len (f := AV.u32) v12_2).symm))) ?_
          refine RunW_st [(2, .c (.ptr 2 (0))), (4, .c (.ptr 4 (0))), (5, .c (.ptr 5 (0))), (12, .c (.ptr 12 (0))), (99, .c (.p (AV.int t99_2)))] [(2, .pure (h0.toList.map AV.u32)), (4, .pure (((Vector.replicate 8 (0 : UInt32)).toList).map AV.u32)), (5, .pure (y'16.toList.map AV.u32)), (12, .pure (((#v[t17'20 + u18'24, (vrd v12_2 0), (vrd v12_2 1), (vrd v12_2 2), (vrd v12_2 3) + t17'20, (vrd v12_2 4), (vrd v12_2 5), (vrd v12_2 6)]).toList).map AV.u32))] rfl ⟨TLes.same _, TLes.same _, TLes.same _, TLes.same _, TLes.same _, trivial⟩ ⟨rfl, rfl, rfl, rfl, trivial⟩ ?_
          refine RunW_nil ?_
          refine gen1 (fun v12'25 => (⟨[(2, .c (.ptr 2 (0))), (4, .c (.ptr 4 (0))), (5, .c (.ptr 5 (0))), (12, .c (.ptr 12 (0))), (99, .c (.p (AV.int t99_2)))], [(2, .pure (h0.toList.map AV.u32)), (4, .pure (((Vector.replicate 8 (0 : UInt32)).toList).map AV.u32)), (5, .pure (y'16.toList.map AV.u32)), (12, .pure (v12'25.toList.map AV.u32))], 194⟩ : TS)) H ?_
          intro v12'25 H
          refine AW2_reg [0, 1] rfl ?_
          refine r_op rfl rfl (PureD.opD (p_bin rfl rfl rfl rfl)) ?_
          refine r_op rfl rfl (PureD.opD (p_move rfl rfl)) ?_
          refine RunW_st [(2, .c (.ptr 2 (0))), (4, .c (.ptr 4 (0))), (5, .c (.ptr 5 (0))), (12, .c (.ptr 12 (0))), (99, .c (.p (AV.int (w64 (t99_2 + (1 : Int))))))] [(2, .pure (h0.toList.map AV.u32)), (4, .pure (((Vector.replicate 8 (0 : UInt32)).toList).map AV.u32)), (5, .pure (y'16.toList.map AV.u32)), (12, .pure (v12'25.toList.map AV.u32))] rfl ⟨TLes.same _, TLes.same _, TLes.same _, TLes.same _, TLes.same _, trivial⟩ ⟨rfl, rfl, rfl, rfl, trivial⟩ ?_
          refine RunW_nil ?_
          have hz := some_elim H
          subst hz
          exact ⟨rfl, rfl⟩
        · replace H := ite_else h19 H
          refine AW2_st [(2, .c (.ptr 2 (0))), (4, .c (.ptr 4 (0))), (12, .c (.ptr 12 (0)))] [(2, .pure (h0.toList.map AV.u32)), (4, .pure (((Vector.replicate 8 (0 : UInt32)).toList).map AV.u32)), (12, .pure (v12_2.toList.map AV.u32))] rfl ⟨TLes.same _, TLes.same _, TLes.same _, trivial⟩ ⟨rfl, rfl, rfl, trivial⟩ ?_
          refine AW2_exit ?_
          refine thenQ2_exit ?_
          have hz := some_elim H
          subst hz
          exact ⟨rfl, rfl⟩
      · obtain ⟨rfl, rfl⟩ := hs
        refine ⟨by simp, ?_⟩
        refine blockQ2_exit ?_
        refine AW2_seq ?_
        refine AW2_seq ?_
        refine AW2_reg [0] rfl ?_
        refine r_op rfl rfl (PureD.opD (p_move rfl rfl)) ?_
        refine RunW_st [(2, .c (.ptr 2 (0))), (4, .c (.ptr 4 (0))), (12, .c (.ptr 12 (0))), (181, .c (.p (AV.int (0 : Int))))] [(2, .pure (h0.toList.map AV.u32)), (4, .pure (((Vector.replicate 8 (0 : UInt32)).toList).map AV.u32)), (12, .pure (y'29.toList.map AV.u32))] rfl ⟨TLes.same _, TLes.same _, TLes.same _, TLes.same _, trivial⟩ ⟨rfl, rfl, rfl, trivial⟩ ?_
        refine RunW_nil ?_
        refine AW2_block ?_
        refine AW2_st [(2, .c (.ptr 2 (0))), (4, .c (.ptr 4 (0))), (12, .c (.ptr 12 (0))), (181, .c (.p (AV.int (0 : Int))))] [(2, .pure (h0.toList.map AV.u32)), (4, .pure (((Vector.replicate 8 (0 : UInt32)).toList).map AV.u32)), (12, .pure (y'29.toList.map AV.u32))] rfl ⟨TLes.same _, TLes.same _, TLes.same _, TLes.same _, trivial⟩ ⟨rfl, rfl, rfl, trivial⟩ ?_
        refine bindK H fun y'34 h33 H => ?_
        refine AW2_loopO (fun a'31 : Int × (Vector UInt32 8) => (⟨[(2, .c (.ptr 2 (0))), (4, .c (.ptr 4 (0))), (12, .c (.ptr 12 (0))), (181, .c (.p (AV.int a'31.1)))], [(2, .pure (h0.toList.map AV.u32)), (4, .pure (((Vector.replicate 8 (0 : UInt32)).toList).map AV.u32)), (12, .pure (a'31.2.toList.map AV.u32))], 194⟩ : TS)) (fun (y'32 : ((Vector UInt32 8))) e s' => e = Go.Exit.exit 6 ∧ s' = (⟨[(4, .c (.ptr 4 (0))), (12, .c (.ptr 12 (0)))], [(4, .pure (((Vector.replicate 8 (0 : UInt32)).toList).map AV.u32)), (12, .pure (y'32.toList.map AV.u32))], 194⟩ : TS)) h33 rfl (fun a x hx => ?_) (fun e s' hs => ?_)
        · clear H
          obtain ⟨t181_3, v12_3⟩ := a
          have H := hx
          clear hx
          unfold g_sum_turn_l3 at H
          refine AW2_seq ?_
          refine AW2_reg [0] rfl ?_
          refine r_op rfl rfl (PureD.opD (p_bin rfl rfl rfl rfl)) ?_
          refine RunW_st [(2, .c (.ptr 2 (0))), (4, .c (.ptr 4 (0))), (12, .c (.ptr 12 (0))), (181, .c (.p (AV.int t181_3))), (182, .c (.p (.bool (decide (t181_3 < (8 : Int))))))] [(2, .pure (h0.toList.map AV.u32)), (4, .pure (((Vector.replicate 8 (0 : UInt32)).toList).map AV.u32)), (12, .pure (v12_3.toList.map AV.u32))] rfl ⟨TLes.same _, TLes.same _, TLes.same _, TLes.same _, TLes.same _, trivial⟩ ⟨rfl, rfl, rfl, trivial⟩ ?_
          refine RunW_nil ?_
          refine AW2_seq ?_
          refine AW2_if (p := t181_3 < (8 : Int)) rfl (fun h29 => ?_) (fun h29 => ?_)
          · replace H := ite_then h29 H
            refine AW2_st [(2, .c (.ptr 2 (0))), (4, .c (.ptr 4 (0))), (12, .c (.ptr 12 (0))), (181, .c (.p (AV.int t181_3)))] [(2, .pure (h0.toList.map AV.u32)), (4, .pure (((Vector.replicate 8 (0 : UInt32)).toList).map AV.u32)), (12, .pure (v12_3.toList.map AV.u32))] rfl ⟨TLes.same _, TLes.same _, TLes.same _, TLes.same _, trivial⟩ ⟨rfl, rfl, rfl, trivial⟩ ?_
            refine AW2_skip ?_
            refine AW2_seq ?_
            refine AW2_block ?_
            refine AW2_seq ?_
            refine AW2_reg [0, 1] rfl ?_
            refine r_op rfl rfl (PureD.opD (p_move rfl rfl)) ?_
            refine r_op rfl rfl (PureD.opD (p_asg rfl rfl)) ?_
            refine RunW_st [(2, .c (.ptr 2 (0))), (4, .c (.ptr 4 (0))), (12, .c (.ptr 12 (0))), (19, .c (.p (AV.int t181_3))), (181, .c (.p (AV.int t181_3)))] [(2, .pure (h0.toList.map AV.u32)), (4, .pure (((Vector.replicate 8 (0 : UInt32)).toList).map AV.u32)), (12, .pure (v12_3.toList.map AV.u32))] rfl ⟨TLes.same _, TLes.same _, TLes.same _, TLes.same _, TLes.same _, trivial⟩ ⟨rfl, rfl, rfl, trivial⟩ ?_
            refine RunW_nil ?_
            refine chkK H fun h30 H => ?_
            refine chkK H fun h31 H => ?_
            refine chkK H fun h32 H => ?_
            refine AW2_ghoQ ?_
            refine AW2_draw 6 [6, 7, 8] (fun k => ([.c (.p (AV.int t181_3)), .c (.ptr 12 (0 + t181_3.toNat * 1)), .c (.p (AV.u32 (vrd v12_3 t181_3.toNat))), .c (.p (AV.int t181_3)), .c (.ptr 2 (0 + t181_3.toNat * 1)), .c (.p (AV.u32 (vrd h0 t181_3.toNat)))] : List TV).getD k TV.any) (fun k => ([[(19, none)], [(12, none), (184, some 0)], [(185, some 1)], [(19, none)], [(2, none), (187, some 3)], [(188, some 4)]] : List (List (Nat × Option Nat))).getD k []) [(2, none), (4, none), (12, none), (181, none), (184, some 0), (186, some 2), (189, some 5)] [] (fun k => ([[], [0], [0, 1], [], [3], [3, 4], [0, 1, 2, 3, 4, 5], [0, 1, 2, 3, 4, 5, 6], [0, 1, 2, 3, 4, 5, 6, 7]] : List (List Nat)).getD k []) mixed (by kernel_rfl) rfl rfl (a_op (g_x rfl (x_p rfl (p_move rfl rfl) rfl)) (a_op (g_x rfl (x_p rfl (u_ixp rfl rfl Tryd.underlying27 in_26 rfl rfl (ne_of_lt (n := 0) (Nat.lt_of_lt_of_eq (by decide) (Eq.symm (vmap_len (f := AV.u32) v12_3)))) rfl (ixe h30) (ixn h30)) rfl)) (a_op (g_x rfl (x_p rfl (u_ld rfl rfl Tryd.underlying26 rfl rfl ((Sub.refl _).trans (Sub.vmap (ixn h30)))) rfl)) (a_op (g_x rfl (x_p rfl (p_move rfl rfl) rfl)) (a_op (g_x rfl (x_p rfl (u_ixp rfl rfl Tryd.underlying27 in_26 rfl rfl (ne_of_lt (n := 0) (Nat.lt_of_lt_of_eq (by decide) (Eq.symm (vmap_len (f := AV.u32) h0)))) rfl (ixe h31) (ixn h31)) rfl)) (a_op (g_x rfl (x_p rfl (u_ld rfl rfl Tryd.underlying26 rfl rfl ((Sub.refl _).trans (Sub.vmap (ixn h31)))) rfl)) (a_nil))))))) ?_
            refine t_op rfl rfl (PureD.opD (p_u32add (a := (vrd v12_3 t181_3.toNat)) (b := (vrd h0 t181_3.toNat)) rfl rfl rfl)) ?_
            refine t_op rfl rfl (PureD.opD (u_ixp rfl rfl Tryd.underlying27 in_26 rfl rfl (ne_of_lt (n := 0) (Nat.lt_of_lt_of_eq (by decide) (Eq.symm (vmap_len (f := AV.u32) v12_3)))) rfl (ixe h32) (ixn h32))) ?_
            refine t_op rfl rfl (u_st rfl rfl rfl rfl rfl in_26 rfl (ne_of_lt (n := 0) (Nat.lt_of_lt_of_eq (by decide) (Eq.symm (vmap_len (f := AV.u32) v12_3)))) (Upd.trans (Sub.refl _) (Upd.vmap (ixn h32)) (Upd.refl ((vmap_len (f := AV.u32) (vwr v12_3 t181_3.toNat ((vrd v12_3 t181_3.toNat) + (vrd h0 t181_3.toNat)))).trans (vmap_len (f := AV.u32) v12_3).symm)))) ?_
            refine t_gho (Gho_st (L := [(2, .c (.ptr 2 (0))), (4, .c (.ptr 4 (0))), (12, .c (.ptr 12 (0))), (181, .c (.p (AV.int t181_3)))]) (H := [(2, .pure (h0.toList.map AV.u32)), (4, .pure (((Vector.replicate 8 (0 : UInt32)).toList).map AV.u32)), (12, .pure (((vwr v12_3 t181_3.toNat ((vrd v12_3 t181_3.toNat) + (vrd h0 t181_3.toNat))).toList).map AV.u32))]) rfl ⟨TLes.same _, TLes.same _, TLes.same _, TLes.same _, trivial⟩ ⟨rfl, rfl, rfl, trivial⟩) ?_
            refine gen1 (fun v12'30 => (⟨[(2, .c (.ptr 2 (0))), (4, .c (.ptr 4 (0))), (12, .c (.ptr 12 (0))), (181, .c (.p (AV.int t181_3)))], [(2, .pure (h0.toList.map AV.u32)), (4, .pure (((Vector.replicate 8 (0 : UInt32)).toList).map AV.u32)), (12, .pure (v12'30.toList.map AV.u32))], 194⟩ : TS)) H ?_
            intro v12'30 H
            refine AW2_reg [0, 1] rfl ?_
            refine r_op rfl rfl (PureD.opD (p_bin rfl rfl rfl rfl)) ?_
            refine r_op rfl rfl (PureD.opD (p_move rfl rfl)) ?_
            refine RunW_st [(2, .c (.ptr 2 (0))), (4, .c (.ptr 4 (0))), (12, .c (.ptr 12 (0))), (181, .c (.p (AV.int (w64 (t181_3 + (1 : Int))))))] [(2, .pure (h0.toList.map AV.u32)), (4, .pure (((Vector.replicate 8 (0 : UInt32)).toList).map AV.u32)), (12, .pure (v12'30.toList.map AV.u32))] rfl ⟨TLes.same _, TLes.same _, TLes.same _, TLes.same _, trivial⟩ ⟨rfl, rfl, rfl, trivial⟩ ?_
            refine RunW_nil ?_
            have hz := some_elim H
            subst hz
            exact ⟨rfl, rfl⟩
          · replace H := ite_else h29 H
            refine AW2_st [(4, .c (.ptr 4 (0))), (12, .c (.ptr 12 (0)))] [(4, .pure (((Vector.replicate 8 (0 : UInt32)).toList).map AV.u32)), (12, .pure (v12_3.toList.map AV.u32))] rfl ⟨TLes.same _, TLes.same _, trivial⟩ ⟨rfl, rfl, trivial⟩ ?_
            refine AW2_exit ?_
            refine thenQ2_exit ?_
            have hz := some_elim H
            subst hz
            exact ⟨rfl, rfl⟩
        · obtain ⟨rfl, rfl⟩ := hs
          refine ⟨by simp, ?_⟩
          refine blockQ2_exit ?_
          refine AW2_seq ?_
          refine AW2_reg [0, 1] rfl ?_
          refine r_op rfl rfl (PureD.opD (u_lda rfl rfl Tryd.underlying27 rfl in_27 rfl (Nat.succ_pos _) (Sub.refl _) (vmap_len (f := AV.u32) y'34))) ?_
          refine r_op rfl rfl (u_st rfl rfl rfl rfl rfl in_27 (vmap_len (f := AV.u32) y'34) (ne_of_lt (n := 0) (Nat.lt_of_lt_of_eq (by decide) (Eq.symm (vmap_len (f := AV.u32) (Vector.replicate 8 (0 : UInt32)))))) (Upd.refl ((vmap_len (f := AV.u32) y'34).trans (vmap_len (f := AV.u32) (Vector.replicate 8 (0 : UInt32))).symm))) ?_
          refine RunW_st [(4, .c (.ptr 4 (0)))] [(4, .pure (y'34.toList.map AV.u32))] rfl ⟨TLes.same _, trivial⟩ ⟨rfl, trivial⟩ ?_
          refine RunW_nil ?_
          refine AW2_ret ?_
          have hz := some_elim H
          subst hz
          exact ⟨⟨res_cella Tryd.underlying27 rfl in_27.sz rfl (Sub.le (Sub.refl _) (vmap_len (f := AV.u32) y'34)) (by decide) (Sub.take (Sub.refl _) (vmap_len (f := AV.u32) y'34)), trivial⟩, trivial⟩
end Go.Proofs.YtoepdjccgngpdaaDoor.VM
