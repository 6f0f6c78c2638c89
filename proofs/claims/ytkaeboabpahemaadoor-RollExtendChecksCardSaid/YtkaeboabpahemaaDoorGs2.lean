/- Functions of the program, as they answer, and that their code comes to these answers. -/
import Derived.Test.YtkaeboabpahemaaDoorGs1
namespace Go.Proofs.YtkaeboabpahemaaDoor.VM
open Go Go.RowKit

structure Groll_extension where
  mode_ : Int
  old_ : List UInt8
deriving DecidableEq, Inhabited
def Groll_extension.zero : Groll_extension := ⟨(0 : Int), []⟩
def Groll_extension.cs (x : Groll_extension) : List AV := ([(AV.int x.mode_)]) ++ ([(AV.bytes x.old_)])
theorem Groll_extension.len (x : Groll_extension) : (Groll_extension.cs x).length = 2 := by
  simp only [Groll_extension.cs, List.length_append]
  rw [show ([(AV.int x.mode_)]).length = 1 from (show ([(AV.int x.mode_)]).length = 1 from rfl), show ([(AV.bytes x.old_)]).length = 1 from (show ([(AV.bytes x.old_)]).length = 1 from rfl)]
theorem Groll_extension.sub0 (x : Groll_extension) : Sub (Groll_extension.cs x) 0 ([(AV.int x.mode_)]) := Sub.head _ _
theorem Groll_extension.upd0 (x : Groll_extension) (y : Int) : Upd (Groll_extension.cs x) 0 ([(AV.int y)]) (Groll_extension.cs { x with mode_ := y }) := Upd.head (show ([(AV.int y)]).length = ([(AV.int x.mode_)]).length from rfl)
theorem Groll_extension.sub1 (x : Groll_extension) : Sub (Groll_extension.cs x) 1 ([(AV.bytes x.old_)]) := Sub.skip (k := 1) (show ([(AV.int x.mode_)]).length = 1 from rfl) (Sub.refl _)
theorem Groll_extension.upd1 (x : Groll_extension) (y : List UInt8) : Upd (Groll_extension.cs x) 1 ([(AV.bytes y)]) (Groll_extension.cs { x with old_ := y }) := Upd.skip (k := 1) (show ([(AV.int x.mode_)]).length = 1 from rfl) (Upd.refl (show ([(AV.bytes y)]).length = ([(AV.bytes x.old_)]).length from rfl))
theorem in_80 : Info Tryd.prog 80 2 32 (.agg #[.int .i64 0, .slice none 0 0]) := by unfold Info; kernel_rfl
theorem one_80 : (.agg #[.int .i64 0, .slice none 0 0] : Value).cells.all (·.oneCell') = true := by kernel_rfl
theorem zc_80 : ((.agg #[.int .i64 0, .slice none 0 0] : Value).cells.toList.map zcell) = Groll_extension.cs Groll_extension.zero := by rfl
theorem pl_80 : placesOf Tryd.prog 80 = some [(0, 1), (1, 1)] := by kernel_rfl
set_option maxRecDepth 100000 in
theorem ty_3 {d : Nat} {cs : List AV} (h : Typed Tryd.prog d 3 cs) : ∃ x : Int, cs = [(AV.int x)] ∧ okI x := match d, h with
  | 0, h => False.elim h
  | d + 1, h => ty_int Tryd.underlying3 h
set_option maxRecDepth 100000 in
theorem ty_5 {d : Nat} {cs : List AV} (h : Typed Tryd.prog d 5 cs) : ∃ x : UInt8, cs = [(AV.b8 x)] ∧ okA x := match d, h with
  | 0, h => False.elim h
  | d + 1, h => ty_u8 Tryd.underlying5 h
set_option maxRecDepth 100000 in
theorem ty_22 {d : Nat} {cs : List AV} (h : Typed Tryd.prog d 22 cs) : ∃ x : List UInt8, cs = [(AV.bytes x)] ∧ (okL 1 okA) x := match d, h with
  | 0, h => False.elim h
  | d + 1, h => ty_slice (f := AV.b8) Tryd.underlying22 (bytes_of in_5) (fun _ hx => ty_5 hx) h
set_option maxRecDepth 100000 in
theorem ty_33 {d : Nat} {cs : List AV} (h : Typed Tryd.prog d 33 cs) : ∃ x : List (List UInt8), cs = [(AV.lists x)] ∧ (okL 24 (okL 1 okA)) x := match d, h with
  | 0, h => False.elim h
  | d + 1, h => ty_slice (f := AV.bytes) Tryd.underlying33 (bytes_of in_22) (fun _ hx => ty_22 hx) h

/-! chirographref.ended -/
noncomputable def g_ref_ended_l0 : (List UInt8) → Option (((List UInt8)) ⊕ (((List UInt8))))
  | all3_0 => (if (all3_0.length : Int).tmod (64 : Int) ≠ (56 : Int) then if all3_0.length + [0].length ≤ 9223372036854775807 then some (.inl (all3_0 ++ [0])) else none else some (.inr all3_0))
noncomputable def g_ref_ended_l1 (r'7 : Vector UInt32 8) : (List UInt8) × Int → Option (((List UInt8) × Int) ⊕ (((List UInt8))))
  | (t5_1, t30_1) => (if t30_1 < (8 : Int) then if 0 ≤ t30_1 ∧ t30_1 < (8 : Int) then (g_ref_big ((vrd r'7 t30_1.toNat).toUInt64) (4 : Int)).bind fun r'8 => if t5_1.length + r'8.length ≤ 9223372036854775807 then some (.inl (t5_1 ++ r'8, w64 (t30_1 + (1 : Int)))) else none else none else some (.inr t5_1))
noncomputable def g_ref_ended_l2 (y'12 : (List UInt8)) : Int × (Vector UInt8 32) → Option ((Int × (Vector UInt8 32)) ⊕ (((Vector UInt8 32))))
  | (t39_2, out8_2) => (if t39_2 < (32 : Int) then if 0 ≤ t39_2 ∧ t39_2 < (y'12.length : Int) then if 0 ≤ t39_2 ∧ t39_2 < (32 : Int) then some (.inl (w64 (t39_2 + (1 : Int)), (vwr out8_2 t39_2.toNat (lrd y'12 t39_2.toNat)))) else none else none else some (.inr out8_2))
noncomputable def g_ref_ended (s0 : GStream) : Option ((Vector UInt8 32)) :=
  (g_ref_heldOf s0).bind fun r'1 => if r'1.length + [128].length ≤ 9223372036854775807 then (loopO (g_ref_ended_l0) (r'1 ++ [128])).bind fun y'5 => (g_ref_big ((UInt64.ofInt s0.Len) * (8 : UInt64)) (8 : Int)).bind fun r'6 => if y'5.length + r'6.length ≤ 9223372036854775807 then (g_ref_blocks s0.H (y'5 ++ r'6)).bind fun r'7 => (loopO (g_ref_ended_l1 r'7) ([], (0 : Int))).bind fun y'12 => (loopO (g_ref_ended_l2 y'12) ((0 : Int), (Vector.replicate 32 (0 : UInt8)))).bind fun y'16 => some y'16 else none else none
set_option maxHeartbeats 4000000 in
set_option maxRecDepth 100000 in
theorem g_ref_ended_ac {s0 : GStream} {r : (Vector UInt8 32)} (H : g_ref_ended s0 = some r) : ACp Tryd.prog 87 [(.agg (GStream.cs s0))] (.agg (bcells r.toList)) := by
  refine ACp_of (AC2_of_body (vs := [.g (bcells r.toList)]) Tryd.func87 rfl rfl (Nat.le_of_ble_eq_true rfl) rfl ?_) (fun _ => .same _)
  unfold g_ref_ended at H
  refine as2 [(0, .g (GStream.cs s0))] [] rfl rfl rfl ?_
  refine sg [0, 1] rfl ?_
  refine r_op rfl rfl (MakeD.opD (n_box 1 rfl rfl) rfl rfl rfl rfl) ?_
  refine r_op rfl rfl (MakeD.opD (u_alloc 2 rfl in_82 one_82 zc_82) rfl rfl rfl rfl) ?_
  refine rz [(1, .q 1 (0)), (2, .q 2 (0))] [(1, .pure (GStream.cs s0)), (2, .pure (bcells ((Vector.replicate 32 (0 : UInt8)).toList)))] rfl rfl rfl ?_
  refine sg [0, 1, 2, 3] rfl ?_
  refine rp rfl rfl (u_lda rfl rfl Tryd.underlying96 rfl in_96 rfl (Nat.succ_pos _) (Sub.refl _) (GStream.len s0)) ?_
  refine bindK H fun r'1 h1 H => ?_
  refine rp rfl rfl (p_callp rfl rfl rfl Tryd.func92 rfl rfl (g_ref_heldOf_ac h1) ⟨rfl, trivial⟩) ?_
  refine chkK H fun h2 H => ?_
  refine rp rfl rfl (p_cat rfl rfl rfl h2) ?_
  refine rp rfl rfl (p_asg rfl rfl) ?_
  refine rz [(1, .q 1 (0)), (2, .q 2 (0)), (3, .t (r'1 ++ [128]))] [(1, .pure (GStream.cs s0)), (2, .pure (bcells ((Vector.replicate 32 (0 : UInt8)).toList)))] rfl rfl rfl ?_
  refine AW2_seq ?_
  refine AW2_block ?_
  refine as2 [(1, .q 1 (0)), (2, .q 2 (0)), (3, .t (r'1 ++ [128]))] [(1, .pure (GStream.cs s0)), (2, .pure (bcells ((Vector.replicate 32 (0 : UInt8)).toList)))] rfl rfl rfl ?_
  refine bindK H fun y'5 h5 H => ?_
  refine AW2_loopO (fun a'2 : (List UInt8) => (⟨[(1, .q 1 (0)), (2, .q 2 (0)), (3, .t a'2)], [(1, .pure (GStream.cs s0)), (2, .pure (bcells ((Vector.replicate 32 (0 : UInt8)).toList)))], 49⟩ : TS)) (fun (y'3 : ((List UInt8))) e s' => e = Go.Exit.exit 0 ∧ s' = (⟨[(1, .q 1 (0)), (2, .q 2 (0)), (3, .t y'3)], [(1, .pure (GStream.cs s0)), (2, .pure (bcells ((Vector.replicate 32 (0 : UInt8)).toList)))], 49⟩ : TS)) h5 rfl (fun all3_0 x hx => ?_) (fun e s' hs => ?_)
  · clear H
    have H := hx
    clear hx
    unfold g_ref_ended_l0 at H
    refine AW2_seq ?_
    refine sg [0, 1, 2, 3] rfl ?_
    refine rp rfl rfl (p_move rfl rfl) ?_
    refine rp rfl rfl (p_lent rfl Tryd.underlying9 rfl) ?_
    refine rp rfl rfl (p_irem rfl rfl rfl (by decide)) ?_
    refine rp rfl rfl (p_ine rfl rfl rfl) ?_
    refine rz [(1, .q 1 (0)), (2, .q 2 (0)), (3, .t all3_0), (16, .b (decide ((all3_0.length : Int).tmod (64 : Int) ≠ (56 : Int))))] [(1, .pure (GStream.cs s0)), (2, .pure (bcells ((Vector.replicate 32 (0 : UInt8)).toList)))] rfl rfl rfl ?_
    refine AW2_if (p := (all3_0.length : Int).tmod (64 : Int) ≠ (56 : Int)) rfl (fun h3 => ?_) (fun h3 => ?_)
    · replace H := ite_then h3 H
      refine as2 [(1, .q 1 (0)), (2, .q 2 (0)), (3, .t all3_0)] [(1, .pure (GStream.cs s0)), (2, .pure (bcells ((Vector.replicate 32 (0 : UInt8)).toList)))] rfl rfl rfl ?_
      refine AW2_skip ?_
      refine AW2_block ?_
      refine AW2_reg [0, 1, 2] rfl ?_
      refine rp rfl rfl (p_move rfl rfl) ?_
      refine chkK H fun h4 H => ?_
      refine rp rfl rfl (p_cat rfl rfl rfl h4) ?_
      refine rp rfl rfl (p_asg rfl rfl) ?_
      refine rz [(1, .q 1 (0)), (2, .q 2 (0)), (3, .t (all3_0 ++ [0]))] [(1, .pure (GStream.cs s0)), (2, .pure (bcells ((Vector.replicate 32 (0 : UInt8)).toList)))] rfl rfl rfl ?_
      have hz := some_elim H
      subst hz
      exact ⟨rfl, rfl⟩
    · replace H := ite_else h3 H
      refine as2 [(1, .q 1 (0)), (2, .q 2 (0)), (3, .t all3_0)] [(1, .pure (GStream.cs s0)), (2, .pure (bcells ((Vector.replicate 32 (0 : UInt8)).toList)))] rfl rfl rfl ?_
      refine AW2_exit ?_
      refine thenQ2_exit ?_
      have hz := some_elim H
      subst hz
      exact ⟨rfl, rfl⟩
  · obtain ⟨rfl, rfl⟩ := hs
    refine ⟨by simp, ?_⟩
    refine blockQ2_exit ?_
    refine AW2_seq ?_
    refine bindK H fun r'6 h6 H => ?_
    refine chkK H fun h7 H => ?_
    refine bindK H fun r'7 h8 H => ?_
    refine AW2_ghoQ ?_
    refine AW2_draw 11 [11] (fun k => ([.q 1 (0 + 0), .g (s0.H.toList.map AV.u32), .t y'5, .q 1 (0 + 73), .i s0.Len, .p (AV.u64 (UInt64.ofInt s0.Len)), .p (AV.u64 ((UInt64.ofInt s0.Len) * (8 : UInt64))), .t r'6, .t (y'5 ++ r'6), .g (r'7.toList.map AV.u32), .q 4 (0)] : List TV).getD k TV.any) (fun k => ([[(1, none)], [(19, some 0)], [(3, none)], [(1, none)], [(22, some 3)], [(23, some 4)], [(24, some 5)], [(25, some 6)], [(21, some 2), (26, some 7)], [(20, some 1), (27, some 8)], []] : List (List (Nat × Option Nat))).getD k []) [(2, none), (4, some 10), (28, some 9)] [(10, 4, (((Vector.replicate 8 (0 : UInt32)).toList).map AV.u32))] (fun k => ([[], [0], [], [], [3], [3, 4], [3, 4, 5], [3, 4, 5, 6], [2, 3, 4, 5, 6, 7], [0, 1, 2, 3, 4, 5, 6, 7, 8], [], [0, 1, 2, 3, 4, 5, 6, 7, 8, 9, 10]] : List (List Nat)).getD k []) mixed (by kernel_rfl) rfl rfl (a_op (g_x rfl (x_p rfl (u_fa rfl rfl Tryd.underlying96 rfl in_93 (Nat.succ_ne_zero _) rfl rfl (ne_of_lt (n := 0) (Nat.lt_of_lt_of_eq (by decide) (Eq.symm (GStream.len s0))))) rfl)) (a_op (g_x rfl (x_p rfl (u_lda rfl rfl Tryd.underlying93 rfl in_93 rfl (Nat.succ_pos _) ((Sub.refl _).trans (GStream.sub0 s0)) (vmap_len (f := AV.u32) s0.H)) rfl)) (a_op (g_x rfl (x_p rfl (p_move rfl rfl) rfl)) (a_op (g_x rfl (x_p rfl (u_fa rfl rfl Tryd.underlying96 rfl in_3 (Nat.succ_ne_zero _) rfl rfl (ne_of_lt (n := 0) (Nat.lt_of_lt_of_eq (by decide) (Eq.symm (GStream.len s0))))) rfl)) (a_op (g_x rfl (x_p rfl (u_ld rfl rfl Tryd.underlying3 rfl rfl ((Sub.refl _).trans (GStream.sub3 s0))) rfl)) (a_op (g_x rfl (x_p rfl (p_i_u64 rfl Tryd.underlying3 Tryd.underlying103 rfl) rfl)) (a_op (g_x rfl (x_p rfl (p_u64mul (a := UInt64.ofInt s0.Len) (b := (8 : UInt64)) rfl rfl rfl) rfl)) (a_op (g_x rfl (x_p rfl (p_callp rfl rfl rfl Tryd.func90 rfl rfl (g_ref_big_ac h6) ⟨rfl, rfl, trivial⟩) rfl)) (a_op (g_x rfl (x_p rfl (p_cat rfl rfl rfl h7) rfl)) (a_op (g_x rfl (x_p rfl (p_callp rfl rfl rfl Tryd.func93 rfl rfl (g_ref_blocks_ac h8) ⟨rfl, rfl, trivial⟩) rfl)) (a_op (g_x rfl (x_m rfl (u_alloc 4 rfl in_93 one_93 zc_93) rfl rfl)) (a_nil)))))))))))) ?_
    refine t_op rfl rfl (u_st rfl rfl rfl rfl rfl in_93 (vmap_len (f := AV.u32) r'7) (ne_of_lt (n := 0) (Nat.lt_of_lt_of_eq (by decide) (Eq.symm (vmap_len (f := AV.u32) (Vector.replicate 8 (0 : UInt32)))))) (Upd.refl ((vmap_len (f := AV.u32) r'7).trans (vmap_len (f := AV.u32) (Vector.replicate 8 (0 : UInt32))).symm))) ?_
    refine t_gho (Gho_st (L := [(2, .q 2 (0)), (4, .q 4 (0))]) (H := [(2, .pure (bcells ((Vector.replicate 32 (0 : UInt8)).toList))), (4, .pure (r'7.toList.map AV.u32))]) rfl ⟨TLes.same _, TLes.same _, trivial⟩ ⟨rfl, rfl, trivial⟩) ?_
    refine sg [0] rfl ?_
    refine rp rfl rfl (p_asg rfl rfl) ?_
    refine rz [(2, .q 2 (0)), (4, .q 4 (0)), (5, .t [])] [(2, .pure (bcells ((Vector.replicate 32 (0 : UInt8)).toList))), (4, .pure (r'7.toList.map AV.u32))] rfl rfl rfl ?_
    refine AW2_seq ?_
    refine sg [0, 1] rfl ?_
    refine rp rfl rfl (u_lda rfl rfl Tryd.underlying93 rfl in_93 rfl (Nat.succ_pos _) (Sub.refl _) (vmap_len (f := AV.u32) r'7)) ?_
    refine rp rfl rfl (p_move rfl rfl) ?_
    refine rz [(2, .q 2 (0)), (5, .t []), (29, .g (r'7.toList.map AV.u32)), (30, .i (0 : Int))] [(2, .pure (bcells ((Vector.replicate 32 (0 : UInt8)).toList)))] rfl rfl rfl ?_
    refine AW2_block ?_
    refine as2 [(2, .q 2 (0)), (5, .t []), (29, .g (r'7.toList.map AV.u32)), (30, .i (0 : Int))] [(2, .pure (bcells ((Vector.replicate 32 (0 : UInt8)).toList)))] rfl rfl rfl ?_
    refine bindK H fun y'12 h13 H => ?_
    refine AW2_loopO (fun a'9 : (List UInt8) × Int => (⟨[(2, .q 2 (0)), (5, .t a'9.1), (29, .g (r'7.toList.map AV.u32)), (30, .i a'9.2)], [(2, .pure (bcells ((Vector.replicate 32 (0 : UInt8)).toList)))], 49⟩ : TS)) (fun (y'10 : ((List UInt8))) e s' => e = Go.Exit.exit 2 ∧ s' = (⟨[(2, .q 2 (0)), (5, .t y'10)], [(2, .pure (bcells ((Vector.replicate 32 (0 : UInt8)).toList)))], 49⟩ : TS)) h13 rfl (fun a x hx => ?_) (fun e s' hs => ?_)
    · clear H
      obtain ⟨t5_1, t30_1⟩ := a
      have H := hx
      clear hx
      unfold g_ref_ended_l1 at H
      refine sg [0] rfl ?_
      refine rp rfl rfl (p_bin rfl rfl rfl rfl) ?_
      refine rz [(2, .q 2 (0)), (5, .t t5_1), (29, .g (r'7.toList.map AV.u32)), (30, .i t30_1), (31, .b (decide (t30_1 < (8 : Int))))] [(2, .pure (bcells ((Vector.replicate 32 (0 : UInt8)).toList)))] rfl rfl rfl ?_
      refine AW2_seq ?_
      refine AW2_if (p := t30_1 < (8 : Int)) rfl (fun h9 => ?_) (fun h9 => ?_)
      · replace H := ite_then h9 H
        refine as2 [(2, .q 2 (0)), (5, .t t5_1), (29, .g (r'7.toList.map AV.u32)), (30, .i t30_1)] [(2, .pure (bcells ((Vector.replicate 32 (0 : UInt8)).toList)))] rfl rfl rfl ?_
        refine AW2_skip ?_
        refine AW2_seq ?_
        refine AW2_block ?_
        refine sg [0, 1] rfl ?_
        refine chkK H fun h10 H => ?_
        refine rp rfl rfl (u_ixa rfl rfl Tryd.underlying93 in_92 Tryd.underlying92 rfl rfl rfl (ixe h10) (ixn h10) (Sub.vmap (ixn h10))) ?_
        refine rp rfl rfl (p_asg rfl rfl) ?_
        refine rz [(2, .q 2 (0)), (5, .t t5_1), (7, .p (AV.u32 (vrd r'7 t30_1.toNat))), (29, .g (r'7.toList.map AV.u32)), (30, .i t30_1)] [(2, .pure (bcells ((Vector.replicate 32 (0 : UInt8)).toList)))] rfl rfl rfl ?_
        refine AW2_reg [0, 1, 2, 3, 4, 5] rfl ?_
        refine rp rfl rfl (p_move rfl rfl) ?_
        refine rp rfl rfl (p_move rfl rfl) ?_
        refine rp rfl rfl (p_u32_u64 (a := (vrd r'7 t30_1.toNat)) rfl Tryd.underlying92 Tryd.underlying103 rfl) ?_
        refine bindK H fun r'8 h11 H => ?_
        refine rp rfl rfl (p_callp rfl rfl rfl Tryd.func90 rfl rfl (g_ref_big_ac h11) ⟨rfl, rfl, trivial⟩) ?_
        refine chkK H fun h12 H => ?_
        refine rp rfl rfl (p_cat rfl rfl rfl h12) ?_
        refine rp rfl rfl (p_asg rfl rfl) ?_
        refine rz [(2, .q 2 (0)), (5, .t (t5_1 ++ r'8)), (29, .g (r'7.toList.map AV.u32)), (30, .i t30_1)] [(2, .pure (bcells ((Vector.replicate 32 (0 : UInt8)).toList)))] rfl rfl rfl ?_
        refine AW2_reg [0, 1] rfl ?_
        refine rp rfl rfl (p_bin rfl rfl rfl rfl) ?_
        refine rp rfl rfl (p_move rfl rfl) ?_
        refine rz [(2, .q 2 (0)), (5, .t (t5_1 ++ r'8)), (29, .g (r'7.toList.map AV.u32)), (30, .i (w64 (t30_1 + (1 : Int))))] [(2, .pure (bcells ((Vector.replicate 32 (0 : UInt8)).toList)))] rfl rfl rfl ?_
        have hz := some_elim H
        subst hz
        exact ⟨rfl, rfl⟩
      · replace H := ite_else h9 H
        refine as2 [(2, .q 2 (0)), (5, .t t5_1)] [(2, .pure (bcells ((Vector.replicate 32 (0 : UInt8)).toList)))] rfl rfl rfl ?_
        refine AW2_exit ?_
        refine thenQ2_exit ?_
        have hz := some_elim H
        subst hz
        exact ⟨rfl, rfl⟩
    · obtain ⟨rfl, rfl⟩ := hs
      refine ⟨by simp, ?_⟩
      refine blockQ2_exit ?_
      refine sg [0] rfl ?_
      refine r_op rfl rfl (MakeD.opD (u_alloc 8 rfl in_82 one_82 zc_82) rfl rfl rfl rfl) ?_
      refine rz [(2, .q 2 (0)), (5, .t y'12), (8, .q 8 (0))] [(2, .pure (bcells ((Vector.replicate 32 (0 : UInt8)).toList))), (8, .pure (bcells ((Vector.replicate 32 (0 : UInt8)).toList)))] rfl rfl rfl ?_
      refine AW2_seq ?_
      refine sg [0] rfl ?_
      refine rp rfl rfl (p_move rfl rfl) ?_
      refine rz [(2, .q 2 (0)), (5, .t y'12), (8, .q 8 (0)), (39, .i (0 : Int))] [(2, .pure (bcells ((Vector.replicate 32 (0 : UInt8)).toList))), (8, .pure (bcells ((Vector.replicate 32 (0 : UInt8)).toList)))] rfl rfl rfl ?_
      refine AW2_block ?_
      refine as2 [(2, .q 2 (0)), (5, .t y'12), (8, .q 8 (0)), (39, .i (0 : Int))] [(2, .pure (bcells ((Vector.replicate 32 (0 : UInt8)).toList))), (8, .pure (bcells ((Vector.replicate 32 (0 : UInt8)).toList)))] rfl rfl rfl ?_
      refine bindK H fun y'16 h17 H => ?_
      refine AW2_loopO (fun a'13 : Int × (Vector UInt8 32) => (⟨[(2, .q 2 (0)), (5, .t y'12), (8, .q 8 (0)), (39, .i a'13.1)], [(2, .pure (bcells ((Vector.replicate 32 (0 : UInt8)).toList))), (8, .pure (bcells a'13.2.toList))], 49⟩ : TS)) (fun (y'14 : ((Vector UInt8 32))) e s' => e = Go.Exit.exit 4 ∧ s' = (⟨[(2, .q 2 (0)), (8, .q 8 (0))], [(2, .pure (bcells ((Vector.replicate 32 (0 : UInt8)).toList))), (8, .pure (bcells y'14.toList))], 49⟩ : TS)) h17 rfl (fun a x hx => ?_) (fun e s' hs => ?_)
      · clear H
        obtain ⟨t39_2, out8_2⟩ := a
        have H := hx
        clear hx
        unfold g_ref_ended_l2 at H
        refine sg [0] rfl ?_
        refine rp rfl rfl (p_bin rfl rfl rfl rfl) ?_
        refine rz [(2, .q 2 (0)), (5, .t y'12), (8, .q 8 (0)), (39, .i t39_2), (40, .b (decide (t39_2 < (32 : Int))))] [(2, .pure (bcells ((Vector.replicate 32 (0 : UInt8)).toList))), (8, .pure (bcells out8_2.toList))] rfl rfl rfl ?_
        refine AW2_seq ?_
        refine AW2_if (p := t39_2 < (32 : Int)) rfl (fun h14 => ?_) (fun h14 => ?_)
        · replace H := ite_then h14 H
          refine as2 [(2, .q 2 (0)), (5, .t y'12), (8, .q 8 (0)), (39, .i t39_2)] [(2, .pure (bcells ((Vector.replicate 32 (0 : UInt8)).toList))), (8, .pure (bcells out8_2.toList))] rfl rfl rfl ?_
          refine AW2_skip ?_
          refine AW2_seq ?_
          refine AW2_block ?_
          refine sg [0, 1] rfl ?_
          refine rp rfl rfl (p_move rfl rfl) ?_
          refine rp rfl rfl (p_asg rfl rfl) ?_
          refine rz [(2, .q 2 (0)), (5, .t y'12), (8, .q 8 (0)), (9, .i t39_2), (39, .i t39_2)] [(2, .pure (bcells ((Vector.replicate 32 (0 : UInt8)).toList))), (8, .pure (bcells out8_2.toList))] rfl rfl rfl ?_
          refine AW2_reg [0, 1, 2, 3, 4, 5] rfl ?_
          refine rp rfl rfl (p_move rfl rfl) ?_
          refine rp rfl rfl (p_move rfl rfl) ?_
          refine rp rfl rfl (p_move rfl rfl) ?_
          refine chkK H fun h15 H => ?_
          refine rp rfl rfl (p_ixt rfl Tryd.underlying9 rfl rfl (ixe h15) (lrd_get (ixn h15))) ?_
          refine chkK H fun h16 H => ?_
          refine rp rfl rfl (u_ixp rfl rfl Tryd.underlying82 in_5 rfl rfl (ne_of_lt (n := 0) (Nat.lt_of_lt_of_eq (by decide) (Eq.symm ((bcells_length _).trans (vlen out8_2))))) rfl (ixe h16) (ixn h16)) ?_
          refine r_op rfl rfl (u_st rfl rfl rfl rfl rfl in_5 rfl (ne_of_lt (n := 0) (Nat.lt_of_lt_of_eq (by decide) (Eq.symm ((bcells_length _).trans (vlen out8_2))))) (Upd.trans (Sub.refl _) (Upd.vmap (ixn h16)) (Upd.refl (((bcells_length _).trans (vlen (vwr out8_2 t39_2.toNat (lrd y'12 t39_2.toNat)))).trans ((bcells_length _).trans (vlen out8_2)).symm)))) ?_
          refine rz [(2, .q 2 (0)), (5, .t y'12), (8, .q 8 (0)), (39, .i t39_2)] [(2, .pure (bcells ((Vector.replicate 32 (0 : UInt8)).toList))), (8, .pure (bcells ((vwr out8_2 t39_2.toNat (lrd y'12 t39_2.toNat)).toList)))] rfl rfl rfl ?_
          refine AW2_reg [0, 1] rfl ?_
          refine rp rfl rfl (p_bin rfl rfl rfl rfl) ?_
          refine rp rfl rfl (p_move rfl rfl) ?_
          refine rz [(2, .q 2 (0)), (5, .t y'12), (8, .q 8 (0)), (39, .i (w64 (t39_2 + (1 : Int))))] [(2, .pure (bcells ((Vector.replicate 32 (0 : UInt8)).toList))), (8, .pure (bcells ((vwr out8_2 t39_2.toNat (lrd y'12 t39_2.toNat)).toList)))] rfl rfl rfl ?_
          have hz := some_elim H
          subst hz
          exact ⟨rfl, rfl⟩
        · replace H := ite_else h14 H
          refine as2 [(2, .q 2 (0)), (8, .q 8 (0))] [(2, .pure (bcells ((Vector.replicate 32 (0 : UInt8)).toList))), (8, .pure (bcells out8_2.toList))] rfl rfl rfl ?_
          refine AW2_exit ?_
          refine thenQ2_exit ?_
          have hz := some_elim H
          subst hz
          exact ⟨rfl, rfl⟩
      · obtain ⟨rfl, rfl⟩ := hs
        refine ⟨by simp, ?_⟩
        refine blockQ2_exit ?_
        refine sg [0, 1] rfl ?_
        refine rp rfl rfl (u_lda rfl rfl Tryd.underlying82 rfl in_82 rfl (Nat.succ_pos _) (Sub.refl _) ((bcells_length _).trans (vlen y'16))) ?_
        refine r_op rfl rfl (u_st rfl rfl rfl rfl rfl in_82 ((bcells_length _).trans (vlen y'16)) (ne_of_lt (n := 0) (Nat.lt_of_lt_of_eq (by decide) (Eq.symm ((bcells_length _).trans (vlen (Vector.replicate 32 (0 : UInt8))))))) (Upd.refl (((bcells_length _).trans (vlen y'16)).trans ((bcells_length _).trans (vlen (Vector.replicate 32 (0 : UInt8)))).symm))) ?_
        refine rz [(2, .q 2 (0))] [(2, .pure (bcells y'16.toList))] rfl rfl rfl ?_
        refine AW2_ret ?_
        have hz := some_elim H
        subst hz
        exact ⟨⟨res_cella Tryd.underlying82 rfl in_82.sz rfl (Sub.le (Sub.refl _) ((bcells_length _).trans (vlen y'16))) (by decide) (Sub.take (Sub.refl _) ((bcells_length _).trans (vlen y'16))), trivial⟩, trivial⟩

/-! chirographref.Summed -/
noncomputable def g_ref_Summed (b0 : List UInt8) : Option ((Vector UInt8 32)) :=
  (g_ref_Begun).bind fun r'1 => (g_ref_Added r'1 b0).bind fun r'2 => (g_ref_ended r'2.1).bind fun r'3 => some r'3
set_option maxHeartbeats 4000000 in
set_option maxRecDepth 100000 in
theorem g_ref_Summed_ac {b0 : List UInt8} {r : (Vector UInt8 32)} (H : g_ref_Summed b0 = some r) : ACp Tryd.prog 75 [(AV.bytes b0)] (.agg (bcells r.toList)) := by
  refine ACp_of (AC2_of_body (vs := [.g (bcells r.toList)]) Tryd.func75 rfl rfl (Nat.le_of_ble_eq_true rfl) rfl ?_) (fun _ => .same _)
  unfold g_ref_Summed at H
  refine as2 [(0, .y b0)] [] rfl rfl rfl ?_
  refine sg [0] rfl ?_
  refine r_op rfl rfl (MakeD.opD (u_alloc 2 rfl in_82 one_82 zc_82) rfl rfl rfl rfl) ?_
  refine rz [(0, .y b0), (2, .q 2 (0))] [(2, .pure (bcells ((Vector.replicate 32 (0 : UInt8)).toList)))] rfl rfl rfl ?_
  refine sg [0, 1, 2, 3, 4, 5, 6, 7, 8] rfl ?_
  refine bindK H fun r'1 h1 H => ?_
  refine rp rfl rfl (p_callp rfl rfl rfl Tryd.func86 rfl rfl (g_ref_Begun_ac h1) trivial) ?_
  refine rp rfl rfl (p_move rfl rfl) ?_
  refine bindK H fun r'2 h2 H => ?_
  refine rp rfl rfl (p_callp rfl rfl rfl Tryd.func85 rfl rfl (g_ref_Added_ac h2) ⟨rfl, rfl, trivial⟩) ?_
  refine rp rfl rfl (p_move rfl rfl) ?_
  refine rp rfl rfl (p_ext rfl rfl rfl rfl) ?_
  refine rp rfl rfl (p_ext rfl rfl rfl rfl) ?_
  refine r_op rfl rfl (MakeD.opD (u_alloc 3 rfl in_96 one_96 zc_96) rfl rfl rfl rfl) ?_
  refine r_op rfl rfl (u_st rfl rfl rfl rfl rfl in_96 (GStream.len r'2.1) (ne_of_lt (n := 0) (Nat.lt_of_lt_of_eq (by decide) (Eq.symm (GStream.len GStream.zero)))) (Upd.refl ((GStream.len r'2.1).trans (GStream.len GStream.zero).symm))) ?_
  refine rp rfl rfl (p_asg rfl rfl) ?_
  refine rz [(2, .q 2 (0)), (3, .q 3 (0))] [(2, .pure (bcells ((Vector.replicate 32 (0 : UInt8)).toList))), (3, .pure (GStream.cs r'2.1))] rfl rfl rfl ?_
  refine sg [0, 1, 2] rfl ?_
  refine rp rfl rfl (u_lda rfl rfl Tryd.underlying96 rfl in_96 rfl (Nat.succ_pos _) (Sub.refl _) (GStream.len r'2.1)) ?_
  refine bindK H fun r'3 h3 H => ?_
  refine rp rfl rfl (p_callp rfl rfl rfl Tryd.func87 rfl rfl (g_ref_ended_ac h3) ⟨rfl, trivial⟩) ?_
  refine r_op rfl rfl (u_st rfl rfl rfl rfl rfl in_82 ((bcells_length _).trans (vlen r'3)) (ne_of_lt (n := 0) (Nat.lt_of_lt_of_eq (by decide) (Eq.symm ((bcells_length _).trans (vlen (Vector.replicate 32 (0 : UInt8))))))) (Upd.refl (((bcells_length _).trans (vlen r'3)).trans ((bcells_length _).trans (vlen (Vector.replicate 32 (0 : UInt8)))).symm))) ?_
  refine rz [(2, .q 2 (0))] [(2, .pure (bcells r'3.toList))] rfl rfl rfl ?_
  refine AW2_ret ?_
  have hz := some_elim H
  subst hz
  exact ⟨⟨res_cella Tryd.underlying82 rfl in_82.sz rfl (Sub.le (Sub.refl _) ((bcells_length _).trans (vlen r'3))) (by decide) (Sub.take (Sub.refl _) ((bcells_length _).trans (vlen r'3))), trivial⟩, trivial⟩

/-! chirographref.DigestOf -/
noncomputable def g_ref_DigestOf (mode0 : Int) (tag1 : Int) (parts2 : List (List UInt8)) : Option ((List UInt8) × Int) :=
  (g_ref_badMode mode0).bind fun r'1 => (if r'1 = true then some ([], (2 : Int)) else (g_ref_FrameOf tag1 parts2).bind fun r'2 => ((if (r'2.2 = (0 : Int)) ∧ (mode0 = (1 : Int)) then (g_ref_Summed r'2.1).bind fun r'4 => some r'4.toList else some r'2.1)).bind fun j'3 => some (j'3, r'2.2))
set_option maxHeartbeats 4000000 in
set_option maxRecDepth 100000 in
theorem g_ref_DigestOf_ac {mode0 : Int} {tag1 : Int} {parts2 : List (List UInt8)} {r : (List UInt8) × Int} (H : g_ref_DigestOf mode0 tag1 parts2 = some r) : ACp Tryd.prog 42 [(AV.int mode0), (AV.int tag1), (AV.lists parts2)] (.tup [(AV.bytes r.1), (AV.int r.2)]) := by
  refine ACp_of (AC2_of_body (vs := [.y r.1, .i r.2]) Tryd.func42 rfl rfl (Nat.le_of_ble_eq_true rfl) rfl ?_) (fun _ => .same _)
  unfold g_ref_DigestOf at H
  refine as2 [(0, .i mode0), (1, .i tag1), (2, .p (AV.lists parts2))] [] rfl rfl rfl ?_
  refine sg [0, 1] rfl ?_
  refine rp rfl rfl (p_asgn rfl) ?_
  refine rp rfl rfl (p_asg rfl rfl) ?_
  refine rz [(0, .i mode0), (1, .i tag1), (2, .p (AV.lists parts2))] [] rfl rfl rfl ?_
  refine AW2_seq ?_
  refine sg [0, 1] rfl ?_
  refine rp rfl rfl (p_move rfl rfl) ?_
  refine bindK H fun r'1 h1 H => ?_
  refine rp rfl rfl (p_callp rfl rfl rfl Tryd.func41 rfl rfl (g_ref_badMode_ac h1) ⟨rfl, trivial⟩) ?_
  refine rz [(0, .i mode0), (1, .i tag1), (2, .p (AV.lists parts2)), (12, .b r'1)] [] rfl rfl rfl ?_
  refine AW2_cond rfl (fun h2 => ?_) (fun h2 => ?_)
  · replace H := ite_then h2 H
    refine sg [0, 1] rfl ?_
    refine rp rfl rfl (p_asgn rfl) ?_
    refine rp rfl rfl (p_asg rfl rfl) ?_
    refine rz [(6, .p .nil), (7, .i (2 : Int))] [] rfl rfl rfl ?_
    refine AW2_ret ?_
    have hz := some_elim H
    subst hz
    exact ⟨⟨res_tmp TLes.nil0, res_tmp (.same _), trivial⟩, trivial⟩
  · replace H := ite_else (ne_true h2) H
    refine as2 [(0, .i mode0), (1, .i tag1), (2, .p (AV.lists parts2))] [] rfl rfl rfl ?_
    refine AW2_skip ?_
    refine sg [0, 1, 2, 3, 4, 5, 6, 7] rfl ?_
    refine rp rfl rfl (p_move rfl rfl) ?_
    refine rp rfl rfl (p_move rfl rfl) ?_
    refine bindK H fun r'2 h3 H => ?_
    refine rp rfl rfl (p_callp rfl rfl rfl Tryd.func74 rfl rfl (g_ref_FrameOf_ac h3) ⟨rfl, rfl, trivial⟩) ?_
    refine rp rfl rfl (p_move rfl rfl) ?_
    refine rp rfl rfl (p_ext rfl rfl rfl rfl) ?_
    refine rp rfl rfl (p_ext rfl rfl rfl rfl) ?_
    refine rp rfl rfl (p_asg rfl rfl) ?_
    refine rp rfl rfl (p_asg rfl rfl) ?_
    refine rz [(0, .i mode0), (8, .y r'2.1), (9, .i r'2.2)] [] rfl rfl rfl ?_
    refine AW2_seq ?_
    refine bindK H fun j'3 h4 H => ?_
    refine AW2_mid (⟨[(8, .y j'3), (9, .i r'2.2)], [], 32⟩ : TS) ?_ ?_
    · clear H
      have H := h4
      clear h4
      refine AW2_seq ?_
      refine AW2_mid (⟨[(8, .y r'2.1), (9, .i r'2.2), (24, .b (decide ((r'2.2 = (0 : Int)) ∧ (mode0 = (1 : Int)))))], [], 32⟩ : TS) ?_ ?_
      · refine AW2_reg [0, 1, 2, 3, 4, 5] rfl ?_
        refine rp rfl rfl (p_move rfl rfl) ?_
        refine rp rfl rfl (p_ieq rfl rfl rfl) ?_
        refine rp rfl rfl (p_move rfl rfl) ?_
        refine (Classical.em (r'2.2 = (0 : Int))).elim (fun h5 => ?_) (fun h5 => ?_)
        · refine r_on rfl rfl rfl rfl (decide_eq_true (p := r'2.2 = (0 : Int)) h5) rfl (PureD.opD (p_move rfl rfl)) ?_
          refine r_on rfl rfl rfl rfl (decide_eq_true (p := r'2.2 = (0 : Int)) h5) rfl (PureD.opD (p_ieq rfl rfl rfl)) ?_
          refine rp rfl rfl (p_pkt rfl rfl (decide_eq_true (p := r'2.2 = (0 : Int)) h5) (tb ((and_l (p := r'2.2 = (0 : Int)) (q := mode0 = (1 : Int)) h5)))) ?_
          refine rs [(8, .y r'2.1), (9, .i r'2.2), (24, .b (decide ((r'2.2 = (0 : Int)) ∧ (mode0 = (1 : Int)))))] [] rfl rfl rfl ?_
          exact RunW_nil rfl
        · refine r_off rfl rfl rfl rfl (decide_eq_false (p := r'2.2 = (0 : Int)) h5) rfl rfl ?_
          refine r_off rfl rfl rfl rfl (decide_eq_false (p := r'2.2 = (0 : Int)) h5) rfl rfl ?_
          refine rp rfl rfl (p_pkf rfl rfl (decide_eq_false (p := r'2.2 = (0 : Int)) h5) (tb (decide_eq_false (p := (r'2.2 = (0 : Int)) ∧ (mode0 = (1 : Int))) (fun x => h5 x.1)).symm)) ?_
          refine rs [(8, .y r'2.1), (9, .i r'2.2), (24, .b (decide ((r'2.2 = (0 : Int)) ∧ (mode0 = (1 : Int)))))] [] rfl rfl rfl ?_
          exact RunW_nil rfl
      · refine AW2_if (p := (r'2.2 = (0 : Int)) ∧ (mode0 = (1 : Int))) rfl (fun h6 => ?_) (fun h6 => ?_)
        · replace H := ite_then h6 H
          refine sg [0, 1, 2, 3] rfl ?_
          refine rp rfl rfl (p_move rfl rfl) ?_
          refine bindK H fun r'4 h7 H => ?_
          refine rp rfl rfl (p_callp rfl rfl rfl Tryd.func75 rfl rfl (g_ref_Summed_ac h7) ⟨rfl, trivial⟩) ?_
          refine r_op rfl rfl (MakeD.opD (u_alloc 10 rfl in_82 one_82 zc_82) rfl rfl rfl rfl) ?_
          refine r_op rfl rfl (u_st rfl rfl rfl rfl rfl in_82 ((bcells_length _).trans (vlen r'4)) (ne_of_lt (n := 0) (Nat.lt_of_lt_of_eq (by decide) (Eq.symm ((bcells_length _).trans (vlen (Vector.replicate 32 (0 : UInt8))))))) (Upd.refl (((bcells_length _).trans (vlen r'4)).trans ((bcells_length _).trans (vlen (Vector.replicate 32 (0 : UInt8)))).symm))) ?_
          refine rz [(9, .i r'2.2), (10, .q 10 (0))] [(10, .pure (bcells r'4.toList))] rfl rfl rfl ?_
          refine AW2_reg [0, 1, 2, 3] rfl ?_
          refine rp rfl rfl (u_cuta rfl rfl Tryd.underlying82 in_5 rfl rfl (ne_of_lt (n := 0) (Nat.lt_of_lt_of_eq (by decide) (Eq.symm ((bcells_length _).trans (vlen r'4))))) (Sub.refl _) (((bcells_length _).trans (vlen r'4)).trans (by decide))) ?_
          refine rp rfl rfl (u_cbl rfl rfl Tryd.underlying22 Tryd.underlying5 Tryd.underlying9 (bs := r'4.toList) (vlen _) rfl rfl (ne_of_lt (n := 0) (Nat.lt_of_lt_of_eq (by decide) (Eq.symm ((bcells_length _).trans (vlen r'4))))) (Sub.refl _)) ?_
          refine r_op rfl rfl (MakeD.opD (n_sb 29 rfl Tryd.underlying9 Tryd.underlying22 Tryd.underlying5 rfl) rfl rfl rfl rfl) ?_
          refine rp rfl rfl (p_asg rfl rfl) ?_
          refine rs [(8, .c (.own 29 r'4.toList.length 1)), (9, .i r'2.2)] [(29, .pure (bcells r'4.toList))] rfl rfl rfl ?_
          refine RunW_gho (Gho_ren 29 8 rfl rfl rfl rfl rfl) ?_
          refine rs [(8, .c (.own 8 r'4.toList.length 1)), (9, .i r'2.2)] [(8, .pure (bcells r'4.toList))] rfl rfl rfl ?_
          refine RunW_gho (Gho_pubs [8] ⟨rfl, trivial⟩ rfl (bl r'4.toList) (by decide)) ?_
          refine rz [(8, .y r'4.toList), (9, .i r'2.2)] [] rfl rfl rfl ?_
          have hz := some_elim H
          subst hz
          exact rfl
        · replace H := ite_else h6 H
          refine as2 [(8, .y r'2.1), (9, .i r'2.2)] [] rfl rfl rfl ?_
          refine AW2_skip ?_
          have hz := some_elim H
          subst hz
          exact rfl
    · refine sg [0, 1, 2, 3] rfl ?_
      refine rp rfl rfl (p_move rfl rfl) ?_
      refine rp rfl rfl (p_move rfl rfl) ?_
      refine rp rfl rfl (p_asg rfl rfl) ?_
      refine rp rfl rfl (p_asg rfl rfl) ?_
      refine rz [(6, .y j'3), (7, .i r'2.2)] [] rfl rfl rfl ?_
      refine AW2_ret ?_
      have hz := some_elim H
      subst hz
      exact ⟨⟨res_tmp (.same _), res_tmp (.same _), trivial⟩, trivial⟩

/-! chirographref.IncludeFault -/
noncomputable def g_ref_IncludeFault_l1 : Int × Int → Option ((Int × Int) ⊕ ((Int × Int)))
  | (at15_1, last16_1) => (if (at15_1.tmod (2 : Int) = (0 : Int)) ∧ (at15_1 > (0 : Int)) then some (.inl (w64 (at15_1.tdiv (2 : Int)), w64 (last16_1.tdiv (2 : Int)))) else some (.inr (at15_1, last16_1)))
noncomputable def g_ref_IncludeFault_l0 (mode0 : Int) (path5 : List (List UInt8)) : (List UInt8) × Int × Int × Int × Int → Option (((List UInt8) × Int × Int × Int × Int) ⊕ (Int ⊕ ((List UInt8) × Int × Int)))
  | (d13_0, e14_0, at15_0, last16_0, t49_0) => (if t49_0 < (path5.length : Int) then if 0 ≤ t49_0 ∧ t49_0 < (path5.length : Int) then (if (e14_0 ≠ (0 : Int)) ∨ (last16_0 = (0 : Int)) then some (.inr (.inl (10 : Int))) else ((if (at15_0.tmod (2 : Int) = (1 : Int)) ∨ (at15_0 = last16_0) then (g_ref_DigestOf mode0 (6 : Int) ([(lrd path5 t49_0.toNat), d13_0] : List (List UInt8))).bind fun r'4 => (loopO (g_ref_IncludeFault_l1) (at15_0, last16_0)).bind fun y'8 => some (r'4.1, r'4.2, y'8.1, y'8.2) else (g_ref_DigestOf mode0 (6 : Int) ([d13_0, (lrd path5 t49_0.toNat)] : List (List UInt8))).bind fun r'9 => some (r'9.1, r'9.2, at15_0, last16_0))).bind fun j'3 => some (.inl (j'3.1, j'3.2.1, w64 (j'3.2.2.1.tdiv (2 : Int)), w64 (j'3.2.2.2.tdiv (2 : Int)), w64 (t49_0 + (1 : Int))))) else none else some (.inr (.inr (d13_0, e14_0, last16_0))))
noncomputable def g_ref_IncludeFault (mode0 : Int) (head1 : List UInt8) (n2 : Int) (i3 : Int) (entry4 : List UInt8) (path5 : List (List UInt8)) : Option (Int) :=
  (g_ref_badMode mode0).bind fun r'1 => (if r'1 = true then some (2 : Int) else (if (n2 < (0 : Int)) ∨ (n2 > (64 : Int)) then some (1 : Int) else (if (i3 < (0 : Int)) ∨ (i3 ≥ n2) then some (6 : Int) else (g_ref_DigestOf mode0 (5 : Int) ([entry4] : List (List UInt8))).bind fun r'2 => (loopO (g_ref_IncludeFault_l0 mode0 path5) (r'2.1, r'2.2, i3, w64 (n2 - (1 : Int)), (0 : Int))).bind fun o'13 => match o'13 with | .inl y'14 => some y'14 | .inr (y'15) => (if ((y'15.2.1 ≠ (0 : Int)) ∨ (y'15.2.2 ≠ (0 : Int))) ∨ (y'15.1 ≠ head1) then some (10 : Int) else some (0 : Int)))))
set_option maxHeartbeats 4000000 in
set_option maxRecDepth 100000 in
theorem g_ref_IncludeFault_ac {mode0 : Int} {head1 : List UInt8} {n2 : Int} {i3 : Int} {entry4 : List UInt8} {path5 : List (List UInt8)} {r : Int} (H : g_ref_IncludeFault mode0 head1 n2 i3 entry4 path5 = some r) : ACp Tryd.prog 34 [(AV.int mode0), (AV.bytes head1), (AV.int n2), (AV.int i3), (AV.bytes entry4), (AV.lists path5)] (AV.int r) := by
  refine ACp_of (AC2_of_body (vs := [.i r]) Tryd.func34 rfl rfl (Nat.le_of_ble_eq_true rfl) rfl ?_) (fun _ => .same _)
  unfold g_ref_IncludeFault at H
  refine as2 [(0, .i mode0), (1, .y head1), (2, .i n2), (3, .i i3), (4, .y entry4), (5, .p (AV.lists path5))] [] rfl rfl rfl ?_
  refine sg [0] rfl ?_
  refine rp rfl rfl (p_asg rfl rfl) ?_
  refine rz [(0, .i mode0), (1, .y head1), (2, .i n2), (3, .i i3), (4, .y entry4), (5, .p (AV.lists path5))] [] rfl rfl rfl ?_
  refine AW2_seq ?_
  refine AW2_block ?_
  refine sg [0, 1, 2] rfl ?_
  refine rp rfl rfl (p_move rfl rfl) ?_
  refine bindK H fun r'1 h1 H => ?_
  refine rp rfl rfl (p_callp rfl rfl rfl Tryd.func41 rfl rfl (g_ref_badMode_ac h1) ⟨rfl, trivial⟩) ?_
  refine rp rfl rfl (p_asg rfl rfl) ?_
  refine rz [(0, .i mode0), (1, .y head1), (2, .i n2), (3, .i i3), (4, .y entry4), (5, .p (AV.lists path5)), (19, .b r'1)] [] rfl rfl rfl ?_
  refine AW2_cond rfl (fun h2 => ?_) (fun h2 => ?_)
  · replace H := ite_then h2 H
    refine sg [0] rfl ?_
    refine rp rfl rfl (p_asg rfl rfl) ?_
    refine rz [(12, .i (2 : Int))] [] rfl rfl rfl ?_
    refine AW2_ret ?_
    have hz := some_elim H
    subst hz
    exact ⟨⟨res_tmp (.same _), trivial⟩, trivial⟩
  · replace H := ite_else (ne_true h2) H
    refine AW2_seq ?_
    refine AW2_mid (⟨[(0, .i mode0), (1, .y head1), (2, .i n2), (3, .i i3), (4, .y entry4), (5, .p (AV.lists path5)), (22, .b (decide ((n2 < (0 : Int)) ∨ (n2 > (64 : Int)))))], [], 112⟩ : TS) ?_ ?_
    · refine AW2_reg [0, 1, 2, 3, 4, 5, 6] rfl ?_
      refine rp rfl rfl (p_move rfl rfl) ?_
      refine rp rfl rfl (p_bin rfl rfl rfl rfl) ?_
      refine rp rfl rfl (p_move rfl rfl) ?_
      refine (Classical.em (n2 < (0 : Int))).elim (fun h3 => ?_) (fun h3 => ?_)
      · refine r_off rfl rfl rfl rfl (decide_eq_true (p := n2 < (0 : Int)) h3) rfl rfl ?_
        refine r_off rfl rfl rfl rfl (decide_eq_true (p := n2 < (0 : Int)) h3) rfl rfl ?_
        refine rp rfl rfl (p_pkt rfl rfl (decide_eq_true (p := n2 < (0 : Int)) h3) (tb (decide_eq_true (p := (n2 < (0 : Int)) ∨ (n2 > (64 : Int))) (Or.inl h3)).symm)) ?_
        refine rp rfl rfl (p_asg rfl rfl) ?_
        refine rs [(0, .i mode0), (1, .y head1), (2, .i n2), (3, .i i3), (4, .y entry4), (5, .p (AV.lists path5)), (22, .b (decide ((n2 < (0 : Int)) ∨ (n2 > (64 : Int)))))] [] rfl rfl rfl ?_
        exact RunW_nil rfl
      · refine r_on rfl rfl rfl rfl (decide_eq_false (p := n2 < (0 : Int)) h3) rfl (PureD.opD (p_move rfl rfl)) ?_
        refine r_on rfl rfl rfl rfl (decide_eq_false (p := n2 < (0 : Int)) h3) rfl (PureD.opD (p_bin rfl rfl rfl rfl)) ?_
        refine rp rfl rfl (p_pkf rfl rfl (decide_eq_false (p := n2 < (0 : Int)) h3) (tb ((or_l (p := n2 < (0 : Int)) (q := n2 > (64 : Int)) h3)))) ?_
        refine rp rfl rfl (p_asg rfl rfl) ?_
        refine rs [(0, .i mode0), (1, .y head1), (2, .i n2), (3, .i i3), (4, .y entry4), (5, .p (AV.lists path5)), (22, .b (decide ((n2 < (0 : Int)) ∨ (n2 > (64 : Int)))))] [] rfl rfl rfl ?_
        exact RunW_nil rfl
    · refine AW2_if (p := (n2 < (0 : Int)) ∨ (n2 > (64 : Int))) rfl (fun h4 => ?_) (fun h4 => ?_)
      · replace H := ite_then h4 H
        refine sg [0] rfl ?_
        refine rp rfl rfl (p_asg rfl rfl) ?_
        refine rz [(12, .i (1 : Int))] [] rfl rfl rfl ?_
        refine AW2_ret ?_
        have hz := some_elim H
        subst hz
        exact ⟨⟨res_tmp (.same _), trivial⟩, trivial⟩
      · replace H := ite_else h4 H
        refine AW2_seq ?_
        refine AW2_mid (⟨[(0, .i mode0), (1, .y head1), (2, .i n2), (3, .i i3), (4, .y entry4), (5, .p (AV.lists path5)), (29, .b (decide ((i3 < (0 : Int)) ∨ (i3 ≥ n2))))], [], 112⟩ : TS) ?_ ?_
        · refine AW2_reg [0, 1, 2, 3, 4, 5, 6, 7] rfl ?_
          refine rp rfl rfl (p_move rfl rfl) ?_
          refine rp rfl rfl (p_bin rfl rfl rfl rfl) ?_
          refine rp rfl rfl (p_move rfl rfl) ?_
          refine (Classical.em (i3 < (0 : Int))).elim (fun h5 => ?_) (fun h5 => ?_)
          · refine r_off rfl rfl rfl rfl (decide_eq_true (p := i3 < (0 : Int)) h5) rfl rfl ?_
            refine r_off rfl rfl rfl rfl (decide_eq_true (p := i3 < (0 : Int)) h5) rfl rfl ?_
            refine r_off rfl rfl rfl rfl (decide_eq_true (p := i3 < (0 : Int)) h5) rfl rfl ?_
            refine rp rfl rfl (p_pkt rfl rfl (decide_eq_true (p := i3 < (0 : Int)) h5) (tb (decide_eq_true (p := (i3 < (0 : Int)) ∨ (i3 ≥ n2)) (Or.inl h5)).symm)) ?_
            refine rp rfl rfl (p_asg rfl rfl) ?_
            refine rs [(0, .i mode0), (1, .y head1), (2, .i n2), (3, .i i3), (4, .y entry4), (5, .p (AV.lists path5)), (29, .b (decide ((i3 < (0 : Int)) ∨ (i3 ≥ n2))))] [] rfl rfl rfl ?_
            exact RunW_nil rfl
          · refine r_on rfl rfl rfl rfl (decide_eq_false (p := i3 < (0 : Int)) h5) rfl (PureD.opD (p_move rfl rfl)) ?_
            refine r_on rfl rfl rfl rfl (decide_eq_false (p := i3 < (0 : Int)) h5) rfl (PureD.opD (p_move rfl rfl)) ?_
            refine r_on rfl rfl rfl rfl (decide_eq_false (p := i3 < (0 : Int)) h5) rfl (PureD.opD (p_bin rfl rfl rfl rfl)) ?_
            refine rp rfl rfl (p_pkf rfl rfl (decide_eq_false (p := i3 < (0 : Int)) h5) (tb ((or_l (p := i3 < (0 : Int)) (q := i3 ≥ n2) h5)))) ?_
            refine rp rfl rfl (p_asg rfl rfl) ?_
            refine rs [(0, .i mode0), (1, .y head1), (2, .i n2), (3, .i i3), (4, .y entry4), (5, .p (AV.lists path5)), (29, .b (decide ((i3 < (0 : Int)) ∨ (i3 ≥ n2))))] [] rfl rfl rfl ?_
            exact RunW_nil rfl
        · refine AW2_if (p := (i3 < (0 : Int)) ∨ (i3 ≥ n2)) rfl (fun h6 => ?_) (fun h6 => ?_)
          · replace H := ite_then h6 H
            refine sg [0] rfl ?_
            refine rp rfl rfl (p_asg rfl rfl) ?_
            refine rz [(12, .i (6 : Int))] [] rfl rfl rfl ?_
            refine AW2_ret ?_
            have hz := some_elim H
            subst hz
            exact ⟨⟨res_tmp (.same _), trivial⟩, trivial⟩
          · replace H := ite_else h6 H
            refine as2 [(0, .i mode0), (1, .y head1), (2, .i n2), (3, .i i3), (4, .y entry4), (5, .p (AV.lists path5))] [] rfl rfl rfl ?_
            refine AW2_skip ?_
            refine sg [0, 1, 2, 3, 4, 5, 6, 7, 8] rfl ?_
            refine rp rfl rfl (p_move rfl rfl) ?_
            refine rp rfl rfl (p_move rfl rfl) ?_
            refine r_op rfl rfl (MakeD.opD (u_bs 40 rfl Tryd.underlying33 in_22 rfl one_22 (by decide) (by decide) rfl rfl rfl) rfl rfl rfl rfl) ?_
            refine RunW_st [(0, .i mode0), (1, .y head1), (2, .i n2), (3, .i i3), (4, .y entry4), (5, .p (AV.lists path5)), (38, .i mode0), (39, .y entry4), (40, .c (.own 40 ([entry4] : List (List UInt8)).length 1))] [(40, .pure (([entry4] : List (List UInt8)).map AV.bytes))] rfl ⟨TLes.same _, TLes.same _, TLes.same _, TLes.same _, TLes.same _, TLes.same _, TLes.same _, TLes.same _, TLes.own rfl, trivial⟩ ⟨rfl, trivial⟩ ?_
            refine RunW_gho (Gho_pubs [40] ⟨rfl, trivial⟩ rfl (ml AV.bytes ([entry4] : List (List UInt8))) (by decide)) ?_
            refine bindK H fun r'2 h7 H => ?_
            refine rp rfl rfl (p_callp rfl rfl rfl Tryd.func42 rfl rfl (g_ref_DigestOf_ac h7) ⟨rfl, rfl, rfl, trivial⟩) ?_
            refine rp rfl rfl (p_move rfl rfl) ?_
            refine rp rfl rfl (p_ext rfl rfl rfl rfl) ?_
            refine rp rfl rfl (p_ext rfl rfl rfl rfl) ?_
            refine rp rfl rfl (p_asg rfl rfl) ?_
            refine rp rfl rfl (p_asg rfl rfl) ?_
            refine rz [(0, .i mode0), (1, .y head1), (2, .i n2), (3, .i i3), (5, .p (AV.lists path5)), (13, .y r'2.1), (14, .i r'2.2)] [] rfl rfl rfl ?_
            refine sg [0, 1, 2, 3, 4] rfl ?_
            refine rp rfl rfl (p_move rfl rfl) ?_
            refine rp rfl rfl (p_move rfl rfl) ?_
            refine rp rfl rfl (p_bin rfl rfl rfl rfl) ?_
            refine rp rfl rfl (p_asg rfl rfl) ?_
            refine rp rfl rfl (p_asg rfl rfl) ?_
            refine rz [(0, .i mode0), (1, .y head1), (5, .p (AV.lists path5)), (13, .y r'2.1), (14, .i r'2.2), (15, .i i3), (16, .i (w64 (n2 - (1 : Int))))] [] rfl rfl rfl ?_
            refine AW2_seq ?_
            refine sg [0, 1, 2] rfl ?_
            refine rp rfl rfl (p_move rfl rfl) ?_
            refine rp rfl rfl (p_lenl rfl Tryd.underlying33 rfl rfl) ?_
            refine rp rfl rfl (p_move rfl rfl) ?_
            refine rz [(0, .i mode0), (1, .y head1), (13, .y r'2.1), (14, .i r'2.2), (15, .i i3), (16, .i (w64 (n2 - (1 : Int)))), (47, .p (AV.lists path5)), (48, .i (path5.length : Int)), (49, .i (0 : Int))] [] rfl rfl rfl ?_
            refine AW2_block ?_
            refine as2 [(0, .i mode0), (1, .y head1), (13, .y r'2.1), (14, .i r'2.2), (15, .i i3), (16, .i (w64 (n2 - (1 : Int)))), (47, .p (AV.lists path5)), (48, .i (path5.length : Int)), (49, .i (0 : Int))] [] rfl rfl rfl ?_
            refine bindK H fun o'13 h20 H => ?_
            refine AW2_loopO (fun a'10 : (List UInt8) × Int × Int × Int × Int => (⟨[(0, .i mode0), (1, .y head1), (13, .y a'10.1), (14, .i a'10.2.1), (15, .i a'10.2.2.1), (16, .i a'10.2.2.2.1), (47, .p (AV.lists path5)), (48, .i (path5.length : Int)), (49, .i a'10.2.2.2.2)], [], 112⟩ : TS)) (fun (o : Int ⊕ ((List UInt8) × Int × Int)) e s' => match o with | .inl y'11 => e = Go.Exit.ret ∧ ResAll Tryd.prog s' [ResultVar.tmp 12] [.i y'11] ∧ HFits s' [] | .inr (y'12) => e = Go.Exit.exit 1 ∧ s' = (⟨[(1, .y head1), (13, .y y'12.1), (14, .i y'12.2.1), (16, .i y'12.2.2)], [], 112⟩ : TS)) h20 rfl (fun a x hx => ?_) (fun e s' hs => ?_)
            · clear H
              obtain ⟨d13_0, e14_0, at15_0, last16_0, t49_0⟩ := a
              have H := hx
              clear hx
              unfold g_ref_IncludeFault_l0 at H
              refine sg [0] rfl ?_
              refine rp rfl rfl (p_bin rfl rfl rfl rfl) ?_
              refine rz [(0, .i mode0), (1, .y head1), (13, .y d13_0), (14, .i e14_0), (15, .i at15_0), (16, .i last16_0), (47, .p (AV.lists path5)), (48, .i (path5.length : Int)), (49, .i t49_0), (50, .b (decide (t49_0 < (path5.length : Int))))] [] rfl rfl rfl ?_
              refine AW2_seq ?_
              refine AW2_if (p := t49_0 < (path5.length : Int)) rfl (fun h8 => ?_) (fun h8 => ?_)
              · replace H := ite_then h8 H
                refine as2 [(0, .i mode0), (1, .y head1), (13, .y d13_0), (14, .i e14_0), (15, .i at15_0), (16, .i last16_0), (47, .p (AV.lists path5)), (48, .i (path5.length : Int)), (49, .i t49_0)] [] rfl rfl rfl ?_
                refine AW2_skip ?_
                refine AW2_seq ?_
                refine AW2_block ?_
                refine sg [0, 1, 2] rfl ?_
                refine chkK H fun h9 H => ?_
                refine rp rfl rfl (u_ixl rfl rfl Tryd.underlying33 in_22 rfl rfl (ixe h9) (ixn h9) (lne (ixn h9))) ?_
                refine rp rfl rfl (u_ld rfl rfl Tryd.underlying22 rfl rfl (Sub.map default (ixn h9))) ?_
                refine rp rfl rfl (p_asg rfl rfl) ?_
                refine rz [(0, .i mode0), (1, .y head1), (13, .y d13_0), (14, .i e14_0), (15, .i at15_0), (16, .i last16_0), (18, .y (lrd path5 t49_0.toNat)), (47, .p (AV.lists path5)), (48, .i (path5.length : Int)), (49, .i t49_0)] [] rfl rfl rfl ?_
                refine AW2_seq ?_
                refine AW2_seq ?_
                refine AW2_mid (⟨[(0, .i mode0), (1, .y head1), (13, .y d13_0), (15, .i at15_0), (16, .i last16_0), (18, .y (lrd path5 t49_0.toNat)), (47, .p (AV.lists path5)), (48, .i (path5.length : Int)), (49, .i t49_0), (58, .b (decide ((e14_0 ≠ (0 : Int)) ∨ (last16_0 = (0 : Int)))))], [], 112⟩ : TS) ?_ ?_
                · refine AW2_reg [0, 1, 2, 3, 4, 5] rfl ?_
                  refine rp rfl rfl (p_move rfl rfl) ?_
                  refine rp rfl rfl (p_ine rfl rfl rfl) ?_
                  refine rp rfl rfl (p_move rfl rfl) ?_
                  refine (Classical.em (e14_0 ≠ (0 : Int))).elim (fun h10 => ?_) (fun h10 => ?_)
                  · refine r_off rfl rfl rfl rfl (decide_eq_true (p := e14_0 ≠ (0 : Int)) h10) rfl rfl ?_
                    refine r_off rfl rfl rfl rfl (decide_eq_true (p := e14_0 ≠ (0 : Int)) h10) rfl rfl ?_
                    refine rp rfl rfl (p_pkt rfl rfl (decide_eq_true (p := e14_0 ≠ (0 : Int)) h10) (tb (decide_eq_true (p := (e14_0 ≠ (0 : Int)) ∨ (last16_0 = (0 : Int))) (Or.inl h10)).symm)) ?_
                    refine rs [(0, .i mode0), (1, .y head1), (13, .y d13_0), (15, .i at15_0), (16, .i last16_0), (18, .y (lrd path5 t49_0.toNat)), (47, .p (AV.lists path5)), (48, .i (path5.length : Int)), (49, .i t49_0), (58, .b (decide ((e14_0 ≠ (0 : Int)) ∨ (last16_0 = (0 : Int)))))] [] rfl rfl rfl ?_
                    exact RunW_nil rfl
                  · refine r_on rfl rfl rfl rfl (decide_eq_false (p := e14_0 ≠ (0 : Int)) h10) rfl (PureD.opD (p_move rfl rfl)) ?_
                    refine r_on rfl rfl rfl rfl (decide_eq_false (p := e14_0 ≠ (0 : Int)) h10) rfl (PureD.opD (p_ieq rfl rfl rfl)) ?_
                    refine rp rfl rfl (p_pkf rfl rfl (decide_eq_false (p := e14_0 ≠ (0 : Int)) h10) (tb ((or_l (p := e14_0 ≠ (0 : Int)) (q := last16_0 = (0 : Int)) h10)))) ?_
                    refine rs [(0, .i mode0), (1, .y head1), (13, .y d13_0), (15, .i at15_0), (16, .i last16_0), (18, .y (lrd path5 t49_0.toNat)), (47, .p (AV.lists path5)), (48, .i (path5.length : Int)), (49, .i t49_0), (58, .b (decide ((e14_0 ≠ (0 : Int)) ∨ (last16_0 = (0 : Int)))))] [] rfl rfl rfl ?_
                    exact RunW_nil rfl
                · refine AW2_if (p := (e14_0 ≠ (0 : Int)) ∨ (last16_0 = (0 : Int))) rfl (fun h11 => ?_) (fun h11 => ?_)
                  · replace H := ite_then h11 H
                    refine sg [0] rfl ?_
                    refine rp rfl rfl (p_asg rfl rfl) ?_
                    refine rz [(12, .i (10 : Int))] [] rfl rfl rfl ?_
                    refine AW2_ret ?_
                    have hz := some_elim H
                    subst hz
                    exact ⟨rfl, ⟨res_tmp (.same _), trivial⟩, trivial⟩
                  · replace H := ite_else h11 H
                    refine as2 [(0, .i mode0), (1, .y head1), (13, .y d13_0), (15, .i at15_0), (16, .i last16_0), (18, .y (lrd path5 t49_0.toNat)), (47, .p (AV.lists path5)), (48, .i (path5.length : Int)), (49, .i t49_0)] [] rfl rfl rfl ?_
                    refine AW2_skip ?_
                    refine AW2_seq ?_
                    refine bindK H fun j'3 h12 H => ?_
                    refine AW2_mid (⟨[(0, .i mode0), (1, .y head1), (13, .y j'3.1), (14, .i j'3.2.1), (15, .i j'3.2.2.1), (16, .i j'3.2.2.2), (47, .p (AV.lists path5)), (48, .i (path5.length : Int)), (49, .i t49_0)], [], 112⟩ : TS) ?_ ?_
                    · clear H
                      have H := h12
                      clear h12
                      refine AW2_seq ?_
                      refine AW2_mid (⟨[(0, .i mode0), (1, .y head1), (13, .y d13_0), (15, .i at15_0), (16, .i last16_0), (18, .y (lrd path5 t49_0.toNat)), (47, .p (AV.lists path5)), (48, .i (path5.length : Int)), (49, .i t49_0), (66, .b (decide ((at15_0.tmod (2 : Int) = (1 : Int)) ∨ (at15_0 = last16_0))))], [], 112⟩ : TS) ?_ ?_
                      · refine AW2_reg [0, 1, 2, 3, 4, 5, 6, 7] rfl ?_
                        refine rp rfl rfl (p_move rfl rfl) ?_
                        refine rp rfl rfl (p_irem rfl rfl rfl (by decide)) ?_
                        refine rp rfl rfl (p_ieq rfl rfl rfl) ?_
                        refine rp rfl rfl (p_move rfl rfl) ?_
                        refine (Classical.em (at15_0.tmod (2 : Int) = (1 : Int))).elim (fun h13 => ?_) (fun h13 => ?_)
                        · refine r_off rfl rfl rfl rfl (decide_eq_true (p := at15_0.tmod (2 : Int) = (1 : Int)) h13) rfl rfl ?_
                          refine r_off rfl rfl rfl rfl (decide_eq_true (p := at15_0.tmod (2 : Int) = (1 : Int)) h13) rfl rfl ?_
                          refine r_off rfl rfl rfl rfl (decide_eq_true (p := at15_0.tmod (2 : Int) = (1 : Int)) h13) rfl rfl ?_
                          refine rp rfl rfl (p_pkt rfl rfl (decide_eq_true (p := at15_0.tmod (2 : Int) = (1 : Int)) h13) (tb (decide_eq_true (p := (at15_0.tmod (2 : Int) = (1 : Int)) ∨ (at15_0 = last16_0)) (Or.inl h13)).symm)) ?_
                          refine rs [(0, .i mode0), (1, .y head1), (13, .y d13_0), (15, .i at15_0), (16, .i last16_0), (18, .y (lrd path5 t49_0.toNat)), (47, .p (AV.lists path5)), (48, .i (path5.length : Int)), (49, .i t49_0), (66, .b (decide ((at15_0.tmod (2 : Int) = (1 : Int)) ∨ (at15_0 = last16_0))))] [] rfl rfl rfl ?_
                          exact RunW_nil rfl
                        · refine r_on rfl rfl rfl rfl (decide_eq_false (p := at15_0.tmod (2 : Int) = (1 : Int)) h13) rfl (PureD.opD (p_move rfl rfl)) ?_
                          refine r_on rfl rfl rfl rfl (decide_eq_false (p := at15_0.tmod (2 : Int) = (1 : Int)) h13) rfl (PureD.opD (p_move rfl rfl)) ?_
                          refine r_on rfl rfl rfl rfl (decide_eq_false (p := at15_0.tmod (2 : Int) = (1 : Int)) h13) rfl (PureD.opD (p_ieq rfl rfl rfl)) ?_
                          refine rp rfl rfl (p_pkf rfl rfl (decide_eq_false (p := at15_0.tmod (2 : Int) = (1 : Int)) h13) (tb ((or_l (p := at15_0.tmod (2 : Int) = (1 : Int)) (q := at15_0 = last16_0) h13)))) ?_
                          refine rs [(0, .i mode0), (1, .y head1), (13, .y d13_0), (15, .i at15_0), (16, .i last16_0), (18, .y (lrd path5 t49_0.toNat)), (47, .p (AV.lists path5)), (48, .i (path5.length : Int)), (49, .i t49_0), (66, .b (decide ((at15_0.tmod (2 : Int) = (1 : Int)) ∨ (at15_0 = last16_0))))] [] rfl rfl rfl ?_
                          exact RunW_nil rfl
                      · refine AW2_if (p := (at15_0.tmod (2 : Int) = (1 : Int)) ∨ (at15_0 = last16_0)) rfl (fun h14 => ?_) (fun h14 => ?_)
                        · replace H := ite_then h14 H
                          refine sg [0, 1, 2, 3, 4, 5, 6, 7, 8, 9] rfl ?_
                          refine rp rfl rfl (p_move rfl rfl) ?_
                          refine rp rfl rfl (p_move rfl rfl) ?_
                          refine rp rfl rfl (p_move rfl rfl) ?_
                          refine r_op rfl rfl (MakeD.opD (u_bs 71 rfl Tryd.underlying33 in_22 rfl one_22 (by decide) (by decide) rfl rfl rfl) rfl rfl rfl rfl) ?_
                          refine RunW_st [(0, .i mode0), (1, .y head1), (13, .y d13_0), (15, .i at15_0), (16, .i last16_0), (18, .y (lrd path5 t49_0.toNat)), (47, .p (AV.lists path5)), (48, .i (path5.length : Int)), (49, .i t49_0), (66, .b (decide ((at15_0.tmod (2 : Int) = (1 : Int)) ∨ (at15_0 = last16_0)))), (68, .i mode0), (69, .y (lrd path5 t49_0.toNat)), (70, .y d13_0), (71, .c (.own 71 ([(lrd path5 t49_0.toNat), d13_0] : List (List UInt8)).length 1))] [(71, .pure (([(lrd path5 t49_0.toNat), d13_0] : List (List UInt8)).map AV.bytes))] rfl ⟨TLes.same _, TLes.same _, TLes.same _, TLes.same _, TLes.same _, TLes.same _, TLes.same _, TLes.same _, TLes.same _, TLes.same _, TLes.same _, TLes.same _, TLes.same _, TLes.own rfl, trivial⟩ ⟨rfl, trivial⟩ ?_
                          refine RunW_gho (Gho_pubs [71] ⟨rfl, trivial⟩ rfl (ml AV.bytes ([(lrd path5 t49_0.toNat), d13_0] : List (List UInt8))) (by decide)) ?_
                          refine bindK H fun r'4 h15 H => ?_
                          refine rp rfl rfl (p_callp rfl rfl rfl Tryd.func42 rfl rfl (g_ref_DigestOf_ac h15) ⟨rfl, rfl, rfl, trivial⟩) ?_
                          refine rp rfl rfl (p_move rfl rfl) ?_
                          refine rp rfl rfl (p_ext rfl rfl rfl rfl) ?_
                          refine rp rfl rfl (p_ext rfl rfl rfl rfl) ?_
                          refine rp rfl rfl (p_asg rfl rfl) ?_
                          refine rp rfl rfl (p_asg rfl rfl) ?_
                          refine rz [(0, .i mode0), (1, .y head1), (13, .y r'4.1), (14, .i r'4.2), (15, .i at15_0), (16, .i last16_0), (47, .p (AV.lists path5)), (48, .i (path5.length : Int)), (49, .i t49_0)] [] rfl rfl rfl ?_
                          refine AW2_block ?_
                          refine as2 [(0, .i mode0), (1, .y head1), (13, .y r'4.1), (14, .i r'4.2), (15, .i at15_0), (16, .i last16_0), (47, .p (AV.lists path5)), (48, .i (path5.length : Int)), (49, .i t49_0)] [] rfl rfl rfl ?_
                          refine bindK H fun y'8 h18 H => ?_
                          refine AW2_loopO (fun a'5 : Int × Int => (⟨[(0, .i mode0), (1, .y head1), (13, .y r'4.1), (14, .i r'4.2), (15, .i a'5.1), (16, .i a'5.2), (47, .p (AV.lists path5)), (48, .i (path5.length : Int)), (49, .i t49_0)], [], 112⟩ : TS)) (fun (y'6 : (Int × Int)) e s' => e = Go.Exit.exit 3 ∧ s' = (⟨[(0, .i mode0), (1, .y head1), (13, .y r'4.1), (14, .i r'4.2), (15, .i y'6.1), (16, .i y'6.2), (47, .p (AV.lists path5)), (48, .i (path5.length : Int)), (49, .i t49_0)], [], 112⟩ : TS)) h18 rfl (fun a x hx => ?_) (fun e s' hs => ?_)
                          · clear H
                            obtain ⟨at15_1, last16_1⟩ := a
                            have H := hx
                            clear hx
                            unfold g_ref_IncludeFault_l1 at H
                            refine AW2_seq ?_
                            refine AW2_seq ?_
                            refine AW2_mid (⟨[(0, .i mode0), (1, .y head1), (13, .y r'4.1), (14, .i r'4.2), (15, .i at15_1), (16, .i last16_1), (47, .p (AV.lists path5)), (48, .i (path5.length : Int)), (49, .i t49_0), (81, .b (decide ((at15_1.tmod (2 : Int) = (0 : Int)) ∧ (at15_1 > (0 : Int)))))], [], 112⟩ : TS) ?_ ?_
                            · refine AW2_reg [0, 1, 2, 3, 4, 5, 6] rfl ?_
                              refine rp rfl rfl (p_move rfl rfl) ?_
                              refine rp rfl rfl (p_irem rfl rfl rfl (by decide)) ?_
                              refine rp rfl rfl (p_ieq rfl rfl rfl) ?_
                              refine rp rfl rfl (p_move rfl rfl) ?_
                              refine (Classical.em (at15_1.tmod (2 : Int) = (0 : Int))).elim (fun h16 => ?_) (fun h16 => ?_)
                              · refine r_on rfl rfl rfl rfl (decide_eq_true (p := at15_1.tmod (2 : Int) = (0 : Int)) h16) rfl (PureD.opD (p_move rfl rfl)) ?_
                                refine r_on rfl rfl rfl rfl (decide_eq_true (p := at15_1.tmod (2 : Int) = (0 : Int)) h16) rfl (PureD.opD (p_bin rfl rfl rfl rfl)) ?_
                                refine rp rfl rfl (p_pkt rfl rfl (decide_eq_true (p := at15_1.tmod (2 : Int) = (0 : Int)) h16) (tb ((and_l (p := at15_1.tmod (2 : Int) = (0 : Int)) (q := at15_1 > (0 : Int)) h16)))) ?_
                                refine rs [(0, .i mode0), (1, .y head1), (13, .y r'4.1), (14, .i r'4.2), (15, .i at15_1), (16, .i last16_1), (47, .p (AV.lists path5)), (48, .i (path5.length : Int)), (49, .i t49_0), (81, .b (decide ((at15_1.tmod (2 : Int) = (0 : Int)) ∧ (at15_1 > (0 : Int)))))] [] rfl rfl rfl ?_
                                exact RunW_nil rfl
                              · refine r_off rfl rfl rfl rfl (decide_eq_false (p := at15_1.tmod (2 : Int) = (0 : Int)) h16) rfl rfl ?_
                                refine r_off rfl rfl rfl rfl (decide_eq_false (p := at15_1.tmod (2 : Int) = (0 : Int)) h16) rfl rfl ?_
                                refine rp rfl rfl (p_pkf rfl rfl (decide_eq_false (p := at15_1.tmod (2 : Int) = (0 : Int)) h16) (tb (decide_eq_false (p := (at15_1.tmod (2 : Int) = (0 : Int)) ∧ (at15_1 > (0 : Int))) (fun x => h16 x.1)).symm)) ?_
                                refine rs [(0, .i mode0), (1, .y head1), (13, .y r'4.1), (14, .i r'4.2), (15, .i at15_1), (16, .i last16_1), (47, .p (AV.lists path5)), (48, .i (path5.length : Int)), (49, .i t49_0), (81, .b (decide ((at15_1.tmod (2 : Int) = (0 : Int)) ∧ (at15_1 > (0 : Int)))))] [] rfl rfl rfl ?_
                                exact RunW_nil rfl
                            · refine AW2_if (p := (at15_1.tmod (2 : Int) = (0 : Int)) ∧ (at15_1 > (0 : Int))) rfl (fun h17 => ?_) (fun h17 => ?_)
                              · replace H := ite_then h17 H
                                refine as2 [(0, .i mode0), (1, .y head1), (13, .y r'4.1), (14, .i r'4.2), (15, .i at15_1), (16, .i last16_1), (47, .p (AV.lists path5)), (48, .i (path5.length : Int)), (49, .i t49_0)] [] rfl rfl rfl ?_
                                refine AW2_skip ?_
                                refine AW2_block ?_
                                refine AW2_reg [0, 1, 2, 3, 4, 5] rfl ?_
                                refine rp rfl rfl (p_move rfl rfl) ?_
                                refine rp rfl rfl (p_iquo rfl rfl rfl (by decide)) ?_
                                refine rp rfl rfl (p_move rfl rfl) ?_
                                refine rp rfl rfl (p_iquo rfl rfl rfl (by decide)) ?_
                                refine rp rfl rfl (p_asg rfl rfl) ?_
                                refine rp rfl rfl (p_asg rfl rfl) ?_
                                refine rz [(0, .i mode0), (1, .y head1), (13, .y r'4.1), (14, .i r'4.2), (15, .i (w64 (at15_1.tdiv (2 : Int)))), (16, .i (w64 (last16_1.tdiv (2 : Int)))), (47, .p (AV.lists path5)), (48, .i (path5.length : Int)), (49, .i t49_0)] [] rfl rfl rfl ?_
                                have hz := some_elim H
                                subst hz
                                exact ⟨rfl, rfl⟩
                              · replace H := ite_else h17 H
                                refine as2 [(0, .i mode0), (1, .y head1), (13, .y r'4.1), (14, .i r'4.2), (15, .i at15_1), (16, .i last16_1), (47, .p (AV.lists path5)), (48, .i (path5.length : Int)), (49, .i t49_0)] [] rfl rfl rfl ?_
                                refine AW2_exit ?_
                                refine thenQ2_exit ?_
                                have hz := some_elim H
                                subst hz
                                exact ⟨rfl, rfl⟩
                          · obtain ⟨rfl, rfl⟩ := hs
                            refine ⟨by simp, ?_⟩
                            refine blockQ2_exit ?_
                            have hz := some_elim H
                            subst hz
                            exact rfl
                        · replace H := ite_else h14 H
                          refine AW2_reg [0, 1, 2, 3, 4, 5, 6, 7, 8, 9] rfl ?_
                          refine rp rfl rfl (p_move rfl rfl) ?_
                          refine rp rfl rfl (p_move rfl rfl) ?_
                          refine rp rfl rfl (p_move rfl rfl) ?_
                          refine r_op rfl rfl (MakeD.opD (u_bs 90 rfl Tryd.underlying33 in_22 rfl one_22 (by decide) (by decide) rfl rfl rfl) rfl rfl rfl rfl) ?_
                          refine RunW_st [(0, .i mode0), (1, .y head1), (13, .y d13_0), (15, .i at15_0), (16, .i last16_0), (18, .y (lrd path5 t49_0.toNat)), (47, .p (AV.lists path5)), (48, .i (path5.length : Int)), (49, .i t49_0), (66, .b (decide ((at15_0.tmod (2 : Int) = (1 : Int)) ∨ (at15_0 = last16_0)))), (87, .i mode0), (88, .y d13_0), (89, .y (lrd path5 t49_0.toNat)), (90, .c (.own 90 ([d13_0, (lrd path5 t49_0.toNat)] : List (List UInt8)).length 1))] [(90, .pure (([d13_0, (lrd path5 t49_0.toNat)] : List (List UInt8)).map AV.bytes))] rfl ⟨TLes.same _, TLes.same _, TLes.same _, TLes.same _, TLes.same _, TLes.same _, TLes.same _, TLes.same _, TLes.same _, TLes.same _, TLes.same _, TLes.same _, TLes.same _, TLes.own rfl, trivial⟩ ⟨rfl, trivial⟩ ?_
                          refine RunW_gho (Gho_pubs [90] ⟨rfl, trivial⟩ rfl (ml AV.bytes ([d13_0, (lrd path5 t49_0.toNat)] : List (List UInt8))) (by decide)) ?_
                          refine bindK H fun r'9 h19 H => ?_
                          refine rp rfl rfl (p_callp rfl rfl rfl Tryd.func42 rfl rfl (g_ref_DigestOf_ac h19) ⟨rfl, rfl, rfl, trivial⟩) ?_
                          refine rp rfl rfl (p_move rfl rfl) ?_
                          refine rp rfl rfl (p_ext rfl rfl rfl rfl) ?_
                          refine rp rfl rfl (p_ext rfl rfl rfl rfl) ?_
                          refine rp rfl rfl (p_asg rfl rfl) ?_
                          refine rp rfl rfl (p_asg rfl rfl) ?_
                          refine rz [(0, .i mode0), (1, .y head1), (13, .y r'9.1), (14, .i r'9.2), (15, .i at15_0), (16, .i last16_0), (47, .p (AV.lists path5)), (48, .i (path5.length : Int)), (49, .i t49_0)] [] rfl rfl rfl ?_
                          have hz := some_elim H
                          subst hz
                          exact rfl
                    · refine AW2_reg [0, 1, 2, 3, 4, 5] rfl ?_
                      refine rp rfl rfl (p_move rfl rfl) ?_
                      refine rp rfl rfl (p_iquo rfl rfl rfl (by decide)) ?_
                      refine rp rfl rfl (p_move rfl rfl) ?_
                      refine rp rfl rfl (p_iquo rfl rfl rfl (by decide)) ?_
                      refine rp rfl rfl (p_asg rfl rfl) ?_
                      refine rp rfl rfl (p_asg rfl rfl) ?_
                      refine rz [(0, .i mode0), (1, .y head1), (13, .y j'3.1), (14, .i j'3.2.1), (15, .i (w64 (j'3.2.2.1.tdiv (2 : Int)))), (16, .i (w64 (j'3.2.2.2.tdiv (2 : Int)))), (47, .p (AV.lists path5)), (48, .i (path5.length : Int)), (49, .i t49_0)] [] rfl rfl rfl ?_
                      refine AW2_reg [0, 1] rfl ?_
                      refine rp rfl rfl (p_bin rfl rfl rfl rfl) ?_
                      refine rp rfl rfl (p_move rfl rfl) ?_
                      refine rz [(0, .i mode0), (1, .y head1), (13, .y j'3.1), (14, .i j'3.2.1), (15, .i (w64 (j'3.2.2.1.tdiv (2 : Int)))), (16, .i (w64 (j'3.2.2.2.tdiv (2 : Int)))), (47, .p (AV.lists path5)), (48, .i (path5.length : Int)), (49, .i (w64 (t49_0 + (1 : Int))))] [] rfl rfl rfl ?_
                      have hz := some_elim H
                      subst hz
                      exact ⟨rfl, rfl⟩
              · replace H := ite_else h8 H
                refine as2 [(1, .y head1), (13, .y d13_0), (14, .i e14_0), (16, .i last16_0)] [] rfl rfl rfl ?_
                refine AW2_exit ?_
                refine thenQ2_exit ?_
                have hz := some_elim H
                subst hz
                exact ⟨rfl, rfl⟩
            · rcases o'13 with y'14 | y'15
              · obtain ⟨rfl, hs⟩ := hs
                refine ⟨by simp, ?_⟩
                have hz := some_elim H
                subst hz
                exact ⟨hs.1, hs.2⟩
              · obtain ⟨rfl, rfl⟩ := hs
                refine ⟨by simp, ?_⟩
                refine blockQ2_exit ?_
                refine AW2_seq ?_
                refine AW2_seq ?_
                refine AW2_mid (⟨[(111, .b (decide (((y'15.2.1 ≠ (0 : Int)) ∨ (y'15.2.2 ≠ (0 : Int))) ∨ (y'15.1 ≠ head1))))], [], 112⟩ : TS) ?_ ?_
                · refine AW2_reg [0, 1, 2, 3, 4, 5, 6, 7, 8, 9, 10, 11, 12] rfl ?_
                  refine rp rfl rfl (p_move rfl rfl) ?_
                  refine rp rfl rfl (p_ine rfl rfl rfl) ?_
                  refine rp rfl rfl (p_move rfl rfl) ?_
                  refine (Classical.em (y'15.2.1 ≠ (0 : Int))).elim (fun h21 => ?_) (fun h21 => ?_)
                  · refine r_off rfl rfl rfl rfl (decide_eq_true (p := y'15.2.1 ≠ (0 : Int)) h21) rfl rfl ?_
                    refine r_off rfl rfl rfl rfl (decide_eq_true (p := y'15.2.1 ≠ (0 : Int)) h21) rfl rfl ?_
                    refine rp rfl rfl (p_pkt rfl rfl (decide_eq_true (p := y'15.2.1 ≠ (0 : Int)) h21) (tb (decide_eq_true (p := (y'15.2.1 ≠ (0 : Int)) ∨ (y'15.2.2 ≠ (0 : Int))) (Or.inl h21)).symm)) ?_
                    refine rp rfl rfl (p_move rfl rfl) ?_
                    refine r_off rfl rfl rfl rfl (decide_eq_true (p := (y'15.2.1 ≠ (0 : Int)) ∨ (y'15.2.2 ≠ (0 : Int))) (Or.inl h21)) rfl rfl ?_
                    refine r_off rfl rfl rfl rfl (decide_eq_true (p := (y'15.2.1 ≠ (0 : Int)) ∨ (y'15.2.2 ≠ (0 : Int))) (Or.inl h21)) rfl rfl ?_
                    refine r_off rfl rfl rfl rfl (decide_eq_true (p := (y'15.2.1 ≠ (0 : Int)) ∨ (y'15.2.2 ≠ (0 : Int))) (Or.inl h21)) rfl rfl ?_
                    refine r_off rfl rfl rfl rfl (decide_eq_true (p := (y'15.2.1 ≠ (0 : Int)) ∨ (y'15.2.2 ≠ (0 : Int))) (Or.inl h21)) rfl rfl ?_
                    refine r_off rfl rfl rfl rfl (decide_eq_true (p := (y'15.2.1 ≠ (0 : Int)) ∨ (y'15.2.2 ≠ (0 : Int))) (Or.inl h21)) rfl rfl ?_
                    refine rp rfl rfl (p_pkt rfl rfl (decide_eq_true (p := (y'15.2.1 ≠ (0 : Int)) ∨ (y'15.2.2 ≠ (0 : Int))) (Or.inl h21)) (tb (decide_eq_true (p := ((y'15.2.1 ≠ (0 : Int)) ∨ (y'15.2.2 ≠ (0 : Int))) ∨ (y'15.1 ≠ head1)) (Or.inl (Or.inl h21))).symm)) ?_
                    refine rs [(111, .b (decide (((y'15.2.1 ≠ (0 : Int)) ∨ (y'15.2.2 ≠ (0 : Int))) ∨ (y'15.1 ≠ head1))))] [] rfl rfl rfl ?_
                    exact RunW_nil rfl
                  · refine r_on rfl rfl rfl rfl (decide_eq_false (p := y'15.2.1 ≠ (0 : Int)) h21) rfl (PureD.opD (p_move rfl rfl)) ?_
                    refine r_on rfl rfl rfl rfl (decide_eq_false (p := y'15.2.1 ≠ (0 : Int)) h21) rfl (PureD.opD (p_ine rfl rfl rfl)) ?_
                    refine rp rfl rfl (p_pkf rfl rfl (decide_eq_false (p := y'15.2.1 ≠ (0 : Int)) h21) (tb ((or_l (p := y'15.2.1 ≠ (0 : Int)) (q := y'15.2.2 ≠ (0 : Int)) h21)))) ?_
                    refine rp rfl rfl (p_move rfl rfl) ?_
                    refine (Classical.em (y'15.2.2 ≠ (0 : Int))).elim (fun h22 => ?_) (fun h22 => ?_)
                    · refine r_off rfl rfl rfl rfl (decide_eq_true (p := (y'15.2.1 ≠ (0 : Int)) ∨ (y'15.2.2 ≠ (0 : Int))) (Or.inr h22)) rfl rfl ?_
                      refine r_off rfl rfl rfl rfl (decide_eq_true (p := (y'15.2.1 ≠ (0 : Int)) ∨ (y'15.2.2 ≠ (0 : Int))) (Or.inr h22)) rfl rfl ?_
                      refine r_off rfl rfl rfl rfl (decide_eq_true (p := (y'15.2.1 ≠ (0 : Int)) ∨ (y'15.2.2 ≠ (0 : Int))) (Or.inr h22)) rfl rfl ?_
                      refine r_off rfl rfl rfl rfl (decide_eq_true (p := (y'15.2.1 ≠ (0 : Int)) ∨ (y'15.2.2 ≠ (0 : Int))) (Or.inr h22)) rfl rfl ?_
                      refine r_off rfl rfl rfl rfl (decide_eq_true (p := (y'15.2.1 ≠ (0 : Int)) ∨ (y'15.2.2 ≠ (0 : Int))) (Or.inr h22)) rfl rfl ?_
                      refine rp rfl rfl (p_pkt rfl rfl (decide_eq_true (p := (y'15.2.1 ≠ (0 : Int)) ∨ (y'15.2.2 ≠ (0 : Int))) (Or.inr h22)) (tb (decide_eq_true (p := ((y'15.2.1 ≠ (0 : Int)) ∨ (y'15.2.2 ≠ (0 : Int))) ∨ (y'15.1 ≠ head1)) (Or.inl (Or.inr h22))).symm)) ?_
                      refine rs [(111, .b (decide (((y'15.2.1 ≠ (0 : Int)) ∨ (y'15.2.2 ≠ (0 : Int))) ∨ (y'15.1 ≠ head1))))] [] rfl rfl rfl ?_
                      exact RunW_nil rfl
                    · refine r_on rfl rfl rfl rfl (decide_eq_false (p := (y'15.2.1 ≠ (0 : Int)) ∨ (y'15.2.2 ≠ (0 : Int))) (not_or.2 ⟨h21, h22⟩)) rfl (PureD.opD (p_move rfl rfl)) ?_
                      refine r_on rfl rfl rfl rfl (decide_eq_false (p := (y'15.2.1 ≠ (0 : Int)) ∨ (y'15.2.2 ≠ (0 : Int))) (not_or.2 ⟨h21, h22⟩)) rfl (PureD.opD (p_cb rfl rfl Tryd.underlying22 Tryd.underlying5 Tryd.underlying9 rfl)) ?_
                      refine r_on rfl rfl rfl rfl (decide_eq_false (p := (y'15.2.1 ≠ (0 : Int)) ∨ (y'15.2.2 ≠ (0 : Int))) (not_or.2 ⟨h21, h22⟩)) rfl (PureD.opD (p_move rfl rfl)) ?_
                      refine r_on rfl rfl rfl rfl (decide_eq_false (p := (y'15.2.1 ≠ (0 : Int)) ∨ (y'15.2.2 ≠ (0 : Int))) (not_or.2 ⟨h21, h22⟩)) rfl (PureD.opD (p_cb rfl rfl Tryd.underlying22 Tryd.underlying5 Tryd.underlying9 rfl)) ?_
                      refine r_on rfl rfl rfl rfl (decide_eq_false (p := (y'15.2.1 ≠ (0 : Int)) ∨ (y'15.2.2 ≠ (0 : Int))) (not_or.2 ⟨h21, h22⟩)) rfl (PureD.opD (p_sne rfl rfl rfl)) ?_
                      refine rp rfl rfl (p_pkf rfl rfl (decide_eq_false (p := (y'15.2.1 ≠ (0 : Int)) ∨ (y'15.2.2 ≠ (0 : Int))) (not_or.2 ⟨h21, h22⟩)) (tb ((or_l (p := (y'15.2.1 ≠ (0 : Int)) ∨ (y'15.2.2 ≠ (0 : Int))) (q := y'15.1 ≠ head1) (not_or.2 ⟨h21, h22⟩))))) ?_
                      refine rs [(111, .b (decide (((y'15.2.1 ≠ (0 : Int)) ∨ (y'15.2.2 ≠ (0 : Int))) ∨ (y'15.1 ≠ head1))))] [] rfl rfl rfl ?_
                      exact RunW_nil rfl
                · refine AW2_if (p := ((y'15.2.1 ≠ (0 : Int)) ∨ (y'15.2.2 ≠ (0 : Int))) ∨ (y'15.1 ≠ head1)) rfl (fun h23 => ?_) (fun h23 => ?_)
                  · replace H := ite_then h23 H
                    refine sg [0] rfl ?_
                    refine rp rfl rfl (p_asg rfl rfl) ?_
                    refine rz [(12, .i (10 : Int))] [] rfl rfl rfl ?_
                    refine AW2_ret ?_
                    have hz := some_elim H
                    subst hz
                    exact ⟨⟨res_tmp (.same _), trivial⟩, trivial⟩
                  · replace H := ite_else h23 H
                    refine as2 [] [] rfl rfl rfl ?_
                    refine AW2_skip ?_
                    refine sg [0] rfl ?_
                    refine rp rfl rfl (p_asg rfl rfl) ?_
                    refine rz [(12, .i (0 : Int))] [] rfl rfl rfl ?_
                    refine AW2_ret ?_
                    have hz := some_elim H
                    subst hz
                    exact ⟨⟨res_tmp (.same _), trivial⟩, trivial⟩

/-! chirographlaw.RollIncludeChecks -/
noncomputable def g_law_RollIncludeChecks (mode0 : Int) (top1 : List UInt8) (n2 : Int) (i3 : Int) (entry4 : List UInt8) (path5 : List (List UInt8)) : Option (Bool) :=
  (g_roll_CheckInclude mode0 top1 n2 i3 entry4 path5).bind fun r'1 => (g_ref_IncludeFault mode0 top1 n2 i3 entry4 path5).bind fun r'2 => some (decide (r'1 = r'2))
set_option maxHeartbeats 4000000 in
set_option maxRecDepth 100000 in
theorem g_law_RollIncludeChecks_ac {mode0 : Int} {top1 : List UInt8} {n2 : Int} {i3 : Int} {entry4 : List UInt8} {path5 : List (List UInt8)} {r : Bool} (H : g_law_RollIncludeChecks mode0 top1 n2 i3 entry4 path5 = some r) : ACp Tryd.prog 11 [(AV.int mode0), (AV.bytes top1), (AV.int n2), (AV.int i3), (AV.bytes entry4), (AV.lists path5)] (AV.bool r) := by
  refine ACp_of (AC2_of_body (vs := [.b r]) Tryd.func11 rfl rfl (Nat.le_of_ble_eq_true rfl) rfl ?_) (fun _ => .same _)
  unfold g_law_RollIncludeChecks at H
  refine as2 [(0, .i mode0), (1, .y top1), (2, .i n2), (3, .i i3), (4, .y entry4), (5, .p (AV.lists path5))] [] rfl rfl rfl ?_
  refine sg [0] rfl ?_
  refine rp rfl rfl (p_asg rfl rfl) ?_
  refine rz [(0, .i mode0), (1, .y top1), (2, .i n2), (3, .i i3), (4, .y entry4), (5, .p (AV.lists path5))] [] rfl rfl rfl ?_
  refine sg [0, 1, 2, 3, 4, 5, 6, 7] rfl ?_
  refine rp rfl rfl (p_move rfl rfl) ?_
  refine rp rfl rfl (p_move rfl rfl) ?_
  refine rp rfl rfl (p_move rfl rfl) ?_
  refine rp rfl rfl (p_move rfl rfl) ?_
  refine rp rfl rfl (p_move rfl rfl) ?_
  refine rp rfl rfl (p_move rfl rfl) ?_
  refine bindK H fun r'1 h1 H => ?_
  refine rp rfl rfl (p_callp rfl rfl rfl Tryd.func33 rfl rfl (g_roll_CheckInclude_ac h1) ⟨rfl, rfl, rfl, rfl, rfl, rfl, trivial⟩) ?_
  refine rp rfl rfl (p_asg rfl rfl) ?_
  refine rz [(0, .i mode0), (1, .y top1), (2, .i n2), (3, .i i3), (4, .y entry4), (5, .p (AV.lists path5)), (13, .i r'1)] [] rfl rfl rfl ?_
  refine sg [0, 1, 2, 3, 4, 5, 6, 7] rfl ?_
  refine rp rfl rfl (p_move rfl rfl) ?_
  refine rp rfl rfl (p_move rfl rfl) ?_
  refine rp rfl rfl (p_move rfl rfl) ?_
  refine rp rfl rfl (p_move rfl rfl) ?_
  refine rp rfl rfl (p_move rfl rfl) ?_
  refine rp rfl rfl (p_move rfl rfl) ?_
  refine bindK H fun r'2 h2 H => ?_
  refine rp rfl rfl (p_callp rfl rfl rfl Tryd.func34 rfl rfl (g_ref_IncludeFault_ac h2) ⟨rfl, rfl, rfl, rfl, rfl, rfl, trivial⟩) ?_
  refine rp rfl rfl (p_asg rfl rfl) ?_
  refine rz [(13, .i r'1), (14, .i r'2)] [] rfl rfl rfl ?_
  refine sg [0, 1, 2, 3] rfl ?_
  refine rp rfl rfl (p_move rfl rfl) ?_
  refine rp rfl rfl (p_move rfl rfl) ?_
  refine rp rfl rfl (p_ieq rfl rfl rfl) ?_
  refine rp rfl rfl (p_asg rfl rfl) ?_
  refine rz [(12, .b (decide (r'1 = r'2)))] [] rfl rfl rfl ?_
  refine AW2_ret ?_
  have hz := some_elim H
  subst hz
  exact ⟨⟨res_tmp (.same _), trivial⟩, trivial⟩

/-! roll.extension).roots -/
noncomputable def g_roll_extension_roots_b (R' : Groll_extension → Int → Int → Bool → (List (List UInt8)) → Option ((List UInt8) × (List UInt8) × Bool)) (x0 : Groll_extension) (m1 : Int) (n2 : Int) (known3 : Bool) (path4 : List (List UInt8)) : Option ((List UInt8) × (List UInt8) × Bool) :=
  (if m1 = n2 then (if known3 = true then some (x0.old_, x0.old_, (decide ((path4.length : Int) = (0 : Int)))) else (if (path4.length : Int) ≠ (1 : Int) then some ([], [], false) else if 0 < path4.length then if 0 < path4.length then some ((lrd path4 0), (lrd path4 0), true) else none else none)) else (if (path4.length : Int) = (0 : Int) then some ([], [], false) else (g_roll_half n2).bind fun r'1 => (if m1 ≤ r'1 then if 0 ≤ w64 ((path4.length : Int) - (1 : Int)) ∧ w64 ((path4.length : Int) - (1 : Int)) ≤ (path4.length : Int) then (R' x0 m1 r'1 known3 (cut path4 (0 : Int) (w64 ((path4.length : Int) - (1 : Int))))).bind fun r'2 => (if (!r'2.2.2) = true then some ([], [], false) else if 0 ≤ w64 ((path4.length : Int) - (1 : Int)) ∧ w64 ((path4.length : Int) - (1 : Int)) < (path4.length : Int) then (g_roll_pair x0.mode_ r'2.2.1 (lrd path4 ((w64 ((path4.length : Int) - (1 : Int))).toNat))).bind fun r'3 => some (r'2.1, r'3.1, (decide (r'3.2 = (0 : Int)))) else none) else none else if 0 ≤ w64 ((path4.length : Int) - (1 : Int)) ∧ w64 ((path4.length : Int) - (1 : Int)) ≤ (path4.length : Int) then (R' x0 (w64 (m1 - r'1)) (w64 (n2 - r'1)) false (cut path4 (0 : Int) (w64 ((path4.length : Int) - (1 : Int))))).bind fun r'4 => (if (!r'4.2.2) = true then some ([], [], false) else if 0 ≤ w64 ((path4.length : Int) - (1 : Int)) ∧ w64 ((path4.length : Int) - (1 : Int)) < (path4.length : Int) then (g_roll_pair x0.mode_ (lrd path4 ((w64 ((path4.length : Int) - (1 : Int))).toNat)) r'4.1).bind fun r'5 => if 0 ≤ w64 ((path4.length : Int) - (1 : Int)) ∧ w64 ((path4.length : Int) - (1 : Int)) < (path4.length : Int) then (g_roll_pair x0.mode_ (lrd path4 ((w64 ((path4.length : Int) - (1 : Int))).toNat)) r'4.2.1).bind fun r'6 => some (r'5.1, r'6.1, (decide ((r'5.2 = (0 : Int)) ∧ (r'6.2 = (0 : Int))))) else none else none) else none)))
noncomputable def g_roll_extension_roots : Nat → Groll_extension → Int → Int → Bool → (List (List UInt8)) → Option ((List UInt8) × (List UInt8) × Bool)
  | 0, _, _, _, _, _ => none
  | fu + 1, x0, m1, n2, known3, path4 => g_roll_extension_roots_b (g_roll_extension_roots fu) x0 m1 n2 known3 path4
set_option maxHeartbeats 4000000 in
set_option maxRecDepth 100000 in
theorem g_roll_extension_roots_ac0 {R' : Groll_extension → Int → Int → Bool → (List (List UInt8)) → Option ((List UInt8) × (List UInt8) × Bool)} (hR : ∀ {x0 : Groll_extension} {m1 : Int} {n2 : Int} {known3 : Bool} {path4 : List (List UInt8)} {r : (List UInt8) × (List UInt8) × Bool}, R' x0 m1 n2 known3 path4 = some r → ACp Tryd.prog 70 [(.agg (Groll_extension.cs x0)), (AV.int m1), (AV.int n2), (AV.bool known3), (AV.lists path4)] (.tup [(AV.bytes r.1), (AV.bytes r.2.1), (AV.bool r.2.2)])) {x0 : Groll_extension} {m1 : Int} {n2 : Int} {known3 : Bool} {path4 : List (List UInt8)} {r : (List UInt8) × (List UInt8) × Bool} (H : g_roll_extension_roots_b R' x0 m1 n2 known3 path4 = some r) : ACp Tryd.prog 70 [(.agg (Groll_extension.cs x0)), (AV.int m1), (AV.int n2), (AV.bool known3), (AV.lists path4)] (.tup [(AV.bytes r.1), (AV.bytes r.2.1), (AV.bool r.2.2)]) := by
  refine ACp_of (AC2_of_body (vs := [.y r.1, .y r.2.1, .b r.2.2]) Tryd.func70 rfl rfl (Nat.le_of_ble_eq_true rfl) rfl ?_) (fun _ => .same _)
  unfold g_roll_extension_roots_b at H
  refine as2 [(0, .g (Groll_extension.cs x0)), (1, .i m1), (2, .i n2), (3, .b known3), (4, .p (AV.lists path4))] [] rfl rfl rfl ?_
  refine sg [0, 1, 2, 3] rfl ?_
  refine r_op rfl rfl (MakeD.opD (n_box 5 rfl rfl) rfl rfl rfl rfl) ?_
  refine rp rfl rfl (p_asgn rfl) ?_
  refine rp rfl rfl (p_asgn rfl) ?_
  refine rp rfl rfl (p_asg rfl rfl) ?_
  refine rz [(1, .i m1), (2, .i n2), (3, .b known3), (4, .p (AV.lists path4)), (5, .q 5 (0))] [(5, .pure (Groll_extension.cs x0))] rfl rfl rfl ?_
  refine AW2_seq ?_
  refine sg [0, 1, 2] rfl ?_
  refine rp rfl rfl (p_move rfl rfl) ?_
  refine rp rfl rfl (p_move rfl rfl) ?_
  refine rp rfl rfl (p_ieq rfl rfl rfl) ?_
  refine rz [(1, .i m1), (2, .i n2), (3, .b known3), (4, .p (AV.lists path4)), (5, .q 5 (0)), (23, .b (decide (m1 = n2)))] [(5, .pure (Groll_extension.cs x0))] rfl rfl rfl ?_
  refine AW2_if (p := m1 = n2) rfl (fun h1 => ?_) (fun h1 => ?_)
  · replace H := ite_then h1 H
    refine AW2_seq ?_
    refine sg [0] rfl ?_
    refine rp rfl rfl (p_move rfl rfl) ?_
    refine rz [(4, .p (AV.lists path4)), (5, .q 5 (0)), (24, .b known3)] [(5, .pure (Groll_extension.cs x0))] rfl rfl rfl ?_
    refine AW2_cond rfl (fun h2 => ?_) (fun h2 => ?_)
    · replace H := ite_then h2 H
      refine AW2_seq ?_
      refine AW2_ghoQ ?_
      refine AW2_draw 9 [9] (fun k => ([.q 5 (0 + 1), .y x0.old_, .q 5 (0 + 1), .y x0.old_, .p (AV.lists path4), .i (path4.length : Int), .b (decide ((path4.length : Int) = (0 : Int))), .y x0.old_, .y x0.old_] : List TV).getD k TV.any) (fun k => ([[(5, none)], [(25, some 0)], [(5, none)], [(27, some 2)], [(4, none)], [(29, some 4)], [(30, some 5)], [(26, some 1)], [(28, some 3)]] : List (List (Nat × Option Nat))).getD k []) [(10, some 7), (11, some 8), (31, some 6)] [] (fun k => ([[], [0], [], [2], [], [4], [4, 5], [0, 1], [0, 1, 2, 3, 7], [0, 1, 2, 3, 4, 5, 6, 7, 8]] : List (List Nat)).getD k []) mixed (by kernel_rfl) rfl rfl (a_op (g_x rfl (x_p rfl (u_fa rfl rfl Tryd.underlying80 rfl in_22 (Nat.succ_ne_zero _) rfl rfl (ne_of_lt (n := 0) (Nat.lt_of_lt_of_eq (by decide) (Eq.symm (Groll_extension.len x0))))) rfl)) (a_op (g_x rfl (x_p rfl (u_ld rfl rfl Tryd.underlying22 rfl rfl ((Sub.refl _).trans (Groll_extension.sub1 x0))) rfl)) (a_op (g_x rfl (x_p rfl (u_fa rfl rfl Tryd.underlying80 rfl in_22 (Nat.succ_ne_zero _) rfl rfl (ne_of_lt (n := 0) (Nat.lt_of_lt_of_eq (by decide) (Eq.symm (Groll_extension.len x0))))) rfl)) (a_op (g_x rfl (x_p rfl (u_ld rfl rfl Tryd.underlying22 rfl rfl ((Sub.refl _).trans (Groll_extension.sub1 x0))) rfl)) (a_op (g_x rfl (x_p rfl (p_move rfl rfl) rfl)) (a_op (g_x rfl (x_p rfl (p_lenl rfl Tryd.underlying33 rfl rfl) rfl)) (a_op (g_x rfl (x_p rfl (p_ieq rfl rfl rfl) rfl)) (a_op (g_x rfl (x_p rfl (p_asg rfl rfl) rfl)) (a_op (g_x rfl (x_p rfl (p_asg rfl rfl) rfl)) (a_nil)))))))))) ?_
      refine t_op rfl rfl (PureD.opD (p_asg rfl rfl)) ?_
      refine t_gho (Gho_st (L := [(10, .y x0.old_), (11, .y x0.old_), (12, .b (decide ((path4.length : Int) = (0 : Int))))]) (H := []) rfl ⟨TLes.same _, TLes.same _, TLes.same _, trivial⟩ trivial) ?_
      refine AW2_ret ?_
      have hz := some_elim H
      subst hz
      exact ⟨⟨res_tmp (.same _), res_tmp (.same _), res_tmp (.same _), trivial⟩, trivial⟩
    · replace H := ite_else (ne_true h2) H
      refine as2 [(4, .p (AV.lists path4))] [] rfl rfl rfl ?_
      refine AW2_skip ?_
      refine AW2_seq ?_
      refine sg [0, 1, 2] rfl ?_
      refine rp rfl rfl (p_move rfl rfl) ?_
      refine rp rfl rfl (p_lenl rfl Tryd.underlying33 rfl rfl) ?_
      refine rp rfl rfl (p_ine rfl rfl rfl) ?_
      refine rz [(4, .p (AV.lists path4)), (34, .b (decide ((path4.length : Int) ≠ (1 : Int))))] [] rfl rfl rfl ?_
      refine AW2_if (p := (path4.length : Int) ≠ (1 : Int)) rfl (fun h3 => ?_) (fun h3 => ?_)
      · replace H := ite_then h3 H
        refine sg [0, 1, 2] rfl ?_
        refine rp rfl rfl (p_asgn rfl) ?_
        refine rp rfl rfl (p_asgn rfl) ?_
        refine rp rfl rfl (p_asg rfl rfl) ?_
        refine rz [(10, .p .nil), (11, .p .nil), (12, .b false)] [] rfl rfl rfl ?_
        refine AW2_ret ?_
        have hz := some_elim H
        subst hz
        exact ⟨⟨res_tmp TLes.nil0, res_tmp TLes.nil0, res_tmp (.same _), trivial⟩, trivial⟩
      · replace H := ite_else h3 H
        refine as2 [(4, .p (AV.lists path4))] [] rfl rfl rfl ?_
        refine AW2_skip ?_
        refine AW2_seq ?_
        refine chkK H fun h4 H => ?_
        refine chkK H fun h5 H => ?_
        refine AW2_ghoQ ?_
        refine AW2_draw 7 [7, 8] (fun k => ([.p (AV.lists path4), .p (.rptr (path4.map AV.bytes) (0 * 1)), .y (lrd path4 0), .p (AV.lists path4), .p (.rptr (path4.map AV.bytes) (0 * 1)), .y (lrd path4 0), .y (lrd path4 0)] : List TV).getD k TV.any) (fun k => ([[(4, none)], [(35, some 0)], [(36, some 1)], [(4, none)], [(38, some 3)], [(39, some 4)], [(37, some 2)]] : List (List (Nat × Option Nat))).getD k []) [(10, some 6), (40, some 5)] [] (fun k => ([[], [0], [0, 1], [], [3], [3, 4], [0, 1, 2], [0, 1, 2, 3, 4, 5, 6], [0, 1, 2, 3, 4, 5, 6, 7]] : List (List Nat)).getD k []) mixed (by kernel_rfl) rfl rfl (a_op (g_x rfl (x_p rfl (p_move rfl rfl) rfl)) (a_op (g_x rfl (x_p rfl (u_ixl rfl rfl Tryd.underlying33 in_22 rfl rfl rfl h4 (lne h4)) rfl)) (a_op (g_x rfl (x_p rfl (u_ld rfl rfl Tryd.underlying22 rfl rfl (Sub.map default h4)) rfl)) (a_op (g_x rfl (x_p rfl (p_move rfl rfl) rfl)) (a_op (g_x rfl (x_p rfl (u_ixl rfl rfl Tryd.underlying33 in_22 rfl rfl rfl h5 (lne h5)) rfl)) (a_op (g_x rfl (x_p rfl (u_ld rfl rfl Tryd.underlying22 rfl rfl (Sub.map default h5)) rfl)) (a_op (g_x rfl (x_p rfl (p_asg rfl rfl) rfl)) (a_nil)))))))) ?_
        refine t_op rfl rfl (PureD.opD (p_asg rfl rfl)) ?_
        refine t_op rfl rfl (PureD.opD (p_asg rfl rfl)) ?_
        refine t_gho (Gho_st (L := [(10, .y (lrd path4 0)), (11, .y (lrd path4 0)), (12, .b true)]) (H := []) rfl ⟨TLes.same _, TLes.same _, TLes.same _, trivial⟩ trivial) ?_
        refine AW2_ret ?_
        have hz := some_elim H
        subst hz
        exact ⟨⟨res_tmp (.same _), res_tmp (.same _), res_tmp (.same _), trivial⟩, trivial⟩
  · replace H := ite_else h1 H
    refine as2 [(1, .i m1), (2, .i n2), (3, .b known3), (4, .p (AV.lists path4)), (5, .q 5 (0))] [(5, .pure (Groll_extension.cs x0))] rfl rfl rfl ?_
    refine AW2_skip ?_
    refine AW2_seq ?_
    refine sg [0, 1, 2] rfl ?_
    refine rp rfl rfl (p_move rfl rfl) ?_
    refine rp rfl rfl (p_lenl rfl Tryd.underlying33 rfl rfl) ?_
    refine rp rfl rfl (p_ieq rfl rfl rfl) ?_
    refine rz [(1, .i m1), (2, .i n2), (3, .b known3), (4, .p (AV.lists path4)), (5, .q 5 (0)), (43, .b (decide ((path4.length : Int) = (0 : Int))))] [(5, .pure (Groll_extension.cs x0))] rfl rfl rfl ?_
    refine AW2_if (p := (path4.length : Int) = (0 : Int)) rfl (fun h6 => ?_) (fun h6 => ?_)
    · replace H := ite_then h6 H
      refine sg [0, 1, 2] rfl ?_
      refine rp rfl rfl (p_asgn rfl) ?_
      refine rp rfl rfl (p_asgn rfl) ?_
      refine rp rfl rfl (p_asg rfl rfl) ?_
      refine rz [(10, .p .nil), (11, .p .nil), (12, .b false)] [] rfl rfl rfl ?_
      refine AW2_ret ?_
      have hz := some_elim H
      subst hz
      exact ⟨⟨res_tmp TLes.nil0, res_tmp TLes.nil0, res_tmp (.same _), trivial⟩, trivial⟩
    · replace H := ite_else h6 H
      refine as2 [(1, .i m1), (2, .i n2), (3, .b known3), (4, .p (AV.lists path4)), (5, .q 5 (0))] [(5, .pure (Groll_extension.cs x0))] rfl rfl rfl ?_
      refine AW2_skip ?_
      refine sg [0, 1, 2, 3, 4, 5, 6] rfl ?_
      refine rp rfl rfl (p_move rfl rfl) ?_
      refine bindK H fun r'1 h7 H => ?_
      refine rp rfl rfl (p_callp rfl rfl rfl Tryd.func78 rfl rfl (g_roll_half_ac h7) ⟨rfl, trivial⟩) ?_
      refine rp rfl rfl (p_move rfl rfl) ?_
      refine rp rfl rfl (p_lenl rfl Tryd.underlying33 rfl rfl) ?_
      refine rp rfl rfl (p_bin rfl rfl rfl rfl) ?_
      refine rp rfl rfl (p_asg rfl rfl) ?_
      refine rp rfl rfl (p_asg rfl rfl) ?_
      refine rz [(1, .i m1), (2, .i n2), (3, .b known3), (4, .p (AV.lists path4)), (5, .q 5 (0)), (13, .i r'1), (14, .i (w64 ((path4.length : Int) - (1 : Int))))] [(5, .pure (Groll_extension.cs x0))] rfl rfl rfl ?_
      refine AW2_seq ?_
      refine sg [0, 1, 2] rfl ?_
      refine rp rfl rfl (p_move rfl rfl) ?_
      refine rp rfl rfl (p_move rfl rfl) ?_
      refine rp rfl rfl (p_bin rfl rfl rfl rfl) ?_
      refine rz [(1, .i m1), (2, .i n2), (3, .b known3), (4, .p (AV.lists path4)), (5, .q 5 (0)), (13, .i r'1), (14, .i (w64 ((path4.length : Int) - (1 : Int)))), (51, .b (decide (m1 ≤ r'1)))] [(5, .pure (Groll_extension.cs x0))] rfl rfl rfl ?_
      refine AW2_if (p := m1 ≤ r'1) rfl (fun h8 => ?_) (fun h8 => ?_)
      · replace H := ite_then h8 H
        refine AW2_seq ?_
        refine chkK H fun h9 H => ?_
        refine bindK H fun r'2 h10 H => ?_
        refine AW2_ghoQ ?_
        refine AW2_draw 14 [14] (fun k => ([.g (Groll_extension.cs x0), .i m1, .i r'1, .b known3, .p (AV.lists path4), .i (w64 ((path4.length : Int) - (1 : Int))), .p (AV.lists (cut path4 (0 : Int) (w64 ((path4.length : Int) - (1 : Int))))), .p (.tup [(AV.bytes r'2.1), (AV.bytes r'2.2.1), (AV.bool r'2.2.2)]), .p (.tup [(AV.bytes r'2.1), (AV.bytes r'2.2.1), (AV.bool r'2.2.2)]), .y r'2.1, .y r'2.2.1, .b r'2.2.2, .y r'2.1, .y r'2.2.1] : List TV).getD k TV.any) (fun k => ([[(5, none)], [(1, none)], [(13, none)], [(3, none)], [(4, none)], [(14, none)], [(57, some 4), (58, some 5)], [(53, some 0), (54, some 1), (55, some 2), (56, some 3), (59, some 6)], [(60, some 7)], [(52, some 8)], [(52, some 8)], [(52, some 8)], [(61, some 9)], [(62, some 10)]] : List (List (Nat × Option Nat))).getD k []) [(4, none), (5, none), (10, some 12), (11, some 13), (14, none), (63, some 11)] [] (fun k => ([[], [], [], [], [], [], [4, 5], [0, 1, 2, 3, 4, 5, 6], [0, 1, 2, 3, 4, 5, 6, 7], [0, 1, 2, 3, 4, 5, 6, 7, 8], [0, 1, 2, 3, 4, 5, 6, 7, 8], [0, 1, 2, 3, 4, 5, 6, 7, 8], [0, 1, 2, 3, 4, 5, 6, 7, 8, 9], [0, 1, 2, 3, 4, 5, 6, 7, 8, 9, 10, 12], [0, 1, 2, 3, 4, 5, 6, 7, 8, 9, 10, 11, 12, 13]] : List (List Nat)).getD k []) mixed (by kernel_rfl) rfl rfl (a_op (g_x rfl (x_p rfl (u_lda rfl rfl Tryd.underlying80 rfl in_80 rfl (Nat.succ_pos _) (Sub.refl _) (Groll_extension.len x0)) rfl)) (a_op (g_x rfl (x_p rfl (p_move rfl rfl) rfl)) (a_op (g_x rfl (x_p rfl (p_move rfl rfl) rfl)) (a_op (g_x rfl (x_p rfl (p_move rfl rfl) rfl)) (a_op (g_x rfl (x_p rfl (p_move rfl rfl) rfl)) (a_op (g_x rfl (x_p rfl (p_move rfl rfl) rfl)) (a_op (g_x rfl (x_p rfl (u_cutl (g := (fun l => l.map AV.bytes)) (a := (0 : Int)) (b := w64 ((path4.length : Int) - (1 : Int))) rfl rfl Tryd.underlying33 in_22 rfl bT_zero (bT_i (Int.le_trans (show 0 ≤ (0 : Int) ∧ (0 : Int) ≤ w64 ((path4.length : Int) - (1 : Int)) ∧ w64 ((path4.length : Int) - (1 : Int)) ≤ (path4.length : Int) from ⟨Int.le_refl _, h9.1, h9.2⟩).1 (show 0 ≤ (0 : Int) ∧ (0 : Int) ≤ w64 ((path4.length : Int) - (1 : Int)) ∧ w64 ((path4.length : Int) - (1 : Int)) ≤ (path4.length : Int) from ⟨Int.le_refl _, h9.1, h9.2⟩).2.1) rfl) (.inl rfl) (show 0 ≤ (0 : Int) ∧ (0 : Int) ≤ w64 ((path4.length : Int) - (1 : Int)) ∧ w64 ((path4.length : Int) - (1 : Int)) ≤ (path4.length : Int) from ⟨Int.le_refl _, h9.1, h9.2⟩) (g_map AV.bytes)) rfl)) (a_op (g_x rfl (x_p rfl (p_callp rfl rfl rfl Tryd.func70 rfl rfl (hR h10) ⟨rfl, rfl, rfl, rfl, rfl, trivial⟩) rfl)) (a_op (g_x rfl (x_p rfl (p_move rfl rfl) rfl)) (a_op (g_x rfl (x_p rfl (p_ext rfl rfl rfl rfl) rfl)) (a_op (g_x rfl (x_p rfl (p_ext rfl rfl rfl rfl) rfl)) (a_op (g_x rfl (x_p rfl (p_ext rfl rfl rfl rfl) rfl)) (a_op (g_x rfl (x_p rfl (p_asg rfl rfl) rfl)) (a_op (g_x rfl (x_p rfl (p_asg rfl rfl) rfl)) (a_nil))))))))))))))) ?_
        refine t_op rfl rfl (PureD.opD (p_asg rfl rfl)) ?_
        refine t_gho (Gho_st (L := [(4, .p (AV.lists path4)), (5, .q 5 (0)), (10, .y r'2.1), (11, .y r'2.2.1), (12, .b r'2.2.2), (14, .i (w64 ((path4.length : Int) - (1 : Int))))]) (H := [(5, .pure (Groll_extension.cs x0))]) rfl ⟨TLes.same _, TLes.same _, TLes.same _, TLes.same _, TLes.same _, TLes.same _, trivial⟩ ⟨rfl, trivial⟩) ?_
        refine AW2_seq ?_
        refine sg [0, 1] rfl ?_
        refine rp rfl rfl (p_move rfl rfl) ?_
        refine rp rfl rfl (p_not rfl rfl) ?_
        refine rz [(4, .p (AV.lists path4)), (5, .q 5 (0)), (10, .y r'2.1), (11, .y r'2.2.1), (14, .i (w64 ((path4.length : Int) - (1 : Int)))), (65, .b (!r'2.2.2))] [(5, .pure (Groll_extension.cs x0))] rfl rfl rfl ?_
        refine AW2_cond rfl (fun h11 => ?_) (fun h11 => ?_)
        · replace H := ite_then h11 H
          refine sg [0, 1, 2] rfl ?_
          refine rp rfl rfl (p_asgn rfl) ?_
          refine rp rfl rfl (p_asgn rfl) ?_
          refine rp rfl rfl (p_asg rfl rfl) ?_
          refine rz [(10, .p .nil), (11, .p .nil), (12, .b false)] [] rfl rfl rfl ?_
          refine AW2_ret ?_
          have hz := some_elim H
          subst hz
          exact ⟨⟨res_tmp TLes.nil0, res_tmp TLes.nil0, res_tmp (.same _), trivial⟩, trivial⟩
        · replace H := ite_else (ne_true h11) H
          refine as2 [(4, .p (AV.lists path4)), (5, .q 5 (0)), (10, .y r'2.1), (11, .y r'2.2.1), (14, .i (w64 ((path4.length : Int) - (1 : Int))))] [(5, .pure (Groll_extension.cs x0))] rfl rfl rfl ?_
          refine AW2_skip ?_
          refine AW2_seq ?_
          refine chkK H fun h12 H => ?_
          refine bindK H fun r'3 h13 H => ?_
          refine AW2_ghoQ ?_
          refine AW2_draw 12 [12] (fun k => ([.q 5 (0 + 0), .i x0.mode_, .y r'2.2.1, .p (AV.lists path4), .i (w64 ((path4.length : Int) - (1 : Int))), .p (.rptr (path4.map AV.bytes) (((w64 ((path4.length : Int) - (1 : Int))).toNat) * 1)), .y (lrd path4 ((w64 ((path4.length : Int) - (1 : Int))).toNat)), .p (.tup [(AV.bytes r'3.1), (AV.int r'3.2)]), .p (.tup [(AV.bytes r'3.1), (AV.int r'3.2)]), .y r'3.1, .i r'3.2, .y r'3.1] : List TV).getD k TV.any) (fun k => ([[(5, none)], [(67, some 0)], [(11, none)], [(4, none)], [(14, none)], [(70, some 3), (71, some 4)], [(72, some 5)], [(68, some 1), (69, some 2), (73, some 6)], [(74, some 7)], [(66, some 8)], [(66, some 8)], [(75, some 9)]] : List (List (Nat × Option Nat))).getD k []) [(10, none), (15, some 11), (76, some 10)] [] (fun k => ([[], [0], [], [], [], [3, 4], [3, 4, 5], [0, 1, 2, 3, 4, 5, 6], [0, 1, 2, 3, 4, 5, 6, 7], [0, 1, 2, 3, 4, 5, 6, 7, 8], [0, 1, 2, 3, 4, 5, 6, 7, 8], [0, 1, 2, 3, 4, 5, 6, 7, 8, 9], [0, 1, 2, 3, 4, 5, 6, 7, 8, 9, 10, 11]] : List (List Nat)).getD k []) mixed (by kernel_rfl) rfl rfl (a_op (g_x rfl (x_p rfl (u_fa rfl rfl Tryd.underlying80 rfl in_3 (Nat.succ_ne_zero _) rfl rfl (ne_of_lt (n := 0) (Nat.lt_of_lt_of_eq (by decide) (Eq.symm (Groll_extension.len x0))))) rfl)) (a_op (g_x rfl (x_p rfl (u_ld rfl rfl Tryd.underlying3 rfl rfl ((Sub.refl _).trans (Groll_extension.sub0 x0))) rfl)) (a_op (g_x rfl (x_p rfl (p_move rfl rfl) rfl)) (a_op (g_x rfl (x_p rfl (p_move rfl rfl) rfl)) (a_op (g_x rfl (x_p rfl (p_move rfl rfl) rfl)) (a_op (g_x rfl (x_p rfl (u_ixl rfl rfl Tryd.underlying33 in_22 rfl rfl (ixe h12) (ixn h12) (lne (ixn h12))) rfl)) (a_op (g_x rfl (x_p rfl (u_ld rfl rfl Tryd.underlying22 rfl rfl (Sub.map default (ixn h12))) rfl)) (a_op (g_x rfl (x_p rfl (p_callp rfl rfl rfl Tryd.func79 rfl rfl (g_roll_pair_ac h13) ⟨rfl, rfl, rfl, trivial⟩) rfl)) (a_op (g_x rfl (x_p rfl (p_move rfl rfl) rfl)) (a_op (g_x rfl (x_p rfl (p_ext rfl rfl rfl rfl) rfl)) (a_op (g_x rfl (x_p rfl (p_ext rfl rfl rfl rfl) rfl)) (a_op (g_x rfl (x_p rfl (p_asg rfl rfl) rfl)) (a_nil))))))))))))) ?_
          refine t_op rfl rfl (PureD.opD (p_asg rfl rfl)) ?_
          refine t_gho (Gho_st (L := [(10, .y r'2.1), (15, .y r'3.1), (16, .i r'3.2)]) (H := []) rfl ⟨TLes.same _, TLes.same _, TLes.same _, trivial⟩ trivial) ?_
          refine sg [0, 1, 2, 3, 4, 5, 6] rfl ?_
          refine rp rfl rfl (p_move rfl rfl) ?_
          refine rp rfl rfl (p_move rfl rfl) ?_
          refine rp rfl rfl (p_move rfl rfl) ?_
          refine rp rfl rfl (p_ieq rfl rfl rfl) ?_
          refine rp rfl rfl (p_asg rfl rfl) ?_
          refine rp rfl rfl (p_asg rfl rfl) ?_
          refine rp rfl rfl (p_asg rfl rfl) ?_
          refine rz [(10, .y r'2.1), (11, .y r'3.1), (12, .b (decide (r'3.2 = (0 : Int))))] [] rfl rfl rfl ?_
          refine AW2_ret ?_
          have hz := some_elim H
          subst hz
          exact ⟨⟨res_tmp (.same _), res_tmp (.same _), res_tmp (.same _), trivial⟩, trivial⟩
      · replace H := ite_else h8 H
        refine as2 [(1, .i m1), (2, .i n2), (4, .p (AV.lists path4)), (5, .q 5 (0)), (13, .i r'1), (14, .i (w64 ((path4.length : Int) - (1 : Int))))] [(5, .pure (Groll_extension.cs x0))] rfl rfl rfl ?_
        refine AW2_skip ?_
        refine AW2_seq ?_
        refine chkK H fun h14 H => ?_
        refine bindK H fun r'4 h15 H => ?_
        refine AW2_ghoQ ?_
        refine AW2_draw 17 [17] (fun k => ([.g (Groll_extension.cs x0), .i m1, .i r'1, .i (w64 (m1 - r'1)), .i n2, .i r'1, .i (w64 (n2 - r'1)), .p (AV.lists path4), .i (w64 ((path4.length : Int) - (1 : Int))), .p (AV.lists (cut path4 (0 : Int) (w64 ((path4.length : Int) - (1 : Int))))), .p (.tup [(AV.bytes r'4.1), (AV.bytes r'4.2.1), (AV.bool r'4.2.2)]), .p (.tup [(AV.bytes r'4.1), (AV.bytes r'4.2.1), (AV.bool r'4.2.2)]), .y r'4.1, .y r'4.2.1, .b r'4.2.2, .y r'4.1, .y r'4.2.1] : List TV).getD k TV.any) (fun k => ([[(5, none)], [(1, none)], [(13, none)], [(83, some 1), (84, some 2)], [(2, none)], [(13, none)], [(86, some 4), (87, some 5)], [(4, none)], [(14, none)], [(89, some 7), (90, some 8)], [(82, some 0), (85, some 3), (88, some 6), (91, some 9)], [(92, some 10)], [(81, some 11)], [(81, some 11)], [(81, some 11)], [(93, some 12)], [(94, some 13)]] : List (List (Nat × Option Nat))).getD k []) [(4, none), (5, none), (10, some 15), (11, some 16), (14, none), (95, some 14)] [] (fun k => ([[], [], [], [1, 2], [], [], [4, 5], [], [], [7, 8], [0, 1, 2, 3, 4, 5, 6, 7, 8, 9], [0, 1, 2, 3, 4, 5, 6, 7, 8, 9, 10], [0, 1, 2, 3, 4, 5, 6, 7, 8, 9, 10, 11], [0, 1, 2, 3, 4, 5, 6, 7, 8, 9, 10, 11], [0, 1, 2, 3, 4, 5, 6, 7, 8, 9, 10, 11], [0, 1, 2, 3, 4, 5, 6, 7, 8, 9, 10, 11, 12], [0, 1, 2, 3, 4, 5, 6, 7, 8, 9, 10, 11, 12, 13, 15], [0, 1, 2, 3, 4, 5, 6, 7, 8, 9, 10, 11, 12, 13, 14, 15, 16]] : List (List Nat)).getD k []) mixed (by kernel_rfl) rfl rfl (a_op (g_x rfl (x_p rfl (u_lda rfl rfl Tryd.underlying80 rfl in_80 rfl (Nat.succ_pos _) (Sub.refl _) (Groll_extension.len x0)) rfl)) (a_op (g_x rfl (x_p rfl (p_move rfl rfl) rfl)) (a_op (g_x rfl (x_p rfl (p_move rfl rfl) rfl)) (a_op (g_x rfl (x_p rfl (p_bin rfl rfl rfl rfl) rfl)) (a_op (g_x rfl (x_p rfl (p_move rfl rfl) rfl)) (a_op (g_x rfl (x_p rfl (p_move rfl rfl) rfl)) (a_op (g_x rfl (x_p rfl (p_bin rfl rfl rfl rfl) rfl)) (a_op (g_x rfl (x_p rfl (p_move rfl rfl) rfl)) (a_op (g_x rfl (x_p rfl (p_move rfl rfl) rfl)) (a_op (g_x rfl (x_p rfl (u_cutl (g := (fun l => l.map AV.bytes)) (a := (0 : Int)) (b := w64 ((path4.length : Int) - (1 : Int))) rfl rfl Tryd.underlying33 in_22 rfl bT_zero (bT_i (Int.le_trans (show 0 ≤ (0 : Int) ∧ (0 : Int) ≤ w64 ((path4.length : Int) - (1 : Int)) ∧ w64 ((path4.length : Int) - (1 : Int)) ≤ (path4.length : Int) from ⟨Int.le_refl _, h14.1, h14.2⟩).1 (show 0 ≤ (0 : Int) ∧ (0 : Int) ≤ w64 ((path4.length : Int) - (1 : Int)) ∧ w64 ((path4.length : Int) - (1 : Int)) ≤ (path4.length : Int) from ⟨Int.le_refl _, h14.1, h14.2⟩).2.1) rfl) (.inl rfl) (show 0 ≤ (0 : Int) ∧ (0 : Int) ≤ w64 ((path4.length : Int) - (1 : Int)) ∧ w64 ((path4.length : Int) - (1 : Int)) ≤ (path4.length : Int) from ⟨Int.le_refl _, h14.1, h14.2⟩) (g_map AV.bytes)) rfl)) (a_op (g_x rfl (x_p rfl (p_callp rfl rfl rfl Tryd.func70 rfl rfl (hR h15) ⟨rfl, rfl, rfl, rfl, rfl, trivial⟩) rfl)) (a_op (g_x rfl (x_p rfl (p_move rfl rfl) rfl)) (a_op (g_x rfl (x_p rfl (p_ext rfl rfl rfl rfl) rfl)) (a_op (g_x rfl (x_p rfl (p_ext rfl rfl rfl rfl) rfl)) (a_op (g_x rfl (x_p rfl (p_ext rfl rfl rfl rfl) rfl)) (a_op (g_x rfl (x_p rfl (p_asg rfl rfl) rfl)) (a_op (g_x rfl (x_p rfl (p_asg rfl rfl) rfl)) (a_nil)))))))))))))))))) ?_
        refine t_op rfl rfl (PureD.opD (p_asg rfl rfl)) ?_
        refine t_gho (Gho_st (L := [(4, .p (AV.lists path4)), (5, .q 5 (0)), (10, .y r'4.1), (11, .y r'4.2.1), (12, .b r'4.2.2), (14, .i (w64 ((path4.length : Int) - (1 : Int))))]) (H := [(5, .pure (Groll_extension.cs x0))]) rfl ⟨TLes.same _, TLes.same _, TLes.same _, TLes.same _, TLes.same _, TLes.same _, trivial⟩ ⟨rfl, trivial⟩) ?_
        refine AW2_seq ?_
        refine sg [0, 1] rfl ?_
        refine rp rfl rfl (p_move rfl rfl) ?_
        refine rp rfl rfl (p_not rfl rfl) ?_
        refine rz [(4, .p (AV.lists path4)), (5, .q 5 (0)), (10, .y r'4.1), (11, .y r'4.2.1), (14, .i (w64 ((path4.length : Int) - (1 : Int)))), (97, .b (!r'4.2.2))] [(5, .pure (Groll_extension.cs x0))] rfl rfl rfl ?_
        refine AW2_cond rfl (fun h16 => ?_) (fun h16 => ?_)
        · replace H := ite_then h16 H
          refine sg [0, 1, 2] rfl ?_
          refine rp rfl rfl (p_asgn rfl) ?_
          refine rp rfl rfl (p_asgn rfl) ?_
          refine rp rfl rfl (p_asg rfl rfl) ?_
          refine rz [(10, .p .nil), (11, .p .nil), (12, .b false)] [] rfl rfl rfl ?_
          refine AW2_ret ?_
          have hz := some_elim H
          subst hz
          exact ⟨⟨res_tmp TLes.nil0, res_tmp TLes.nil0, res_tmp (.same _), trivial⟩, trivial⟩
        · replace H := ite_else (ne_true h16) H
          refine as2 [(4, .p (AV.lists path4)), (5, .q 5 (0)), (10, .y r'4.1), (11, .y r'4.2.1), (14, .i (w64 ((path4.length : Int) - (1 : Int))))] [(5, .pure (Groll_extension.cs x0))] rfl rfl rfl ?_
          refine AW2_skip ?_
          refine AW2_seq ?_
          refine chkK H fun h17 H => ?_
          refine bindK H fun r'5 h18 H => ?_
          refine AW2_ghoQ ?_
          refine AW2_draw 12 [12] (fun k => ([.q 5 (0 + 0), .i x0.mode_, .p (AV.lists path4), .i (w64 ((path4.length : Int) - (1 : Int))), .p (.rptr (path4.map AV.bytes) (((w64 ((path4.length : Int) - (1 : Int))).toNat) * 1)), .y (lrd path4 ((w64 ((path4.length : Int) - (1 : Int))).toNat)), .y r'4.1, .p (.tup [(AV.bytes r'5.1), (AV.int r'5.2)]), .p (.tup [(AV.bytes r'5.1), (AV.int r'5.2)]), .y r'5.1, .i r'5.2, .y r'5.1] : List TV).getD k TV.any) (fun k => ([[(5, none)], [(99, some 0)], [(4, none)], [(14, none)], [(101, some 2), (102, some 3)], [(103, some 4)], [(10, none)], [(100, some 1), (104, some 5), (105, some 6)], [(106, some 7)], [(98, some 8)], [(98, some 8)], [(107, some 9)]] : List (List (Nat × Option Nat))).getD k []) [(4, none), (5, none), (11, none), (14, none), (17, some 11), (108, some 10)] [] (fun k => ([[], [0], [], [], [2, 3], [2, 3, 4], [], [0, 1, 2, 3, 4, 5, 6], [0, 1, 2, 3, 4, 5, 6, 7], [0, 1, 2, 3, 4, 5, 6, 7, 8], [0, 1, 2, 3, 4, 5, 6, 7, 8], [0, 1, 2, 3, 4, 5, 6, 7, 8, 9], [0, 1, 2, 3, 4, 5, 6, 7, 8, 9, 10, 11]] : List (List Nat)).getD k []) mixed (by kernel_rfl) rfl rfl (a_op (g_x rfl (x_p rfl (u_fa rfl rfl Tryd.underlying80 rfl in_3 (Nat.succ_ne_zero _) rfl rfl (ne_of_lt (n := 0) (Nat.lt_of_lt_of_eq (by decide) (Eq.symm (Groll_extension.len x0))))) rfl)) (a_op (g_x rfl (x_p rfl (u_ld rfl rfl Tryd.underlying3 rfl rfl ((Sub.refl _).trans (Groll_extension.sub0 x0))) rfl)) (a_op (g_x rfl (x_p rfl (p_move rfl rfl) rfl)) (a_op (g_x rfl (x_p rfl (p_move rfl rfl) rfl)) (a_op (g_x rfl (x_p rfl (u_ixl rfl rfl Tryd.underlying33 in_22 rfl rfl (ixe h17) (ixn h17) (lne (ixn h17))) rfl)) (a_op (g_x rfl (x_p rfl (u_ld rfl rfl Tryd.underlying22 rfl rfl (Sub.map default (ixn h17))) rfl)) (a_op (g_x rfl (x_p rfl (p_move rfl rfl) rfl)) (a_op (g_x rfl (x_p rfl (p_callp rfl rfl rfl Tryd.func79 rfl rfl (g_roll_pair_ac h18) ⟨rfl, rfl, rfl, trivial⟩) rfl)) (a_op (g_x rfl (x_p rfl (p_move rfl rfl) rfl)) (a_op (g_x rfl (x_p rfl (p_ext rfl rfl rfl rfl) rfl)) (a_op (g_x rfl (x_p rfl (p_ext rfl rfl rfl rfl) rfl)) (a_op (g_x rfl (x_p rfl (p_asg rfl rfl) rfl)) (a_nil))))))))))))) ?_
          refine t_op rfl rfl (PureD.opD (p_asg rfl rfl)) ?_
          refine t_gho (Gho_st (L := [(4, .p (AV.lists path4)), (5, .q 5 (0)), (11, .y r'4.2.1), (14, .i (w64 ((path4.length : Int) - (1 : Int)))), (17, .y r'5.1), (18, .i r'5.2)]) (H := [(5, .pure (Groll_extension.cs x0))]) rfl ⟨TLes.same _, TLes.same _, TLes.same _, TLes.same _, TLes.same _, TLes.same _, trivial⟩ ⟨rfl, trivial⟩) ?_
          refine AW2_seq ?_
          refine chkK H fun h19 H => ?_
          refine bindK H fun r'6 h20 H => ?_
          refine AW2_ghoQ ?_
          refine AW2_draw 12 [12] (fun k => ([.q 5 (0 + 0), .i x0.mode_, .p (AV.lists path4), .i (w64 ((path4.length : Int) - (1 : Int))), .p (.rptr (path4.map AV.bytes) (((w64 ((path4.length : Int) - (1 : Int))).toNat) * 1)), .y (lrd path4 ((w64 ((path4.length : Int) - (1 : Int))).toNat)), .y r'4.2.1, .p (.tup [(AV.bytes r'6.1), (AV.int r'6.2)]), .p (.tup [(AV.bytes r'6.1), (AV.int r'6.2)]), .y r'6.1, .i r'6.2, .y r'6.1] : List TV).getD k TV.any) (fun k => ([[(5, none)], [(110, some 0)], [(4, none)], [(14, none)], [(112, some 2), (113, some 3)], [(114, some 4)], [(11, none)], [(111, some 1), (115, some 5), (116, some 6)], [(117, some 7)], [(109, some 8)], [(109, some 8)], [(118, some 9)]] : List (List (Nat × Option Nat))).getD k []) [(17, none), (18, none), (19, some 11), (119, some 10)] [] (fun k => ([[], [0], [], [], [2, 3], [2, 3, 4], [], [0, 1, 2, 3, 4, 5, 6], [0, 1, 2, 3, 4, 5, 6, 7], [0, 1, 2, 3, 4, 5, 6, 7, 8], [0, 1, 2, 3, 4, 5, 6, 7, 8], [0, 1, 2, 3, 4, 5, 6, 7, 8, 9], [0, 1, 2, 3, 4, 5, 6, 7, 8, 9, 10, 11]] : List (List Nat)).getD k []) mixed (by kernel_rfl) rfl rfl (a_op (g_x rfl (x_p rfl (u_fa rfl rfl Tryd.underlying80 rfl in_3 (Nat.succ_ne_zero _) rfl rfl (ne_of_lt (n := 0) (Nat.lt_of_lt_of_eq (by decide) (Eq.symm (Groll_extension.len x0))))) rfl)) (a_op (g_x rfl (x_p rfl (u_ld rfl rfl Tryd.underlying3 rfl rfl ((Sub.refl _).trans (Groll_extension.sub0 x0))) rfl)) (a_op (g_x rfl (x_p rfl (p_move rfl rfl) rfl)) (a_op (g_x rfl (x_p rfl (p_move rfl rfl) rfl)) (a_op (g_x rfl (x_p rfl (u_ixl rfl rfl Tryd.underlying33 in_22 rfl rfl (ixe h19) (ixn h19) (lne (ixn h19))) rfl)) (a_op (g_x rfl (x_p rfl (u_ld rfl rfl Tryd.underlying22 rfl rfl (Sub.map default (ixn h19))) rfl)) (a_op (g_x rfl (x_p rfl (p_move rfl rfl) rfl)) (a_op (g_x rfl (x_p rfl (p_callp rfl rfl rfl Tryd.func79 rfl rfl (g_roll_pair_ac h20) ⟨rfl, rfl, rfl, trivial⟩) rfl)) (a_op (g_x rfl (x_p rfl (p_move rfl rfl) rfl)) (a_op (g_x rfl (x_p rfl (p_ext rfl rfl rfl rfl) rfl)) (a_op (g_x rfl (x_p rfl (p_ext rfl rfl rfl rfl) rfl)) (a_op (g_x rfl (x_p rfl (p_asg rfl rfl) rfl)) (a_nil))))))))))))) ?_
          refine t_op rfl rfl (PureD.opD (p_asg rfl rfl)) ?_
          refine t_gho (Gho_st (L := [(17, .y r'5.1), (18, .i r'5.2), (19, .y r'6.1), (20, .i r'6.2)]) (H := []) rfl ⟨TLes.same _, TLes.same _, TLes.same _, TLes.same _, trivial⟩ trivial) ?_
          refine AW2_seq ?_
          refine AW2_mid (⟨[(10, .y r'5.1), (11, .y r'6.1), (12, .b (decide ((r'5.2 = (0 : Int)) ∧ (r'6.2 = (0 : Int)))))], [], 128⟩ : TS) ?_ ?_
          · refine AW2_reg [0, 1, 2, 3, 4, 5, 6, 7, 8, 9, 10] rfl ?_
            refine rp rfl rfl (p_move rfl rfl) ?_
            refine rp rfl rfl (p_move rfl rfl) ?_
            refine rp rfl rfl (p_move rfl rfl) ?_
            refine rp rfl rfl (p_ieq rfl rfl rfl) ?_
            refine rp rfl rfl (p_move rfl rfl) ?_
            refine (Classical.em (r'5.2 = (0 : Int))).elim (fun h21 => ?_) (fun h21 => ?_)
            · refine r_on rfl rfl rfl rfl (decide_eq_true (p := r'5.2 = (0 : Int)) h21) rfl (PureD.opD (p_move rfl rfl)) ?_
              refine r_on rfl rfl rfl rfl (decide_eq_true (p := r'5.2 = (0 : Int)) h21) rfl (PureD.opD (p_ieq rfl rfl rfl)) ?_
              refine rp rfl rfl (p_pkt rfl rfl (decide_eq_true (p := r'5.2 = (0 : Int)) h21) (tb ((and_l (p := r'5.2 = (0 : Int)) (q := r'6.2 = (0 : Int)) h21)))) ?_
              refine rp rfl rfl (p_asg rfl rfl) ?_
              refine rp rfl rfl (p_asg rfl rfl) ?_
              refine rp rfl rfl (p_asg rfl rfl) ?_
              refine rs [(10, .y r'5.1), (11, .y r'6.1), (12, .b (decide ((r'5.2 = (0 : Int)) ∧ (r'6.2 = (0 : Int)))))] [] rfl rfl rfl ?_
              exact RunW_nil rfl
            · refine r_off rfl rfl rfl rfl (decide_eq_false (p := r'5.2 = (0 : Int)) h21) rfl rfl ?_
              refine r_off rfl rfl rfl rfl (decide_eq_false (p := r'5.2 = (0 : Int)) h21) rfl rfl ?_
              refine rp rfl rfl (p_pkf rfl rfl (decide_eq_false (p := r'5.2 = (0 : Int)) h21) (tb (decide_eq_false (p := (r'5.2 = (0 : Int)) ∧ (r'6.2 = (0 : Int))) (fun x => h21 x.1)).symm)) ?_
              refine rp rfl rfl (p_asg rfl rfl) ?_
              refine rp rfl rfl (p_asg rfl rfl) ?_
              refine rp rfl rfl (p_asg rfl rfl) ?_
              refine rs [(10, .y r'5.1), (11, .y r'6.1), (12, .b (decide ((r'5.2 = (0 : Int)) ∧ (r'6.2 = (0 : Int)))))] [] rfl rfl rfl ?_
              exact RunW_nil rfl
          · refine AW2_ret ?_
            have hz := some_elim H
            subst hz
            exact ⟨⟨res_tmp (.same _), res_tmp (.same _), res_tmp (.same _), trivial⟩, trivial⟩
theorem g_roll_extension_roots_acN : ∀ (fu : Nat) {x0 : Groll_extension} {m1 : Int} {n2 : Int} {known3 : Bool} {path4 : List (List UInt8)} {r : (List UInt8) × (List UInt8) × Bool}, g_roll_extension_roots fu x0 m1 n2 known3 path4 = some r → ACp Tryd.prog 70 [(.agg (Groll_extension.cs x0)), (AV.int m1), (AV.int n2), (AV.bool known3), (AV.lists path4)] (.tup [(AV.bytes r.1), (AV.bytes r.2.1), (AV.bool r.2.2)])
  | 0, _, _, _, _, _, _, H => (by cases H)
  | fu + 1, _, _, _, _, _, _, H => g_roll_extension_roots_ac0 (g_roll_extension_roots_acN fu) H
theorem g_roll_extension_roots_ac {x0 : Groll_extension} {m1 : Int} {n2 : Int} {known3 : Bool} {path4 : List (List UInt8)} {r : (List UInt8) × (List UInt8) × Bool} (H : g_roll_extension_roots 100000 x0 m1 n2 known3 path4 = some r) : ACp Tryd.prog 70 [(.agg (Groll_extension.cs x0)), (AV.int m1), (AV.int n2), (AV.bool known3), (AV.lists path4)] (.tup [(AV.bytes r.1), (AV.bytes r.2.1), (AV.bool r.2.2)]) := g_roll_extension_roots_acN 100000 H

/-! roll.CheckExtend -/
noncomputable def g_roll_CheckExtend (mode0 : Int) (old1 : List UInt8) (m2 : Int) (top3 : List UInt8) (n4 : Int) (path5 : List (List UInt8)) : Option (Int) :=
  (g_roll_modes mode0).bind fun r'1 => (if (!r'1) = true then some (2 : Int) else (if (n4 < (0 : Int)) ∨ (n4 > (64 : Int)) then some (1 : Int) else (if (m2 < (0 : Int)) ∨ (m2 > n4) then some (6 : Int) else (if m2 = (0 : Int) then (g_oracle_Digest mode0 (4 : Int) []).bind fun r'2 => ((if r'2.2 ≠ (0 : Int) then some true else (if (path5.length : Int) > (0 : Int) then some true else (g_bytes_Equal r'2.1 old1).bind fun r'4 => (if (!r'4) = true then some true else (if n4 = (0 : Int) then (g_bytes_Equal r'2.1 top3).bind fun r'5 => some (!r'5) else some false))))).bind fun g'6 => (if g'6 = true then some (10 : Int) else some (0 : Int)) else (g_roll_extension_roots 100000 ({ { Groll_extension.zero with mode_ := mode0 } with old_ := old1 }) m2 n4 true path5).bind fun r'7 => ((if (!r'7.2.2) = true then some true else (g_bytes_Equal r'7.1 old1).bind fun r'9 => (if (!r'9) = true then some true else (g_bytes_Equal r'7.2.1 top3).bind fun r'10 => some (!r'10)))).bind fun g'11 => (if g'11 = true then some (10 : Int) else some (0 : Int))))))
set_option maxHeartbeats 4000000 in
set_option maxRecDepth 100000 in
theorem g_roll_CheckExtend_ac {mode0 : Int} {old1 : List UInt8} {m2 : Int} {top3 : List UInt8} {n4 : Int} {path5 : List (List UInt8)} {r : Int} (H : g_roll_CheckExtend mode0 old1 m2 top3 n4 path5 = some r) : ACp Tryd.prog 37 [(AV.int mode0), (AV.bytes old1), (AV.int m2), (AV.bytes top3), (AV.int n4), (AV.lists path5)] (AV.int r) := by
  refine ACp_of (AC2_of_body (vs := [.i r]) Tryd.func37 rfl rfl (Nat.le_of_ble_eq_true rfl) rfl ?_) (fun _ => .same _)
  unfold g_roll_CheckExtend at H
  refine as2 [(0, .i mode0), (1, .y old1), (2, .i m2), (3, .y top3), (4, .i n4), (5, .p (AV.lists path5))] [] rfl rfl rfl ?_
  refine sg [0] rfl ?_
  refine rp rfl rfl (p_asg rfl rfl) ?_
  refine rz [(0, .i mode0), (1, .y old1), (2, .i m2), (3, .y top3), (4, .i n4), (5, .p (AV.lists path5))] [] rfl rfl rfl ?_
  refine AW2_seq ?_
  refine sg [0, 1, 2] rfl ?_
  refine rp rfl rfl (p_move rfl rfl) ?_
  refine bindK H fun r'1 h1 H => ?_
  refine rp rfl rfl (p_callp rfl rfl rfl Tryd.func67 rfl rfl (g_roll_modes_ac h1) ⟨rfl, trivial⟩) ?_
  refine rp rfl rfl (p_not rfl rfl) ?_
  refine rz [(0, .i mode0), (1, .y old1), (2, .i m2), (3, .y top3), (4, .i n4), (5, .p (AV.lists path5)), (20, .b (!r'1))] [] rfl rfl rfl ?_
  refine AW2_cond rfl (fun h2 => ?_) (fun h2 => ?_)
  · replace H := ite_then h2 H
    refine sg [0] rfl ?_
    refine rp rfl rfl (p_asg rfl rfl) ?_
    refine rz [(12, .i (2 : Int))] [] rfl rfl rfl ?_
    refine AW2_ret ?_
    have hz := some_elim H
    subst hz
    exact ⟨⟨res_tmp (.same _), trivial⟩, trivial⟩
  · replace H := ite_else (ne_true h2) H
    refine as2 [(0, .i mode0), (1, .y old1), (2, .i m2), (3, .y top3), (4, .i n4), (5, .p (AV.lists path5))] [] rfl rfl rfl ?_
    refine AW2_skip ?_
    refine AW2_seq ?_
    refine AW2_seq ?_
    refine AW2_mid (⟨[(0, .i mode0), (1, .y old1), (2, .i m2), (3, .y top3), (4, .i n4), (5, .p (AV.lists path5)), (26, .b (decide ((n4 < (0 : Int)) ∨ (n4 > (64 : Int)))))], [], 89⟩ : TS) ?_ ?_
    · refine AW2_reg [0, 1, 2, 3, 4, 5] rfl ?_
      refine rp rfl rfl (p_move rfl rfl) ?_
      refine rp rfl rfl (p_bin rfl rfl rfl rfl) ?_
      refine rp rfl rfl (p_move rfl rfl) ?_
      refine (Classical.em (n4 < (0 : Int))).elim (fun h3 => ?_) (fun h3 => ?_)
      · refine r_off rfl rfl rfl rfl (decide_eq_true (p := n4 < (0 : Int)) h3) rfl rfl ?_
        refine r_off rfl rfl rfl rfl (decide_eq_true (p := n4 < (0 : Int)) h3) rfl rfl ?_
        refine rp rfl rfl (p_pkt rfl rfl (decide_eq_true (p := n4 < (0 : Int)) h3) (tb (decide_eq_true (p := (n4 < (0 : Int)) ∨ (n4 > (64 : Int))) (Or.inl h3)).symm)) ?_
        refine rs [(0, .i mode0), (1, .y old1), (2, .i m2), (3, .y top3), (4, .i n4), (5, .p (AV.lists path5)), (26, .b (decide ((n4 < (0 : Int)) ∨ (n4 > (64 : Int)))))] [] rfl rfl rfl ?_
        exact RunW_nil rfl
      · refine r_on rfl rfl rfl rfl (decide_eq_false (p := n4 < (0 : Int)) h3) rfl (PureD.opD (p_move rfl rfl)) ?_
        refine r_on rfl rfl rfl rfl (decide_eq_false (p := n4 < (0 : Int)) h3) rfl (PureD.opD (p_bin rfl rfl rfl rfl)) ?_
        refine rp rfl rfl (p_pkf rfl rfl (decide_eq_false (p := n4 < (0 : Int)) h3) (tb ((or_l (p := n4 < (0 : Int)) (q := n4 > (64 : Int)) h3)))) ?_
        refine rs [(0, .i mode0), (1, .y old1), (2, .i m2), (3, .y top3), (4, .i n4), (5, .p (AV.lists path5)), (26, .b (decide ((n4 < (0 : Int)) ∨ (n4 > (64 : Int)))))] [] rfl rfl rfl ?_
        exact RunW_nil rfl
    · refine AW2_if (p := (n4 < (0 : Int)) ∨ (n4 > (64 : Int))) rfl (fun h4 => ?_) (fun h4 => ?_)
      · replace H := ite_then h4 H
        refine sg [0] rfl ?_
        refine rp rfl rfl (p_asg rfl rfl) ?_
        refine rz [(12, .i (1 : Int))] [] rfl rfl rfl ?_
        refine AW2_ret ?_
        have hz := some_elim H
        subst hz
        exact ⟨⟨res_tmp (.same _), trivial⟩, trivial⟩
      · replace H := ite_else h4 H
        refine as2 [(0, .i mode0), (1, .y old1), (2, .i m2), (3, .y top3), (4, .i n4), (5, .p (AV.lists path5))] [] rfl rfl rfl ?_
        refine AW2_skip ?_
        refine AW2_seq ?_
        refine AW2_seq ?_
        refine AW2_mid (⟨[(0, .i mode0), (1, .y old1), (2, .i m2), (3, .y top3), (4, .i n4), (5, .p (AV.lists path5)), (33, .b (decide ((m2 < (0 : Int)) ∨ (m2 > n4))))], [], 89⟩ : TS) ?_ ?_
        · refine AW2_reg [0, 1, 2, 3, 4, 5, 6] rfl ?_
          refine rp rfl rfl (p_move rfl rfl) ?_
          refine rp rfl rfl (p_bin rfl rfl rfl rfl) ?_
          refine rp rfl rfl (p_move rfl rfl) ?_
          refine (Classical.em (m2 < (0 : Int))).elim (fun h5 => ?_) (fun h5 => ?_)
          · refine r_off rfl rfl rfl rfl (decide_eq_true (p := m2 < (0 : Int)) h5) rfl rfl ?_
            refine r_off rfl rfl rfl rfl (decide_eq_true (p := m2 < (0 : Int)) h5) rfl rfl ?_
            refine r_off rfl rfl rfl rfl (decide_eq_true (p := m2 < (0 : Int)) h5) rfl rfl ?_
            refine rp rfl rfl (p_pkt rfl rfl (decide_eq_true (p := m2 < (0 : Int)) h5) (tb (decide_eq_true (p := (m2 < (0 : Int)) ∨ (m2 > n4)) (Or.inl h5)).symm)) ?_
            refine rs [(0, .i mode0), (1, .y old1), (2, .i m2), (3, .y top3), (4, .i n4), (5, .p (AV.lists path5)), (33, .b (decide ((m2 < (0 : Int)) ∨ (m2 > n4))))] [] rfl rfl rfl ?_
            exact RunW_nil rfl
          · refine r_on rfl rfl rfl rfl (decide_eq_false (p := m2 < (0 : Int)) h5) rfl (PureD.opD (p_move rfl rfl)) ?_
            refine r_on rfl rfl rfl rfl (decide_eq_false (p := m2 < (0 : Int)) h5) rfl (PureD.opD (p_move rfl rfl)) ?_
            refine r_on rfl rfl rfl rfl (decide_eq_false (p := m2 < (0 : Int)) h5) rfl (PureD.opD (p_bin rfl rfl rfl rfl)) ?_
            refine rp rfl rfl (p_pkf rfl rfl (decide_eq_false (p := m2 < (0 : Int)) h5) (tb ((or_l (p := m2 < (0 : Int)) (q := m2 > n4) h5)))) ?_
            refine rs [(0, .i mode0), (1, .y old1), (2, .i m2), (3, .y top3), (4, .i n4), (5, .p (AV.lists path5)), (33, .b (decide ((m2 < (0 : Int)) ∨ (m2 > n4))))] [] rfl rfl rfl ?_
            exact RunW_nil rfl
        · refine AW2_if (p := (m2 < (0 : Int)) ∨ (m2 > n4)) rfl (fun h6 => ?_) (fun h6 => ?_)
          · replace H := ite_then h6 H
            refine sg [0] rfl ?_
            refine rp rfl rfl (p_asg rfl rfl) ?_
            refine rz [(12, .i (6 : Int))] [] rfl rfl rfl ?_
            refine AW2_ret ?_
            have hz := some_elim H
            subst hz
            exact ⟨⟨res_tmp (.same _), trivial⟩, trivial⟩
          · replace H := ite_else h6 H
            refine as2 [(0, .i mode0), (1, .y old1), (2, .i m2), (3, .y top3), (4, .i n4), (5, .p (AV.lists path5))] [] rfl rfl rfl ?_
            refine AW2_skip ?_
            refine AW2_seq ?_
            refine sg [0, 1] rfl ?_
            refine rp rfl rfl (p_move rfl rfl) ?_
            refine rp rfl rfl (p_ieq rfl rfl rfl) ?_
            refine rz [(0, .i mode0), (1, .y old1), (2, .i m2), (3, .y top3), (4, .i n4), (5, .p (AV.lists path5)), (35, .b (decide (m2 = (0 : Int))))] [] rfl rfl rfl ?_
            refine AW2_if (p := m2 = (0 : Int)) rfl (fun h7 => ?_) (fun h7 => ?_)
            · replace H := ite_then h7 H
              refine sg [0, 1, 2, 3, 4, 5, 6] rfl ?_
              refine rp rfl rfl (p_move rfl rfl) ?_
              refine bindK H fun r'2 h8 H => ?_
              refine rp rfl rfl (p_callp rfl rfl rfl Tryd.func40 rfl rfl (g_oracle_Digest_ac h8) ⟨rfl, rfl, rfl, trivial⟩) ?_
              refine rp rfl rfl (p_move rfl rfl) ?_
              refine rp rfl rfl (p_ext rfl rfl rfl rfl) ?_
              refine rp rfl rfl (p_ext rfl rfl rfl rfl) ?_
              refine rp rfl rfl (p_asg rfl rfl) ?_
              refine rp rfl rfl (p_asg rfl rfl) ?_
              refine rz [(1, .y old1), (3, .y top3), (4, .i n4), (5, .p (AV.lists path5)), (13, .y r'2.1), (14, .i r'2.2)] [] rfl rfl rfl ?_
              refine AW2_seq ?_
              refine AW2_seq ?_
              refine bindK H fun g'6 h16 H => ?_
              refine AW2_mid (⟨[(63, .b g'6)], [], 89⟩ : TS) ?_ ?_
              · clear H
                have H := h16
                clear h16
                refine AW2_reg [0, 1, 2, 3, 4, 5, 6, 7, 8, 9, 10, 11, 12, 13, 14, 15, 16, 17, 18, 19, 20, 21, 22] rfl ?_
                refine rp rfl rfl (p_move rfl rfl) ?_
                refine rp rfl rfl (p_ine rfl rfl rfl) ?_
                refine rp rfl rfl (p_move rfl rfl) ?_
                refine (Classical.em (r'2.2 ≠ (0 : Int))).elim (fun h10 => ?_) (fun h10 => ?_)
                · replace H := ite_then h10 H
                  refine r_off rfl rfl rfl rfl (decide_eq_true (p := r'2.2 ≠ (0 : Int)) h10) rfl rfl ?_
                  refine r_off rfl rfl rfl rfl (decide_eq_true (p := r'2.2 ≠ (0 : Int)) h10) rfl rfl ?_
                  refine r_off rfl rfl rfl rfl (decide_eq_true (p := r'2.2 ≠ (0 : Int)) h10) rfl rfl ?_
                  refine rp rfl rfl (p_pkt rfl rfl (decide_eq_true (p := r'2.2 ≠ (0 : Int)) h10) (.same _)) ?_
                  refine rp rfl rfl (p_move rfl rfl) ?_
                  refine r_off rfl rfl rfl rfl rfl rfl rfl ?_
                  refine r_off rfl rfl rfl rfl rfl rfl rfl ?_
                  refine r_off rfl rfl rfl rfl rfl rfl rfl ?_
                  refine r_off rfl rfl rfl rfl rfl rfl rfl ?_
                  refine rp rfl rfl (p_pkt rfl rfl rfl (.same _)) ?_
                  refine rp rfl rfl (p_move rfl rfl) ?_
                  refine r_off rfl rfl rfl rfl rfl rfl rfl ?_
                  refine r_off rfl rfl rfl rfl rfl rfl rfl ?_
                  refine r_off rfl rfl rfl rfl rfl rfl rfl ?_
                  refine r_off2 rfl rfl rfl rfl rfl rfl ?_
                  refine r_off2 rfl rfl rfl rfl rfl rfl ?_
                  refine r_off2 rfl rfl rfl rfl rfl rfl ?_
                  refine r_off2 rfl rfl rfl rfl rfl rfl ?_
                  refine r_off rfl rfl rfl rfl rfl rfl rfl ?_
                  refine rp rfl rfl (p_pkt rfl rfl rfl (.same _)) ?_
                  refine rs [(63, .b true)] [] rfl rfl rfl ?_
                  have hz := some_elim H
                  subst hz
                  exact RunW_nil rfl
                · replace H := ite_else h10 H
                  refine r_on rfl rfl rfl rfl (decide_eq_false (p := r'2.2 ≠ (0 : Int)) h10) rfl (PureD.opD (p_move rfl rfl)) ?_
                  refine r_on rfl rfl rfl rfl (decide_eq_false (p := r'2.2 ≠ (0 : Int)) h10) rfl (PureD.opD (p_lenl rfl Tryd.underlying33 rfl rfl)) ?_
                  refine r_on rfl rfl rfl rfl (decide_eq_false (p := r'2.2 ≠ (0 : Int)) h10) rfl (PureD.opD (p_bin rfl rfl rfl rfl)) ?_
                  refine rp rfl rfl (p_pkf rfl rfl (decide_eq_false (p := r'2.2 ≠ (0 : Int)) h10) (.same _)) ?_
                  refine rp rfl rfl (p_move rfl rfl) ?_
                  refine (Classical.em ((path5.length : Int) > (0 : Int))).elim (fun h11 => ?_) (fun h11 => ?_)
                  · replace H := ite_then h11 H
                    refine r_off rfl rfl rfl rfl (decide_eq_true (p := (path5.length : Int) > (0 : Int)) h11) rfl rfl ?_
                    refine r_off rfl rfl rfl rfl (decide_eq_true (p := (path5.length : Int) > (0 : Int)) h11) rfl rfl ?_
                    refine r_off rfl rfl rfl rfl (decide_eq_true (p := (path5.length : Int) > (0 : Int)) h11) rfl rfl ?_
                    refine r_off rfl rfl rfl rfl (decide_eq_true (p := (path5.length : Int) > (0 : Int)) h11) rfl rfl ?_
                    refine rp rfl rfl (p_pkt rfl rfl (decide_eq_true (p := (path5.length : Int) > (0 : Int)) h11) (.same _)) ?_
                    refine rp rfl rfl (p_move rfl rfl) ?_
                    refine r_off rfl rfl rfl rfl rfl rfl rfl ?_
                    refine r_off rfl rfl rfl rfl rfl rfl rfl ?_
                    refine r_off rfl rfl rfl rfl rfl rfl rfl ?_
                    refine r_off2 rfl rfl rfl rfl rfl rfl ?_
                    refine r_off2 rfl rfl rfl rfl rfl rfl ?_
                    refine r_off2 rfl rfl rfl rfl rfl rfl ?_
                    refine r_off2 rfl rfl rfl rfl rfl rfl ?_
                    refine r_off rfl rfl rfl rfl rfl rfl rfl ?_
                    refine rp rfl rfl (p_pkt rfl rfl rfl (.same _)) ?_
                    refine rs [(63, .b true)] [] rfl rfl rfl ?_
                    have hz := some_elim H
                    subst hz
                    exact RunW_nil rfl
                  · replace H := ite_else h11 H
                    refine r_on rfl rfl rfl rfl (decide_eq_false (p := (path5.length : Int) > (0 : Int)) h11) rfl (PureD.opD (p_move rfl rfl)) ?_
                    refine r_on rfl rfl rfl rfl (decide_eq_false (p := (path5.length : Int) > (0 : Int)) h11) rfl (PureD.opD (p_move rfl rfl)) ?_
                    refine bindK H fun r'4 h12 H => ?_
                    refine r_on rfl rfl rfl rfl (decide_eq_false (p := (path5.length : Int) > (0 : Int)) h11) rfl (PureD.opD (p_callp rfl rfl rfl Tryd.func49 rfl rfl (g_bytes_Equal_ac h12) ⟨rfl, rfl, trivial⟩)) ?_
                    refine r_on rfl rfl rfl rfl (decide_eq_false (p := (path5.length : Int) > (0 : Int)) h11) rfl (PureD.opD (p_not rfl rfl)) ?_
                    refine rp rfl rfl (p_pkf rfl rfl (decide_eq_false (p := (path5.length : Int) > (0 : Int)) h11) (.same _)) ?_
                    refine rp rfl rfl (p_move rfl rfl) ?_
                    refine (Classical.em ((!r'4) = true)).elim (fun h13 => ?_) (fun h13 => ?_)
                    · replace H := ite_then h13 H
                      refine r_off rfl rfl rfl rfl h13 rfl rfl ?_
                      refine r_off rfl rfl rfl rfl h13 rfl rfl ?_
                      refine r_off rfl rfl rfl rfl h13 rfl rfl ?_
                      refine r_off2 rfl rfl rfl rfl rfl rfl ?_
                      refine r_off2 rfl rfl rfl rfl rfl rfl ?_
                      refine r_off2 rfl rfl rfl rfl rfl rfl ?_
                      refine r_off2 rfl rfl rfl rfl rfl rfl ?_
                      refine r_off rfl rfl rfl rfl h13 rfl rfl ?_
                      refine rp rfl rfl (p_pkt rfl rfl h13 (.same _)) ?_
                      refine rs [(63, .b true)] [] rfl rfl rfl ?_
                      have hz := some_elim H
                      subst hz
                      exact RunW_nil rfl
                    · replace H := ite_else h13 H
                      refine r_on rfl rfl rfl rfl (bfalse h13) rfl (PureD.opD (p_move rfl rfl)) ?_
                      refine r_on rfl rfl rfl rfl (bfalse h13) rfl (PureD.opD (p_ieq rfl rfl rfl)) ?_
                      refine r_on rfl rfl rfl rfl (bfalse h13) rfl (PureD.opD (p_move rfl rfl)) ?_
                      refine (Classical.em (n4 = (0 : Int))).elim (fun h14 => ?_) (fun h14 => ?_)
                      · replace H := ite_then h14 H
                        refine r_on rfl rfl rfl rfl (decide_eq_true (p := n4 = (0 : Int)) h14) rfl (PureD.opD (p_move rfl rfl)) ?_
                        refine r_on rfl rfl rfl rfl (decide_eq_true (p := n4 = (0 : Int)) h14) rfl (PureD.opD (p_move rfl rfl)) ?_
                        refine bindK H fun r'5 h15 H => ?_
                        refine r_on rfl rfl rfl rfl (decide_eq_true (p := n4 = (0 : Int)) h14) rfl (PureD.opD (p_callp rfl rfl rfl Tryd.func49 rfl rfl (g_bytes_Equal_ac h15) ⟨rfl, rfl, trivial⟩)) ?_
                        refine r_on rfl rfl rfl rfl (decide_eq_true (p := n4 = (0 : Int)) h14) rfl (PureD.opD (p_not rfl rfl)) ?_
                        refine r_on rfl rfl rfl rfl (bfalse h13) rfl (PureD.opD (p_pkt rfl rfl (decide_eq_true (p := n4 = (0 : Int)) h14) (.same _))) ?_
                        refine rp rfl rfl (p_pkf rfl rfl (bfalse h13) (.same _)) ?_
                        refine rs [(63, .b (!r'5))] [] rfl rfl rfl ?_
                        have hz := some_elim H
                        subst hz
                        exact RunW_nil rfl
                      · replace H := ite_else h14 H
                        refine r_off rfl rfl rfl rfl (decide_eq_false (p := n4 = (0 : Int)) h14) rfl rfl ?_
                        refine r_off rfl rfl rfl rfl (decide_eq_false (p := n4 = (0 : Int)) h14) rfl rfl ?_
                        refine r_off rfl rfl rfl rfl (decide_eq_false (p := n4 = (0 : Int)) h14) rfl rfl ?_
                        refine r_off rfl rfl rfl rfl (decide_eq_false (p := n4 = (0 : Int)) h14) rfl rfl ?_
                        refine r_on rfl rfl rfl rfl (bfalse h13) rfl (PureD.opD (p_pkf rfl rfl (decide_eq_false (p := n4 = (0 : Int)) h14) (.same _))) ?_
                        refine rp rfl rfl (p_pkf rfl rfl (bfalse h13) (.same _)) ?_
                        refine rs [(63, .b false)] [] rfl rfl rfl ?_
                        have hz := some_elim H
                        subst hz
                        exact RunW_nil rfl
              · refine AW2_cond rfl (fun h17 => ?_) (fun h17 => ?_)
                · replace H := ite_then h17 H
                  refine sg [0] rfl ?_
                  refine rp rfl rfl (p_asg rfl rfl) ?_
                  refine rz [(12, .i (10 : Int))] [] rfl rfl rfl ?_
                  refine AW2_ret ?_
                  have hz := some_elim H
                  subst hz
                  exact ⟨⟨res_tmp (.same _), trivial⟩, trivial⟩
                · replace H := ite_else (ne_true h17) H
                  refine as2 [] [] rfl rfl rfl ?_
                  refine AW2_skip ?_
                  refine sg [0] rfl ?_
                  refine rp rfl rfl (p_asg rfl rfl) ?_
                  refine rz [(12, .i (0 : Int))] [] rfl rfl rfl ?_
                  refine AW2_ret ?_
                  have hz := some_elim H
                  subst hz
                  exact ⟨⟨res_tmp (.same _), trivial⟩, trivial⟩
            · replace H := ite_else h7 H
              refine as2 [(0, .i mode0), (1, .y old1), (2, .i m2), (3, .y top3), (4, .i n4), (5, .p (AV.lists path5))] [] rfl rfl rfl ?_
              refine AW2_skip ?_
              refine sg [0, 1, 2, 3, 4, 5, 6, 7, 8, 9, 10, 11, 12, 13] rfl ?_
              refine rp rfl rfl (p_move rfl rfl) ?_
              refine rp rfl rfl (p_move rfl rfl) ?_
              refine rp rfl rfl (u_bld rfl in_80 one_80 zc_80 pl_80 rfl (af_cons rfl rfl (Groll_extension.upd0 Groll_extension.zero mode0) (af_cons rfl rfl (Groll_extension.upd1 ({ Groll_extension.zero with mode_ := mode0 }) old1) rfl))) ?_
              refine rp rfl rfl (p_move rfl rfl) ?_
              refine rp rfl rfl (p_move rfl rfl) ?_
              refine rp rfl rfl (p_move rfl rfl) ?_
              refine bindK H fun r'7 h19 H => ?_
              refine rp rfl rfl (p_callp rfl rfl rfl Tryd.func70 rfl rfl (g_roll_extension_roots_ac h19) ⟨rfl, rfl, rfl, rfl, rfl, trivial⟩) ?_
              refine rp rfl rfl (p_move rfl rfl) ?_
              refine rp rfl rfl (p_ext rfl rfl rfl rfl) ?_
              refine rp rfl rfl (p_ext rfl rfl rfl rfl) ?_
              refine rp rfl rfl (p_ext rfl rfl rfl rfl) ?_
              refine rp rfl rfl (p_asg rfl rfl) ?_
              refine rp rfl rfl (p_asg rfl rfl) ?_
              refine rp rfl rfl (p_asg rfl rfl) ?_
              refine rz [(1, .y old1), (3, .y top3), (15, .y r'7.1), (16, .y r'7.2.1), (17, .b r'7.2.2)] [] rfl rfl rfl ?_
              refine AW2_seq ?_
              refine AW2_seq ?_
              refine bindK H fun g'11 h25 H => ?_
              refine AW2_mid (⟨[(88, .b g'11)], [], 89⟩ : TS) ?_ ?_
              · clear H
                have H := h25
                clear h25
                refine AW2_reg [0, 1, 2, 3, 4, 5, 6, 7, 8, 9, 10, 11, 12, 13] rfl ?_
                refine rp rfl rfl (p_move rfl rfl) ?_
                refine rp rfl rfl (p_not rfl rfl) ?_
                refine rp rfl rfl (p_move rfl rfl) ?_
                refine (Classical.em ((!r'7.2.2) = true)).elim (fun h21 => ?_) (fun h21 => ?_)
                · replace H := ite_then h21 H
                  refine r_off rfl rfl rfl rfl h21 rfl rfl ?_
                  refine r_off rfl rfl rfl rfl h21 rfl rfl ?_
                  refine r_off rfl rfl rfl rfl h21 rfl rfl ?_
                  refine r_off rfl rfl rfl rfl h21 rfl rfl ?_
                  refine rp rfl rfl (p_pkt rfl rfl h21 (.same _)) ?_
                  refine rp rfl rfl (p_move rfl rfl) ?_
                  refine r_off rfl rfl rfl rfl rfl rfl rfl ?_
                  refine r_off rfl rfl rfl rfl rfl rfl rfl ?_
                  refine r_off rfl rfl rfl rfl rfl rfl rfl ?_
                  refine r_off rfl rfl rfl rfl rfl rfl rfl ?_
                  refine rp rfl rfl (p_pkt rfl rfl rfl (.same _)) ?_
                  refine rs [(88, .b true)] [] rfl rfl rfl ?_
                  have hz := some_elim H
                  subst hz
                  exact RunW_nil rfl
                · replace H := ite_else h21 H
                  refine r_on rfl rfl rfl rfl (bfalse h21) rfl (PureD.opD (p_move rfl rfl)) ?_
                  refine r_on rfl rfl rfl rfl (bfalse h21) rfl (PureD.opD (p_move rfl rfl)) ?_
                  refine bindK H fun r'9 h22 H => ?_
                  refine r_on rfl rfl rfl rfl (bfalse h21) rfl (PureD.opD (p_callp rfl rfl rfl Tryd.func49 rfl rfl (g_bytes_Equal_ac h22) ⟨rfl, rfl, trivial⟩)) ?_
                  refine r_on rfl rfl rfl rfl (bfalse h21) rfl (PureD.opD (p_not rfl rfl)) ?_
                  refine rp rfl rfl (p_pkf rfl rfl (bfalse h21) (.same _)) ?_
                  refine rp rfl rfl (p_move rfl rfl) ?_
                  refine (Classical.em ((!r'9) = true)).elim (fun h23 => ?_) (fun h23 => ?_)
                  · replace H := ite_then h23 H
                    refine r_off rfl rfl rfl rfl h23 rfl rfl ?_
                    refine r_off rfl rfl rfl rfl h23 rfl rfl ?_
                    refine r_off rfl rfl rfl rfl h23 rfl rfl ?_
                    refine r_off rfl rfl rfl rfl h23 rfl rfl ?_
                    refine rp rfl rfl (p_pkt rfl rfl h23 (.same _)) ?_
                    refine rs [(88, .b true)] [] rfl rfl rfl ?_
                    have hz := some_elim H
                    subst hz
                    exact RunW_nil rfl
                  · replace H := ite_else h23 H
                    refine r_on rfl rfl rfl rfl (bfalse h23) rfl (PureD.opD (p_move rfl rfl)) ?_
                    refine r_on rfl rfl rfl rfl (bfalse h23) rfl (PureD.opD (p_move rfl rfl)) ?_
                    refine bindK H fun r'10 h24 H => ?_
                    refine r_on rfl rfl rfl rfl (bfalse h23) rfl (PureD.opD (p_callp rfl rfl rfl Tryd.func49 rfl rfl (g_bytes_Equal_ac h24) ⟨rfl, rfl, trivial⟩)) ?_
                    refine r_on rfl rfl rfl rfl (bfalse h23) rfl (PureD.opD (p_not rfl rfl)) ?_
                    refine rp rfl rfl (p_pkf rfl rfl (bfalse h23) (.same _)) ?_
                    refine rs [(88, .b (!r'10))] [] rfl rfl rfl ?_
                    have hz := some_elim H
                    subst hz
                    exact RunW_nil rfl
              · refine AW2_cond rfl (fun h26 => ?_) (fun h26 => ?_)
                · replace H := ite_then h26 H
                  refine sg [0] rfl ?_
                  refine rp rfl rfl (p_asg rfl rfl) ?_
                  refine rz [(12, .i (10 : Int))] [] rfl rfl rfl ?_
                  refine AW2_ret ?_
                  have hz := some_elim H
                  subst hz
                  exact ⟨⟨res_tmp (.same _), trivial⟩, trivial⟩
                · replace H := ite_else (ne_true h26) H
                  refine as2 [] [] rfl rfl rfl ?_
                  refine AW2_skip ?_
                  refine sg [0] rfl ?_
                  refine rp rfl rfl (p_asg rfl rfl) ?_
                  refine rz [(12, .i (0 : Int))] [] rfl rfl rfl ?_
                  refine AW2_ret ?_
                  have hz := some_elim H
                  subst hz
                  exact ⟨⟨res_tmp (.same _), trivial⟩, trivial⟩

/-! chirographref.extended -/
noncomputable def g_ref_extended_l0 : Int × Int → Option ((Int × Int) ⊕ ((Int × Int)))
  | (at13_0, last14_0) => (if at13_0.tmod (2 : Int) = (1 : Int) then some (.inl (w64 (at13_0.tdiv (2 : Int)), w64 (last14_0.tdiv (2 : Int)))) else some (.inr (at13_0, last14_0)))
noncomputable def g_ref_extended_l2 : Int × Int → Option ((Int × Int) ⊕ ((Int × Int)))
  | (at13_2, last14_2) => (if (at13_2.tmod (2 : Int) = (0 : Int)) ∧ (at13_2 > (0 : Int)) then some (.inl (w64 (at13_2.tdiv (2 : Int)), w64 (last14_2.tdiv (2 : Int)))) else some (.inr (at13_2, last14_2)))
noncomputable def g_ref_extended_l1 (mode0 : Int) (j'5 : (List (List UInt8))) : Int × Int × (List UInt8) × (List UInt8) × Int × Int × Int → Option ((Int × Int × (List UInt8) × (List UInt8) × Int × Int × Int) ⊕ (Bool ⊕ (Int × (List UInt8) × (List UInt8) × Int × Int)))
  | (at13_1, last14_1, was15_1, is16_1, e17_1, f18_1, t50_1) => (if t50_1 < ((cut j'5 (1 : Int) (j'5.length : Int)).length : Int) then if 0 ≤ t50_1 ∧ t50_1 < ((cut j'5 (1 : Int) (j'5.length : Int)).length : Int) then (if ((last14_1 = (0 : Int)) ∨ (e17_1 ≠ (0 : Int))) ∨ (f18_1 ≠ (0 : Int)) then some (.inr (.inl false)) else ((if (at13_1.tmod (2 : Int) = (1 : Int)) ∨ (at13_1 = last14_1) then (g_ref_DigestOf mode0 (6 : Int) ([(lrd (cut j'5 (1 : Int) (j'5.length : Int)) t50_1.toNat), was15_1] : List (List UInt8))).bind fun r'7 => (g_ref_DigestOf mode0 (6 : Int) ([(lrd (cut j'5 (1 : Int) (j'5.length : Int)) t50_1.toNat), is16_1] : List (List UInt8))).bind fun r'8 => (loopO (g_ref_extended_l2) (at13_1, last14_1)).bind fun y'12 => some (y'12.1, y'12.2, r'7.1, r'8.1, r'7.2, r'8.2) else (g_ref_DigestOf mode0 (6 : Int) ([is16_1, (lrd (cut j'5 (1 : Int) (j'5.length : Int)) t50_1.toNat)] : List (List UInt8))).bind fun r'13 => some (at13_1, last14_1, was15_1, r'13.1, e17_1, r'13.2))).bind fun j'6 => some (.inl (w64 (j'6.1.tdiv (2 : Int)), w64 (j'6.2.1.tdiv (2 : Int)), j'6.2.2.1, j'6.2.2.2.1, j'6.2.2.2.2.1, j'6.2.2.2.2.2, w64 (t50_1 + (1 : Int))))) else none else some (.inr (.inr (last14_1, was15_1, is16_1, e17_1, f18_1))))
noncomputable def g_ref_extended (mode0 : Int) (old1 : List UInt8) (m2 : Int) (head3 : List UInt8) (n4 : Int) (path5 : List (List UInt8)) : Option (Bool) :=
  (loopO (g_ref_extended_l0) (w64 (m2 - (1 : Int)), w64 (n4 - (1 : Int)))).bind fun y'4 => ((if y'4.1 = (0 : Int) then if room (([old1] : List (List UInt8)).length + path5.length) 24 then some (([old1] : List (List UInt8)) ++ path5) else none else some path5)).bind fun j'5 => (if (j'5.length : Int) = (0 : Int) then some false else if 0 < j'5.length then if 0 < j'5.length then if 0 ≤ (1 : Int) ∧ (1 : Int) ≤ (j'5.length : Int) then (loopO (g_ref_extended_l1 mode0 j'5) (y'4.1, y'4.2, (lrd j'5 0), (lrd j'5 0), (0 : Int), (0 : Int), (0 : Int))).bind fun o'17 => match o'17 with | .inl y'18 => some y'18 | .inr (y'19) => some (decide (((((y'19.2.2.2.1 = (0 : Int)) ∧ (y'19.2.2.2.2 = (0 : Int))) ∧ (y'19.1 = (0 : Int))) ∧ (y'19.2.1 = old1)) ∧ (y'19.2.2.1 = head3))) else none else none else none)
set_option maxHeartbeats 4000000 in
set_option maxRecDepth 100000 in
theorem g_ref_extended_ac {mode0 : Int} {old1 : List UInt8} {m2 : Int} {head3 : List UInt8} {n4 : Int} {path5 : List (List UInt8)} {r : Bool} (H : g_ref_extended mode0 old1 m2 head3 n4 path5 = some r) : ACp Tryd.prog 71 [(AV.int mode0), (AV.bytes old1), (AV.int m2), (AV.bytes head3), (AV.int n4), (AV.lists path5)] (AV.bool r) := by
  refine ACp_of (AC2_of_body (vs := [.b r]) Tryd.func71 rfl rfl (Nat.le_of_ble_eq_true rfl) rfl ?_) (fun _ => .same _)
  unfold g_ref_extended at H
  refine as2 [(0, .i mode0), (1, .y old1), (2, .i m2), (3, .y head3), (4, .i n4), (5, .p (AV.lists path5))] [] rfl rfl rfl ?_
  refine sg [0] rfl ?_
  refine rp rfl rfl (p_asg rfl rfl) ?_
  refine rz [(0, .i mode0), (1, .y old1), (2, .i m2), (3, .y head3), (4, .i n4), (5, .p (AV.lists path5))] [] rfl rfl rfl ?_
  refine sg [0, 1, 2, 3, 4, 5] rfl ?_
  refine rp rfl rfl (p_move rfl rfl) ?_
  refine rp rfl rfl (p_bin rfl rfl rfl rfl) ?_
  refine rp rfl rfl (p_move rfl rfl) ?_
  refine rp rfl rfl (p_bin rfl rfl rfl rfl) ?_
  refine rp rfl rfl (p_asg rfl rfl) ?_
  refine rp rfl rfl (p_asg rfl rfl) ?_
  refine rz [(0, .i mode0), (1, .y old1), (3, .y head3), (5, .p (AV.lists path5)), (13, .i (w64 (m2 - (1 : Int)))), (14, .i (w64 (n4 - (1 : Int))))] [] rfl rfl rfl ?_
  refine AW2_seq ?_
  refine AW2_block ?_
  refine as2 [(0, .i mode0), (1, .y old1), (3, .y head3), (5, .p (AV.lists path5)), (13, .i (w64 (m2 - (1 : Int)))), (14, .i (w64 (n4 - (1 : Int))))] [] rfl rfl rfl ?_
  refine bindK H fun y'4 h2 H => ?_
  refine AW2_loopO (fun a'1 : Int × Int => (⟨[(0, .i mode0), (1, .y old1), (3, .y head3), (5, .p (AV.lists path5)), (13, .i a'1.1), (14, .i a'1.2)], [], 136⟩ : TS)) (fun (y'2 : (Int × Int)) e s' => e = Go.Exit.exit 0 ∧ s' = (⟨[(0, .i mode0), (1, .y old1), (3, .y head3), (5, .p (AV.lists path5)), (13, .i y'2.1), (14, .i y'2.2)], [], 136⟩ : TS)) h2 rfl (fun a x hx => ?_) (fun e s' hs => ?_)
  · clear H
    obtain ⟨at13_0, last14_0⟩ := a
    have H := hx
    clear hx
    unfold g_ref_extended_l0 at H
    refine AW2_seq ?_
    refine sg [0, 1, 2] rfl ?_
    refine rp rfl rfl (p_move rfl rfl) ?_
    refine rp rfl rfl (p_irem rfl rfl rfl (by decide)) ?_
    refine rp rfl rfl (p_ieq rfl rfl rfl) ?_
    refine rz [(0, .i mode0), (1, .y old1), (3, .y head3), (5, .p (AV.lists path5)), (13, .i at13_0), (14, .i last14_0), (27, .b (decide (at13_0.tmod (2 : Int) = (1 : Int))))] [] rfl rfl rfl ?_
    refine AW2_if (p := at13_0.tmod (2 : Int) = (1 : Int)) rfl (fun h1 => ?_) (fun h1 => ?_)
    · replace H := ite_then h1 H
      refine as2 [(0, .i mode0), (1, .y old1), (3, .y head3), (5, .p (AV.lists path5)), (13, .i at13_0), (14, .i last14_0)] [] rfl rfl rfl ?_
      refine AW2_skip ?_
      refine AW2_block ?_
      refine AW2_reg [0, 1, 2, 3, 4, 5] rfl ?_
      refine rp rfl rfl (p_move rfl rfl) ?_
      refine rp rfl rfl (p_iquo rfl rfl rfl (by decide)) ?_
      refine rp rfl rfl (p_move rfl rfl) ?_
      refine rp rfl rfl (p_iquo rfl rfl rfl (by decide)) ?_
      refine rp rfl rfl (p_asg rfl rfl) ?_
      refine rp rfl rfl (p_asg rfl rfl) ?_
      refine rz [(0, .i mode0), (1, .y old1), (3, .y head3), (5, .p (AV.lists path5)), (13, .i (w64 (at13_0.tdiv (2 : Int)))), (14, .i (w64 (last14_0.tdiv (2 : Int))))] [] rfl rfl rfl ?_
      have hz := some_elim H
      subst hz
      exact ⟨rfl, rfl⟩
    · replace H := ite_else h1 H
      refine as2 [(0, .i mode0), (1, .y old1), (3, .y head3), (5, .p (AV.lists path5)), (13, .i at13_0), (14, .i last14_0)] [] rfl rfl rfl ?_
      refine AW2_exit ?_
      refine thenQ2_exit ?_
      have hz := some_elim H
      subst hz
      exact ⟨rfl, rfl⟩
  · obtain ⟨rfl, rfl⟩ := hs
    refine ⟨by simp, ?_⟩
    refine blockQ2_exit ?_
    refine AW2_seq ?_
    refine bindK H fun j'5 h3 H => ?_
    refine AW2_mid (⟨[(0, .i mode0), (1, .y old1), (3, .y head3), (5, .p (AV.lists j'5)), (13, .i y'4.1), (14, .i y'4.2)], [], 136⟩ : TS) ?_ ?_
    · clear H
      have H := h3
      clear h3
      refine sg [0, 1] rfl ?_
      refine rp rfl rfl (p_move rfl rfl) ?_
      refine rp rfl rfl (p_ieq rfl rfl rfl) ?_
      refine rz [(0, .i mode0), (1, .y old1), (3, .y head3), (5, .p (AV.lists path5)), (13, .i y'4.1), (14, .i y'4.2), (33, .b (decide (y'4.1 = (0 : Int))))] [] rfl rfl rfl ?_
      refine AW2_if (p := y'4.1 = (0 : Int)) rfl (fun h4 => ?_) (fun h4 => ?_)
      · replace H := ite_then h4 H
        refine AW2_reg [0, 1, 2, 3, 4] rfl ?_
        refine rp rfl rfl (p_move rfl rfl) ?_
        refine r_op rfl rfl (MakeD.opD (u_bs 35 rfl Tryd.underlying33 in_22 rfl one_22 (by decide) (by decide) rfl rfl rfl) rfl rfl rfl rfl) ?_
        refine rp rfl rfl (p_move rfl rfl) ?_
        refine chkK H fun h5 H => ?_
        refine r_op rfl rfl (u_app [35] rfl rfl rfl rfl Tryd.underlying33 Tryd.underlying33 in_22 rfl rfl rfl (ml AV.bytes ([old1] : List (List UInt8))) (by decide) rfl (ml AV.bytes path5) h5 (by decide) rfl rfl (mapp AV.bytes ([old1] : List (List UInt8)) path5) (lapp ([old1] : List (List UInt8)) path5)) ?_
        refine rp rfl rfl (p_asg rfl rfl) ?_
        refine rs [(0, .i mode0), (1, .y old1), (3, .y head3), (5, .c (.own 35 (([old1] : List (List UInt8)) ++ path5).length 1)), (13, .i y'4.1), (14, .i y'4.2)] [(35, .pure ((([old1] : List (List UInt8)) ++ path5).map AV.bytes))] rfl rfl rfl ?_
        refine RunW_gho (Gho_ren 35 5 rfl rfl rfl rfl rfl) ?_
        refine rs [(0, .i mode0), (1, .y old1), (3, .y head3), (5, .c (.own 5 (([old1] : List (List UInt8)) ++ path5).length 1)), (13, .i y'4.1), (14, .i y'4.2)] [(5, .pure ((([old1] : List (List UInt8)) ++ path5).map AV.bytes))] rfl rfl rfl ?_
        refine RunW_gho (Gho_pubs [5] ⟨rfl, trivial⟩ rfl (ml AV.bytes (([old1] : List (List UInt8)) ++ path5)) (by decide)) ?_
        refine rz [(0, .i mode0), (1, .y old1), (3, .y head3), (5, .p (AV.lists (([old1] : List (List UInt8)) ++ path5))), (13, .i y'4.1), (14, .i y'4.2)] [] rfl rfl rfl ?_
        have hz := some_elim H
        subst hz
        exact rfl
      · replace H := ite_else h4 H
        refine as2 [(0, .i mode0), (1, .y old1), (3, .y head3), (5, .p (AV.lists path5)), (13, .i y'4.1), (14, .i y'4.2)] [] rfl rfl rfl ?_
        refine AW2_skip ?_
        have hz := some_elim H
        subst hz
        exact rfl
    · refine AW2_seq ?_
      refine sg [0, 1, 2] rfl ?_
      refine rp rfl rfl (p_move rfl rfl) ?_
      refine rp rfl rfl (p_lenl rfl Tryd.underlying33 rfl rfl) ?_
      refine rp rfl rfl (p_ieq rfl rfl rfl) ?_
      refine rz [(0, .i mode0), (1, .y old1), (3, .y head3), (5, .p (AV.lists j'5)), (13, .i y'4.1), (14, .i y'4.2), (40, .b (decide ((j'5.length : Int) = (0 : Int))))] [] rfl rfl rfl ?_
      refine AW2_if (p := (j'5.length : Int) = (0 : Int)) rfl (fun h6 => ?_) (fun h6 => ?_)
      · replace H := ite_then h6 H
        refine sg [0] rfl ?_
        refine rp rfl rfl (p_asg rfl rfl) ?_
        refine rz [(12, .b false)] [] rfl rfl rfl ?_
        refine AW2_ret ?_
        have hz := some_elim H
        subst hz
        exact ⟨⟨res_tmp (.same _), trivial⟩, trivial⟩
      · replace H := ite_else h6 H
        refine as2 [(0, .i mode0), (1, .y old1), (3, .y head3), (5, .p (AV.lists j'5)), (13, .i y'4.1), (14, .i y'4.2)] [] rfl rfl rfl ?_
        refine AW2_skip ?_
        refine AW2_seq ?_
        refine chkK H fun h7 H => ?_
        refine chkK H fun h8 H => ?_
        refine AW2_ghoQ ?_
        refine AW2_draw 7 [7] (fun k => ([.p (AV.lists j'5), .p (.rptr (j'5.map AV.bytes) (0 * 1)), .y (lrd j'5 0), .p (AV.lists j'5), .p (.rptr (j'5.map AV.bytes) (0 * 1)), .y (lrd j'5 0), .y (lrd j'5 0)] : List TV).getD k TV.any) (fun k => ([[(5, none)], [(41, some 0)], [(42, some 1)], [(5, none)], [(44, some 3)], [(45, some 4)], [(43, some 2)]] : List (List (Nat × Option Nat))).getD k []) [(0, none), (1, none), (3, none), (5, none), (13, none), (14, none), (15, some 6), (46, some 5)] [] (fun k => ([[], [0], [0, 1], [], [3], [3, 4], [0, 1, 2], [0, 1, 2, 3, 4, 5, 6]] : List (List Nat)).getD k []) mixed (by kernel_rfl) rfl rfl (a_op (g_x rfl (x_p rfl (p_move rfl rfl) rfl)) (a_op (g_x rfl (x_p rfl (u_ixl rfl rfl Tryd.underlying33 in_22 rfl rfl rfl h7 (lne h7)) rfl)) (a_op (g_x rfl (x_p rfl (u_ld rfl rfl Tryd.underlying22 rfl rfl (Sub.map default h7)) rfl)) (a_op (g_x rfl (x_p rfl (p_move rfl rfl) rfl)) (a_op (g_x rfl (x_p rfl (u_ixl rfl rfl Tryd.underlying33 in_22 rfl rfl rfl h8 (lne h8)) rfl)) (a_op (g_x rfl (x_p rfl (u_ld rfl rfl Tryd.underlying22 rfl rfl (Sub.map default h8)) rfl)) (a_op (g_x rfl (x_p rfl (p_asg rfl rfl) rfl)) (a_nil)))))))) ?_
        refine t_op rfl rfl (PureD.opD (p_asg rfl rfl)) ?_
        refine t_gho (Gho_st (L := [(0, .i mode0), (1, .y old1), (3, .y head3), (5, .p (AV.lists j'5)), (13, .i y'4.1), (14, .i y'4.2), (15, .y (lrd j'5 0)), (16, .y (lrd j'5 0))]) (H := []) rfl ⟨TLes.same _, TLes.same _, TLes.same _, TLes.same _, TLes.same _, TLes.same _, TLes.same _, TLes.same _, trivial⟩ trivial) ?_
        refine sg [0, 1] rfl ?_
        refine rp rfl rfl (p_asg rfl rfl) ?_
        refine rp rfl rfl (p_asg rfl rfl) ?_
        refine rz [(0, .i mode0), (1, .y old1), (3, .y head3), (5, .p (AV.lists j'5)), (13, .i y'4.1), (14, .i y'4.2), (15, .y (lrd j'5 0)), (16, .y (lrd j'5 0)), (17, .i (0 : Int)), (18, .i (0 : Int))] [] rfl rfl rfl ?_
        refine AW2_seq ?_
        refine sg [0, 1, 2, 3] rfl ?_
        refine rp rfl rfl (p_move rfl rfl) ?_
        refine chkK H fun h9 H => ?_
        refine rp rfl rfl (u_cutl (g := (fun l => l.map AV.bytes)) (a := (1 : Int)) (b := (j'5.length : Int)) rfl rfl Tryd.underlying33 in_22 rfl (bT_i (show 0 ≤ (1 : Int) ∧ (1 : Int) ≤ (j'5.length : Int) ∧ (j'5.length : Int) ≤ (j'5.length : Int) from ⟨h9.1, h9.2, Int.le_refl _⟩).1 rfl) (bT_len _) (.inl rfl) (show 0 ≤ (1 : Int) ∧ (1 : Int) ≤ (j'5.length : Int) ∧ (j'5.length : Int) ≤ (j'5.length : Int) from ⟨h9.1, h9.2, Int.le_refl _⟩) (g_map AV.bytes)) ?_
        refine rp rfl rfl (p_lenl rfl Tryd.underlying33 rfl rfl) ?_
        refine rp rfl rfl (p_move rfl rfl) ?_
        refine rz [(0, .i mode0), (1, .y old1), (3, .y head3), (13, .i y'4.1), (14, .i y'4.2), (15, .y (lrd j'5 0)), (16, .y (lrd j'5 0)), (17, .i (0 : Int)), (18, .i (0 : Int)), (48, .p (AV.lists (cut j'5 (1 : Int) (j'5.length : Int)))), (49, .i ((cut j'5 (1 : Int) (j'5.length : Int)).length : Int)), (50, .i (0 : Int))] [] rfl rfl rfl ?_
        refine AW2_block ?_
        refine as2 [(0, .i mode0), (1, .y old1), (3, .y head3), (13, .i y'4.1), (14, .i y'4.2), (15, .y (lrd j'5 0)), (16, .y (lrd j'5 0)), (17, .i (0 : Int)), (18, .i (0 : Int)), (48, .p (AV.lists (cut j'5 (1 : Int) (j'5.length : Int)))), (49, .i ((cut j'5 (1 : Int) (j'5.length : Int)).length : Int)), (50, .i (0 : Int))] [] rfl rfl rfl ?_
        refine bindK H fun o'17 h24 H => ?_
        refine AW2_loopO (fun a'14 : Int × Int × (List UInt8) × (List UInt8) × Int × Int × Int => (⟨[(0, .i mode0), (1, .y old1), (3, .y head3), (13, .i a'14.1), (14, .i a'14.2.1), (15, .y a'14.2.2.1), (16, .y a'14.2.2.2.1), (17, .i a'14.2.2.2.2.1), (18, .i a'14.2.2.2.2.2.1), (48, .p (AV.lists (cut j'5 (1 : Int) (j'5.length : Int)))), (49, .i ((cut j'5 (1 : Int) (j'5.length : Int)).length : Int)), (50, .i a'14.2.2.2.2.2.2)], [], 136⟩ : TS)) (fun (o : Bool ⊕ (Int × (List UInt8) × (List UInt8) × Int × Int)) e s' => match o with | .inl y'15 => e = Go.Exit.ret ∧ ResAll Tryd.prog s' [ResultVar.tmp 12] [.b y'15] ∧ HFits s' [] | .inr (y'16) => e = Go.Exit.exit 2 ∧ s' = (⟨[(1, .y old1), (3, .y head3), (14, .i y'16.1), (15, .y y'16.2.1), (16, .y y'16.2.2.1), (17, .i y'16.2.2.2.1), (18, .i y'16.2.2.2.2)], [], 136⟩ : TS)) h24 rfl (fun a x hx => ?_) (fun e s' hs => ?_)
        · clear H
          obtain ⟨at13_1, last14_1, was15_1, is16_1, e17_1, f18_1, t50_1⟩ := a
          have H := hx
          clear hx
          unfold g_ref_extended_l1 at H
          refine sg [0] rfl ?_
          refine rp rfl rfl (p_bin rfl rfl rfl rfl) ?_
          refine rz [(0, .i mode0), (1, .y old1), (3, .y head3), (13, .i at13_1), (14, .i last14_1), (15, .y was15_1), (16, .y is16_1), (17, .i e17_1), (18, .i f18_1), (48, .p (AV.lists (cut j'5 (1 : Int) (j'5.length : Int)))), (49, .i ((cut j'5 (1 : Int) (j'5.length : Int)).length : Int)), (50, .i t50_1), (51, .b (decide (t50_1 < ((cut j'5 (1 : Int) (j'5.length : Int)).length : Int))))] [] rfl rfl rfl ?_
          refine AW2_seq ?_
          refine AW2_if (p := t50_1 < ((cut j'5 (1 : Int) (j'5.length : Int)).length : Int)) rfl (fun h10 => ?_) (fun h10 => ?_)
          · replace H := ite_then h10 H
            refine as2 [(0, .i mode0), (1, .y old1), (3, .y head3), (13, .i at13_1), (14, .i last14_1), (15, .y was15_1), (16, .y is16_1), (17, .i e17_1), (18, .i f18_1), (48, .p (AV.lists (cut j'5 (1 : Int) (j'5.length : Int)))), (49, .i ((cut j'5 (1 : Int) (j'5.length : Int)).length : Int)), (50, .i t50_1)] [] rfl rfl rfl ?_
            refine AW2_skip ?_
            refine AW2_seq ?_
            refine AW2_block ?_
            refine sg [0, 1, 2] rfl ?_
            refine chkK H fun h11 H => ?_
            refine rp rfl rfl (u_ixl rfl rfl Tryd.underlying33 in_22 rfl rfl (ixe h11) (ixn h11) (lne (ixn h11))) ?_
            refine rp rfl rfl (u_ld rfl rfl Tryd.underlying22 rfl rfl (Sub.map default (ixn h11))) ?_
            refine rp rfl rfl (p_asg rfl rfl) ?_
            refine rz [(0, .i mode0), (1, .y old1), (3, .y head3), (13, .i at13_1), (14, .i last14_1), (15, .y was15_1), (16, .y is16_1), (17, .i e17_1), (18, .i f18_1), (20, .y (lrd (cut j'5 (1 : Int) (j'5.length : Int)) t50_1.toNat)), (48, .p (AV.lists (cut j'5 (1 : Int) (j'5.length : Int)))), (49, .i ((cut j'5 (1 : Int) (j'5.length : Int)).length : Int)), (50, .i t50_1)] [] rfl rfl rfl ?_
            refine AW2_seq ?_
            refine AW2_seq ?_
            refine AW2_mid (⟨[(0, .i mode0), (1, .y old1), (3, .y head3), (13, .i at13_1), (14, .i last14_1), (15, .y was15_1), (16, .y is16_1), (17, .i e17_1), (20, .y (lrd (cut j'5 (1 : Int) (j'5.length : Int)) t50_1.toNat)), (48, .p (AV.lists (cut j'5 (1 : Int) (j'5.length : Int)))), (49, .i ((cut j'5 (1 : Int) (j'5.length : Int)).length : Int)), (50, .i t50_1), (63, .b (decide (((last14_1 = (0 : Int)) ∨ (e17_1 ≠ (0 : Int))) ∨ (f18_1 ≠ (0 : Int)))))], [], 136⟩ : TS) ?_ ?_
            · refine AW2_reg [0, 1, 2, 3, 4, 5, 6, 7, 8, 9] rfl ?_
              refine rp rfl rfl (p_move rfl rfl) ?_
              refine rp rfl rfl (p_ieq rfl rfl rfl) ?_
              refine rp rfl rfl (p_move rfl rfl) ?_
              refine (Classical.em (last14_1 = (0 : Int))).elim (fun h12 => ?_) (fun h12 => ?_)
              · refine r_off rfl rfl rfl rfl (decide_eq_true (p := last14_1 = (0 : Int)) h12) rfl rfl ?_
                refine r_off rfl rfl rfl rfl (decide_eq_true (p := last14_1 = (0 : Int)) h12) rfl rfl ?_
                refine rp rfl rfl (p_pkt rfl rfl (decide_eq_true (p := last14_1 = (0 : Int)) h12) (tb (decide_eq_true (p := (last14_1 = (0 : Int)) ∨ (e17_1 ≠ (0 : Int))) (Or.inl h12)).symm)) ?_
                refine rp rfl rfl (p_move rfl rfl) ?_
                refine r_off rfl rfl rfl rfl (decide_eq_true (p := (last14_1 = (0 : Int)) ∨ (e17_1 ≠ (0 : Int))) (Or.inl h12)) rfl rfl ?_
                refine r_off rfl rfl rfl rfl (decide_eq_true (p := (last14_1 = (0 : Int)) ∨ (e17_1 ≠ (0 : Int))) (Or.inl h12)) rfl rfl ?_
                refine rp rfl rfl (p_pkt rfl rfl (decide_eq_true (p := (last14_1 = (0 : Int)) ∨ (e17_1 ≠ (0 : Int))) (Or.inl h12)) (tb (decide_eq_true (p := ((last14_1 = (0 : Int)) ∨ (e17_1 ≠ (0 : Int))) ∨ (f18_1 ≠ (0 : Int))) (Or.inl (Or.inl h12))).symm)) ?_
                refine rs [(0, .i mode0), (1, .y old1), (3, .y head3), (13, .i at13_1), (14, .i last14_1), (15, .y was15_1), (16, .y is16_1), (17, .i e17_1), (20, .y (lrd (cut j'5 (1 : Int) (j'5.length : Int)) t50_1.toNat)), (48, .p (AV.lists (cut j'5 (1 : Int) (j'5.length : Int)))), (49, .i ((cut j'5 (1 : Int) (j'5.length : Int)).length : Int)), (50, .i t50_1), (63, .b (decide (((last14_1 = (0 : Int)) ∨ (e17_1 ≠ (0 : Int))) ∨ (f18_1 ≠ (0 : Int)))))] [] rfl rfl rfl ?_
                exact RunW_nil rfl
              · refine r_on rfl rfl rfl rfl (decide_eq_false (p := last14_1 = (0 : Int)) h12) rfl (PureD.opD (p_move rfl rfl)) ?_
                refine r_on rfl rfl rfl rfl (decide_eq_false (p := last14_1 = (0 : Int)) h12) rfl (PureD.opD (p_ine rfl rfl rfl)) ?_
                refine rp rfl rfl (p_pkf rfl rfl (decide_eq_false (p := last14_1 = (0 : Int)) h12) (tb ((or_l (p := last14_1 = (0 : Int)) (q := e17_1 ≠ (0 : Int)) h12)))) ?_
                refine rp rfl rfl (p_move rfl rfl) ?_
                refine (Classical.em (e17_1 ≠ (0 : Int))).elim (fun h13 => ?_) (fun h13 => ?_)
                · refine r_off rfl rfl rfl rfl (decide_eq_true (p := (last14_1 = (0 : Int)) ∨ (e17_1 ≠ (0 : Int))) (Or.inr h13)) rfl rfl ?_
                  refine r_off rfl rfl rfl rfl (decide_eq_true (p := (last14_1 = (0 : Int)) ∨ (e17_1 ≠ (0 : Int))) (Or.inr h13)) rfl rfl ?_
                  refine rp rfl rfl (p_pkt rfl rfl (decide_eq_true (p := (last14_1 = (0 : Int)) ∨ (e17_1 ≠ (0 : Int))) (Or.inr h13)) (tb (decide_eq_true (p := ((last14_1 = (0 : Int)) ∨ (e17_1 ≠ (0 : Int))) ∨ (f18_1 ≠ (0 : Int))) (Or.inl (Or.inr h13))).symm)) ?_
                  refine rs [(0, .i mode0), (1, .y old1), (3, .y head3), (13, .i at13_1), (14, .i last14_1), (15, .y was15_1), (16, .y is16_1), (17, .i e17_1), (20, .y (lrd (cut j'5 (1 : Int) (j'5.length : Int)) t50_1.toNat)), (48, .p (AV.lists (cut j'5 (1 : Int) (j'5.length : Int)))), (49, .i ((cut j'5 (1 : Int) (j'5.length : Int)).length : Int)), (50, .i t50_1), (63, .b (decide (((last14_1 = (0 : Int)) ∨ (e17_1 ≠ (0 : Int))) ∨ (f18_1 ≠ (0 : Int)))))] [] rfl rfl rfl ?_
                  exact RunW_nil rfl
                · refine r_on rfl rfl rfl rfl (decide_eq_false (p := (last14_1 = (0 : Int)) ∨ (e17_1 ≠ (0 : Int))) (not_or.2 ⟨h12, h13⟩)) rfl (PureD.opD (p_move rfl rfl)) ?_
                  refine r_on rfl rfl rfl rfl (decide_eq_false (p := (last14_1 = (0 : Int)) ∨ (e17_1 ≠ (0 : Int))) (not_or.2 ⟨h12, h13⟩)) rfl (PureD.opD (p_ine rfl rfl rfl)) ?_
                  refine rp rfl rfl (p_pkf rfl rfl (decide_eq_false (p := (last14_1 = (0 : Int)) ∨ (e17_1 ≠ (0 : Int))) (not_or.2 ⟨h12, h13⟩)) (tb ((or_l (p := (last14_1 = (0 : Int)) ∨ (e17_1 ≠ (0 : Int))) (q := f18_1 ≠ (0 : Int)) (not_or.2 ⟨h12, h13⟩))))) ?_
                  refine rs [(0, .i mode0), (1, .y old1), (3, .y head3), (13, .i at13_1), (14, .i last14_1), (15, .y was15_1), (16, .y is16_1), (17, .i e17_1), (20, .y (lrd (cut j'5 (1 : Int) (j'5.length : Int)) t50_1.toNat)), (48, .p (AV.lists (cut j'5 (1 : Int) (j'5.length : Int)))), (49, .i ((cut j'5 (1 : Int) (j'5.length : Int)).length : Int)), (50, .i t50_1), (63, .b (decide (((last14_1 = (0 : Int)) ∨ (e17_1 ≠ (0 : Int))) ∨ (f18_1 ≠ (0 : Int)))))] [] rfl rfl rfl ?_
                  exact RunW_nil rfl
            · refine AW2_if (p := ((last14_1 = (0 : Int)) ∨ (e17_1 ≠ (0 : Int))) ∨ (f18_1 ≠ (0 : Int))) rfl (fun h14 => ?_) (fun h14 => ?_)
              · replace H := ite_then h14 H
                refine sg [0] rfl ?_
                refine rp rfl rfl (p_asg rfl rfl) ?_
                refine rz [(12, .b false)] [] rfl rfl rfl ?_
                refine AW2_ret ?_
                have hz := some_elim H
                subst hz
                exact ⟨rfl, ⟨res_tmp (.same _), trivial⟩, trivial⟩
              · replace H := ite_else h14 H
                refine as2 [(0, .i mode0), (1, .y old1), (3, .y head3), (13, .i at13_1), (14, .i last14_1), (15, .y was15_1), (16, .y is16_1), (17, .i e17_1), (20, .y (lrd (cut j'5 (1 : Int) (j'5.length : Int)) t50_1.toNat)), (48, .p (AV.lists (cut j'5 (1 : Int) (j'5.length : Int)))), (49, .i ((cut j'5 (1 : Int) (j'5.length : Int)).length : Int)), (50, .i t50_1)] [] rfl rfl rfl ?_
                refine AW2_skip ?_
                refine AW2_seq ?_
                refine bindK H fun j'6 h15 H => ?_
                refine AW2_mid (⟨[(0, .i mode0), (1, .y old1), (3, .y head3), (13, .i j'6.1), (14, .i j'6.2.1), (15, .y j'6.2.2.1), (16, .y j'6.2.2.2.1), (17, .i j'6.2.2.2.2.1), (18, .i j'6.2.2.2.2.2), (48, .p (AV.lists (cut j'5 (1 : Int) (j'5.length : Int)))), (49, .i ((cut j'5 (1 : Int) (j'5.length : Int)).length : Int)), (50, .i t50_1)], [], 136⟩ : TS) ?_ ?_
                · clear H
                  have H := h15
                  clear h15
                  refine AW2_seq ?_
                  refine AW2_mid (⟨[(0, .i mode0), (1, .y old1), (3, .y head3), (13, .i at13_1), (14, .i last14_1), (15, .y was15_1), (16, .y is16_1), (17, .i e17_1), (20, .y (lrd (cut j'5 (1 : Int) (j'5.length : Int)) t50_1.toNat)), (48, .p (AV.lists (cut j'5 (1 : Int) (j'5.length : Int)))), (49, .i ((cut j'5 (1 : Int) (j'5.length : Int)).length : Int)), (50, .i t50_1), (71, .b (decide ((at13_1.tmod (2 : Int) = (1 : Int)) ∨ (at13_1 = last14_1))))], [], 136⟩ : TS) ?_ ?_
                  · refine AW2_reg [0, 1, 2, 3, 4, 5, 6, 7] rfl ?_
                    refine rp rfl rfl (p_move rfl rfl) ?_
                    refine rp rfl rfl (p_irem rfl rfl rfl (by decide)) ?_
                    refine rp rfl rfl (p_ieq rfl rfl rfl) ?_
                    refine rp rfl rfl (p_move rfl rfl) ?_
                    refine (Classical.em (at13_1.tmod (2 : Int) = (1 : Int))).elim (fun h16 => ?_) (fun h16 => ?_)
                    · refine r_off rfl rfl rfl rfl (decide_eq_true (p := at13_1.tmod (2 : Int) = (1 : Int)) h16) rfl rfl ?_
                      refine r_off rfl rfl rfl rfl (decide_eq_true (p := at13_1.tmod (2 : Int) = (1 : Int)) h16) rfl rfl ?_
                      refine r_off rfl rfl rfl rfl (decide_eq_true (p := at13_1.tmod (2 : Int) = (1 : Int)) h16) rfl rfl ?_
                      refine rp rfl rfl (p_pkt rfl rfl (decide_eq_true (p := at13_1.tmod (2 : Int) = (1 : Int)) h16) (tb (decide_eq_true (p := (at13_1.tmod (2 : Int) = (1 : Int)) ∨ (at13_1 = last14_1)) (Or.inl h16)).symm)) ?_
                      refine rs [(0, .i mode0), (1, .y old1), (3, .y head3), (13, .i at13_1), (14, .i last14_1), (15, .y was15_1), (16, .y is16_1), (17, .i e17_1), (20, .y (lrd (cut j'5 (1 : Int) (j'5.length : Int)) t50_1.toNat)), (48, .p (AV.lists (cut j'5 (1 : Int) (j'5.length : Int)))), (49, .i ((cut j'5 (1 : Int) (j'5.length : Int)).length : Int)), (50, .i t50_1), (71, .b (decide ((at13_1.tmod (2 : Int) = (1 : Int)) ∨ (at13_1 = last14_1))))] [] rfl rfl rfl ?_
                      exact RunW_nil rfl
                    · refine r_on rfl rfl rfl rfl (decide_eq_false (p := at13_1.tmod (2 : Int) = (1 : Int)) h16) rfl (PureD.opD (p_move rfl rfl)) ?_
                      refine r_on rfl rfl rfl rfl (decide_eq_false (p := at13_1.tmod (2 : Int) = (1 : Int)) h16) rfl (PureD.opD (p_move rfl rfl)) ?_
                      refine r_on rfl rfl rfl rfl (decide_eq_false (p := at13_1.tmod (2 : Int) = (1 : Int)) h16) rfl (PureD.opD (p_ieq rfl rfl rfl)) ?_
                      refine rp rfl rfl (p_pkf rfl rfl (decide_eq_false (p := at13_1.tmod (2 : Int) = (1 : Int)) h16) (tb ((or_l (p := at13_1.tmod (2 : Int) = (1 : Int)) (q := at13_1 = last14_1) h16)))) ?_
                      refine rs [(0, .i mode0), (1, .y old1), (3, .y head3), (13, .i at13_1), (14, .i last14_1), (15, .y was15_1), (16, .y is16_1), (17, .i e17_1), (20, .y (lrd (cut j'5 (1 : Int) (j'5.length : Int)) t50_1.toNat)), (48, .p (AV.lists (cut j'5 (1 : Int) (j'5.length : Int)))), (49, .i ((cut j'5 (1 : Int) (j'5.length : Int)).length : Int)), (50, .i t50_1), (71, .b (decide ((at13_1.tmod (2 : Int) = (1 : Int)) ∨ (at13_1 = last14_1))))] [] rfl rfl rfl ?_
                      exact RunW_nil rfl
                  · refine AW2_if (p := (at13_1.tmod (2 : Int) = (1 : Int)) ∨ (at13_1 = last14_1)) rfl (fun h17 => ?_) (fun h17 => ?_)
                    · replace H := ite_then h17 H
                      refine sg [0, 1, 2, 3, 4, 5, 6, 7, 8, 9] rfl ?_
                      refine rp rfl rfl (p_move rfl rfl) ?_
                      refine rp rfl rfl (p_move rfl rfl) ?_
                      refine rp rfl rfl (p_move rfl rfl) ?_
                      refine r_op rfl rfl (MakeD.opD (u_bs 76 rfl Tryd.underlying33 in_22 rfl one_22 (by decide) (by decide) rfl rfl rfl) rfl rfl rfl rfl) ?_
                      refine RunW_st [(0, .i mode0), (1, .y old1), (3, .y head3), (13, .i at13_1), (14, .i last14_1), (15, .y was15_1), (16, .y is16_1), (17, .i e17_1), (20, .y (lrd (cut j'5 (1 : Int) (j'5.length : Int)) t50_1.toNat)), (48, .p (AV.lists (cut j'5 (1 : Int) (j'5.length : Int)))), (49, .i ((cut j'5 (1 : Int) (j'5.length : Int)).length : Int)), (50, .i t50_1), (71, .b (decide ((at13_1.tmod (2 : Int) = (1 : Int)) ∨ (at13_1 = last14_1)))), (73, .i mode0), (74, .y (lrd (cut j'5 (1 : Int) (j'5.length : Int)) t50_1.toNat)), (75, .y was15_1), (76, .c (.own 76 ([(lrd (cut j'5 (1 : Int) (j'5.length : Int)) t50_1.toNat), was15_1] : List (List UInt8)).length 1))] [(76, .pure (([(lrd (cut j'5 (1 : Int) (j'5.length : Int)) t50_1.toNat), was15_1] : List (List UInt8)).map AV.bytes))] rfl ⟨TLes.same _, TLes.same _, TLes.same _, TLes.same _, TLes.same _, TLes.same _, TLes.same _, TLes.same _, TLes.same _, TLes.same _, TLes.same _, TLes.same _, TLes.same _, TLes.same _, TLes.same _, TLes.same _, TLes.own rfl, trivial⟩ ⟨rfl, trivial⟩ ?_
                      refine RunW_gho (Gho_pubs [76] ⟨rfl, trivial⟩ rfl (ml AV.bytes ([(lrd (cut j'5 (1 : Int) (j'5.length : Int)) t50_1.toNat), was15_1] : List (List UInt8))) (by decide)) ?_
                      refine bindK H fun r'7 h18 H => ?_
                      refine rp rfl rfl (p_callp rfl rfl rfl Tryd.func42 rfl rfl (g_ref_DigestOf_ac h18) ⟨rfl, rfl, rfl, trivial⟩) ?_
                      refine rp rfl rfl (p_move rfl rfl) ?_
                      refine rp rfl rfl (p_ext rfl rfl rfl rfl) ?_
                      refine rp rfl rfl (p_ext rfl rfl rfl rfl) ?_
                      refine rp rfl rfl (p_asg rfl rfl) ?_
                      refine rp rfl rfl (p_asg rfl rfl) ?_
                      refine rz [(0, .i mode0), (1, .y old1), (3, .y head3), (13, .i at13_1), (14, .i last14_1), (15, .y r'7.1), (16, .y is16_1), (17, .i r'7.2), (20, .y (lrd (cut j'5 (1 : Int) (j'5.length : Int)) t50_1.toNat)), (48, .p (AV.lists (cut j'5 (1 : Int) (j'5.length : Int)))), (49, .i ((cut j'5 (1 : Int) (j'5.length : Int)).length : Int)), (50, .i t50_1)] [] rfl rfl rfl ?_
                      refine sg [0, 1, 2, 3, 4, 5, 6, 7, 8, 9] rfl ?_
                      refine rp rfl rfl (p_move rfl rfl) ?_
                      refine rp rfl rfl (p_move rfl rfl) ?_
                      refine rp rfl rfl (p_move rfl rfl) ?_
                      refine r_op rfl rfl (MakeD.opD (u_bs 84 rfl Tryd.underlying33 in_22 rfl one_22 (by decide) (by decide) rfl rfl rfl) rfl rfl rfl rfl) ?_
                      refine RunW_st [(0, .i mode0), (1, .y old1), (3, .y head3), (13, .i at13_1), (14, .i last14_1), (15, .y r'7.1), (16, .y is16_1), (17, .i r'7.2), (20, .y (lrd (cut j'5 (1 : Int) (j'5.length : Int)) t50_1.toNat)), (48, .p (AV.lists (cut j'5 (1 : Int) (j'5.length : Int)))), (49, .i ((cut j'5 (1 : Int) (j'5.length : Int)).length : Int)), (50, .i t50_1), (81, .i mode0), (82, .y (lrd (cut j'5 (1 : Int) (j'5.length : Int)) t50_1.toNat)), (83, .y is16_1), (84, .c (.own 84 ([(lrd (cut j'5 (1 : Int) (j'5.length : Int)) t50_1.toNat), is16_1] : List (List UInt8)).length 1))] [(84, .pure (([(lrd (cut j'5 (1 : Int) (j'5.length : Int)) t50_1.toNat), is16_1] : List (List UInt8)).map AV.bytes))] rfl ⟨TLes.same _, TLes.same _, TLes.same _, TLes.same _, TLes.same _, TLes.same _, TLes.same _, TLes.same _, TLes.same _, TLes.same _, TLes.same _, TLes.same _, TLes.same _, TLes.same _, TLes.same _, TLes.own rfl, trivial⟩ ⟨rfl, trivial⟩ ?_
                      refine RunW_gho (Gho_pubs [84] ⟨rfl, trivial⟩ rfl (ml AV.bytes ([(lrd (cut j'5 (1 : Int) (j'5.length : Int)) t50_1.toNat), is16_1] : List (List UInt8))) (by decide)) ?_
                      refine bindK H fun r'8 h19 H => ?_
                      refine rp rfl rfl (p_callp rfl rfl rfl Tryd.func42 rfl rfl (g_ref_DigestOf_ac h19) ⟨rfl, rfl, rfl, trivial⟩) ?_
                      refine rp rfl rfl (p_move rfl rfl) ?_
                      refine rp rfl rfl (p_ext rfl rfl rfl rfl) ?_
                      refine rp rfl rfl (p_ext rfl rfl rfl rfl) ?_
                      refine rp rfl rfl (p_asg rfl rfl) ?_
                      refine rp rfl rfl (p_asg rfl rfl) ?_
                      refine rz [(0, .i mode0), (1, .y old1), (3, .y head3), (13, .i at13_1), (14, .i last14_1), (15, .y r'7.1), (16, .y r'8.1), (17, .i r'7.2), (18, .i r'8.2), (48, .p (AV.lists (cut j'5 (1 : Int) (j'5.length : Int)))), (49, .i ((cut j'5 (1 : Int) (j'5.length : Int)).length : Int)), (50, .i t50_1)] [] rfl rfl rfl ?_
                      refine AW2_block ?_
                      refine as2 [(0, .i mode0), (1, .y old1), (3, .y head3), (13, .i at13_1), (14, .i last14_1), (15, .y r'7.1), (16, .y r'8.1), (17, .i r'7.2), (18, .i r'8.2), (48, .p (AV.lists (cut j'5 (1 : Int) (j'5.length : Int)))), (49, .i ((cut j'5 (1 : Int) (j'5.length : Int)).length : Int)), (50, .i t50_1)] [] rfl rfl rfl ?_
                      refine bindK H fun y'12 h22 H => ?_
                      refine AW2_loopO (fun a'9 : Int × Int => (⟨[(0, .i mode0), (1, .y old1), (3, .y head3), (13, .i a'9.1), (14, .i a'9.2), (15, .y r'7.1), (16, .y r'8.1), (17, .i r'7.2), (18, .i r'8.2), (48, .p (AV.lists (cut j'5 (1 : Int) (j'5.length : Int)))), (49, .i ((cut j'5 (1 : Int) (j'5.length : Int)).length : Int)), (50, .i t50_1)], [], 136⟩ : TS)) (fun (y'10 : (Int × Int)) e s' => e = Go.Exit.exit 4 ∧ s' = (⟨[(0, .i mode0), (1, .y old1), (3, .y head3), (13, .i y'10.1), (14, .i y'10.2), (15, .y r'7.1), (16, .y r'8.1), (17, .i r'7.2), (18, .i r'8.2), (48, .p (AV.lists (cut j'5 (1 : Int) (j'5.length : Int)))), (49, .i ((cut j'5 (1 : Int) (j'5.length : Int)).length : Int)), (50, .i t50_1)], [], 136⟩ : TS)) h22 rfl (fun a x hx => ?_) (fun e s' hs => ?_)
                      · clear H
                        obtain ⟨at13_2, last14_2⟩ := a
                        have H := hx
                        clear hx
                        unfold g_ref_extended_l2 at H
                        refine AW2_seq ?_
                        refine AW2_seq ?_
                        refine AW2_mid (⟨[(0, .i mode0), (1, .y old1), (3, .y head3), (13, .i at13_2), (14, .i last14_2), (15, .y r'7.1), (16, .y r'8.1), (17, .i r'7.2), (18, .i r'8.2), (48, .p (AV.lists (cut j'5 (1 : Int) (j'5.length : Int)))), (49, .i ((cut j'5 (1 : Int) (j'5.length : Int)).length : Int)), (50, .i t50_1), (94, .b (decide ((at13_2.tmod (2 : Int) = (0 : Int)) ∧ (at13_2 > (0 : Int)))))], [], 136⟩ : TS) ?_ ?_
                        · refine AW2_reg [0, 1, 2, 3, 4, 5, 6] rfl ?_
                          refine rp rfl rfl (p_move rfl rfl) ?_
                          refine rp rfl rfl (p_irem rfl rfl rfl (by decide)) ?_
                          refine rp rfl rfl (p_ieq rfl rfl rfl) ?_
                          refine rp rfl rfl (p_move rfl rfl) ?_
                          refine (Classical.em (at13_2.tmod (2 : Int) = (0 : Int))).elim (fun h20 => ?_) (fun h20 => ?_)
                          · refine r_on rfl rfl rfl rfl (decide_eq_true (p := at13_2.tmod (2 : Int) = (0 : Int)) h20) rfl (PureD.opD (p_move rfl rfl)) ?_
                            refine r_on rfl rfl rfl rfl (decide_eq_true (p := at13_2.tmod (2 : Int) = (0 : Int)) h20) rfl (PureD.opD (p_bin rfl rfl rfl rfl)) ?_
                            refine rp rfl rfl (p_pkt rfl rfl (decide_eq_true (p := at13_2.tmod (2 : Int) = (0 : Int)) h20) (tb ((and_l (p := at13_2.tmod (2 : Int) = (0 : Int)) (q := at13_2 > (0 : Int)) h20)))) ?_
                            refine rs [(0, .i mode0), (1, .y old1), (3, .y head3), (13, .i at13_2), (14, .i last14_2), (15, .y r'7.1), (16, .y r'8.1), (17, .i r'7.2), (18, .i r'8.2), (48, .p (AV.lists (cut j'5 (1 : Int) (j'5.length : Int)))), (49, .i ((cut j'5 (1 : Int) (j'5.length : Int)).length : Int)), (50, .i t50_1), (94, .b (decide ((at13_2.tmod (2 : Int) = (0 : Int)) ∧ (at13_2 > (0 : Int)))))] [] rfl rfl rfl ?_
                            exact RunW_nil rfl
                          · refine r_off rfl rfl rfl rfl (decide_eq_false (p := at13_2.tmod (2 : Int) = (0 : Int)) h20) rfl rfl ?_
                            refine r_off rfl rfl rfl rfl (decide_eq_false (p := at13_2.tmod (2 : Int) = (0 : Int)) h20) rfl rfl ?_
                            refine rp rfl rfl (p_pkf rfl rfl (decide_eq_false (p := at13_2.tmod (2 : Int) = (0 : Int)) h20) (tb (decide_eq_false (p := (at13_2.tmod (2 : Int) = (0 : Int)) ∧ (at13_2 > (0 : Int))) (fun x => h20 x.1)).symm)) ?_
                            refine rs [(0, .i mode0), (1, .y old1), (3, .y head3), (13, .i at13_2), (14, .i last14_2), (15, .y r'7.1), (16, .y r'8.1), (17, .i r'7.2), (18, .i r'8.2), (48, .p (AV.lists (cut j'5 (1 : Int) (j'5.length : Int)))), (49, .i ((cut j'5 (1 : Int) (j'5.length : Int)).length : Int)), (50, .i t50_1), (94, .b (decide ((at13_2.tmod (2 : Int) = (0 : Int)) ∧ (at13_2 > (0 : Int)))))] [] rfl rfl rfl ?_
                            exact RunW_nil rfl
                        · refine AW2_if (p := (at13_2.tmod (2 : Int) = (0 : Int)) ∧ (at13_2 > (0 : Int))) rfl (fun h21 => ?_) (fun h21 => ?_)
                          · replace H := ite_then h21 H
                            refine as2 [(0, .i mode0), (1, .y old1), (3, .y head3), (13, .i at13_2), (14, .i last14_2), (15, .y r'7.1), (16, .y r'8.1), (17, .i r'7.2), (18, .i r'8.2), (48, .p (AV.lists (cut j'5 (1 : Int) (j'5.length : Int)))), (49, .i ((cut j'5 (1 : Int) (j'5.length : Int)).length : Int)), (50, .i t50_1)] [] rfl rfl rfl ?_
                            refine AW2_skip ?_
                            refine AW2_block ?_
                            refine AW2_reg [0, 1, 2, 3, 4, 5] rfl ?_
                            refine rp rfl rfl (p_move rfl rfl) ?_
                            refine rp rfl rfl (p_iquo rfl rfl rfl (by decide)) ?_
                            refine rp rfl rfl (p_move rfl rfl) ?_
                            refine rp rfl rfl (p_iquo rfl rfl rfl (by decide)) ?_
                            refine rp rfl rfl (p_asg rfl rfl) ?_
                            refine rp rfl rfl (p_asg rfl rfl) ?_
                            refine rz [(0, .i mode0), (1, .y old1), (3, .y head3), (13, .i (w64 (at13_2.tdiv (2 : Int)))), (14, .i (w64 (last14_2.tdiv (2 : Int)))), (15, .y r'7.1), (16, .y r'8.1), (17, .i r'7.2), (18, .i r'8.2), (48, .p (AV.lists (cut j'5 (1 : Int) (j'5.length : Int)))), (49, .i ((cut j'5 (1 : Int) (j'5.length : Int)).length : Int)), (50, .i t50_1)] [] rfl rfl rfl ?_
                            have hz := some_elim H
                            subst hz
                            exact ⟨rfl, rfl⟩
                          · replace H := ite_else h21 H
                            refine as2 [(0, .i mode0), (1, .y old1), (3, .y head3), (13, .i at13_2), (14, .i last14_2), (15, .y r'7.1), (16, .y r'8.1), (17, .i r'7.2), (18, .i r'8.2), (48, .p (AV.lists (cut j'5 (1 : Int) (j'5.length : Int)))), (49, .i ((cut j'5 (1 : Int) (j'5.length : Int)).length : Int)), (50, .i t50_1)] [] rfl rfl rfl ?_
                            refine AW2_exit ?_
                            refine thenQ2_exit ?_
                            have hz := some_elim H
                            subst hz
                            exact ⟨rfl, rfl⟩
                      · obtain ⟨rfl, rfl⟩ := hs
                        refine ⟨by simp, ?_⟩
                        refine blockQ2_exit ?_
                        have hz := some_elim H
                        subst hz
                        exact rfl
                    · replace H := ite_else h17 H
                      refine AW2_reg [0, 1, 2, 3, 4, 5, 6, 7, 8, 9] rfl ?_
                      refine rp rfl rfl (p_move rfl rfl) ?_
                      refine rp rfl rfl (p_move rfl rfl) ?_
                      refine rp rfl rfl (p_move rfl rfl) ?_
                      refine r_op rfl rfl (MakeD.opD (u_bs 103 rfl Tryd.underlying33 in_22 rfl one_22 (by decide) (by decide) rfl rfl rfl) rfl rfl rfl rfl) ?_
                      refine RunW_st [(0, .i mode0), (1, .y old1), (3, .y head3), (13, .i at13_1), (14, .i last14_1), (15, .y was15_1), (16, .y is16_1), (17, .i e17_1), (20, .y (lrd (cut j'5 (1 : Int) (j'5.length : Int)) t50_1.toNat)), (48, .p (AV.lists (cut j'5 (1 : Int) (j'5.length : Int)))), (49, .i ((cut j'5 (1 : Int) (j'5.length : Int)).length : Int)), (50, .i t50_1), (71, .b (decide ((at13_1.tmod (2 : Int) = (1 : Int)) ∨ (at13_1 = last14_1)))), (100, .i mode0), (101, .y is16_1), (102, .y (lrd (cut j'5 (1 : Int) (j'5.length : Int)) t50_1.toNat)), (103, .c (.own 103 ([is16_1, (lrd (cut j'5 (1 : Int) (j'5.length : Int)) t50_1.toNat)] : List (List UInt8)).length 1))] [(103, .pure (([is16_1, (lrd (cut j'5 (1 : Int) (j'5.length : Int)) t50_1.toNat)] : List (List UInt8)).map AV.bytes))] rfl ⟨TLes.same _, TLes.same _, TLes.same _, TLes.same _, TLes.same _, TLes.same _, TLes.same _, TLes.same _, TLes.same _, TLes.same _, TLes.same _, TLes.same _, TLes.same _, TLes.same _, TLes.same _, TLes.same _, TLes.own rfl, trivial⟩ ⟨rfl, trivial⟩ ?_
                      refine RunW_gho (Gho_pubs [103] ⟨rfl, trivial⟩ rfl (ml AV.bytes ([is16_1, (lrd (cut j'5 (1 : Int) (j'5.length : Int)) t50_1.toNat)] : List (List UInt8))) (by decide)) ?_
                      refine bindK H fun r'13 h23 H => ?_
                      refine rp rfl rfl (p_callp rfl rfl rfl Tryd.func42 rfl rfl (g_ref_DigestOf_ac h23) ⟨rfl, rfl, rfl, trivial⟩) ?_
                      refine rp rfl rfl (p_move rfl rfl) ?_
                      refine rp rfl rfl (p_ext rfl rfl rfl rfl) ?_
                      refine rp rfl rfl (p_ext rfl rfl rfl rfl) ?_
                      refine rp rfl rfl (p_asg rfl rfl) ?_
                      refine rp rfl rfl (p_asg rfl rfl) ?_
                      refine rz [(0, .i mode0), (1, .y old1), (3, .y head3), (13, .i at13_1), (14, .i last14_1), (15, .y was15_1), (16, .y r'13.1), (17, .i e17_1), (18, .i r'13.2), (48, .p (AV.lists (cut j'5 (1 : Int) (j'5.length : Int)))), (49, .i ((cut j'5 (1 : Int) (j'5.length : Int)).length : Int)), (50, .i t50_1)] [] rfl rfl rfl ?_
                      have hz := some_elim H
                      subst hz
                      exact rfl
                · refine AW2_reg [0, 1, 2, 3, 4, 5] rfl ?_
                  refine rp rfl rfl (p_move rfl rfl) ?_
                  refine rp rfl rfl (p_iquo rfl rfl rfl (by decide)) ?_
                  refine rp rfl rfl (p_move rfl rfl) ?_
                  refine rp rfl rfl (p_iquo rfl rfl rfl (by decide)) ?_
                  refine rp rfl rfl (p_asg rfl rfl) ?_
                  refine rp rfl rfl (p_asg rfl rfl) ?_
                  refine rz [(0, .i mode0), (1, .y old1), (3, .y head3), (13, .i (w64 (j'6.1.tdiv (2 : Int)))), (14, .i (w64 (j'6.2.1.tdiv (2 : Int)))), (15, .y j'6.2.2.1), (16, .y j'6.2.2.2.1), (17, .i j'6.2.2.2.2.1), (18, .i j'6.2.2.2.2.2), (48, .p (AV.lists (cut j'5 (1 : Int) (j'5.length : Int)))), (49, .i ((cut j'5 (1 : Int) (j'5.length : Int)).length : Int)), (50, .i t50_1)] [] rfl rfl rfl ?_
                  refine AW2_reg [0, 1] rfl ?_
                  refine rp rfl rfl (p_bin rfl rfl rfl rfl) ?_
                  refine rp rfl rfl (p_move rfl rfl) ?_
                  refine rz [(0, .i mode0), (1, .y old1), (3, .y head3), (13, .i (w64 (j'6.1.tdiv (2 : Int)))), (14, .i (w64 (j'6.2.1.tdiv (2 : Int)))), (15, .y j'6.2.2.1), (16, .y j'6.2.2.2.1), (17, .i j'6.2.2.2.2.1), (18, .i j'6.2.2.2.2.2), (48, .p (AV.lists (cut j'5 (1 : Int) (j'5.length : Int)))), (49, .i ((cut j'5 (1 : Int) (j'5.length : Int)).length : Int)), (50, .i (w64 (t50_1 + (1 : Int))))] [] rfl rfl rfl ?_
                  have hz := some_elim H
                  subst hz
                  exact ⟨rfl, rfl⟩
          · replace H := ite_else h10 H
            refine as2 [(1, .y old1), (3, .y head3), (14, .i last14_1), (15, .y was15_1), (16, .y is16_1), (17, .i e17_1), (18, .i f18_1)] [] rfl rfl rfl ?_
            refine AW2_exit ?_
            refine thenQ2_exit ?_
            have hz := some_elim H
            subst hz
            exact ⟨rfl, rfl⟩
        · rcases o'17 with y'18 | y'19
          · obtain ⟨rfl, hs⟩ := hs
            refine ⟨by simp, ?_⟩
            have hz := some_elim H
            subst hz
            exact ⟨hs.1, hs.2⟩
          · obtain ⟨rfl, rfl⟩ := hs
            refine ⟨by simp, ?_⟩
            refine blockQ2_exit ?_
            refine AW2_seq ?_
            refine AW2_mid (⟨[(12, .b (decide (((((y'19.2.2.2.1 = (0 : Int)) ∧ (y'19.2.2.2.2 = (0 : Int))) ∧ (y'19.1 = (0 : Int))) ∧ (y'19.2.1 = old1)) ∧ (y'19.2.2.1 = head3))))], [], 136⟩ : TS) ?_ ?_
            · refine AW2_reg [0, 1, 2, 3, 4, 5, 6, 7, 8, 9, 10, 11, 12, 13, 14, 15, 16, 17, 18, 19, 20, 21, 22, 23, 24] rfl ?_
              refine rp rfl rfl (p_move rfl rfl) ?_
              refine rp rfl rfl (p_ieq rfl rfl rfl) ?_
              refine rp rfl rfl (p_move rfl rfl) ?_
              refine (Classical.em (y'19.2.2.2.1 = (0 : Int))).elim (fun h25 => ?_) (fun h25 => ?_)
              · refine r_on rfl rfl rfl rfl (decide_eq_true (p := y'19.2.2.2.1 = (0 : Int)) h25) rfl (PureD.opD (p_move rfl rfl)) ?_
                refine r_on rfl rfl rfl rfl (decide_eq_true (p := y'19.2.2.2.1 = (0 : Int)) h25) rfl (PureD.opD (p_ieq rfl rfl rfl)) ?_
                refine rp rfl rfl (p_pkt rfl rfl (decide_eq_true (p := y'19.2.2.2.1 = (0 : Int)) h25) (tb ((and_l (p := y'19.2.2.2.1 = (0 : Int)) (q := y'19.2.2.2.2 = (0 : Int)) h25)))) ?_
                refine rp rfl rfl (p_move rfl rfl) ?_
                refine (Classical.em (y'19.2.2.2.2 = (0 : Int))).elim (fun h26 => ?_) (fun h26 => ?_)
                · refine r_on rfl rfl rfl rfl (decide_eq_true (p := (y'19.2.2.2.1 = (0 : Int)) ∧ (y'19.2.2.2.2 = (0 : Int))) ⟨h25, h26⟩) rfl (PureD.opD (p_move rfl rfl)) ?_
                  refine r_on rfl rfl rfl rfl (decide_eq_true (p := (y'19.2.2.2.1 = (0 : Int)) ∧ (y'19.2.2.2.2 = (0 : Int))) ⟨h25, h26⟩) rfl (PureD.opD (p_ieq rfl rfl rfl)) ?_
                  refine rp rfl rfl (p_pkt rfl rfl (decide_eq_true (p := (y'19.2.2.2.1 = (0 : Int)) ∧ (y'19.2.2.2.2 = (0 : Int))) ⟨h25, h26⟩) (tb ((and_l (p := (y'19.2.2.2.1 = (0 : Int)) ∧ (y'19.2.2.2.2 = (0 : Int))) (q := y'19.1 = (0 : Int)) ⟨h25, h26⟩)))) ?_
                  refine rp rfl rfl (p_move rfl rfl) ?_
                  refine (Classical.em (y'19.1 = (0 : Int))).elim (fun h27 => ?_) (fun h27 => ?_)
                  · refine r_on rfl rfl rfl rfl (decide_eq_true (p := ((y'19.2.2.2.1 = (0 : Int)) ∧ (y'19.2.2.2.2 = (0 : Int))) ∧ (y'19.1 = (0 : Int))) ⟨⟨h25, h26⟩, h27⟩) rfl (PureD.opD (p_move rfl rfl)) ?_
                    refine r_on rfl rfl rfl rfl (decide_eq_true (p := ((y'19.2.2.2.1 = (0 : Int)) ∧ (y'19.2.2.2.2 = (0 : Int))) ∧ (y'19.1 = (0 : Int))) ⟨⟨h25, h26⟩, h27⟩) rfl (PureD.opD (p_cb rfl rfl Tryd.underlying22 Tryd.underlying5 Tryd.underlying9 rfl)) ?_
                    refine r_on rfl rfl rfl rfl (decide_eq_true (p := ((y'19.2.2.2.1 = (0 : Int)) ∧ (y'19.2.2.2.2 = (0 : Int))) ∧ (y'19.1 = (0 : Int))) ⟨⟨h25, h26⟩, h27⟩) rfl (PureD.opD (p_move rfl rfl)) ?_
                    refine r_on rfl rfl rfl rfl (decide_eq_true (p := ((y'19.2.2.2.1 = (0 : Int)) ∧ (y'19.2.2.2.2 = (0 : Int))) ∧ (y'19.1 = (0 : Int))) ⟨⟨h25, h26⟩, h27⟩) rfl (PureD.opD (p_cb rfl rfl Tryd.underlying22 Tryd.underlying5 Tryd.underlying9 rfl)) ?_
                    refine r_on rfl rfl rfl rfl (decide_eq_true (p := ((y'19.2.2.2.1 = (0 : Int)) ∧ (y'19.2.2.2.2 = (0 : Int))) ∧ (y'19.1 = (0 : Int))) ⟨⟨h25, h26⟩, h27⟩) rfl (PureD.opD (p_seq rfl rfl rfl)) ?_
                    refine rp rfl rfl (p_pkt rfl rfl (decide_eq_true (p := ((y'19.2.2.2.1 = (0 : Int)) ∧ (y'19.2.2.2.2 = (0 : Int))) ∧ (y'19.1 = (0 : Int))) ⟨⟨h25, h26⟩, h27⟩) (tb ((and_l (p := ((y'19.2.2.2.1 = (0 : Int)) ∧ (y'19.2.2.2.2 = (0 : Int))) ∧ (y'19.1 = (0 : Int))) (q := y'19.2.1 = old1) ⟨⟨h25, h26⟩, h27⟩)))) ?_
                    refine rp rfl rfl (p_move rfl rfl) ?_
                    refine (Classical.em (y'19.2.1 = old1)).elim (fun h28 => ?_) (fun h28 => ?_)
                    · refine r_on rfl rfl rfl rfl (decide_eq_true (p := (((y'19.2.2.2.1 = (0 : Int)) ∧ (y'19.2.2.2.2 = (0 : Int))) ∧ (y'19.1 = (0 : Int))) ∧ (y'19.2.1 = old1)) ⟨⟨⟨h25, h26⟩, h27⟩, h28⟩) rfl (PureD.opD (p_move rfl rfl)) ?_
                      refine r_on rfl rfl rfl rfl (decide_eq_true (p := (((y'19.2.2.2.1 = (0 : Int)) ∧ (y'19.2.2.2.2 = (0 : Int))) ∧ (y'19.1 = (0 : Int))) ∧ (y'19.2.1 = old1)) ⟨⟨⟨h25, h26⟩, h27⟩, h28⟩) rfl (PureD.opD (p_cb rfl rfl Tryd.underlying22 Tryd.underlying5 Tryd.underlying9 rfl)) ?_
                      refine r_on rfl rfl rfl rfl (decide_eq_true (p := (((y'19.2.2.2.1 = (0 : Int)) ∧ (y'19.2.2.2.2 = (0 : Int))) ∧ (y'19.1 = (0 : Int))) ∧ (y'19.2.1 = old1)) ⟨⟨⟨h25, h26⟩, h27⟩, h28⟩) rfl (PureD.opD (p_move rfl rfl)) ?_
                      refine r_on rfl rfl rfl rfl (decide_eq_true (p := (((y'19.2.2.2.1 = (0 : Int)) ∧ (y'19.2.2.2.2 = (0 : Int))) ∧ (y'19.1 = (0 : Int))) ∧ (y'19.2.1 = old1)) ⟨⟨⟨h25, h26⟩, h27⟩, h28⟩) rfl (PureD.opD (p_cb rfl rfl Tryd.underlying22 Tryd.underlying5 Tryd.underlying9 rfl)) ?_
                      refine r_on rfl rfl rfl rfl (decide_eq_true (p := (((y'19.2.2.2.1 = (0 : Int)) ∧ (y'19.2.2.2.2 = (0 : Int))) ∧ (y'19.1 = (0 : Int))) ∧ (y'19.2.1 = old1)) ⟨⟨⟨h25, h26⟩, h27⟩, h28⟩) rfl (PureD.opD (p_seq rfl rfl rfl)) ?_
                      refine rp rfl rfl (p_pkt rfl rfl (decide_eq_true (p := (((y'19.2.2.2.1 = (0 : Int)) ∧ (y'19.2.2.2.2 = (0 : Int))) ∧ (y'19.1 = (0 : Int))) ∧ (y'19.2.1 = old1)) ⟨⟨⟨h25, h26⟩, h27⟩, h28⟩) (tb ((and_l (p := (((y'19.2.2.2.1 = (0 : Int)) ∧ (y'19.2.2.2.2 = (0 : Int))) ∧ (y'19.1 = (0 : Int))) ∧ (y'19.2.1 = old1)) (q := y'19.2.2.1 = head3) ⟨⟨⟨h25, h26⟩, h27⟩, h28⟩)))) ?_
                      refine rp rfl rfl (p_asg rfl rfl) ?_
                      refine rs [(12, .b (decide (((((y'19.2.2.2.1 = (0 : Int)) ∧ (y'19.2.2.2.2 = (0 : Int))) ∧ (y'19.1 = (0 : Int))) ∧ (y'19.2.1 = old1)) ∧ (y'19.2.2.1 = head3))))] [] rfl rfl rfl ?_
                      exact RunW_nil rfl
                    · refine r_off rfl rfl rfl rfl (decide_eq_false (p := (((y'19.2.2.2.1 = (0 : Int)) ∧ (y'19.2.2.2.2 = (0 : Int))) ∧ (y'19.1 = (0 : Int))) ∧ (y'19.2.1 = old1)) (fun h => h28 h.2)) rfl rfl ?_
                      refine r_off rfl rfl rfl rfl (decide_eq_false (p := (((y'19.2.2.2.1 = (0 : Int)) ∧ (y'19.2.2.2.2 = (0 : Int))) ∧ (y'19.1 = (0 : Int))) ∧ (y'19.2.1 = old1)) (fun h => h28 h.2)) rfl rfl ?_
                      refine r_off rfl rfl rfl rfl (decide_eq_false (p := (((y'19.2.2.2.1 = (0 : Int)) ∧ (y'19.2.2.2.2 = (0 : Int))) ∧ (y'19.1 = (0 : Int))) ∧ (y'19.2.1 = old1)) (fun h => h28 h.2)) rfl rfl ?_
                      refine r_off rfl rfl rfl rfl (decide_eq_false (p := (((y'19.2.2.2.1 = (0 : Int)) ∧ (y'19.2.2.2.2 = (0 : Int))) ∧ (y'19.1 = (0 : Int))) ∧ (y'19.2.1 = old1)) (fun h => h28 h.2)) rfl rfl ?_
                      refine r_off rfl rfl rfl rfl (decide_eq_false (p := (((y'19.2.2.2.1 = (0 : Int)) ∧ (y'19.2.2.2.2 = (0 : Int))) ∧ (y'19.1 = (0 : Int))) ∧ (y'19.2.1 = old1)) (fun h => h28 h.2)) rfl rfl ?_
                      refine rp rfl rfl (p_pkf rfl rfl (decide_eq_false (p := (((y'19.2.2.2.1 = (0 : Int)) ∧ (y'19.2.2.2.2 = (0 : Int))) ∧ (y'19.1 = (0 : Int))) ∧ (y'19.2.1 = old1)) (fun h => h28 h.2)) (tb (decide_eq_false (p := ((((y'19.2.2.2.1 = (0 : Int)) ∧ (y'19.2.2.2.2 = (0 : Int))) ∧ (y'19.1 = (0 : Int))) ∧ (y'19.2.1 = old1)) ∧ (y'19.2.2.1 = head3)) (fun x => (fun h => h28 h.2) x.1)).symm)) ?_
                      refine rp rfl rfl (p_asg rfl rfl) ?_
                      refine rs [(12, .b (decide (((((y'19.2.2.2.1 = (0 : Int)) ∧ (y'19.2.2.2.2 = (0 : Int))) ∧ (y'19.1 = (0 : Int))) ∧ (y'19.2.1 = old1)) ∧ (y'19.2.2.1 = head3))))] [] rfl rfl rfl ?_
                      exact RunW_nil rfl
                  · refine r_off rfl rfl rfl rfl (decide_eq_false (p := ((y'19.2.2.2.1 = (0 : Int)) ∧ (y'19.2.2.2.2 = (0 : Int))) ∧ (y'19.1 = (0 : Int))) (fun h => h27 h.2)) rfl rfl ?_
                    refine r_off rfl rfl rfl rfl (decide_eq_false (p := ((y'19.2.2.2.1 = (0 : Int)) ∧ (y'19.2.2.2.2 = (0 : Int))) ∧ (y'19.1 = (0 : Int))) (fun h => h27 h.2)) rfl rfl ?_
                    refine r_off rfl rfl rfl rfl (decide_eq_false (p := ((y'19.2.2.2.1 = (0 : Int)) ∧ (y'19.2.2.2.2 = (0 : Int))) ∧ (y'19.1 = (0 : Int))) (fun h => h27 h.2)) rfl rfl ?_
                    refine r_off rfl rfl rfl rfl (decide_eq_false (p := ((y'19.2.2.2.1 = (0 : Int)) ∧ (y'19.2.2.2.2 = (0 : Int))) ∧ (y'19.1 = (0 : Int))) (fun h => h27 h.2)) rfl rfl ?_
                    refine r_off rfl rfl rfl rfl (decide_eq_false (p := ((y'19.2.2.2.1 = (0 : Int)) ∧ (y'19.2.2.2.2 = (0 : Int))) ∧ (y'19.1 = (0 : Int))) (fun h => h27 h.2)) rfl rfl ?_
                    refine rp rfl rfl (p_pkf rfl rfl (decide_eq_false (p := ((y'19.2.2.2.1 = (0 : Int)) ∧ (y'19.2.2.2.2 = (0 : Int))) ∧ (y'19.1 = (0 : Int))) (fun h => h27 h.2)) (tb (decide_eq_false (p := (((y'19.2.2.2.1 = (0 : Int)) ∧ (y'19.2.2.2.2 = (0 : Int))) ∧ (y'19.1 = (0 : Int))) ∧ (y'19.2.1 = old1)) (fun x => (fun h => h27 h.2) x.1)).symm)) ?_
                    refine rp rfl rfl (p_move rfl rfl) ?_
                    refine r_off rfl rfl rfl rfl (decide_eq_false (p := (((y'19.2.2.2.1 = (0 : Int)) ∧ (y'19.2.2.2.2 = (0 : Int))) ∧ (y'19.1 = (0 : Int))) ∧ (y'19.2.1 = old1)) (fun h => (fun h => h27 h.2) h.1)) rfl rfl ?_
                    refine r_off rfl rfl rfl rfl (decide_eq_false (p := (((y'19.2.2.2.1 = (0 : Int)) ∧ (y'19.2.2.2.2 = (0 : Int))) ∧ (y'19.1 = (0 : Int))) ∧ (y'19.2.1 = old1)) (fun h => (fun h => h27 h.2) h.1)) rfl rfl ?_
                    refine r_off rfl rfl rfl rfl (decide_eq_false (p := (((y'19.2.2.2.1 = (0 : Int)) ∧ (y'19.2.2.2.2 = (0 : Int))) ∧ (y'19.1 = (0 : Int))) ∧ (y'19.2.1 = old1)) (fun h => (fun h => h27 h.2) h.1)) rfl rfl ?_
                    refine r_off rfl rfl rfl rfl (decide_eq_false (p := (((y'19.2.2.2.1 = (0 : Int)) ∧ (y'19.2.2.2.2 = (0 : Int))) ∧ (y'19.1 = (0 : Int))) ∧ (y'19.2.1 = old1)) (fun h => (fun h => h27 h.2) h.1)) rfl rfl ?_
                    refine r_off rfl rfl rfl rfl (decide_eq_false (p := (((y'19.2.2.2.1 = (0 : Int)) ∧ (y'19.2.2.2.2 = (0 : Int))) ∧ (y'19.1 = (0 : Int))) ∧ (y'19.2.1 = old1)) (fun h => (fun h => h27 h.2) h.1)) rfl rfl ?_
                    refine rp rfl rfl (p_pkf rfl rfl (decide_eq_false (p := (((y'19.2.2.2.1 = (0 : Int)) ∧ (y'19.2.2.2.2 = (0 : Int))) ∧ (y'19.1 = (0 : Int))) ∧ (y'19.2.1 = old1)) (fun h => (fun h => h27 h.2) h.1)) (tb (decide_eq_false (p := ((((y'19.2.2.2.1 = (0 : Int)) ∧ (y'19.2.2.2.2 = (0 : Int))) ∧ (y'19.1 = (0 : Int))) ∧ (y'19.2.1 = old1)) ∧ (y'19.2.2.1 = head3)) (fun x => (fun h => (fun h => h27 h.2) h.1) x.1)).symm)) ?_
                    refine rp rfl rfl (p_asg rfl rfl) ?_
                    refine rs [(12, .b (decide (((((y'19.2.2.2.1 = (0 : Int)) ∧ (y'19.2.2.2.2 = (0 : Int))) ∧ (y'19.1 = (0 : Int))) ∧ (y'19.2.1 = old1)) ∧ (y'19.2.2.1 = head3))))] [] rfl rfl rfl ?_
                    exact RunW_nil rfl
                · refine r_off rfl rfl rfl rfl (decide_eq_false (p := (y'19.2.2.2.1 = (0 : Int)) ∧ (y'19.2.2.2.2 = (0 : Int))) (fun h => h26 h.2)) rfl rfl ?_
                  refine r_off rfl rfl rfl rfl (decide_eq_false (p := (y'19.2.2.2.1 = (0 : Int)) ∧ (y'19.2.2.2.2 = (0 : Int))) (fun h => h26 h.2)) rfl rfl ?_
                  refine rp rfl rfl (p_pkf rfl rfl (decide_eq_false (p := (y'19.2.2.2.1 = (0 : Int)) ∧ (y'19.2.2.2.2 = (0 : Int))) (fun h => h26 h.2)) (tb (decide_eq_false (p := ((y'19.2.2.2.1 = (0 : Int)) ∧ (y'19.2.2.2.2 = (0 : Int))) ∧ (y'19.1 = (0 : Int))) (fun x => (fun h => h26 h.2) x.1)).symm)) ?_
                  refine rp rfl rfl (p_move rfl rfl) ?_
                  refine r_off rfl rfl rfl rfl (decide_eq_false (p := ((y'19.2.2.2.1 = (0 : Int)) ∧ (y'19.2.2.2.2 = (0 : Int))) ∧ (y'19.1 = (0 : Int))) (fun h => (fun h => h26 h.2) h.1)) rfl rfl ?_
                  refine r_off rfl rfl rfl rfl (decide_eq_false (p := ((y'19.2.2.2.1 = (0 : Int)) ∧ (y'19.2.2.2.2 = (0 : Int))) ∧ (y'19.1 = (0 : Int))) (fun h => (fun h => h26 h.2) h.1)) rfl rfl ?_
                  refine r_off rfl rfl rfl rfl (decide_eq_false (p := ((y'19.2.2.2.1 = (0 : Int)) ∧ (y'19.2.2.2.2 = (0 : Int))) ∧ (y'19.1 = (0 : Int))) (fun h => (fun h => h26 h.2) h.1)) rfl rfl ?_
                  refine r_off rfl rfl rfl rfl (decide_eq_false (p := ((y'19.2.2.2.1 = (0 : Int)) ∧ (y'19.2.2.2.2 = (0 : Int))) ∧ (y'19.1 = (0 : Int))) (fun h => (fun h => h26 h.2) h.1)) rfl rfl ?_
                  refine r_off rfl rfl rfl rfl (decide_eq_false (p := ((y'19.2.2.2.1 = (0 : Int)) ∧ (y'19.2.2.2.2 = (0 : Int))) ∧ (y'19.1 = (0 : Int))) (fun h => (fun h => h26 h.2) h.1)) rfl rfl ?_
                  refine rp rfl rfl (p_pkf rfl rfl (decide_eq_false (p := ((y'19.2.2.2.1 = (0 : Int)) ∧ (y'19.2.2.2.2 = (0 : Int))) ∧ (y'19.1 = (0 : Int))) (fun h => (fun h => h26 h.2) h.1)) (tb (decide_eq_false (p := (((y'19.2.2.2.1 = (0 : Int)) ∧ (y'19.2.2.2.2 = (0 : Int))) ∧ (y'19.1 = (0 : Int))) ∧ (y'19.2.1 = old1)) (fun x => (fun h => (fun h => h26 h.2) h.1) x.1)).symm)) ?_
                  refine rp rfl rfl (p_move rfl rfl) ?_
                  refine r_off rfl rfl rfl rfl (decide_eq_false (p := (((y'19.2.2.2.1 = (0 : Int)) ∧ (y'19.2.2.2.2 = (0 : Int))) ∧ (y'19.1 = (0 : Int))) ∧ (y'19.2.1 = old1)) (fun h => (fun h => (fun h => h26 h.2) h.1) h.1)) rfl rfl ?_
                  refine r_off rfl rfl rfl rfl (decide_eq_false (p := (((y'19.2.2.2.1 = (0 : Int)) ∧ (y'19.2.2.2.2 = (0 : Int))) ∧ (y'19.1 = (0 : Int))) ∧ (y'19.2.1 = old1)) (fun h => (fun h => (fun h => h26 h.2) h.1) h.1)) rfl rfl ?_
                  refine r_off rfl rfl rfl rfl (decide_eq_false (p := (((y'19.2.2.2.1 = (0 : Int)) ∧ (y'19.2.2.2.2 = (0 : Int))) ∧ (y'19.1 = (0 : Int))) ∧ (y'19.2.1 = old1)) (fun h => (fun h => (fun h => h26 h.2) h.1) h.1)) rfl rfl ?_
                  refine r_off rfl rfl rfl rfl (decide_eq_false (p := (((y'19.2.2.2.1 = (0 : Int)) ∧ (y'19.2.2.2.2 = (0 : Int))) ∧ (y'19.1 = (0 : Int))) ∧ (y'19.2.1 = old1)) (fun h => (fun h => (fun h => h26 h.2) h.1) h.1)) rfl rfl ?_
                  refine r_off rfl rfl rfl rfl (decide_eq_false (p := (((y'19.2.2.2.1 = (0 : Int)) ∧ (y'19.2.2.2.2 = (0 : Int))) ∧ (y'19.1 = (0 : Int))) ∧ (y'19.2.1 = old1)) (fun h => (fun h => (fun h => h26 h.2) h.1) h.1)) rfl rfl ?_
                  refine rp rfl rfl (p_pkf rfl rfl (decide_eq_false (p := (((y'19.2.2.2.1 = (0 : Int)) ∧ (y'19.2.2.2.2 = (0 : Int))) ∧ (y'19.1 = (0 : Int))) ∧ (y'19.2.1 = old1)) (fun h => (fun h => (fun h => h26 h.2) h.1) h.1)) (tb (decide_eq_false (p := ((((y'19.2.2.2.1 = (0 : Int)) ∧ (y'19.2.2.2.2 = (0 : Int))) ∧ (y'19.1 = (0 : Int))) ∧ (y'19.2.1 = old1)) ∧ (y'19.2.2.1 = head3)) (fun x => (fun h => (fun h => (fun h => h26 h.2) h.1) h.1) x.1)).symm)) ?_
                  refine rp rfl rfl (p_asg rfl rfl) ?_
                  refine rs [(12, .b (decide (((((y'19.2.2.2.1 = (0 : Int)) ∧ (y'19.2.2.2.2 = (0 : Int))) ∧ (y'19.1 = (0 : Int))) ∧ (y'19.2.1 = old1)) ∧ (y'19.2.2.1 = head3))))] [] rfl rfl rfl ?_
                  exact RunW_nil rfl
              · refine r_off rfl rfl rfl rfl (decide_eq_false (p := y'19.2.2.2.1 = (0 : Int)) h25) rfl rfl ?_
                refine r_off rfl rfl rfl rfl (decide_eq_false (p := y'19.2.2.2.1 = (0 : Int)) h25) rfl rfl ?_
                refine rp rfl rfl (p_pkf rfl rfl (decide_eq_false (p := y'19.2.2.2.1 = (0 : Int)) h25) (tb (decide_eq_false (p := (y'19.2.2.2.1 = (0 : Int)) ∧ (y'19.2.2.2.2 = (0 : Int))) (fun x => h25 x.1)).symm)) ?_
                refine rp rfl rfl (p_move rfl rfl) ?_
                refine r_off rfl rfl rfl rfl (decide_eq_false (p := (y'19.2.2.2.1 = (0 : Int)) ∧ (y'19.2.2.2.2 = (0 : Int))) (fun h => h25 h.1)) rfl rfl ?_
                refine r_off rfl rfl rfl rfl (decide_eq_false (p := (y'19.2.2.2.1 = (0 : Int)) ∧ (y'19.2.2.2.2 = (0 : Int))) (fun h => h25 h.1)) rfl rfl ?_
                refine rp rfl rfl (p_pkf rfl rfl (decide_eq_false (p := (y'19.2.2.2.1 = (0 : Int)) ∧ (y'19.2.2.2.2 = (0 : Int))) (fun h => h25 h.1)) (tb (decide_eq_false (p := ((y'19.2.2.2.1 = (0 : Int)) ∧ (y'19.2.2.2.2 = (0 : Int))) ∧ (y'19.1 = (0 : Int))) (fun x => (fun h => h25 h.1) x.1)).symm)) ?_
                refine rp rfl rfl (p_move rfl rfl) ?_
                refine r_off rfl rfl rfl rfl (decide_eq_false (p := ((y'19.2.2.2.1 = (0 : Int)) ∧ (y'19.2.2.2.2 = (0 : Int))) ∧ (y'19.1 = (0 : Int))) (fun h => (fun h => h25 h.1) h.1)) rfl rfl ?_
                refine r_off rfl rfl rfl rfl (decide_eq_false (p := ((y'19.2.2.2.1 = (0 : Int)) ∧ (y'19.2.2.2.2 = (0 : Int))) ∧ (y'19.1 = (0 : Int))) (fun h => (fun h => h25 h.1) h.1)) rfl rfl ?_
                refine r_off rfl rfl rfl rfl (decide_eq_false (p := ((y'19.2.2.2.1 = (0 : Int)) ∧ (y'19.2.2.2.2 = (0 : Int))) ∧ (y'19.1 = (0 : Int))) (fun h => (fun h => h25 h.1) h.1)) rfl rfl ?_
                refine r_off rfl rfl rfl rfl (decide_eq_false (p := ((y'19.2.2.2.1 = (0 : Int)) ∧ (y'19.2.2.2.2 = (0 : Int))) ∧ (y'19.1 = (0 : Int))) (fun h => (fun h => h25 h.1) h.1)) rfl rfl ?_
                refine r_off rfl rfl rfl rfl (decide_eq_false (p := ((y'19.2.2.2.1 = (0 : Int)) ∧ (y'19.2.2.2.2 = (0 : Int))) ∧ (y'19.1 = (0 : Int))) (fun h => (fun h => h25 h.1) h.1)) rfl rfl ?_
                refine rp rfl rfl (p_pkf rfl rfl (decide_eq_false (p := ((y'19.2.2.2.1 = (0 : Int)) ∧ (y'19.2.2.2.2 = (0 : Int))) ∧ (y'19.1 = (0 : Int))) (fun h => (fun h => h25 h.1) h.1)) (tb (decide_eq_false (p := (((y'19.2.2.2.1 = (0 : Int)) ∧ (y'19.2.2.2.2 = (0 : Int))) ∧ (y'19.1 = (0 : Int))) ∧ (y'19.2.1 = old1)) (fun x => (fun h => (fun h => h25 h.1) h.1) x.1)).symm)) ?_
                refine rp rfl rfl (p_move rfl rfl) ?_
                refine r_off rfl rfl rfl rfl (decide_eq_false (p := (((y'19.2.2.2.1 = (0 : Int)) ∧ (y'19.2.2.2.2 = (0 : Int))) ∧ (y'19.1 = (0 : Int))) ∧ (y'19.2.1 = old1)) (fun h => (fun h => (fun h => h25 h.1) h.1) h.1)) rfl rfl ?_
                refine r_off rfl rfl rfl rfl (decide_eq_false (p := (((y'19.2.2.2.1 = (0 : Int)) ∧ (y'19.2.2.2.2 = (0 : Int))) ∧ (y'19.1 = (0 : Int))) ∧ (y'19.2.1 = old1)) (fun h => (fun h => (fun h => h25 h.1) h.1) h.1)) rfl rfl ?_
                refine r_off rfl rfl rfl rfl (decide_eq_false (p := (((y'19.2.2.2.1 = (0 : Int)) ∧ (y'19.2.2.2.2 = (0 : Int))) ∧ (y'19.1 = (0 : Int))) ∧ (y'19.2.1 = old1)) (fun h => (fun h => (fun h => h25 h.1) h.1) h.1)) rfl rfl ?_
                refine r_off rfl rfl rfl rfl (decide_eq_false (p := (((y'19.2.2.2.1 = (0 : Int)) ∧ (y'19.2.2.2.2 = (0 : Int))) ∧ (y'19.1 = (0 : Int))) ∧ (y'19.2.1 = old1)) (fun h => (fun h => (fun h => h25 h.1) h.1) h.1)) rfl rfl ?_
                refine r_off rfl rfl rfl rfl (decide_eq_false (p := (((y'19.2.2.2.1 = (0 : Int)) ∧ (y'19.2.2.2.2 = (0 : Int))) ∧ (y'19.1 = (0 : Int))) ∧ (y'19.2.1 = old1)) (fun h => (fun h => (fun h => h25 h.1) h.1) h.1)) rfl rfl ?_
                refine rp rfl rfl (p_pkf rfl rfl (decide_eq_false (p := (((y'19.2.2.2.1 = (0 : Int)) ∧ (y'19.2.2.2.2 = (0 : Int))) ∧ (y'19.1 = (0 : Int))) ∧ (y'19.2.1 = old1)) (fun h => (fun h => (fun h => h25 h.1) h.1) h.1)) (tb (decide_eq_false (p := ((((y'19.2.2.2.1 = (0 : Int)) ∧ (y'19.2.2.2.2 = (0 : Int))) ∧ (y'19.1 = (0 : Int))) ∧ (y'19.2.1 = old1)) ∧ (y'19.2.2.1 = head3)) (fun x => (fun h => (fun h => (fun h => h25 h.1) h.1) h.1) x.1)).symm)) ?_
                refine rp rfl rfl (p_asg rfl rfl) ?_
                refine rs [(12, .b (decide (((((y'19.2.2.2.1 = (0 : Int)) ∧ (y'19.2.2.2.2 = (0 : Int))) ∧ (y'19.1 = (0 : Int))) ∧ (y'19.2.1 = old1)) ∧ (y'19.2.2.1 = head3))))] [] rfl rfl rfl ?_
                exact RunW_nil rfl
            · refine AW2_ret ?_
              have hz := some_elim H
              subst hz
              exact ⟨⟨res_tmp (.same _), trivial⟩, trivial⟩
end Go.Proofs.YtkaeboabpahemaaDoor.VM
