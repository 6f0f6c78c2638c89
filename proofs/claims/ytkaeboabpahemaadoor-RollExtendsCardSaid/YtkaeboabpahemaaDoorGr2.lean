/- Functions of the program, as they answer, and that their code comes to these answers. -/
import Derived.Test.YtkaeboabpahemaaDoorGr1
namespace Go.Proofs.YtkaeboabpahemaaDoor.VM
open Go Go.RowKit

structure Gchirographref_peak where
  size_ : Int
  root_ : List UInt8
deriving DecidableEq, Inhabited
def Gchirographref_peak.zero : Gchirographref_peak := ⟨(0 : Int), []⟩
def Gchirographref_peak.cs (x : Gchirographref_peak) : List AV := ([(AV.int x.size_)]) ++ ([(AV.bytes x.root_)])
theorem Gchirographref_peak.len (x : Gchirographref_peak) : (Gchirographref_peak.cs x).length = 2 := by
  simp only [Gchirographref_peak.cs, List.length_append]
  rw [show ([(AV.int x.size_)]).length = 1 from (show ([(AV.int x.size_)]).length = 1 from rfl), show ([(AV.bytes x.root_)]).length = 1 from (show ([(AV.bytes x.root_)]).length = 1 from rfl)]
theorem Gchirographref_peak.sub0 (x : Gchirographref_peak) : Sub (Gchirographref_peak.cs x) 0 ([(AV.int x.size_)]) := Sub.head _ _
theorem Gchirographref_peak.upd0 (x : Gchirographref_peak) (y : Int) : Upd (Gchirographref_peak.cs x) 0 ([(AV.int y)]) (Gchirographref_peak.cs { x with size_ := y }) := Upd.head (show ([(AV.int y)]).length = ([(AV.int x.size_)]).length from rfl)
theorem Gchirographref_peak.sub1 (x : Gchirographref_peak) : Sub (Gchirographref_peak.cs x) 1 ([(AV.bytes x.root_)]) := Sub.skip (k := 1) (show ([(AV.int x.size_)]).length = 1 from rfl) (Sub.refl _)
theorem Gchirographref_peak.upd1 (x : Gchirographref_peak) (y : List UInt8) : Upd (Gchirographref_peak.cs x) 1 ([(AV.bytes y)]) (Gchirographref_peak.cs { x with root_ := y }) := Upd.skip (k := 1) (show ([(AV.int x.size_)]).length = 1 from rfl) (Upd.refl (show ([(AV.bytes y)]).length = ([(AV.bytes x.root_)]).length from rfl))
theorem in_89 : Info Tryd.prog 89 2 32 (.agg #[.int .i64 0, .slice none 0 0]) := by unfold Info; kernel_rfl
theorem one_89 : (.agg #[.int .i64 0, .slice none 0 0] : Value).cells.all (·.oneCell') = true := by kernel_rfl
theorem zc_89 : ((.agg #[.int .i64 0, .slice none 0 0] : Value).cells.toList.map zcell) = Gchirographref_peak.cs Gchirographref_peak.zero := by rfl
theorem pl_89 : placesOf Tryd.prog 89 = some [(0, 1), (1, 1)] := by kernel_rfl
set_option maxRecDepth 100000 in
theorem ty_3 {d : Nat} {cs : List AV} (h : Typed Tryd.prog d 3 cs) : ∃ x : Int, cs = [(AV.int x)] ∧ okI x := match d, h with
  | 0, h => False.elim h
  | d + 1, h => ty_int Tryd.underlying3 h
set_option maxRecDepth 100000 in
theorem ty_5 {d : Nat} {cs : List AV} (h : Typed Tryd.prog d 5 cs) : ∃ x : UInt8, cs = [(AV.b8 x)] ∧ okA x := match d, h with
  | 0, h => False.elim h
  | d + 1, h => ty_u8 Tryd.underlying5 h
set_option maxRecDepth 100000 in
theorem ty_22 {d : Nat} {cs : List AV} (h : Typed Tryd.prog d 22 cs) : ∃ x : List UInt8, cs = [(AV.bytes x)] ∧ (okL 1 okA) x := match d, h with
  | 0, h => False.elim h
  | d + 1, h => ty_slice (f := AV.b8) Tryd.underlying22 (bytes_of in_5) (fun _ hx => ty_5 hx) h
set_option maxRecDepth 100000 in
theorem ty_33 {d : Nat} {cs : List AV} (h : Typed Tryd.prog d 33 cs) : ∃ x : List (List UInt8), cs = [(AV.lists x)] ∧ (okL 24 (okL 1 okA)) x := match d, h with
  | 0, h => False.elim h
  | d + 1, h => ty_slice (f := AV.bytes) Tryd.underlying33 (bytes_of in_22) (fun _ hx => ty_22 hx) h

/-! chirographref.ended -/
noncomputable def g_ref_ended_l0 : (List UInt8) → Option (((List UInt8)) ⊕ (((List UInt8))))
  | all3_0 => (if (all3_0.length : Int).tmod (64 : Int) ≠ (56 : Int) then if all3_0.length + [0].length ≤ 9223372036854775807 then some (.inl (all3_0 ++ [0])) else none else some (.inr all3_0))
noncomputable def g_ref_ended_l1 (r'7 : Vector UInt32 8) : (List UInt8) × Int → Option (((List UInt8) × Int) ⊕ (((List UInt8))))
  | (t5_1, t30_1) => (if t30_1 < (8 : Int) then if 0 ≤ t30_1 ∧ t30_1 < (8 : Int) then (g_ref_big ((vrd r'7 t30_1.toNat).toUInt64) (4 : Int)).bind fun r'8 => if t5_1.length + r'8.length ≤ 9223372036854775807 then some (.inl (t5_1 ++ r'8, w64 (t30_1 + (1 : Int)))) else none else none else some (.inr t5_1))
noncomputable def g_ref_ended_l2 (y'12 : (List UInt8)) : Int × (Vector UInt8 32) → Option ((Int × (Vector UInt8 32)) ⊕ (((Vector UInt8 32))))
  | (t39_2, out8_2) => (if t39_2 < (32 : Int) then if 0 ≤ t39_2 ∧ t39_2 < (y'12.length : Int) then if 0 ≤ t39_2 ∧ t39_2 < (32 : Int) then some (.inl (w64 (t39_2 + (1 : Int)), (vwr out8_2 t39_2.toNat (lrd y'12 t39_2.toNat)))) else none else none else some (.inr out8_2))
noncomputable def g_ref_ended (s0 : GStream) : Option ((Vector UInt8 32)) :=
  (g_ref_heldOf s0).bind fun r'1 => if r'1.length + [128].length ≤ 9223372036854775807 then (loopO (g_ref_ended_l0) (r'1 ++ [128])).bind fun y'5 => (g_ref_big ((UInt64.ofInt s0.Len) * (8 : UInt64)) (8 : Int)).bind fun r'6 => if y'5.length + r'6.length ≤ 9223372036854775807 then (g_ref_blocks s0.H (y'5 ++ r'6)).bind fun r'7 => (loopO (g_ref_ended_l1 r'7) ([], (0 : Int))).bind fun y'12 => (loopO (g_ref_ended_l2 y'12) ((0 : Int), (Vector.replicate 32 (0 : UInt8)))).bind fun y'16 => some y'16 else none else none
set_option maxHeartbeats 4000000 in
set_option maxRecDepth 100000 in
theorem g_ref_ended_ac {s0 : GStream} {r : (Vector UInt8 32)} (H : g_ref_ended s0 = some r) : ACp Tryd.prog 87 [(.agg (GStream.cs s0))] (.agg (bcells r.toList)) := by
  refine ACp_of (AC2_of_body (vs := [.g (bcells r.toList)]) Tryd.func87 rfl rfl (Nat.le_of_ble_eq_true rfl) rfl ?_) (fun _ => .same _)
  unfold g_ref_ended at H
  refine as2 [(0, .g (GStream.cs s0))] [] rfl rfl rfl ?_
  refine sg [0, 1] rfl ?_
  refine r_op rfl rfl (MakeD.opD (n_box 1 rfl rfl) rfl rfl rfl rfl) ?_
  refine r_op rfl rfl (MakeD.opD (u_alloc 2 rfl in_82 one_82 zc_82) rfl rfl rfl rfl) ?_
  refine rz [(1, .q 1 (0)), (2, .q 2 (0))] [(1, .pure (GStream.cs s0)), (2, .pure (bcells ((Vector.replicate 32 (0 : UInt8)).toList)))] rfl rfl rfl ?_
  refine sg [0, 1, 2, 3] rfl ?_
  refine rp rfl rfl (u_lda rfl rfl Tryd.underlying96 rfl in_96 rfl (Nat.succ_pos _) (Sub.refl _) (GStream.len s0)) ?_
  refine bindK H fun r'1 h1 H => ?_
  refine rp rfl rfl (p_callp rfl rfl rfl Tryd.func92 rfl rfl (g_ref_heldOf_ac h1) ⟨rfl, trivial⟩) ?_
  refine chkK H fun h2 H => ?_
  refine rp rfl rfl (p_cat rfl rfl rfl h2) ?_
  refine rp rfl rfl (p_asg rfl rfl) ?_
  refine rz [(1, .q 1 (0)), (2, .q 2 (0)), (3, .t (r'1 ++ [128]))] [(1, .pure (GStream.cs s0)), (2, .pure (bcells ((Vector.replicate 32 (0 : UInt8)).toList)))] rfl rfl rfl ?_
  refine AW2_seq ?_
  refine AW2_block ?_
  refine as2 [(1, .q 1 (0)), (2, .q 2 (0)), (3, .t (r'1 ++ [128]))] [(1, .pure (GStream.cs s0)), (2, .pure (bcells ((Vector.replicate 32 (0 : UInt8)).toList)))] rfl rfl rfl ?_
  refine bindK H fun y'5 h5 H => ?_
  refine AW2_loopO (fun a'2 : (List UInt8) => (⟨[(1, .q 1 (0)), (2, .q 2 (0)), (3, .t a'2)], [(1, .pure (GStream.cs s0)), (2, .pure (bcells ((Vector.replicate 32 (0 : UInt8)).toList)))], 49⟩ : TS)) (fun (y'3 : ((List UInt8))) e s' => e = Go.Exit.exit 0 ∧ s' = (⟨[(1, .q 1 (0)), (2, .q 2 (0)), (3, .t y'3)], [(1, .pure (GStream.cs s0)), (2, .pure (bcells ((Vector.replicate 32 (0 : UInt8)).toList)))], 49⟩ : TS)) h5 rfl (fun all3_0 x hx => ?_) (fun e s' hs => ?_)
  · clear H
    have H := hx
    clear hx
    unfold g_ref_ended_l0 at H
    refine AW2_seq ?_
    refine sg [0, 1, 2, 3] rfl ?_
    refine rp rfl rfl (p_move rfl rfl) ?_
    refine rp rfl rfl (p_lent rfl Tryd.underlying9 rfl) ?_
    refine rp rfl rfl (p_irem rfl rfl rfl (by decide)) ?_
    refine rp rfl rfl (p_ine rfl rfl rfl) ?_
    refine rz [(1, .q 1 (0)), (2, .q 2 (0)), (3, .t all3_0), (16, .b (decide ((all3_0.length : Int).tmod (64 : Int) ≠ (56 : Int))))] [(1, .pure (GStream.cs s0)), (2, .pure (bcells ((Vector.replicate 32 (0 : UInt8)).toList)))] rfl rfl rfl ?_
    refine AW2_if (p := (all3_0.length : Int).tmod (64 : Int) ≠ (56 : Int)) rfl (fun h3 => ?_) (fun h3 => ?_)
    · replace H := ite_then h3 H
      refine as2 [(1, .q 1 (0)), (2, .q 2 (0)), (3, .t all3_0)] [(1, .pure (GStream.cs s0)), (2, .pure (bcells ((Vector.replicate 32 (0 : UInt8)).toList)))] rfl rfl rfl ?_
      refine AW2_skip ?_
      refine AW2_block ?_
      refine AW2_reg [0, 1, 2] rfl ?_
      refine rp rfl rfl (p_move rfl rfl) ?_
      refine chkK H fun h4 H => ?_
      refine rp rfl rfl (p_cat rfl rfl rfl h4) ?_
      refine rp rfl rfl (p_asg rfl rfl) ?_
      refine rz [(1, .q 1 (0)), (2, .q 2 (0)), (3, .t (all3_0 ++ [0]))] [(1, .pure (GStream.cs s0)), (2, .pure (bcells ((Vector.replicate 32 (0 : UInt8)).toList)))] rfl rfl rfl ?_
      have hz := some_elim H
      subst hz
      exact ⟨rfl, rfl⟩
    · replace H := ite_else h3 H
      refine as2 [(1, .q 1 (0)), (2, .q 2 (0)), (3, .t all3_0)] [(1, .pure (GStream.cs s0)), (2, .pure (bcells ((Vector.replicate 32 (0 : UInt8)).toList)))] rfl rfl rfl ?_
      refine AW2_exit ?_
      refine thenQ2_exit ?_
      have hz := some_elim H
      subst hz
      exact ⟨rfl, rfl⟩
  · obtain ⟨rfl, rfl⟩ := hs
    refine ⟨by simp, ?_⟩
    refine blockQ2_exit ?_
    refine AW2_seq ?_
    refine bindK H fun r'6 h6 H => ?_
    refine chkK H fun h7 H => ?_
    refine bindK H fun r'7 h8 H => ?_
    refine AW2_ghoQ ?_
    refine AW2_draw 11 [11] (fun k => ([.q 1 (0 + 0), .g (s0.H.toList.map AV.u32), .t y'5, .q 1 (0 + 73), .i s0.Len, .p (AV.u64 (UInt64.ofInt s0.Len)), .p (AV.u64 ((UInt64.ofInt s0.Len) * (8 : UInt64))), .t r'6, .t (y'5 ++ r'6), .g (r'7.toList.map AV.u32), .q 4 (0)] : List TV).getD k TV.any) (fun k => ([[(1, none)], [(19, some 0)], [(3, none)], [(1, none)], [(22, some 3)], [(23, some 4)], [(24, some 5)], [(25, some 6)], [(21, some 2), (26, some 7)], [(20, some 1), (27, some 8)], []] : List (List (Nat × Option Nat))).getD k []) [(2, none), (4, some 10), (28, some 9)] [(10, 4, (((Vector.replicate 8 (0 : UInt32)).toList).map AV.u32))] (fun k => ([[], [0], [], [], [3], [3, 4], [3, 4, 5], [3, 4, 5, 6], [2, 3, 4, 5, 6, 7], [0, 1, 2, 3, 4, 5, 6, 7, 8], [], [0, 1, 2, 3, 4, 5, 6, 7, 8, 9, 10]] : List (List Nat)).getD k []) mixed (by kernel_rfl) rfl rfl (a_op (g_x rfl (x_p rfl (u_fa rfl rfl Tryd.underlying96 rfl in_93 (Nat.succ_ne_zero _) rfl rfl (ne_of_lt (n := 0) (Nat.lt_of_lt_of_eq (by decide) (Eq.symm (GStream.len s0))))) rfl)) (a_op (g_x rfl (x_p rfl (u_lda rfl rfl Tryd.underlying93 rfl in_93 rfl (Nat.succ_pos _) ((Sub.refl _).trans (GStream.sub0 s0)) (vmap_len (f := AV.u32) s0.H)) rfl)) (a_op (g_x rfl (x_p rfl (p_move rfl rfl) rfl)) (a_op (g_x rfl (x_p rfl (u_fa rfl rfl Tryd.underlying96 rfl in_3 (Nat.succ_ne_zero _) rfl rfl (ne_of_lt (n := 0) (Nat.lt_of_lt_of_eq (by decide) (Eq.symm (GStream.len s0))))) rfl)) (a_op (g_x rfl (x_p rfl (u_ld rfl rfl Tryd.underlying3 rfl rfl ((Sub.refl _).trans (GStream.sub3 s0))) rfl)) (a_op (g_x rfl (x_p rfl (p_i_u64 rfl Tryd.underlying3 Tryd.underlying103 rfl) rfl)) (a_op (g_x rfl (x_p rfl (p_u64mul (a := UInt64.ofInt s0.Len) (b := (8 : UInt64)) rfl rfl rfl) rfl)) (a_op (g_x rfl (x_p rfl (p_callp rfl rfl rfl Tryd.func90 rfl rfl (g_ref_big_ac h6) ⟨rfl, rfl, trivial⟩) rfl)) (a_op (g_x rfl (x_p rfl (p_cat rfl rfl rfl h7) rfl)) (a_op (g_x rfl (x_p rfl (p_callp rfl rfl rfl Tryd.func93 rfl rfl (g_ref_blocks_ac h8) ⟨rfl, rfl, trivial⟩) rfl)) (a_op (g_x rfl (x_m rfl (u_alloc 4 rfl in_93 one_93 zc_93) rfl rfl)) (a_nil)))))))))))) ?_
    refine t_op rfl rfl (u_st rfl rfl rfl rfl rfl in_93 (vmap_len (f := AV.u32) r'7) (ne_of_lt (n := 0) (Nat.lt_of_lt_of_eq (by decide) (Eq.symm (vmap_len (f := AV.u32) (Vector.replicate 8 (0 : UInt32)))))) (Upd.refl ((vmap_len (f := AV.u32) r'7).trans (vmap_len (f := AV.u32) (Vector.replicate 8 (0 : UInt32))).symm))) ?_
    refine t_gho (Gho_st (L := [(2, .q 2 (0)), (4, .q 4 (0))]) (H := [(2, .pure (bcells ((Vector.replicate 32 (0 : UInt8)).toList))), (4, .pure (r'7.toList.map AV.u32))]) (N := 49) rfl ⟨TLes.same _, TLes.same _, trivial⟩ ⟨rfl, rfl, trivial⟩) ?_
    refine sg [0] rfl ?_
    refine rp rfl rfl (p_asg rfl rfl) ?_
    refine rz [(2, .q 2 (0)), (4, .q 4 (0)), (5, .t [])] [(2, .pure (bcells ((Vector.replicate 32 (0 : UInt8)).toList))), (4, .pure (r'7.toList.map AV.u32))] rfl rfl rfl ?_
    refine AW2_seq ?_
    refine sg [0, 1] rfl ?_
    refine rp rfl rfl (u_lda rfl rfl Tryd.underlying93 rfl in_93 rfl (Nat.succ_pos _) (Sub.refl _) (vmap_len (f := AV.u32) r'7)) ?_
    refine rp rfl rfl (p_move rfl rfl) ?_
    refine rz [(2, .q 2 (0)), (5, .t []), (29, .g (r'7.toList.map AV.u32)), (30, .i (0 : Int))] [(2, .pure (bcells ((Vector.replicate 32 (0 : UInt8)).toList)))] rfl rfl rfl ?_
    refine AW2_block ?_
    refine as2 [(2, .q 2 (0)), (5, .t []), (29, .g (r'7.toList.map AV.u32)), (30, .i (0 : Int))] [(2, .pure (bcells ((Vector.replicate 32 (0 : UInt8)).toList)))] rfl rfl rfl ?_
    refine bindK H fun y'12 h13 H => ?_
    refine AW2_loopO (fun a'9 : (List UInt8) × Int => (⟨[(2, .q 2 (0)), (5, .t a'9.1), (29, .g (r'7.toList.map AV.u32)), (30, .i a'9.2)], [(2, .pure (bcells ((Vector.replicate 32 (0 : UInt8)).toList)))], 49⟩ : TS)) (fun (y'10 : ((List UInt8))) e s' => e = Go.Exit.exit 2 ∧ s' = (⟨[(2, .q 2 (0)), (5, .t y'10)], [(2, .pure (bcells ((Vector.replicate 32 (0 : UInt8)).toList)))], 49⟩ : TS)) h13 rfl (fun a x hx => ?_) (fun e s' hs => ?_)
    · clear H
      obtain ⟨t5_1, t30_1⟩ := a
      have H := hx
      clear hx
      unfold g_ref_ended_l1 at H
      refine sg [0] rfl ?_
      refine rp rfl rfl (p_bin rfl rfl rfl rfl) ?_
      refine rz [(2, .q 2 (0)), (5, .t t5_1), (29, .g (r'7.toList.map AV.u32)), (30, .i t30_1), (31, .b (decide (t30_1 < (8 : Int))))] [(2, .pure (bcells ((Vector.replicate 32 (0 : UInt8)).toList)))] rfl rfl rfl ?_
      refine AW2_seq ?_
      refine AW2_if (p := t30_1 < (8 : Int)) rfl (fun h9 => ?_) (fun h9 => ?_)
      · replace H := ite_then h9 H
        refine as2 [(2, .q 2 (0)), (5, .t t5_1), (29, .g (r'7.toList.map AV.u32)), (30, .i t30_1)] [(2, .pure (bcells ((Vector.replicate 32 (0 : UInt8)).toList)))] rfl rfl rfl ?_
        refine AW2_skip ?_
        refine AW2_seq ?_
        refine AW2_block ?_
        refine sg [0, 1] rfl ?_
        refine chkK H fun h10 H => ?_
        refine rp rfl rfl (u_ixa rfl rfl Tryd.underlying93 in_92 Tryd.underlying92 rfl rfl rfl (ixe h10) (ixn h10) (Sub.vmap (ixn h10))) ?_
        refine rp rfl rfl (p_asg rfl rfl) ?_
        refine rz [(2, .q 2 (0)), (5, .t t5_1), (7, .p (AV.u32 (vrd r'7 t30_1.toNat))), (29, .g (r'7.toList.map AV.u32)), (30, .i t30_1)] [(2, .pure (bcells ((Vector.replicate 32 (0 : UInt8)).toList)))] rfl rfl rfl ?_
        refine AW2_reg [0, 1, 2, 3, 4, 5] rfl ?_
        refine rp rfl rfl (p_move rfl rfl) ?_
        refine rp rfl rfl (p_move rfl rfl) ?_
        refine rp rfl rfl (p_u32_u64 (a := (vrd r'7 t30_1.toNat)) rfl Tryd.underlying92 Tryd.underlying103 rfl) ?_
        refine bindK H fun r'8 h11 H => ?_
        refine rp rfl rfl (p_callp rfl rfl rfl Tryd.func90 rfl rfl (g_ref_big_ac h11) ⟨rfl, rfl, trivial⟩) ?_
        refine chkK H fun h12 H => ?_
        refine rp rfl rfl (p_cat rfl rfl rfl h12) ?_
        refine rp rfl rfl (p_asg rfl rfl) ?_
        refine rz [(2, .q 2 (0)), (5, .t (t5_1 ++ r'8)), (29, .g (r'7.toList.map AV.u32)), (30, .i t30_1)] [(2, .pure (bcells ((Vector.replicate 32 (0 : UInt8)).toList)))] rfl rfl rfl ?_
        refine AW2_reg [0, 1] rfl ?_
        refine rp rfl rfl (p_bin rfl rfl rfl rfl) ?_
        refine rp rfl rfl (p_move rfl rfl) ?_
        refine rz [(2, .q 2 (0)), (5, .t (t5_1 ++ r'8)), (29, .g (r'7.toList.map AV.u32)), (30, .i (w64 (t30_1 + (1 : Int))))] [(2, .pure (bcells ((Vector.replicate 32 (0 : UInt8)).toList)))] rfl rfl rfl ?_
        have hz := some_elim H
        subst hz
        exact ⟨rfl, rfl⟩
      · replace H := ite_else h9 H
        refine as2 [(2, .q 2 (0)), (5, .t t5_1)] [(2, .pure (bcells ((Vector.replicate 32 (0 : UInt8)).toList)))] rfl rfl rfl ?_
        refine AW2_exit ?_
        refine thenQ2_exit ?_
        have hz := some_elim H
        subst hz
        exact ⟨rfl, rfl⟩
    · obtain ⟨rfl, rfl⟩ := hs
      refine ⟨by simp, ?_⟩
      refine blockQ2_exit ?_
      refine sg [0] rfl ?_
      refine r_op rfl rfl (MakeD.opD (u_alloc 8 rfl in_82 one_82 zc_82) rfl rfl rfl rfl) ?_
      refine rz [(2, .q 2 (0)), (5, .t y'12), (8, .q 8 (0))] [(2, .pure (bcells ((Vector.replicate 32 (0 : UInt8)).toList))), (8, .pure (bcells ((Vector.replicate 32 (0 : UInt8)).toList)))] rfl rfl rfl ?_
      refine AW2_seq ?_
      refine sg [0] rfl ?_
      refine rp rfl rfl (p_move rfl rfl) ?_
      refine rz [(2, .q 2 (0)), (5, .t y'12), (8, .q 8 (0)), (39, .i (0 : Int))] [(2, .pure (bcells ((Vector.replicate 32 (0 : UInt8)).toList))), (8, .pure (bcells ((Vector.replicate 32 (0 : UInt8)).toList)))] rfl rfl rfl ?_
      refine AW2_block ?_
      refine as2 [(2, .q 2 (0)), (5, .t y'12), (8, .q 8 (0)), (39, .i (0 : Int))] [(2, .pure (bcells ((Vector.replicate 32 (0 : UInt8)).toList))), (8, .pure (bcells ((Vector.replicate 32 (0 : UInt8)).toList)))] rfl rfl rfl ?_
      refine bindK H fun y'16 h17 H => ?_
      refine AW2_loopO (fun a'13 : Int × (Vector UInt8 32) => (⟨[(2, .q 2 (0)), (5, .t y'12), (8, .q 8 (0)), (39, .i a'13.1)], [(2, .pure (bcells ((Vector.replicate 32 (0 : UInt8)).toList))), (8, .pure (bcells a'13.2.toList))], 49⟩ : TS)) (fun (y'14 : ((Vector UInt8 32))) e s' => e = Go.Exit.exit 4 ∧ s' = (⟨[(2, .q 2 (0)), (8, .q 8 (0))], [(2, .pure (bcells ((Vector.replicate 32 (0 : UInt8)).toList))), (8, .pure (bcells y'14.toList))], 49⟩ : TS)) h17 rfl (fun a x hx => ?_) (fun e s' hs => ?_)
      · clear H
        obtain ⟨t39_2, out8_2⟩ := a
        have H := hx
        clear hx
        unfold g_ref_ended_l2 at H
        refine sg [0] rfl ?_
        refine rp rfl rfl (p_bin rfl rfl rfl rfl) ?_
        refine rz [(2, .q 2 (0)), (5, .t y'12), (8, .q 8 (0)), (39, .i t39_2), (40, .b (decide (t39_2 < (32 : Int))))] [(2, .pure (bcells ((Vector.replicate 32 (0 : UInt8)).toList))), (8, .pure (bcells out8_2.toList))] rfl rfl rfl ?_
        refine AW2_seq ?_
        refine AW2_if (p := t39_2 < (32 : Int)) rfl (fun h14 => ?_) (fun h14 => ?_)
        · replace H := ite_then h14 H
          refine as2 [(2, .q 2 (0)), (5, .t y'12), (8, .q 8 (0)), (39, .i t39_2)] [(2, .pure (bcells ((Vector.replicate 32 (0 : UInt8)).toList))), (8, .pure (bcells out8_2.toList))] rfl rfl rfl ?_
          refine AW2_skip ?_
          refine AW2_seq ?_
          refine AW2_block ?_
          refine sg [0, 1] rfl ?_
          refine rp rfl rfl (p_move rfl rfl) ?_
          refine rp rfl rfl (p_asg rfl rfl) ?_
          refine rz [(2, .q 2 (0)), (5, .t y'12), (8, .q 8 (0)), (9, .i t39_2), (39, .i t39_2)] [(2, .pure (bcells ((Vector.replicate 32 (0 : UInt8)).toList))), (8, .pure (bcells out8_2.toList))] rfl rfl rfl ?_
          refine AW2_reg [0, 1, 2, 3, 4, 5] rfl ?_
          refine rp rfl rfl (p_move rfl rfl) ?_
          refine rp rfl rfl (p_move rfl rfl) ?_
          refine rp rfl rfl (p_move rfl rfl) ?_
          refine chkK H fun h15 H => ?_
          refine rp rfl rfl (p_ixt rfl Tryd.underlying9 rfl rfl (ixe h15) (lrd_get (ixn h15))) ?_
          refine chkK H fun h16 H => ?_
          refine rp rfl rfl (u_ixp rfl rfl Tryd.underlying82 in_5 rfl rfl (ne_of_lt (n := 0) (Nat.lt_of_lt_of_eq (by decide) (Eq.symm ((bcells_length _).trans (vlen out8_2))))) rfl (ixe h16) (ixn h16)) ?_
          refine r_op rfl rfl (u_st rfl rfl rfl rfl rfl in_5 rfl (ne_of_lt (n := 0) (Nat.lt_of_lt_of_eq (by decide) (Eq.symm ((bcells_length _).trans (vlen out8_2))))) (Upd.trans (Sub.refl _) (Upd.vmap (ixn h16)) (Upd.refl (((bcells_length _).trans (vlen (vwr out8_2 t39_2.toNat (lrd y'12 t39_2.toNat)))).trans ((bcells_length _).trans (vlen out8_2)).symm)))) ?_
          refine rz [(2, .q 2 (0)), (5, .t y'12), (8, .q 8 (0)), (39, .i t39_2)] [(2, .pure (bcells ((Vector.replicate 32 (0 : UInt8)).toList))), (8, .pure (bcells ((vwr out8_2 t39_2.toNat (lrd y'12 t39_2.toNat)).toList)))] rfl rfl rfl ?_
          refine AW2_reg [0, 1] rfl ?_
          refine rp rfl rfl (p_bin rfl rfl rfl rfl) ?_
          refine rp rfl rfl (p_move rfl rfl) ?_
          refine rz [(2, .q 2 (0)), (5, .t y'12), (8, .q 8 (0)), (39, .i (w64 (t39_2 + (1 : Int))))] [(2, .pure (bcells ((Vector.replicate 32 (0 : UInt8)).toList))), (8, .pure (bcells ((vwr out8_2 t39_2.toNat (lrd y'12 t39_2.toNat)).toList)))] rfl rfl rfl ?_
          have hz := some_elim H
          subst hz
          exact ⟨rfl, rfl⟩
        · replace H := ite_else h14 H
          refine as2 [(2, .q 2 (0)), (8, .q 8 (0))] [(2, .pure (bcells ((Vector.replicate 32 (0 : UInt8)).toList))), (8, .pure (bcells out8_2.toList))] rfl rfl rfl ?_
          refine AW2_exit ?_
          refine thenQ2_exit ?_
          have hz := some_elim H
          subst hz
          exact ⟨rfl, rfl⟩
      · obtain ⟨rfl, rfl⟩ := hs
        refine ⟨by simp, ?_⟩
        refine blockQ2_exit ?_
        refine sg [0, 1] rfl ?_
        refine rp rfl rfl (u_lda rfl rfl Tryd.underlying82 rfl in_82 rfl (Nat.succ_pos _) (Sub.refl _) ((bcells_length _).trans (vlen y'16))) ?_
        refine r_op rfl rfl (u_st rfl rfl rfl rfl rfl in_82 ((bcells_length _).trans (vlen y'16)) (ne_of_lt (n := 0) (Nat.lt_of_lt_of_eq (by decide) (Eq.symm ((bcells_length _).trans (vlen (Vector.replicate 32 (0 : UInt8))))))) (Upd.refl (((bcells_length _).trans (vlen y'16)).trans ((bcells_length _).trans (vlen (Vector.replicate 32 (0 : UInt8)))).symm))) ?_
        refine rz [(2, .q 2 (0))] [(2, .pure (bcells y'16.toList))] rfl rfl rfl ?_
        refine AW2_ret ?_
        have hz := some_elim H
        subst hz
        exact ⟨⟨res_cella Tryd.underlying82 rfl in_82.sz rfl (Sub.le (Sub.refl _) ((bcells_length _).trans (vlen y'16))) (by decide) (Sub.take (Sub.refl _) ((bcells_length _).trans (vlen y'16))), trivial⟩, trivial⟩

/-! chirographref.Summed -/
noncomputable def g_ref_Summed (b0 : List UInt8) : Option ((Vector UInt8 32)) :=
  (g_ref_Begun).bind fun r'1 => (g_ref_Added r'1 b0).bind fun r'2 => (g_ref_ended r'2.1).bind fun r'3 => some r'3
set_option maxHeartbeats 4000000 in
set_option maxRecDepth 100000 in
theorem g_ref_Summed_ac {b0 : List UInt8} {r : (Vector UInt8 32)} (H : g_ref_Summed b0 = some r) : ACp Tryd.prog 75 [(AV.bytes b0)] (.agg (bcells r.toList)) := by
  refine ACp_of (AC2_of_body (vs := [.g (bcells r.toList)]) Tryd.func75 rfl rfl (Nat.le_of_ble_eq_true rfl) rfl ?_) (fun _ => .same _)
  unfold g_ref_Summed at H
  refine as2 [(0, .y b0)] [] rfl rfl rfl ?_
  refine sg [0] rfl ?_
  refine r_op rfl rfl (MakeD.opD (u_alloc 2 rfl in_82 one_82 zc_82) rfl rfl rfl rfl) ?_
  refine rz [(0, .y b0), (2, .q 2 (0))] [(2, .pure (bcells ((Vector.replicate 32 (0 : UInt8)).toList)))] rfl rfl rfl ?_
  refine sg [0, 1, 2, 3, 4, 5, 6, 7, 8] rfl ?_
  refine bindK H fun r'1 h1 H => ?_
  refine rp rfl rfl (p_callp rfl rfl rfl Tryd.func86 rfl rfl (g_ref_Begun_ac h1) trivial) ?_
  refine rp rfl rfl (p_move rfl rfl) ?_
  refine bindK H fun r'2 h2 H => ?_
  refine rp rfl rfl (p_callp rfl rfl rfl Tryd.func85 rfl rfl (g_ref_Added_ac h2) ⟨rfl, rfl, trivial⟩) ?_
  refine rp rfl rfl (p_move rfl rfl) ?_
  refine rp rfl rfl (p_ext rfl rfl rfl rfl) ?_
  refine rp rfl rfl (p_ext rfl rfl rfl rfl) ?_
  refine r_op rfl rfl (MakeD.opD (u_alloc 3 rfl in_96 one_96 zc_96) rfl rfl rfl rfl) ?_
  refine r_op rfl rfl (u_st rfl rfl rfl rfl rfl in_96 (GStream.len r'2.1) (ne_of_lt (n := 0) (Nat.lt_of_lt_of_eq (by decide) (Eq.symm (GStream.len GStream.zero)))) (Upd.refl ((GStream.len r'2.1).trans (GStream.len GStream.zero).symm))) ?_
  refine rp rfl rfl (p_asg rfl rfl) ?_
  refine rz [(2, .q 2 (0)), (3, .q 3 (0))] [(2, .pure (bcells ((Vector.replicate 32 (0 : UInt8)).toList))), (3, .pure (GStream.cs r'2.1))] rfl rfl rfl ?_
  refine sg [0, 1, 2] rfl ?_
  refine rp rfl rfl (u_lda rfl rfl Tryd.underlying96 rfl in_96 rfl (Nat.succ_pos _) (Sub.refl _) (GStream.len r'2.1)) ?_
  refine bindK H fun r'3 h3 H => ?_
  refine rp rfl rfl (p_callp rfl rfl rfl Tryd.func87 rfl rfl (g_ref_ended_ac h3) ⟨rfl, trivial⟩) ?_
  refine r_op rfl rfl (u_st rfl rfl rfl rfl rfl in_82 ((bcells_length _).trans (vlen r'3)) (ne_of_lt (n := 0) (Nat.lt_of_lt_of_eq (by decide) (Eq.symm ((bcells_length _).trans (vlen (Vector.replicate 32 (0 : UInt8))))))) (Upd.refl (((bcells_length _).trans (vlen r'3)).trans ((bcells_length _).trans (vlen (Vector.replicate 32 (0 : UInt8)))).symm))) ?_
  refine rz [(2, .q 2 (0))] [(2, .pure (bcells r'3.toList))] rfl rfl rfl ?_
  refine AW2_ret ?_
  have hz := some_elim H
  subst hz
  exact ⟨⟨res_cella Tryd.underlying82 rfl in_82.sz rfl (Sub.le (Sub.refl _) ((bcells_length _).trans (vlen r'3))) (by decide) (Sub.take (Sub.refl _) ((bcells_length _).trans (vlen r'3))), trivial⟩, trivial⟩

/-! chirographref.DigestOf -/
noncomputable def g_ref_DigestOf (mode0 : Int) (tag1 : Int) (parts2 : List (List UInt8)) : Option ((List UInt8) × Int) :=
  (g_ref_badMode mode0).bind fun r'1 => (if r'1 = true then some ([], (2 : Int)) else (g_ref_FrameOf tag1 parts2).bind fun r'2 => ((if (r'2.2 = (0 : Int)) ∧ (mode0 = (1 : Int)) then (g_ref_Summed r'2.1).bind fun r'4 => some r'4.toList else some r'2.1)).bind fun j'3 => some (j'3, r'2.2))
set_option maxHeartbeats 4000000 in
set_option maxRecDepth 100000 in
theorem g_ref_DigestOf_ac {mode0 : Int} {tag1 : Int} {parts2 : List (List UInt8)} {r : (List UInt8) × Int} (H : g_ref_DigestOf mode0 tag1 parts2 = some r) : ACp Tryd.prog 42 [(AV.int mode0), (AV.int tag1), (AV.lists parts2)] (.tup [(AV.bytes r.1), (AV.int r.2)]) := by
  refine ACp_of (AC2_of_body (vs := [.y r.1, .i r.2]) Tryd.func42 rfl rfl (Nat.le_of_ble_eq_true rfl) rfl ?_) (fun _ => .same _)
  unfold g_ref_DigestOf at H
  refine as2 [(0, .i mode0), (1, .i tag1), (2, .p (AV.lists parts2))] [] rfl rfl rfl ?_
  refine sg [0, 1] rfl ?_
  refine rp rfl rfl (p_asgn rfl) ?_
  refine rp rfl rfl (p_asg rfl rfl) ?_
  refine rz [(0, .i mode0), (1, .i tag1), (2, .p (AV.lists parts2))] [] rfl rfl rfl ?_
  refine AW2_seq ?_
  refine sg [0, 1] rfl ?_
  refine rp rfl rfl (p_move rfl rfl) ?_
  refine bindK H fun r'1 h1 H => ?_
  refine rp rfl rfl (p_callp rfl rfl rfl Tryd.func41 rfl rfl (g_ref_badMode_ac h1) ⟨rfl, trivial⟩) ?_
  refine rz [(0, .i mode0), (1, .i tag1), (2, .p (AV.lists parts2)), (12, .b r'1)] [] rfl rfl rfl ?_
  refine AW2_cond rfl (fun h2 => ?_) (fun h2 => ?_)
  · replace H := ite_then h2 H
    refine sg [0, 1] rfl ?_
    refine rp rfl rfl (p_asgn rfl) ?_
    refine rp rfl rfl (p_asg rfl rfl) ?_
    refine rz [(6, .p .nil), (7, .i (2 : Int))] [] rfl rfl rfl ?_
    refine AW2_ret ?_
    have hz := some_elim H
    subst hz
    exact ⟨⟨res_tmp TLes.nil0, res_tmp (.same _), trivial⟩, trivial⟩
  · replace H := ite_else (ne_true h2) H
    refine as2 [(0, .i mode0), (1, .i tag1), (2, .p (AV.lists parts2))] [] rfl rfl rfl ?_
    refine AW2_skip ?_
    refine sg [0, 1, 2, 3, 4, 5, 6, 7] rfl ?_
    refine rp rfl rfl (p_move rfl rfl) ?_
    refine rp rfl rfl (p_move rfl rfl) ?_
    refine bindK H fun r'2 h3 H => ?_
    refine rp rfl rfl (p_callp rfl rfl rfl Tryd.func74 rfl rfl (g_ref_FrameOf_ac h3) ⟨rfl, rfl, trivial⟩) ?_
    refine rp rfl rfl (p_move rfl rfl) ?_
    refine rp rfl rfl (p_ext rfl rfl rfl rfl) ?_
    refine rp rfl rfl (p_ext rfl rfl rfl rfl) ?_
    refine rp rfl rfl (p_asg rfl rfl) ?_
    refine rp rfl rfl (p_asg rfl rfl) ?_
    refine rz [(0, .i mode0), (8, .y r'2.1), (9, .i r'2.2)] [] rfl rfl rfl ?_
    refine AW2_seq ?_
    refine bindK H fun j'3 h4 H => ?_
    refine AW2_mid (⟨[(8, .y j'3), (9, .i r'2.2)], [], 32⟩ : TS) ?_ ?_
    · clear H
      have H := h4
      clear h4
      refine AW2_seq ?_
      refine AW2_mid (⟨[(8, .y r'2.1), (9, .i r'2.2), (24, .b (decide ((r'2.2 = (0 : Int)) ∧ (mode0 = (1 : Int)))))], [], 32⟩ : TS) ?_ ?_
      · refine AW2_reg [0, 1, 2, 3, 4, 5] rfl ?_
        refine rp rfl rfl (p_move rfl rfl) ?_
        refine rp rfl rfl (p_ieq rfl rfl rfl) ?_
        refine rp rfl rfl (p_move rfl rfl) ?_
        refine (Classical.em (r'2.2 = (0 : Int))).elim (fun h5 => ?_) (fun h5 => ?_)
        · refine r_on rfl rfl rfl rfl (decide_eq_true (p := r'2.2 = (0 : Int)) h5) rfl (PureD.opD (p_move rfl rfl)) ?_
          refine r_on rfl rfl rfl rfl (decide_eq_true (p := r'2.2 = (0 : Int)) h5) rfl (PureD.opD (p_ieq rfl rfl rfl)) ?_
          refine rp rfl rfl (p_pkt rfl rfl (decide_eq_true (p := r'2.2 = (0 : Int)) h5) (tb ((and_l (p := r'2.2 = (0 : Int)) (q := mode0 = (1 : Int)) h5)))) ?_
          refine rs [(8, .y r'2.1), (9, .i r'2.2), (24, .b (decide ((r'2.2 = (0 : Int)) ∧ (mode0 = (1 : Int)))))] [] rfl rfl rfl ?_
          exact RunW_nil rfl
        · refine r_off rfl rfl rfl rfl (decide_eq_false (p := r'2.2 = (0 : Int)) h5) rfl rfl ?_
          refine r_off rfl rfl rfl rfl (decide_eq_false (p := r'2.2 = (0 : Int)) h5) rfl rfl ?_
          refine rp rfl rfl (p_pkf rfl rfl (decide_eq_false (p := r'2.2 = (0 : Int)) h5) (tb (decide_eq_false (p := (r'2.2 = (0 : Int)) ∧ (mode0 = (1 : Int))) (fun x => h5 x.1)).symm)) ?_
          refine rs [(8, .y r'2.1), (9, .i r'2.2), (24, .b (decide ((r'2.2 = (0 : Int)) ∧ (mode0 = (1 : Int)))))] [] rfl rfl rfl ?_
          exact RunW_nil rfl
      · refine AW2_if (p := (r'2.2 = (0 : Int)) ∧ (mode0 = (1 : Int))) rfl (fun h6 => ?_) (fun h6 => ?_)
        · replace H := ite_then h6 H
          refine sg [0, 1, 2, 3] rfl ?_
          refine rp rfl rfl (p_move rfl rfl) ?_
          refine bindK H fun r'4 h7 H => ?_
          refine rp rfl rfl (p_callp rfl rfl rfl Tryd.func75 rfl rfl (g_ref_Summed_ac h7) ⟨rfl, trivial⟩) ?_
          refine r_op rfl rfl (MakeD.opD (u_alloc 10 rfl in_82 one_82 zc_82) rfl rfl rfl rfl) ?_
          refine r_op rfl rfl (u_st rfl rfl rfl rfl rfl in_82 ((bcells_length _).trans (vlen r'4)) (ne_of_lt (n := 0) (Nat.lt_of_lt_of_eq (by decide) (Eq.symm ((bcells_length _).trans (vlen (Vector.replicate 32 (0 : UInt8))))))) (Upd.refl (((bcells_length _).trans (vlen r'4)).trans ((bcells_length _).trans (vlen (Vector.replicate 32 (0 : UInt8)))).symm))) ?_
          refine rz [(9, .i r'2.2), (10, .q 10 (0))] [(10, .pure (bcells r'4.toList))] rfl rfl rfl ?_
          refine AW2_reg [0, 1, 2, 3] rfl ?_
          refine rp rfl rfl (u_cuta rfl rfl Tryd.underlying82 in_5 rfl rfl (ne_of_lt (n := 0) (Nat.lt_of_lt_of_eq (by decide) (Eq.symm ((bcells_length _).trans (vlen r'4))))) (Sub.refl _) (((bcells_length _).trans (vlen r'4)).trans (by decide))) ?_
          refine rp rfl rfl (u_cbl rfl rfl Tryd.underlying22 Tryd.underlying5 Tryd.underlying9 (bs := r'4.toList) (vlen _) rfl rfl (ne_of_lt (n := 0) (Nat.lt_of_lt_of_eq (by decide) (Eq.symm ((bcells_length _).trans (vlen r'4))))) (Sub.refl _)) ?_
          refine r_op rfl rfl (MakeD.opD (n_sb 29 rfl Tryd.underlying9 Tryd.underlying22 Tryd.underlying5 rfl) rfl rfl rfl rfl) ?_
          refine rp rfl rfl (p_asg rfl rfl) ?_
          refine rs [(8, .c (.own 29 r'4.toList.length 1)), (9, .i r'2.2)] [(29, .pure (bcells r'4.toList))] rfl rfl rfl ?_
          refine RunW_gho (Gho_ren 29 8 rfl rfl rfl rfl rfl) ?_
          refine rs [(8, .c (.own 8 r'4.toList.length 1)), (9, .i r'2.2)] [(8, .pure (bcells r'4.toList))] rfl rfl rfl ?_
          refine RunW_gho (Gho_pubs [8] ⟨rfl, trivial⟩ rfl (bl r'4.toList) (by decide)) ?_
          refine rz [(8, .y r'4.toList), (9, .i r'2.2)] [] rfl rfl rfl ?_
          have hz := some_elim H
          subst hz
          exact rfl
        · replace H := ite_else h6 H
          refine as2 [(8, .y r'2.1), (9, .i r'2.2)] [] rfl rfl rfl ?_
          refine AW2_skip ?_
          have hz := some_elim H
          subst hz
          exact rfl
    · refine sg [0, 1, 2, 3] rfl ?_
      refine rp rfl rfl (p_move rfl rfl) ?_
      refine rp rfl rfl (p_move rfl rfl) ?_
      refine rp rfl rfl (p_asg rfl rfl) ?_
      refine rp rfl rfl (p_asg rfl rfl) ?_
      refine rz [(6, .y j'3), (7, .i r'2.2)] [] rfl rfl rfl ?_
      refine AW2_ret ?_
      have hz := some_elim H
      subst hz
      exact ⟨⟨res_tmp (.same _), res_tmp (.same _), trivial⟩, trivial⟩

/-! chirographref.rollOf -/
noncomputable def g_ref_rollOf_l1 (mode0 : Int) : (List Gchirographref_peak) × Gchirographref_peak → Option (((List Gchirographref_peak) × Gchirographref_peak) ⊕ (((List UInt8) × Int) ⊕ ((List Gchirographref_peak) × Gchirographref_peak)))
  | (peaks6_1, p11_1) => ((if (peaks6_1.length : Int) > (0 : Int) then if 0 ≤ w64 ((peaks6_1.length : Int) - (1 : Int)) ∧ w64 ((peaks6_1.length : Int) - (1 : Int)) < (peaks6_1.length : Int) then some (decide ((lrd peaks6_1 ((w64 ((peaks6_1.length : Int) - (1 : Int))).toNat)).size_ = p11_1.size_)) else none else some false)).bind fun g'4 => (if g'4 = true then if 0 ≤ w64 ((peaks6_1.length : Int) - (1 : Int)) ∧ w64 ((peaks6_1.length : Int) - (1 : Int)) < (peaks6_1.length : Int) then (g_ref_DigestOf mode0 (6 : Int) ([(lrd peaks6_1 ((w64 ((peaks6_1.length : Int) - (1 : Int))).toNat)).root_, p11_1.root_] : List (List UInt8))).bind fun r'5 => (if r'5.2 ≠ (0 : Int) then some (.inr (.inl ([], r'5.2))) else if 0 ≤ w64 ((peaks6_1.length : Int) - (1 : Int)) ∧ w64 ((peaks6_1.length : Int) - (1 : Int)) ≤ (peaks6_1.length : Int) then letO ((List.take ((w64 ((peaks6_1.length : Int) - (1 : Int))).toNat) peaks6_1)) fun peaks6'6 => letO ({ { Gchirographref_peak.zero with size_ := w64 ((2 : Int) * p11_1.size_) } with root_ := r'5.1 }) fun p11'7 => some (.inl (peaks6'6, p11'7)) else none) else none else some (.inr (.inr (peaks6_1, p11_1))))
noncomputable def g_ref_rollOf_l0 (mode0 : Int) (l1 : List (List UInt8)) : Int × (List Gchirographref_peak) → Option ((Int × (List Gchirographref_peak)) ⊕ (((List UInt8) × Int) ⊕ ((List Gchirographref_peak))))
  | (t28_0, peaks6_0) => (if t28_0 < (l1.length : Int) then if 0 ≤ t28_0 ∧ t28_0 < (l1.length : Int) then (g_ref_DigestOf mode0 (5 : Int) ([(lrd l1 t28_0.toNat)] : List (List UInt8))).bind fun r'2 => (if r'2.2 ≠ (0 : Int) then some (.inr (.inl ([], r'2.2))) else letO ({ { Gchirographref_peak.zero with size_ := (1 : Int) } with root_ := r'2.1 }) fun p11'3 => (loopO (g_ref_rollOf_l1 mode0) (peaks6_0, p11'3)).bind fun o'11 => match o'11 with | .inl y'12 => some (.inr (.inl y'12)) | .inr (y'13) => if room (y'13.1.length + ([y'13.2] : List Gchirographref_peak).length) 32 then some (.inl (w64 (t28_0 + (1 : Int)), y'13.1 ++ ([y'13.2] : List Gchirographref_peak))) else none) else none else some (.inr (.inr peaks6_0)))
noncomputable def g_ref_rollOf_l2 (mode0 : Int) (y'19 : (List Gchirographref_peak)) : (List UInt8) × Int → Option (((List UInt8) × Int) ⊕ (((List UInt8) × Int) ⊕ ((List UInt8))))
  | (d15_2, i16_2) => (if i16_2 ≥ (0 : Int) then if 0 ≤ i16_2 ∧ i16_2 < (y'19.length : Int) then (g_ref_DigestOf mode0 (6 : Int) ([(lrd y'19 i16_2.toNat).root_, d15_2] : List (List UInt8))).bind fun r'20 => (if r'20.2 ≠ (0 : Int) then some (.inr (.inl ([], r'20.2))) else some (.inl (r'20.1, w64 (i16_2 - (1 : Int))))) else none else some (.inr (.inr d15_2)))
noncomputable def g_ref_rollOf (mode0 : Int) (l1 : List (List UInt8)) : Option ((List UInt8) × Int) :=
  (if (l1.length : Int) = (0 : Int) then (g_ref_DigestOf mode0 (4 : Int) []).bind fun r'1 => some (r'1.1, r'1.2) else (loopO (g_ref_rollOf_l0 mode0 l1) ((0 : Int), ([] : List Gchirographref_peak))).bind fun o'17 => match o'17 with | .inl y'18 => some y'18 | .inr (y'19) => if 0 ≤ w64 ((y'19.length : Int) - (1 : Int)) ∧ w64 ((y'19.length : Int) - (1 : Int)) < (y'19.length : Int) then (loopO (g_ref_rollOf_l2 mode0 y'19) ((lrd y'19 ((w64 ((y'19.length : Int) - (1 : Int))).toNat)).root_, w64 ((y'19.length : Int) - (2 : Int)))).bind fun o'24 => match o'24 with | .inl y'25 => some y'25 | .inr (y'26) => some (y'26, (0 : Int)) else none)
set_option maxHeartbeats 4000000 in
set_option maxRecDepth 100000 in
theorem g_ref_rollOf_ac {mode0 : Int} {l1 : List (List UInt8)} {r : (List UInt8) × Int} (H : g_ref_rollOf mode0 l1 = some r) : ACp Tryd.prog 63 [(AV.int mode0), (AV.lists l1)] (.tup [(AV.bytes r.1), (AV.int r.2)]) := by
  refine ACp_of (AC2_of_body (vs := [.y r.1, .i r.2]) Tryd.func63 rfl rfl (Nat.le_of_ble_eq_true rfl) rfl ?_) (fun _ => .same _)
  unfold g_ref_rollOf at H
  refine as2 [(0, .i mode0), (1, .p (AV.lists l1))] [] rfl rfl rfl ?_
  refine sg [0, 1] rfl ?_
  refine rp rfl rfl (p_asgn rfl) ?_
  refine rp rfl rfl (p_asg rfl rfl) ?_
  refine rz [(0, .i mode0), (1, .p (AV.lists l1))] [] rfl rfl rfl ?_
  refine AW2_seq ?_
  refine sg [0, 1, 2] rfl ?_
  refine rp rfl rfl (p_move rfl rfl) ?_
  refine rp rfl rfl (p_lenl rfl Tryd.underlying33 rfl rfl) ?_
  refine rp rfl rfl (p_ieq rfl rfl rfl) ?_
  refine rz [(0, .i mode0), (1, .p (AV.lists l1)), (21, .b (decide ((l1.length : Int) = (0 : Int))))] [] rfl rfl rfl ?_
  refine AW2_if (p := (l1.length : Int) = (0 : Int)) rfl (fun h1 => ?_) (fun h1 => ?_)
  · replace H := ite_then h1 H
    refine sg [0, 1, 2, 3, 4, 5] rfl ?_
    refine rp rfl rfl (p_move rfl rfl) ?_
    refine bindK H fun r'1 h2 H => ?_
    refine rp rfl rfl (p_callp rfl rfl rfl Tryd.func42 rfl rfl (g_ref_DigestOf_ac h2) ⟨rfl, rfl, rfl, trivial⟩) ?_
    refine rp rfl rfl (p_ext rfl rfl rfl rfl) ?_
    refine rp rfl rfl (p_ext rfl rfl rfl rfl) ?_
    refine rp rfl rfl (p_asg rfl rfl) ?_
    refine rp rfl rfl (p_asg rfl rfl) ?_
    refine rz [(4, .y r'1.1), (5, .i r'1.2)] [] rfl rfl rfl ?_
    refine AW2_ret ?_
    have hz := some_elim H
    subst hz
    exact ⟨⟨res_tmp (.same _), res_tmp (.same _), trivial⟩, trivial⟩
  · replace H := ite_else h1 H
    refine as2 [(0, .i mode0), (1, .p (AV.lists l1))] [] rfl rfl rfl ?_
    refine AW2_skip ?_
    refine sg [0] rfl ?_
    refine rp rfl rfl (p_asgn rfl) ?_
    refine rz [(0, .i mode0), (1, .p (AV.lists l1)), (6, .p .nil)] [] rfl rfl rfl ?_
    refine AW2_seq ?_
    refine sg [0, 1, 2] rfl ?_
    refine rp rfl rfl (p_move rfl rfl) ?_
    refine rp rfl rfl (p_lenl rfl Tryd.underlying33 rfl rfl) ?_
    refine rp rfl rfl (p_move rfl rfl) ?_
    refine rz [(0, .i mode0), (6, .p .nil), (26, .p (AV.lists l1)), (27, .i (l1.length : Int)), (28, .i (0 : Int))] [] rfl rfl rfl ?_
    refine AW2_block ?_
    refine as2 [(0, .i mode0), (6, .p .nil), (26, .p (AV.lists l1)), (27, .i (l1.length : Int)), (28, .i (0 : Int))] [] rfl rfl rfl ?_
    refine AW2_gho (Gho_own (d := 6) (b := 6) (z := 2) rfl rfl rfl rfl) ?_
    refine AW2_st [(0, .i mode0), (6, .c (.own 6 ([] : List Gchirographref_peak).length 2)), (26, .p (AV.lists l1)), (27, .i (l1.length : Int)), (28, .i (0 : Int))] [(6, .pure (([] : List Gchirographref_peak).flatMap Gchirographref_peak.cs))] rfl ⟨TLes.same _, TLes.own rfl, TLes.same _, TLes.same _, TLes.same _, trivial⟩ ⟨rfl, trivial⟩ ?_
    refine bindK H fun o'17 h17 H => ?_
    refine AW2_loopO (fun a'14 : Int × (List Gchirographref_peak) => (⟨[(0, .i mode0), (6, .c (.own 6 a'14.2.length 2)), (26, .p (AV.lists l1)), (27, .i (l1.length : Int)), (28, .i a'14.1)], [(6, .pure (a'14.2.flatMap Gchirographref_peak.cs))], 124⟩ : TS)) (fun (o : ((List UInt8) × Int) ⊕ ((List Gchirographref_peak))) e s' => match o with | .inl y'15 => e = Go.Exit.ret ∧ ResAll Tryd.prog s' [ResultVar.tmp 4, ResultVar.tmp 5] [.y y'15.1, .i y'15.2] ∧ HFits s' [] | .inr (y'16) => e = Go.Exit.exit 0 ∧ s' = (⟨[(0, .i mode0), (6, .c (.own 6 y'16.length 2))], [(6, .pure (y'16.flatMap Gchirographref_peak.cs))], 124⟩ : TS)) h17 rfl (fun a x hx => ?_) (fun e s' hs => ?_)
    · clear H
      obtain ⟨t28_0, peaks6_0⟩ := a
      have H := hx
      clear hx
      unfold g_ref_rollOf_l0 at H
      refine sg [0] rfl ?_
      refine rp rfl rfl (p_bin rfl rfl rfl rfl) ?_
      refine rz [(0, .i mode0), (6, .c (.own 6 peaks6_0.length 2)), (26, .p (AV.lists l1)), (27, .i (l1.length : Int)), (28, .i t28_0), (29, .b (decide (t28_0 < (l1.length : Int))))] [(6, .pure (peaks6_0.flatMap Gchirographref_peak.cs))] rfl rfl rfl ?_
      refine AW2_seq ?_
      refine AW2_if (p := t28_0 < (l1.length : Int)) rfl (fun h3 => ?_) (fun h3 => ?_)
      · replace H := ite_then h3 H
        refine as2 [(0, .i mode0), (6, .c (.own 6 peaks6_0.length 2)), (26, .p (AV.lists l1)), (27, .i (l1.length : Int)), (28, .i t28_0)] [(6, .pure (peaks6_0.flatMap Gchirographref_peak.cs))] rfl rfl rfl ?_
        refine AW2_skip ?_
        refine AW2_seq ?_
        refine AW2_block ?_
        refine sg [0, 1, 2] rfl ?_
        refine chkK H fun h4 H => ?_
        refine rp rfl rfl (u_ixl rfl rfl Tryd.underlying33 in_22 rfl rfl (ixe h4) (ixn h4) (lne (ixn h4))) ?_
        refine rp rfl rfl (u_ld rfl rfl Tryd.underlying22 rfl rfl (Sub.map default (ixn h4))) ?_
        refine rp rfl rfl (p_asg rfl rfl) ?_
        refine rz [(0, .i mode0), (6, .c (.own 6 peaks6_0.length 2)), (8, .y (lrd l1 t28_0.toNat)), (26, .p (AV.lists l1)), (27, .i (l1.length : Int)), (28, .i t28_0)] [(6, .pure (peaks6_0.flatMap Gchirographref_peak.cs))] rfl rfl rfl ?_
        refine sg [0, 1, 2, 3, 4, 5, 6, 7, 8] rfl ?_
        refine rp rfl rfl (p_move rfl rfl) ?_
        refine rp rfl rfl (p_move rfl rfl) ?_
        refine r_op rfl rfl (MakeD.opD (u_bs 35 rfl Tryd.underlying33 in_22 rfl one_22 (by decide) (by decide) rfl rfl rfl) rfl rfl rfl rfl) ?_
        refine RunW_st [(0, .i mode0), (6, .c (.own 6 peaks6_0.length 2)), (8, .y (lrd l1 t28_0.toNat)), (26, .p (AV.lists l1)), (27, .i (l1.length : Int)), (28, .i t28_0), (33, .i mode0), (34, .y (lrd l1 t28_0.toNat)), (35, .c (.own 35 ([(lrd l1 t28_0.toNat)] : List (List UInt8)).length 1))] [(6, .pure (peaks6_0.flatMap Gchirographref_peak.cs)), (35, .pure (([(lrd l1 t28_0.toNat)] : List (List UInt8)).map AV.bytes))] rfl ⟨TLes.same _, TLes.same _, TLes.same _, TLes.same _, TLes.same _, TLes.same _, TLes.same _, TLes.same _, TLes.own rfl, trivial⟩ ⟨rfl, rfl, trivial⟩ ?_
        refine RunW_gho (Gho_pubs [35] ⟨rfl, trivial⟩ rfl (ml AV.bytes ([(lrd l1 t28_0.toNat)] : List (List UInt8))) (by decide)) ?_
        refine bindK H fun r'2 h5 H => ?_
        refine rp rfl rfl (p_callp rfl rfl rfl Tryd.func42 rfl rfl (g_ref_DigestOf_ac h5) ⟨rfl, rfl, rfl, trivial⟩) ?_
        refine rp rfl rfl (p_move rfl rfl) ?_
        refine rp rfl rfl (p_ext rfl rfl rfl rfl) ?_
        refine rp rfl rfl (p_ext rfl rfl rfl rfl) ?_
        refine rp rfl rfl (p_asg rfl rfl) ?_
        refine rp rfl rfl (p_asg rfl rfl) ?_
        refine rz [(0, .i mode0), (6, .c (.own 6 peaks6_0.length 2)), (9, .y r'2.1), (10, .i r'2.2), (26, .p (AV.lists l1)), (27, .i (l1.length : Int)), (28, .i t28_0)] [(6, .pure (peaks6_0.flatMap Gchirographref_peak.cs))] rfl rfl rfl ?_
        refine AW2_seq ?_
        refine sg [0, 1] rfl ?_
        refine rp rfl rfl (p_move rfl rfl) ?_
        refine rp rfl rfl (p_ine rfl rfl rfl) ?_
        refine rz [(0, .i mode0), (6, .c (.own 6 peaks6_0.length 2)), (9, .y r'2.1), (10, .i r'2.2), (26, .p (AV.lists l1)), (27, .i (l1.length : Int)), (28, .i t28_0), (40, .b (decide (r'2.2 ≠ (0 : Int))))] [(6, .pure (peaks6_0.flatMap Gchirographref_peak.cs))] rfl rfl rfl ?_
        refine AW2_if (p := r'2.2 ≠ (0 : Int)) rfl (fun h6 => ?_) (fun h6 => ?_)
        · replace H := ite_then h6 H
          refine sg [0, 1, 2] rfl ?_
          refine rp rfl rfl (p_move rfl rfl) ?_
          refine rp rfl rfl (p_asgn rfl) ?_
          refine rp rfl rfl (p_asg rfl rfl) ?_
          refine rz [(4, .p .nil), (5, .i r'2.2)] [] rfl rfl rfl ?_
          refine AW2_ret ?_
          have hz := some_elim H
          subst hz
          exact ⟨rfl, ⟨res_tmp TLes.nil0, res_tmp (.same _), trivial⟩, trivial⟩
        · replace H := ite_else h6 H
          refine as2 [(0, .i mode0), (6, .c (.own 6 peaks6_0.length 2)), (9, .y r'2.1), (26, .p (AV.lists l1)), (27, .i (l1.length : Int)), (28, .i t28_0)] [(6, .pure (peaks6_0.flatMap Gchirographref_peak.cs))] rfl rfl rfl ?_
          refine AW2_skip ?_
          refine sg [0, 1, 2, 3] rfl ?_
          refine rp rfl rfl (p_move rfl rfl) ?_
          refine rp rfl rfl (u_bld rfl in_89 one_89 zc_89 pl_89 rfl (af_cons rfl rfl (Gchirographref_peak.upd0 Gchirographref_peak.zero (1 : Int)) (af_cons rfl rfl (Gchirographref_peak.upd1 ({ Gchirographref_peak.zero with size_ := (1 : Int) }) r'2.1) rfl))) ?_
          refine r_op rfl rfl (MakeD.opD (u_alloc 11 rfl in_89 one_89 zc_89) rfl rfl rfl rfl) ?_
          refine r_op rfl rfl (u_st rfl rfl rfl rfl rfl in_89 (Gchirographref_peak.len ({ { Gchirographref_peak.zero with size_ := (1 : Int) } with root_ := r'2.1 })) (ne_of_lt (n := 0) (Nat.lt_of_lt_of_eq (by decide) (Eq.symm (Gchirographref_peak.len Gchirographref_peak.zero)))) (Upd.refl ((Gchirographref_peak.len ({ { Gchirographref_peak.zero with size_ := (1 : Int) } with root_ := r'2.1 })).trans (Gchirographref_peak.len Gchirographref_peak.zero).symm))) ?_
          refine rz [(0, .i mode0), (6, .c (.own 6 peaks6_0.length 2)), (11, .q 11 (0)), (26, .p (AV.lists l1)), (27, .i (l1.length : Int)), (28, .i t28_0)] [(6, .pure (peaks6_0.flatMap Gchirographref_peak.cs)), (11, .pure (Gchirographref_peak.cs ({ { Gchirographref_peak.zero with size_ := (1 : Int) } with root_ := r'2.1 })))] rfl rfl rfl ?_
          refine gen1 (fun p11'3 => (⟨[(0, .i mode0), (6, .c (.own 6 peaks6_0.length 2)), (11, .q 11 (0)), (26, .p (AV.lists l1)), (27, .i (l1.length : Int)), (28, .i t28_0)], [(6, .pure (peaks6_0.flatMap Gchirographref_peak.cs)), (11, .pure (Gchirographref_peak.cs p11'3))], 124⟩ : TS)) H ?_
          intro p11'3 H
          refine AW2_seq ?_
          refine AW2_block ?_
          refine as2 [(0, .i mode0), (6, .c (.own 6 peaks6_0.length 2)), (11, .q 11 (0)), (26, .p (AV.lists l1)), (27, .i (l1.length : Int)), (28, .i t28_0)] [(6, .pure (peaks6_0.flatMap Gchirographref_peak.cs)), (11, .pure (Gchirographref_peak.cs p11'3))] rfl rfl rfl ?_
          refine bindK H fun o'11 h15 H => ?_
          refine AW2_loopO (fun a'8 : (List Gchirographref_peak) × Gchirographref_peak => (⟨[(0, .i mode0), (6, .c (.own 6 a'8.1.length 2)), (11, .q 11 (0)), (26, .p (AV.lists l1)), (27, .i (l1.length : Int)), (28, .i t28_0)], [(6, .pure (a'8.1.flatMap Gchirographref_peak.cs)), (11, .pure (Gchirographref_peak.cs a'8.2))], 124⟩ : TS)) (fun (o : ((List UInt8) × Int) ⊕ ((List Gchirographref_peak) × Gchirographref_peak)) e s' => match o with | .inl y'9 => e = Go.Exit.ret ∧ ResAll Tryd.prog s' [ResultVar.tmp 4, ResultVar.tmp 5] [.y y'9.1, .i y'9.2] ∧ HFits s' [] | .inr (y'10) => e = Go.Exit.exit 2 ∧ s' = (⟨[(0, .i mode0), (6, .c (.own 6 y'10.1.length 2)), (11, .q 11 (0)), (26, .p (AV.lists l1)), (27, .i (l1.length : Int)), (28, .i t28_0)], [(6, .pure (y'10.1.flatMap Gchirographref_peak.cs)), (11, .pure (Gchirographref_peak.cs y'10.2))], 124⟩ : TS)) h15 rfl (fun a x hx => ?_) (fun e s' hs => ?_)
          · clear H
            obtain ⟨peaks6_1, p11_1⟩ := a
            have H := hx
            clear hx
            unfold g_ref_rollOf_l1 at H
            refine AW2_seq ?_
            refine AW2_seq ?_
            refine bindK H fun g'4 h9 H => ?_
            refine AW2_mid (⟨[(0, .i mode0), (6, .c (.own 6 peaks6_1.length 2)), (11, .q 11 (0)), (26, .p (AV.lists l1)), (27, .i (l1.length : Int)), (28, .i t28_0), (58, .b g'4)], [(6, .pure (peaks6_1.flatMap Gchirographref_peak.cs)), (11, .pure (Gchirographref_peak.cs p11_1))], 124⟩ : TS) ?_ ?_
            · clear H
              have H := h9
              clear h9
              refine (Classical.em ((peaks6_1.length : Int) > (0 : Int))).elim (fun h7 => ?_) (fun h7 => ?_)
              · replace H := ite_then h7 H
                refine chkK H fun h8 H => ?_
                have hz := some_elim H
                subst hz
                refine AW2_ghoQ ?_
                refine AW2_draw 13 [13, 14] (fun k => ([.c (.own 6 peaks6_1.length 2), .i (peaks6_1.length : Int), .b (decide ((peaks6_1.length : Int) > (0 : Int))), .b (decide ((peaks6_1.length : Int) > (0 : Int))), .c (.own 6 peaks6_1.length 2), .c (.own 6 peaks6_1.length 2), .i (peaks6_1.length : Int), .i (w64 ((peaks6_1.length : Int) - (1 : Int))), .q 6 (0 + ((w64 ((peaks6_1.length : Int) - (1 : Int))).toNat) * 2), .q 6 (0 + ((w64 ((peaks6_1.length : Int) - (1 : Int))).toNat) * 2 + 0), .i ((lrd peaks6_1 ((w64 ((peaks6_1.length : Int) - (1 : Int))).toNat)).size_), .q 11 (0 + 0), .i p11_1.size_] : List TV).getD k TV.any) (fun k => ([[(6, none)], [(44, some 0)], [(45, some 1)], [(46, some 2)], [(6, none), (47, some 3)], [(6, none), (47, some 3)], [(47, some 3), (49, some 5)], [(47, some 3), (50, some 6)], [(47, some 3), (48, some 4), (51, some 7)], [(47, some 3), (52, some 8)], [(47, some 3), (53, some 9)], [(11, none), (47, some 3)], [(47, some 3), (55, some 11)]] : List (List (Nat × Option Nat))).getD k []) [(0, none), (6, none), (11, none), (26, none), (27, none), (28, none), (47, some 3), (54, some 10), (56, some 12)] [] (fun k => ([[], [0], [0, 1], [0, 1, 2], [0, 1, 2, 3], [0, 1, 2, 3], [0, 1, 2, 3, 5], [0, 1, 2, 3, 5, 6], [0, 1, 2, 3, 4, 5, 6, 7], [0, 1, 2, 3, 4, 5, 6, 7, 8], [0, 1, 2, 3, 4, 5, 6, 7, 8, 9], [0, 1, 2, 3], [0, 1, 2, 3, 11], [0, 1, 2, 3, 4, 5, 6, 7, 8, 9, 10, 11, 12], [0, 1, 2, 3, 4, 5, 6, 7, 8, 9, 10, 11, 12, 13]] : List (List Nat)).getD k []) mixed (by kernel_rfl) rfl rfl (a_op (g_x rfl (x_p rfl (p_move rfl rfl) rfl)) (a_op (g_x rfl (x_p rfl (p_leno rfl Tryd.underlying87 rfl rfl rfl (fm_length (fun x => (Gchirographref_peak.len x)) peaks6_1) (by decide)) rfl)) (a_op (g_x rfl (x_p rfl (p_bin rfl rfl rfl rfl) rfl)) (a_op (g_x rfl (x_p rfl (p_move rfl rfl) rfl)) (a_op (g_on rfl rfl rfl (decide_eq_true (p := (peaks6_1.length : Int) > (0 : Int)) h7) rfl (x_p rfl (p_move rfl rfl) rfl)) (a_op (g_on rfl rfl rfl (decide_eq_true (p := (peaks6_1.length : Int) > (0 : Int)) h7) rfl (x_p rfl (p_move rfl rfl) rfl)) (a_op (g_on rfl rfl rfl (decide_eq_true (p := (peaks6_1.length : Int) > (0 : Int)) h7) rfl (x_p rfl (p_leno rfl Tryd.underlying87 rfl rfl rfl (fm_length (fun x => (Gchirographref_peak.len x)) peaks6_1) (by decide)) rfl)) (a_op (g_on rfl rfl rfl (decide_eq_true (p := (peaks6_1.length : Int) > (0 : Int)) h7) rfl (x_p rfl (p_bin rfl rfl rfl rfl) rfl)) (a_op (g_on rfl rfl rfl (decide_eq_true (p := (peaks6_1.length : Int) > (0 : Int)) h7) rfl (x_p rfl (u_ixo rfl rfl Tryd.underlying87 in_89 rfl rfl (fne (fun x => (Gchirographref_peak.len x)) (by decide) (ixn h8)) rfl (ixe h8) (ixn h8)) rfl)) (a_op (g_on rfl rfl rfl (decide_eq_true (p := (peaks6_1.length : Int) > (0 : Int)) h7) rfl (x_p rfl (u_fa rfl rfl Tryd.underlying89 rfl in_3 (Nat.succ_ne_zero _) rfl rfl (fne (fun x => (Gchirographref_peak.len x)) (by decide) (ixn h8))) rfl)) (a_op (g_on rfl rfl rfl (decide_eq_true (p := (peaks6_1.length : Int) > (0 : Int)) h7) rfl (x_p rfl (u_ld rfl rfl Tryd.underlying3 rfl rfl (((Sub.refl _).trans (Sub.fm default (fun x => (Gchirographref_peak.len x)) (ixn h8))).trans (Gchirographref_peak.sub0 (lrd peaks6_1 ((w64 ((peaks6_1.length : Int) - (1 : Int))).toNat))))) rfl)) (a_op (g_on rfl rfl rfl (decide_eq_true (p := (peaks6_1.length : Int) > (0 : Int)) h7) rfl (x_p rfl (u_fa rfl rfl Tryd.underlying89 rfl in_3 (Nat.succ_ne_zero _) rfl rfl (ne_of_lt (n := 0) (Nat.lt_of_lt_of_eq (by decide) (Eq.symm (Gchirographref_peak.len p11_1))))) rfl)) (a_op (g_on rfl rfl rfl (decide_eq_true (p := (peaks6_1.length : Int) > (0 : Int)) h7) rfl (x_p rfl (u_ld rfl rfl Tryd.underlying3 rfl rfl ((Sub.refl _).trans (Gchirographref_peak.sub0 p11_1))) rfl)) (a_nil)))))))))))))) ?_
                refine t_on rfl rfl rfl rfl (decide_eq_true (p := (peaks6_1.length : Int) > (0 : Int)) h7) rfl (PureD.opD (p_ieq rfl rfl rfl)) ?_
                refine t_op rfl rfl (PureD.opD (p_pkt rfl rfl (decide_eq_true (p := (peaks6_1.length : Int) > (0 : Int)) h7) (.same _))) ?_
                refine t_gho (Gho_st (L := [(0, .i mode0), (6, .c (.own 6 peaks6_1.length 2)), (11, .q 11 (0)), (26, .p (AV.lists l1)), (27, .i (l1.length : Int)), (28, .i t28_0), (58, .b (decide ((lrd peaks6_1 ((w64 ((peaks6_1.length : Int) - (1 : Int))).toNat)).size_ = p11_1.size_)))]) (H := [(6, .pure (peaks6_1.flatMap Gchirographref_peak.cs)), (11, .pure (Gchirographref_peak.cs p11_1))]) (N := 124) rfl ⟨TLes.same _, TLes.same _, TLes.same _, TLes.same _, TLes.same _, TLes.same _, TLes.same _, trivial⟩ ⟨rfl, rfl, trivial⟩) ?_
                exact rfl
              · replace H := ite_else h7 H
                have hz := some_elim H
                subst hz
                refine AW2_ghoQ ?_
                refine AW2_draw 13 [13, 14] (fun k => ([.c (.own 6 peaks6_1.length 2), .i (peaks6_1.length : Int), .b (decide ((peaks6_1.length : Int) > (0 : Int))), .b (decide ((peaks6_1.length : Int) > (0 : Int))), .p (.tup []), .p (.tup []), .p (.tup []), .p (.tup []), .p (.tup []), .p (.tup []), .p (.tup []), .p (.tup []), .p (.tup [])] : List TV).getD k TV.any) (fun k => ([[(6, none)], [(44, some 0)], [(45, some 1)], [(46, some 2)], [(6, none), (47, some 3)], [(6, none), (47, some 3)], [(47, some 3), (49, some 5)], [(47, some 3), (50, some 6)], [(47, some 3), (48, some 4), (51, some 7)], [(47, some 3), (52, some 8)], [(47, some 3), (53, some 9)], [(11, none), (47, some 3)], [(47, some 3), (55, some 11)]] : List (List (Nat × Option Nat))).getD k []) [(0, none), (6, none), (11, none), (26, none), (27, none), (28, none), (47, some 3), (54, some 10), (56, some 12)] [] (fun k => ([[], [0], [0, 1], [0, 1, 2], [0, 1, 2, 3], [0, 1, 2, 3], [0, 1, 2, 3, 5], [0, 1, 2, 3, 5, 6], [0, 1, 2, 3, 4, 5, 6, 7], [0, 1, 2, 3, 4, 5, 6, 7, 8], [0, 1, 2, 3, 4, 5, 6, 7, 8, 9], [0, 1, 2, 3], [0, 1, 2, 3, 11], [0, 1, 2, 3, 4, 5, 6, 7, 8, 9, 10, 11, 12], [0, 1, 2, 3, 4, 5, 6, 7, 8, 9, 10, 11, 12, 13]] : List (List Nat)).getD k []) mixed (by kernel_rfl) rfl rfl (a_op (g_x rfl (x_p rfl (p_move rfl rfl) rfl)) (a_op (g_x rfl (x_p rfl (p_leno rfl Tryd.underlying87 rfl rfl rfl (fm_length (fun x => (Gchirographref_peak.len x)) peaks6_1) (by decide)) rfl)) (a_op (g_x rfl (x_p rfl (p_bin rfl rfl rfl rfl) rfl)) (a_op (g_x rfl (x_p rfl (p_move rfl rfl) rfl)) (a_op (g_off rfl rfl rfl rfl rfl (decide_eq_false (p := (peaks6_1.length : Int) > (0 : Int)) h7) rfl rfl) (a_op (g_off rfl rfl rfl rfl rfl (decide_eq_false (p := (peaks6_1.length : Int) > (0 : Int)) h7) rfl rfl) (a_op (g_off rfl rfl rfl rfl rfl (decide_eq_false (p := (peaks6_1.length : Int) > (0 : Int)) h7) rfl rfl) (a_op (g_off rfl rfl rfl rfl rfl (decide_eq_false (p := (peaks6_1.length : Int) > (0 : Int)) h7) rfl rfl) (a_op (g_off rfl rfl rfl rfl rfl (decide_eq_false (p := (peaks6_1.length : Int) > (0 : Int)) h7) rfl rfl) (a_op (g_off rfl rfl rfl rfl rfl (decide_eq_false (p := (peaks6_1.length : Int) > (0 : Int)) h7) rfl rfl) (a_op (g_off rfl rfl rfl rfl rfl (decide_eq_false (p := (peaks6_1.length : Int) > (0 : Int)) h7) rfl rfl) (a_op (g_off rfl rfl rfl rfl rfl (decide_eq_false (p := (peaks6_1.length : Int) > (0 : Int)) h7) rfl rfl) (a_op (g_off rfl rfl rfl rfl rfl (decide_eq_false (p := (peaks6_1.length : Int) > (0 : Int)) h7) rfl rfl) (a_nil)))))))))))))) ?_
                refine t_off rfl rfl rfl rfl (decide_eq_false (p := (peaks6_1.length : Int) > (0 : Int)) h7) rfl rfl ?_
                refine t_op rfl rfl (PureD.opD (p_pkf rfl rfl (decide_eq_false (p := (peaks6_1.length : Int) > (0 : Int)) h7) (.same _))) ?_
                refine t_gho (Gho_st (L := [(0, .i mode0), (6, .c (.own 6 peaks6_1.length 2)), (11, .q 11 (0)), (26, .p (AV.lists l1)), (27, .i (l1.length : Int)), (28, .i t28_0), (58, .b false)]) (H := [(6, .pure (peaks6_1.flatMap Gchirographref_peak.cs)), (11, .pure (Gchirographref_peak.cs p11_1))]) (N := 124) rfl ⟨TLes.same _, TLes.same _, TLes.same _, TLes.same _, TLes.same _, TLes.same _, TLes.same _, trivial⟩ ⟨rfl, rfl, trivial⟩) ?_
                exact rfl
            · refine AW2_cond rfl (fun h10 => ?_) (fun h10 => ?_)
              · replace H := ite_then h10 H
                refine as2 [(0, .i mode0), (6, .c (.own 6 peaks6_1.length 2)), (11, .q 11 (0)), (26, .p (AV.lists l1)), (27, .i (l1.length : Int)), (28, .i t28_0)] [(6, .pure (peaks6_1.flatMap Gchirographref_peak.cs)), (11, .pure (Gchirographref_peak.cs p11_1))] rfl rfl rfl ?_
                refine AW2_skip ?_
                refine AW2_block ?_
                refine sg [0, 1, 2, 3, 4, 5, 6, 7] rfl ?_
                refine rp rfl rfl (p_move rfl rfl) ?_
                refine rp rfl rfl (p_move rfl rfl) ?_
                refine rp rfl rfl (p_leno rfl Tryd.underlying87 rfl rfl rfl (fm_length (fun x => (Gchirographref_peak.len x)) peaks6_1) (by decide)) ?_
                refine rp rfl rfl (p_bin rfl rfl rfl rfl) ?_
                refine chkK H fun h11 H => ?_
                refine rp rfl rfl (u_ixo rfl rfl Tryd.underlying87 in_89 rfl rfl (fne (fun x => (Gchirographref_peak.len x)) (by decide) (ixn h11)) rfl (ixe h11) (ixn h11)) ?_
                refine rp rfl rfl (u_lda rfl rfl Tryd.underlying89 rfl in_89 rfl (Nat.succ_pos _) ((Sub.refl _).trans (Sub.fm default (fun x => (Gchirographref_peak.len x)) (ixn h11))) (Gchirographref_peak.len (lrd peaks6_1 ((w64 ((peaks6_1.length : Int) - (1 : Int))).toNat)))) ?_
                refine r_op rfl rfl (MakeD.opD (u_alloc 12 rfl in_89 one_89 zc_89) rfl rfl rfl rfl) ?_
                refine r_op rfl rfl (u_st rfl rfl rfl rfl rfl in_89 (Gchirographref_peak.len (lrd peaks6_1 ((w64 ((peaks6_1.length : Int) - (1 : Int))).toNat))) (ne_of_lt (n := 0) (Nat.lt_of_lt_of_eq (by decide) (Eq.symm (Gchirographref_peak.len Gchirographref_peak.zero)))) (Upd.refl ((Gchirographref_peak.len (lrd peaks6_1 ((w64 ((peaks6_1.length : Int) - (1 : Int))).toNat))).trans (Gchirographref_peak.len Gchirographref_peak.zero).symm))) ?_
                refine rz [(0, .i mode0), (6, .c (.own 6 peaks6_1.length 2)), (11, .q 11 (0)), (12, .q 12 (0)), (26, .p (AV.lists l1)), (27, .i (l1.length : Int)), (28, .i t28_0)] [(6, .pure (peaks6_1.flatMap Gchirographref_peak.cs)), (11, .pure (Gchirographref_peak.cs p11_1)), (12, .pure (Gchirographref_peak.cs (lrd peaks6_1 ((w64 ((peaks6_1.length : Int) - (1 : Int))).toNat))))] rfl rfl rfl ?_
                refine sg [0, 1, 2, 3, 4, 5, 6, 7, 8, 9, 10, 11] rfl ?_
                refine rp rfl rfl (p_move rfl rfl) ?_
                refine rp rfl rfl (u_fa rfl rfl Tryd.underlying89 rfl in_22 (Nat.succ_ne_zero _) rfl rfl (ne_of_lt (n := 0) (Nat.lt_of_lt_of_eq (by decide) (Eq.symm (Gchirographref_peak.len (lrd peaks6_1 ((w64 ((peaks6_1.length : Int) - (1 : Int))).toNat))))))) ?_
                refine rp rfl rfl (u_ld rfl rfl Tryd.underlying22 rfl rfl ((Sub.refl _).trans (Gchirographref_peak.sub1 (lrd peaks6_1 ((w64 ((peaks6_1.length : Int) - (1 : Int))).toNat))))) ?_
                refine rp rfl rfl (u_fa rfl rfl Tryd.underlying89 rfl in_22 (Nat.succ_ne_zero _) rfl rfl (ne_of_lt (n := 0) (Nat.lt_of_lt_of_eq (by decide) (Eq.symm (Gchirographref_peak.len p11_1))))) ?_
                refine rp rfl rfl (u_ld rfl rfl Tryd.underlying22 rfl rfl ((Sub.refl _).trans (Gchirographref_peak.sub1 p11_1))) ?_
                refine r_op rfl rfl (MakeD.opD (u_bs 71 rfl Tryd.underlying33 in_22 rfl one_22 (by decide) (by decide) rfl rfl rfl) rfl rfl rfl rfl) ?_
                refine RunW_st [(0, .i mode0), (6, .c (.own 6 peaks6_1.length 2)), (11, .q 11 (0)), (12, .q 12 (0)), (26, .p (AV.lists l1)), (27, .i (l1.length : Int)), (28, .i t28_0), (66, .i mode0), (67, .q 12 (0 + 1)), (68, .y ((lrd peaks6_1 ((w64 ((peaks6_1.length : Int) - (1 : Int))).toNat)).root_)), (69, .q 11 (0 + 1)), (70, .y p11_1.root_), (71, .c (.own 71 ([(lrd peaks6_1 ((w64 ((peaks6_1.length : Int) - (1 : Int))).toNat)).root_, p11_1.root_] : List (List UInt8)).length 1))] [(6, .pure (peaks6_1.flatMap Gchirographref_peak.cs)), (11, .pure (Gchirographref_peak.cs p11_1)), (12, .pure (Gchirographref_peak.cs (lrd peaks6_1 ((w64 ((peaks6_1.length : Int) - (1 : Int))).toNat)))), (71, .pure (([(lrd peaks6_1 ((w64 ((peaks6_1.length : Int) - (1 : Int))).toNat)).root_, p11_1.root_] : List (List UInt8)).map AV.bytes))] rfl ⟨TLes.same _, TLes.same _, TLes.same _, TLes.same _, TLes.same _, TLes.same _, TLes.same _, TLes.same _, TLes.same _, TLes.same _, TLes.same _, TLes.same _, TLes.own rfl, trivial⟩ ⟨rfl, rfl, rfl, rfl, trivial⟩ ?_
                refine RunW_gho (Gho_pubs [71] ⟨rfl, trivial⟩ rfl (ml AV.bytes ([(lrd peaks6_1 ((w64 ((peaks6_1.length : Int) - (1 : Int))).toNat)).root_, p11_1.root_] : List (List UInt8))) (by decide)) ?_
                refine bindK H fun r'5 h12 H => ?_
                refine rp rfl rfl (p_callp rfl rfl rfl Tryd.func42 rfl rfl (g_ref_DigestOf_ac h12) ⟨rfl, rfl, rfl, trivial⟩) ?_
                refine rp rfl rfl (p_move rfl rfl) ?_
                refine rp rfl rfl (p_ext rfl rfl rfl rfl) ?_
                refine rp rfl rfl (p_ext rfl rfl rfl rfl) ?_
                refine rp rfl rfl (p_asg rfl rfl) ?_
                refine rp rfl rfl (p_asg rfl rfl) ?_
                refine rz [(0, .i mode0), (6, .c (.own 6 peaks6_1.length 2)), (11, .q 11 (0)), (13, .y r'5.1), (14, .i r'5.2), (26, .p (AV.lists l1)), (27, .i (l1.length : Int)), (28, .i t28_0)] [(6, .pure (peaks6_1.flatMap Gchirographref_peak.cs)), (11, .pure (Gchirographref_peak.cs p11_1))] rfl rfl rfl ?_
                refine AW2_seq ?_
                refine sg [0, 1] rfl ?_
                refine rp rfl rfl (p_move rfl rfl) ?_
                refine rp rfl rfl (p_ine rfl rfl rfl) ?_
                refine rz [(0, .i mode0), (6, .c (.own 6 peaks6_1.length 2)), (11, .q 11 (0)), (13, .y r'5.1), (14, .i r'5.2), (26, .p (AV.lists l1)), (27, .i (l1.length : Int)), (28, .i t28_0), (76, .b (decide (r'5.2 ≠ (0 : Int))))] [(6, .pure (peaks6_1.flatMap Gchirographref_peak.cs)), (11, .pure (Gchirographref_peak.cs p11_1))] rfl rfl rfl ?_
                refine AW2_if (p := r'5.2 ≠ (0 : Int)) rfl (fun h13 => ?_) (fun h13 => ?_)
                · replace H := ite_then h13 H
                  refine sg [0, 1, 2] rfl ?_
                  refine rp rfl rfl (p_move rfl rfl) ?_
                  refine rp rfl rfl (p_asgn rfl) ?_
                  refine rp rfl rfl (p_asg rfl rfl) ?_
                  refine rz [(4, .p .nil), (5, .i r'5.2)] [] rfl rfl rfl ?_
                  refine AW2_ret ?_
                  have hz := some_elim H
                  subst hz
                  exact ⟨rfl, ⟨res_tmp TLes.nil0, res_tmp (.same _), trivial⟩, trivial⟩
                · replace H := ite_else h13 H
                  refine as2 [(0, .i mode0), (6, .c (.own 6 peaks6_1.length 2)), (11, .q 11 (0)), (13, .y r'5.1), (26, .p (AV.lists l1)), (27, .i (l1.length : Int)), (28, .i t28_0)] [(6, .pure (peaks6_1.flatMap Gchirographref_peak.cs)), (11, .pure (Gchirographref_peak.cs p11_1))] rfl rfl rfl ?_
                  refine AW2_skip ?_
                  refine chkK H fun h14 H => ?_
                  refine AW2_ghoQ ?_
                  refine AW2_draw 11 [11] (fun k => ([.c (.own 6 peaks6_1.length 2), .c (.own 6 peaks6_1.length 2), .i (peaks6_1.length : Int), .i (w64 ((peaks6_1.length : Int) - (1 : Int))), .c (.own 6 (w64 ((peaks6_1.length : Int) - (1 : Int))).toNat 2), .q 11 (0 + 0), .i p11_1.size_, .i (w64 ((2 : Int) * p11_1.size_)), .y r'5.1, .g (Gchirographref_peak.cs ({ { Gchirographref_peak.zero with size_ := w64 ((2 : Int) * p11_1.size_) } with root_ := r'5.1 })), .c (.own 6 (w64 ((peaks6_1.length : Int) - (1 : Int))).toNat 2)] : List TV).getD k TV.any) (fun k => ([[(6, none)], [(6, none)], [(79, some 1)], [(80, some 2)], [(78, some 0), (81, some 3)], [(11, none)], [(83, some 5)], [(84, some 6)], [(13, none)], [(85, some 7), (86, some 8)], [(82, some 4)]] : List (List (Nat × Option Nat))).getD k []) [(0, none), (6, some 10), (11, none), (26, none), (27, none), (28, none), (87, some 9)] [] (fun k => ([[], [], [1], [1, 2], [0, 1, 2, 3], [], [5], [5, 6], [], [5, 6, 7, 8], [0, 1, 2, 3, 4], [0, 1, 2, 3, 4, 5, 6, 7, 8, 9, 10]] : List (List Nat)).getD k []) mixed (by kernel_rfl) rfl rfl (a_op (g_x rfl (x_p rfl (p_move rfl rfl) rfl)) (a_op (g_x rfl (x_p rfl (p_move rfl rfl) rfl)) (a_op (g_x rfl (x_p rfl (p_leno rfl Tryd.underlying87 rfl rfl rfl (fm_length (fun x => (Gchirographref_peak.len x)) peaks6_1) (by decide)) rfl)) (a_op (g_x rfl (x_p rfl (p_bin rfl rfl rfl rfl) rfl)) (a_op (g_x rfl (x_p rfl (u_cuto rfl rfl Tryd.underlying87 in_89 rfl rfl (fm_length (fun x => (Gchirographref_peak.len x)) peaks6_1) (by decide) (bT_i h14.1 rfl) (by omega)) rfl)) (a_op (g_x rfl (x_p rfl (u_fa rfl rfl Tryd.underlying89 rfl in_3 (Nat.succ_ne_zero _) rfl rfl (ne_of_lt (n := 0) (Nat.lt_of_lt_of_eq (by decide) (Eq.symm (Gchirographref_peak.len p11_1))))) rfl)) (a_op (g_x rfl (x_p rfl (u_ld rfl rfl Tryd.underlying3 rfl rfl ((Sub.refl _).trans (Gchirographref_peak.sub0 p11_1))) rfl)) (a_op (g_x rfl (x_p rfl (p_bin rfl rfl rfl rfl) rfl)) (a_op (g_x rfl (x_p rfl (p_move rfl rfl) rfl)) (a_op (g_x rfl (x_p rfl (u_bld rfl in_89 one_89 zc_89 pl_89 rfl (af_cons rfl rfl (Gchirographref_peak.upd0 Gchirographref_peak.zero (w64 ((2 : Int) * p11_1.size_))) (af_cons rfl rfl (Gchirographref_peak.upd1 ({ Gchirographref_peak.zero with size_ := w64 ((2 : Int) * p11_1.size_) }) r'5.1) rfl))) rfl)) (a_op (g_x rfl (x_p rfl (p_asg rfl rfl) rfl)) (a_nil)))))))))))) ?_
                  refine t_op rfl rfl (u_st rfl rfl rfl rfl rfl in_89 (Gchirographref_peak.len ({ { Gchirographref_peak.zero with size_ := w64 ((2 : Int) * p11_1.size_) } with root_ := r'5.1 })) (ne_of_lt (n := 0) (Nat.lt_of_lt_of_eq (by decide) (Eq.symm (Gchirographref_peak.len p11_1)))) (Upd.refl ((Gchirographref_peak.len ({ { Gchirographref_peak.zero with size_ := w64 ((2 : Int) * p11_1.size_) } with root_ := r'5.1 })).trans (Gchirographref_peak.len p11_1).symm))) ?_
                  refine t_gho ((Gho_st (L := [(0, .i mode0), (6, .c (.own 6 (w64 ((peaks6_1.length : Int) - (1 : Int))).toNat 2)), (11, .q 11 (0)), (26, .p (AV.lists l1)), (27, .i (l1.length : Int)), (28, .i t28_0)]) (H := [(6, .pure (peaks6_1.flatMap Gchirographref_peak.cs)), (11, .pure (Gchirographref_peak.cs ({ { Gchirographref_peak.zero with size_ := w64 ((2 : Int) * p11_1.size_) } with root_ := r'5.1 })))]) (N := 124) rfl ⟨TLes.same _, TLes.same _, TLes.same _, TLes.same _, TLes.same _, TLes.same _, trivial⟩ ⟨rfl, rfl, trivial⟩).trans ((Gho_blk (b := 6) (k := .pure (peaks6_1.flatMap Gchirographref_peak.cs)) (k' := .pure ((List.take ((w64 ((peaks6_1.length : Int) - (1 : Int))).toNat) peaks6_1).flatMap Gchirographref_peak.cs)) rfl (fun _ => .pre (take_fm _ _ _))).trans (Gho_st (L := [(0, .i mode0), (6, .c (.own 6 (List.take ((w64 ((peaks6_1.length : Int) - (1 : Int))).toNat) peaks6_1).length 2)), (11, .q 11 (0)), (26, .p (AV.lists l1)), (27, .i (l1.length : Int)), (28, .i t28_0)]) (H := [(6, .pure ((List.take ((w64 ((peaks6_1.length : Int) - (1 : Int))).toNat) peaks6_1).flatMap Gchirographref_peak.cs)), (11, .pure (Gchirographref_peak.cs ({ { Gchirographref_peak.zero with size_ := w64 ((2 : Int) * p11_1.size_) } with root_ := r'5.1 })))]) (N := 124) rfl ⟨TLes.same _, TLes.own (cutN h14), TLes.same _, TLes.same _, TLes.same _, TLes.same _, trivial⟩ ⟨rfl, rfl, trivial⟩))) ?_
                  refine gen1 (fun peaks6'6 => (⟨[(0, .i mode0), (6, .c (.own 6 peaks6'6.length 2)), (11, .q 11 (0)), (26, .p (AV.lists l1)), (27, .i (l1.length : Int)), (28, .i t28_0)], [(6, .pure (peaks6'6.flatMap Gchirographref_peak.cs)), (11, .pure (Gchirographref_peak.cs ({ { Gchirographref_peak.zero with size_ := w64 ((2 : Int) * p11_1.size_) } with root_ := r'5.1 })))], 124⟩ : TS)) H ?_
                  intro peaks6'6 H
                  refine gen1 (fun p11'7 => (⟨[(0, .i mode0), (6, .c (.own 6 peaks6'6.length 2)), (11, .q 11 (0)), (26, .p (AV.lists l1)), (27, .i (l1.length : Int)), (28, .i t28_0)], [(6, .pure (peaks6'6.flatMap Gchirographref_peak.cs)), (11, .pure (Gchirographref_peak.cs p11'7))], 124⟩ : TS)) H ?_
                  intro p11'7 H
                  have hz := some_elim H
                  subst hz
                  exact ⟨rfl, rfl⟩
              · replace H := ite_else (ne_true h10) H
                refine as2 [(0, .i mode0), (6, .c (.own 6 peaks6_1.length 2)), (11, .q 11 (0)), (26, .p (AV.lists l1)), (27, .i (l1.length : Int)), (28, .i t28_0)] [(6, .pure (peaks6_1.flatMap Gchirographref_peak.cs)), (11, .pure (Gchirographref_peak.cs p11_1))] rfl rfl rfl ?_
                refine AW2_exit ?_
                refine thenQ2_exit ?_
                have hz := some_elim H
                subst hz
                exact ⟨rfl, rfl⟩
          · rcases o'11 with y'12 | y'13
            · obtain ⟨rfl, hs⟩ := hs
              refine ⟨by simp, ?_⟩
              have hz := some_elim H
              subst hz
              exact ⟨rfl, hs.1, hs.2⟩
            · obtain ⟨rfl, rfl⟩ := hs
              refine ⟨by simp, ?_⟩
              refine blockQ2_exit ?_
              refine AW2_reg [0, 1, 2, 3, 4] rfl ?_
              refine rp rfl rfl (p_move rfl rfl) ?_
              refine rp rfl rfl (u_lda rfl rfl Tryd.underlying89 rfl in_89 rfl (Nat.succ_pos _) (Sub.refl _) (Gchirographref_peak.len y'13.2)) ?_
              refine r_op rfl rfl (MakeD.opD (u_bs 90 rfl Tryd.underlying87 in_89 rfl one_89 (by decide) (by decide) zc_89 rfl (af_lit (g := Gchirographref_peak.cs) (fun x => (Gchirographref_peak.len x)) (Gchirographref_peak.len Gchirographref_peak.zero) [y'13.2])) rfl rfl rfl rfl) ?_
              refine chkK H fun h16 H => ?_
              refine r_op rfl rfl (u_app [6, 88] rfl rfl rfl rfl Tryd.underlying87 Tryd.underlying87 in_89 rfl rfl rfl (fm_length (fun x => (Gchirographref_peak.len x)) y'13.1) (by decide) (srcT_o rfl rfl (fm_length (fun x => (Gchirographref_peak.len x)) ([y'13.2] : List Gchirographref_peak)) (by decide)) (fm_length (fun x => (Gchirographref_peak.len x)) ([y'13.2] : List Gchirographref_peak)) h16 (by decide) rfl rfl (fapp Gchirographref_peak.cs y'13.1 ([y'13.2] : List Gchirographref_peak)) (lapp y'13.1 ([y'13.2] : List Gchirographref_peak))) ?_
              refine rp rfl rfl (p_asg rfl rfl) ?_
              refine rz [(0, .i mode0), (6, .c (.own 6 (y'13.1 ++ ([y'13.2] : List Gchirographref_peak)).length 2)), (26, .p (AV.lists l1)), (27, .i (l1.length : Int)), (28, .i t28_0)] [(6, .pure ((y'13.1 ++ ([y'13.2] : List Gchirographref_peak)).flatMap Gchirographref_peak.cs))] rfl rfl rfl ?_
              refine AW2_reg [0, 1] rfl ?_
              refine rp rfl rfl (p_bin rfl rfl rfl rfl) ?_
              refine rp rfl rfl (p_move rfl rfl) ?_
              refine rz [(0, .i mode0), (6, .c (.own 6 (y'13.1 ++ ([y'13.2] : List Gchirographref_peak)).length 2)), (26, .p (AV.lists l1)), (27, .i (l1.length : Int)), (28, .i (w64 (t28_0 + (1 : Int))))] [(6, .pure ((y'13.1 ++ ([y'13.2] : List Gchirographref_peak)).flatMap Gchirographref_peak.cs))] rfl rfl rfl ?_
              have hz := some_elim H
              subst hz
              exact ⟨rfl, rfl⟩
      · replace H := ite_else h3 H
        refine as2 [(0, .i mode0), (6, .c (.own 6 peaks6_0.length 2))] [(6, .pure (peaks6_0.flatMap Gchirographref_peak.cs))] rfl rfl rfl ?_
        refine AW2_exit ?_
        refine thenQ2_exit ?_
        have hz := some_elim H
        subst hz
        exact ⟨rfl, rfl⟩
    · rcases o'17 with y'18 | y'19
      · obtain ⟨rfl, hs⟩ := hs
        refine ⟨by simp, ?_⟩
        have hz := some_elim H
        subst hz
        exact ⟨hs.1, hs.2⟩
      · obtain ⟨rfl, rfl⟩ := hs
        refine ⟨by simp, ?_⟩
        refine blockQ2_exit ?_
        refine sg [0, 1, 2, 3, 4, 5, 6, 7] rfl ?_
        refine rp rfl rfl (p_move rfl rfl) ?_
        refine rp rfl rfl (p_move rfl rfl) ?_
        refine rp rfl rfl (p_leno rfl Tryd.underlying87 rfl rfl rfl (fm_length (fun x => (Gchirographref_peak.len x)) y'19) (by decide)) ?_
        refine rp rfl rfl (p_bin rfl rfl rfl rfl) ?_
        refine chkK H fun h18 H => ?_
        refine rp rfl rfl (u_ixo rfl rfl Tryd.underlying87 in_89 rfl rfl (fne (fun x => (Gchirographref_peak.len x)) (by decide) (ixn h18)) rfl (ixe h18) (ixn h18)) ?_
        refine rp rfl rfl (u_fa rfl rfl Tryd.underlying89 rfl in_22 (Nat.succ_ne_zero _) rfl rfl (fne (fun x => (Gchirographref_peak.len x)) (by decide) (ixn h18))) ?_
        refine rp rfl rfl (u_ld rfl rfl Tryd.underlying22 rfl rfl (((Sub.refl _).trans (Sub.fm default (fun x => (Gchirographref_peak.len x)) (ixn h18))).trans (Gchirographref_peak.sub1 (lrd y'19 ((w64 ((y'19.length : Int) - (1 : Int))).toNat))))) ?_
        refine rp rfl rfl (p_asg rfl rfl) ?_
        refine rz [(0, .i mode0), (6, .c (.own 6 y'19.length 2)), (15, .y ((lrd y'19 ((w64 ((y'19.length : Int) - (1 : Int))).toNat)).root_))] [(6, .pure (y'19.flatMap Gchirographref_peak.cs))] rfl rfl rfl ?_
        refine AW2_seq ?_
        refine sg [0, 1, 2, 3] rfl ?_
        refine rp rfl rfl (p_move rfl rfl) ?_
        refine rp rfl rfl (p_leno rfl Tryd.underlying87 rfl rfl rfl (fm_length (fun x => (Gchirographref_peak.len x)) y'19) (by decide)) ?_
        refine rp rfl rfl (p_bin rfl rfl rfl rfl) ?_
        refine rp rfl rfl (p_asg rfl rfl) ?_
        refine rz [(0, .i mode0), (6, .c (.own 6 y'19.length 2)), (15, .y ((lrd y'19 ((w64 ((y'19.length : Int) - (1 : Int))).toNat)).root_)), (16, .i (w64 ((y'19.length : Int) - (2 : Int))))] [(6, .pure (y'19.flatMap Gchirographref_peak.cs))] rfl rfl rfl ?_
        refine AW2_block ?_
        refine as2 [(0, .i mode0), (6, .c (.own 6 y'19.length 2)), (15, .y ((lrd y'19 ((w64 ((y'19.length : Int) - (1 : Int))).toNat)).root_)), (16, .i (w64 ((y'19.length : Int) - (2 : Int))))] [(6, .pure (y'19.flatMap Gchirographref_peak.cs))] rfl rfl rfl ?_
        refine bindK H fun o'24 h23 H => ?_
        refine AW2_loopO (fun a'21 : (List UInt8) × Int => (⟨[(0, .i mode0), (6, .c (.own 6 y'19.length 2)), (15, .y a'21.1), (16, .i a'21.2)], [(6, .pure (y'19.flatMap Gchirographref_peak.cs))], 124⟩ : TS)) (fun (o : ((List UInt8) × Int) ⊕ ((List UInt8))) e s' => match o with | .inl y'22 => e = Go.Exit.ret ∧ ResAll Tryd.prog s' [ResultVar.tmp 4, ResultVar.tmp 5] [.y y'22.1, .i y'22.2] ∧ HFits s' [] | .inr (y'23) => e = Go.Exit.exit 4 ∧ s' = (⟨[(15, .y y'23)], [], 124⟩ : TS)) h23 rfl (fun a x hx => ?_) (fun e s' hs => ?_)
        · clear H
          obtain ⟨d15_2, i16_2⟩ := a
          have H := hx
          clear hx
          unfold g_ref_rollOf_l2 at H
          refine AW2_seq ?_
          refine sg [0, 1] rfl ?_
          refine rp rfl rfl (p_move rfl rfl) ?_
          refine rp rfl rfl (p_bin rfl rfl rfl rfl) ?_
          refine rz [(0, .i mode0), (6, .c (.own 6 y'19.length 2)), (15, .y d15_2), (16, .i i16_2), (104, .b (decide (i16_2 ≥ (0 : Int))))] [(6, .pure (y'19.flatMap Gchirographref_peak.cs))] rfl rfl rfl ?_
          refine AW2_if (p := i16_2 ≥ (0 : Int)) rfl (fun h19 => ?_) (fun h19 => ?_)
          · replace H := ite_then h19 H
            refine as2 [(0, .i mode0), (6, .c (.own 6 y'19.length 2)), (15, .y d15_2), (16, .i i16_2)] [(6, .pure (y'19.flatMap Gchirographref_peak.cs))] rfl rfl rfl ?_
            refine AW2_skip ?_
            refine AW2_seq ?_
            refine AW2_block ?_
            refine sg [0, 1, 2, 3, 4, 5, 6, 7, 8, 9, 10, 11, 12, 13] rfl ?_
            refine rp rfl rfl (p_move rfl rfl) ?_
            refine rp rfl rfl (p_move rfl rfl) ?_
            refine rp rfl rfl (p_move rfl rfl) ?_
            refine chkK H fun h20 H => ?_
            refine rp rfl rfl (u_ixo rfl rfl Tryd.underlying87 in_89 rfl rfl (fne (fun x => (Gchirographref_peak.len x)) (by decide) (ixn h20)) rfl (ixe h20) (ixn h20)) ?_
            refine rp rfl rfl (u_fa rfl rfl Tryd.underlying89 rfl in_22 (Nat.succ_ne_zero _) rfl rfl (fne (fun x => (Gchirographref_peak.len x)) (by decide) (ixn h20))) ?_
            refine rp rfl rfl (u_ld rfl rfl Tryd.underlying22 rfl rfl (((Sub.refl _).trans (Sub.fm default (fun x => (Gchirographref_peak.len x)) (ixn h20))).trans (Gchirographref_peak.sub1 (lrd y'19 i16_2.toNat)))) ?_
            refine rp rfl rfl (p_move rfl rfl) ?_
            refine r_op rfl rfl (MakeD.opD (u_bs 115 rfl Tryd.underlying33 in_22 rfl one_22 (by decide) (by decide) rfl rfl rfl) rfl rfl rfl rfl) ?_
            refine RunW_st [(0, .i mode0), (6, .c (.own 6 y'19.length 2)), (15, .y d15_2), (16, .i i16_2), (108, .i mode0), (109, .c (.own 6 y'19.length 2)), (110, .i i16_2), (111, .q 6 (0 + i16_2.toNat * 2)), (112, .q 6 (0 + i16_2.toNat * 2 + 1)), (113, .y ((lrd y'19 i16_2.toNat).root_)), (114, .y d15_2), (115, .c (.own 115 ([(lrd y'19 i16_2.toNat).root_, d15_2] : List (List UInt8)).length 1))] [(6, .pure (y'19.flatMap Gchirographref_peak.cs)), (115, .pure (([(lrd y'19 i16_2.toNat).root_, d15_2] : List (List UInt8)).map AV.bytes))] rfl ⟨TLes.same _, TLes.same _, TLes.same _, TLes.same _, TLes.same _, TLes.same _, TLes.same _, TLes.same _, TLes.same _, TLes.same _, TLes.same _, TLes.own rfl, trivial⟩ ⟨rfl, rfl, trivial⟩ ?_
            refine RunW_gho (Gho_pubs [115] ⟨rfl, trivial⟩ rfl (ml AV.bytes ([(lrd y'19 i16_2.toNat).root_, d15_2] : List (List UInt8))) (by decide)) ?_
            refine bindK H fun r'20 h21 H => ?_
            refine rp rfl rfl (p_callp rfl rfl rfl Tryd.func42 rfl rfl (g_ref_DigestOf_ac h21) ⟨rfl, rfl, rfl, trivial⟩) ?_
            refine rp rfl rfl (p_move rfl rfl) ?_
            refine rp rfl rfl (p_ext rfl rfl rfl rfl) ?_
            refine rp rfl rfl (p_ext rfl rfl rfl rfl) ?_
            refine rp rfl rfl (p_asg rfl rfl) ?_
            refine rp rfl rfl (p_asg rfl rfl) ?_
            refine rz [(0, .i mode0), (6, .c (.own 6 y'19.length 2)), (16, .i i16_2), (17, .y r'20.1), (18, .i r'20.2)] [(6, .pure (y'19.flatMap Gchirographref_peak.cs))] rfl rfl rfl ?_
            refine AW2_seq ?_
            refine sg [0, 1] rfl ?_
            refine rp rfl rfl (p_move rfl rfl) ?_
            refine rp rfl rfl (p_ine rfl rfl rfl) ?_
            refine rz [(0, .i mode0), (6, .c (.own 6 y'19.length 2)), (16, .i i16_2), (17, .y r'20.1), (18, .i r'20.2), (120, .b (decide (r'20.2 ≠ (0 : Int))))] [(6, .pure (y'19.flatMap Gchirographref_peak.cs))] rfl rfl rfl ?_
            refine AW2_if (p := r'20.2 ≠ (0 : Int)) rfl (fun h22 => ?_) (fun h22 => ?_)
            · replace H := ite_then h22 H
              refine sg [0, 1, 2] rfl ?_
              refine rp rfl rfl (p_move rfl rfl) ?_
              refine rp rfl rfl (p_asgn rfl) ?_
              refine rp rfl rfl (p_asg rfl rfl) ?_
              refine rz [(4, .p .nil), (5, .i r'20.2)] [] rfl rfl rfl ?_
              refine AW2_ret ?_
              have hz := some_elim H
              subst hz
              exact ⟨rfl, ⟨res_tmp TLes.nil0, res_tmp (.same _), trivial⟩, trivial⟩
            · replace H := ite_else h22 H
              refine as2 [(0, .i mode0), (6, .c (.own 6 y'19.length 2)), (16, .i i16_2), (17, .y r'20.1)] [(6, .pure (y'19.flatMap Gchirographref_peak.cs))] rfl rfl rfl ?_
              refine AW2_skip ?_
              refine AW2_reg [0, 1] rfl ?_
              refine rp rfl rfl (p_move rfl rfl) ?_
              refine rp rfl rfl (p_asg rfl rfl) ?_
              refine rz [(0, .i mode0), (6, .c (.own 6 y'19.length 2)), (15, .y r'20.1), (16, .i i16_2)] [(6, .pure (y'19.flatMap Gchirographref_peak.cs))] rfl rfl rfl ?_
              refine AW2_reg [0, 1, 2] rfl ?_
              refine rp rfl rfl (p_move rfl rfl) ?_
              refine rp rfl rfl (p_bin rfl rfl rfl rfl) ?_
              refine rp rfl rfl (p_asg rfl rfl) ?_
              refine rz [(0, .i mode0), (6, .c (.own 6 y'19.length 2)), (15, .y r'20.1), (16, .i (w64 (i16_2 - (1 : Int))))] [(6, .pure (y'19.flatMap Gchirographref_peak.cs))] rfl rfl rfl ?_
              have hz := some_elim H
              subst hz
              exact ⟨rfl, rfl⟩
          · replace H := ite_else h19 H
            refine as2 [(15, .y d15_2)] [] rfl rfl rfl ?_
            refine AW2_exit ?_
            refine thenQ2_exit ?_
            have hz := some_elim H
            subst hz
            exact ⟨rfl, rfl⟩
        · rcases o'24 with y'25 | y'26
          · obtain ⟨rfl, hs⟩ := hs
            refine ⟨by simp, ?_⟩
            have hz := some_elim H
            subst hz
            exact ⟨hs.1, hs.2⟩
          · obtain ⟨rfl, rfl⟩ := hs
            refine ⟨by simp, ?_⟩
            refine blockQ2_exit ?_
            refine sg [0, 1, 2] rfl ?_
            refine rp rfl rfl (p_move rfl rfl) ?_
            refine rp rfl rfl (p_asg rfl rfl) ?_
            refine rp rfl rfl (p_asg rfl rfl) ?_
            refine rz [(4, .y y'26), (5, .i (0 : Int))] [] rfl rfl rfl ?_
            refine AW2_ret ?_
            have hz := some_elim H
            subst hz
            exact ⟨⟨res_tmp (.same _), res_tmp (.same _), trivial⟩, trivial⟩

/-! chirographref.RollOf -/
noncomputable def g_ref_RollOf (mode0 : Int) (l1 : List (List UInt8)) : Option ((List UInt8) × Int) :=
  (g_ref_rollFault mode0 l1).bind fun r'1 => (if r'1 ≠ (0 : Int) then some ([], r'1) else (g_ref_rollOf mode0 l1).bind fun r'2 => some (r'2.1, r'2.2))
set_option maxHeartbeats 4000000 in
set_option maxRecDepth 100000 in
theorem g_ref_RollOf_ac {mode0 : Int} {l1 : List (List UInt8)} {r : (List UInt8) × Int} (H : g_ref_RollOf mode0 l1 = some r) : ACp Tryd.prog 30 [(AV.int mode0), (AV.lists l1)] (.tup [(AV.bytes r.1), (AV.int r.2)]) := by
  refine ACp_of (AC2_of_body (vs := [.y r.1, .i r.2]) Tryd.func30 rfl rfl (Nat.le_of_ble_eq_true rfl) rfl ?_) (fun _ => .same _)
  unfold g_ref_RollOf at H
  refine as2 [(0, .i mode0), (1, .p (AV.lists l1))] [] rfl rfl rfl ?_
  refine sg [0, 1] rfl ?_
  refine rp rfl rfl (p_asgn rfl) ?_
  refine rp rfl rfl (p_asg rfl rfl) ?_
  refine rz [(0, .i mode0), (1, .p (AV.lists l1))] [] rfl rfl rfl ?_
  refine AW2_seq ?_
  refine sg [0, 1, 2, 3] rfl ?_
  refine rp rfl rfl (p_move rfl rfl) ?_
  refine rp rfl rfl (p_move rfl rfl) ?_
  refine bindK H fun r'1 h1 H => ?_
  refine rp rfl rfl (p_callp rfl rfl rfl Tryd.func62 rfl rfl (g_ref_rollFault_ac h1) ⟨rfl, rfl, trivial⟩) ?_
  refine rp rfl rfl (p_asg rfl rfl) ?_
  refine rz [(0, .i mode0), (1, .p (AV.lists l1)), (6, .i r'1)] [] rfl rfl rfl ?_
  refine sg [0, 1] rfl ?_
  refine rp rfl rfl (p_move rfl rfl) ?_
  refine rp rfl rfl (p_ine rfl rfl rfl) ?_
  refine rz [(0, .i mode0), (1, .p (AV.lists l1)), (6, .i r'1), (11, .b (decide (r'1 ≠ (0 : Int))))] [] rfl rfl rfl ?_
  refine AW2_if (p := r'1 ≠ (0 : Int)) rfl (fun h2 => ?_) (fun h2 => ?_)
  · replace H := ite_then h2 H
    refine sg [0, 1, 2] rfl ?_
    refine rp rfl rfl (p_move rfl rfl) ?_
    refine rp rfl rfl (p_asgn rfl) ?_
    refine rp rfl rfl (p_asg rfl rfl) ?_
    refine rz [(4, .p .nil), (5, .i r'1)] [] rfl rfl rfl ?_
    refine AW2_ret ?_
    have hz := some_elim H
    subst hz
    exact ⟨⟨res_tmp TLes.nil0, res_tmp (.same _), trivial⟩, trivial⟩
  · replace H := ite_else h2 H
    refine as2 [(0, .i mode0), (1, .p (AV.lists l1))] [] rfl rfl rfl ?_
    refine AW2_skip ?_
    refine sg [0, 1, 2, 3, 4, 5, 6] rfl ?_
    refine rp rfl rfl (p_move rfl rfl) ?_
    refine rp rfl rfl (p_move rfl rfl) ?_
    refine bindK H fun r'2 h3 H => ?_
    refine rp rfl rfl (p_callp rfl rfl rfl Tryd.func63 rfl rfl (g_ref_rollOf_ac h3) ⟨rfl, rfl, trivial⟩) ?_
    refine rp rfl rfl (p_ext rfl rfl rfl rfl) ?_
    refine rp rfl rfl (p_ext rfl rfl rfl rfl) ?_
    refine rp rfl rfl (p_asg rfl rfl) ?_
    refine rp rfl rfl (p_asg rfl rfl) ?_
    refine rz [(4, .y r'2.1), (5, .i r'2.2)] [] rfl rfl rfl ?_
    refine AW2_ret ?_
    have hz := some_elim H
    subst hz
    exact ⟨⟨res_tmp (.same _), res_tmp (.same _), trivial⟩, trivial⟩

/-! chirographlaw.sameBytes -/
noncomputable def g_law_sameBytes (a0 : List UInt8) (b1 : List UInt8) : Option (Bool) :=
  some (decide (a0 = b1))
set_option maxHeartbeats 4000000 in
set_option maxRecDepth 100000 in
theorem g_law_sameBytes_ac {a0 : List UInt8} {b1 : List UInt8} {r : Bool} (H : g_law_sameBytes a0 b1 = some r) : ACp Tryd.prog 16 [(AV.bytes a0), (AV.bytes b1)] (AV.bool r) := by
  refine ACp_of (AC2_of_body (vs := [.b r]) Tryd.func16 rfl rfl (Nat.le_of_ble_eq_true rfl) rfl ?_) (fun _ => .same _)
  unfold g_law_sameBytes at H
  refine as2 [(0, .y a0), (1, .y b1)] [] rfl rfl rfl ?_
  refine sg [0] rfl ?_
  refine rp rfl rfl (p_asg rfl rfl) ?_
  refine rz [(0, .y a0), (1, .y b1)] [] rfl rfl rfl ?_
  refine sg [0, 1, 2, 3, 4, 5] rfl ?_
  refine rp rfl rfl (p_move rfl rfl) ?_
  refine rp rfl rfl (p_cb rfl rfl Tryd.underlying22 Tryd.underlying5 Tryd.underlying9 rfl) ?_
  refine rp rfl rfl (p_move rfl rfl) ?_
  refine rp rfl rfl (p_cb rfl rfl Tryd.underlying22 Tryd.underlying5 Tryd.underlying9 rfl) ?_
  refine rp rfl rfl (p_seq rfl rfl rfl) ?_
  refine rp rfl rfl (p_asg rfl rfl) ?_
  refine rz [(4, .b (decide (a0 = b1)))] [] rfl rfl rfl ?_
  refine AW2_ret ?_
  have hz := some_elim H
  subst hz
  exact ⟨⟨res_tmp (.same _), trivial⟩, trivial⟩

/-! chirographlaw.RollRoots -/
noncomputable def g_law_RollRoots (mode0 : Int) (l1 : List (List UInt8)) : Option (Bool) :=
  (g_roll_Root mode0 l1).bind fun r'1 => (g_ref_RollOf mode0 l1).bind fun r'2 => ((if r'1.2 = r'2.2 then (g_law_sameBytes r'1.1 r'2.1).bind fun r'4 => some r'4 else some false)).bind fun g'5 => some g'5
set_option maxHeartbeats 4000000 in
set_option maxRecDepth 100000 in
theorem g_law_RollRoots_ac {mode0 : Int} {l1 : List (List UInt8)} {r : Bool} (H : g_law_RollRoots mode0 l1 = some r) : ACp Tryd.prog 9 [(AV.int mode0), (AV.lists l1)] (AV.bool r) := by
  refine ACp_of (AC2_of_body (vs := [.b r]) Tryd.func9 rfl rfl (Nat.le_of_ble_eq_true rfl) rfl ?_) (fun _ => .same _)
  unfold g_law_RollRoots at H
  refine as2 [(0, .i mode0), (1, .p (AV.lists l1))] [] rfl rfl rfl ?_
  refine sg [0] rfl ?_
  refine rp rfl rfl (p_asg rfl rfl) ?_
  refine rz [(0, .i mode0), (1, .p (AV.lists l1))] [] rfl rfl rfl ?_
  refine sg [0, 1, 2, 3, 4, 5, 6, 7] rfl ?_
  refine rp rfl rfl (p_move rfl rfl) ?_
  refine rp rfl rfl (p_move rfl rfl) ?_
  refine bindK H fun r'1 h1 H => ?_
  refine rp rfl rfl (p_callp rfl rfl rfl Tryd.func29 rfl rfl (g_roll_Root_ac h1) ⟨rfl, rfl, trivial⟩) ?_
  refine rp rfl rfl (p_move rfl rfl) ?_
  refine rp rfl rfl (p_ext rfl rfl rfl rfl) ?_
  refine rp rfl rfl (p_ext rfl rfl rfl rfl) ?_
  refine rp rfl rfl (p_asg rfl rfl) ?_
  refine rp rfl rfl (p_asg rfl rfl) ?_
  refine rz [(0, .i mode0), (1, .p (AV.lists l1)), (5, .y r'1.1), (6, .i r'1.2)] [] rfl rfl rfl ?_
  refine sg [0, 1, 2, 3, 4, 5, 6, 7] rfl ?_
  refine rp rfl rfl (p_move rfl rfl) ?_
  refine rp rfl rfl (p_move rfl rfl) ?_
  refine bindK H fun r'2 h2 H => ?_
  refine rp rfl rfl (p_callp rfl rfl rfl Tryd.func30 rfl rfl (g_ref_RollOf_ac h2) ⟨rfl, rfl, trivial⟩) ?_
  refine rp rfl rfl (p_move rfl rfl) ?_
  refine rp rfl rfl (p_ext rfl rfl rfl rfl) ?_
  refine rp rfl rfl (p_ext rfl rfl rfl rfl) ?_
  refine rp rfl rfl (p_asg rfl rfl) ?_
  refine rp rfl rfl (p_asg rfl rfl) ?_
  refine rz [(5, .y r'1.1), (6, .i r'1.2), (7, .y r'2.1), (8, .i r'2.2)] [] rfl rfl rfl ?_
  refine AW2_seq ?_
  refine bindK H fun g'5 h6 H => ?_
  refine AW2_mid (⟨[(4, .b g'5)], [], 29⟩ : TS) ?_ ?_
  · clear H
    have H := h6
    clear h6
    refine AW2_reg [0, 1, 2, 3, 4, 5, 6, 7, 8] rfl ?_
    refine rp rfl rfl (p_move rfl rfl) ?_
    refine rp rfl rfl (p_move rfl rfl) ?_
    refine rp rfl rfl (p_ieq rfl rfl rfl) ?_
    refine rp rfl rfl (p_move rfl rfl) ?_
    refine (Classical.em (r'1.2 = r'2.2)).elim (fun h4 => ?_) (fun h4 => ?_)
    · replace H := ite_then h4 H
      refine r_on rfl rfl rfl rfl (decide_eq_true (p := r'1.2 = r'2.2) h4) rfl (PureD.opD (p_move rfl rfl)) ?_
      refine r_on rfl rfl rfl rfl (decide_eq_true (p := r'1.2 = r'2.2) h4) rfl (PureD.opD (p_move rfl rfl)) ?_
      refine bindK H fun r'4 h5 H => ?_
      refine r_on rfl rfl rfl rfl (decide_eq_true (p := r'1.2 = r'2.2) h4) rfl (PureD.opD (p_callp rfl rfl rfl Tryd.func16 rfl rfl (g_law_sameBytes_ac h5) ⟨rfl, rfl, trivial⟩)) ?_
      refine rp rfl rfl (p_pkt rfl rfl (decide_eq_true (p := r'1.2 = r'2.2) h4) (.same _)) ?_
      refine rp rfl rfl (p_asg rfl rfl) ?_
      refine rs [(4, .b r'4)] [] rfl rfl rfl ?_
      have hz := some_elim H
      subst hz
      exact RunW_nil rfl
    · replace H := ite_else h4 H
      refine r_off rfl rfl rfl rfl (decide_eq_false (p := r'1.2 = r'2.2) h4) rfl rfl ?_
      refine r_off rfl rfl rfl rfl (decide_eq_false (p := r'1.2 = r'2.2) h4) rfl rfl ?_
      refine r_off rfl rfl rfl rfl (decide_eq_false (p := r'1.2 = r'2.2) h4) rfl rfl ?_
      refine rp rfl rfl (p_pkf rfl rfl (decide_eq_false (p := r'1.2 = r'2.2) h4) (.same _)) ?_
      refine rp rfl rfl (p_asg rfl rfl) ?_
      refine rs [(4, .b false)] [] rfl rfl rfl ?_
      have hz := some_elim H
      subst hz
      exact RunW_nil rfl
  · refine AW2_ret ?_
    have hz := some_elim H
    subst hz
    exact ⟨⟨res_tmp (.same _), trivial⟩, trivial⟩

/-! roll.include -/
noncomputable def g_roll_include_b (R' : Int → (List (List UInt8)) → Int → Option ((List (List UInt8)) × Int)) (mode0 : Int) (l1 : List (List UInt8)) (i2 : Int) : Option ((List (List UInt8)) × Int) :=
  (if (l1.length : Int) = (1 : Int) then some (([] : List (List UInt8)), (0 : Int)) else (g_roll_half (l1.length : Int)).bind fun r'1 => if 0 ≤ r'1 ∧ r'1 ≤ (l1.length : Int) then if 0 ≤ r'1 ∧ r'1 ≤ (l1.length : Int) then ((if i2 ≥ r'1 then some (w64 (i2 - r'1), (cut l1 r'1 (l1.length : Int)), (cut l1 (0 : Int) r'1)) else some (i2, (cut l1 (0 : Int) r'1), (cut l1 r'1 (l1.length : Int))))).bind fun j'2 => (R' mode0 j'2.2.1 j'2.1).bind fun r'3 => (if r'3.2 ≠ (0 : Int) then some (([] : List (List UInt8)), r'3.2) else (g_roll_root 100000 mode0 j'2.2.2).bind fun r'4 => (if r'4.2 ≠ (0 : Int) then some (([] : List (List UInt8)), r'4.2) else if room (r'3.1.length + ([r'4.1] : List (List UInt8)).length) 24 then some (r'3.1 ++ ([r'4.1] : List (List UInt8)), (0 : Int)) else none)) else none else none)
noncomputable def g_roll_include : Nat → Int → (List (List UInt8)) → Int → Option ((List (List UInt8)) × Int)
  | 0, _, _, _ => none
  | fu + 1, mode0, l1, i2 => g_roll_include_b (g_roll_include fu) mode0 l1 i2
set_option maxHeartbeats 4000000 in
set_option maxRecDepth 100000 in
theorem g_roll_include_ac0 {R' : Int → (List (List UInt8)) → Int → Option ((List (List UInt8)) × Int)} (hR2 : ∀ {mode0 : Int} {l1 : List (List UInt8)} {i2 : Int} {r : (List (List UInt8)) × Int}, R' mode0 l1 i2 = some r → AC2 Tryd.prog 64 (pureT [(AV.int mode0), (AV.lists l1), (AV.int i2)]) [] (retV [.c (.own 6 r.1.length 1), .i r.2]) [(6, .pure (r.1.map AV.bytes))]) {mode0 : Int} {l1 : List (List UInt8)} {i2 : Int} {r : (List (List UInt8)) × Int} (H : g_roll_include_b R' mode0 l1 i2 = some r) : AC2 Tryd.prog 64 (pureT [(AV.int mode0), (AV.lists l1), (AV.int i2)]) [] (retV [.c (.own 6 r.1.length 1), .i r.2]) [(6, .pure (r.1.map AV.bytes))] := by
  have hR : ∀ {mode0 : Int} {l1 : List (List UInt8)} {i2 : Int} {r : (List (List UInt8)) × Int}, R' mode0 l1 i2 = some r → ACp Tryd.prog 64 [(AV.int mode0), (AV.lists l1), (AV.int i2)] (.tup [(AV.lists r.1), (AV.int r.2)]) := fun {mode0} {l1} {i2} {r} H => ACp_pub (hR2 H) (fun _ _ hm => lent_tup ⟨lent_own hm rfl (ml AV.bytes r.1) (by decide), .same _, trivial⟩)
  refine AC2_of_body (vs := [.c (.own 6 r.1.length 1), .i r.2]) Tryd.func64 rfl rfl (Nat.le_of_ble_eq_true rfl) rfl ?_
  unfold g_roll_include_b at H
  refine as2 [(0, .i mode0), (1, .p (AV.lists l1)), (2, .i i2)] [] rfl rfl rfl ?_
  refine sg [0, 1] rfl ?_
  refine rp rfl rfl (p_asgn rfl) ?_
  refine rp rfl rfl (p_asg rfl rfl) ?_
  refine rz [(0, .i mode0), (1, .p (AV.lists l1)), (2, .i i2)] [] rfl rfl rfl ?_
  refine AW2_seq ?_
  refine sg [0, 1, 2] rfl ?_
  refine rp rfl rfl (p_move rfl rfl) ?_
  refine rp rfl rfl (p_lenl rfl Tryd.underlying33 rfl rfl) ?_
  refine rp rfl rfl (p_ieq rfl rfl rfl) ?_
  refine rz [(0, .i mode0), (1, .p (AV.lists l1)), (2, .i i2), (16, .b (decide ((l1.length : Int) = (1 : Int))))] [] rfl rfl rfl ?_
  refine AW2_if (p := (l1.length : Int) = (1 : Int)) rfl (fun h1 => ?_) (fun h1 => ?_)
  · replace H := ite_then h1 H
    refine sg [0, 1] rfl ?_
    refine rp rfl rfl (p_asgn rfl) ?_
    refine rp rfl rfl (p_asg rfl rfl) ?_
    refine rz [(6, .p .nil), (7, .i (0 : Int))] [] rfl rfl rfl ?_
    refine as2 [(6, .p .nil), (7, .i (0 : Int))] [] rfl rfl rfl ?_
    refine AW2_gho (Gho_own (d := 6) (b := 6) (z := 1) rfl rfl rfl rfl) ?_
    refine AW2_st [(6, .c (.own 6 ([] : List (List UInt8)).length 1)), (7, .i (0 : Int))] [(6, .pure (([] : List (List UInt8)).map AV.bytes))] rfl ⟨TLes.own rfl, TLes.same _, trivial⟩ ⟨rfl, trivial⟩ ?_
    refine AW2_ret ?_
    have hz := some_elim H
    subst hz
    exact ⟨⟨res_tmp (.same _), res_tmp (.same _), trivial⟩, ⟨rfl, trivial⟩⟩
  · replace H := ite_else h1 H
    refine as2 [(0, .i mode0), (1, .p (AV.lists l1)), (2, .i i2)] [] rfl rfl rfl ?_
    refine AW2_skip ?_
    refine sg [0, 1, 2, 3] rfl ?_
    refine rp rfl rfl (p_move rfl rfl) ?_
    refine rp rfl rfl (p_lenl rfl Tryd.underlying33 rfl rfl) ?_
    refine bindK H fun r'1 h2 H => ?_
    refine rp rfl rfl (p_callp rfl rfl rfl Tryd.func78 rfl rfl (g_roll_half_ac h2) ⟨rfl, trivial⟩) ?_
    refine rp rfl rfl (p_asg rfl rfl) ?_
    refine rz [(0, .i mode0), (1, .p (AV.lists l1)), (2, .i i2), (8, .i r'1)] [] rfl rfl rfl ?_
    refine AW2_seq ?_
    refine chkK H fun h3 H => ?_
    refine chkK H fun h4 H => ?_
    refine AW2_ghoQ ?_
    refine AW2_draw 8 [8] (fun k => ([.p (AV.lists l1), .i r'1, .i r'1, .p (AV.lists (cut l1 (0 : Int) r'1)), .p (AV.lists l1), .i r'1, .p (AV.lists (cut l1 r'1 (l1.length : Int))), .p (AV.lists (cut l1 (0 : Int) r'1))] : List TV).getD k TV.any) (fun k => ([[(1, none)], [(8, none)], [(8, none)], [(20, some 0), (21, some 1), (22, some 2)], [(1, none)], [(8, none)], [(24, some 4), (25, some 5)], [(23, some 3)]] : List (List (Nat × Option Nat))).getD k []) [(0, none), (2, none), (8, none), (9, some 7), (26, some 6)] [] (fun k => ([[], [], [], [0, 1, 2], [], [], [4, 5], [0, 1, 2, 3], [0, 1, 2, 3, 4, 5, 6, 7]] : List (List Nat)).getD k []) mixed (by kernel_rfl) rfl rfl (a_op (g_x rfl (x_p rfl (p_move rfl rfl) rfl)) (a_op (g_x rfl (x_p rfl (p_move rfl rfl) rfl)) (a_op (g_x rfl (x_p rfl (p_move rfl rfl) rfl)) (a_op (g_x rfl (x_p rfl (u_cutl (g := (fun l => l.map AV.bytes)) (a := (0 : Int)) (b := r'1) rfl rfl Tryd.underlying33 in_22 rfl bT_zero (bT_i (Int.le_trans (show 0 ≤ (0 : Int) ∧ (0 : Int) ≤ r'1 ∧ r'1 ≤ (l1.length : Int) from ⟨Int.le_refl _, h3.1, h3.2⟩).1 (show 0 ≤ (0 : Int) ∧ (0 : Int) ≤ r'1 ∧ r'1 ≤ (l1.length : Int) from ⟨Int.le_refl _, h3.1, h3.2⟩).2.1) rfl) (.inr ⟨(bT_i (Int.le_trans (show 0 ≤ (0 : Int) ∧ (0 : Int) ≤ r'1 ∧ r'1 ≤ (l1.length : Int) from ⟨Int.le_refl _, h3.1, h3.2⟩).1 (show 0 ≤ (0 : Int) ∧ (0 : Int) ≤ r'1 ∧ r'1 ≤ (l1.length : Int) from ⟨Int.le_refl _, h3.1, h3.2⟩).2.1) rfl), rfl⟩) (show 0 ≤ (0 : Int) ∧ (0 : Int) ≤ r'1 ∧ r'1 ≤ (l1.length : Int) from ⟨Int.le_refl _, h3.1, h3.2⟩) (g_map AV.bytes)) rfl)) (a_op (g_x rfl (x_p rfl (p_move rfl rfl) rfl)) (a_op (g_x rfl (x_p rfl (p_move rfl rfl) rfl)) (a_op (g_x rfl (x_p rfl (u_cutl (g := (fun l => l.map AV.bytes)) (a := r'1) (b := (l1.length : Int)) rfl rfl Tryd.underlying33 in_22 rfl (bT_i (show 0 ≤ r'1 ∧ r'1 ≤ (l1.length : Int) ∧ (l1.length : Int) ≤ (l1.length : Int) from ⟨h4.1, h4.2, Int.le_refl _⟩).1 rfl) (bT_len _) (.inl rfl) (show 0 ≤ r'1 ∧ r'1 ≤ (l1.length : Int) ∧ (l1.length : Int) ≤ (l1.length : Int) from ⟨h4.1, h4.2, Int.le_refl _⟩) (g_map AV.bytes)) rfl)) (a_op (g_x rfl (x_p rfl (p_asg rfl rfl) rfl)) (a_nil))))))))) ?_
    refine t_op rfl rfl (PureD.opD (p_asg rfl rfl)) ?_
    refine t_gho (Gho_st (L := [(0, .i mode0), (2, .i i2), (8, .i r'1), (9, .p (AV.lists (cut l1 (0 : Int) r'1))), (10, .p (AV.lists (cut l1 r'1 (l1.length : Int))))]) (H := []) (N := 58) rfl ⟨TLes.same _, TLes.same _, TLes.same _, TLes.same _, TLes.same _, trivial⟩ trivial) ?_
    refine AW2_seq ?_
    refine bindK H fun j'2 h5 H => ?_
    refine AW2_mid (⟨[(0, .i mode0), (2, .i j'2.1), (9, .p (AV.lists j'2.2.1)), (10, .p (AV.lists j'2.2.2))], [], 58⟩ : TS) ?_ ?_
    · clear H
      have H := h5
      clear h5
      refine sg [0, 1, 2] rfl ?_
      refine rp rfl rfl (p_move rfl rfl) ?_
      refine rp rfl rfl (p_move rfl rfl) ?_
      refine rp rfl rfl (p_bin rfl rfl rfl rfl) ?_
      refine rz [(0, .i mode0), (2, .i i2), (8, .i r'1), (9, .p (AV.lists (cut l1 (0 : Int) r'1))), (10, .p (AV.lists (cut l1 r'1 (l1.length : Int)))), (29, .b (decide (i2 ≥ r'1)))] [] rfl rfl rfl ?_
      refine AW2_if (p := i2 ≥ r'1) rfl (fun h6 => ?_) (fun h6 => ?_)
      · replace H := ite_then h6 H
        refine AW2_reg [0, 1, 2, 3, 4, 5, 6, 7] rfl ?_
        refine rp rfl rfl (p_move rfl rfl) ?_
        refine rp rfl rfl (p_move rfl rfl) ?_
        refine rp rfl rfl (p_move rfl rfl) ?_
        refine rp rfl rfl (p_move rfl rfl) ?_
        refine rp rfl rfl (p_bin rfl rfl rfl rfl) ?_
        refine rp rfl rfl (p_asg rfl rfl) ?_
        refine rp rfl rfl (p_asg rfl rfl) ?_
        refine rp rfl rfl (p_asg rfl rfl) ?_
        refine rz [(0, .i mode0), (2, .i (w64 (i2 - r'1))), (9, .p (AV.lists (cut l1 r'1 (l1.length : Int)))), (10, .p (AV.lists (cut l1 (0 : Int) r'1)))] [] rfl rfl rfl ?_
        have hz := some_elim H
        subst hz
        exact rfl
      · replace H := ite_else h6 H
        refine as2 [(0, .i mode0), (2, .i i2), (9, .p (AV.lists (cut l1 (0 : Int) r'1))), (10, .p (AV.lists (cut l1 r'1 (l1.length : Int))))] [] rfl rfl rfl ?_
        refine AW2_skip ?_
        have hz := some_elim H
        subst hz
        exact rfl
    · refine sg [0, 1, 2, 3, 4, 5, 6, 7, 8] rfl ?_
      refine rp rfl rfl (p_move rfl rfl) ?_
      refine rp rfl rfl (p_move rfl rfl) ?_
      refine rp rfl rfl (p_move rfl rfl) ?_
      refine bindK H fun r'3 h7 H => ?_
      refine r_op rfl rfl (d_callh [(6, 1000)] rfl rfl rfl Tryd.func64 rfl rfl (hR2 h7) ⟨TLes.same _, TLes.same _, TLes.same _, trivial⟩ trivial rfl rfl) ?_
      refine rp rfl rfl (p_move rfl rfl) ?_
      refine rp rfl rfl (p_ext2 rfl rfl rfl rfl) ?_
      refine rp rfl rfl (p_ext2 rfl rfl rfl rfl) ?_
      refine rp rfl rfl (p_asg rfl rfl) ?_
      refine rp rfl rfl (p_asg rfl rfl) ?_
      refine rs [(0, .i mode0), (10, .p (AV.lists j'2.2.2)), (11, .c (.own 1000 r'3.1.length 1)), (12, .i r'3.2)] [(1000, .pure (r'3.1.map AV.bytes))] rfl rfl rfl ?_
      refine RunW_gho (Gho_ren 1000 11 rfl rfl rfl rfl rfl) ?_
      refine rz [(0, .i mode0), (10, .p (AV.lists j'2.2.2)), (11, .c (.own 11 r'3.1.length 1)), (12, .i r'3.2)] [(11, .pure (r'3.1.map AV.bytes))] rfl rfl rfl ?_
      refine AW2_seq ?_
      refine sg [0, 1] rfl ?_
      refine rp rfl rfl (p_move rfl rfl) ?_
      refine rp rfl rfl (p_ine rfl rfl rfl) ?_
      refine rz [(0, .i mode0), (10, .p (AV.lists j'2.2.2)), (11, .c (.own 11 r'3.1.length 1)), (12, .i r'3.2), (43, .b (decide (r'3.2 ≠ (0 : Int))))] [(11, .pure (r'3.1.map AV.bytes))] rfl rfl rfl ?_
      refine AW2_if (p := r'3.2 ≠ (0 : Int)) rfl (fun h8 => ?_) (fun h8 => ?_)
      · replace H := ite_then h8 H
        refine sg [0, 1, 2] rfl ?_
        refine rp rfl rfl (p_move rfl rfl) ?_
        refine rp rfl rfl (p_asgn rfl) ?_
        refine rp rfl rfl (p_asg rfl rfl) ?_
        refine rz [(6, .p .nil), (7, .i r'3.2)] [] rfl rfl rfl ?_
        refine as2 [(6, .p .nil), (7, .i r'3.2)] [] rfl rfl rfl ?_
        refine AW2_gho (Gho_own (d := 6) (b := 6) (z := 1) rfl rfl rfl rfl) ?_
        refine AW2_st [(6, .c (.own 6 ([] : List (List UInt8)).length 1)), (7, .i r'3.2)] [(6, .pure (([] : List (List UInt8)).map AV.bytes))] rfl ⟨TLes.own rfl, TLes.same _, trivial⟩ ⟨rfl, trivial⟩ ?_
        refine AW2_ret ?_
        have hz := some_elim H
        subst hz
        exact ⟨⟨res_tmp (.same _), res_tmp (.same _), trivial⟩, ⟨rfl, trivial⟩⟩
      · replace H := ite_else h8 H
        refine as2 [(0, .i mode0), (10, .p (AV.lists j'2.2.2)), (11, .c (.own 11 r'3.1.length 1))] [(11, .pure (r'3.1.map AV.bytes))] rfl rfl rfl ?_
        refine AW2_skip ?_
        refine sg [0, 1, 2, 3, 4, 5, 6, 7] rfl ?_
        refine rp rfl rfl (p_move rfl rfl) ?_
        refine rp rfl rfl (p_move rfl rfl) ?_
        refine bindK H fun r'4 h9 H => ?_
        refine rp rfl rfl (p_callp rfl rfl rfl Tryd.func61 rfl rfl (g_roll_root_ac h9) ⟨rfl, rfl, trivial⟩) ?_
        refine rp rfl rfl (p_move rfl rfl) ?_
        refine rp rfl rfl (p_ext rfl rfl rfl rfl) ?_
        refine rp rfl rfl (p_ext rfl rfl rfl rfl) ?_
        refine rp rfl rfl (p_asg rfl rfl) ?_
        refine rp rfl rfl (p_asg rfl rfl) ?_
        refine rz [(11, .c (.own 11 r'3.1.length 1)), (12, .i r'4.2), (13, .y r'4.1)] [(11, .pure (r'3.1.map AV.bytes))] rfl rfl rfl ?_
        refine AW2_seq ?_
        refine sg [0, 1] rfl ?_
        refine rp rfl rfl (p_move rfl rfl) ?_
        refine rp rfl rfl (p_ine rfl rfl rfl) ?_
        refine rz [(11, .c (.own 11 r'3.1.length 1)), (12, .i r'4.2), (13, .y r'4.1), (52, .b (decide (r'4.2 ≠ (0 : Int))))] [(11, .pure (r'3.1.map AV.bytes))] rfl rfl rfl ?_
        refine AW2_if (p := r'4.2 ≠ (0 : Int)) rfl (fun h10 => ?_) (fun h10 => ?_)
        · replace H := ite_then h10 H
          refine sg [0, 1, 2] rfl ?_
          refine rp rfl rfl (p_move rfl rfl) ?_
          refine rp rfl rfl (p_asgn rfl) ?_
          refine rp rfl rfl (p_asg rfl rfl) ?_
          refine rz [(6, .p .nil), (7, .i r'4.2)] [] rfl rfl rfl ?_
          refine as2 [(6, .p .nil), (7, .i r'4.2)] [] rfl rfl rfl ?_
          refine AW2_gho (Gho_own (d := 6) (b := 6) (z := 1) rfl rfl rfl rfl) ?_
          refine AW2_st [(6, .c (.own 6 ([] : List (List UInt8)).length 1)), (7, .i r'4.2)] [(6, .pure (([] : List (List UInt8)).map AV.bytes))] rfl ⟨TLes.own rfl, TLes.same _, trivial⟩ ⟨rfl, trivial⟩ ?_
          refine AW2_ret ?_
          have hz := some_elim H
          subst hz
          exact ⟨⟨res_tmp (.same _), res_tmp (.same _), trivial⟩, ⟨rfl, trivial⟩⟩
        · replace H := ite_else h10 H
          refine as2 [(11, .c (.own 11 r'3.1.length 1)), (13, .y r'4.1)] [(11, .pure (r'3.1.map AV.bytes))] rfl rfl rfl ?_
          refine AW2_skip ?_
          refine sg [0, 1, 2, 3, 4, 5] rfl ?_
          refine rp rfl rfl (p_move rfl rfl) ?_
          refine rp rfl rfl (p_move rfl rfl) ?_
          refine r_op rfl rfl (MakeD.opD (u_bs 56 rfl Tryd.underlying33 in_22 rfl one_22 (by decide) (by decide) rfl rfl rfl) rfl rfl rfl rfl) ?_
          refine chkK H fun h11 H => ?_
          refine r_op rfl rfl (u_app [11, 54] rfl rfl rfl rfl Tryd.underlying33 Tryd.underlying33 in_22 rfl rfl rfl (ml AV.bytes r'3.1) (by decide) (srcT_o rfl rfl (ml AV.bytes ([r'4.1] : List (List UInt8))) (by decide)) (ml AV.bytes ([r'4.1] : List (List UInt8))) h11 (by decide) rfl rfl (mapp AV.bytes r'3.1 ([r'4.1] : List (List UInt8))) (lapp r'3.1 ([r'4.1] : List (List UInt8)))) ?_
          refine rp rfl rfl (p_asg rfl rfl) ?_
          refine rp rfl rfl (p_asg rfl rfl) ?_
          refine rs [(6, .c (.own 11 (r'3.1 ++ ([r'4.1] : List (List UInt8))).length 1)), (7, .i (0 : Int))] [(11, .pure ((r'3.1 ++ ([r'4.1] : List (List UInt8))).map AV.bytes))] rfl rfl rfl ?_
          refine RunW_gho (Gho_ren 11 6 rfl rfl rfl rfl rfl) ?_
          refine rz [(6, .c (.own 6 (r'3.1 ++ ([r'4.1] : List (List UInt8))).length 1)), (7, .i (0 : Int))] [(6, .pure ((r'3.1 ++ ([r'4.1] : List (List UInt8))).map AV.bytes))] rfl rfl rfl ?_
          refine as2 [(6, .c (.own 6 (r'3.1 ++ ([r'4.1] : List (List UInt8))).length 1)), (7, .i (0 : Int))] [(6, .pure ((r'3.1 ++ ([r'4.1] : List (List UInt8))).map AV.bytes))] rfl rfl rfl ?_
          refine AW2_ret ?_
          have hz := some_elim H
          subst hz
          exact ⟨⟨res_tmp (.same _), res_tmp (.same _), trivial⟩, ⟨rfl, trivial⟩⟩
theorem g_roll_include_acN : ∀ (fu : Nat) {mode0 : Int} {l1 : List (List UInt8)} {i2 : Int} {r : (List (List UInt8)) × Int}, g_roll_include fu mode0 l1 i2 = some r → AC2 Tryd.prog 64 (pureT [(AV.int mode0), (AV.lists l1), (AV.int i2)]) [] (retV [.c (.own 6 r.1.length 1), .i r.2]) [(6, .pure (r.1.map AV.bytes))]
  | 0, _, _, _, _, H => (by cases H)
  | fu + 1, _, _, _, _, H => g_roll_include_ac0 (g_roll_include_acN fu) H
theorem g_roll_include_ac2 {mode0 : Int} {l1 : List (List UInt8)} {i2 : Int} {r : (List (List UInt8)) × Int} (H : g_roll_include 100000 mode0 l1 i2 = some r) : AC2 Tryd.prog 64 (pureT [(AV.int mode0), (AV.lists l1), (AV.int i2)]) [] (retV [.c (.own 6 r.1.length 1), .i r.2]) [(6, .pure (r.1.map AV.bytes))] := g_roll_include_acN 100000 H
theorem g_roll_include_ac {mode0 : Int} {l1 : List (List UInt8)} {i2 : Int} {r : (List (List UInt8)) × Int} (H : g_roll_include 100000 mode0 l1 i2 = some r) : ACp Tryd.prog 64 [(AV.int mode0), (AV.lists l1), (AV.int i2)] (.tup [(AV.lists r.1), (AV.int r.2)]) := ACp_pub (g_roll_include_ac2 H) (fun _ _ hm => lent_tup ⟨lent_own hm rfl (ml AV.bytes r.1) (by decide), .same _, trivial⟩)

/-! roll.Include -/
noncomputable def g_roll_Include (mode0 : Int) (l1 : List (List UInt8)) (i2 : Int) : Option ((List (List UInt8)) × Int) :=
  (g_roll_fault mode0 l1).bind fun r'1 => (if r'1 ≠ (0 : Int) then some ([], r'1) else (if (i2 < (0 : Int)) ∨ (i2 ≥ (l1.length : Int)) then some ([], (6 : Int)) else (g_roll_root 100000 mode0 l1).bind fun r'2 => (if r'2.2 ≠ (0 : Int) then some ([], r'2.2) else (g_roll_include 100000 mode0 l1 i2).bind fun r'3 => some (r'3.1, r'3.2))))
set_option maxHeartbeats 4000000 in
set_option maxRecDepth 100000 in
theorem g_roll_Include_ac {mode0 : Int} {l1 : List (List UInt8)} {i2 : Int} {r : (List (List UInt8)) × Int} (H : g_roll_Include mode0 l1 i2 = some r) : ACp Tryd.prog 31 [(AV.int mode0), (AV.lists l1), (AV.int i2)] (.tup [(AV.lists r.1), (AV.int r.2)]) := by
  refine ACp_of (AC2_of_body (vs := [.p (AV.lists r.1), .i r.2]) Tryd.func31 rfl rfl (Nat.le_of_ble_eq_true rfl) rfl ?_) (fun _ => .same _)
  unfold g_roll_Include at H
  refine as2 [(0, .i mode0), (1, .p (AV.lists l1)), (2, .i i2)] [] rfl rfl rfl ?_
  refine sg [0, 1] rfl ?_
  refine rp rfl rfl (p_asgn rfl) ?_
  refine rp rfl rfl (p_asg rfl rfl) ?_
  refine rz [(0, .i mode0), (1, .p (AV.lists l1)), (2, .i i2)] [] rfl rfl rfl ?_
  refine AW2_seq ?_
  refine sg [0, 1, 2, 3] rfl ?_
  refine rp rfl rfl (p_move rfl rfl) ?_
  refine rp rfl rfl (p_move rfl rfl) ?_
  refine bindK H fun r'1 h1 H => ?_
  refine rp rfl rfl (p_callp rfl rfl rfl Tryd.func60 rfl rfl (g_roll_fault_ac h1) ⟨rfl, rfl, trivial⟩) ?_
  refine rp rfl rfl (p_asg rfl rfl) ?_
  refine rz [(0, .i mode0), (1, .p (AV.lists l1)), (2, .i i2), (8, .i r'1)] [] rfl rfl rfl ?_
  refine sg [0, 1] rfl ?_
  refine rp rfl rfl (p_move rfl rfl) ?_
  refine rp rfl rfl (p_ine rfl rfl rfl) ?_
  refine rz [(0, .i mode0), (1, .p (AV.lists l1)), (2, .i i2), (8, .i r'1), (15, .b (decide (r'1 ≠ (0 : Int))))] [] rfl rfl rfl ?_
  refine AW2_if (p := r'1 ≠ (0 : Int)) rfl (fun h2 => ?_) (fun h2 => ?_)
  · replace H := ite_then h2 H
    refine sg [0, 1, 2] rfl ?_
    refine rp rfl rfl (p_move rfl rfl) ?_
    refine rp rfl rfl (p_asgn rfl) ?_
    refine rp rfl rfl (p_asg rfl rfl) ?_
    refine rz [(6, .p .nil), (7, .i r'1)] [] rfl rfl rfl ?_
    refine AW2_ret ?_
    have hz := some_elim H
    subst hz
    exact ⟨⟨res_tmp TLes.nil0, res_tmp (.same _), trivial⟩, trivial⟩
  · replace H := ite_else h2 H
    refine as2 [(0, .i mode0), (1, .p (AV.lists l1)), (2, .i i2)] [] rfl rfl rfl ?_
    refine AW2_skip ?_
    refine AW2_seq ?_
    refine AW2_seq ?_
    refine AW2_mid (⟨[(0, .i mode0), (1, .p (AV.lists l1)), (2, .i i2), (24, .b (decide ((i2 < (0 : Int)) ∨ (i2 ≥ (l1.length : Int)))))], [], 40⟩ : TS) ?_ ?_
    · refine AW2_reg [0, 1, 2, 3, 4, 5, 6, 7] rfl ?_
      refine rp rfl rfl (p_move rfl rfl) ?_
      refine rp rfl rfl (p_bin rfl rfl rfl rfl) ?_
      refine rp rfl rfl (p_move rfl rfl) ?_
      refine (Classical.em (i2 < (0 : Int))).elim (fun h3 => ?_) (fun h3 => ?_)
      · refine r_off rfl rfl rfl rfl (decide_eq_true (p := i2 < (0 : Int)) h3) rfl rfl ?_
        refine r_off rfl rfl rfl rfl (decide_eq_true (p := i2 < (0 : Int)) h3) rfl rfl ?_
        refine r_off rfl rfl rfl rfl (decide_eq_true (p := i2 < (0 : Int)) h3) rfl rfl ?_
        refine r_off rfl rfl rfl rfl (decide_eq_true (p := i2 < (0 : Int)) h3) rfl rfl ?_
        refine rp rfl rfl (p_pkt rfl rfl (decide_eq_true (p := i2 < (0 : Int)) h3) (tb (decide_eq_true (p := (i2 < (0 : Int)) ∨ (i2 ≥ (l1.length : Int))) (Or.inl h3)).symm)) ?_
        refine rs [(0, .i mode0), (1, .p (AV.lists l1)), (2, .i i2), (24, .b (decide ((i2 < (0 : Int)) ∨ (i2 ≥ (l1.length : Int)))))] [] rfl rfl rfl ?_
        exact RunW_nil rfl
      · refine r_on rfl rfl rfl rfl (decide_eq_false (p := i2 < (0 : Int)) h3) rfl (PureD.opD (p_move rfl rfl)) ?_
        refine r_on rfl rfl rfl rfl (decide_eq_false (p := i2 < (0 : Int)) h3) rfl (PureD.opD (p_move rfl rfl)) ?_
        refine r_on rfl rfl rfl rfl (decide_eq_false (p := i2 < (0 : Int)) h3) rfl (PureD.opD (p_lenl rfl Tryd.underlying33 rfl rfl)) ?_
        refine r_on rfl rfl rfl rfl (decide_eq_false (p := i2 < (0 : Int)) h3) rfl (PureD.opD (p_bin rfl rfl rfl rfl)) ?_
        refine rp rfl rfl (p_pkf rfl rfl (decide_eq_false (p := i2 < (0 : Int)) h3) (tb ((or_l (p := i2 < (0 : Int)) (q := i2 ≥ (l1.length : Int)) h3)))) ?_
        refine rs [(0, .i mode0), (1, .p (AV.lists l1)), (2, .i i2), (24, .b (decide ((i2 < (0 : Int)) ∨ (i2 ≥ (l1.length : Int)))))] [] rfl rfl rfl ?_
        exact RunW_nil rfl
    · refine AW2_if (p := (i2 < (0 : Int)) ∨ (i2 ≥ (l1.length : Int))) rfl (fun h4 => ?_) (fun h4 => ?_)
      · replace H := ite_then h4 H
        refine sg [0, 1] rfl ?_
        refine rp rfl rfl (p_asgn rfl) ?_
        refine rp rfl rfl (p_asg rfl rfl) ?_
        refine rz [(6, .p .nil), (7, .i (6 : Int))] [] rfl rfl rfl ?_
        refine AW2_ret ?_
        have hz := some_elim H
        subst hz
        exact ⟨⟨res_tmp TLes.nil0, res_tmp (.same _), trivial⟩, trivial⟩
      · replace H := ite_else h4 H
        refine as2 [(0, .i mode0), (1, .p (AV.lists l1)), (2, .i i2)] [] rfl rfl rfl ?_
        refine AW2_skip ?_
        refine AW2_seq ?_
        refine sg [0, 1, 2, 3, 4, 5, 6, 7] rfl ?_
        refine rp rfl rfl (p_move rfl rfl) ?_
        refine rp rfl rfl (p_move rfl rfl) ?_
        refine bindK H fun r'2 h5 H => ?_
        refine rp rfl rfl (p_callp rfl rfl rfl Tryd.func61 rfl rfl (g_roll_root_ac h5) ⟨rfl, rfl, trivial⟩) ?_
        refine rp rfl rfl (p_move rfl rfl) ?_
        refine rp rfl rfl (p_ext rfl rfl rfl rfl) ?_
        refine rp rfl rfl (p_ext rfl rfl rfl rfl) ?_
        refine rp rfl rfl (p_asg rfl rfl) ?_
        refine rp rfl rfl (p_asg rfl rfl) ?_
        refine rz [(0, .i mode0), (1, .p (AV.lists l1)), (2, .i i2), (10, .i r'2.2)] [] rfl rfl rfl ?_
        refine sg [0, 1] rfl ?_
        refine rp rfl rfl (p_move rfl rfl) ?_
        refine rp rfl rfl (p_ine rfl rfl rfl) ?_
        refine rz [(0, .i mode0), (1, .p (AV.lists l1)), (2, .i i2), (10, .i r'2.2), (32, .b (decide (r'2.2 ≠ (0 : Int))))] [] rfl rfl rfl ?_
        refine AW2_if (p := r'2.2 ≠ (0 : Int)) rfl (fun h6 => ?_) (fun h6 => ?_)
        · replace H := ite_then h6 H
          refine sg [0, 1, 2] rfl ?_
          refine rp rfl rfl (p_move rfl rfl) ?_
          refine rp rfl rfl (p_asgn rfl) ?_
          refine rp rfl rfl (p_asg rfl rfl) ?_
          refine rz [(6, .p .nil), (7, .i r'2.2)] [] rfl rfl rfl ?_
          refine AW2_ret ?_
          have hz := some_elim H
          subst hz
          exact ⟨⟨res_tmp TLes.nil0, res_tmp (.same _), trivial⟩, trivial⟩
        · replace H := ite_else h6 H
          refine as2 [(0, .i mode0), (1, .p (AV.lists l1)), (2, .i i2)] [] rfl rfl rfl ?_
          refine AW2_skip ?_
          refine sg [0, 1, 2, 3, 4, 5, 6, 7] rfl ?_
          refine rp rfl rfl (p_move rfl rfl) ?_
          refine rp rfl rfl (p_move rfl rfl) ?_
          refine rp rfl rfl (p_move rfl rfl) ?_
          refine bindK H fun r'3 h7 H => ?_
          refine rp rfl rfl (p_callp rfl rfl rfl Tryd.func64 rfl rfl (g_roll_include_ac h7) ⟨rfl, rfl, rfl, trivial⟩) ?_
          refine rp rfl rfl (p_ext rfl rfl rfl rfl) ?_
          refine rp rfl rfl (p_ext rfl rfl rfl rfl) ?_
          refine rp rfl rfl (p_asg rfl rfl) ?_
          refine rp rfl rfl (p_asg rfl rfl) ?_
          refine rz [(6, .p (AV.lists r'3.1)), (7, .i r'3.2)] [] rfl rfl rfl ?_
          refine AW2_ret ?_
          have hz := some_elim H
          subst hz
          exact ⟨⟨res_tmp (.same _), res_tmp (.same _), trivial⟩, trivial⟩

/-! chirographref.below -/
noncomputable def g_ref_below_l0 (n0 : Int) : Int → Option (Int ⊕ (Int))
  | k3_0 => (if k3_0 ≥ n0 then some (.inl (w64 (k3_0.tdiv (2 : Int)))) else some (.inr k3_0))
noncomputable def g_ref_below (n0 : Int) : Option (Int) :=
  (loopO (g_ref_below_l0 n0) (32 : Int)).bind fun y'4 => some y'4
set_option maxHeartbeats 4000000 in
set_option maxRecDepth 100000 in
theorem g_ref_below_ac {n0 : Int} {r : Int} (H : g_ref_below n0 = some r) : ACp Tryd.prog 65 [(AV.int n0)] (AV.int r) := by
  refine ACp_of (AC2_of_body (vs := [.i r]) Tryd.func65 rfl rfl (Nat.le_of_ble_eq_true rfl) rfl ?_) (fun _ => .same _)
  unfold g_ref_below at H
  refine as2 [(0, .i n0)] [] rfl rfl rfl ?_
  refine sg [0] rfl ?_
  refine rp rfl rfl (p_asg rfl rfl) ?_
  refine rz [(0, .i n0)] [] rfl rfl rfl ?_
  refine sg [0] rfl ?_
  refine rp rfl rfl (p_asg rfl rfl) ?_
  refine rz [(0, .i n0), (3, .i (32 : Int))] [] rfl rfl rfl ?_
  refine AW2_seq ?_
  refine AW2_block ?_
  refine as2 [(0, .i n0), (3, .i (32 : Int))] [] rfl rfl rfl ?_
  refine bindK H fun y'4 h2 H => ?_
  refine AW2_loopO (fun a'1 : Int => (⟨[(0, .i n0), (3, .i a'1)], [], 10⟩ : TS)) (fun (y'2 : Int) e s' => e = Go.Exit.exit 0 ∧ s' = (⟨[(3, .i y'2)], [], 10⟩ : TS)) h2 rfl (fun k3_0 x hx => ?_) (fun e s' hs => ?_)
  · clear H
    have H := hx
    clear hx
    unfold g_ref_below_l0 at H
    refine AW2_seq ?_
    refine sg [0, 1, 2] rfl ?_
    refine rp rfl rfl (p_move rfl rfl) ?_
    refine rp rfl rfl (p_move rfl rfl) ?_
    refine rp rfl rfl (p_bin rfl rfl rfl rfl) ?_
    refine rz [(0, .i n0), (3, .i k3_0), (6, .b (decide (k3_0 ≥ n0)))] [] rfl rfl rfl ?_
    refine AW2_if (p := k3_0 ≥ n0) rfl (fun h1 => ?_) (fun h1 => ?_)
    · replace H := ite_then h1 H
      refine as2 [(0, .i n0), (3, .i k3_0)] [] rfl rfl rfl ?_
      refine AW2_skip ?_
      refine AW2_block ?_
      refine AW2_reg [0, 1, 2] rfl ?_
      refine rp rfl rfl (p_move rfl rfl) ?_
      refine rp rfl rfl (p_iquo rfl rfl rfl (by decide)) ?_
      refine rp rfl rfl (p_asg rfl rfl) ?_
      refine rz [(0, .i n0), (3, .i (w64 (k3_0.tdiv (2 : Int))))] [] rfl rfl rfl ?_
      have hz := some_elim H
      subst hz
      exact ⟨rfl, rfl⟩
    · replace H := ite_else h1 H
      refine as2 [(3, .i k3_0)] [] rfl rfl rfl ?_
      refine AW2_exit ?_
      refine thenQ2_exit ?_
      have hz := some_elim H
      subst hz
      exact ⟨rfl, rfl⟩
  · obtain ⟨rfl, rfl⟩ := hs
    refine ⟨by simp, ?_⟩
    refine blockQ2_exit ?_
    refine sg [0, 1] rfl ?_
    refine rp rfl rfl (p_move rfl rfl) ?_
    refine rp rfl rfl (p_asg rfl rfl) ?_
    refine rz [(2, .i y'4)] [] rfl rfl rfl ?_
    refine AW2_ret ?_
    have hz := some_elim H
    subst hz
    exact ⟨⟨res_tmp (.same _), trivial⟩, trivial⟩

/-! chirographref.turnedRound -/
noncomputable def g_ref_turnedRound_l0 (l0 : List (List UInt8)) : Int × (List (List UInt8)) → Option ((Int × (List (List UInt8))) ⊕ (((List (List UInt8)))))
  | (i4_0, out3_0) => (if i4_0 ≥ (0 : Int) then if 0 ≤ i4_0 ∧ i4_0 < (l0.length : Int) then if room (out3_0.length + ([(lrd l0 i4_0.toNat)] : List (List UInt8)).length) 24 then some (.inl (w64 (i4_0 - (1 : Int)), out3_0 ++ ([(lrd l0 i4_0.toNat)] : List (List UInt8)))) else none else none else some (.inr out3_0))
noncomputable def g_ref_turnedRound (l0 : List (List UInt8)) : Option ((List (List UInt8))) :=
  (loopO (g_ref_turnedRound_l0 l0) (w64 ((l0.length : Int) - (1 : Int)), ([] : List (List UInt8)))).bind fun y'4 => some y'4
set_option maxHeartbeats 4000000 in
set_option maxRecDepth 100000 in
theorem g_ref_turnedRound_ac2 {l0 : List (List UInt8)} {r : (List (List UInt8))} (H : g_ref_turnedRound l0 = some r) : AC2 Tryd.prog 66 (pureT [(AV.lists l0)]) [] (.c (.own 2 r.length 1)) [(2, .pure (r.map AV.bytes))] := by
  refine AC2_of_body (vs := [.c (.own 2 r.length 1)]) Tryd.func66 rfl rfl (Nat.le_of_ble_eq_true rfl) rfl ?_
  unfold g_ref_turnedRound at H
  refine as2 [(0, .p (AV.lists l0))] [] rfl rfl rfl ?_
  refine sg [0] rfl ?_
  refine rp rfl rfl (p_asgn rfl) ?_
  refine rz [(0, .p (AV.lists l0))] [] rfl rfl rfl ?_
  refine sg [0] rfl ?_
  refine rp rfl rfl (p_asgn rfl) ?_
  refine rz [(0, .p (AV.lists l0)), (3, .p .nil)] [] rfl rfl rfl ?_
  refine AW2_seq ?_
  refine sg [0, 1, 2, 3] rfl ?_
  refine rp rfl rfl (p_move rfl rfl) ?_
  refine rp rfl rfl (p_lenl rfl Tryd.underlying33 rfl rfl) ?_
  refine rp rfl rfl (p_bin rfl rfl rfl rfl) ?_
  refine rp rfl rfl (p_asg rfl rfl) ?_
  refine rz [(0, .p (AV.lists l0)), (3, .p .nil), (4, .i (w64 ((l0.length : Int) - (1 : Int))))] [] rfl rfl rfl ?_
  refine AW2_block ?_
  refine as2 [(0, .p (AV.lists l0)), (3, .p .nil), (4, .i (w64 ((l0.length : Int) - (1 : Int))))] [] rfl rfl rfl ?_
  refine AW2_gho (Gho_own (d := 3) (b := 3) (z := 1) rfl rfl rfl rfl) ?_
  refine AW2_st [(0, .p (AV.lists l0)), (3, .c (.own 3 ([] : List (List UInt8)).length 1)), (4, .i (w64 ((l0.length : Int) - (1 : Int))))] [(3, .pure (([] : List (List UInt8)).map AV.bytes))] rfl ⟨TLes.same _, TLes.own rfl, TLes.same _, trivial⟩ ⟨rfl, trivial⟩ ?_
  refine bindK H fun y'4 h4 H => ?_
  refine AW2_loopO (fun a'1 : Int × (List (List UInt8)) => (⟨[(0, .p (AV.lists l0)), (3, .c (.own 3 a'1.2.length 1)), (4, .i a'1.1)], [(3, .pure (a'1.2.map AV.bytes))], 20⟩ : TS)) (fun (y'2 : ((List (List UInt8)))) e s' => e = Go.Exit.exit 0 ∧ s' = (⟨[(3, .c (.own 3 y'2.length 1))], [(3, .pure (y'2.map AV.bytes))], 20⟩ : TS)) h4 rfl (fun a x hx => ?_) (fun e s' hs => ?_)
  · clear H
    obtain ⟨i4_0, out3_0⟩ := a
    have H := hx
    clear hx
    unfold g_ref_turnedRound_l0 at H
    refine AW2_seq ?_
    refine sg [0, 1] rfl ?_
    refine rp rfl rfl (p_move rfl rfl) ?_
    refine rp rfl rfl (p_bin rfl rfl rfl rfl) ?_
    refine rz [(0, .p (AV.lists l0)), (3, .c (.own 3 out3_0.length 1)), (4, .i i4_0), (9, .b (decide (i4_0 ≥ (0 : Int))))] [(3, .pure (out3_0.map AV.bytes))] rfl rfl rfl ?_
    refine AW2_if (p := i4_0 ≥ (0 : Int)) rfl (fun h1 => ?_) (fun h1 => ?_)
    · replace H := ite_then h1 H
      refine as2 [(0, .p (AV.lists l0)), (3, .c (.own 3 out3_0.length 1)), (4, .i i4_0)] [(3, .pure (out3_0.map AV.bytes))] rfl rfl rfl ?_
      refine AW2_skip ?_
      refine AW2_seq ?_
      refine AW2_block ?_
      refine AW2_reg [0, 1, 2, 3, 4, 5, 6, 7] rfl ?_
      refine rp rfl rfl (p_move rfl rfl) ?_
      refine rp rfl rfl (p_move rfl rfl) ?_
      refine rp rfl rfl (p_move rfl rfl) ?_
      refine chkK H fun h2 H => ?_
      refine rp rfl rfl (u_ixl rfl rfl Tryd.underlying33 in_22 rfl rfl (ixe h2) (ixn h2) (lne (ixn h2))) ?_
      refine rp rfl rfl (u_ld rfl rfl Tryd.underlying22 rfl rfl (Sub.map default (ixn h2))) ?_
      refine r_op rfl rfl (MakeD.opD (u_bs 17 rfl Tryd.underlying33 in_22 rfl one_22 (by decide) (by decide) rfl rfl rfl) rfl rfl rfl rfl) ?_
      refine chkK H fun h3 H => ?_
      refine r_op rfl rfl (u_app [3, 12] rfl rfl rfl rfl Tryd.underlying33 Tryd.underlying33 in_22 rfl rfl rfl (ml AV.bytes out3_0) (by decide) (srcT_o rfl rfl (ml AV.bytes ([(lrd l0 i4_0.toNat)] : List (List UInt8))) (by decide)) (ml AV.bytes ([(lrd l0 i4_0.toNat)] : List (List UInt8))) h3 (by decide) rfl rfl (mapp AV.bytes out3_0 ([(lrd l0 i4_0.toNat)] : List (List UInt8))) (lapp out3_0 ([(lrd l0 i4_0.toNat)] : List (List UInt8)))) ?_
      refine rp rfl rfl (p_asg rfl rfl) ?_
      refine rz [(0, .p (AV.lists l0)), (3, .c (.own 3 (out3_0 ++ ([(lrd l0 i4_0.toNat)] : List (List UInt8))).length 1)), (4, .i i4_0)] [(3, .pure ((out3_0 ++ ([(lrd l0 i4_0.toNat)] : List (List UInt8))).map AV.bytes))] rfl rfl rfl ?_
      refine AW2_reg [0, 1, 2] rfl ?_
      refine rp rfl rfl (p_move rfl rfl) ?_
      refine rp rfl rfl (p_bin rfl rfl rfl rfl) ?_
      refine rp rfl rfl (p_asg rfl rfl) ?_
      refine rz [(0, .p (AV.lists l0)), (3, .c (.own 3 (out3_0 ++ ([(lrd l0 i4_0.toNat)] : List (List UInt8))).length 1)), (4, .i (w64 (i4_0 - (1 : Int))))] [(3, .pure ((out3_0 ++ ([(lrd l0 i4_0.toNat)] : List (List UInt8))).map AV.bytes))] rfl rfl rfl ?_
      have hz := some_elim H
      subst hz
      exact ⟨rfl, rfl⟩
    · replace H := ite_else h1 H
      refine as2 [(3, .c (.own 3 out3_0.length 1))] [(3, .pure (out3_0.map AV.bytes))] rfl rfl rfl ?_
      refine AW2_exit ?_
      refine thenQ2_exit ?_
      have hz := some_elim H
      subst hz
      exact ⟨rfl, rfl⟩
  · obtain ⟨rfl, rfl⟩ := hs
    refine ⟨by simp, ?_⟩
    refine blockQ2_exit ?_
    refine sg [0, 1] rfl ?_
    refine rp rfl rfl (p_move rfl rfl) ?_
    refine rp rfl rfl (p_asg rfl rfl) ?_
    refine rs [(2, .c (.own 3 y'4.length 1))] [(3, .pure (y'4.map AV.bytes))] rfl rfl rfl ?_
    refine RunW_gho (Gho_ren 3 2 rfl rfl rfl rfl rfl) ?_
    refine rz [(2, .c (.own 2 y'4.length 1))] [(2, .pure (y'4.map AV.bytes))] rfl rfl rfl ?_
    refine as2 [(2, .c (.own 2 y'4.length 1))] [(2, .pure (y'4.map AV.bytes))] rfl rfl rfl ?_
    refine AW2_ret ?_
    have hz := some_elim H
    subst hz
    exact ⟨⟨res_tmp (.same _), trivial⟩, ⟨rfl, trivial⟩⟩
theorem g_ref_turnedRound_ac {l0 : List (List UInt8)} {r : (List (List UInt8))} (H : g_ref_turnedRound l0 = some r) : ACp Tryd.prog 66 [(AV.lists l0)] (AV.lists r) := ACp_pub (g_ref_turnedRound_ac2 H) (fun _ _ hm => lent_own hm rfl (ml AV.bytes r) (by decide))

/-! chirographref.IncludeOf -/
noncomputable def g_ref_IncludeOf_l0 (mode0 : Int) : (List (List UInt8)) × Int × (List (List UInt8)) → Option (((List (List UInt8)) × Int × (List (List UInt8))) ⊕ (((List (List UInt8)))))
  | (l1_0, i2_0, down11_0) => (if (l1_0.length : Int) > (1 : Int) then (g_ref_below (l1_0.length : Int)).bind fun r'3 => if 0 ≤ r'3 ∧ r'3 ≤ (l1_0.length : Int) then ((if i2_0 < r'3 then if 0 ≤ r'3 ∧ r'3 ≤ (l1_0.length : Int) then some ((cut l1_0 (0 : Int) r'3), i2_0, (cut l1_0 r'3 (l1_0.length : Int))) else none else if 0 ≤ r'3 ∧ r'3 ≤ (l1_0.length : Int) then if 0 ≤ r'3 ∧ r'3 ≤ (l1_0.length : Int) then some ((cut l1_0 r'3 (l1_0.length : Int)), w64 (i2_0 - r'3), (cut l1_0 (0 : Int) r'3)) else none else none)).bind fun j'4 => (g_ref_rollOf mode0 j'4.2.2).bind fun r'5 => if room (down11_0.length + ([r'5.1] : List (List UInt8)).length) 24 then some (.inl (j'4.1, j'4.2.1, down11_0 ++ ([r'5.1] : List (List UInt8)))) else none else none else some (.inr down11_0))
noncomputable def g_ref_IncludeOf (mode0 : Int) (l1 : List (List UInt8)) (i2 : Int) : Option ((List (List UInt8)) × Int) :=
  (g_ref_rollFault mode0 l1).bind fun r'1 => (if r'1 ≠ (0 : Int) then some ([], r'1) else (if (i2 < (0 : Int)) ∨ (i2 ≥ (l1.length : Int)) then some ([], (6 : Int)) else (g_ref_rollOf mode0 l1).bind fun r'2 => (if r'2.2 ≠ (0 : Int) then some ([], r'2.2) else (loopO (g_ref_IncludeOf_l0 mode0) (l1, i2, ([] : List (List UInt8)))).bind fun y'9 => (g_ref_turnedRound y'9).bind fun r'10 => some (r'10, (0 : Int)))))
set_option maxHeartbeats 4000000 in
set_option maxRecDepth 100000 in
theorem g_ref_IncludeOf_ac {mode0 : Int} {l1 : List (List UInt8)} {i2 : Int} {r : (List (List UInt8)) × Int} (H : g_ref_IncludeOf mode0 l1 i2 = some r) : ACp Tryd.prog 32 [(AV.int mode0), (AV.lists l1), (AV.int i2)] (.tup [(AV.lists r.1), (AV.int r.2)]) := by
  refine ACp_of (AC2_of_body (vs := [.p (AV.lists r.1), .i r.2]) Tryd.func32 rfl rfl (Nat.le_of_ble_eq_true rfl) rfl ?_) (fun _ => .same _)
  unfold g_ref_IncludeOf at H
  refine as2 [(0, .i mode0), (1, .p (AV.lists l1)), (2, .i i2)] [] rfl rfl rfl ?_
  refine sg [0, 1] rfl ?_
  refine rp rfl rfl (p_asgn rfl) ?_
  refine rp rfl rfl (p_asg rfl rfl) ?_
  refine rz [(0, .i mode0), (1, .p (AV.lists l1)), (2, .i i2)] [] rfl rfl rfl ?_
  refine AW2_seq ?_
  refine sg [0, 1, 2, 3] rfl ?_
  refine rp rfl rfl (p_move rfl rfl) ?_
  refine rp rfl rfl (p_move rfl rfl) ?_
  refine bindK H fun r'1 h1 H => ?_
  refine rp rfl rfl (p_callp rfl rfl rfl Tryd.func62 rfl rfl (g_ref_rollFault_ac h1) ⟨rfl, rfl, trivial⟩) ?_
  refine rp rfl rfl (p_asg rfl rfl) ?_
  refine rz [(0, .i mode0), (1, .p (AV.lists l1)), (2, .i i2), (8, .i r'1)] [] rfl rfl rfl ?_
  refine sg [0, 1] rfl ?_
  refine rp rfl rfl (p_move rfl rfl) ?_
  refine rp rfl rfl (p_ine rfl rfl rfl) ?_
  refine rz [(0, .i mode0), (1, .p (AV.lists l1)), (2, .i i2), (8, .i r'1), (20, .b (decide (r'1 ≠ (0 : Int))))] [] rfl rfl rfl ?_
  refine AW2_if (p := r'1 ≠ (0 : Int)) rfl (fun h2 => ?_) (fun h2 => ?_)
  · replace H := ite_then h2 H
    refine sg [0, 1, 2] rfl ?_
    refine rp rfl rfl (p_move rfl rfl) ?_
    refine rp rfl rfl (p_asgn rfl) ?_
    refine rp rfl rfl (p_asg rfl rfl) ?_
    refine rz [(6, .p .nil), (7, .i r'1)] [] rfl rfl rfl ?_
    refine AW2_ret ?_
    have hz := some_elim H
    subst hz
    exact ⟨⟨res_tmp TLes.nil0, res_tmp (.same _), trivial⟩, trivial⟩
  · replace H := ite_else h2 H
    refine as2 [(0, .i mode0), (1, .p (AV.lists l1)), (2, .i i2)] [] rfl rfl rfl ?_
    refine AW2_skip ?_
    refine AW2_seq ?_
    refine AW2_seq ?_
    refine AW2_mid (⟨[(0, .i mode0), (1, .p (AV.lists l1)), (2, .i i2), (29, .b (decide ((i2 < (0 : Int)) ∨ (i2 ≥ (l1.length : Int)))))], [], 75⟩ : TS) ?_ ?_
    · refine AW2_reg [0, 1, 2, 3, 4, 5, 6, 7] rfl ?_
      refine rp rfl rfl (p_move rfl rfl) ?_
      refine rp rfl rfl (p_bin rfl rfl rfl rfl) ?_
      refine rp rfl rfl (p_move rfl rfl) ?_
      refine (Classical.em (i2 < (0 : Int))).elim (fun h3 => ?_) (fun h3 => ?_)
      · refine r_off rfl rfl rfl rfl (decide_eq_true (p := i2 < (0 : Int)) h3) rfl rfl ?_
        refine r_off rfl rfl rfl rfl (decide_eq_true (p := i2 < (0 : Int)) h3) rfl rfl ?_
        refine r_off rfl rfl rfl rfl (decide_eq_true (p := i2 < (0 : Int)) h3) rfl rfl ?_
        refine r_off rfl rfl rfl rfl (decide_eq_true (p := i2 < (0 : Int)) h3) rfl rfl ?_
        refine rp rfl rfl (p_pkt rfl rfl (decide_eq_true (p := i2 < (0 : Int)) h3) (tb (decide_eq_true (p := (i2 < (0 : Int)) ∨ (i2 ≥ (l1.length : Int))) (Or.inl h3)).symm)) ?_
        refine rs [(0, .i mode0), (1, .p (AV.lists l1)), (2, .i i2), (29, .b (decide ((i2 < (0 : Int)) ∨ (i2 ≥ (l1.length : Int)))))] [] rfl rfl rfl ?_
        exact RunW_nil rfl
      · refine r_on rfl rfl rfl rfl (decide_eq_false (p := i2 < (0 : Int)) h3) rfl (PureD.opD (p_move rfl rfl)) ?_
        refine r_on rfl rfl rfl rfl (decide_eq_false (p := i2 < (0 : Int)) h3) rfl (PureD.opD (p_move rfl rfl)) ?_
        refine r_on rfl rfl rfl rfl (decide_eq_false (p := i2 < (0 : Int)) h3) rfl (PureD.opD (p_lenl rfl Tryd.underlying33 rfl rfl)) ?_
        refine r_on rfl rfl rfl rfl (decide_eq_false (p := i2 < (0 : Int)) h3) rfl (PureD.opD (p_bin rfl rfl rfl rfl)) ?_
        refine rp rfl rfl (p_pkf rfl rfl (decide_eq_false (p := i2 < (0 : Int)) h3) (tb ((or_l (p := i2 < (0 : Int)) (q := i2 ≥ (l1.length : Int)) h3)))) ?_
        refine rs [(0, .i mode0), (1, .p (AV.lists l1)), (2, .i i2), (29, .b (decide ((i2 < (0 : Int)) ∨ (i2 ≥ (l1.length : Int)))))] [] rfl rfl rfl ?_
        exact RunW_nil rfl
    · refine AW2_if (p := (i2 < (0 : Int)) ∨ (i2 ≥ (l1.length : Int))) rfl (fun h4 => ?_) (fun h4 => ?_)
      · replace H := ite_then h4 H
        refine sg [0, 1] rfl ?_
        refine rp rfl rfl (p_asgn rfl) ?_
        refine rp rfl rfl (p_asg rfl rfl) ?_
        refine rz [(6, .p .nil), (7, .i (6 : Int))] [] rfl rfl rfl ?_
        refine AW2_ret ?_
        have hz := some_elim H
        subst hz
        exact ⟨⟨res_tmp TLes.nil0, res_tmp (.same _), trivial⟩, trivial⟩
      · replace H := ite_else h4 H
        refine as2 [(0, .i mode0), (1, .p (AV.lists l1)), (2, .i i2)] [] rfl rfl rfl ?_
        refine AW2_skip ?_
        refine AW2_seq ?_
        refine sg [0, 1, 2, 3, 4, 5, 6, 7] rfl ?_
        refine rp rfl rfl (p_move rfl rfl) ?_
        refine rp rfl rfl (p_move rfl rfl) ?_
        refine bindK H fun r'2 h5 H => ?_
        refine rp rfl rfl (p_callp rfl rfl rfl Tryd.func63 rfl rfl (g_ref_rollOf_ac h5) ⟨rfl, rfl, trivial⟩) ?_
        refine rp rfl rfl (p_move rfl rfl) ?_
        refine rp rfl rfl (p_ext rfl rfl rfl rfl) ?_
        refine rp rfl rfl (p_ext rfl rfl rfl rfl) ?_
        refine rp rfl rfl (p_asg rfl rfl) ?_
        refine rp rfl rfl (p_asg rfl rfl) ?_
        refine rz [(0, .i mode0), (1, .p (AV.lists l1)), (2, .i i2), (10, .i r'2.2)] [] rfl rfl rfl ?_
        refine sg [0, 1] rfl ?_
        refine rp rfl rfl (p_move rfl rfl) ?_
        refine rp rfl rfl (p_ine rfl rfl rfl) ?_
        refine rz [(0, .i mode0), (1, .p (AV.lists l1)), (2, .i i2), (10, .i r'2.2), (37, .b (decide (r'2.2 ≠ (0 : Int))))] [] rfl rfl rfl ?_
        refine AW2_if (p := r'2.2 ≠ (0 : Int)) rfl (fun h6 => ?_) (fun h6 => ?_)
        · replace H := ite_then h6 H
          refine sg [0, 1, 2] rfl ?_
          refine rp rfl rfl (p_move rfl rfl) ?_
          refine rp rfl rfl (p_asgn rfl) ?_
          refine rp rfl rfl (p_asg rfl rfl) ?_
          refine rz [(6, .p .nil), (7, .i r'2.2)] [] rfl rfl rfl ?_
          refine AW2_ret ?_
          have hz := some_elim H
          subst hz
          exact ⟨⟨res_tmp TLes.nil0, res_tmp (.same _), trivial⟩, trivial⟩
        · replace H := ite_else h6 H
          refine as2 [(0, .i mode0), (1, .p (AV.lists l1)), (2, .i i2)] [] rfl rfl rfl ?_
          refine AW2_skip ?_
          refine sg [0] rfl ?_
          refine rp rfl rfl (p_asgn rfl) ?_
          refine rz [(0, .i mode0), (1, .p (AV.lists l1)), (2, .i i2), (11, .p .nil)] [] rfl rfl rfl ?_
          refine AW2_seq ?_
          refine AW2_block ?_
          refine as2 [(0, .i mode0), (1, .p (AV.lists l1)), (2, .i i2), (11, .p .nil)] [] rfl rfl rfl ?_
          refine AW2_gho (Gho_own (d := 11) (b := 11) (z := 1) rfl rfl rfl rfl) ?_
          refine AW2_st [(0, .i mode0), (1, .p (AV.lists l1)), (2, .i i2), (11, .c (.own 11 ([] : List (List UInt8)).length 1))] [(11, .pure (([] : List (List UInt8)).map AV.bytes))] rfl ⟨TLes.same _, TLes.same _, TLes.same _, TLes.own rfl, trivial⟩ ⟨rfl, trivial⟩ ?_
          refine bindK H fun y'9 h17 H => ?_
          refine AW2_loopO (fun a'6 : (List (List UInt8)) × Int × (List (List UInt8)) => (⟨[(0, .i mode0), (1, .p (AV.lists a'6.1)), (2, .i a'6.2.1), (11, .c (.own 11 a'6.2.2.length 1))], [(11, .pure (a'6.2.2.map AV.bytes))], 75⟩ : TS)) (fun (y'7 : ((List (List UInt8)))) e s' => e = Go.Exit.exit 0 ∧ s' = (⟨[(11, .c (.own 11 y'7.length 1))], [(11, .pure (y'7.map AV.bytes))], 75⟩ : TS)) h17 rfl (fun a x hx => ?_) (fun e s' hs => ?_)
          · clear H
            obtain ⟨l1_0, i2_0, down11_0⟩ := a
            have H := hx
            clear hx
            unfold g_ref_IncludeOf_l0 at H
            refine AW2_seq ?_
            refine sg [0, 1, 2] rfl ?_
            refine rp rfl rfl (p_move rfl rfl) ?_
            refine rp rfl rfl (p_lenl rfl Tryd.underlying33 rfl rfl) ?_
            refine rp rfl rfl (p_bin rfl rfl rfl rfl) ?_
            refine rz [(0, .i mode0), (1, .p (AV.lists l1_0)), (2, .i i2_0), (11, .c (.own 11 down11_0.length 1)), (41, .b (decide ((l1_0.length : Int) > (1 : Int))))] [(11, .pure (down11_0.map AV.bytes))] rfl rfl rfl ?_
            refine AW2_if (p := (l1_0.length : Int) > (1 : Int)) rfl (fun h7 => ?_) (fun h7 => ?_)
            · replace H := ite_then h7 H
              refine as2 [(0, .i mode0), (1, .p (AV.lists l1_0)), (2, .i i2_0), (11, .c (.own 11 down11_0.length 1))] [(11, .pure (down11_0.map AV.bytes))] rfl rfl rfl ?_
              refine AW2_skip ?_
              refine AW2_block ?_
              refine sg [0, 1, 2, 3] rfl ?_
              refine rp rfl rfl (p_move rfl rfl) ?_
              refine rp rfl rfl (p_lenl rfl Tryd.underlying33 rfl rfl) ?_
              refine bindK H fun r'3 h8 H => ?_
              refine rp rfl rfl (p_callp rfl rfl rfl Tryd.func65 rfl rfl (g_ref_below_ac h8) ⟨rfl, trivial⟩) ?_
              refine rp rfl rfl (p_asg rfl rfl) ?_
              refine rz [(0, .i mode0), (1, .p (AV.lists l1_0)), (2, .i i2_0), (11, .c (.own 11 down11_0.length 1)), (12, .i r'3)] [(11, .pure (down11_0.map AV.bytes))] rfl rfl rfl ?_
              refine sg [0, 1, 2, 3] rfl ?_
              refine rp rfl rfl (p_move rfl rfl) ?_
              refine rp rfl rfl (p_move rfl rfl) ?_
              refine chkK H fun h9 H => ?_
              refine rp rfl rfl (u_cutl (g := (fun l => l.map AV.bytes)) (a := r'3) (b := (l1_0.length : Int)) rfl rfl Tryd.underlying33 in_22 rfl (bT_i (show 0 ≤ r'3 ∧ r'3 ≤ (l1_0.length : Int) ∧ (l1_0.length : Int) ≤ (l1_0.length : Int) from ⟨h9.1, h9.2, Int.le_refl _⟩).1 rfl) (bT_len _) (.inl rfl) (show 0 ≤ r'3 ∧ r'3 ≤ (l1_0.length : Int) ∧ (l1_0.length : Int) ≤ (l1_0.length : Int) from ⟨h9.1, h9.2, Int.le_refl _⟩) (g_map AV.bytes)) ?_
              refine rp rfl rfl (p_asg rfl rfl) ?_
              refine rz [(0, .i mode0), (1, .p (AV.lists l1_0)), (2, .i i2_0), (11, .c (.own 11 down11_0.length 1)), (12, .i r'3), (13, .p (AV.lists (cut l1_0 r'3 (l1_0.length : Int))))] [(11, .pure (down11_0.map AV.bytes))] rfl rfl rfl ?_
              refine AW2_seq ?_
              refine bindK H fun j'4 h10 H => ?_
              refine AW2_mid (⟨[(0, .i mode0), (1, .p (AV.lists j'4.1)), (2, .i j'4.2.1), (11, .c (.own 11 down11_0.length 1)), (13, .p (AV.lists j'4.2.2))], [(11, .pure (down11_0.map AV.bytes))], 75⟩ : TS) ?_ ?_
              · clear H
                have H := h10
                clear h10
                refine sg [0, 1, 2] rfl ?_
                refine rp rfl rfl (p_move rfl rfl) ?_
                refine rp rfl rfl (p_move rfl rfl) ?_
                refine rp rfl rfl (p_bin rfl rfl rfl rfl) ?_
                refine rz [(0, .i mode0), (1, .p (AV.lists l1_0)), (2, .i i2_0), (11, .c (.own 11 down11_0.length 1)), (12, .i r'3), (13, .p (AV.lists (cut l1_0 r'3 (l1_0.length : Int)))), (50, .b (decide (i2_0 < r'3)))] [(11, .pure (down11_0.map AV.bytes))] rfl rfl rfl ?_
                refine AW2_if (p := i2_0 < r'3) rfl (fun h11 => ?_) (fun h11 => ?_)
                · replace H := ite_then h11 H
                  refine AW2_reg [0, 1, 2, 3] rfl ?_
                  refine rp rfl rfl (p_move rfl rfl) ?_
                  refine rp rfl rfl (p_move rfl rfl) ?_
                  refine chkK H fun h12 H => ?_
                  refine rp rfl rfl (u_cutl (g := (fun l => l.map AV.bytes)) (a := (0 : Int)) (b := r'3) rfl rfl Tryd.underlying33 in_22 rfl bT_zero (bT_i (Int.le_trans (show 0 ≤ (0 : Int) ∧ (0 : Int) ≤ r'3 ∧ r'3 ≤ (l1_0.length : Int) from ⟨Int.le_refl _, h12.1, h12.2⟩).1 (show 0 ≤ (0 : Int) ∧ (0 : Int) ≤ r'3 ∧ r'3 ≤ (l1_0.length : Int) from ⟨Int.le_refl _, h12.1, h12.2⟩).2.1) rfl) (.inl rfl) (show 0 ≤ (0 : Int) ∧ (0 : Int) ≤ r'3 ∧ r'3 ≤ (l1_0.length : Int) from ⟨Int.le_refl _, h12.1, h12.2⟩) (g_map AV.bytes)) ?_
                  refine rp rfl rfl (p_asg rfl rfl) ?_
                  refine rz [(0, .i mode0), (1, .p (AV.lists (cut l1_0 (0 : Int) r'3))), (2, .i i2_0), (11, .c (.own 11 down11_0.length 1)), (13, .p (AV.lists (cut l1_0 r'3 (l1_0.length : Int))))] [(11, .pure (down11_0.map AV.bytes))] rfl rfl rfl ?_
                  have hz := some_elim H
                  subst hz
                  exact rfl
                · replace H := ite_else h11 H
                  refine chkK H fun h13 H => ?_
                  refine chkK H fun h14 H => ?_
                  refine AW2_ghoQ ?_
                  refine AW2_draw 11 [11] (fun k => ([.p (AV.lists l1_0), .i r'3, .p (AV.lists (cut l1_0 (0 : Int) r'3)), .p (AV.lists l1_0), .i r'3, .p (AV.lists (cut l1_0 r'3 (l1_0.length : Int))), .i i2_0, .i r'3, .i (w64 (i2_0 - r'3)), .p (AV.lists (cut l1_0 (0 : Int) r'3)), .p (AV.lists (cut l1_0 r'3 (l1_0.length : Int)))] : List TV).getD k TV.any) (fun k => ([[(1, none)], [(12, none)], [(54, some 0), (55, some 1)], [(1, none)], [(12, none)], [(57, some 3), (58, some 4)], [(2, none)], [(12, none)], [(60, some 6), (61, some 7)], [(56, some 2)], [(59, some 5)]] : List (List (Nat × Option Nat))).getD k []) [(0, none), (1, some 10), (2, none), (11, none), (13, some 9), (62, some 8)] [] (fun k => ([[], [], [0, 1], [], [], [3, 4], [], [], [6, 7], [0, 1, 2], [0, 1, 2, 3, 4, 5, 9], [0, 1, 2, 3, 4, 5, 6, 7, 8, 9, 10]] : List (List Nat)).getD k []) mixed (by kernel_rfl) rfl rfl (a_op (g_x rfl (x_p rfl (p_move rfl rfl) rfl)) (a_op (g_x rfl (x_p rfl (p_move rfl rfl) rfl)) (a_op (g_x rfl (x_p rfl (u_cutl (g := (fun l => l.map AV.bytes)) (a := (0 : Int)) (b := r'3) rfl rfl Tryd.underlying33 in_22 rfl bT_zero (bT_i (Int.le_trans (show 0 ≤ (0 : Int) ∧ (0 : Int) ≤ r'3 ∧ r'3 ≤ (l1_0.length : Int) from ⟨Int.le_refl _, h13.1, h13.2⟩).1 (show 0 ≤ (0 : Int) ∧ (0 : Int) ≤ r'3 ∧ r'3 ≤ (l1_0.length : Int) from ⟨Int.le_refl _, h13.1, h13.2⟩).2.1) rfl) (.inl rfl) (show 0 ≤ (0 : Int) ∧ (0 : Int) ≤ r'3 ∧ r'3 ≤ (l1_0.length : Int) from ⟨Int.le_refl _, h13.1, h13.2⟩) (g_map AV.bytes)) rfl)) (a_op (g_x rfl (x_p rfl (p_move rfl rfl) rfl)) (a_op (g_x rfl (x_p rfl (p_move rfl rfl) rfl)) (a_op (g_x rfl (x_p rfl (u_cutl (g := (fun l => l.map AV.bytes)) (a := r'3) (b := (l1_0.length : Int)) rfl rfl Tryd.underlying33 in_22 rfl (bT_i (show 0 ≤ r'3 ∧ r'3 ≤ (l1_0.length : Int) ∧ (l1_0.length : Int) ≤ (l1_0.length : Int) from ⟨h14.1, h14.2, Int.le_refl _⟩).1 rfl) (bT_len _) (.inl rfl) (show 0 ≤ r'3 ∧ r'3 ≤ (l1_0.length : Int) ∧ (l1_0.length : Int) ≤ (l1_0.length : Int) from ⟨h14.1, h14.2, Int.le_refl _⟩) (g_map AV.bytes)) rfl)) (a_op (g_x rfl (x_p rfl (p_move rfl rfl) rfl)) (a_op (g_x rfl (x_p rfl (p_move rfl rfl) rfl)) (a_op (g_x rfl (x_p rfl (p_bin rfl rfl rfl rfl) rfl)) (a_op (g_x rfl (x_p rfl (p_asg rfl rfl) rfl)) (a_op (g_x rfl (x_p rfl (p_asg rfl rfl) rfl)) (a_nil)))))))))))) ?_
                  refine t_op rfl rfl (PureD.opD (p_asg rfl rfl)) ?_
                  refine t_gho (Gho_st (L := [(0, .i mode0), (1, .p (AV.lists (cut l1_0 r'3 (l1_0.length : Int)))), (2, .i (w64 (i2_0 - r'3))), (11, .c (.own 11 down11_0.length 1)), (13, .p (AV.lists (cut l1_0 (0 : Int) r'3)))]) (H := [(11, .pure (down11_0.map AV.bytes))]) (N := 75) rfl ⟨TLes.same _, TLes.same _, TLes.same _, TLes.same _, TLes.same _, trivial⟩ ⟨rfl, trivial⟩) ?_
                  have hz := some_elim H
                  subst hz
                  exact rfl
              · refine sg [0, 1, 2, 3, 4, 5, 6, 7] rfl ?_
                refine rp rfl rfl (p_move rfl rfl) ?_
                refine rp rfl rfl (p_move rfl rfl) ?_
                refine bindK H fun r'5 h15 H => ?_
                refine rp rfl rfl (p_callp rfl rfl rfl Tryd.func63 rfl rfl (g_ref_rollOf_ac h15) ⟨rfl, rfl, trivial⟩) ?_
                refine rp rfl rfl (p_move rfl rfl) ?_
                refine rp rfl rfl (p_ext rfl rfl rfl rfl) ?_
                refine rp rfl rfl (p_ext rfl rfl rfl rfl) ?_
                refine rp rfl rfl (p_asg rfl rfl) ?_
                refine rp rfl rfl (p_asg rfl rfl) ?_
                refine rz [(0, .i mode0), (1, .p (AV.lists j'4.1)), (2, .i j'4.2.1), (11, .c (.own 11 down11_0.length 1)), (14, .y r'5.1)] [(11, .pure (down11_0.map AV.bytes))] rfl rfl rfl ?_
                refine AW2_reg [0, 1, 2, 3, 4] rfl ?_
                refine rp rfl rfl (p_move rfl rfl) ?_
                refine rp rfl rfl (p_move rfl rfl) ?_
                refine r_op rfl rfl (MakeD.opD (u_bs 71 rfl Tryd.underlying33 in_22 rfl one_22 (by decide) (by decide) rfl rfl rfl) rfl rfl rfl rfl) ?_
                refine chkK H fun h16 H => ?_
                refine r_op rfl rfl (u_app [11, 69] rfl rfl rfl rfl Tryd.underlying33 Tryd.underlying33 in_22 rfl rfl rfl (ml AV.bytes down11_0) (by decide) (srcT_o rfl rfl (ml AV.bytes ([r'5.1] : List (List UInt8))) (by decide)) (ml AV.bytes ([r'5.1] : List (List UInt8))) h16 (by decide) rfl rfl (mapp AV.bytes down11_0 ([r'5.1] : List (List UInt8))) (lapp down11_0 ([r'5.1] : List (List UInt8)))) ?_
                refine rp rfl rfl (p_asg rfl rfl) ?_
                refine rz [(0, .i mode0), (1, .p (AV.lists j'4.1)), (2, .i j'4.2.1), (11, .c (.own 11 (down11_0 ++ ([r'5.1] : List (List UInt8))).length 1))] [(11, .pure ((down11_0 ++ ([r'5.1] : List (List UInt8))).map AV.bytes))] rfl rfl rfl ?_
                have hz := some_elim H
                subst hz
                exact ⟨rfl, rfl⟩
            · replace H := ite_else h7 H
              refine as2 [(11, .c (.own 11 down11_0.length 1))] [(11, .pure (down11_0.map AV.bytes))] rfl rfl rfl ?_
              refine AW2_exit ?_
              refine thenQ2_exit ?_
              have hz := some_elim H
              subst hz
              exact ⟨rfl, rfl⟩
          · obtain ⟨rfl, rfl⟩ := hs
            refine ⟨by simp, ?_⟩
            refine blockQ2_exit ?_
            refine sg [0, 1, 2, 3] rfl ?_
            refine rp rfl rfl (p_move rfl rfl) ?_
            refine RunW_gho (Gho_pubs [11, 73] ⟨rfl, rfl, trivial⟩ rfl (ml AV.bytes y'9) (by decide)) ?_
            refine bindK H fun r'10 h18 H => ?_
            refine rp rfl rfl (p_callp rfl rfl rfl Tryd.func66 rfl rfl (g_ref_turnedRound_ac h18) ⟨rfl, trivial⟩) ?_
            refine rp rfl rfl (p_asg rfl rfl) ?_
            refine rp rfl rfl (p_asg rfl rfl) ?_
            refine rz [(6, .p (AV.lists r'10)), (7, .i (0 : Int))] [] rfl rfl rfl ?_
            refine AW2_ret ?_
            have hz := some_elim H
            subst hz
            exact ⟨⟨res_tmp (.same _), res_tmp (.same _), trivial⟩, trivial⟩

/-! chirographlaw.sameLists -/
noncomputable def g_law_sameLists_l0 (a0 : List (List UInt8)) (b1 : List (List UInt8)) : Int → Option (Int ⊕ (Bool ⊕ Unit))
  | t13_0 => (if t13_0 < (a0.length : Int) then if 0 ≤ t13_0 ∧ t13_0 < (a0.length : Int) then if 0 ≤ t13_0 ∧ t13_0 < (b1.length : Int) then (if (lrd a0 t13_0.toNat) ≠ (lrd b1 t13_0.toNat) then some (.inr (.inl false)) else some (.inl (w64 (t13_0 + (1 : Int))))) else none else none else some (.inr (.inr ())))
noncomputable def g_law_sameLists (a0 : List (List UInt8)) (b1 : List (List UInt8)) : Option (Bool) :=
  (if (a0.length : Int) ≠ (b1.length : Int) then some false else (loopO (g_law_sameLists_l0 a0 b1) (0 : Int)).bind fun o'4 => match o'4 with | .inl y'5 => some y'5 | .inr (y'6) => some true)
set_option maxHeartbeats 4000000 in
set_option maxRecDepth 100000 in
theorem g_law_sameLists_ac {a0 : List (List UInt8)} {b1 : List (List UInt8)} {r : Bool} (H : g_law_sameLists a0 b1 = some r) : ACp Tryd.prog 21 [(AV.lists a0), (AV.lists b1)] (AV.bool r) := by
  refine ACp_of (AC2_of_body (vs := [.b r]) Tryd.func21 rfl rfl (Nat.le_of_ble_eq_true rfl) rfl ?_) (fun _ => .same _)
  unfold g_law_sameLists at H
  refine as2 [(0, .p (AV.lists a0)), (1, .p (AV.lists b1))] [] rfl rfl rfl ?_
  refine sg [0] rfl ?_
  refine rp rfl rfl (p_asg rfl rfl) ?_
  refine rz [(0, .p (AV.lists a0)), (1, .p (AV.lists b1))] [] rfl rfl rfl ?_
  refine AW2_seq ?_
  refine sg [0, 1, 2, 3, 4] rfl ?_
  refine rp rfl rfl (p_move rfl rfl) ?_
  refine rp rfl rfl (p_lenl rfl Tryd.underlying33 rfl rfl) ?_
  refine rp rfl rfl (p_move rfl rfl) ?_
  refine rp rfl rfl (p_lenl rfl Tryd.underlying33 rfl rfl) ?_
  refine rp rfl rfl (p_ine rfl rfl rfl) ?_
  refine rz [(0, .p (AV.lists a0)), (1, .p (AV.lists b1)), (10, .b (decide ((a0.length : Int) ≠ (b1.length : Int))))] [] rfl rfl rfl ?_
  refine AW2_if (p := (a0.length : Int) ≠ (b1.length : Int)) rfl (fun h1 => ?_) (fun h1 => ?_)
  · replace H := ite_then h1 H
    refine sg [0] rfl ?_
    refine rp rfl rfl (p_asg rfl rfl) ?_
    refine rz [(4, .b false)] [] rfl rfl rfl ?_
    refine AW2_ret ?_
    have hz := some_elim H
    subst hz
    exact ⟨⟨res_tmp (.same _), trivial⟩, trivial⟩
  · replace H := ite_else h1 H
    refine as2 [(0, .p (AV.lists a0)), (1, .p (AV.lists b1))] [] rfl rfl rfl ?_
    refine AW2_skip ?_
    refine AW2_seq ?_
    refine sg [0, 1, 2] rfl ?_
    refine rp rfl rfl (p_move rfl rfl) ?_
    refine rp rfl rfl (p_lenl rfl Tryd.underlying33 rfl rfl) ?_
    refine rp rfl rfl (p_move rfl rfl) ?_
    refine rz [(0, .p (AV.lists a0)), (1, .p (AV.lists b1)), (12, .i (a0.length : Int)), (13, .i (0 : Int))] [] rfl rfl rfl ?_
    refine AW2_block ?_
    refine as2 [(0, .p (AV.lists a0)), (1, .p (AV.lists b1)), (12, .i (a0.length : Int)), (13, .i (0 : Int))] [] rfl rfl rfl ?_
    refine bindK H fun o'4 h6 H => ?_
    refine AW2_loopO (fun a'1 : Int => (⟨[(0, .p (AV.lists a0)), (1, .p (AV.lists b1)), (12, .i (a0.length : Int)), (13, .i a'1)], [], 28⟩ : TS)) (fun (o : Bool ⊕ Unit) e s' => match o with | .inl y'2 => e = Go.Exit.ret ∧ ResAll Tryd.prog s' [ResultVar.tmp 4] [.b y'2] ∧ HFits s' [] | .inr (y'3) => e = Go.Exit.exit 0 ∧ s' = (⟨[], [], 28⟩ : TS)) h6 rfl (fun t13_0 x hx => ?_) (fun e s' hs => ?_)
    · clear H
      have H := hx
      clear hx
      unfold g_law_sameLists_l0 at H
      refine sg [0] rfl ?_
      refine rp rfl rfl (p_bin rfl rfl rfl rfl) ?_
      refine rz [(0, .p (AV.lists a0)), (1, .p (AV.lists b1)), (12, .i (a0.length : Int)), (13, .i t13_0), (14, .b (decide (t13_0 < (a0.length : Int))))] [] rfl rfl rfl ?_
      refine AW2_seq ?_
      refine AW2_if (p := t13_0 < (a0.length : Int)) rfl (fun h2 => ?_) (fun h2 => ?_)
      · replace H := ite_then h2 H
        refine as2 [(0, .p (AV.lists a0)), (1, .p (AV.lists b1)), (12, .i (a0.length : Int)), (13, .i t13_0)] [] rfl rfl rfl ?_
        refine AW2_skip ?_
        refine AW2_seq ?_
        refine AW2_block ?_
        refine sg [0, 1] rfl ?_
        refine rp rfl rfl (p_move rfl rfl) ?_
        refine rp rfl rfl (p_asg rfl rfl) ?_
        refine rz [(0, .p (AV.lists a0)), (1, .p (AV.lists b1)), (5, .i t13_0), (12, .i (a0.length : Int)), (13, .i t13_0)] [] rfl rfl rfl ?_
        refine AW2_seq ?_
        refine chkK H fun h3 H => ?_
        refine chkK H fun h4 H => ?_
        refine AW2_ghoQ ?_
        refine AW2_draw 10 [10] (fun k => ([.p (AV.lists a0), .i t13_0, .p (.rptr (a0.map AV.bytes) (t13_0.toNat * 1)), .y (lrd a0 t13_0.toNat), .t (lrd a0 t13_0.toNat), .p (AV.lists b1), .i t13_0, .p (.rptr (b1.map AV.bytes) (t13_0.toNat * 1)), .y (lrd b1 t13_0.toNat), .t (lrd b1 t13_0.toNat)] : List TV).getD k TV.any) (fun k => ([[(0, none)], [(5, none)], [(16, some 0), (17, some 1)], [(18, some 2)], [(19, some 3)], [(1, none)], [(5, none)], [(21, some 5), (22, some 6)], [(23, some 7)], [(24, some 8)]] : List (List (Nat × Option Nat))).getD k []) [(0, none), (1, none), (12, none), (13, none), (20, some 4), (25, some 9)] [] (fun k => ([[], [], [0, 1], [0, 1, 2], [0, 1, 2, 3], [], [], [5, 6], [5, 6, 7], [5, 6, 7, 8], [0, 1, 2, 3, 4, 5, 6, 7, 8, 9]] : List (List Nat)).getD k []) mixed (by kernel_rfl) rfl rfl (a_op (g_x rfl (x_p rfl (p_move rfl rfl) rfl)) (a_op (g_x rfl (x_p rfl (p_move rfl rfl) rfl)) (a_op (g_x rfl (x_p rfl (u_ixl rfl rfl Tryd.underlying33 in_22 rfl rfl (ixe h3) (ixn h3) (lne (ixn h3))) rfl)) (a_op (g_x rfl (x_p rfl (u_ld rfl rfl Tryd.underlying22 rfl rfl (Sub.map default (ixn h3))) rfl)) (a_op (g_x rfl (x_p rfl (p_cb rfl rfl Tryd.underlying22 Tryd.underlying5 Tryd.underlying9 rfl) rfl)) (a_op (g_x rfl (x_p rfl (p_move rfl rfl) rfl)) (a_op (g_x rfl (x_p rfl (p_move rfl rfl) rfl)) (a_op (g_x rfl (x_p rfl (u_ixl rfl rfl Tryd.underlying33 in_22 rfl rfl (ixe h4) (ixn h4) (lne (ixn h4))) rfl)) (a_op (g_x rfl (x_p rfl (u_ld rfl rfl Tryd.underlying22 rfl rfl (Sub.map default (ixn h4))) rfl)) (a_op (g_x rfl (x_p rfl (p_cb rfl rfl Tryd.underlying22 Tryd.underlying5 Tryd.underlying9 rfl) rfl)) (a_nil))))))))))) ?_
        refine t_op rfl rfl (PureD.opD (p_sne rfl rfl rfl)) ?_
        refine t_gho (Gho_st (L := [(0, .p (AV.lists a0)), (1, .p (AV.lists b1)), (12, .i (a0.length : Int)), (13, .i t13_0), (26, .b (decide ((lrd a0 t13_0.toNat) ≠ (lrd b1 t13_0.toNat))))]) (H := []) (N := 28) rfl ⟨TLes.same _, TLes.same _, TLes.same _, TLes.same _, TLes.same _, trivial⟩ trivial) ?_
        refine AW2_if (p := (lrd a0 t13_0.toNat) ≠ (lrd b1 t13_0.toNat)) rfl (fun h5 => ?_) (fun h5 => ?_)
        · replace H := ite_then h5 H
          refine sg [0] rfl ?_
          refine rp rfl rfl (p_asg rfl rfl) ?_
          refine rz [(4, .b false)] [] rfl rfl rfl ?_
          refine AW2_ret ?_
          have hz := some_elim H
          subst hz
          exact ⟨rfl, ⟨res_tmp (.same _), trivial⟩, trivial⟩
        · replace H := ite_else h5 H
          refine as2 [(0, .p (AV.lists a0)), (1, .p (AV.lists b1)), (12, .i (a0.length : Int)), (13, .i t13_0)] [] rfl rfl rfl ?_
          refine AW2_skip ?_
          refine AW2_reg [0, 1] rfl ?_
          refine rp rfl rfl (p_bin rfl rfl rfl rfl) ?_
          refine rp rfl rfl (p_move rfl rfl) ?_
          refine rz [(0, .p (AV.lists a0)), (1, .p (AV.lists b1)), (12, .i (a0.length : Int)), (13, .i (w64 (t13_0 + (1 : Int))))] [] rfl rfl rfl ?_
          have hz := some_elim H
          subst hz
          exact ⟨rfl, rfl⟩
      · replace H := ite_else h2 H
        refine as2 [] [] rfl rfl rfl ?_
        refine AW2_exit ?_
        refine thenQ2_exit ?_
        have hz := some_elim H
        subst hz
        exact ⟨rfl, rfl⟩
    · rcases o'4 with y'5 | y'6
      · obtain ⟨rfl, hs⟩ := hs
        refine ⟨by simp, ?_⟩
        have hz := some_elim H
        subst hz
        exact ⟨hs.1, hs.2⟩
      · obtain ⟨rfl, rfl⟩ := hs
        refine ⟨by simp, ?_⟩
        refine blockQ2_exit ?_
        refine sg [0] rfl ?_
        refine rp rfl rfl (p_asg rfl rfl) ?_
        refine rz [(4, .b true)] [] rfl rfl rfl ?_
        refine AW2_ret ?_
        have hz := some_elim H
        subst hz
        exact ⟨⟨res_tmp (.same _), trivial⟩, trivial⟩

/-! chirographlaw.RollIncludes -/
noncomputable def g_law_RollIncludes (mode0 : Int) (l1 : List (List UInt8)) (i2 : Int) : Option (Bool) :=
  (g_roll_Include mode0 l1 i2).bind fun r'1 => (g_ref_IncludeOf mode0 l1 i2).bind fun r'2 => ((if r'1.2 = r'2.2 then (g_law_sameLists r'1.1 r'2.1).bind fun r'4 => some r'4 else some false)).bind fun g'5 => some g'5
set_option maxHeartbeats 4000000 in
set_option maxRecDepth 100000 in
theorem g_law_RollIncludes_ac {mode0 : Int} {l1 : List (List UInt8)} {i2 : Int} {r : Bool} (H : g_law_RollIncludes mode0 l1 i2 = some r) : ACp Tryd.prog 10 [(AV.int mode0), (AV.lists l1), (AV.int i2)] (AV.bool r) := by
  refine ACp_of (AC2_of_body (vs := [.b r]) Tryd.func10 rfl rfl (Nat.le_of_ble_eq_true rfl) rfl ?_) (fun _ => .same _)
  unfold g_law_RollIncludes at H
  refine as2 [(0, .i mode0), (1, .p (AV.lists l1)), (2, .i i2)] [] rfl rfl rfl ?_
  refine sg [0] rfl ?_
  refine rp rfl rfl (p_asg rfl rfl) ?_
  refine rz [(0, .i mode0), (1, .p (AV.lists l1)), (2, .i i2)] [] rfl rfl rfl ?_
  refine sg [0, 1, 2, 3, 4, 5, 6, 7, 8] rfl ?_
  refine rp rfl rfl (p_move rfl rfl) ?_
  refine rp rfl rfl (p_move rfl rfl) ?_
  refine rp rfl rfl (p_move rfl rfl) ?_
  refine bindK H fun r'1 h1 H => ?_
  refine rp rfl rfl (p_callp rfl rfl rfl Tryd.func31 rfl rfl (g_roll_Include_ac h1) ⟨rfl, rfl, rfl, trivial⟩) ?_
  refine rp rfl rfl (p_move rfl rfl) ?_
  refine rp rfl rfl (p_ext rfl rfl rfl rfl) ?_
  refine rp rfl rfl (p_ext rfl rfl rfl rfl) ?_
  refine rp rfl rfl (p_asg rfl rfl) ?_
  refine rp rfl rfl (p_asg rfl rfl) ?_
  refine rz [(0, .i mode0), (1, .p (AV.lists l1)), (2, .i i2), (7, .p (AV.lists r'1.1)), (8, .i r'1.2)] [] rfl rfl rfl ?_
  refine sg [0, 1, 2, 3, 4, 5, 6, 7, 8] rfl ?_
  refine rp rfl rfl (p_move rfl rfl) ?_
  refine rp rfl rfl (p_move rfl rfl) ?_
  refine rp rfl rfl (p_move rfl rfl) ?_
  refine bindK H fun r'2 h2 H => ?_
  refine rp rfl rfl (p_callp rfl rfl rfl Tryd.func32 rfl rfl (g_ref_IncludeOf_ac h2) ⟨rfl, rfl, rfl, trivial⟩) ?_
  refine rp rfl rfl (p_move rfl rfl) ?_
  refine rp rfl rfl (p_ext rfl rfl rfl rfl) ?_
  refine rp rfl rfl (p_ext rfl rfl rfl rfl) ?_
  refine rp rfl rfl (p_asg rfl rfl) ?_
  refine rp rfl rfl (p_asg rfl rfl) ?_
  refine rz [(7, .p (AV.lists r'1.1)), (8, .i r'1.2), (9, .p (AV.lists r'2.1)), (10, .i r'2.2)] [] rfl rfl rfl ?_
  refine AW2_seq ?_
  refine bindK H fun g'5 h6 H => ?_
  refine AW2_mid (⟨[(6, .b g'5)], [], 33⟩ : TS) ?_ ?_
  · clear H
    have H := h6
    clear h6
    refine AW2_reg [0, 1, 2, 3, 4, 5, 6, 7, 8] rfl ?_
    refine rp rfl rfl (p_move rfl rfl) ?_
    refine rp rfl rfl (p_move rfl rfl) ?_
    refine rp rfl rfl (p_ieq rfl rfl rfl) ?_
    refine rp rfl rfl (p_move rfl rfl) ?_
    refine (Classical.em (r'1.2 = r'2.2)).elim (fun h4 => ?_) (fun h4 => ?_)
    · replace H := ite_then h4 H
      refine r_on rfl rfl rfl rfl (decide_eq_true (p := r'1.2 = r'2.2) h4) rfl (PureD.opD (p_move rfl rfl)) ?_
      refine r_on rfl rfl rfl rfl (decide_eq_true (p := r'1.2 = r'2.2) h4) rfl (PureD.opD (p_move rfl rfl)) ?_
      refine bindK H fun r'4 h5 H => ?_
      refine r_on rfl rfl rfl rfl (decide_eq_true (p := r'1.2 = r'2.2) h4) rfl (PureD.opD (p_callp rfl rfl rfl Tryd.func21 rfl rfl (g_law_sameLists_ac h5) ⟨rfl, rfl, trivial⟩)) ?_
      refine rp rfl rfl (p_pkt rfl rfl (decide_eq_true (p := r'1.2 = r'2.2) h4) (.same _)) ?_
      refine rp rfl rfl (p_asg rfl rfl) ?_
      refine rs [(6, .b r'4)] [] rfl rfl rfl ?_
      have hz := some_elim H
      subst hz
      exact RunW_nil rfl
    · replace H := ite_else h4 H
      refine r_off rfl rfl rfl rfl (decide_eq_false (p := r'1.2 = r'2.2) h4) rfl rfl ?_
      refine r_off rfl rfl rfl rfl (decide_eq_false (p := r'1.2 = r'2.2) h4) rfl rfl ?_
      refine r_off rfl rfl rfl rfl (decide_eq_false (p := r'1.2 = r'2.2) h4) rfl rfl ?_
      refine rp rfl rfl (p_pkf rfl rfl (decide_eq_false (p := r'1.2 = r'2.2) h4) (.same _)) ?_
      refine rp rfl rfl (p_asg rfl rfl) ?_
      refine rs [(6, .b false)] [] rfl rfl rfl ?_
      have hz := some_elim H
      subst hz
      exact RunW_nil rfl
  · refine AW2_ret ?_
    have hz := some_elim H
    subst hz
    exact ⟨⟨res_tmp (.same _), trivial⟩, trivial⟩

/-! roll.extend -/
noncomputable def g_roll_extend_b (R' : Int → (List (List UInt8)) → Int → Bool → Option ((List (List UInt8)) × Int)) (mode0 : Int) (l1 : List (List UInt8)) (m2 : Int) (known3 : Bool) : Option ((List (List UInt8)) × Int) :=
  (if m2 = (l1.length : Int) then (if known3 = true then some (([] : List (List UInt8)), (0 : Int)) else (g_roll_root 100000 mode0 l1).bind fun r'1 => some (([r'1.1] : List (List UInt8)), r'1.2)) else (g_roll_half (l1.length : Int)).bind fun r'2 => if 0 ≤ r'2 ∧ r'2 ≤ (l1.length : Int) then if 0 ≤ r'2 ∧ r'2 ≤ (l1.length : Int) then ((if m2 > r'2 then some (w64 (m2 - r'2), false, (cut l1 r'2 (l1.length : Int)), (cut l1 (0 : Int) r'2)) else some (m2, known3, (cut l1 (0 : Int) r'2), (cut l1 r'2 (l1.length : Int))))).bind fun j'3 => (R' mode0 j'3.2.2.1 j'3.1 j'3.2.1).bind fun r'4 => (if r'4.2 ≠ (0 : Int) then some (([] : List (List UInt8)), r'4.2) else (g_roll_root 100000 mode0 j'3.2.2.2).bind fun r'5 => (if r'5.2 ≠ (0 : Int) then some (([] : List (List UInt8)), r'5.2) else if room (r'4.1.length + ([r'5.1] : List (List UInt8)).length) 24 then some (r'4.1 ++ ([r'5.1] : List (List UInt8)), (0 : Int)) else none)) else none else none)
noncomputable def g_roll_extend : Nat → Int → (List (List UInt8)) → Int → Bool → Option ((List (List UInt8)) × Int)
  | 0, _, _, _, _ => none
  | fu + 1, mode0, l1, m2, known3 => g_roll_extend_b (g_roll_extend fu) mode0 l1 m2 known3
set_option maxHeartbeats 4000000 in
set_option maxRecDepth 100000 in
theorem g_roll_extend_ac0 {R' : Int → (List (List UInt8)) → Int → Bool → Option ((List (List UInt8)) × Int)} (hR2 : ∀ {mode0 : Int} {l1 : List (List UInt8)} {m2 : Int} {known3 : Bool} {r : (List (List UInt8)) × Int}, R' mode0 l1 m2 known3 = some r → AC2 Tryd.prog 69 (pureT [(AV.int mode0), (AV.lists l1), (AV.int m2), (AV.bool known3)]) [] (retV [.c (.own 8 r.1.length 1), .i r.2]) [(8, .pure (r.1.map AV.bytes))]) {mode0 : Int} {l1 : List (List UInt8)} {m2 : Int} {known3 : Bool} {r : (List (List UInt8)) × Int} (H : g_roll_extend_b R' mode0 l1 m2 known3 = some r) : AC2 Tryd.prog 69 (pureT [(AV.int mode0), (AV.lists l1), (AV.int m2), (AV.bool known3)]) [] (retV [.c (.own 8 r.1.length 1), .i r.2]) [(8, .pure (r.1.map AV.bytes))] := by
  have hR : ∀ {mode0 : Int} {l1 : List (List UInt8)} {m2 : Int} {known3 : Bool} {r : (List (List UInt8)) × Int}, R' mode0 l1 m2 known3 = some r → ACp Tryd.prog 69 [(AV.int mode0), (AV.lists l1), (AV.int m2), (AV.bool known3)] (.tup [(AV.lists r.1), (AV.int r.2)]) := fun {mode0} {l1} {m2} {known3} {r} H => ACp_pub (hR2 H) (fun _ _ hm => lent_tup ⟨lent_own hm rfl (ml AV.bytes r.1) (by decide), .same _, trivial⟩)
  refine AC2_of_body (vs := [.c (.own 8 r.1.length 1), .i r.2]) Tryd.func69 rfl rfl (Nat.le_of_ble_eq_true rfl) rfl ?_
  unfold g_roll_extend_b at H
  refine as2 [(0, .i mode0), (1, .p (AV.lists l1)), (2, .i m2), (3, .b known3)] [] rfl rfl rfl ?_
  refine sg [0, 1] rfl ?_
  refine rp rfl rfl (p_asgn rfl) ?_
  refine rp rfl rfl (p_asg rfl rfl) ?_
  refine rz [(0, .i mode0), (1, .p (AV.lists l1)), (2, .i m2), (3, .b known3)] [] rfl rfl rfl ?_
  refine AW2_seq ?_
  refine sg [0, 1, 2, 3] rfl ?_
  refine rp rfl rfl (p_move rfl rfl) ?_
  refine rp rfl rfl (p_move rfl rfl) ?_
  refine rp rfl rfl (p_lenl rfl Tryd.underlying33 rfl rfl) ?_
  refine rp rfl rfl (p_ieq rfl rfl rfl) ?_
  refine rz [(0, .i mode0), (1, .p (AV.lists l1)), (2, .i m2), (3, .b known3), (21, .b (decide (m2 = (l1.length : Int))))] [] rfl rfl rfl ?_
  refine AW2_if (p := m2 = (l1.length : Int)) rfl (fun h1 => ?_) (fun h1 => ?_)
  · replace H := ite_then h1 H
    refine AW2_seq ?_
    refine sg [0] rfl ?_
    refine rp rfl rfl (p_move rfl rfl) ?_
    refine rz [(0, .i mode0), (1, .p (AV.lists l1)), (22, .b known3)] [] rfl rfl rfl ?_
    refine AW2_cond rfl (fun h2 => ?_) (fun h2 => ?_)
    · replace H := ite_then h2 H
      refine sg [0, 1] rfl ?_
      refine rp rfl rfl (p_asgn rfl) ?_
      refine rp rfl rfl (p_asg rfl rfl) ?_
      refine rz [(8, .p .nil), (9, .i (0 : Int))] [] rfl rfl rfl ?_
      refine as2 [(8, .p .nil), (9, .i (0 : Int))] [] rfl rfl rfl ?_
      refine AW2_gho (Gho_own (d := 8) (b := 8) (z := 1) rfl rfl rfl rfl) ?_
      refine AW2_st [(8, .c (.own 8 ([] : List (List UInt8)).length 1)), (9, .i (0 : Int))] [(8, .pure (([] : List (List UInt8)).map AV.bytes))] rfl ⟨TLes.own rfl, TLes.same _, trivial⟩ ⟨rfl, trivial⟩ ?_
      refine AW2_ret ?_
      have hz := some_elim H
      subst hz
      exact ⟨⟨res_tmp (.same _), res_tmp (.same _), trivial⟩, ⟨rfl, trivial⟩⟩
    · replace H := ite_else (ne_true h2) H
      refine as2 [(0, .i mode0), (1, .p (AV.lists l1))] [] rfl rfl rfl ?_
      refine AW2_skip ?_
      refine sg [0, 1, 2, 3, 4, 5, 6, 7] rfl ?_
      refine rp rfl rfl (p_move rfl rfl) ?_
      refine rp rfl rfl (p_move rfl rfl) ?_
      refine bindK H fun r'1 h3 H => ?_
      refine rp rfl rfl (p_callp rfl rfl rfl Tryd.func61 rfl rfl (g_roll_root_ac h3) ⟨rfl, rfl, trivial⟩) ?_
      refine rp rfl rfl (p_move rfl rfl) ?_
      refine rp rfl rfl (p_ext rfl rfl rfl rfl) ?_
      refine rp rfl rfl (p_ext rfl rfl rfl rfl) ?_
      refine rp rfl rfl (p_asg rfl rfl) ?_
      refine rp rfl rfl (p_asg rfl rfl) ?_
      refine rz [(10, .y r'1.1), (11, .i r'1.2)] [] rfl rfl rfl ?_
      refine sg [0, 1, 2, 3, 4] rfl ?_
      refine rp rfl rfl (p_move rfl rfl) ?_
      refine r_op rfl rfl (MakeD.opD (u_bs 30 rfl Tryd.underlying33 in_22 rfl one_22 (by decide) (by decide) rfl rfl rfl) rfl rfl rfl rfl) ?_
      refine rp rfl rfl (p_move rfl rfl) ?_
      refine rp rfl rfl (p_asg rfl rfl) ?_
      refine rp rfl rfl (p_asg rfl rfl) ?_
      refine RunW_st [(8, .c (.own 30 ([r'1.1] : List (List UInt8)).length 1)), (9, .i r'1.2)] [(30, .pure (([r'1.1] : List (List UInt8)).map AV.bytes))] rfl ⟨TLes.own rfl, TLes.same _, trivial⟩ ⟨rfl, trivial⟩ ?_
      refine RunW_gho (Gho_ren 30 8 rfl rfl rfl rfl rfl) ?_
      refine rz [(8, .c (.own 8 ([r'1.1] : List (List UInt8)).length 1)), (9, .i r'1.2)] [(8, .pure (([r'1.1] : List (List UInt8)).map AV.bytes))] rfl rfl rfl ?_
      refine as2 [(8, .c (.own 8 ([r'1.1] : List (List UInt8)).length 1)), (9, .i r'1.2)] [(8, .pure (([r'1.1] : List (List UInt8)).map AV.bytes))] rfl rfl rfl ?_
      refine AW2_ret ?_
      have hz := some_elim H
      subst hz
      exact ⟨⟨res_tmp (.same _), res_tmp (.same _), trivial⟩, ⟨rfl, trivial⟩⟩
  · replace H := ite_else h1 H
    refine as2 [(0, .i mode0), (1, .p (AV.lists l1)), (2, .i m2), (3, .b known3)] [] rfl rfl rfl ?_
    refine AW2_skip ?_
    refine sg [0, 1, 2, 3] rfl ?_
    refine rp rfl rfl (p_move rfl rfl) ?_
    refine rp rfl rfl (p_lenl rfl Tryd.underlying33 rfl rfl) ?_
    refine bindK H fun r'2 h4 H => ?_
    refine rp rfl rfl (p_callp rfl rfl rfl Tryd.func78 rfl rfl (g_roll_half_ac h4) ⟨rfl, trivial⟩) ?_
    refine rp rfl rfl (p_asg rfl rfl) ?_
    refine rz [(0, .i mode0), (1, .p (AV.lists l1)), (2, .i m2), (3, .b known3), (12, .i r'2)] [] rfl rfl rfl ?_
    refine AW2_seq ?_
    refine chkK H fun h5 H => ?_
    refine chkK H fun h6 H => ?_
    refine AW2_ghoQ ?_
    refine AW2_draw 8 [8] (fun k => ([.p (AV.lists l1), .i r'2, .i r'2, .p (AV.lists (cut l1 (0 : Int) r'2)), .p (AV.lists l1), .i r'2, .p (AV.lists (cut l1 r'2 (l1.length : Int))), .p (AV.lists (cut l1 (0 : Int) r'2))] : List TV).getD k TV.any) (fun k => ([[(1, none)], [(12, none)], [(12, none)], [(35, some 0), (36, some 1), (37, some 2)], [(1, none)], [(12, none)], [(39, some 4), (40, some 5)], [(38, some 3)]] : List (List (Nat × Option Nat))).getD k []) [(0, none), (2, none), (3, none), (12, none), (13, some 7), (41, some 6)] [] (fun k => ([[], [], [], [0, 1, 2], [], [], [4, 5], [0, 1, 2, 3], [0, 1, 2, 3, 4, 5, 6, 7]] : List (List Nat)).getD k []) mixed (by kernel_rfl) rfl rfl (a_op (g_x rfl (x_p rfl (p_move rfl rfl) rfl)) (a_op (g_x rfl (x_p rfl (p_move rfl rfl) rfl)) (a_op (g_x rfl (x_p rfl (p_move rfl rfl) rfl)) (a_op (g_x rfl (x_p rfl (u_cutl (g := (fun l => l.map AV.bytes)) (a := (0 : Int)) (b := r'2) rfl rfl Tryd.underlying33 in_22 rfl bT_zero (bT_i (Int.le_trans (show 0 ≤ (0 : Int) ∧ (0 : Int) ≤ r'2 ∧ r'2 ≤ (l1.length : Int) from ⟨Int.le_refl _, h5.1, h5.2⟩).1 (show 0 ≤ (0 : Int) ∧ (0 : Int) ≤ r'2 ∧ r'2 ≤ (l1.length : Int) from ⟨Int.le_refl _, h5.1, h5.2⟩).2.1) rfl) (.inr ⟨(bT_i (Int.le_trans (show 0 ≤ (0 : Int) ∧ (0 : Int) ≤ r'2 ∧ r'2 ≤ (l1.length : Int) from ⟨Int.le_refl _, h5.1, h5.2⟩).1 (show 0 ≤ (0 : Int) ∧ (0 : Int) ≤ r'2 ∧ r'2 ≤ (l1.length : Int) from ⟨Int.le_refl _, h5.1, h5.2⟩).2.1) rfl), rfl⟩) (show 0 ≤ (0 : Int) ∧ (0 : Int) ≤ r'2 ∧ r'2 ≤ (l1.length : Int) from ⟨Int.le_refl _, h5.1, h5.2⟩) (g_map AV.bytes)) rfl)) (a_op (g_x rfl (x_p rfl (p_move rfl rfl) rfl)) (a_op (g_x rfl (x_p rfl (p_move rfl rfl) rfl)) (a_op (g_x rfl (x_p rfl (u_cutl (g := (fun l => l.map AV.bytes)) (a := r'2) (b := (l1.length : Int)) rfl rfl Tryd.underlying33 in_22 rfl (bT_i (show 0 ≤ r'2 ∧ r'2 ≤ (l1.length : Int) ∧ (l1.length : Int) ≤ (l1.length : Int) from ⟨h6.1, h6.2, Int.le_refl _⟩).1 rfl) (bT_len _) (.inl rfl) (show 0 ≤ r'2 ∧ r'2 ≤ (l1.length : Int) ∧ (l1.length : Int) ≤ (l1.length : Int) from ⟨h6.1, h6.2, Int.le_refl _⟩) (g_map AV.bytes)) rfl)) (a_op (g_x rfl (x_p rfl (p_asg rfl rfl) rfl)) (a_nil))))))))) ?_
    refine t_op rfl rfl (PureD.opD (p_asg rfl rfl)) ?_
    refine t_gho (Gho_st (L := [(0, .i mode0), (2, .i m2), (3, .b known3), (12, .i r'2), (13, .p (AV.lists (cut l1 (0 : Int) r'2))), (14, .p (AV.lists (cut l1 r'2 (l1.length : Int))))]) (H := []) (N := 74) rfl ⟨TLes.same _, TLes.same _, TLes.same _, TLes.same _, TLes.same _, TLes.same _, trivial⟩ trivial) ?_
    refine AW2_seq ?_
    refine bindK H fun j'3 h7 H => ?_
    refine AW2_mid (⟨[(0, .i mode0), (2, .i j'3.1), (3, .b j'3.2.1), (13, .p (AV.lists j'3.2.2.1)), (14, .p (AV.lists j'3.2.2.2))], [], 74⟩ : TS) ?_ ?_
    · clear H
      have H := h7
      clear h7
      refine sg [0, 1, 2] rfl ?_
      refine rp rfl rfl (p_move rfl rfl) ?_
      refine rp rfl rfl (p_move rfl rfl) ?_
      refine rp rfl rfl (p_bin rfl rfl rfl rfl) ?_
      refine rz [(0, .i mode0), (2, .i m2), (3, .b known3), (12, .i r'2), (13, .p (AV.lists (cut l1 (0 : Int) r'2))), (14, .p (AV.lists (cut l1 r'2 (l1.length : Int)))), (44, .b (decide (m2 > r'2)))] [] rfl rfl rfl ?_
      refine AW2_if (p := m2 > r'2) rfl (fun h8 => ?_) (fun h8 => ?_)
      · replace H := ite_then h8 H
        refine AW2_reg [0, 1, 2, 3, 4, 5, 6, 7, 8] rfl ?_
        refine rp rfl rfl (p_move rfl rfl) ?_
        refine rp rfl rfl (p_move rfl rfl) ?_
        refine rp rfl rfl (p_move rfl rfl) ?_
        refine rp rfl rfl (p_move rfl rfl) ?_
        refine rp rfl rfl (p_bin rfl rfl rfl rfl) ?_
        refine rp rfl rfl (p_asg rfl rfl) ?_
        refine rp rfl rfl (p_asg rfl rfl) ?_
        refine rp rfl rfl (p_asg rfl rfl) ?_
        refine rp rfl rfl (p_asg rfl rfl) ?_
        refine rz [(0, .i mode0), (2, .i (w64 (m2 - r'2))), (3, .b false), (13, .p (AV.lists (cut l1 r'2 (l1.length : Int)))), (14, .p (AV.lists (cut l1 (0 : Int) r'2)))] [] rfl rfl rfl ?_
        have hz := some_elim H
        subst hz
        exact rfl
      · replace H := ite_else h8 H
        refine as2 [(0, .i mode0), (2, .i m2), (3, .b known3), (13, .p (AV.lists (cut l1 (0 : Int) r'2))), (14, .p (AV.lists (cut l1 r'2 (l1.length : Int))))] [] rfl rfl rfl ?_
        refine AW2_skip ?_
        have hz := some_elim H
        subst hz
        exact rfl
    · refine sg [0, 1, 2, 3, 4, 5, 6, 7, 8, 9] rfl ?_
      refine rp rfl rfl (p_move rfl rfl) ?_
      refine rp rfl rfl (p_move rfl rfl) ?_
      refine rp rfl rfl (p_move rfl rfl) ?_
      refine rp rfl rfl (p_move rfl rfl) ?_
      refine bindK H fun r'4 h9 H => ?_
      refine r_op rfl rfl (d_callh [(8, 1000)] rfl rfl rfl Tryd.func69 rfl rfl (hR2 h9) ⟨TLes.same _, TLes.same _, TLes.same _, TLes.same _, trivial⟩ trivial rfl rfl) ?_
      refine rp rfl rfl (p_move rfl rfl) ?_
      refine rp rfl rfl (p_ext2 rfl rfl rfl rfl) ?_
      refine rp rfl rfl (p_ext2 rfl rfl rfl rfl) ?_
      refine rp rfl rfl (p_asg rfl rfl) ?_
      refine rp rfl rfl (p_asg rfl rfl) ?_
      refine rs [(0, .i mode0), (14, .p (AV.lists j'3.2.2.2)), (15, .c (.own 1000 r'4.1.length 1)), (16, .i r'4.2)] [(1000, .pure (r'4.1.map AV.bytes))] rfl rfl rfl ?_
      refine RunW_gho (Gho_ren 1000 15 rfl rfl rfl rfl rfl) ?_
      refine rz [(0, .i mode0), (14, .p (AV.lists j'3.2.2.2)), (15, .c (.own 15 r'4.1.length 1)), (16, .i r'4.2)] [(15, .pure (r'4.1.map AV.bytes))] rfl rfl rfl ?_
      refine AW2_seq ?_
      refine sg [0, 1] rfl ?_
      refine rp rfl rfl (p_move rfl rfl) ?_
      refine rp rfl rfl (p_ine rfl rfl rfl) ?_
      refine rz [(0, .i mode0), (14, .p (AV.lists j'3.2.2.2)), (15, .c (.own 15 r'4.1.length 1)), (16, .i r'4.2), (59, .b (decide (r'4.2 ≠ (0 : Int))))] [(15, .pure (r'4.1.map AV.bytes))] rfl rfl rfl ?_
      refine AW2_if (p := r'4.2 ≠ (0 : Int)) rfl (fun h10 => ?_) (fun h10 => ?_)
      · replace H := ite_then h10 H
        refine sg [0, 1, 2] rfl ?_
        refine rp rfl rfl (p_move rfl rfl) ?_
        refine rp rfl rfl (p_asgn rfl) ?_
        refine rp rfl rfl (p_asg rfl rfl) ?_
        refine rz [(8, .p .nil), (9, .i r'4.2)] [] rfl rfl rfl ?_
        refine as2 [(8, .p .nil), (9, .i r'4.2)] [] rfl rfl rfl ?_
        refine AW2_gho (Gho_own (d := 8) (b := 8) (z := 1) rfl rfl rfl rfl) ?_
        refine AW2_st [(8, .c (.own 8 ([] : List (List UInt8)).length 1)), (9, .i r'4.2)] [(8, .pure (([] : List (List UInt8)).map AV.bytes))] rfl ⟨TLes.own rfl, TLes.same _, trivial⟩ ⟨rfl, trivial⟩ ?_
        refine AW2_ret ?_
        have hz := some_elim H
        subst hz
        exact ⟨⟨res_tmp (.same _), res_tmp (.same _), trivial⟩, ⟨rfl, trivial⟩⟩
      · replace H := ite_else h10 H
        refine as2 [(0, .i mode0), (14, .p (AV.lists j'3.2.2.2)), (15, .c (.own 15 r'4.1.length 1))] [(15, .pure (r'4.1.map AV.bytes))] rfl rfl rfl ?_
        refine AW2_skip ?_
        refine sg [0, 1, 2, 3, 4, 5, 6, 7] rfl ?_
        refine rp rfl rfl (p_move rfl rfl) ?_
        refine rp rfl rfl (p_move rfl rfl) ?_
        refine bindK H fun r'5 h11 H => ?_
        refine rp rfl rfl (p_callp rfl rfl rfl Tryd.func61 rfl rfl (g_roll_root_ac h11) ⟨rfl, rfl, trivial⟩) ?_
        refine rp rfl rfl (p_move rfl rfl) ?_
        refine rp rfl rfl (p_ext rfl rfl rfl rfl) ?_
        refine rp rfl rfl (p_ext rfl rfl rfl rfl) ?_
        refine rp rfl rfl (p_asg rfl rfl) ?_
        refine rp rfl rfl (p_asg rfl rfl) ?_
        refine rz [(15, .c (.own 15 r'4.1.length 1)), (16, .i r'5.2), (17, .y r'5.1)] [(15, .pure (r'4.1.map AV.bytes))] rfl rfl rfl ?_
        refine AW2_seq ?_
        refine sg [0, 1] rfl ?_
        refine rp rfl rfl (p_move rfl rfl) ?_
        refine rp rfl rfl (p_ine rfl rfl rfl) ?_
        refine rz [(15, .c (.own 15 r'4.1.length 1)), (16, .i r'5.2), (17, .y r'5.1), (68, .b (decide (r'5.2 ≠ (0 : Int))))] [(15, .pure (r'4.1.map AV.bytes))] rfl rfl rfl ?_
        refine AW2_if (p := r'5.2 ≠ (0 : Int)) rfl (fun h12 => ?_) (fun h12 => ?_)
        · replace H := ite_then h12 H
          refine sg [0, 1, 2] rfl ?_
          refine rp rfl rfl (p_move rfl rfl) ?_
          refine rp rfl rfl (p_asgn rfl) ?_
          refine rp rfl rfl (p_asg rfl rfl) ?_
          refine rz [(8, .p .nil), (9, .i r'5.2)] [] rfl rfl rfl ?_
          refine as2 [(8, .p .nil), (9, .i r'5.2)] [] rfl rfl rfl ?_
          refine AW2_gho (Gho_own (d := 8) (b := 8) (z := 1) rfl rfl rfl rfl) ?_
          refine AW2_st [(8, .c (.own 8 ([] : List (List UInt8)).length 1)), (9, .i r'5.2)] [(8, .pure (([] : List (List UInt8)).map AV.bytes))] rfl ⟨TLes.own rfl, TLes.same _, trivial⟩ ⟨rfl, trivial⟩ ?_
          refine AW2_ret ?_
          have hz := some_elim H
          subst hz
          exact ⟨⟨res_tmp (.same _), res_tmp (.same _), trivial⟩, ⟨rfl, trivial⟩⟩
        · replace H := ite_else h12 H
          refine as2 [(15, .c (.own 15 r'4.1.length 1)), (17, .y r'5.1)] [(15, .pure (r'4.1.map AV.bytes))] rfl rfl rfl ?_
          refine AW2_skip ?_
          refine sg [0, 1, 2, 3, 4, 5] rfl ?_
          refine rp rfl rfl (p_move rfl rfl) ?_
          refine rp rfl rfl (p_move rfl rfl) ?_
          refine r_op rfl rfl (MakeD.opD (u_bs 72 rfl Tryd.underlying33 in_22 rfl one_22 (by decide) (by decide) rfl rfl rfl) rfl rfl rfl rfl) ?_
          refine chkK H fun h13 H => ?_
          refine r_op rfl rfl (u_app [15, 70] rfl rfl rfl rfl Tryd.underlying33 Tryd.underlying33 in_22 rfl rfl rfl (ml AV.bytes r'4.1) (by decide) (srcT_o rfl rfl (ml AV.bytes ([r'5.1] : List (List UInt8))) (by decide)) (ml AV.bytes ([r'5.1] : List (List UInt8))) h13 (by decide) rfl rfl (mapp AV.bytes r'4.1 ([r'5.1] : List (List UInt8))) (lapp r'4.1 ([r'5.1] : List (List UInt8)))) ?_
          refine rp rfl rfl (p_asg rfl rfl) ?_
          refine rp rfl rfl (p_asg rfl rfl) ?_
          refine rs [(8, .c (.own 15 (r'4.1 ++ ([r'5.1] : List (List UInt8))).length 1)), (9, .i (0 : Int))] [(15, .pure ((r'4.1 ++ ([r'5.1] : List (List UInt8))).map AV.bytes))] rfl rfl rfl ?_
          refine RunW_gho (Gho_ren 15 8 rfl rfl rfl rfl rfl) ?_
          refine rz [(8, .c (.own 8 (r'4.1 ++ ([r'5.1] : List (List UInt8))).length 1)), (9, .i (0 : Int))] [(8, .pure ((r'4.1 ++ ([r'5.1] : List (List UInt8))).map AV.bytes))] rfl rfl rfl ?_
          refine as2 [(8, .c (.own 8 (r'4.1 ++ ([r'5.1] : List (List UInt8))).length 1)), (9, .i (0 : Int))] [(8, .pure ((r'4.1 ++ ([r'5.1] : List (List UInt8))).map AV.bytes))] rfl rfl rfl ?_
          refine AW2_ret ?_
          have hz := some_elim H
          subst hz
          exact ⟨⟨res_tmp (.same _), res_tmp (.same _), trivial⟩, ⟨rfl, trivial⟩⟩
theorem g_roll_extend_acN : ∀ (fu : Nat) {mode0 : Int} {l1 : List (List UInt8)} {m2 : Int} {known3 : Bool} {r : (List (List UInt8)) × Int}, g_roll_extend fu mode0 l1 m2 known3 = some r → AC2 Tryd.prog 69 (pureT [(AV.int mode0), (AV.lists l1), (AV.int m2), (AV.bool known3)]) [] (retV [.c (.own 8 r.1.length 1), .i r.2]) [(8, .pure (r.1.map AV.bytes))]
  | 0, _, _, _, _, _, H => (by cases H)
  | fu + 1, _, _, _, _, _, H => g_roll_extend_ac0 (g_roll_extend_acN fu) H
theorem g_roll_extend_ac2 {mode0 : Int} {l1 : List (List UInt8)} {m2 : Int} {known3 : Bool} {r : (List (List UInt8)) × Int} (H : g_roll_extend 100000 mode0 l1 m2 known3 = some r) : AC2 Tryd.prog 69 (pureT [(AV.int mode0), (AV.lists l1), (AV.int m2), (AV.bool known3)]) [] (retV [.c (.own 8 r.1.length 1), .i r.2]) [(8, .pure (r.1.map AV.bytes))] := g_roll_extend_acN 100000 H
theorem g_roll_extend_ac {mode0 : Int} {l1 : List (List UInt8)} {m2 : Int} {known3 : Bool} {r : (List (List UInt8)) × Int} (H : g_roll_extend 100000 mode0 l1 m2 known3 = some r) : ACp Tryd.prog 69 [(AV.int mode0), (AV.lists l1), (AV.int m2), (AV.bool known3)] (.tup [(AV.lists r.1), (AV.int r.2)]) := ACp_pub (g_roll_extend_ac2 H) (fun _ _ hm => lent_tup ⟨lent_own hm rfl (ml AV.bytes r.1) (by decide), .same _, trivial⟩)
end Go.Proofs.YtkaeboabpahemaaDoor.VM
