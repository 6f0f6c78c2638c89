/- Functions of the program, as they answer, and that their code comes to these answers. -/
import Derived.Test.YtkaeboabpahemaaDoorGs2
namespace Go.Proofs.YtkaeboabpahemaaDoor.VM
open Go Go.RowKit

set_option maxRecDepth 100000 in
theorem ty_33 {d : Nat} {cs : List AV} (h : Typed Tryd.prog (d + 3) 33 cs) : ∃ x : List (List UInt8), cs = [(AV.lists x)] ∧ (okL 24 (okL 1 okA)) x := ty_slice (f := AV.bytes) Tryd.underlying33 (bytes_of in_22) (fun _ hx => ty_22 hx) h

/-! chirographlaw.sameLists -/
noncomputable def g_law_sameLists_l0 (a0 : List (List UInt8)) (b1 : List (List UInt8)) : Int → Option (Int ⊕ (Bool ⊕ Unit))
  | t13_0 => (if t13_0 < (a0.length : Int) then if 0 ≤ t13_0 ∧ t13_0 < (a0.length : Int) then if 0 ≤ t13_0 ∧ t13_0 < (b1.length : Int) then (if (lrd a0 t13_0.toNat) ≠ (lrd b1 t13_0.toNat) then some (.inr (.inl false)) else some (.inl (w64 (t13_0 + (1 : Int))))) else none else none else some (.inr (.inr ())))
noncomputable def g_law_sameLists (a0 : List (List UInt8)) (b1 : List (List UInt8)) : Option (Bool) :=
  (if (a0.length : Int) ≠ (b1.length : Int) then some false else (loopO (g_law_sameLists_l0 a0 b1) (0 : Int)).bind fun o'4 => match o'4 with | .inl y'5 => some y'5 | .inr (y'6) => some true)
set_option maxHeartbeats 4000000 in
set_option maxRecDepth 100000 in
theorem g_law_sameLists_ac {a0 : List (List UInt8)} {b1 : List (List UInt8)} {r : Bool} (H : g_law_sameLists a0 b1 = some r) : ACp Tryd.prog 21 [(AV.lists a0), (AV.lists b1)] (AV.bool r) := by
  refine ACp_of (AC2_of_body (vs := [.b r]) Tryd.func21 rfl rfl (Nat.le_of_ble_eq_true rfl) rfl ?_) (fun _ => .same _)
  unfold g_law_sameLists at H
  refine as2 [(0, .p (AV.lists a0)), (1, .p (AV.lists b1))] [] rfl rfl rfl ?_
  refine sg [0] rfl ?_
  refine rp rfl rfl (p_asg rfl rfl) ?_
  refine rz [(0, .p (AV.lists a0)), (1, .p (AV.lists b1))] [] rfl rfl rfl ?_
  refine AW2_seq ?_
  refine sg [0, 1, 2, 3, 4] rfl ?_
  refine rp rfl rfl (p_move rfl rfl) ?_
  refine rp rfl rfl (p_lenl rfl Tryd.underlying33 rfl rfl) ?_
  refine rp rfl rfl (p_move rfl rfl) ?_
  refine rp rfl rfl (p_lenl rfl Tryd.underlying33 rfl rfl) ?_
  refine rp rfl rfl (p_ine rfl rfl rfl) ?_
  refine rz [(0, .p (AV.lists a0)), (1, .p (AV.lists b1)), (10, .b (decide ((a0.length : Int) ≠ (b1.length : Int))))] [] rfl rfl rfl ?_
  refine AW2_if (p := (a0.length : Int) ≠ (b1.length : Int)) rfl (fun h1 => ?_) (fun h1 => ?_)
  · replace H := ite_then h1 H
    refine sg [0] rfl ?_
    refine rp rfl rfl (p_asg rfl rfl) ?_
    refine rz [(4, .b false)] [] rfl rfl rfl ?_
    refine AW2_ret ?_
    have hz := some_elim H
    subst hz
    exact ⟨⟨res_tmp (.same _), trivial⟩, trivial⟩
  · replace H := ite_else h1 H
    refine as2 [(0, .p (AV.lists a0)), (1, .p (AV.lists b1))] [] rfl rfl rfl ?_
    refine AW2_skip ?_
    refine AW2_seq ?_
    refine sg [0, 1, 2] rfl ?_
    refine rp rfl rfl (p_move rfl rfl) ?_
    refine rp rfl rfl (p_lenl rfl Tryd.underlying33 rfl rfl) ?_
    refine rp rfl rfl (p_move rfl rfl) ?_
    refine rz [(0, .p (AV.lists a0)), (1, .p (AV.lists b1)), (12, .i (a0.length : Int)), (13, .i (0 : Int))] [] rfl rfl rfl ?_
    refine AW2_block ?_
    refine as2 [(0, .p (AV.lists a0)), (1, .p (AV.lists b1)), (12, .i (a0.length : Int)), (13, .i (0 : Int))] [] rfl rfl rfl ?_
    refine bindK H fun o'4 h6 H => ?_
    refine AW2_loopO (fun a'1 : Int => (⟨[(0, .p (AV.lists a0)), (1, .p (AV.lists b1)), (12, .i (a0.length : Int)), (13, .i a'1)], [], 28⟩ : TS)) (fun (o : Bool ⊕ Unit) e s' => match o with | .inl y'2 => e = Go.Exit.ret ∧ ResAll Tryd.prog s' [ResultVar.tmp 4] [.b y'2] ∧ HFits s' [] | .inr (y'3) => e = Go.Exit.exit 0 ∧ s' = (⟨[], [], 28⟩ : TS)) h6 rfl (fun t13_0 x hx => ?_) (fun e s' hs => ?_)
    · clear H
      have H := hx
      clear hx
      unfold g_law_sameLists_l0 at H
      refine sg [0] rfl ?_
      refine rp rfl rfl (p_bin rfl rfl rfl rfl) ?_
      refine rz [(0, .p (AV.lists a0)), (1, .p (AV.lists b1)), (12, .i (a0.length : Int)), (13, .i t13_0), (14, .b (decide (t13_0 < (a0.length : Int))))] [] rfl rfl rfl ?_
      refine AW2_seq ?_
      refine AW2_if (p := t13_0 < (a0.length : Int)) rfl (fun h2 => ?_) (fun h2 => ?_)
      · replace H := ite_then h2 H
        refine as2 [(0, .p (AV.lists a0)), (1, .p (AV.lists b1)), (12, .i (a0.length : Int)), (13, .i t13_0)] [] rfl rfl rfl ?_
        refine AW2_skip ?_
        refine AW2_seq ?_
        refine AW2_block ?_
        refine sg [0, 1] rfl ?_
        refine rp rfl rfl (p_move rfl rfl) ?_
        refine rp rfl rfl (p_asg rfl rfl) ?_
        refine rz [(0, .p (AV.lists a0)), (1, .p (AV.lists b1)), (5, .i t13_0), (12, .i (a0.length : Int)), (13, .i t13_0)] [] rfl rfl rfl ?_
        refine AW2_seq ?_
        refine chkK H fun h3 H => ?_
        refine chkK H fun h4 H => ?_
        refine AW2_ghoQ ?_
        refine AW2_draw 10 [10] (fun k => ([.p (AV.lists a0), .i t13_0, .p (.rptr (a0.map AV.bytes) (t13_0.toNat * 1)), .y (lrd a0 t13_0.toNat), .t (lrd a0 t13_0.toNat), .p (AV.lists b1), .i t13_0, .p (.rptr (b1.map AV.bytes) (t13_0.toNat * 1)), .y (lrd b1 t13_0.toNat), .t (lrd b1 t13_0.toNat)] : List TV).getD k TV.any) (fun k => ([[(0, none)], [(5, none)], [(16, some 0), (17, some 1)], [(18, some 2)], [(19, some 3)], [(1, none)], [(5, none)], [(21, some 5), (22, some 6)], [(23, some 7)], [(24, some 8)]] : List (List (Nat × Option Nat))).getD k []) [(0, none), (1, none), (12, none), (13, none), (20, some 4), (25, some 9)] [] (fun k => ([[], [], [0, 1], [0, 1, 2], [0, 1, 2, 3], [], [], [5, 6], [5, 6, 7], [5, 6, 7, 8], [0, 1, 2, 3, 4, 5, 6, 7, 8, 9]] : List (List Nat)).getD k []) mixed (by kernel_rfl) rfl rfl (a_op (g_x rfl (x_p rfl (p_move rfl rfl) rfl)) (a_op (g_x rfl (x_p rfl (p_move rfl rfl) rfl)) (a_op (g_x rfl (x_p rfl (u_ixl rfl rfl Tryd.underlying33 in_22 rfl rfl (ixe h3) (ixn h3) (lne (ixn h3))) rfl)) (a_op (g_x rfl (x_p rfl (u_ld rfl rfl Tryd.underlying22 rfl rfl (Sub.map default (ixn h3))) rfl)) (a_op (g_x rfl (x_p rfl (p_cb rfl rfl Tryd.underlying22 Tryd.underlying5 Tryd.underlying9 rfl) rfl)) (a_op (g_x rfl (x_p rfl (p_move rfl rfl) rfl)) (a_op (g_x rfl (x_p rfl (p_move rfl rfl) rfl)) (a_op (g_x rfl (x_p rfl (u_ixl rfl rfl Tryd.underlying33 in_22 rfl rfl (ixe h4) (ixn h4) (lne (ixn h4))) rfl)) (a_op (g_x rfl (x_p rfl (u_ld rfl rfl Tryd.underlying22 rfl rfl (Sub.map default (ixn h4))) rfl)) (a_op (g_x rfl (x_p rfl (p_cb rfl rfl Tryd.underlying22 Tryd.underlying5 Tryd.underlying9 rfl) rfl)) (a_nil))))))))))) ?_
        refine t_op rfl rfl (PureD.opD (p_sne rfl rfl rfl)) ?_
        refine t_gho (Gho_st (L := [(0, .p (AV.lists a0)), (1, .p (AV.lists b1)), (12, .i (a0.length : Int)), (13, .i t13_0), (26, .b (decide ((lrd a0 t13_0.toNat) ≠ (lrd b1 t13_0.toNat))))]) (H := []) rfl ⟨TLes.same _, TLes.same _, TLes.same _, TLes.same _, TLes.same _, trivial⟩ trivial) ?_
        refine AW2_if (p := (lrd a0 t13_0.toNat) ≠ (lrd b1 t13_0.toNat)) rfl (fun h5 => ?_) (fun h5 => ?_)
        · replace H := ite_then h5 H
          refine sg [0] rfl ?_
          refine rp rfl rfl (p_asg rfl rfl) ?_
          refine rz [(4, .b false)] [] rfl rfl rfl ?_
          refine AW2_ret ?_
          have hz := some_elim H
          subst hz
          exact ⟨rfl, ⟨res_tmp (.same _), trivial⟩, trivial⟩
        · replace H := ite_else h5 H
          refine as2 [(0, .p (AV.lists a0)), (1, .p (AV.lists b1)), (12, .i (a0.length : Int)), (13, .i t13_0)] [] rfl rfl rfl ?_
          refine AW2_skip ?_
          refine AW2_reg [0, 1] rfl ?_
          refine rp rfl rfl (p_bin rfl rfl rfl rfl) ?_
          refine rp rfl rfl (p_move rfl rfl) ?_
          refine rz [(0, .p (AV.lists a0)), (1, .p (AV.lists b1)), (12, .i (a0.length : Int)), (13, .i (w64 (t13_0 + (1 : Int))))] [] rfl rfl rfl ?_
          have hz := some_elim H
          subst hz
          exact ⟨rfl, rfl⟩
      · replace H := ite_else h2 H
        refine as2 [] [] rfl rfl rfl ?_
        refine AW2_exit ?_
        refine thenQ2_exit ?_
        have hz := some_elim H
        subst hz
        exact ⟨rfl, rfl⟩
    · rcases o'4 with y'5 | y'6
      · obtain ⟨rfl, hs⟩ := hs
        refine ⟨by simp, ?_⟩
        have hz := some_elim H
        subst hz
        exact ⟨hs.1, hs.2⟩
      · obtain ⟨rfl, rfl⟩ := hs
        refine ⟨by simp, ?_⟩
        refine blockQ2_exit ?_
        refine sg [0] rfl ?_
        refine rp rfl rfl (p_asg rfl rfl) ?_
        refine rz [(4, .b true)] [] rfl rfl rfl ?_
        refine AW2_ret ?_
        have hz := some_elim H
        subst hz
        exact ⟨⟨res_tmp (.same _), trivial⟩, trivial⟩

/-! chirographlaw.SlotsPaths -/
noncomputable def g_law_SlotsPaths (mode0 : Int) (l1 : List GSlot) (i2 : Int) : Option (Bool) :=
  (g_slots_Path mode0 l1 i2).bind fun r'1 => (g_ref_PathOf mode0 l1 i2).bind fun r'2 => ((if r'1.2 = r'2.2 then (g_law_sameLists r'1.1 r'2.1).bind fun r'4 => some r'4 else some false)).bind fun g'5 => some g'5
set_option maxHeartbeats 4000000 in
set_option maxRecDepth 100000 in
theorem g_law_SlotsPaths_ac {mode0 : Int} {l1 : List GSlot} {i2 : Int} {r : Bool} (H : g_law_SlotsPaths mode0 l1 i2 = some r) : ACp Tryd.prog 5 [(AV.int mode0), ((fun q : List GSlot => AV.lst (q.flatMap GSlot.cs) q.length) l1), (AV.int i2)] (AV.bool r) := by
  refine ACp_of (AC2_of_body (vs := [.b r]) Tryd.func5 rfl rfl (Nat.le_of_ble_eq_true rfl) rfl ?_) (fun _ => .same _)
  unfold g_law_SlotsPaths at H
  refine as2 [(0, .i mode0), (1, .p ((fun q : List GSlot => AV.lst (q.flatMap GSlot.cs) q.length) l1)), (2, .i i2)] [] rfl rfl rfl ?_
  refine sg [0] rfl ?_
  refine rp rfl rfl (p_asg rfl rfl) ?_
  refine rz [(0, .i mode0), (1, .p ((fun q : List GSlot => AV.lst (q.flatMap GSlot.cs) q.length) l1)), (2, .i i2)] [] rfl rfl rfl ?_
  refine sg [0, 1, 2, 3, 4, 5, 6, 7, 8] rfl ?_
  refine rp rfl rfl (p_move rfl rfl) ?_
  refine rp rfl rfl (p_move rfl rfl) ?_
  refine rp rfl rfl (p_move rfl rfl) ?_
  refine bindK H fun r'1 h1 H => ?_
  refine rp rfl rfl (p_callp rfl rfl rfl Tryd.func19 rfl rfl (g_slots_Path_ac h1) ⟨rfl, rfl, rfl, trivial⟩) ?_
  refine rp rfl rfl (p_move rfl rfl) ?_
  refine rp rfl rfl (p_ext rfl rfl rfl rfl) ?_
  refine rp rfl rfl (p_ext rfl rfl rfl rfl) ?_
  refine rp rfl rfl (p_asg rfl rfl) ?_
  refine rp rfl rfl (p_asg rfl rfl) ?_
  refine rz [(0, .i mode0), (1, .p ((fun q : List GSlot => AV.lst (q.flatMap GSlot.cs) q.length) l1)), (2, .i i2), (7, .p (AV.lists r'1.1)), (8, .i r'1.2)] [] rfl rfl rfl ?_
  refine sg [0, 1, 2, 3, 4, 5, 6, 7, 8] rfl ?_
  refine rp rfl rfl (p_move rfl rfl) ?_
  refine rp rfl rfl (p_move rfl rfl) ?_
  refine rp rfl rfl (p_move rfl rfl) ?_
  refine bindK H fun r'2 h2 H => ?_
  refine rp rfl rfl (p_callp rfl rfl rfl Tryd.func20 rfl rfl (g_ref_PathOf_ac h2) ⟨rfl, rfl, rfl, trivial⟩) ?_
  refine rp rfl rfl (p_move rfl rfl) ?_
  refine rp rfl rfl (p_ext rfl rfl rfl rfl) ?_
  refine rp rfl rfl (p_ext rfl rfl rfl rfl) ?_
  refine rp rfl rfl (p_asg rfl rfl) ?_
  refine rp rfl rfl (p_asg rfl rfl) ?_
  refine rz [(7, .p (AV.lists r'1.1)), (8, .i r'1.2), (9, .p (AV.lists r'2.1)), (10, .i r'2.2)] [] rfl rfl rfl ?_
  refine AW2_seq ?_
  refine bindK H fun g'5 h6 H => ?_
  refine AW2_mid (⟨[(6, .b g'5)], [], 33⟩ : TS) ?_ ?_
  · clear H
    have H := h6
    clear h6
    refine AW2_reg [0, 1, 2, 3, 4, 5, 6, 7, 8] rfl ?_
    refine rp rfl rfl (p_move rfl rfl) ?_
    refine rp rfl rfl (p_move rfl rfl) ?_
    refine rp rfl rfl (p_ieq rfl rfl rfl) ?_
    refine rp rfl rfl (p_move rfl rfl) ?_
    refine (Classical.em (r'1.2 = r'2.2)).elim (fun h4 => ?_) (fun h4 => ?_)
    · replace H := ite_then h4 H
      refine r_on rfl rfl rfl rfl (decide_eq_true (p := r'1.2 = r'2.2) h4) rfl (PureD.opD (p_move rfl rfl)) ?_
      refine r_on rfl rfl rfl rfl (decide_eq_true (p := r'1.2 = r'2.2) h4) rfl (PureD.opD (p_move rfl rfl)) ?_
      refine bindK H fun r'4 h5 H => ?_
      refine r_on rfl rfl rfl rfl (decide_eq_true (p := r'1.2 = r'2.2) h4) rfl (PureD.opD (p_callp rfl rfl rfl Tryd.func21 rfl rfl (g_law_sameLists_ac h5) ⟨rfl, rfl, trivial⟩)) ?_
      refine rp rfl rfl (p_pkt rfl rfl (decide_eq_true (p := r'1.2 = r'2.2) h4) (.same _)) ?_
      refine rp rfl rfl (p_asg rfl rfl) ?_
      refine rs [(6, .b r'4)] [] rfl rfl rfl ?_
      have hz := some_elim H
      subst hz
      exact RunW_nil rfl
    · replace H := ite_else h4 H
      refine r_off rfl rfl rfl rfl (decide_eq_false (p := r'1.2 = r'2.2) h4) rfl rfl ?_
      refine r_off rfl rfl rfl rfl (decide_eq_false (p := r'1.2 = r'2.2) h4) rfl rfl ?_
      refine r_off rfl rfl rfl rfl (decide_eq_false (p := r'1.2 = r'2.2) h4) rfl rfl ?_
      refine rp rfl rfl (p_pkf rfl rfl (decide_eq_false (p := r'1.2 = r'2.2) h4) (.same _)) ?_
      refine rp rfl rfl (p_asg rfl rfl) ?_
      refine rs [(6, .b false)] [] rfl rfl rfl ?_
      have hz := some_elim H
      subst hz
      exact RunW_nil rfl
  · refine AW2_ret ?_
    have hz := some_elim H
    subst hz
    exact ⟨⟨res_tmp (.same _), trivial⟩, trivial⟩

/-! bytes.Equal -/
noncomputable def g_bytes_Equal (a0 : List UInt8) (b1 : List UInt8) : Option (Bool) :=
  some (decide (a0 = b1))
set_option maxHeartbeats 4000000 in
set_option maxRecDepth 100000 in
theorem g_bytes_Equal_ac {a0 : List UInt8} {b1 : List UInt8} {r : Bool} (H : g_bytes_Equal a0 b1 = some r) : ACp Tryd.prog 49 [(AV.bytes a0), (AV.bytes b1)] (AV.bool r) := by
  refine ACp_of (AC2_of_body (vs := [.b r]) Tryd.func49 rfl rfl (Nat.le_of_ble_eq_true rfl) rfl ?_) (fun _ => .same _)
  unfold g_bytes_Equal at H
  refine as2 [(0, .y a0), (1, .y b1)] [] rfl rfl rfl ?_
  refine sg [0] rfl ?_
  refine rp rfl rfl (p_asg rfl rfl) ?_
  refine rz [(0, .y a0), (1, .y b1)] [] rfl rfl rfl ?_
  refine sg [0, 1, 2, 3, 4, 5] rfl ?_
  refine rp rfl rfl (p_move rfl rfl) ?_
  refine rp rfl rfl (p_cb rfl rfl Tryd.underlying22 Tryd.underlying5 Tryd.underlying9 rfl) ?_
  refine rp rfl rfl (p_move rfl rfl) ?_
  refine rp rfl rfl (p_cb rfl rfl Tryd.underlying22 Tryd.underlying5 Tryd.underlying9 rfl) ?_
  refine rp rfl rfl (p_seq rfl rfl rfl) ?_
  refine rp rfl rfl (p_asg rfl rfl) ?_
  refine rz [(4, .b (decide (a0 = b1)))] [] rfl rfl rfl ?_
  refine AW2_ret ?_
  have hz := some_elim H
  subst hz
  exact ⟨⟨res_tmp (.same _), trivial⟩, trivial⟩

/-! slots.CheckPath -/
noncomputable def g_slots_CheckPath_l0 (mode0 : Int) (path5 : List (List UInt8)) : Int × Int × (List UInt8) × Int → Option ((Int × Int × (List UInt8) × Int) ⊕ (Int ⊕ (Int × (List UInt8))))
  | (n2_0, i3_0, d13_0, t43_0) => (if t43_0 < (path5.length : Int) then if 0 ≤ t43_0 ∧ t43_0 < (path5.length : Int) then (if n2_0 = (1 : Int) then some (.inr (.inl (10 : Int))) else ((if i3_0.tmod (2 : Int) = (1 : Int) then some ((lrd path5 t43_0.toNat), d13_0) else some (d13_0, (lrd path5 t43_0.toNat)))).bind fun j'4 => (g_slots_node mode0 j'4.1 j'4.2).bind fun r'5 => (if r'5.2 ≠ (0 : Int) then some (.inr (.inl (10 : Int))) else some (.inl (w64 (n2_0.tdiv (2 : Int)), w64 (i3_0.tdiv (2 : Int)), r'5.1, w64 (t43_0 + (1 : Int)))))) else none else some (.inr (.inr (n2_0, d13_0))))
noncomputable def g_slots_CheckPath (mode0 : Int) (root1 : List UInt8) (n2 : Int) (i3 : Int) (s4 : GSlot) (path5 : List (List UInt8)) : Option (Int) :=
  (g_slots_modes mode0).bind fun r'1 => (if (!r'1) = true then some (2 : Int) else (g_slots_power n2).bind fun r'2 => (if (!r'2) = true then some (1 : Int) else (if (i3 < (0 : Int)) ∨ (i3 ≥ n2) then some (6 : Int) else (g_slots_Leaf mode0 s4).bind fun r'3 => (if r'3.2 ≠ (0 : Int) then some r'3.2 else (loopO (g_slots_CheckPath_l0 mode0 path5) (n2, i3, r'3.1, (0 : Int))).bind fun o'9 => match o'9 with | .inl y'10 => some y'10 | .inr (y'11) => ((if y'11.1 ≠ (1 : Int) then some true else (g_bytes_Equal y'11.2 root1).bind fun r'13 => some (!r'13))).bind fun g'14 => (if g'14 = true then some (10 : Int) else some (0 : Int))))))
set_option maxHeartbeats 4000000 in
set_option maxRecDepth 100000 in
theorem g_slots_CheckPath_ac {mode0 : Int} {root1 : List UInt8} {n2 : Int} {i3 : Int} {s4 : GSlot} {path5 : List (List UInt8)} {r : Int} (H : g_slots_CheckPath mode0 root1 n2 i3 s4 path5 = some r) : ACp Tryd.prog 22 [(AV.int mode0), (AV.bytes root1), (AV.int n2), (AV.int i3), (.agg (GSlot.cs s4)), (AV.lists path5)] (AV.int r) := by
  refine ACp_of (AC2_of_body (vs := [.i r]) Tryd.func22 rfl rfl (Nat.le_of_ble_eq_true rfl) rfl ?_) (fun _ => .same _)
  unfold g_slots_CheckPath at H
  refine as2 [(0, .i mode0), (1, .y root1), (2, .i n2), (3, .i i3), (4, .g (GSlot.cs s4)), (5, .p (AV.lists path5))] [] rfl rfl rfl ?_
  refine sg [0, 1] rfl ?_
  refine r_op rfl rfl (MakeD.opD (n_box 10 rfl rfl) rfl rfl rfl rfl) ?_
  refine rp rfl rfl (p_asg rfl rfl) ?_
  refine rz [(0, .i mode0), (1, .y root1), (2, .i n2), (3, .i i3), (5, .p (AV.lists path5)), (10, .q 10 (0))] [(10, .pure (GSlot.cs s4))] rfl rfl rfl ?_
  refine AW2_seq ?_
  refine sg [0, 1, 2] rfl ?_
  refine rp rfl rfl (p_move rfl rfl) ?_
  refine bindK H fun r'1 h1 H => ?_
  refine rp rfl rfl (p_callp rfl rfl rfl Tryd.func39 rfl rfl (g_slots_modes_ac h1) ⟨rfl, trivial⟩) ?_
  refine rp rfl rfl (p_not rfl rfl) ?_
  refine rz [(0, .i mode0), (1, .y root1), (2, .i n2), (3, .i i3), (5, .p (AV.lists path5)), (10, .q 10 (0)), (21, .b (!r'1))] [(10, .pure (GSlot.cs s4))] rfl rfl rfl ?_
  refine AW2_cond rfl (fun h2 => ?_) (fun h2 => ?_)
  · replace H := ite_then h2 H
    refine sg [0] rfl ?_
    refine rp rfl rfl (p_asg rfl rfl) ?_
    refine rz [(12, .i (2 : Int))] [] rfl rfl rfl ?_
    refine AW2_ret ?_
    have hz := some_elim H
    subst hz
    exact ⟨⟨res_tmp (.same _), trivial⟩, trivial⟩
  · replace H := ite_else (ne_true h2) H
    refine as2 [(0, .i mode0), (1, .y root1), (2, .i n2), (3, .i i3), (5, .p (AV.lists path5)), (10, .q 10 (0))] [(10, .pure (GSlot.cs s4))] rfl rfl rfl ?_
    refine AW2_skip ?_
    refine AW2_seq ?_
    refine sg [0, 1, 2] rfl ?_
    refine rp rfl rfl (p_move rfl rfl) ?_
    refine bindK H fun r'2 h3 H => ?_
    refine rp rfl rfl (p_callp rfl rfl rfl Tryd.func47 rfl rfl (g_slots_power_ac h3) ⟨rfl, trivial⟩) ?_
    refine rp rfl rfl (p_not rfl rfl) ?_
    refine rz [(0, .i mode0), (1, .y root1), (2, .i n2), (3, .i i3), (5, .p (AV.lists path5)), (10, .q 10 (0)), (24, .b (!r'2))] [(10, .pure (GSlot.cs s4))] rfl rfl rfl ?_
    refine AW2_cond rfl (fun h4 => ?_) (fun h4 => ?_)
    · replace H := ite_then h4 H
      refine sg [0] rfl ?_
      refine rp rfl rfl (p_asg rfl rfl) ?_
      refine rz [(12, .i (1 : Int))] [] rfl rfl rfl ?_
      refine AW2_ret ?_
      have hz := some_elim H
      subst hz
      exact ⟨⟨res_tmp (.same _), trivial⟩, trivial⟩
    · replace H := ite_else (ne_true h4) H
      refine as2 [(0, .i mode0), (1, .y root1), (2, .i n2), (3, .i i3), (5, .p (AV.lists path5)), (10, .q 10 (0))] [(10, .pure (GSlot.cs s4))] rfl rfl rfl ?_
      refine AW2_skip ?_
      refine AW2_seq ?_
      refine AW2_seq ?_
      refine AW2_mid (⟨[(0, .i mode0), (1, .y root1), (2, .i n2), (3, .i i3), (5, .p (AV.lists path5)), (10, .q 10 (0)), (31, .b (decide ((i3 < (0 : Int)) ∨ (i3 ≥ n2))))], [(10, .pure (GSlot.cs s4))], 78⟩ : TS) ?_ ?_
      · refine AW2_reg [0, 1, 2, 3, 4, 5, 6] rfl ?_
        refine rp rfl rfl (p_move rfl rfl) ?_
        refine rp rfl rfl (p_bin rfl rfl rfl rfl) ?_
        refine rp rfl rfl (p_move rfl rfl) ?_
        refine (Classical.em (i3 < (0 : Int))).elim (fun h5 => ?_) (fun h5 => ?_)
        · refine r_off rfl rfl rfl rfl (decide_eq_true (p := i3 < (0 : Int)) h5) rfl rfl ?_
          refine r_off rfl rfl rfl rfl (decide_eq_true (p := i3 < (0 : Int)) h5) rfl rfl ?_
          refine r_off rfl rfl rfl rfl (decide_eq_true (p := i3 < (0 : Int)) h5) rfl rfl ?_
          refine rp rfl rfl (p_pkt rfl rfl (decide_eq_true (p := i3 < (0 : Int)) h5) (tb (decide_eq_true (p := (i3 < (0 : Int)) ∨ (i3 ≥ n2)) (Or.inl h5)).symm)) ?_
          refine rs [(0, .i mode0), (1, .y root1), (2, .i n2), (3, .i i3), (5, .p (AV.lists path5)), (10, .q 10 (0)), (31, .b (decide ((i3 < (0 : Int)) ∨ (i3 ≥ n2))))] [(10, .pure (GSlot.cs s4))] rfl rfl rfl ?_
          exact RunW_nil rfl
        · refine r_on rfl rfl rfl rfl (decide_eq_false (p := i3 < (0 : Int)) h5) rfl (PureD.opD (p_move rfl rfl)) ?_
          refine r_on rfl rfl rfl rfl (decide_eq_false (p := i3 < (0 : Int)) h5) rfl (PureD.opD (p_move rfl rfl)) ?_
          refine r_on rfl rfl rfl rfl (decide_eq_false (p := i3 < (0 : Int)) h5) rfl (PureD.opD (p_bin rfl rfl rfl rfl)) ?_
          refine rp rfl rfl (p_pkf rfl rfl (decide_eq_false (p := i3 < (0 : Int)) h5) (tb ((or_l (p := i3 < (0 : Int)) (q := i3 ≥ n2) h5)))) ?_
          refine rs [(0, .i mode0), (1, .y root1), (2, .i n2), (3, .i i3), (5, .p (AV.lists path5)), (10, .q 10 (0)), (31, .b (decide ((i3 < (0 : Int)) ∨ (i3 ≥ n2))))] [(10, .pure (GSlot.cs s4))] rfl rfl rfl ?_
          exact RunW_nil rfl
      · refine AW2_if (p := (i3 < (0 : Int)) ∨ (i3 ≥ n2)) rfl (fun h6 => ?_) (fun h6 => ?_)
        · replace H := ite_then h6 H
          refine sg [0] rfl ?_
          refine rp rfl rfl (p_asg rfl rfl) ?_
          refine rz [(12, .i (6 : Int))] [] rfl rfl rfl ?_
          refine AW2_ret ?_
          have hz := some_elim H
          subst hz
          exact ⟨⟨res_tmp (.same _), trivial⟩, trivial⟩
        · replace H := ite_else h6 H
          refine as2 [(0, .i mode0), (1, .y root1), (2, .i n2), (3, .i i3), (5, .p (AV.lists path5)), (10, .q 10 (0))] [(10, .pure (GSlot.cs s4))] rfl rfl rfl ?_
          refine AW2_skip ?_
          refine sg [0, 1, 2, 3, 4, 5, 6, 7] rfl ?_
          refine rp rfl rfl (p_move rfl rfl) ?_
          refine rp rfl rfl (u_lda rfl rfl Tryd.underlying24 rfl in_24 rfl (Nat.succ_pos _) (Sub.refl _) (GSlot.len s4)) ?_
          refine bindK H fun r'3 h7 H => ?_
          refine rp rfl rfl (p_callp rfl rfl rfl Tryd.func14 rfl rfl (g_slots_Leaf_ac h7) ⟨rfl, rfl, trivial⟩) ?_
          refine rp rfl rfl (p_move rfl rfl) ?_
          refine rp rfl rfl (p_ext rfl rfl rfl rfl) ?_
          refine rp rfl rfl (p_ext rfl rfl rfl rfl) ?_
          refine rp rfl rfl (p_asg rfl rfl) ?_
          refine rp rfl rfl (p_asg rfl rfl) ?_
          refine rz [(0, .i mode0), (1, .y root1), (2, .i n2), (3, .i i3), (5, .p (AV.lists path5)), (13, .y r'3.1), (14, .i r'3.2)] [] rfl rfl rfl ?_
          refine AW2_seq ?_
          refine sg [0, 1] rfl ?_
          refine rp rfl rfl (p_move rfl rfl) ?_
          refine rp rfl rfl (p_ine rfl rfl rfl) ?_
          refine rz [(0, .i mode0), (1, .y root1), (2, .i n2), (3, .i i3), (5, .p (AV.lists path5)), (13, .y r'3.1), (14, .i r'3.2), (39, .b (decide (r'3.2 ≠ (0 : Int))))] [] rfl rfl rfl ?_
          refine AW2_if (p := r'3.2 ≠ (0 : Int)) rfl (fun h8 => ?_) (fun h8 => ?_)
          · replace H := ite_then h8 H
            refine sg [0, 1] rfl ?_
            refine rp rfl rfl (p_move rfl rfl) ?_
            refine rp rfl rfl (p_asg rfl rfl) ?_
            refine rz [(12, .i r'3.2)] [] rfl rfl rfl ?_
            refine AW2_ret ?_
            have hz := some_elim H
            subst hz
            exact ⟨⟨res_tmp (.same _), trivial⟩, trivial⟩
          · replace H := ite_else h8 H
            refine as2 [(0, .i mode0), (1, .y root1), (2, .i n2), (3, .i i3), (5, .p (AV.lists path5)), (13, .y r'3.1)] [] rfl rfl rfl ?_
            refine AW2_skip ?_
            refine AW2_seq ?_
            refine sg [0, 1, 2] rfl ?_
            refine rp rfl rfl (p_move rfl rfl) ?_
            refine rp rfl rfl (p_lenl rfl Tryd.underlying33 rfl rfl) ?_
            refine rp rfl rfl (p_move rfl rfl) ?_
            refine rz [(0, .i mode0), (1, .y root1), (2, .i n2), (3, .i i3), (13, .y r'3.1), (41, .p (AV.lists path5)), (42, .i (path5.length : Int)), (43, .i (0 : Int))] [] rfl rfl rfl ?_
            refine AW2_block ?_
            refine as2 [(0, .i mode0), (1, .y root1), (2, .i n2), (3, .i i3), (13, .y r'3.1), (41, .p (AV.lists path5)), (42, .i (path5.length : Int)), (43, .i (0 : Int))] [] rfl rfl rfl ?_
            refine bindK H fun o'9 h16 H => ?_
            refine AW2_loopO (fun a'6 : Int × Int × (List UInt8) × Int => (⟨[(0, .i mode0), (1, .y root1), (2, .i a'6.1), (3, .i a'6.2.1), (13, .y a'6.2.2.1), (41, .p (AV.lists path5)), (42, .i (path5.length : Int)), (43, .i a'6.2.2.2)], [], 78⟩ : TS)) (fun (o : Int ⊕ (Int × (List UInt8))) e s' => match o with | .inl y'7 => e = Go.Exit.ret ∧ ResAll Tryd.prog s' [ResultVar.tmp 12] [.i y'7] ∧ HFits s' [] | .inr (y'8) => e = Go.Exit.exit 0 ∧ s' = (⟨[(1, .y root1), (2, .i y'8.1), (13, .y y'8.2)], [], 78⟩ : TS)) h16 rfl (fun a x hx => ?_) (fun e s' hs => ?_)
            · clear H
              obtain ⟨n2_0, i3_0, d13_0, t43_0⟩ := a
              have H := hx
              clear hx
              unfold g_slots_CheckPath_l0 at H
              refine sg [0] rfl ?_
              refine rp rfl rfl (p_bin rfl rfl rfl rfl) ?_
              refine rz [(0, .i mode0), (1, .y root1), (2, .i n2_0), (3, .i i3_0), (13, .y d13_0), (41, .p (AV.lists path5)), (42, .i (path5.length : Int)), (43, .i t43_0), (44, .b (decide (t43_0 < (path5.length : Int))))] [] rfl rfl rfl ?_
              refine AW2_seq ?_
              refine AW2_if (p := t43_0 < (path5.length : Int)) rfl (fun h9 => ?_) (fun h9 => ?_)
              · replace H := ite_then h9 H
                refine as2 [(0, .i mode0), (1, .y root1), (2, .i n2_0), (3, .i i3_0), (13, .y d13_0), (41, .p (AV.lists path5)), (42, .i (path5.length : Int)), (43, .i t43_0)] [] rfl rfl rfl ?_
                refine AW2_skip ?_
                refine AW2_seq ?_
                refine AW2_block ?_
                refine sg [0, 1, 2] rfl ?_
                refine chkK H fun h10 H => ?_
                refine rp rfl rfl (u_ixl rfl rfl Tryd.underlying33 in_22 rfl rfl (ixe h10) (ixn h10) (lne (ixn h10))) ?_
                refine rp rfl rfl (u_ld rfl rfl Tryd.underlying22 rfl rfl (Sub.map default (ixn h10))) ?_
                refine rp rfl rfl (p_asg rfl rfl) ?_
                refine rz [(0, .i mode0), (1, .y root1), (2, .i n2_0), (3, .i i3_0), (13, .y d13_0), (16, .y (lrd path5 t43_0.toNat)), (41, .p (AV.lists path5)), (42, .i (path5.length : Int)), (43, .i t43_0)] [] rfl rfl rfl ?_
                refine AW2_seq ?_
                refine sg [0, 1] rfl ?_
                refine rp rfl rfl (p_move rfl rfl) ?_
                refine rp rfl rfl (p_ieq rfl rfl rfl) ?_
                refine rz [(0, .i mode0), (1, .y root1), (2, .i n2_0), (3, .i i3_0), (13, .y d13_0), (16, .y (lrd path5 t43_0.toNat)), (41, .p (AV.lists path5)), (42, .i (path5.length : Int)), (43, .i t43_0), (48, .b (decide (n2_0 = (1 : Int))))] [] rfl rfl rfl ?_
                refine AW2_if (p := n2_0 = (1 : Int)) rfl (fun h11 => ?_) (fun h11 => ?_)
                · replace H := ite_then h11 H
                  refine sg [0] rfl ?_
                  refine rp rfl rfl (p_asg rfl rfl) ?_
                  refine rz [(12, .i (10 : Int))] [] rfl rfl rfl ?_
                  refine AW2_ret ?_
                  have hz := some_elim H
                  subst hz
                  exact ⟨rfl, ⟨res_tmp (.same _), trivial⟩, trivial⟩
                · replace H := ite_else h11 H
                  refine as2 [(0, .i mode0), (1, .y root1), (2, .i n2_0), (3, .i i3_0), (13, .y d13_0), (16, .y (lrd path5 t43_0.toNat)), (41, .p (AV.lists path5)), (42, .i (path5.length : Int)), (43, .i t43_0)] [] rfl rfl rfl ?_
                  refine AW2_skip ?_
                  refine sg [0, 1, 2, 3] rfl ?_
                  refine rp rfl rfl (p_move rfl rfl) ?_
                  refine rp rfl rfl (p_move rfl rfl) ?_
                  refine rp rfl rfl (p_asg rfl rfl) ?_
                  refine rp rfl rfl (p_asg rfl rfl) ?_
                  refine rz [(0, .i mode0), (1, .y root1), (2, .i n2_0), (3, .i i3_0), (13, .y d13_0), (16, .y (lrd path5 t43_0.toNat)), (17, .y d13_0), (18, .y (lrd path5 t43_0.toNat)), (41, .p (AV.lists path5)), (42, .i (path5.length : Int)), (43, .i t43_0)] [] rfl rfl rfl ?_
                  refine AW2_seq ?_
                  refine bindK H fun j'4 h12 H => ?_
                  refine AW2_mid (⟨[(0, .i mode0), (1, .y root1), (2, .i n2_0), (3, .i i3_0), (17, .y j'4.1), (18, .y j'4.2), (41, .p (AV.lists path5)), (42, .i (path5.length : Int)), (43, .i t43_0)], [], 78⟩ : TS) ?_ ?_
                  · clear H
                    have H := h12
                    clear h12
                    refine sg [0, 1, 2] rfl ?_
                    refine rp rfl rfl (p_move rfl rfl) ?_
                    refine rp rfl rfl (p_irem rfl rfl rfl (by decide)) ?_
                    refine rp rfl rfl (p_ieq rfl rfl rfl) ?_
                    refine rz [(0, .i mode0), (1, .y root1), (2, .i n2_0), (3, .i i3_0), (13, .y d13_0), (16, .y (lrd path5 t43_0.toNat)), (17, .y d13_0), (18, .y (lrd path5 t43_0.toNat)), (41, .p (AV.lists path5)), (42, .i (path5.length : Int)), (43, .i t43_0), (53, .b (decide (i3_0.tmod (2 : Int) = (1 : Int))))] [] rfl rfl rfl ?_
                    refine AW2_if (p := i3_0.tmod (2 : Int) = (1 : Int)) rfl (fun h13 => ?_) (fun h13 => ?_)
                    · replace H := ite_then h13 H
                      refine AW2_reg [0, 1, 2, 3] rfl ?_
                      refine rp rfl rfl (p_move rfl rfl) ?_
                      refine rp rfl rfl (p_move rfl rfl) ?_
                      refine rp rfl rfl (p_asg rfl rfl) ?_
                      refine rp rfl rfl (p_asg rfl rfl) ?_
                      refine rz [(0, .i mode0), (1, .y root1), (2, .i n2_0), (3, .i i3_0), (17, .y (lrd path5 t43_0.toNat)), (18, .y d13_0), (41, .p (AV.lists path5)), (42, .i (path5.length : Int)), (43, .i t43_0)] [] rfl rfl rfl ?_
                      have hz := some_elim H
                      subst hz
                      exact rfl
                    · replace H := ite_else h13 H
                      refine as2 [(0, .i mode0), (1, .y root1), (2, .i n2_0), (3, .i i3_0), (17, .y d13_0), (18, .y (lrd path5 t43_0.toNat)), (41, .p (AV.lists path5)), (42, .i (path5.length : Int)), (43, .i t43_0)] [] rfl rfl rfl ?_
                      refine AW2_skip ?_
                      have hz := some_elim H
                      subst hz
                      exact rfl
                  · refine sg [0, 1, 2, 3, 4, 5, 6, 7, 8] rfl ?_
                    refine rp rfl rfl (p_move rfl rfl) ?_
                    refine rp rfl rfl (p_move rfl rfl) ?_
                    refine rp rfl rfl (p_move rfl rfl) ?_
                    refine bindK H fun r'5 h14 H => ?_
                    refine rp rfl rfl (p_callp rfl rfl rfl Tryd.func48 rfl rfl (g_slots_node_ac h14) ⟨rfl, rfl, rfl, trivial⟩) ?_
                    refine rp rfl rfl (p_move rfl rfl) ?_
                    refine rp rfl rfl (p_ext rfl rfl rfl rfl) ?_
                    refine rp rfl rfl (p_ext rfl rfl rfl rfl) ?_
                    refine rp rfl rfl (p_asg rfl rfl) ?_
                    refine rp rfl rfl (p_asg rfl rfl) ?_
                    refine rz [(0, .i mode0), (1, .y root1), (2, .i n2_0), (3, .i i3_0), (13, .y r'5.1), (14, .i r'5.2), (41, .p (AV.lists path5)), (42, .i (path5.length : Int)), (43, .i t43_0)] [] rfl rfl rfl ?_
                    refine AW2_seq ?_
                    refine sg [0, 1] rfl ?_
                    refine rp rfl rfl (p_move rfl rfl) ?_
                    refine rp rfl rfl (p_ine rfl rfl rfl) ?_
                    refine rz [(0, .i mode0), (1, .y root1), (2, .i n2_0), (3, .i i3_0), (13, .y r'5.1), (41, .p (AV.lists path5)), (42, .i (path5.length : Int)), (43, .i t43_0), (64, .b (decide (r'5.2 ≠ (0 : Int))))] [] rfl rfl rfl ?_
                    refine AW2_if (p := r'5.2 ≠ (0 : Int)) rfl (fun h15 => ?_) (fun h15 => ?_)
                    · replace H := ite_then h15 H
                      refine sg [0] rfl ?_
                      refine rp rfl rfl (p_asg rfl rfl) ?_
                      refine rz [(12, .i (10 : Int))] [] rfl rfl rfl ?_
                      refine AW2_ret ?_
                      have hz := some_elim H
                      subst hz
                      exact ⟨rfl, ⟨res_tmp (.same _), trivial⟩, trivial⟩
                    · replace H := ite_else h15 H
                      refine as2 [(0, .i mode0), (1, .y root1), (2, .i n2_0), (3, .i i3_0), (13, .y r'5.1), (41, .p (AV.lists path5)), (42, .i (path5.length : Int)), (43, .i t43_0)] [] rfl rfl rfl ?_
                      refine AW2_skip ?_
                      refine AW2_reg [0, 1, 2, 3, 4, 5] rfl ?_
                      refine rp rfl rfl (p_move rfl rfl) ?_
                      refine rp rfl rfl (p_iquo rfl rfl rfl (by decide)) ?_
                      refine rp rfl rfl (p_move rfl rfl) ?_
                      refine rp rfl rfl (p_iquo rfl rfl rfl (by decide)) ?_
                      refine rp rfl rfl (p_asg rfl rfl) ?_
                      refine rp rfl rfl (p_asg rfl rfl) ?_
                      refine rz [(0, .i mode0), (1, .y root1), (2, .i (w64 (n2_0.tdiv (2 : Int)))), (3, .i (w64 (i3_0.tdiv (2 : Int)))), (13, .y r'5.1), (41, .p (AV.lists path5)), (42, .i (path5.length : Int)), (43, .i t43_0)] [] rfl rfl rfl ?_
                      refine AW2_reg [0, 1] rfl ?_
                      refine rp rfl rfl (p_bin rfl rfl rfl rfl) ?_
                      refine rp rfl rfl (p_move rfl rfl) ?_
                      refine rz [(0, .i mode0), (1, .y root1), (2, .i (w64 (n2_0.tdiv (2 : Int)))), (3, .i (w64 (i3_0.tdiv (2 : Int)))), (13, .y r'5.1), (41, .p (AV.lists path5)), (42, .i (path5.length : Int)), (43, .i (w64 (t43_0 + (1 : Int))))] [] rfl rfl rfl ?_
                      have hz := some_elim H
                      subst hz
                      exact ⟨rfl, rfl⟩
              · replace H := ite_else h9 H
                refine as2 [(1, .y root1), (2, .i n2_0), (13, .y d13_0)] [] rfl rfl rfl ?_
                refine AW2_exit ?_
                refine thenQ2_exit ?_
                have hz := some_elim H
                subst hz
                exact ⟨rfl, rfl⟩
            · rcases o'9 with y'10 | y'11
              · obtain ⟨rfl, hs⟩ := hs
                refine ⟨by simp, ?_⟩
                have hz := some_elim H
                subst hz
                exact ⟨hs.1, hs.2⟩
              · obtain ⟨rfl, rfl⟩ := hs
                refine ⟨by simp, ?_⟩
                refine blockQ2_exit ?_
                refine AW2_seq ?_
                refine AW2_seq ?_
                refine bindK H fun g'14 h20 H => ?_
                refine AW2_mid (⟨[(77, .b g'14)], [], 78⟩ : TS) ?_ ?_
                · clear H
                  have H := h20
                  clear h20
                  refine AW2_reg [0, 1, 2, 3, 4, 5, 6, 7] rfl ?_
                  refine rp rfl rfl (p_move rfl rfl) ?_
                  refine rp rfl rfl (p_ine rfl rfl rfl) ?_
                  refine rp rfl rfl (p_move rfl rfl) ?_
                  refine (Classical.em (y'11.1 ≠ (1 : Int))).elim (fun h18 => ?_) (fun h18 => ?_)
                  · replace H := ite_then h18 H
                    refine r_off rfl rfl rfl rfl (decide_eq_true (p := y'11.1 ≠ (1 : Int)) h18) rfl rfl ?_
                    refine r_off rfl rfl rfl rfl (decide_eq_true (p := y'11.1 ≠ (1 : Int)) h18) rfl rfl ?_
                    refine r_off rfl rfl rfl rfl (decide_eq_true (p := y'11.1 ≠ (1 : Int)) h18) rfl rfl ?_
                    refine r_off rfl rfl rfl rfl (decide_eq_true (p := y'11.1 ≠ (1 : Int)) h18) rfl rfl ?_
                    refine rp rfl rfl (p_pkt rfl rfl (decide_eq_true (p := y'11.1 ≠ (1 : Int)) h18) (.same _)) ?_
                    refine rs [(77, .b true)] [] rfl rfl rfl ?_
                    have hz := some_elim H
                    subst hz
                    exact RunW_nil rfl
                  · replace H := ite_else h18 H
                    refine r_on rfl rfl rfl rfl (decide_eq_false (p := y'11.1 ≠ (1 : Int)) h18) rfl (PureD.opD (p_move rfl rfl)) ?_
                    refine r_on rfl rfl rfl rfl (decide_eq_false (p := y'11.1 ≠ (1 : Int)) h18) rfl (PureD.opD (p_move rfl rfl)) ?_
                    refine bindK H fun r'13 h19 H => ?_
                    refine r_on rfl rfl rfl rfl (decide_eq_false (p := y'11.1 ≠ (1 : Int)) h18) rfl (PureD.opD (p_callp rfl rfl rfl Tryd.func49 rfl rfl (g_bytes_Equal_ac h19) ⟨rfl, rfl, trivial⟩)) ?_
                    refine r_on rfl rfl rfl rfl (decide_eq_false (p := y'11.1 ≠ (1 : Int)) h18) rfl (PureD.opD (p_not rfl rfl)) ?_
                    refine rp rfl rfl (p_pkf rfl rfl (decide_eq_false (p := y'11.1 ≠ (1 : Int)) h18) (.same _)) ?_
                    refine rs [(77, .b (!r'13))] [] rfl rfl rfl ?_
                    have hz := some_elim H
                    subst hz
                    exact RunW_nil rfl
                · refine AW2_cond rfl (fun h21 => ?_) (fun h21 => ?_)
                  · replace H := ite_then h21 H
                    refine sg [0] rfl ?_
                    refine rp rfl rfl (p_asg rfl rfl) ?_
                    refine rz [(12, .i (10 : Int))] [] rfl rfl rfl ?_
                    refine AW2_ret ?_
                    have hz := some_elim H
                    subst hz
                    exact ⟨⟨res_tmp (.same _), trivial⟩, trivial⟩
                  · replace H := ite_else (ne_true h21) H
                    refine as2 [] [] rfl rfl rfl ?_
                    refine AW2_skip ?_
                    refine sg [0] rfl ?_
                    refine rp rfl rfl (p_asg rfl rfl) ?_
                    refine rz [(12, .i (0 : Int))] [] rfl rfl rfl ?_
                    refine AW2_ret ?_
                    have hz := some_elim H
                    subst hz
                    exact ⟨⟨res_tmp (.same _), trivial⟩, trivial⟩

/-! chirographref.climbed -/
noncomputable def g_ref_climbed_b (R' : Int → Int → Int → (List UInt8) → (List (List UInt8)) → Option ((List UInt8) × Bool)) (mode0 : Int) (n1 : Int) (i2 : Int) (d3 : List UInt8) (path4 : List (List UInt8)) : Option ((List UInt8) × Bool) :=
  (if n1 = (1 : Int) then some (d3, (decide ((path4.length : Int) = (0 : Int)))) else (if (path4.length : Int) = (0 : Int) then some ([], false) else if 0 ≤ w64 ((path4.length : Int) - (1 : Int)) ∧ w64 ((path4.length : Int) - (1 : Int)) < (path4.length : Int) then if w64 (n1.tdiv (2 : Int)) ≠ 0 then if 0 ≤ w64 ((path4.length : Int) - (1 : Int)) ∧ w64 ((path4.length : Int) - (1 : Int)) ≤ (path4.length : Int) then (R' mode0 (w64 (n1.tdiv (2 : Int))) (i2.tmod (w64 (n1.tdiv (2 : Int)))) d3 (cut path4 (0 : Int) (w64 ((path4.length : Int) - (1 : Int))))).bind fun r'1 => (if (!r'1.2) = true then some ([], false) else letO (([r'1.1, (lrd path4 ((w64 ((path4.length : Int) - (1 : Int))).toNat))] : List (List UInt8))) fun parts14'2 => ((if i2 ≥ w64 (n1.tdiv (2 : Int)) then letO (([(lrd path4 ((w64 ((path4.length : Int) - (1 : Int))).toNat)), r'1.1] : List (List UInt8))) fun parts14'4 => some parts14'4 else some parts14'2)).bind fun j'3 => (g_ref_DigestOf mode0 (2 : Int) j'3).bind fun r'5 => some (r'5.1, (decide (r'5.2 = (0 : Int))))) else none else none else none))
noncomputable def g_ref_climbed : Nat → Int → Int → Int → (List UInt8) → (List (List UInt8)) → Option ((List UInt8) × Bool)
  | 0, _, _, _, _, _ => none
  | fu + 1, mode0, n1, i2, d3, path4 => g_ref_climbed_b (g_ref_climbed fu) mode0 n1 i2 d3 path4
set_option maxHeartbeats 4000000 in
set_option maxRecDepth 100000 in
theorem g_ref_climbed_ac0 {R' : Int → Int → Int → (List UInt8) → (List (List UInt8)) → Option ((List UInt8) × Bool)} (hR : ∀ {mode0 : Int} {n1 : Int} {i2 : Int} {d3 : List UInt8} {path4 : List (List UInt8)} {r : (List UInt8) × Bool}, R' mode0 n1 i2 d3 path4 = some r → ACp Tryd.prog 51 [(AV.int mode0), (AV.int n1), (AV.int i2), (AV.bytes d3), (AV.lists path4)] (.tup [(AV.bytes r.1), (AV.bool r.2)])) {mode0 : Int} {n1 : Int} {i2 : Int} {d3 : List UInt8} {path4 : List (List UInt8)} {r : (List UInt8) × Bool} (H : g_ref_climbed_b R' mode0 n1 i2 d3 path4 = some r) : ACp Tryd.prog 51 [(AV.int mode0), (AV.int n1), (AV.int i2), (AV.bytes d3), (AV.lists path4)] (.tup [(AV.bytes r.1), (AV.bool r.2)]) := by
  refine ACp_of (AC2_of_body (vs := [.y r.1, .b r.2]) Tryd.func51 rfl rfl (Nat.le_of_ble_eq_true rfl) rfl ?_) (fun _ => .same _)
  unfold g_ref_climbed_b at H
  refine as2 [(0, .i mode0), (1, .i n1), (2, .i i2), (3, .y d3), (4, .p (AV.lists path4))] [] rfl rfl rfl ?_
  refine sg [0, 1] rfl ?_
  refine rp rfl rfl (p_asgn rfl) ?_
  refine rp rfl rfl (p_asg rfl rfl) ?_
  refine rz [(0, .i mode0), (1, .i n1), (2, .i i2), (3, .y d3), (4, .p (AV.lists path4))] [] rfl rfl rfl ?_
  refine AW2_seq ?_
  refine sg [0, 1] rfl ?_
  refine rp rfl rfl (p_move rfl rfl) ?_
  refine rp rfl rfl (p_ieq rfl rfl rfl) ?_
  refine rz [(0, .i mode0), (1, .i n1), (2, .i i2), (3, .y d3), (4, .p (AV.lists path4)), (17, .b (decide (n1 = (1 : Int))))] [] rfl rfl rfl ?_
  refine AW2_if (p := n1 = (1 : Int)) rfl (fun h1 => ?_) (fun h1 => ?_)
  · replace H := ite_then h1 H
    refine sg [0, 1, 2, 3, 4, 5] rfl ?_
    refine rp rfl rfl (p_move rfl rfl) ?_
    refine rp rfl rfl (p_move rfl rfl) ?_
    refine rp rfl rfl (p_lenl rfl Tryd.underlying33 rfl rfl) ?_
    refine rp rfl rfl (p_ieq rfl rfl rfl) ?_
    refine rp rfl rfl (p_asg rfl rfl) ?_
    refine rp rfl rfl (p_asg rfl rfl) ?_
    refine rz [(10, .y d3), (11, .b (decide ((path4.length : Int) = (0 : Int))))] [] rfl rfl rfl ?_
    refine AW2_ret ?_
    have hz := some_elim H
    subst hz
    exact ⟨⟨res_tmp (.same _), res_tmp (.same _), trivial⟩, trivial⟩
  · replace H := ite_else h1 H
    refine as2 [(0, .i mode0), (1, .i n1), (2, .i i2), (3, .y d3), (4, .p (AV.lists path4))] [] rfl rfl rfl ?_
    refine AW2_skip ?_
    refine AW2_seq ?_
    refine sg [0, 1, 2] rfl ?_
    refine rp rfl rfl (p_move rfl rfl) ?_
    refine rp rfl rfl (p_lenl rfl Tryd.underlying33 rfl rfl) ?_
    refine rp rfl rfl (p_ieq rfl rfl rfl) ?_
    refine rz [(0, .i mode0), (1, .i n1), (2, .i i2), (3, .y d3), (4, .p (AV.lists path4)), (24, .b (decide ((path4.length : Int) = (0 : Int))))] [] rfl rfl rfl ?_
    refine AW2_if (p := (path4.length : Int) = (0 : Int)) rfl (fun h2 => ?_) (fun h2 => ?_)
    · replace H := ite_then h2 H
      refine sg [0, 1] rfl ?_
      refine rp rfl rfl (p_asgn rfl) ?_
      refine rp rfl rfl (p_asg rfl rfl) ?_
      refine rz [(10, .p .nil), (11, .b false)] [] rfl rfl rfl ?_
      refine AW2_ret ?_
      have hz := some_elim H
      subst hz
      exact ⟨⟨res_tmp TLes.nil0, res_tmp (.same _), trivial⟩, trivial⟩
    · replace H := ite_else h2 H
      refine as2 [(0, .i mode0), (1, .i n1), (2, .i i2), (3, .y d3), (4, .p (AV.lists path4))] [] rfl rfl rfl ?_
      refine AW2_skip ?_
      refine sg [0, 1, 2, 3, 4, 5, 6] rfl ?_
      refine rp rfl rfl (p_move rfl rfl) ?_
      refine rp rfl rfl (p_move rfl rfl) ?_
      refine rp rfl rfl (p_lenl rfl Tryd.underlying33 rfl rfl) ?_
      refine rp rfl rfl (p_bin rfl rfl rfl rfl) ?_
      refine chkK H fun h3 H => ?_
      refine rp rfl rfl (u_ixl rfl rfl Tryd.underlying33 in_22 rfl rfl (ixe h3) (ixn h3) (lne (ixn h3))) ?_
      refine rp rfl rfl (u_ld rfl rfl Tryd.underlying22 rfl rfl (Sub.map default (ixn h3))) ?_
      refine rp rfl rfl (p_asg rfl rfl) ?_
      refine rz [(0, .i mode0), (1, .i n1), (2, .i i2), (3, .y d3), (4, .p (AV.lists path4)), (12, .y (lrd path4 ((w64 ((path4.length : Int) - (1 : Int))).toNat)))] [] rfl rfl rfl ?_
      refine AW2_seq ?_
      refine chkK H fun h4 H => ?_
      refine chkK H fun h5 H => ?_
      refine bindK H fun r'1 h6 H => ?_
      refine AW2_ghoQ ?_
      refine AW2_draw 18 [18] (fun k => ([.i mode0, .i n1, .i (w64 (n1.tdiv (2 : Int))), .i i2, .i n1, .i (w64 (n1.tdiv (2 : Int))), .i (i2.tmod (w64 (n1.tdiv (2 : Int)))), .y d3, .p (AV.lists path4), .p (AV.lists path4), .i (path4.length : Int), .i (w64 ((path4.length : Int) - (1 : Int))), .p (AV.lists (cut path4 (0 : Int) (w64 ((path4.length : Int) - (1 : Int))))), .p (.tup [(AV.bytes r'1.1), (AV.bool r'1.2)]), .p (.tup [(AV.bytes r'1.1), (AV.bool r'1.2)]), .y r'1.1, .b r'1.2, .y r'1.1] : List TV).getD k TV.any) (fun k => ([[(0, none)], [(1, none)], [(33, some 1)], [(2, none)], [(1, none)], [(36, some 4)], [(35, some 3), (37, some 5)], [(3, none)], [(4, none)], [(4, none)], [(41, some 9)], [(42, some 10)], [(40, some 8), (43, some 11)], [(32, some 0), (34, some 2), (38, some 6), (39, some 7), (44, some 12)], [(45, some 13)], [(31, some 14)], [(31, some 14)], [(46, some 15)]] : List (List (Nat × Option Nat))).getD k []) [(0, none), (1, none), (2, none), (3, some 17), (12, none), (47, some 16)] [] (fun k => ([[], [], [1], [], [], [4], [3, 4, 5], [], [], [], [9], [9, 10], [8, 9, 10, 11], [0, 1, 2, 3, 4, 5, 6, 7, 8, 9, 10, 11, 12], [0, 1, 2, 3, 4, 5, 6, 7, 8, 9, 10, 11, 12, 13], [0, 1, 2, 3, 4, 5, 6, 7, 8, 9, 10, 11, 12, 13, 14], [0, 1, 2, 3, 4, 5, 6, 7, 8, 9, 10, 11, 12, 13, 14], [0, 1, 2, 3, 4, 5, 6, 7, 8, 9, 10, 11, 12, 13, 14, 15], [0, 1, 2, 3, 4, 5, 6, 7, 8, 9, 10, 11, 12, 13, 14, 15, 16, 17]] : List (List Nat)).getD k []) mixed (by kernel_rfl) rfl rfl (a_op (g_x rfl (x_p rfl (p_move rfl rfl) rfl)) (a_op (g_x rfl (x_p rfl (p_move rfl rfl) rfl)) (a_op (g_x rfl (x_p rfl (p_iquo rfl rfl rfl (by decide)) rfl)) (a_op (g_x rfl (x_p rfl (p_move rfl rfl) rfl)) (a_op (g_x rfl (x_p rfl (p_move rfl rfl) rfl)) (a_op (g_x rfl (x_p rfl (p_iquo rfl rfl rfl (by decide)) rfl)) (a_op (g_x rfl (x_p rfl (p_irem rfl rfl rfl h4) rfl)) (a_op (g_x rfl (x_p rfl (p_move rfl rfl) rfl)) (a_op (g_x rfl (x_p rfl (p_move rfl rfl) rfl)) (a_op (g_x rfl (x_p rfl (p_move rfl rfl) rfl)) (a_op (g_x rfl (x_p rfl (p_lenl rfl Tryd.underlying33 rfl rfl) rfl)) (a_op (g_x rfl (x_p rfl (p_bin rfl rfl rfl rfl) rfl)) (a_op (g_x rfl (x_p rfl (u_cutl (g := (fun l => l.map AV.bytes)) (a := (0 : Int)) (b := w64 ((path4.length : Int) - (1 : Int))) rfl rfl Tryd.underlying33 in_22 rfl bT_zero (bT_i (Int.le_trans (show 0 ≤ (0 : Int) ∧ (0 : Int) ≤ w64 ((path4.length : Int) - (1 : Int)) ∧ w64 ((path4.length : Int) - (1 : Int)) ≤ (path4.length : Int) from ⟨Int.le_refl _, h5.1, h5.2⟩).1 (show 0 ≤ (0 : Int) ∧ (0 : Int) ≤ w64 ((path4.length : Int) - (1 : Int)) ∧ w64 ((path4.length : Int) - (1 : Int)) ≤ (path4.length : Int) from ⟨Int.le_refl _, h5.1, h5.2⟩).2.1) rfl) (.inl rfl) (show 0 ≤ (0 : Int) ∧ (0 : Int) ≤ w64 ((path4.length : Int) - (1 : Int)) ∧ w64 ((path4.length : Int) - (1 : Int)) ≤ (path4.length : Int) from ⟨Int.le_refl _, h5.1, h5.2⟩) (g_map AV.bytes)) rfl)) (a_op (g_x rfl (x_p rfl (p_callp rfl rfl rfl Tryd.func51 rfl rfl (hR h6) ⟨rfl, rfl, rfl, rfl, rfl, trivial⟩) rfl)) (a_op (g_x rfl (x_p rfl (p_move rfl rfl) rfl)) (a_op (g_x rfl (x_p rfl (p_ext rfl rfl rfl rfl) rfl)) (a_op (g_x rfl (x_p rfl (p_ext rfl rfl rfl rfl) rfl)) (a_op (g_x rfl (x_p rfl (p_asg rfl rfl) rfl)) (a_nil))))))))))))))))))) ?_
      refine t_op rfl rfl (PureD.opD (p_asg rfl rfl)) ?_
      refine t_gho (Gho_st (L := [(0, .i mode0), (1, .i n1), (2, .i i2), (3, .y r'1.1), (12, .y (lrd path4 ((w64 ((path4.length : Int) - (1 : Int))).toNat))), (13, .b r'1.2)]) (H := []) rfl ⟨TLes.same _, TLes.same _, TLes.same _, TLes.same _, TLes.same _, TLes.same _, trivial⟩ trivial) ?_
      refine AW2_seq ?_
      refine sg [0, 1] rfl ?_
      refine rp rfl rfl (p_move rfl rfl) ?_
      refine rp rfl rfl (p_not rfl rfl) ?_
      refine rz [(0, .i mode0), (1, .i n1), (2, .i i2), (3, .y r'1.1), (12, .y (lrd path4 ((w64 ((path4.length : Int) - (1 : Int))).toNat))), (49, .b (!r'1.2))] [] rfl rfl rfl ?_
      refine AW2_cond rfl (fun h7 => ?_) (fun h7 => ?_)
      · replace H := ite_then h7 H
        refine sg [0, 1] rfl ?_
        refine rp rfl rfl (p_asgn rfl) ?_
        refine rp rfl rfl (p_asg rfl rfl) ?_
        refine rz [(10, .p .nil), (11, .b false)] [] rfl rfl rfl ?_
        refine AW2_ret ?_
        have hz := some_elim H
        subst hz
        exact ⟨⟨res_tmp TLes.nil0, res_tmp (.same _), trivial⟩, trivial⟩
      · replace H := ite_else (ne_true h7) H
        refine as2 [(0, .i mode0), (1, .i n1), (2, .i i2), (3, .y r'1.1), (12, .y (lrd path4 ((w64 ((path4.length : Int) - (1 : Int))).toNat)))] [] rfl rfl rfl ?_
        refine AW2_skip ?_
        refine sg [0, 1, 2, 3] rfl ?_
        refine rp rfl rfl (p_move rfl rfl) ?_
        refine rp rfl rfl (p_move rfl rfl) ?_
        refine r_op rfl rfl (MakeD.opD (u_bs 52 rfl Tryd.underlying33 in_22 rfl one_22 (by decide) (by decide) rfl rfl rfl) rfl rfl rfl rfl) ?_
        refine rp rfl rfl (p_asg rfl rfl) ?_
        refine RunW_st [(0, .i mode0), (1, .i n1), (2, .i i2), (3, .y r'1.1), (12, .y (lrd path4 ((w64 ((path4.length : Int) - (1 : Int))).toNat))), (14, .c (.own 52 ([r'1.1, (lrd path4 ((w64 ((path4.length : Int) - (1 : Int))).toNat))] : List (List UInt8)).length 1))] [(52, .pure (([r'1.1, (lrd path4 ((w64 ((path4.length : Int) - (1 : Int))).toNat))] : List (List UInt8)).map AV.bytes))] rfl ⟨TLes.same _, TLes.same _, TLes.same _, TLes.same _, TLes.same _, TLes.own rfl, trivial⟩ ⟨rfl, trivial⟩ ?_
        refine RunW_gho (Gho_ren 52 14 rfl rfl rfl rfl rfl) ?_
        refine rz [(0, .i mode0), (1, .i n1), (2, .i i2), (3, .y r'1.1), (12, .y (lrd path4 ((w64 ((path4.length : Int) - (1 : Int))).toNat))), (14, .c (.own 14 ([r'1.1, (lrd path4 ((w64 ((path4.length : Int) - (1 : Int))).toNat))] : List (List UInt8)).length 1))] [(14, .pure (([r'1.1, (lrd path4 ((w64 ((path4.length : Int) - (1 : Int))).toNat))] : List (List UInt8)).map AV.bytes))] rfl rfl rfl ?_
        refine gen1 (fun parts14'2 => (⟨[(0, .i mode0), (1, .i n1), (2, .i i2), (3, .y r'1.1), (12, .y (lrd path4 ((w64 ((path4.length : Int) - (1 : Int))).toNat))), (14, .c (.own 14 parts14'2.length 1))], [(14, .pure (parts14'2.map AV.bytes))], 69⟩ : TS)) H ?_
        intro parts14'2 H
        refine AW2_seq ?_
        refine bindK H fun j'3 h8 H => ?_
        refine AW2_mid (⟨[(0, .i mode0), (14, .c (.own 14 j'3.length 1))], [(14, .pure (j'3.map AV.bytes))], 69⟩ : TS) ?_ ?_
        · clear H
          have H := h8
          clear h8
          refine sg [0, 1, 2, 3] rfl ?_
          refine rp rfl rfl (p_move rfl rfl) ?_
          refine rp rfl rfl (p_move rfl rfl) ?_
          refine rp rfl rfl (p_iquo rfl rfl rfl (by decide)) ?_
          refine rp rfl rfl (p_bin rfl rfl rfl rfl) ?_
          refine rz [(0, .i mode0), (3, .y r'1.1), (12, .y (lrd path4 ((w64 ((path4.length : Int) - (1 : Int))).toNat))), (14, .c (.own 14 parts14'2.length 1)), (56, .b (decide (i2 ≥ w64 (n1.tdiv (2 : Int)))))] [(14, .pure (parts14'2.map AV.bytes))] rfl rfl rfl ?_
          refine AW2_if (p := i2 ≥ w64 (n1.tdiv (2 : Int))) rfl (fun h9 => ?_) (fun h9 => ?_)
          · replace H := ite_then h9 H
            refine AW2_reg [0, 1, 2, 3] rfl ?_
            refine rp rfl rfl (p_move rfl rfl) ?_
            refine rp rfl rfl (p_move rfl rfl) ?_
            refine r_op rfl rfl (MakeD.opD (u_bs 59 rfl Tryd.underlying33 in_22 rfl one_22 (by decide) (by decide) rfl rfl rfl) rfl rfl rfl rfl) ?_
            refine rp rfl rfl (p_asg rfl rfl) ?_
            refine RunW_st [(0, .i mode0), (14, .c (.own 59 ([(lrd path4 ((w64 ((path4.length : Int) - (1 : Int))).toNat)), r'1.1] : List (List UInt8)).length 1))] [(59, .pure (([(lrd path4 ((w64 ((path4.length : Int) - (1 : Int))).toNat)), r'1.1] : List (List UInt8)).map AV.bytes))] rfl ⟨TLes.same _, TLes.own rfl, trivial⟩ ⟨rfl, trivial⟩ ?_
            refine RunW_gho (Gho_ren 59 14 rfl rfl rfl rfl rfl) ?_
            refine rz [(0, .i mode0), (14, .c (.own 14 ([(lrd path4 ((w64 ((path4.length : Int) - (1 : Int))).toNat)), r'1.1] : List (List UInt8)).length 1))] [(14, .pure (([(lrd path4 ((w64 ((path4.length : Int) - (1 : Int))).toNat)), r'1.1] : List (List UInt8)).map AV.bytes))] rfl rfl rfl ?_
            refine gen1 (fun parts14'4 => (⟨[(0, .i mode0), (14, .c (.own 14 parts14'4.length 1))], [(14, .pure (parts14'4.map AV.bytes))], 69⟩ : TS)) H ?_
            intro parts14'4 H
            have hz := some_elim H
            subst hz
            exact rfl
          · replace H := ite_else h9 H
            refine as2 [(0, .i mode0), (14, .c (.own 14 parts14'2.length 1))] [(14, .pure (parts14'2.map AV.bytes))] rfl rfl rfl ?_
            refine AW2_skip ?_
            have hz := some_elim H
            subst hz
            exact rfl
        · refine sg [0, 1, 2, 3, 4, 5, 6, 7] rfl ?_
          refine rp rfl rfl (p_move rfl rfl) ?_
          refine rp rfl rfl (p_move rfl rfl) ?_
          refine RunW_gho (Gho_pubs [14, 62] ⟨rfl, rfl, trivial⟩ rfl (ml AV.bytes j'3) (by decide)) ?_
          refine bindK H fun r'5 h10 H => ?_
          refine rp rfl rfl (p_callp rfl rfl rfl Tryd.func42 rfl rfl (g_ref_DigestOf_ac h10) ⟨rfl, rfl, rfl, trivial⟩) ?_
          refine rp rfl rfl (p_move rfl rfl) ?_
          refine rp rfl rfl (p_ext rfl rfl rfl rfl) ?_
          refine rp rfl rfl (p_ext rfl rfl rfl rfl) ?_
          refine rp rfl rfl (p_asg rfl rfl) ?_
          refine rp rfl rfl (p_asg rfl rfl) ?_
          refine rz [(3, .y r'5.1), (15, .i r'5.2)] [] rfl rfl rfl ?_
          refine sg [0, 1, 2, 3, 4] rfl ?_
          refine rp rfl rfl (p_move rfl rfl) ?_
          refine rp rfl rfl (p_move rfl rfl) ?_
          refine rp rfl rfl (p_ieq rfl rfl rfl) ?_
          refine rp rfl rfl (p_asg rfl rfl) ?_
          refine rp rfl rfl (p_asg rfl rfl) ?_
          refine rz [(10, .y r'5.1), (11, .b (decide (r'5.2 = (0 : Int))))] [] rfl rfl rfl ?_
          refine AW2_ret ?_
          have hz := some_elim H
          subst hz
          exact ⟨⟨res_tmp (.same _), res_tmp (.same _), trivial⟩, trivial⟩
theorem g_ref_climbed_acN : ∀ (fu : Nat) {mode0 : Int} {n1 : Int} {i2 : Int} {d3 : List UInt8} {path4 : List (List UInt8)} {r : (List UInt8) × Bool}, g_ref_climbed fu mode0 n1 i2 d3 path4 = some r → ACp Tryd.prog 51 [(AV.int mode0), (AV.int n1), (AV.int i2), (AV.bytes d3), (AV.lists path4)] (.tup [(AV.bytes r.1), (AV.bool r.2)])
  | 0, _, _, _, _, _, _, H => (by cases H)
  | fu + 1, _, _, _, _, _, _, H => g_ref_climbed_ac0 (g_ref_climbed_acN fu) H
theorem g_ref_climbed_ac {mode0 : Int} {n1 : Int} {i2 : Int} {d3 : List UInt8} {path4 : List (List UInt8)} {r : (List UInt8) × Bool} (H : g_ref_climbed 100000 mode0 n1 i2 d3 path4 = some r) : ACp Tryd.prog 51 [(AV.int mode0), (AV.int n1), (AV.int i2), (AV.bytes d3), (AV.lists path4)] (.tup [(AV.bytes r.1), (AV.bool r.2)]) := g_ref_climbed_acN 100000 H

/-! chirographref.PathFault -/
noncomputable def g_ref_PathFault (mode0 : Int) (root1 : List UInt8) (n2 : Int) (i3 : Int) (s4 : GSlot) (path5 : List (List UInt8)) : Option (Int) :=
  (g_ref_badMode mode0).bind fun r'1 => (if r'1 = true then some (2 : Int) else (g_ref_whole n2).bind fun r'2 => (if (!r'2) = true then some (1 : Int) else (if (i3 < (0 : Int)) ∨ (i3 ≥ n2) then some (6 : Int) else (g_ref_LeafOf mode0 s4).bind fun r'3 => (if r'3.2 ≠ (0 : Int) then some r'3.2 else (g_ref_climbed 100000 mode0 n2 i3 r'3.1 path5).bind fun r'4 => (if ((!r'4.2) = true) ∨ (r'4.1 ≠ root1) then some (10 : Int) else some (0 : Int))))))
set_option maxHeartbeats 4000000 in
set_option maxRecDepth 100000 in
theorem g_ref_PathFault_ac {mode0 : Int} {root1 : List UInt8} {n2 : Int} {i3 : Int} {s4 : GSlot} {path5 : List (List UInt8)} {r : Int} (H : g_ref_PathFault mode0 root1 n2 i3 s4 path5 = some r) : ACp Tryd.prog 23 [(AV.int mode0), (AV.bytes root1), (AV.int n2), (AV.int i3), (.agg (GSlot.cs s4)), (AV.lists path5)] (AV.int r) := by
  refine ACp_of (AC2_of_body (vs := [.i r]) Tryd.func23 rfl rfl (Nat.le_of_ble_eq_true rfl) rfl ?_) (fun _ => .same _)
  unfold g_ref_PathFault at H
  refine as2 [(0, .i mode0), (1, .y root1), (2, .i n2), (3, .i i3), (4, .g (GSlot.cs s4)), (5, .p (AV.lists path5))] [] rfl rfl rfl ?_
  refine sg [0, 1] rfl ?_
  refine r_op rfl rfl (MakeD.opD (n_box 10 rfl rfl) rfl rfl rfl rfl) ?_
  refine rp rfl rfl (p_asg rfl rfl) ?_
  refine rz [(0, .i mode0), (1, .y root1), (2, .i n2), (3, .i i3), (5, .p (AV.lists path5)), (10, .q 10 (0))] [(10, .pure (GSlot.cs s4))] rfl rfl rfl ?_
  refine AW2_seq ?_
  refine AW2_block ?_
  refine sg [0, 1, 2] rfl ?_
  refine rp rfl rfl (p_move rfl rfl) ?_
  refine bindK H fun r'1 h1 H => ?_
  refine rp rfl rfl (p_callp rfl rfl rfl Tryd.func41 rfl rfl (g_ref_badMode_ac h1) ⟨rfl, trivial⟩) ?_
  refine rp rfl rfl (p_asg rfl rfl) ?_
  refine rz [(0, .i mode0), (1, .y root1), (2, .i n2), (3, .i i3), (5, .p (AV.lists path5)), (10, .q 10 (0)), (16, .b r'1)] [(10, .pure (GSlot.cs s4))] rfl rfl rfl ?_
  refine AW2_cond rfl (fun h2 => ?_) (fun h2 => ?_)
  · replace H := ite_then h2 H
    refine sg [0] rfl ?_
    refine rp rfl rfl (p_asg rfl rfl) ?_
    refine rz [(12, .i (2 : Int))] [] rfl rfl rfl ?_
    refine AW2_ret ?_
    have hz := some_elim H
    subst hz
    exact ⟨⟨res_tmp (.same _), trivial⟩, trivial⟩
  · replace H := ite_else (ne_true h2) H
    refine sg [0, 1, 2, 3] rfl ?_
    refine rp rfl rfl (p_move rfl rfl) ?_
    refine bindK H fun r'2 h3 H => ?_
    refine rp rfl rfl (p_callp rfl rfl rfl Tryd.func50 rfl rfl (g_ref_whole_ac h3) ⟨rfl, trivial⟩) ?_
    refine rp rfl rfl (p_not rfl rfl) ?_
    refine rp rfl rfl (p_asg rfl rfl) ?_
    refine rz [(0, .i mode0), (1, .y root1), (2, .i n2), (3, .i i3), (5, .p (AV.lists path5)), (10, .q 10 (0)), (19, .b (!r'2))] [(10, .pure (GSlot.cs s4))] rfl rfl rfl ?_
    refine AW2_cond rfl (fun h4 => ?_) (fun h4 => ?_)
    · replace H := ite_then h4 H
      refine sg [0] rfl ?_
      refine rp rfl rfl (p_asg rfl rfl) ?_
      refine rz [(12, .i (1 : Int))] [] rfl rfl rfl ?_
      refine AW2_ret ?_
      have hz := some_elim H
      subst hz
      exact ⟨⟨res_tmp (.same _), trivial⟩, trivial⟩
    · replace H := ite_else (ne_true h4) H
      refine AW2_seq ?_
      refine AW2_mid (⟨[(0, .i mode0), (1, .y root1), (2, .i n2), (3, .i i3), (5, .p (AV.lists path5)), (10, .q 10 (0)), (23, .b (decide ((i3 < (0 : Int)) ∨ (i3 ≥ n2))))], [(10, .pure (GSlot.cs s4))], 58⟩ : TS) ?_ ?_
      · refine AW2_reg [0, 1, 2, 3, 4, 5, 6, 7] rfl ?_
        refine rp rfl rfl (p_move rfl rfl) ?_
        refine rp rfl rfl (p_bin rfl rfl rfl rfl) ?_
        refine rp rfl rfl (p_move rfl rfl) ?_
        refine (Classical.em (i3 < (0 : Int))).elim (fun h5 => ?_) (fun h5 => ?_)
        · refine r_off rfl rfl rfl rfl (decide_eq_true (p := i3 < (0 : Int)) h5) rfl rfl ?_
          refine r_off rfl rfl rfl rfl (decide_eq_true (p := i3 < (0 : Int)) h5) rfl rfl ?_
          refine r_off rfl rfl rfl rfl (decide_eq_true (p := i3 < (0 : Int)) h5) rfl rfl ?_
          refine rp rfl rfl (p_pkt rfl rfl (decide_eq_true (p := i3 < (0 : Int)) h5) (tb (decide_eq_true (p := (i3 < (0 : Int)) ∨ (i3 ≥ n2)) (Or.inl h5)).symm)) ?_
          refine rp rfl rfl (p_asg rfl rfl) ?_
          refine rs [(0, .i mode0), (1, .y root1), (2, .i n2), (3, .i i3), (5, .p (AV.lists path5)), (10, .q 10 (0)), (23, .b (decide ((i3 < (0 : Int)) ∨ (i3 ≥ n2))))] [(10, .pure (GSlot.cs s4))] rfl rfl rfl ?_
          exact RunW_nil rfl
        · refine r_on rfl rfl rfl rfl (decide_eq_false (p := i3 < (0 : Int)) h5) rfl (PureD.opD (p_move rfl rfl)) ?_
          refine r_on rfl rfl rfl rfl (decide_eq_false (p := i3 < (0 : Int)) h5) rfl (PureD.opD (p_move rfl rfl)) ?_
          refine r_on rfl rfl rfl rfl (decide_eq_false (p := i3 < (0 : Int)) h5) rfl (PureD.opD (p_bin rfl rfl rfl rfl)) ?_
          refine rp rfl rfl (p_pkf rfl rfl (decide_eq_false (p := i3 < (0 : Int)) h5) (tb ((or_l (p := i3 < (0 : Int)) (q := i3 ≥ n2) h5)))) ?_
          refine rp rfl rfl (p_asg rfl rfl) ?_
          refine rs [(0, .i mode0), (1, .y root1), (2, .i n2), (3, .i i3), (5, .p (AV.lists path5)), (10, .q 10 (0)), (23, .b (decide ((i3 < (0 : Int)) ∨ (i3 ≥ n2))))] [(10, .pure (GSlot.cs s4))] rfl rfl rfl ?_
          exact RunW_nil rfl
      · refine AW2_if (p := (i3 < (0 : Int)) ∨ (i3 ≥ n2)) rfl (fun h6 => ?_) (fun h6 => ?_)
        · replace H := ite_then h6 H
          refine sg [0] rfl ?_
          refine rp rfl rfl (p_asg rfl rfl) ?_
          refine rz [(12, .i (6 : Int))] [] rfl rfl rfl ?_
          refine AW2_ret ?_
          have hz := some_elim H
          subst hz
          exact ⟨⟨res_tmp (.same _), trivial⟩, trivial⟩
        · replace H := ite_else h6 H
          refine as2 [(0, .i mode0), (1, .y root1), (2, .i n2), (3, .i i3), (5, .p (AV.lists path5)), (10, .q 10 (0))] [(10, .pure (GSlot.cs s4))] rfl rfl rfl ?_
          refine AW2_skip ?_
          refine sg [0, 1, 2, 3, 4, 5, 6, 7] rfl ?_
          refine rp rfl rfl (p_move rfl rfl) ?_
          refine rp rfl rfl (u_lda rfl rfl Tryd.underlying24 rfl in_24 rfl (Nat.succ_pos _) (Sub.refl _) (GSlot.len s4)) ?_
          refine bindK H fun r'3 h7 H => ?_
          refine rp rfl rfl (p_callp rfl rfl rfl Tryd.func15 rfl rfl (g_ref_LeafOf_ac h7) ⟨rfl, rfl, trivial⟩) ?_
          refine rp rfl rfl (p_move rfl rfl) ?_
          refine rp rfl rfl (p_ext rfl rfl rfl rfl) ?_
          refine rp rfl rfl (p_ext rfl rfl rfl rfl) ?_
          refine rp rfl rfl (p_asg rfl rfl) ?_
          refine rp rfl rfl (p_asg rfl rfl) ?_
          refine rz [(0, .i mode0), (1, .y root1), (2, .i n2), (3, .i i3), (5, .p (AV.lists path5)), (13, .y r'3.1), (14, .i r'3.2)] [] rfl rfl rfl ?_
          refine AW2_seq ?_
          refine sg [0, 1] rfl ?_
          refine rp rfl rfl (p_move rfl rfl) ?_
          refine rp rfl rfl (p_ine rfl rfl rfl) ?_
          refine rz [(0, .i mode0), (1, .y root1), (2, .i n2), (3, .i i3), (5, .p (AV.lists path5)), (13, .y r'3.1), (14, .i r'3.2), (38, .b (decide (r'3.2 ≠ (0 : Int))))] [] rfl rfl rfl ?_
          refine AW2_if (p := r'3.2 ≠ (0 : Int)) rfl (fun h8 => ?_) (fun h8 => ?_)
          · replace H := ite_then h8 H
            refine sg [0, 1] rfl ?_
            refine rp rfl rfl (p_move rfl rfl) ?_
            refine rp rfl rfl (p_asg rfl rfl) ?_
            refine rz [(12, .i r'3.2)] [] rfl rfl rfl ?_
            refine AW2_ret ?_
            have hz := some_elim H
            subst hz
            exact ⟨⟨res_tmp (.same _), trivial⟩, trivial⟩
          · replace H := ite_else h8 H
            refine as2 [(0, .i mode0), (1, .y root1), (2, .i n2), (3, .i i3), (5, .p (AV.lists path5)), (13, .y r'3.1)] [] rfl rfl rfl ?_
            refine AW2_skip ?_
            refine sg [0, 1, 2, 3, 4, 5, 6, 7, 8, 9, 10] rfl ?_
            refine rp rfl rfl (p_move rfl rfl) ?_
            refine rp rfl rfl (p_move rfl rfl) ?_
            refine rp rfl rfl (p_move rfl rfl) ?_
            refine rp rfl rfl (p_move rfl rfl) ?_
            refine rp rfl rfl (p_move rfl rfl) ?_
            refine bindK H fun r'4 h9 H => ?_
            refine rp rfl rfl (p_callp rfl rfl rfl Tryd.func51 rfl rfl (g_ref_climbed_ac h9) ⟨rfl, rfl, rfl, rfl, rfl, trivial⟩) ?_
            refine rp rfl rfl (p_move rfl rfl) ?_
            refine rp rfl rfl (p_ext rfl rfl rfl rfl) ?_
            refine rp rfl rfl (p_ext rfl rfl rfl rfl) ?_
            refine rp rfl rfl (p_asg rfl rfl) ?_
            refine rp rfl rfl (p_asg rfl rfl) ?_
            refine rz [(1, .y root1), (13, .y r'4.1), (15, .b r'4.2)] [] rfl rfl rfl ?_
            refine AW2_seq ?_
            refine AW2_seq ?_
            refine AW2_mid (⟨[(57, .b (decide (((!r'4.2) = true) ∨ (r'4.1 ≠ root1))))], [], 58⟩ : TS) ?_ ?_
            · refine AW2_reg [0, 1, 2, 3, 4, 5, 6, 7, 8] rfl ?_
              refine rp rfl rfl (p_move rfl rfl) ?_
              refine rp rfl rfl (p_not rfl rfl) ?_
              refine rp rfl rfl (p_move rfl rfl) ?_
              refine (Classical.em ((!r'4.2) = true)).elim (fun h10 => ?_) (fun h10 => ?_)
              · refine r_off rfl rfl rfl rfl h10 rfl rfl ?_
                refine r_off rfl rfl rfl rfl h10 rfl rfl ?_
                refine r_off rfl rfl rfl rfl h10 rfl rfl ?_
                refine r_off rfl rfl rfl rfl h10 rfl rfl ?_
                refine r_off rfl rfl rfl rfl h10 rfl rfl ?_
                refine rp rfl rfl (p_pkt rfl rfl h10 (tb (decide_eq_true (p := ((!r'4.2) = true) ∨ (r'4.1 ≠ root1)) (Or.inl h10)).symm)) ?_
                refine rs [(57, .b (decide (((!r'4.2) = true) ∨ (r'4.1 ≠ root1))))] [] rfl rfl rfl ?_
                exact RunW_nil rfl
              · refine r_on rfl rfl rfl rfl (bfalse h10) rfl (PureD.opD (p_move rfl rfl)) ?_
                refine r_on rfl rfl rfl rfl (bfalse h10) rfl (PureD.opD (p_cb rfl rfl Tryd.underlying22 Tryd.underlying5 Tryd.underlying9 rfl)) ?_
                refine r_on rfl rfl rfl rfl (bfalse h10) rfl (PureD.opD (p_move rfl rfl)) ?_
                refine r_on rfl rfl rfl rfl (bfalse h10) rfl (PureD.opD (p_cb rfl rfl Tryd.underlying22 Tryd.underlying5 Tryd.underlying9 rfl)) ?_
                refine r_on rfl rfl rfl rfl (bfalse h10) rfl (PureD.opD (p_sne rfl rfl rfl)) ?_
                refine rp rfl rfl (p_pkf rfl rfl (bfalse h10) (tb ((or_l (p := (!r'4.2) = true) (q := r'4.1 ≠ root1) h10)))) ?_
                refine rs [(57, .b (decide (((!r'4.2) = true) ∨ (r'4.1 ≠ root1))))] [] rfl rfl rfl ?_
                exact RunW_nil rfl
            · refine AW2_if (p := ((!r'4.2) = true) ∨ (r'4.1 ≠ root1)) rfl (fun h11 => ?_) (fun h11 => ?_)
              · replace H := ite_then h11 H
                refine sg [0] rfl ?_
                refine rp rfl rfl (p_asg rfl rfl) ?_
                refine rz [(12, .i (10 : Int))] [] rfl rfl rfl ?_
                refine AW2_ret ?_
                have hz := some_elim H
                subst hz
                exact ⟨⟨res_tmp (.same _), trivial⟩, trivial⟩
              · replace H := ite_else h11 H
                refine as2 [] [] rfl rfl rfl ?_
                refine AW2_skip ?_
                refine sg [0] rfl ?_
                refine rp rfl rfl (p_asg rfl rfl) ?_
                refine rz [(12, .i (0 : Int))] [] rfl rfl rfl ?_
                refine AW2_ret ?_
                have hz := some_elim H
                subst hz
                exact ⟨⟨res_tmp (.same _), trivial⟩, trivial⟩

/-! chirographlaw.SlotsPathChecks -/
noncomputable def g_law_SlotsPathChecks (mode0 : Int) (root1 : List UInt8) (n2 : Int) (i3 : Int) (s4 : GSlot) (path5 : List (List UInt8)) : Option (Bool) :=
  (g_slots_CheckPath mode0 root1 n2 i3 s4 path5).bind fun r'1 => (g_ref_PathFault mode0 root1 n2 i3 s4 path5).bind fun r'2 => some (decide (r'1 = r'2))
set_option maxHeartbeats 4000000 in
set_option maxRecDepth 100000 in
theorem g_law_SlotsPathChecks_ac {mode0 : Int} {root1 : List UInt8} {n2 : Int} {i3 : Int} {s4 : GSlot} {path5 : List (List UInt8)} {r : Bool} (H : g_law_SlotsPathChecks mode0 root1 n2 i3 s4 path5 = some r) : ACp Tryd.prog 6 [(AV.int mode0), (AV.bytes root1), (AV.int n2), (AV.int i3), (.agg (GSlot.cs s4)), (AV.lists path5)] (AV.bool r) := by
  refine ACp_of (AC2_of_body (vs := [.b r]) Tryd.func6 rfl rfl (Nat.le_of_ble_eq_true rfl) rfl ?_) (fun _ => .same _)
  unfold g_law_SlotsPathChecks at H
  refine as2 [(0, .i mode0), (1, .y root1), (2, .i n2), (3, .i i3), (4, .g (GSlot.cs s4)), (5, .p (AV.lists path5))] [] rfl rfl rfl ?_
  refine sg [0, 1] rfl ?_
  refine r_op rfl rfl (MakeD.opD (n_box 10 rfl rfl) rfl rfl rfl rfl) ?_
  refine rp rfl rfl (p_asg rfl rfl) ?_
  refine rz [(0, .i mode0), (1, .y root1), (2, .i n2), (3, .i i3), (5, .p (AV.lists path5)), (10, .q 10 (0))] [(10, .pure (GSlot.cs s4))] rfl rfl rfl ?_
  refine sg [0, 1, 2, 3, 4, 5, 6, 7] rfl ?_
  refine rp rfl rfl (p_move rfl rfl) ?_
  refine rp rfl rfl (p_move rfl rfl) ?_
  refine rp rfl rfl (p_move rfl rfl) ?_
  refine rp rfl rfl (p_move rfl rfl) ?_
  refine rp rfl rfl (u_lda rfl rfl Tryd.underlying24 rfl in_24 rfl (Nat.succ_pos _) (Sub.refl _) (GSlot.len s4)) ?_
  refine rp rfl rfl (p_move rfl rfl) ?_
  refine bindK H fun r'1 h1 H => ?_
  refine rp rfl rfl (p_callp rfl rfl rfl Tryd.func22 rfl rfl (g_slots_CheckPath_ac h1) ⟨rfl, rfl, rfl, rfl, rfl, rfl, trivial⟩) ?_
  refine rp rfl rfl (p_asg rfl rfl) ?_
  refine rz [(0, .i mode0), (1, .y root1), (2, .i n2), (3, .i i3), (5, .p (AV.lists path5)), (10, .q 10 (0)), (13, .i r'1)] [(10, .pure (GSlot.cs s4))] rfl rfl rfl ?_
  refine sg [0, 1, 2, 3, 4, 5, 6, 7] rfl ?_
  refine rp rfl rfl (p_move rfl rfl) ?_
  refine rp rfl rfl (p_move rfl rfl) ?_
  refine rp rfl rfl (p_move rfl rfl) ?_
  refine rp rfl rfl (p_move rfl rfl) ?_
  refine rp rfl rfl (u_lda rfl rfl Tryd.underlying24 rfl in_24 rfl (Nat.succ_pos _) (Sub.refl _) (GSlot.len s4)) ?_
  refine rp rfl rfl (p_move rfl rfl) ?_
  refine bindK H fun r'2 h2 H => ?_
  refine rp rfl rfl (p_callp rfl rfl rfl Tryd.func23 rfl rfl (g_ref_PathFault_ac h2) ⟨rfl, rfl, rfl, rfl, rfl, rfl, trivial⟩) ?_
  refine rp rfl rfl (p_asg rfl rfl) ?_
  refine rz [(13, .i r'1), (14, .i r'2)] [] rfl rfl rfl ?_
  refine sg [0, 1, 2, 3] rfl ?_
  refine rp rfl rfl (p_move rfl rfl) ?_
  refine rp rfl rfl (p_move rfl rfl) ?_
  refine rp rfl rfl (p_ieq rfl rfl rfl) ?_
  refine rp rfl rfl (p_asg rfl rfl) ?_
  refine rz [(12, .b (decide (r'1 = r'2)))] [] rfl rfl rfl ?_
  refine AW2_ret ?_
  have hz := some_elim H
  subst hz
  exact ⟨⟨res_tmp (.same _), trivial⟩, trivial⟩
end Go.Proofs.YtkaeboabpahemaaDoor.VM
