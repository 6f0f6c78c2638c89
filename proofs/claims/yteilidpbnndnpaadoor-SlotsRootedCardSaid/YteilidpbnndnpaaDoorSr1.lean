/- Functions of the program, as they answer, and that their code comes to these answers. -/
import Derived.Test.YteilidpbnndnpaaDoorSr0
namespace Go.Proofs.YteilidpbnndnpaaDoor.VM
open Go Go.RowKit



/-! slots.Rooted -/
noncomputable def g_slots_Rooted (mode0 : Int) (open1 : List Bool) (c2 : GCover) : Option ((List UInt8) × Int) :=
  (g_slots_modes mode0).bind fun r'1 => (if (!r'1) = true then some (([] : List UInt8), (2 : Int)) else (g_slots_power (open1.length : Int)).bind fun r'2 => (if (!r'2) = true then some (([] : List UInt8), (1 : Int)) else (g_slots_build_i0 100000 mode0 open1 c2).bind fun r'3 => (if (((!r'3.2.1) = true) ∨ ((r'3.2.2.Open.length : Int) > (0 : Int))) ∨ ((r'3.2.2.Rest.length : Int) > (0 : Int)) then some (([] : List UInt8), (10 : Int)) else if room (([] : List UInt8).length + r'3.1.length) 1 then some (([] : List UInt8) ++ r'3.1, (0 : Int)) else none)))
set_option maxHeartbeats 4000000 in
set_option maxRecDepth 100000 in
theorem g_slots_Rooted_ac2 {mode0 : Int} {open1 : List Bool} {c2 : GCover} {r : (List UInt8) × Int} (H : g_slots_Rooted mode0 open1 c2 = some r) : AC2 Tryd.prog 5 (pureT [(AV.int mode0), ((fun q : List Bool => AV.lst (q.map AV.bool) q.length) open1), (.agg (GCover.cs c2))]) [] (retV [.c (.own 6 r.1.length 1), .i r.2]) [(6, .pure (bcells r.1))] := by
 refine AC2_of_body (vs := [.c (.own 6 r.1.length 1), .i r.2]) Tryd.func5 Y Y (Nat.le_of_ble_eq_true Y) Y ?_
 unfold g_slots_Rooted at H
 refine as2 [(0, .i mode0), (1, .p ((fun q : List Bool => AV.lst (q.map AV.bool) q.length) open1)), (2, .g (GCover.cs c2))] [] Y Y Y ?_
 refine sg [0, 1, 2] Y ?_
 refine r_op Y Y (MakeD.opD (n_box 5 Y Y) Y Y Y Y) ?_
 refine rp Y Y (p_asgn Y) ?_
 refine rp Y Y (p_asg Y Y) ?_
 refine rz [(0, .i mode0), (1, .p ((fun q : List Bool => AV.lst (q.map AV.bool) q.length) open1)), (5, .q 5 (0))] [(5, .pure (GCover.cs c2))] Y Y Y ?_
 refine AW2_seq ?_
 refine sg [0, 1, 2] Y ?_
 refine rp Y Y (p_move Y Y) ?_
 refine bindK H fun r'1 h1 H => ?_
 refine rp Y Y (p_callp Y Y Y Tryd.func11 Y Y (g_slots_modes_ac h1) ⟨Y, trivial⟩) ?_
 refine rp Y Y (p_not Y Y) ?_
 refine rz [(0, .i mode0), (1, .p ((fun q : List Bool => AV.lst (q.map AV.bool) q.length) open1)), (5, .q 5 (0)), (12, .b (!r'1))] [(5, .pure (GCover.cs c2))] Y Y Y ?_
 refine AW2_cond Y (fun h2 => ?_) (fun h2 => ?_)
 ·replace H := ite_then h2 H
  refine sg [0, 1] Y ?_
  refine rp Y Y (p_asgn Y) ?_
  refine rp Y Y (p_asg Y Y) ?_
  refine rz [(6, .p .nil), (7, .i (2 : Int))] [] Y Y Y ?_
  refine as2 [(6, .p .nil), (7, .i (2 : Int))] [] Y Y Y ?_
  refine AW2_gho (Gho_own (d := 6) (b := 6) (z := 1) Y Y Y Y) ?_
  refine AW2_st [(6, .c (.own 6 ([] : List UInt8).length 1)), (7, .i (2 : Int))] [(6, .pure (bcells ([] : List UInt8)))] Y ⟨TLes.own Y, TLes.same _, trivial⟩ ⟨Y, trivial⟩ ?_
  refine AW2_ret ?_
  have hz := some_elim H
  subst hz
  exact ⟨⟨res_tmp (.same _), res_tmp (.same _), trivial⟩, ⟨Y, trivial⟩⟩
 ·replace H := ite_else (ne_true h2) H
  refine as2 [(0, .i mode0), (1, .p ((fun q : List Bool => AV.lst (q.map AV.bool) q.length) open1)), (5, .q 5 (0))] [(5, .pure (GCover.cs c2))] Y Y Y ?_
  refine AW2_skip ?_
  refine AW2_seq ?_
  refine sg [0, 1, 2, 3] Y ?_
  refine rp Y Y (p_move Y Y) ?_
  refine rp Y Y (p_lenl Y Tryd.underlying22 Y Y) ?_
  refine bindK H fun r'2 h3 H => ?_
  refine rp Y Y (p_callp Y Y Y Tryd.func12 Y Y (g_slots_power_ac h3) ⟨Y, trivial⟩) ?_
  refine rp Y Y (p_not Y Y) ?_
  refine rz [(0, .i mode0), (1, .p ((fun q : List Bool => AV.lst (q.map AV.bool) q.length) open1)), (5, .q 5 (0)), (16, .b (!r'2))] [(5, .pure (GCover.cs c2))] Y Y Y ?_
  refine AW2_cond Y (fun h4 => ?_) (fun h4 => ?_)
  ·replace H := ite_then h4 H
   refine sg [0, 1] Y ?_
   refine rp Y Y (p_asgn Y) ?_
   refine rp Y Y (p_asg Y Y) ?_
   refine rz [(6, .p .nil), (7, .i (1 : Int))] [] Y Y Y ?_
   refine as2 [(6, .p .nil), (7, .i (1 : Int))] [] Y Y Y ?_
   refine AW2_gho (Gho_own (d := 6) (b := 6) (z := 1) Y Y Y Y) ?_
   refine AW2_st [(6, .c (.own 6 ([] : List UInt8).length 1)), (7, .i (1 : Int))] [(6, .pure (bcells ([] : List UInt8)))] Y ⟨TLes.own Y, TLes.same _, trivial⟩ ⟨Y, trivial⟩ ?_
   refine AW2_ret ?_
   have hz := some_elim H
   subst hz
   exact ⟨⟨res_tmp (.same _), res_tmp (.same _), trivial⟩, ⟨Y, trivial⟩⟩
  ·replace H := ite_else (ne_true h4) H
   refine as2 [(0, .i mode0), (1, .p ((fun q : List Bool => AV.lst (q.map AV.bool) q.length) open1)), (5, .q 5 (0))] [(5, .pure (GCover.cs c2))] Y Y Y ?_
   refine AW2_skip ?_
   refine sg [0, 1, 2, 3, 4, 5, 6, 7] Y ?_
   refine rp Y Y (p_move Y Y) ?_
   refine rp Y Y (p_move Y Y) ?_
   refine bindK H fun r'3 h5 H => ?_
   refine r_op Y Y (d_callh [(2002, 5)] Y Y Y Tryd.func13 Y Y (g_slots_build_i0_ac2 h5) ⟨TLes.same _, TLes.same _, TLes.same _, trivial⟩ ⟨Y, trivial⟩ Y Y) ?_
   refine rp Y Y (p_move Y Y) ?_
   refine rp Y Y (p_ext2 Y Y Y Y) ?_
   refine rp Y Y (p_ext2 Y Y Y Y) ?_
   refine rp Y Y (p_asg Y Y) ?_
   refine rp Y Y (p_asg Y Y) ?_
   refine rz [(5, .q 5 (0)), (8, .y r'3.1), (9, .b r'3.2.1)] [(5, .pure (GCover.cs r'3.2.2))] Y Y Y ?_
   refine AW2_seq ?_
   refine AW2_seq ?_
   refine AW2_mid (⟨[(8, .y r'3.1), (36, .b (decide ((((!r'3.2.1) = true) ∨ ((r'3.2.2.Open.length : Int) > (0 : Int))) ∨ ((r'3.2.2.Rest.length : Int) > (0 : Int)))))], [], 40⟩ : TS) ?_ ?_
   ·refine AW2_reg [0, 1, 2, 3, 4, 5, 6, 7, 8, 9, 10, 11, 12, 13] Y ?_
    refine rp Y Y (p_move Y Y) ?_
    refine rp Y Y (p_not Y Y) ?_
    refine rp Y Y (p_move Y Y) ?_
    refine (Classical.em ((!r'3.2.1) = true)).elim (fun h6 => ?_) (fun h6 => ?_)
    ·refine r_off Y Y Y Y h6 Y Y ?_
     refine r_off Y Y Y Y h6 Y Y ?_
     refine r_off Y Y Y Y h6 Y Y ?_
     refine r_off Y Y Y Y h6 Y Y ?_
     refine rp Y Y (p_pkt Y Y h6 (tb (dT (p := ((!r'3.2.1) = true) ∨ ((r'3.2.2.Open.length : Int) > (0 : Int))) (Or.inl h6)).symm)) ?_
     refine rp Y Y (p_move Y Y) ?_
     refine r_off Y Y Y Y (dT (p := ((!r'3.2.1) = true) ∨ ((r'3.2.2.Open.length : Int) > (0 : Int))) (Or.inl h6)) Y Y ?_
     refine r_off Y Y Y Y (dT (p := ((!r'3.2.1) = true) ∨ ((r'3.2.2.Open.length : Int) > (0 : Int))) (Or.inl h6)) Y Y ?_
     refine r_off Y Y Y Y (dT (p := ((!r'3.2.1) = true) ∨ ((r'3.2.2.Open.length : Int) > (0 : Int))) (Or.inl h6)) Y Y ?_
     refine r_off Y Y Y Y (dT (p := ((!r'3.2.1) = true) ∨ ((r'3.2.2.Open.length : Int) > (0 : Int))) (Or.inl h6)) Y Y ?_
     refine rp Y Y (p_pkt Y Y (dT (p := ((!r'3.2.1) = true) ∨ ((r'3.2.2.Open.length : Int) > (0 : Int))) (Or.inl h6)) (tb (dT (p := (((!r'3.2.1) = true) ∨ ((r'3.2.2.Open.length : Int) > (0 : Int))) ∨ ((r'3.2.2.Rest.length : Int) > (0 : Int))) (Or.inl (Or.inl h6))).symm)) ?_
     refine rs [(8, .y r'3.1), (36, .b (decide ((((!r'3.2.1) = true) ∨ ((r'3.2.2.Open.length : Int) > (0 : Int))) ∨ ((r'3.2.2.Rest.length : Int) > (0 : Int)))))] [] Y Y Y ?_
     exact RunW_nil rfl
    ·refine r_on Y Y Y Y (bfalse h6) Y (PureD.opD (u_fa Y Y Tryd.underlying26 Y in_23 nz Y Y (nl (GCover.len r'3.2.2)))) ?_
     refine r_on Y Y Y Y (bfalse h6) Y (PureD.opD (u_ld Y Y Tryd.underlying23 Y Y ((Sub.refl _).trans (GCover.sub0 r'3.2.2)))) ?_
     refine r_on Y Y Y Y (bfalse h6) Y (PureD.opD (p_lenl Y Tryd.underlying23 Y Y)) ?_
     refine r_on Y Y Y Y (bfalse h6) Y (PureD.opD (p_bin Y Y Y Y)) ?_
     refine rp Y Y (p_pkf Y Y (bfalse h6) (tb ((or_l (p := (!r'3.2.1) = true) (q := (r'3.2.2.Open.length : Int) > (0 : Int)) h6)))) ?_
     refine rp Y Y (p_move Y Y) ?_
     refine (Classical.em ((r'3.2.2.Open.length : Int) > (0 : Int))).elim (fun h7 => ?_) (fun h7 => ?_)
     ·refine r_off Y Y Y Y (dT (p := ((!r'3.2.1) = true) ∨ ((r'3.2.2.Open.length : Int) > (0 : Int))) (Or.inr h7)) Y Y ?_
      refine r_off Y Y Y Y (dT (p := ((!r'3.2.1) = true) ∨ ((r'3.2.2.Open.length : Int) > (0 : Int))) (Or.inr h7)) Y Y ?_
      refine r_off Y Y Y Y (dT (p := ((!r'3.2.1) = true) ∨ ((r'3.2.2.Open.length : Int) > (0 : Int))) (Or.inr h7)) Y Y ?_
      refine r_off Y Y Y Y (dT (p := ((!r'3.2.1) = true) ∨ ((r'3.2.2.Open.length : Int) > (0 : Int))) (Or.inr h7)) Y Y ?_
      refine rp Y Y (p_pkt Y Y (dT (p := ((!r'3.2.1) = true) ∨ ((r'3.2.2.Open.length : Int) > (0 : Int))) (Or.inr h7)) (tb (dT (p := (((!r'3.2.1) = true) ∨ ((r'3.2.2.Open.length : Int) > (0 : Int))) ∨ ((r'3.2.2.Rest.length : Int) > (0 : Int))) (Or.inl (Or.inr h7))).symm)) ?_
      refine rs [(8, .y r'3.1), (36, .b (decide ((((!r'3.2.1) = true) ∨ ((r'3.2.2.Open.length : Int) > (0 : Int))) ∨ ((r'3.2.2.Rest.length : Int) > (0 : Int)))))] [] Y Y Y ?_
      exact RunW_nil rfl
     ·refine r_on Y Y Y Y (dF (p := ((!r'3.2.1) = true) ∨ ((r'3.2.2.Open.length : Int) > (0 : Int))) (not_or.2 ⟨h6, h7⟩)) Y (PureD.opD (u_fa Y Y Tryd.underlying26 Y in_24 nz Y Y (nl (GCover.len r'3.2.2)))) ?_
      refine r_on Y Y Y Y (dF (p := ((!r'3.2.1) = true) ∨ ((r'3.2.2.Open.length : Int) > (0 : Int))) (not_or.2 ⟨h6, h7⟩)) Y (PureD.opD (u_ld Y Y Tryd.underlying24 Y Y ((Sub.refl _).trans (GCover.sub1 r'3.2.2)))) ?_
      refine r_on Y Y Y Y (dF (p := ((!r'3.2.1) = true) ∨ ((r'3.2.2.Open.length : Int) > (0 : Int))) (not_or.2 ⟨h6, h7⟩)) Y (PureD.opD (p_lenl Y Tryd.underlying24 Y Y)) ?_
      refine r_on Y Y Y Y (dF (p := ((!r'3.2.1) = true) ∨ ((r'3.2.2.Open.length : Int) > (0 : Int))) (not_or.2 ⟨h6, h7⟩)) Y (PureD.opD (p_bin Y Y Y Y)) ?_
      refine rp Y Y (p_pkf Y Y (dF (p := ((!r'3.2.1) = true) ∨ ((r'3.2.2.Open.length : Int) > (0 : Int))) (not_or.2 ⟨h6, h7⟩)) (tb ((or_l (p := ((!r'3.2.1) = true) ∨ ((r'3.2.2.Open.length : Int) > (0 : Int))) (q := (r'3.2.2.Rest.length : Int) > (0 : Int)) (not_or.2 ⟨h6, h7⟩))))) ?_
      refine rs [(8, .y r'3.1), (36, .b (decide ((((!r'3.2.1) = true) ∨ ((r'3.2.2.Open.length : Int) > (0 : Int))) ∨ ((r'3.2.2.Rest.length : Int) > (0 : Int)))))] [] Y Y Y ?_
      exact RunW_nil rfl
   ·refine AW2_if (p := (((!r'3.2.1) = true) ∨ ((r'3.2.2.Open.length : Int) > (0 : Int))) ∨ ((r'3.2.2.Rest.length : Int) > (0 : Int))) Y (fun h8 => ?_) (fun h8 => ?_)
    ·replace H := ite_then h8 H
     refine sg [0, 1] Y ?_
     refine rp Y Y (p_asgn Y) ?_
     refine rp Y Y (p_asg Y Y) ?_
     refine rz [(6, .p .nil), (7, .i (10 : Int))] [] Y Y Y ?_
     refine as2 [(6, .p .nil), (7, .i (10 : Int))] [] Y Y Y ?_
     refine AW2_gho (Gho_own (d := 6) (b := 6) (z := 1) Y Y Y Y) ?_
     refine AW2_st [(6, .c (.own 6 ([] : List UInt8).length 1)), (7, .i (10 : Int))] [(6, .pure (bcells ([] : List UInt8)))] Y ⟨TLes.own Y, TLes.same _, trivial⟩ ⟨Y, trivial⟩ ?_
     refine AW2_ret ?_
     have hz := some_elim H
     subst hz
     exact ⟨⟨res_tmp (.same _), res_tmp (.same _), trivial⟩, ⟨Y, trivial⟩⟩
    ·replace H := ite_else h8 H
     refine as2 [(8, .y r'3.1)] [] Y Y Y ?_
     refine AW2_skip ?_
     refine sg [0, 1, 2, 3, 4] Y ?_
     refine r_op Y Y (MakeD.opD (n_bs0 37 Y Tryd.underlying27 in_5) Y Y Y Y) ?_
     refine rp Y Y (p_move Y Y) ?_
     refine chkK H fun h9 H => ?_
     refine r_op Y Y (u_app [37] Y Y Y Y Tryd.underlying27 Tryd.underlying27 in_5 Y Y Y (bl ([] : List UInt8)) (by decide) Y (bl r'3.1) h9 (by decide) Y Y (bapp ([] : List UInt8) r'3.1) (lapp ([] : List UInt8) r'3.1)) ?_
     refine rp Y Y (p_asg Y Y) ?_
     refine rp Y Y (p_asg Y Y) ?_
     refine rs [(6, .c (.own 37 (([] : List UInt8) ++ r'3.1).length 1)), (7, .i (0 : Int))] [(37, .pure (bcells (([] : List UInt8) ++ r'3.1)))] Y Y Y ?_
     refine RunW_gho (Gho_ren 37 6 Y Y Y Y Y) ?_
     refine rz [(6, .c (.own 6 (([] : List UInt8) ++ r'3.1).length 1)), (7, .i (0 : Int))] [(6, .pure (bcells (([] : List UInt8) ++ r'3.1)))] Y Y Y ?_
     refine as2 [(6, .c (.own 6 (([] : List UInt8) ++ r'3.1).length 1)), (7, .i (0 : Int))] [(6, .pure (bcells (([] : List UInt8) ++ r'3.1)))] Y Y Y ?_
     refine AW2_ret ?_
     have hz := some_elim H
     subst hz
     exact ⟨⟨res_tmp (.same _), res_tmp (.same _), trivial⟩, ⟨Y, trivial⟩⟩
theorem g_slots_Rooted_ac {mode0 : Int} {open1 : List Bool} {c2 : GCover} {r : (List UInt8) × Int} (H : g_slots_Rooted mode0 open1 c2 = some r) : ACp Tryd.prog 5 [(AV.int mode0), ((fun q : List Bool => AV.lst (q.map AV.bool) q.length) open1), (.agg (GCover.cs c2))] (.tup [(AV.bytes r.1), (AV.int r.2)]) := ACp_pub (g_slots_Rooted_ac2 H) (fun _ _ hm => lent_tup ⟨lent_own hm rfl (bl r.1) (by decide), .same _, trivial⟩)

/-! chirographref.badMode -/
noncomputable def g_ref_badMode (mode0 : Int) : Option (Bool) :=
  some (decide ((mode0 ≠ (1 : Int)) ∧ (mode0 ≠ (2 : Int))))
set_option maxHeartbeats 4000000 in
set_option maxRecDepth 100000 in
theorem g_ref_badMode_ac {mode0 : Int} {r : Bool} (H : g_ref_badMode mode0 = some r) : ACp Tryd.prog 14 [(AV.int mode0)] (AV.bool r) := by
 refine ACp_of (AC2_of_body (vs := [.b r]) Tryd.func14 Y Y (Nat.le_of_ble_eq_true Y) Y ?_) (fun _ => .same _)
 unfold g_ref_badMode at H
 refine as2 [(0, .i mode0)] [] Y Y Y ?_
 refine sg [0] Y ?_
 refine rp Y Y (p_asg Y Y) ?_
 refine rz [(0, .i mode0)] [] Y Y Y ?_
 refine AW2_seq ?_
 refine AW2_mid (⟨[(2, .b (decide ((mode0 ≠ (1 : Int)) ∧ (mode0 ≠ (2 : Int)))))], [], 9⟩ : TS) ?_ ?_
 ·refine AW2_reg [0, 1, 2, 3, 4, 5, 6] Y ?_
  refine rp Y Y (p_move Y Y) ?_
  refine rp Y Y (p_ine Y Y Y) ?_
  refine rp Y Y (p_move Y Y) ?_
  refine (Classical.em (mode0 ≠ (1 : Int))).elim (fun h1 => ?_) (fun h1 => ?_)
  ·refine r_on Y Y Y Y (dT h1) Y (PureD.opD (p_move Y Y)) ?_
   refine r_on Y Y Y Y (dT h1) Y (PureD.opD (p_ine Y Y Y)) ?_
   refine rp Y Y (p_pkt Y Y (dT h1) (tb ((and_l (p := mode0 ≠ (1 : Int)) (q := mode0 ≠ (2 : Int)) h1)))) ?_
   refine rp Y Y (p_asg Y Y) ?_
   refine rs [(2, .b (decide ((mode0 ≠ (1 : Int)) ∧ (mode0 ≠ (2 : Int)))))] [] Y Y Y ?_
   exact RunW_nil rfl
  ·refine r_off Y Y Y Y (dF h1) Y Y ?_
   refine r_off Y Y Y Y (dF h1) Y Y ?_
   refine rp Y Y (p_pkf Y Y (dF h1) (tb (dF (p := (mode0 ≠ (1 : Int)) ∧ (mode0 ≠ (2 : Int))) (fun x => h1 x.1)).symm)) ?_
   refine rp Y Y (p_asg Y Y) ?_
   refine rs [(2, .b (decide ((mode0 ≠ (1 : Int)) ∧ (mode0 ≠ (2 : Int)))))] [] Y Y Y ?_
   exact RunW_nil rfl
 ·refine AW2_ret ?_
  have hz := some_elim H
  subst hz
  exact ⟨⟨res_tmp (.same _), trivial⟩, trivial⟩

/-! chirographref.whole -/
noncomputable def g_ref_whole_l0 (n0 : Int) (t6'1 : Int) (t5'2 : List Int) : Int → Option (Int ⊕ (Bool ⊕ Unit))
  | t7_0 => (if t7_0 < t6'1 then if 0 ≤ t7_0 ∧ t7_0 < (t5'2.length : Int) then (if n0 = (lrd t5'2 t7_0.toNat) then some (.inr (.inl true)) else some (.inl (w64 (t7_0 + (1 : Int))))) else none else some (.inr (.inr ())))
noncomputable def g_ref_whole (n0 : Int) : Option (Bool) :=
  letO ((([(1 : Int), (2 : Int), (4 : Int), (8 : Int), (16 : Int), (32 : Int), (64 : Int)] : List Int).length : Int)) fun t6'1 => letO (([(1 : Int), (2 : Int), (4 : Int), (8 : Int), (16 : Int), (32 : Int), (64 : Int)] : List Int)) fun t5'2 => (loopO (g_ref_whole_l0 n0 t6'1 t5'2) (0 : Int)).bind fun o'6 => match o'6 with | .inl y'7 => some y'7 | .inr (y'8) => some false
set_option maxHeartbeats 4000000 in
set_option maxRecDepth 100000 in
theorem g_ref_whole_ac {n0 : Int} {r : Bool} (H : g_ref_whole n0 = some r) : ACp Tryd.prog 15 [(AV.int n0)] (AV.bool r) := by
 refine ACp_of (AC2_of_body (vs := [.b r]) Tryd.func15 Y Y (Nat.le_of_ble_eq_true Y) Y ?_) (fun _ => .same _)
 unfold g_ref_whole at H
 refine as2 [(0, .i n0)] [] Y Y Y ?_
 refine sg [0] Y ?_
 refine rp Y Y (p_asg Y Y) ?_
 refine rz [(0, .i n0)] [] Y Y Y ?_
 refine AW2_seq ?_
 refine sg [0, 1, 2] Y ?_
 refine r_op Y Y (MakeD.opD (u_bs 5 Y Tryd.underlying56 in_3 Y one_3 (by decide) (by decide) Y Y Y) Y Y Y Y) ?_
 refine rp Y Y (p_leno Y Tryd.underlying56 Y Y Y (ml AV.int ([(1 : Int), (2 : Int), (4 : Int), (8 : Int), (16 : Int), (32 : Int), (64 : Int)] : List Int)) (by decide)) ?_
 refine rp Y Y (p_move Y Y) ?_
 refine RunW_st [(0, .i n0), (5, .c (.own 5 ([(1 : Int), (2 : Int), (4 : Int), (8 : Int), (16 : Int), (32 : Int), (64 : Int)] : List Int).length 1)), (6, .i (([(1 : Int), (2 : Int), (4 : Int), (8 : Int), (16 : Int), (32 : Int), (64 : Int)] : List Int).length : Int)), (7, .i (0 : Int))] [(5, .pure (([(1 : Int), (2 : Int), (4 : Int), (8 : Int), (16 : Int), (32 : Int), (64 : Int)] : List Int).map AV.int))] Y ⟨TLes.same _, TLes.own Y, TLes.same _, TLes.same _, trivial⟩ ⟨Y, trivial⟩ ?_
 refine RunW_nil ?_
 refine gen1 (fun t6'1 => (⟨[(0, .i n0), (5, .c (.own 5 ([(1 : Int), (2 : Int), (4 : Int), (8 : Int), (16 : Int), (32 : Int), (64 : Int)] : List Int).length 1)), (6, .i t6'1), (7, .i (0 : Int))], [(5, .pure (([(1 : Int), (2 : Int), (4 : Int), (8 : Int), (16 : Int), (32 : Int), (64 : Int)] : List Int).map AV.int))], 15⟩ : TS)) H ?_
 intro t6'1 H
 refine gen1 (fun t5'2 => (⟨[(0, .i n0), (5, .c (.own 5 t5'2.length 1)), (6, .i t6'1), (7, .i (0 : Int))], [(5, .pure (t5'2.map AV.int))], 15⟩ : TS)) H ?_
 intro t5'2 H
 refine AW2_block ?_
 refine as2 [(0, .i n0), (5, .c (.own 5 t5'2.length 1)), (6, .i t6'1), (7, .i (0 : Int))] [(5, .pure (t5'2.map AV.int))] Y Y Y ?_
 refine bindK H fun o'6 h4 H => ?_
 refine AW2_loopO (fun a'3 : Int => (⟨[(0, .i n0), (5, .c (.own 5 t5'2.length 1)), (6, .i t6'1), (7, .i a'3)], [(5, .pure (t5'2.map AV.int))], 15⟩ : TS)) (fun (o : Bool ⊕ Unit) e s' => match o with | .inl y'4 => e = Go.Exit.ret ∧ ResAll Tryd.prog s' [ResultVar.tmp 2] [.b y'4] ∧ HFits s' [] | .inr (y'5) => e = Go.Exit.exit 0 ∧ s' = (⟨[], [], 15⟩ : TS)) h4 Y (fun t7_0 x hx => ?_) (fun e s' hs => ?_)
 ·clear H
  have H := hx
  clear hx
  unfold g_ref_whole_l0 at H
  refine sg [0] Y ?_
  refine rp Y Y (p_bin Y Y Y Y) ?_
  refine rz [(0, .i n0), (5, .c (.own 5 t5'2.length 1)), (6, .i t6'1), (7, .i t7_0), (8, .b (decide (t7_0 < t6'1)))] [(5, .pure (t5'2.map AV.int))] Y Y Y ?_
  refine AW2_seq ?_
  refine AW2_if (p := t7_0 < t6'1) Y (fun h1 => ?_) (fun h1 => ?_)
  ·replace H := ite_then h1 H
   refine as2 [(0, .i n0), (5, .c (.own 5 t5'2.length 1)), (6, .i t6'1), (7, .i t7_0)] [(5, .pure (t5'2.map AV.int))] Y Y Y ?_
   refine AW2_skip ?_
   refine AW2_seq ?_
   refine AW2_block ?_
   refine sg [0, 1, 2] Y ?_
   refine chkK H fun h2 H => ?_
   refine rp Y Y (u_ixo Y Y Tryd.underlying56 in_3 Y Y (lne (ixn h2)) Y (ixe h2) (ixn h2)) ?_
   refine rp Y Y (u_ld Y Y Tryd.underlying3 Y Y ((Sub.refl _).trans (Sub.map default (ixn h2)))) ?_
   refine rp Y Y (p_asg Y Y) ?_
   refine rz [(0, .i n0), (4, .i (lrd t5'2 t7_0.toNat)), (5, .c (.own 5 t5'2.length 1)), (6, .i t6'1), (7, .i t7_0)] [(5, .pure (t5'2.map AV.int))] Y Y Y ?_
   refine sg [0, 1, 2] Y ?_
   refine rp Y Y (p_move Y Y) ?_
   refine rp Y Y (p_move Y Y) ?_
   refine rp Y Y (p_ieq Y Y Y) ?_
   refine rz [(0, .i n0), (5, .c (.own 5 t5'2.length 1)), (6, .i t6'1), (7, .i t7_0), (13, .b (decide (n0 = (lrd t5'2 t7_0.toNat))))] [(5, .pure (t5'2.map AV.int))] Y Y Y ?_
   refine AW2_if (p := n0 = (lrd t5'2 t7_0.toNat)) Y (fun h3 => ?_) (fun h3 => ?_)
   ·replace H := ite_then h3 H
    refine sg [0] Y ?_
    refine rp Y Y (p_asg Y Y) ?_
    refine rz [(2, .b true)] [] Y Y Y ?_
    refine AW2_ret ?_
    have hz := some_elim H
    subst hz
    exact ⟨Y, ⟨res_tmp (.same _), trivial⟩, trivial⟩
   ·replace H := ite_else h3 H
    refine as2 [(0, .i n0), (5, .c (.own 5 t5'2.length 1)), (6, .i t6'1), (7, .i t7_0)] [(5, .pure (t5'2.map AV.int))] Y Y Y ?_
    refine AW2_skip ?_
    refine AW2_reg [0, 1] Y ?_
    refine rp Y Y (p_bin Y Y Y Y) ?_
    refine rp Y Y (p_move Y Y) ?_
    refine rz [(0, .i n0), (5, .c (.own 5 t5'2.length 1)), (6, .i t6'1), (7, .i (w64 (t7_0 + (1 : Int))))] [(5, .pure (t5'2.map AV.int))] Y Y Y ?_
    have hz := some_elim H
    subst hz
    exact ⟨Y, Y⟩
  ·replace H := ite_else h1 H
   refine as2 [] [] Y Y Y ?_
   refine AW2_exit ?_
   refine thenQ2_exit ?_
   have hz := some_elim H
   subst hz
   exact ⟨Y, Y⟩
 ·rcases o'6 with y'7 | y'8
  ·obtain ⟨rfl, hs⟩ := hs
   refine ⟨by simp, ?_⟩
   have hz := some_elim H
   subst hz
   exact ⟨hs.1, hs.2⟩
  ·obtain ⟨rfl, rfl⟩ := hs
   refine ⟨by simp, ?_⟩
   refine blockQ2_exit ?_
   refine sg [0] Y ?_
   refine rp Y Y (p_asg Y Y) ?_
   refine rz [(2, .b false)] [] Y Y Y ?_
   refine AW2_ret ?_
   have hz := some_elim H
   subst hz
   exact ⟨⟨res_tmp (.same _), trivial⟩, trivial⟩

/-! chirographref.count -/
noncomputable def g_ref_count_l0 (l0 : List Bool) : Int × Int → Option ((Int × Int) ⊕ (Int))
  | (n3_0, t8_0) => (if t8_0 < (l0.length : Int) then (if 0 ≤ t8_0 ∧ t8_0 < (l0.length : Int) then (if (lrd l0 t8_0.toNat) = true then some (w64 (n3_0 + (1 : Int))) else some n3_0) else none).bind fun j'1 => some (.inl (j'1, w64 (t8_0 + (1 : Int)))) else some (.inr n3_0))
noncomputable def g_ref_count (l0 : List Bool) : Option (Int) :=
  (loopO (g_ref_count_l0 l0) ((0 : Int), (0 : Int))).bind fun y'5 => some y'5
set_option maxHeartbeats 4000000 in
set_option maxRecDepth 100000 in
theorem g_ref_count_ac {l0 : List Bool} {r : Int} (H : g_ref_count l0 = some r) : ACp Tryd.prog 16 [((fun q : List Bool => AV.lst (q.map AV.bool) q.length) l0)] (AV.int r) := by
 refine ACp_of (AC2_of_body (vs := [.i r]) Tryd.func16 Y Y (Nat.le_of_ble_eq_true Y) Y ?_) (fun _ => .same _)
 unfold g_ref_count at H
 refine as2 [(0, .p ((fun q : List Bool => AV.lst (q.map AV.bool) q.length) l0))] [] Y Y Y ?_
 refine sg [0] Y ?_
 refine rp Y Y (p_asg Y Y) ?_
 refine rz [(0, .p ((fun q : List Bool => AV.lst (q.map AV.bool) q.length) l0))] [] Y Y Y ?_
 refine sg [0] Y ?_
 refine rp Y Y (p_asg Y Y) ?_
 refine rz [(0, .p ((fun q : List Bool => AV.lst (q.map AV.bool) q.length) l0)), (3, .i (0 : Int))] [] Y Y Y ?_
 refine AW2_seq ?_
 refine sg [0, 1, 2] Y ?_
 refine rp Y Y (p_move Y Y) ?_
 refine rp Y Y (p_lenl Y Tryd.underlying22 Y Y) ?_
 refine rp Y Y (p_move Y Y) ?_
 refine rz [(3, .i (0 : Int)), (6, .p ((fun q : List Bool => AV.lst (q.map AV.bool) q.length) l0)), (7, .i (l0.length : Int)), (8, .i (0 : Int))] [] Y Y Y ?_
 refine AW2_block ?_
 refine as2 [(3, .i (0 : Int)), (6, .p ((fun q : List Bool => AV.lst (q.map AV.bool) q.length) l0)), (7, .i (l0.length : Int)), (8, .i (0 : Int))] [] Y Y Y ?_
 refine bindK H fun y'5 h5 H => ?_
 refine AW2_loopO (fun a'2 : Int × Int => (⟨[(3, .i a'2.1), (6, .p ((fun q : List Bool => AV.lst (q.map AV.bool) q.length) l0)), (7, .i (l0.length : Int)), (8, .i a'2.2)], [], 17⟩ : TS)) (fun (y'3 : Int) e s' => e = Go.Exit.exit 0 ∧ s' = (⟨[(3, .i y'3)], [], 17⟩ : TS)) h5 Y (fun a x hx => ?_) (fun e s' hs => ?_)
 ·clear H
  obtain ⟨n3_0, t8_0⟩ := a
  have H := hx
  clear hx
  unfold g_ref_count_l0 at H
  refine sg [0] Y ?_
  refine rp Y Y (p_bin Y Y Y Y) ?_
  refine rz [(3, .i n3_0), (6, .p ((fun q : List Bool => AV.lst (q.map AV.bool) q.length) l0)), (7, .i (l0.length : Int)), (8, .i t8_0), (9, .b (decide (t8_0 < (l0.length : Int))))] [] Y Y Y ?_
  refine AW2_seq ?_
  refine AW2_if (p := t8_0 < (l0.length : Int)) Y (fun h1 => ?_) (fun h1 => ?_)
  ·replace H := ite_then h1 H
   refine as2 [(3, .i n3_0), (6, .p ((fun q : List Bool => AV.lst (q.map AV.bool) q.length) l0)), (7, .i (l0.length : Int)), (8, .i t8_0)] [] Y Y Y ?_
   refine AW2_skip ?_
   refine AW2_seq ?_
   refine bindK H fun j'1 h2 H => ?_
   refine AW2_mid (⟨[(3, .i j'1), (6, .p ((fun q : List Bool => AV.lst (q.map AV.bool) q.length) l0)), (7, .i (l0.length : Int)), (8, .i t8_0)], [], 17⟩ : TS) ?_ ?_
   ·clear H
    have H := h2
    clear h2
    refine AW2_block ?_
    refine sg [0, 1, 2] Y ?_
    refine chkK H fun h3 H => ?_
    refine rp Y Y (u_ixl Y Y Tryd.underlying22 in_4 Y Y (ixe h3) (ixn h3) (lne (ixn h3))) ?_
    refine rp Y Y (u_ld Y Y Tryd.underlying4 Y Y (Sub.map default (ixn h3))) ?_
    refine rp Y Y (p_asg Y Y) ?_
    refine rz [(3, .i n3_0), (5, .b (lrd l0 t8_0.toNat)), (6, .p ((fun q : List Bool => AV.lst (q.map AV.bool) q.length) l0)), (7, .i (l0.length : Int)), (8, .i t8_0)] [] Y Y Y ?_
    refine sg [0] Y ?_
    refine rp Y Y (p_move Y Y) ?_
    refine rz [(3, .i n3_0), (6, .p ((fun q : List Bool => AV.lst (q.map AV.bool) q.length) l0)), (7, .i (l0.length : Int)), (8, .i t8_0), (12, .b (lrd l0 t8_0.toNat))] [] Y Y Y ?_
    refine AW2_cond Y (fun h4 => ?_) (fun h4 => ?_)
    ·replace H := ite_then h4 H
     refine AW2_reg [0, 1, 2] Y ?_
     refine rp Y Y (p_move Y Y) ?_
     refine rp Y Y (p_bin Y Y Y Y) ?_
     refine rp Y Y (p_asg Y Y) ?_
     refine rz [(3, .i (w64 (n3_0 + (1 : Int)))), (6, .p ((fun q : List Bool => AV.lst (q.map AV.bool) q.length) l0)), (7, .i (l0.length : Int)), (8, .i t8_0)] [] Y Y Y ?_
     have hz := some_elim H
     subst hz
     exact rfl
    ·replace H := ite_else (ne_true h4) H
     refine as2 [(3, .i n3_0), (6, .p ((fun q : List Bool => AV.lst (q.map AV.bool) q.length) l0)), (7, .i (l0.length : Int)), (8, .i t8_0)] [] Y Y Y ?_
     refine AW2_skip ?_
     have hz := some_elim H
     subst hz
     exact rfl
   ·refine AW2_reg [0, 1] Y ?_
    refine rp Y Y (p_bin Y Y Y Y) ?_
    refine rp Y Y (p_move Y Y) ?_
    refine rz [(3, .i j'1), (6, .p ((fun q : List Bool => AV.lst (q.map AV.bool) q.length) l0)), (7, .i (l0.length : Int)), (8, .i (w64 (t8_0 + (1 : Int))))] [] Y Y Y ?_
    have hz := some_elim H
    subst hz
    exact ⟨Y, Y⟩
  ·replace H := ite_else h1 H
   refine as2 [(3, .i n3_0)] [] Y Y Y ?_
   refine AW2_exit ?_
   refine thenQ2_exit ?_
   have hz := some_elim H
   subst hz
   exact ⟨Y, Y⟩
 ·obtain ⟨rfl, rfl⟩ := hs
  refine ⟨by simp, ?_⟩
  refine blockQ2_exit ?_
  refine sg [0, 1] Y ?_
  refine rp Y Y (p_move Y Y) ?_
  refine rp Y Y (p_asg Y Y) ?_
  refine rz [(2, .i y'5)] [] Y Y Y ?_
  refine AW2_ret ?_
  have hz := some_elim H
  subst hz
  exact ⟨⟨res_tmp (.same _), trivial⟩, trivial⟩

/-! chirographref.rests -/
def g_ref_rests_r6 : List (List (Nat × Option Nat)) := [[(0, none)], [(3, none)], [(13, some 0), (14, some 1)], [(15, some 2)], [(0, none)], [(3, none)], [(17, some 4), (18, some 5)]]
def g_ref_rests_r6c : List (List Nat) := [[], [], [0, 1], [0, 1, 2], [], [], [4, 5], [0, 1, 2, 3, 4, 5, 6], [0, 1, 2, 3, 4, 5, 6, 7], [0, 1, 2, 3, 4, 5, 6, 7, 8]]
noncomputable def g_ref_rests_b (R' : (List Bool) → Option Int) (open0 : List Bool) : Option (Int) :=
  (g_ref_count open0).bind fun r'1 => (if r'1 = (0 : Int) then some (1 : Int) else (if (open0.length : Int) = (1 : Int) then some (0 : Int) else if 0 ≤ w64 ((open0.length : Int).tdiv (2 : Int)) ∧ w64 ((open0.length : Int).tdiv (2 : Int)) ≤ (open0.length : Int) then (R' (cut open0 (0 : Int) (w64 ((open0.length : Int).tdiv (2 : Int))))).bind fun r'2 => if 0 ≤ w64 ((open0.length : Int).tdiv (2 : Int)) ∧ w64 ((open0.length : Int).tdiv (2 : Int)) ≤ (open0.length : Int) then (R' (cut open0 (w64 ((open0.length : Int).tdiv (2 : Int))) (open0.length : Int))).bind fun r'3 => some (w64 (r'2 + r'3)) else none else none))
noncomputable def g_ref_rests : Nat → (List Bool) → Option Int
  | 0, _ => none
  | fu + 1, open0 => g_ref_rests_b (g_ref_rests fu) open0
set_option maxHeartbeats 4000000 in
set_option maxRecDepth 100000 in
theorem g_ref_rests_ac0 {R' : (List Bool) → Option Int} (hR : ∀ {open0 : List Bool} {r : Int}, R' open0 = some r → ACp Tryd.prog 17 [((fun q : List Bool => AV.lst (q.map AV.bool) q.length) open0)] (AV.int r)) {open0 : List Bool} {r : Int} (H : g_ref_rests_b R' open0 = some r) : ACp Tryd.prog 17 [((fun q : List Bool => AV.lst (q.map AV.bool) q.length) open0)] (AV.int r) := by
 refine ACp_of (AC2_of_body (vs := [.i r]) Tryd.func17 Y Y (Nat.le_of_ble_eq_true Y) Y ?_) (fun _ => .same _)
 unfold g_ref_rests_b at H
 refine as2 [(0, .p ((fun q : List Bool => AV.lst (q.map AV.bool) q.length) open0))] [] Y Y Y ?_
 refine sg [0] Y ?_
 refine rp Y Y (p_asg Y Y) ?_
 refine rz [(0, .p ((fun q : List Bool => AV.lst (q.map AV.bool) q.length) open0))] [] Y Y Y ?_
 refine AW2_seq ?_
 refine sg [0, 1, 2] Y ?_
 refine rp Y Y (p_move Y Y) ?_
 refine bindK H fun r'1 h1 H => ?_
 refine rp Y Y (p_callp Y Y Y Tryd.func16 Y Y (g_ref_count_ac h1) ⟨Y, trivial⟩) ?_
 refine rp Y Y (p_ieq Y Y Y) ?_
 refine rz [(0, .p ((fun q : List Bool => AV.lst (q.map AV.bool) q.length) open0)), (6, .b (decide (r'1 = (0 : Int))))] [] Y Y Y ?_
 refine AW2_if (p := r'1 = (0 : Int)) Y (fun h2 => ?_) (fun h2 => ?_)
 ·replace H := ite_then h2 H
  refine sg [0] Y ?_
  refine rp Y Y (p_asg Y Y) ?_
  refine rz [(2, .i (1 : Int))] [] Y Y Y ?_
  refine AW2_ret ?_
  have hz := some_elim H
  subst hz
  exact ⟨⟨res_tmp (.same _), trivial⟩, trivial⟩
 ·replace H := ite_else h2 H
  refine as2 [(0, .p ((fun q : List Bool => AV.lst (q.map AV.bool) q.length) open0))] [] Y Y Y ?_
  refine AW2_skip ?_
  refine AW2_seq ?_
  refine sg [0, 1, 2] Y ?_
  refine rp Y Y (p_move Y Y) ?_
  refine rp Y Y (p_lenl Y Tryd.underlying22 Y Y) ?_
  refine rp Y Y (p_ieq Y Y Y) ?_
  refine rz [(0, .p ((fun q : List Bool => AV.lst (q.map AV.bool) q.length) open0)), (9, .b (decide ((open0.length : Int) = (1 : Int))))] [] Y Y Y ?_
  refine AW2_if (p := (open0.length : Int) = (1 : Int)) Y (fun h3 => ?_) (fun h3 => ?_)
  ·replace H := ite_then h3 H
   refine sg [0] Y ?_
   refine rp Y Y (p_asg Y Y) ?_
   refine rz [(2, .i (0 : Int))] [] Y Y Y ?_
   refine AW2_ret ?_
   have hz := some_elim H
   subst hz
   exact ⟨⟨res_tmp (.same _), trivial⟩, trivial⟩
  ·replace H := ite_else h3 H
   refine as2 [(0, .p ((fun q : List Bool => AV.lst (q.map AV.bool) q.length) open0))] [] Y Y Y ?_
   refine AW2_skip ?_
   refine sg [0, 1, 2, 3] Y ?_
   refine rp Y Y (p_move Y Y) ?_
   refine rp Y Y (p_lenl Y Tryd.underlying22 Y Y) ?_
   refine rp Y Y (p_iquo Y Y Y (by decide)) ?_
   refine rp Y Y (p_asg Y Y) ?_
   refine rz [(0, .p ((fun q : List Bool => AV.lst (q.map AV.bool) q.length) open0)), (3, .i (w64 ((open0.length : Int).tdiv (2 : Int))))] [] Y Y Y ?_
   refine AW2_seq ?_
   refine chkK H fun h4 H => ?_
   refine bindK H fun r'2 h5 H => ?_
   refine chkK H fun h6 H => ?_
   refine bindK H fun r'3 h7 H => ?_
   refine AW2_ghoQ ?_
   refine AW2_draw 7 [7, 8, 9] (fun k => ([.p ((fun q : List Bool => AV.lst (q.map AV.bool) q.length) open0), .i (w64 ((open0.length : Int).tdiv (2 : Int))), .p ((fun q : List Bool => AV.lst (q.map AV.bool) q.length) (cut open0 (0 : Int) (w64 ((open0.length : Int).tdiv (2 : Int))))), .i r'2, .p ((fun q : List Bool => AV.lst (q.map AV.bool) q.length) open0), .i (w64 ((open0.length : Int).tdiv (2 : Int))), .p ((fun q : List Bool => AV.lst (q.map AV.bool) q.length) (cut open0 (w64 ((open0.length : Int).tdiv (2 : Int))) (open0.length : Int)))] : List TV).getD k TV.any) (fun k => g_ref_rests_r6.getD k []) [(16, some 3), (19, some 6)] [] (fun k => g_ref_rests_r6c.getD k []) mixed (by kernel_rfl) Y Y (a_op (g_x Y (x_p Y (p_move Y Y) Y)) (a_op (g_x Y (x_p Y (p_move Y Y) Y)) (a_op (g_x Y (x_p Y (u_cutl (g := (fun l => l.map AV.bool)) (a := (0 : Int)) (b := w64 ((open0.length : Int).tdiv (2 : Int))) Y Y Tryd.underlying22 in_4 Y bT_zero (bT_i (Int.le_trans (show 0 ≤ (0 : Int) ∧ (0 : Int) ≤ w64 ((open0.length : Int).tdiv (2 : Int)) ∧ w64 ((open0.length : Int).tdiv (2 : Int)) ≤ (open0.length : Int) from ⟨Int.le_refl _, h4.1, h4.2⟩).1 (show 0 ≤ (0 : Int) ∧ (0 : Int) ≤ w64 ((open0.length : Int).tdiv (2 : Int)) ∧ w64 ((open0.length : Int).tdiv (2 : Int)) ≤ (open0.length : Int) from ⟨Int.le_refl _, h4.1, h4.2⟩).2.1) Y) (.inl Y) (show 0 ≤ (0 : Int) ∧ (0 : Int) ≤ w64 ((open0.length : Int).tdiv (2 : Int)) ∧ w64 ((open0.length : Int).tdiv (2 : Int)) ≤ (open0.length : Int) from ⟨Int.le_refl _, h4.1, h4.2⟩) (g_map AV.bool)) Y)) (a_op (g_x Y (x_p Y (p_callp Y Y Y Tryd.func17 Y Y (hR h5) ⟨Y, trivial⟩) Y)) (a_op (g_x Y (x_p Y (p_move Y Y) Y)) (a_op (g_x Y (x_p Y (p_move Y Y) Y)) (a_op (g_x Y (x_p Y (u_cutl (g := (fun l => l.map AV.bool)) (a := w64 ((open0.length : Int).tdiv (2 : Int))) (b := (open0.length : Int)) Y Y Tryd.underlying22 in_4 Y (bT_i (show 0 ≤ w64 ((open0.length : Int).tdiv (2 : Int)) ∧ w64 ((open0.length : Int).tdiv (2 : Int)) ≤ (open0.length : Int) ∧ (open0.length : Int) ≤ (open0.length : Int) from ⟨h6.1, h6.2, Int.le_refl _⟩).1 Y) (bT_len _) (.inl Y) (show 0 ≤ w64 ((open0.length : Int).tdiv (2 : Int)) ∧ w64 ((open0.length : Int).tdiv (2 : Int)) ≤ (open0.length : Int) ∧ (open0.length : Int) ≤ (open0.length : Int) from ⟨h6.1, h6.2, Int.le_refl _⟩) (g_map AV.bool)) Y)) (a_nil)))))))) ?_
   refine t_op Y Y (PureD.opD (p_callp Y Y Y Tryd.func17 Y Y (hR h7) ⟨Y, trivial⟩)) ?_
   refine t_op Y Y (PureD.opD (p_bin Y Y Y Y)) ?_
   refine t_op Y Y (PureD.opD (p_asg Y Y)) ?_
   refine t_gho (Gho_st (L := [(2, .i (w64 (r'2 + r'3)))]) (H := []) (N := 22) Y ⟨TLes.same _, trivial⟩ trivial) ?_
   refine AW2_ret ?_
   have hz := some_elim H
   subst hz
   exact ⟨⟨res_tmp (.same _), trivial⟩, trivial⟩
theorem g_ref_rests_acN : ∀ (fu : Nat) {open0 : List Bool} {r : Int}, g_ref_rests fu open0 = some r → ACp Tryd.prog 17 [((fun q : List Bool => AV.lst (q.map AV.bool) q.length) open0)] (AV.int r)
 | 0, _, _, H => (by cases H)
 | fu + 1, _, _, H => g_ref_rests_ac0 (g_ref_rests_acN fu) H
theorem g_ref_rests_ac {open0 : List Bool} {r : Int} (H : g_ref_rests 100000 open0 = some r) : ACp Tryd.prog 17 [((fun q : List Bool => AV.lst (q.map AV.bool) q.length) open0)] (AV.int r) := g_ref_rests_acN 100000 H

/-! chirographref.big -/
noncomputable def g_ref_big_l0 (size1 : Int) : UInt64 × (List UInt8) × Int → Option ((UInt64 × (List UInt8) × Int) ⊕ (((List UInt8))))
  | (n0_0, s5_0, t7_0) => (if t7_0 < size1 then if ([n0_0.toUInt8] : List UInt8).length + s5_0.length ≤ 9223372036854775807 then some (.inl (shr_u64 n0_0 8, ([n0_0.toUInt8] : List UInt8) ++ s5_0, w64 (t7_0 + (1 : Int)))) else none else some (.inr s5_0))
noncomputable def g_ref_big (n0 : UInt64) (size1 : Int) : Option ((List UInt8)) :=
  (loopO (g_ref_big_l0 size1) (n0, [], (0 : Int))).bind fun y'4 => some y'4
set_option maxHeartbeats 4000000 in
set_option maxRecDepth 100000 in
theorem g_ref_big_ac {n0 : UInt64} {size1 : Int} {r : (List UInt8)} (H : g_ref_big n0 size1 = some r) : ACp Tryd.prog 48 [(AV.u64 n0), (AV.int size1)] (AV.txt r) := by
 refine ACp_of (AC2_of_body (vs := [.t r]) Tryd.func48 Y Y (Nat.le_of_ble_eq_true Y) Y ?_) (fun _ => .same _)
 unfold g_ref_big at H
 refine as2 [(0, .p (AV.u64 n0)), (1, .i size1)] [] Y Y Y ?_
 refine sg [0] Y ?_
 refine rp Y Y (p_asg Y Y) ?_
 refine rz [(0, .p (AV.u64 n0)), (1, .i size1)] [] Y Y Y ?_
 refine sg [0] Y ?_
 refine rp Y Y (p_asg Y Y) ?_
 refine rz [(0, .p (AV.u64 n0)), (1, .i size1), (5, .t [])] [] Y Y Y ?_
 refine AW2_seq ?_
 refine sg [0, 1] Y ?_
 refine rp Y Y (p_move Y Y) ?_
 refine rp Y Y (p_move Y Y) ?_
 refine rz [(0, .p (AV.u64 n0)), (5, .t []), (6, .i size1), (7, .i (0 : Int))] [] Y Y Y ?_
 refine AW2_block ?_
 refine as2 [(0, .p (AV.u64 n0)), (5, .t []), (6, .i size1), (7, .i (0 : Int))] [] Y Y Y ?_
 refine bindK H fun y'4 h3 H => ?_
 refine AW2_loopO (fun a'1 : UInt64 × (List UInt8) × Int => (⟨[(0, .p (AV.u64 a'1.1)), (5, .t a'1.2.1), (6, .i size1), (7, .i a'1.2.2)], [], 19⟩ : TS)) (fun (y'2 : ((List UInt8))) e s' => e = Go.Exit.exit 0 ∧ s' = (⟨[(5, .t y'2)], [], 19⟩ : TS)) h3 Y (fun a x hx => ?_) (fun e s' hs => ?_)
 ·clear H
  obtain ⟨n0_0, s5_0, t7_0⟩ := a
  have H := hx
  clear hx
  unfold g_ref_big_l0 at H
  refine sg [0] Y ?_
  refine rp Y Y (p_bin Y Y Y Y) ?_
  refine rz [(0, .p (AV.u64 n0_0)), (5, .t s5_0), (6, .i size1), (7, .i t7_0), (8, .b (decide (t7_0 < size1)))] [] Y Y Y ?_
  refine AW2_seq ?_
  refine AW2_if (p := t7_0 < size1) Y (fun h1 => ?_) (fun h1 => ?_)
  ·replace H := ite_then h1 H
   refine as2 [(0, .p (AV.u64 n0_0)), (5, .t s5_0), (6, .i size1), (7, .i t7_0)] [] Y Y Y ?_
   refine AW2_skip ?_
   refine AW2_seq ?_
   refine AW2_block ?_
   refine sg [0, 1, 2, 3, 4, 5, 6] Y ?_
   refine rp Y Y (p_move Y Y) ?_
   refine rp Y Y (p_u64_u8 (a := n0_0) Y Tryd.underlying78 Tryd.underlying5 Y) ?_
   refine r_op Y Y (MakeD.opD (u_bs 11 Y Tryd.underlying27 in_5 Y one_5 (by decide) (by decide) Y Y Y) Y Y Y Y) ?_
   refine rp Y Y (p_cbo (bs := ([n0_0.toUInt8] : List UInt8)) Y Y Tryd.underlying27 Tryd.underlying5 Tryd.underlying9 Y Y) ?_
   refine rp Y Y (p_move Y Y) ?_
   refine chkK H fun h2 H => ?_
   refine rp Y Y (p_cat Y Y Y h2) ?_
   refine rp Y Y (p_asg Y Y) ?_
   refine rz [(0, .p (AV.u64 n0_0)), (5, .t (([n0_0.toUInt8] : List UInt8) ++ s5_0)), (6, .i size1), (7, .i t7_0)] [] Y Y Y ?_
   refine AW2_reg [0, 1, 2] Y ?_
   refine rp Y Y (p_move Y Y) ?_
   refine rp Y Y (p_u64shr (n := 8) Y Y Y Y) ?_
   refine rp Y Y (p_asg Y Y) ?_
   refine rz [(0, .p (AV.u64 (shr_u64 n0_0 8))), (5, .t (([n0_0.toUInt8] : List UInt8) ++ s5_0)), (6, .i size1), (7, .i t7_0)] [] Y Y Y ?_
   refine AW2_reg [0, 1] Y ?_
   refine rp Y Y (p_bin Y Y Y Y) ?_
   refine rp Y Y (p_move Y Y) ?_
   refine rz [(0, .p (AV.u64 (shr_u64 n0_0 8))), (5, .t (([n0_0.toUInt8] : List UInt8) ++ s5_0)), (6, .i size1), (7, .i (w64 (t7_0 + (1 : Int))))] [] Y Y Y ?_
   have hz := some_elim H
   subst hz
   exact ⟨Y, Y⟩
  ·replace H := ite_else h1 H
   refine as2 [(5, .t s5_0)] [] Y Y Y ?_
   refine AW2_exit ?_
   refine thenQ2_exit ?_
   have hz := some_elim H
   subst hz
   exact ⟨Y, Y⟩
 ·obtain ⟨rfl, rfl⟩ := hs
  refine ⟨by simp, ?_⟩
  refine blockQ2_exit ?_
  refine sg [0, 1] Y ?_
  refine rp Y Y (p_move Y Y) ?_
  refine rp Y Y (p_asg Y Y) ?_
  refine rz [(4, .t y'4)] [] Y Y Y ?_
  refine AW2_ret ?_
  have hz := some_elim H
  subst hz
  exact ⟨⟨res_tmp (.same _), trivial⟩, trivial⟩

/-! chirographref.framed -/
def g_ref_framed_r5 : List (List (Nat × Option Nat)) := [[(5, none)], [(7, none)], [(22, some 1)], [(23, some 2)], [(24, some 3)], [(7, none)], [(26, some 5)], [(25, some 4), (27, some 6)]]
def g_ref_framed_r5c : List (List Nat) := [[], [], [1], [1, 2], [1, 2, 3], [], [5], [1, 2, 3, 4, 5, 6], [0, 1, 2, 3, 4, 5, 6, 7], [0, 1, 2, 3, 4, 5, 6, 7, 8]]
noncomputable def g_ref_framed_l0 (parts1 : List (List UInt8)) : (List UInt8) × Int → Option (((List UInt8) × Int) ⊕ (((List UInt8))))
  | (s5_0, t17_0) => (if t17_0 < (parts1.length : Int) then if 0 ≤ t17_0 ∧ t17_0 < (parts1.length : Int) then (g_ref_big (UInt64.ofInt ((lrd parts1 t17_0.toNat).length : Int)) (4 : Int)).bind fun r'1 => if r'1.length + (lrd parts1 t17_0.toNat).length ≤ 9223372036854775807 then if s5_0.length + (r'1 ++ (lrd parts1 t17_0.toNat)).length ≤ 9223372036854775807 then some (.inl (s5_0 ++ (r'1 ++ (lrd parts1 t17_0.toNat)), w64 (t17_0 + (1 : Int)))) else none else none else none else some (.inr s5_0))
noncomputable def g_ref_framed (tag0 : Int) (parts1 : List (List UInt8)) : Option ((List UInt8)) :=
  (loopO (g_ref_framed_l0 parts1) (([UInt8.ofInt tag0, UInt8.ofInt (parts1.length : Int)] : List UInt8), (0 : Int))).bind fun y'5 => some y'5
set_option maxHeartbeats 4000000 in
set_option maxRecDepth 100000 in
theorem g_ref_framed_ac {tag0 : Int} {parts1 : List (List UInt8)} {r : (List UInt8)} (H : g_ref_framed tag0 parts1 = some r) : ACp Tryd.prog 40 [(AV.int tag0), (AV.lists parts1)] (AV.txt r) := by
 refine ACp_of (AC2_of_body (vs := [.t r]) Tryd.func40 Y Y (Nat.le_of_ble_eq_true Y) Y ?_) (fun _ => .same _)
 unfold g_ref_framed at H
 refine as2 [(0, .i tag0), (1, .p (AV.lists parts1))] [] Y Y Y ?_
 refine sg [0] Y ?_
 refine rp Y Y (p_asg Y Y) ?_
 refine rz [(0, .i tag0), (1, .p (AV.lists parts1))] [] Y Y Y ?_
 refine sg [0, 1, 2, 3, 4, 5, 6, 7] Y ?_
 refine rp Y Y (p_move Y Y) ?_
 refine rp Y Y (p_i_u8 Y Tryd.underlying3 Tryd.underlying5 Y) ?_
 refine rp Y Y (p_move Y Y) ?_
 refine rp Y Y (p_lenl Y Tryd.underlying24 Y Y) ?_
 refine rp Y Y (p_i_u8 Y Tryd.underlying3 Tryd.underlying5 Y) ?_
 refine r_op Y Y (MakeD.opD (u_bs 13 Y Tryd.underlying27 in_5 Y one_5 (by decide) (by decide) Y Y Y) Y Y Y Y) ?_
 refine rp Y Y (p_cbo (bs := ([UInt8.ofInt tag0, UInt8.ofInt (parts1.length : Int)] : List UInt8)) Y Y Tryd.underlying27 Tryd.underlying5 Tryd.underlying9 Y Y) ?_
 refine rp Y Y (p_asg Y Y) ?_
 refine rz [(1, .p (AV.lists parts1)), (5, .t ([UInt8.ofInt tag0, UInt8.ofInt (parts1.length : Int)] : List UInt8))] [] Y Y Y ?_
 refine AW2_seq ?_
 refine sg [0, 1, 2] Y ?_
 refine rp Y Y (p_move Y Y) ?_
 refine rp Y Y (p_lenl Y Tryd.underlying24 Y Y) ?_
 refine rp Y Y (p_move Y Y) ?_
 refine rz [(5, .t ([UInt8.ofInt tag0, UInt8.ofInt (parts1.length : Int)] : List UInt8)), (15, .p (AV.lists parts1)), (16, .i (parts1.length : Int)), (17, .i (0 : Int))] [] Y Y Y ?_
 refine AW2_block ?_
 refine as2 [(5, .t ([UInt8.ofInt tag0, UInt8.ofInt (parts1.length : Int)] : List UInt8)), (15, .p (AV.lists parts1)), (16, .i (parts1.length : Int)), (17, .i (0 : Int))] [] Y Y Y ?_
 refine bindK H fun y'5 h6 H => ?_
 refine AW2_loopO (fun a'2 : (List UInt8) × Int => (⟨[(5, .t a'2.1), (15, .p (AV.lists parts1)), (16, .i (parts1.length : Int)), (17, .i a'2.2)], [], 32⟩ : TS)) (fun (y'3 : ((List UInt8))) e s' => e = Go.Exit.exit 0 ∧ s' = (⟨[(5, .t y'3)], [], 32⟩ : TS)) h6 Y (fun a x hx => ?_) (fun e s' hs => ?_)
 ·clear H
  obtain ⟨s5_0, t17_0⟩ := a
  have H := hx
  clear hx
  unfold g_ref_framed_l0 at H
  refine sg [0] Y ?_
  refine rp Y Y (p_bin Y Y Y Y) ?_
  refine rz [(5, .t s5_0), (15, .p (AV.lists parts1)), (16, .i (parts1.length : Int)), (17, .i t17_0), (18, .b (decide (t17_0 < (parts1.length : Int))))] [] Y Y Y ?_
  refine AW2_seq ?_
  refine AW2_if (p := t17_0 < (parts1.length : Int)) Y (fun h1 => ?_) (fun h1 => ?_)
  ·replace H := ite_then h1 H
   refine as2 [(5, .t s5_0), (15, .p (AV.lists parts1)), (16, .i (parts1.length : Int)), (17, .i t17_0)] [] Y Y Y ?_
   refine AW2_skip ?_
   refine AW2_seq ?_
   refine AW2_block ?_
   refine sg [0, 1, 2] Y ?_
   refine chkK H fun h2 H => ?_
   refine rp Y Y (u_ixl Y Y Tryd.underlying24 in_27 Y Y (ixe h2) (ixn h2) (lne (ixn h2))) ?_
   refine rp Y Y (u_ld Y Y Tryd.underlying27 Y Y (Sub.map default (ixn h2))) ?_
   refine rp Y Y (p_asg Y Y) ?_
   refine rz [(5, .t s5_0), (7, .y (lrd parts1 t17_0.toNat)), (15, .p (AV.lists parts1)), (16, .i (parts1.length : Int)), (17, .i t17_0)] [] Y Y Y ?_
   refine bindK H fun r'1 h3 H => ?_
   refine chkK H fun h4 H => ?_
   refine chkK H fun h5 H => ?_
   refine AW2_ghoQ ?_
   refine AW2_draw 8 [8, 9] (fun k => ([.t s5_0, .y (lrd parts1 t17_0.toNat), .i ((lrd parts1 t17_0.toNat).length : Int), .p (AV.u64 (UInt64.ofInt ((lrd parts1 t17_0.toNat).length : Int))), .t r'1, .y (lrd parts1 t17_0.toNat), .t (lrd parts1 t17_0.toNat), .t (r'1 ++ (lrd parts1 t17_0.toNat))] : List TV).getD k TV.any) (fun k => g_ref_framed_r5.getD k []) [(5, none), (15, none), (16, none), (17, none), (21, some 0), (28, some 7)] [] (fun k => g_ref_framed_r5c.getD k []) mixed (by kernel_rfl) Y Y (a_op (g_x Y (x_p Y (p_move Y Y) Y)) (a_op (g_x Y (x_p Y (p_move Y Y) Y)) (a_op (g_x Y (x_p Y (p_lenl Y Tryd.underlying27 Y Y) Y)) (a_op (g_x Y (x_p Y (p_i_u64 Y Tryd.underlying3 Tryd.underlying78 Y) Y)) (a_op (g_x Y (x_p Y (p_callp Y Y Y Tryd.func48 Y Y (g_ref_big_ac h3) ⟨Y, Y, trivial⟩) Y)) (a_op (g_x Y (x_p Y (p_move Y Y) Y)) (a_op (g_x Y (x_p Y (p_cb Y Y Tryd.underlying27 Tryd.underlying5 Tryd.underlying9 Y) Y)) (a_op (g_x Y (x_p Y (p_cat Y Y Y h4) Y)) (a_nil))))))))) ?_
   refine t_op Y Y (PureD.opD (p_cat Y Y Y h5)) ?_
   refine t_op Y Y (PureD.opD (p_asg Y Y)) ?_
   refine t_gho (Gho_st (L := [(5, .t (s5_0 ++ (r'1 ++ (lrd parts1 t17_0.toNat)))), (15, .p (AV.lists parts1)), (16, .i (parts1.length : Int)), (17, .i t17_0)]) (H := []) (N := 32) Y ⟨TLes.same _, TLes.same _, TLes.same _, TLes.same _, trivial⟩ trivial) ?_
   refine AW2_reg [0, 1] Y ?_
   refine rp Y Y (p_bin Y Y Y Y) ?_
   refine rp Y Y (p_move Y Y) ?_
   refine rz [(5, .t (s5_0 ++ (r'1 ++ (lrd parts1 t17_0.toNat)))), (15, .p (AV.lists parts1)), (16, .i (parts1.length : Int)), (17, .i (w64 (t17_0 + (1 : Int))))] [] Y Y Y ?_
   have hz := some_elim H
   subst hz
   exact ⟨Y, Y⟩
  ·replace H := ite_else h1 H
   refine as2 [(5, .t s5_0)] [] Y Y Y ?_
   refine AW2_exit ?_
   refine thenQ2_exit ?_
   have hz := some_elim H
   subst hz
   exact ⟨Y, Y⟩
 ·obtain ⟨rfl, rfl⟩ := hs
  refine ⟨by simp, ?_⟩
  refine blockQ2_exit ?_
  refine sg [0, 1] Y ?_
  refine rp Y Y (p_move Y Y) ?_
  refine rp Y Y (p_asg Y Y) ?_
  refine rz [(4, .t y'5)] [] Y Y Y ?_
  refine AW2_ret ?_
  have hz := some_elim H
  subst hz
  exact ⟨⟨res_tmp (.same _), trivial⟩, trivial⟩

/-! chirographref.FrameOf -/
noncomputable def g_ref_FrameOf_l0 (parts1 : List (List UInt8)) : Int × Int → Option ((Int × Int) ⊕ (((List UInt8) × Int) ⊕ Unit))
  | (room6_0, t24_0) => (if t24_0 < (parts1.length : Int) then if 0 ≤ t24_0 ∧ t24_0 < (parts1.length : Int) then (if ((lrd parts1 t24_0.toNat).length : Int) > room6_0 then some (.inr (.inl (([] : List UInt8), (1 : Int)))) else some (.inl (w64 (room6_0 - ((lrd parts1 t24_0.toNat).length : Int)), w64 (t24_0 + (1 : Int))))) else none else some (.inr (.inr ())))
noncomputable def g_ref_FrameOf (tag0 : Int) (parts1 : List (List UInt8)) : Option ((List UInt8) × Int) :=
  (if (tag0 < (1 : Int)) ∨ (tag0 > (9 : Int)) then some (([] : List UInt8), (6 : Int)) else (if (parts1.length : Int) > (8 : Int) then some (([] : List UInt8), (1 : Int)) else (loopO (g_ref_FrameOf_l0 parts1) (w64 ((16777214 : Int) - (w64 ((4 : Int) * (parts1.length : Int)))), (0 : Int))).bind fun o'4 => match o'4 with | .inl y'5 => some y'5 | .inr (y'6) => (g_ref_framed tag0 parts1).bind fun r'7 => some (r'7, (0 : Int))))
set_option maxHeartbeats 4000000 in
set_option maxRecDepth 100000 in
theorem g_ref_FrameOf_ac2 {tag0 : Int} {parts1 : List (List UInt8)} {r : (List UInt8) × Int} (H : g_ref_FrameOf tag0 parts1 = some r) : AC2 Tryd.prog 35 (pureT [(AV.int tag0), (AV.lists parts1)]) [] (retV [.c (.own 4 r.1.length 1), .i r.2]) [(4, .pure (bcells r.1))] := by
 refine AC2_of_body (vs := [.c (.own 4 r.1.length 1), .i r.2]) Tryd.func35 Y Y (Nat.le_of_ble_eq_true Y) Y ?_
 unfold g_ref_FrameOf at H
 refine as2 [(0, .i tag0), (1, .p (AV.lists parts1))] [] Y Y Y ?_
 refine sg [0, 1] Y ?_
 refine rp Y Y (p_asgn Y) ?_
 refine rp Y Y (p_asg Y Y) ?_
 refine rz [(0, .i tag0), (1, .p (AV.lists parts1))] [] Y Y Y ?_
 refine AW2_seq ?_
 refine AW2_seq ?_
 refine AW2_mid (⟨[(0, .i tag0), (1, .p (AV.lists parts1)), (14, .b (decide ((tag0 < (1 : Int)) ∨ (tag0 > (9 : Int)))))], [], 41⟩ : TS) ?_ ?_
 ·refine AW2_reg [0, 1, 2, 3, 4, 5] Y ?_
  refine rp Y Y (p_move Y Y) ?_
  refine rp Y Y (p_bin Y Y Y Y) ?_
  refine rp Y Y (p_move Y Y) ?_
  refine (Classical.em (tag0 < (1 : Int))).elim (fun h1 => ?_) (fun h1 => ?_)
  ·refine r_off Y Y Y Y (dT h1) Y Y ?_
   refine r_off Y Y Y Y (dT h1) Y Y ?_
   refine rp Y Y (p_pkt Y Y (dT h1) (tb (dT (p := (tag0 < (1 : Int)) ∨ (tag0 > (9 : Int))) (Or.inl h1)).symm)) ?_
   refine rs [(0, .i tag0), (1, .p (AV.lists parts1)), (14, .b (decide ((tag0 < (1 : Int)) ∨ (tag0 > (9 : Int)))))] [] Y Y Y ?_
   exact RunW_nil rfl
  ·refine r_on Y Y Y Y (dF h1) Y (PureD.opD (p_move Y Y)) ?_
   refine r_on Y Y Y Y (dF h1) Y (PureD.opD (p_bin Y Y Y Y)) ?_
   refine rp Y Y (p_pkf Y Y (dF h1) (tb ((or_l (p := tag0 < (1 : Int)) (q := tag0 > (9 : Int)) h1)))) ?_
   refine rs [(0, .i tag0), (1, .p (AV.lists parts1)), (14, .b (decide ((tag0 < (1 : Int)) ∨ (tag0 > (9 : Int)))))] [] Y Y Y ?_
   exact RunW_nil rfl
 ·refine AW2_if (p := (tag0 < (1 : Int)) ∨ (tag0 > (9 : Int))) Y (fun h2 => ?_) (fun h2 => ?_)
  ·replace H := ite_then h2 H
   refine sg [0, 1] Y ?_
   refine rp Y Y (p_asgn Y) ?_
   refine rp Y Y (p_asg Y Y) ?_
   refine rz [(4, .p .nil), (5, .i (6 : Int))] [] Y Y Y ?_
   refine as2 [(4, .p .nil), (5, .i (6 : Int))] [] Y Y Y ?_
   refine AW2_gho (Gho_own (d := 4) (b := 4) (z := 1) Y Y Y Y) ?_
   refine AW2_st [(4, .c (.own 4 ([] : List UInt8).length 1)), (5, .i (6 : Int))] [(4, .pure (bcells ([] : List UInt8)))] Y ⟨TLes.own Y, TLes.same _, trivial⟩ ⟨Y, trivial⟩ ?_
   refine AW2_ret ?_
   have hz := some_elim H
   subst hz
   exact ⟨⟨res_tmp (.same _), res_tmp (.same _), trivial⟩, ⟨Y, trivial⟩⟩
  ·replace H := ite_else h2 H
   refine as2 [(0, .i tag0), (1, .p (AV.lists parts1))] [] Y Y Y ?_
   refine AW2_skip ?_
   refine AW2_seq ?_
   refine sg [0, 1, 2] Y ?_
   refine rp Y Y (p_move Y Y) ?_
   refine rp Y Y (p_lenl Y Tryd.underlying24 Y Y) ?_
   refine rp Y Y (p_bin Y Y Y Y) ?_
   refine rz [(0, .i tag0), (1, .p (AV.lists parts1)), (17, .b (decide ((parts1.length : Int) > (8 : Int))))] [] Y Y Y ?_
   refine AW2_if (p := (parts1.length : Int) > (8 : Int)) Y (fun h3 => ?_) (fun h3 => ?_)
   ·replace H := ite_then h3 H
    refine sg [0, 1] Y ?_
    refine rp Y Y (p_asgn Y) ?_
    refine rp Y Y (p_asg Y Y) ?_
    refine rz [(4, .p .nil), (5, .i (1 : Int))] [] Y Y Y ?_
    refine as2 [(4, .p .nil), (5, .i (1 : Int))] [] Y Y Y ?_
    refine AW2_gho (Gho_own (d := 4) (b := 4) (z := 1) Y Y Y Y) ?_
    refine AW2_st [(4, .c (.own 4 ([] : List UInt8).length 1)), (5, .i (1 : Int))] [(4, .pure (bcells ([] : List UInt8)))] Y ⟨TLes.own Y, TLes.same _, trivial⟩ ⟨Y, trivial⟩ ?_
    refine AW2_ret ?_
    have hz := some_elim H
    subst hz
    exact ⟨⟨res_tmp (.same _), res_tmp (.same _), trivial⟩, ⟨Y, trivial⟩⟩
   ·replace H := ite_else h3 H
    refine as2 [(0, .i tag0), (1, .p (AV.lists parts1))] [] Y Y Y ?_
    refine AW2_skip ?_
    refine sg [0, 1, 2, 3, 4] Y ?_
    refine rp Y Y (p_move Y Y) ?_
    refine rp Y Y (p_lenl Y Tryd.underlying24 Y Y) ?_
    refine rp Y Y (p_bin Y Y Y Y) ?_
    refine rp Y Y (p_bin Y Y Y Y) ?_
    refine rp Y Y (p_asg Y Y) ?_
    refine rz [(0, .i tag0), (1, .p (AV.lists parts1)), (6, .i (w64 ((16777214 : Int) - (w64 ((4 : Int) * (parts1.length : Int))))))] [] Y Y Y ?_
    refine AW2_seq ?_
    refine sg [0, 1, 2] Y ?_
    refine rp Y Y (p_move Y Y) ?_
    refine rp Y Y (p_lenl Y Tryd.underlying24 Y Y) ?_
    refine rp Y Y (p_move Y Y) ?_
    refine rz [(0, .i tag0), (1, .p (AV.lists parts1)), (6, .i (w64 ((16777214 : Int) - (w64 ((4 : Int) * (parts1.length : Int)))))), (22, .p (AV.lists parts1)), (23, .i (parts1.length : Int)), (24, .i (0 : Int))] [] Y Y Y ?_
    refine AW2_block ?_
    refine as2 [(0, .i tag0), (1, .p (AV.lists parts1)), (6, .i (w64 ((16777214 : Int) - (w64 ((4 : Int) * (parts1.length : Int)))))), (22, .p (AV.lists parts1)), (23, .i (parts1.length : Int)), (24, .i (0 : Int))] [] Y Y Y ?_
    refine bindK H fun o'4 h7 H => ?_
    refine AW2_loopO (fun a'1 : Int × Int => (⟨[(0, .i tag0), (1, .p (AV.lists parts1)), (6, .i a'1.1), (22, .p (AV.lists parts1)), (23, .i (parts1.length : Int)), (24, .i a'1.2)], [], 41⟩ : TS)) (fun (o : ((List UInt8) × Int) ⊕ Unit) e s' => match o with | .inl y'2 => e = Go.Exit.ret ∧ ResAll Tryd.prog s' [ResultVar.tmp 4, ResultVar.tmp 5] [.c (.own 4 y'2.1.length 1), .i y'2.2] ∧ HFits s' [(4, .pure (bcells y'2.1))] | .inr (y'3) => e = Go.Exit.exit 0 ∧ s' = (⟨[(0, .i tag0), (1, .p (AV.lists parts1))], [], 41⟩ : TS)) h7 Y (fun a x hx => ?_) (fun e s' hs => ?_)
    ·clear H
     obtain ⟨room6_0, t24_0⟩ := a
     have H := hx
     clear hx
     unfold g_ref_FrameOf_l0 at H
     refine sg [0] Y ?_
     refine rp Y Y (p_bin Y Y Y Y) ?_
     refine rz [(0, .i tag0), (1, .p (AV.lists parts1)), (6, .i room6_0), (22, .p (AV.lists parts1)), (23, .i (parts1.length : Int)), (24, .i t24_0), (25, .b (decide (t24_0 < (parts1.length : Int))))] [] Y Y Y ?_
     refine AW2_seq ?_
     refine AW2_if (p := t24_0 < (parts1.length : Int)) Y (fun h4 => ?_) (fun h4 => ?_)
     ·replace H := ite_then h4 H
      refine as2 [(0, .i tag0), (1, .p (AV.lists parts1)), (6, .i room6_0), (22, .p (AV.lists parts1)), (23, .i (parts1.length : Int)), (24, .i t24_0)] [] Y Y Y ?_
      refine AW2_skip ?_
      refine AW2_seq ?_
      refine AW2_block ?_
      refine sg [0, 1, 2] Y ?_
      refine chkK H fun h5 H => ?_
      refine rp Y Y (u_ixl Y Y Tryd.underlying24 in_27 Y Y (ixe h5) (ixn h5) (lne (ixn h5))) ?_
      refine rp Y Y (u_ld Y Y Tryd.underlying27 Y Y (Sub.map default (ixn h5))) ?_
      refine rp Y Y (p_asg Y Y) ?_
      refine rz [(0, .i tag0), (1, .p (AV.lists parts1)), (6, .i room6_0), (8, .y (lrd parts1 t24_0.toNat)), (22, .p (AV.lists parts1)), (23, .i (parts1.length : Int)), (24, .i t24_0)] [] Y Y Y ?_
      refine AW2_seq ?_
      refine sg [0, 1, 2, 3] Y ?_
      refine rp Y Y (p_move Y Y) ?_
      refine rp Y Y (p_lenl Y Tryd.underlying27 Y Y) ?_
      refine rp Y Y (p_move Y Y) ?_
      refine rp Y Y (p_bin Y Y Y Y) ?_
      refine rz [(0, .i tag0), (1, .p (AV.lists parts1)), (6, .i room6_0), (8, .y (lrd parts1 t24_0.toNat)), (22, .p (AV.lists parts1)), (23, .i (parts1.length : Int)), (24, .i t24_0), (31, .b (decide (((lrd parts1 t24_0.toNat).length : Int) > room6_0)))] [] Y Y Y ?_
      refine AW2_if (p := ((lrd parts1 t24_0.toNat).length : Int) > room6_0) Y (fun h6 => ?_) (fun h6 => ?_)
      ·replace H := ite_then h6 H
       refine sg [0, 1] Y ?_
       refine rp Y Y (p_asgn Y) ?_
       refine rp Y Y (p_asg Y Y) ?_
       refine rz [(4, .p .nil), (5, .i (1 : Int))] [] Y Y Y ?_
       refine as2 [(4, .p .nil), (5, .i (1 : Int))] [] Y Y Y ?_
       refine AW2_gho (Gho_own (d := 4) (b := 4) (z := 1) Y Y Y Y) ?_
       refine AW2_st [(4, .c (.own 4 ([] : List UInt8).length 1)), (5, .i (1 : Int))] [(4, .pure (bcells ([] : List UInt8)))] Y ⟨TLes.own Y, TLes.same _, trivial⟩ ⟨Y, trivial⟩ ?_
       refine AW2_ret ?_
       have hz := some_elim H
       subst hz
       exact ⟨Y, ⟨res_tmp (.same _), res_tmp (.same _), trivial⟩, ⟨Y, trivial⟩⟩
      ·replace H := ite_else h6 H
       refine as2 [(0, .i tag0), (1, .p (AV.lists parts1)), (6, .i room6_0), (8, .y (lrd parts1 t24_0.toNat)), (22, .p (AV.lists parts1)), (23, .i (parts1.length : Int)), (24, .i t24_0)] [] Y Y Y ?_
       refine AW2_skip ?_
       refine AW2_reg [0, 1, 2, 3, 4] Y ?_
       refine rp Y Y (p_move Y Y) ?_
       refine rp Y Y (p_move Y Y) ?_
       refine rp Y Y (p_lenl Y Tryd.underlying27 Y Y) ?_
       refine rp Y Y (p_bin Y Y Y Y) ?_
       refine rp Y Y (p_asg Y Y) ?_
       refine rz [(0, .i tag0), (1, .p (AV.lists parts1)), (6, .i (w64 (room6_0 - ((lrd parts1 t24_0.toNat).length : Int)))), (22, .p (AV.lists parts1)), (23, .i (parts1.length : Int)), (24, .i t24_0)] [] Y Y Y ?_
       refine AW2_reg [0, 1] Y ?_
       refine rp Y Y (p_bin Y Y Y Y) ?_
       refine rp Y Y (p_move Y Y) ?_
       refine rz [(0, .i tag0), (1, .p (AV.lists parts1)), (6, .i (w64 (room6_0 - ((lrd parts1 t24_0.toNat).length : Int)))), (22, .p (AV.lists parts1)), (23, .i (parts1.length : Int)), (24, .i (w64 (t24_0 + (1 : Int))))] [] Y Y Y ?_
       have hz := some_elim H
       subst hz
       exact ⟨Y, Y⟩
     ·replace H := ite_else h4 H
      refine as2 [(0, .i tag0), (1, .p (AV.lists parts1))] [] Y Y Y ?_
      refine AW2_exit ?_
      refine thenQ2_exit ?_
      have hz := some_elim H
      subst hz
      exact ⟨Y, Y⟩
    ·rcases o'4 with y'5 | y'6
     ·obtain ⟨rfl, hs⟩ := hs
      refine ⟨by simp, ?_⟩
      have hz := some_elim H
      subst hz
      exact ⟨hs.1, hs.2⟩
     ·obtain ⟨rfl, rfl⟩ := hs
      refine ⟨by simp, ?_⟩
      refine blockQ2_exit ?_
      refine sg [0, 1, 2, 3, 4, 5] Y ?_
      refine rp Y Y (p_move Y Y) ?_
      refine rp Y Y (p_move Y Y) ?_
      refine bindK H fun r'7 h8 H => ?_
      refine rp Y Y (p_callp Y Y Y Tryd.func40 Y Y (g_ref_framed_ac h8) ⟨Y, Y, trivial⟩) ?_
      refine r_op Y Y (MakeD.opD (n_sb 40 Y Tryd.underlying9 Tryd.underlying27 Tryd.underlying5 Y) Y Y Y Y) ?_
      refine rp Y Y (p_asg Y Y) ?_
      refine rp Y Y (p_asg Y Y) ?_
      refine rs [(4, .c (.own 40 r'7.length 1)), (5, .i (0 : Int))] [(40, .pure (bcells r'7))] Y Y Y ?_
      refine RunW_gho (Gho_ren 40 4 Y Y Y Y Y) ?_
      refine rz [(4, .c (.own 4 r'7.length 1)), (5, .i (0 : Int))] [(4, .pure (bcells r'7))] Y Y Y ?_
      refine as2 [(4, .c (.own 4 r'7.length 1)), (5, .i (0 : Int))] [(4, .pure (bcells r'7))] Y Y Y ?_
      refine AW2_ret ?_
      have hz := some_elim H
      subst hz
      exact ⟨⟨res_tmp (.same _), res_tmp (.same _), trivial⟩, ⟨Y, trivial⟩⟩
theorem g_ref_FrameOf_ac {tag0 : Int} {parts1 : List (List UInt8)} {r : (List UInt8) × Int} (H : g_ref_FrameOf tag0 parts1 = some r) : ACp Tryd.prog 35 [(AV.int tag0), (AV.lists parts1)] (.tup [(AV.bytes r.1), (AV.int r.2)]) := ACp_pub (g_ref_FrameOf_ac2 H) (fun _ _ hm => lent_tup ⟨lent_own hm rfl (bl r.1) (by decide), .same _, trivial⟩)

/-! chirographref.hexWord -/
noncomputable def g_ref_hexWord_l0 (t17'1 : Int) (t16'2 : List UInt8) : UInt32 × Int → Option ((UInt32 × Int) ⊕ (UInt32))
  | (n5_0, t18_0) => (if t18_0 < t17'1 then if 0 ≤ t18_0 ∧ t18_0 < (t16'2.length : Int) then ((if (97 : UInt8) ≤ (lrd t16'2 t18_0.toNat) then some (((lrd t16'2 t18_0.toNat) - (97 : UInt8)) + (10 : UInt8)) else some ((lrd t16'2 t18_0.toNat) - (48 : UInt8)))).bind fun j'3 => some (.inl ((n5_0 * (16 : UInt32)) + j'3.toUInt32, w64 (t18_0 + (1 : Int)))) else none else some (.inr n5_0))
noncomputable def g_ref_hexWord (s0 : List UInt8) (i1 : Int) : Option (UInt32) :=
  if 0 ≤ w64 ((8 : Int) * i1) ∧ w64 ((8 : Int) * i1) ≤ w64 ((w64 ((8 : Int) * i1)) + (8 : Int)) ∧ w64 ((w64 ((8 : Int) * i1)) + (8 : Int)) ≤ (s0.length : Int) then letO (((cut s0 (w64 ((8 : Int) * i1)) (w64 ((w64 ((8 : Int) * i1)) + (8 : Int)))).length : Int)) fun t17'1 => letO ((cut s0 (w64 ((8 : Int) * i1)) (w64 ((w64 ((8 : Int) * i1)) + (8 : Int))))) fun t16'2 => (loopO (g_ref_hexWord_l0 t17'1 t16'2) ((0 : UInt32), (0 : Int))).bind fun y'7 => some y'7 else none
set_option maxHeartbeats 4000000 in
set_option maxRecDepth 100000 in
theorem g_ref_hexWord_ac {s0 : List UInt8} {i1 : Int} {r : UInt32} (H : g_ref_hexWord s0 i1 = some r) : ACp Tryd.prog 52 [(AV.txt s0), (AV.int i1)] (AV.u32 r) := by
 refine ACp_of (AC2_of_body (vs := [.p (AV.u32 r)]) Tryd.func52 Y Y (Nat.le_of_ble_eq_true Y) Y ?_) (fun _ => .same _)
 unfold g_ref_hexWord at H
 refine as2 [(0, .t s0), (1, .i i1)] [] Y Y Y ?_
 refine sg [0] Y ?_
 refine rp Y Y (p_asg Y Y) ?_
 refine rz [(0, .t s0), (1, .i i1)] [] Y Y Y ?_
 refine sg [0] Y ?_
 refine rp Y Y (p_asg Y Y) ?_
 refine rz [(0, .t s0), (1, .i i1), (5, .p (AV.u32 (0 : UInt32)))] [] Y Y Y ?_
 refine AW2_seq ?_
 refine sg [0, 1, 2, 3, 4, 5, 6, 7, 8, 9] Y ?_
 refine rp Y Y (p_move Y Y) ?_
 refine rp Y Y (p_move Y Y) ?_
 refine rp Y Y (p_bin Y Y Y Y) ?_
 refine rp Y Y (p_move Y Y) ?_
 refine rp Y Y (p_bin Y Y Y Y) ?_
 refine rp Y Y (p_bin Y Y Y Y) ?_
 refine chkK H fun h1 H => ?_
 refine rp Y Y (u_cutt (a := w64 ((8 : Int) * i1)) (b := w64 ((w64 ((8 : Int) * i1)) + (8 : Int))) Y Tryd.underlying9 Y (bT_i (show 0 ≤ w64 ((8 : Int) * i1) ∧ w64 ((8 : Int) * i1) ≤ w64 ((w64 ((8 : Int) * i1)) + (8 : Int)) ∧ w64 ((w64 ((8 : Int) * i1)) + (8 : Int)) ≤ (s0.length : Int) from h1).1 Y) (bT_i (Int.le_trans (show 0 ≤ w64 ((8 : Int) * i1) ∧ w64 ((8 : Int) * i1) ≤ w64 ((w64 ((8 : Int) * i1)) + (8 : Int)) ∧ w64 ((w64 ((8 : Int) * i1)) + (8 : Int)) ≤ (s0.length : Int) from h1).1 (show 0 ≤ w64 ((8 : Int) * i1) ∧ w64 ((8 : Int) * i1) ≤ w64 ((w64 ((8 : Int) * i1)) + (8 : Int)) ∧ w64 ((w64 ((8 : Int) * i1)) + (8 : Int)) ≤ (s0.length : Int) from h1).2.1) Y) (show 0 ≤ w64 ((8 : Int) * i1) ∧ w64 ((8 : Int) * i1) ≤ w64 ((w64 ((8 : Int) * i1)) + (8 : Int)) ∧ w64 ((w64 ((8 : Int) * i1)) + (8 : Int)) ≤ (s0.length : Int) from h1)) ?_
 refine r_op Y Y (MakeD.opD (n_sb 16 Y Tryd.underlying9 Tryd.underlying27 Tryd.underlying5 Y) Y Y Y Y) ?_
 refine rp Y Y (p_leno Y Tryd.underlying27 Y Y Y (bl (cut s0 (w64 ((8 : Int) * i1)) (w64 ((w64 ((8 : Int) * i1)) + (8 : Int))))) (by decide)) ?_
 refine rp Y Y (p_move Y Y) ?_
 refine rz [(5, .p (AV.u32 (0 : UInt32))), (16, .c (.own 16 (cut s0 (w64 ((8 : Int) * i1)) (w64 ((w64 ((8 : Int) * i1)) + (8 : Int)))).length 1)), (17, .i ((cut s0 (w64 ((8 : Int) * i1)) (w64 ((w64 ((8 : Int) * i1)) + (8 : Int)))).length : Int)), (18, .i (0 : Int))] [(16, .pure (bcells (cut s0 (w64 ((8 : Int) * i1)) (w64 ((w64 ((8 : Int) * i1)) + (8 : Int))))))] Y Y Y ?_
 refine gen1 (fun t17'1 => (⟨[(5, .p (AV.u32 (0 : UInt32))), (16, .c (.own 16 (cut s0 (w64 ((8 : Int) * i1)) (w64 ((w64 ((8 : Int) * i1)) + (8 : Int)))).length 1)), (17, .i t17'1), (18, .i (0 : Int))], [(16, .pure (bcells (cut s0 (w64 ((8 : Int) * i1)) (w64 ((w64 ((8 : Int) * i1)) + (8 : Int))))))], 36⟩ : TS)) H ?_
 intro t17'1 H
 refine gen1 (fun t16'2 => (⟨[(5, .p (AV.u32 (0 : UInt32))), (16, .c (.own 16 t16'2.length 1)), (17, .i t17'1), (18, .i (0 : Int))], [(16, .pure (bcells t16'2))], 36⟩ : TS)) H ?_
 intro t16'2 H
 refine AW2_block ?_
 refine as2 [(5, .p (AV.u32 (0 : UInt32))), (16, .c (.own 16 t16'2.length 1)), (17, .i t17'1), (18, .i (0 : Int))] [(16, .pure (bcells t16'2))] Y Y Y ?_
 refine bindK H fun y'7 h6 H => ?_
 refine AW2_loopO (fun a'4 : UInt32 × Int => (⟨[(5, .p (AV.u32 a'4.1)), (16, .c (.own 16 t16'2.length 1)), (17, .i t17'1), (18, .i a'4.2)], [(16, .pure (bcells t16'2))], 36⟩ : TS)) (fun (y'5 : UInt32) e s' => e = Go.Exit.exit 0 ∧ s' = (⟨[(5, .p (AV.u32 y'5))], [], 36⟩ : TS)) h6 Y (fun a x hx => ?_) (fun e s' hs => ?_)
 ·clear H
  obtain ⟨n5_0, t18_0⟩ := a
  have H := hx
  clear hx
  unfold g_ref_hexWord_l0 at H
  refine sg [0] Y ?_
  refine rp Y Y (p_bin Y Y Y Y) ?_
  refine rz [(5, .p (AV.u32 n5_0)), (16, .c (.own 16 t16'2.length 1)), (17, .i t17'1), (18, .i t18_0), (19, .b (decide (t18_0 < t17'1)))] [(16, .pure (bcells t16'2))] Y Y Y ?_
  refine AW2_seq ?_
  refine AW2_if (p := t18_0 < t17'1) Y (fun h2 => ?_) (fun h2 => ?_)
  ·replace H := ite_then h2 H
   refine as2 [(5, .p (AV.u32 n5_0)), (16, .c (.own 16 t16'2.length 1)), (17, .i t17'1), (18, .i t18_0)] [(16, .pure (bcells t16'2))] Y Y Y ?_
   refine AW2_skip ?_
   refine AW2_seq ?_
   refine AW2_block ?_
   refine sg [0, 1, 2] Y ?_
   refine chkK H fun h3 H => ?_
   refine rp Y Y (u_ixo Y Y Tryd.underlying27 in_5 Y Y (lne (ixn h3)) Y (ixe h3) (ixn h3)) ?_
   refine rp Y Y (u_ld Y Y Tryd.underlying5 Y Y ((Sub.refl _).trans (Sub.map default (ixn h3)))) ?_
   refine rp Y Y (p_asg Y Y) ?_
   refine rz [(5, .p (AV.u32 n5_0)), (7, .p (AV.b8 (lrd t16'2 t18_0.toNat))), (16, .c (.own 16 t16'2.length 1)), (17, .i t17'1), (18, .i t18_0)] [(16, .pure (bcells t16'2))] Y Y Y ?_
   refine sg [0, 1, 2] Y ?_
   refine rp Y Y (p_move Y Y) ?_
   refine rp Y Y (p_u8sub (a := (lrd t16'2 t18_0.toNat)) (b := (48 : UInt8)) Y Y Y) ?_
   refine rp Y Y (p_asg Y Y) ?_
   refine rz [(5, .p (AV.u32 n5_0)), (7, .p (AV.b8 (lrd t16'2 t18_0.toNat))), (8, .p (AV.b8 ((lrd t16'2 t18_0.toNat) - (48 : UInt8)))), (16, .c (.own 16 t16'2.length 1)), (17, .i t17'1), (18, .i t18_0)] [(16, .pure (bcells t16'2))] Y Y Y ?_
   refine AW2_seq ?_
   refine bindK H fun j'3 h4 H => ?_
   refine AW2_mid (⟨[(5, .p (AV.u32 n5_0)), (8, .p (AV.b8 j'3)), (16, .c (.own 16 t16'2.length 1)), (17, .i t17'1), (18, .i t18_0)], [(16, .pure (bcells t16'2))], 36⟩ : TS) ?_ ?_
   ·clear H
    have H := h4
    clear h4
    refine sg [0, 1] Y ?_
    refine rp Y Y (p_move Y Y) ?_
    refine rp Y Y (p_u8ge (a := (lrd t16'2 t18_0.toNat)) (b := (97 : UInt8)) Y Y Y) ?_
    refine rz [(5, .p (AV.u32 n5_0)), (7, .p (AV.b8 (lrd t16'2 t18_0.toNat))), (8, .p (AV.b8 ((lrd t16'2 t18_0.toNat) - (48 : UInt8)))), (16, .c (.own 16 t16'2.length 1)), (17, .i t17'1), (18, .i t18_0), (25, .b (decide ((97 : UInt8) ≤ (lrd t16'2 t18_0.toNat))))] [(16, .pure (bcells t16'2))] Y Y Y ?_
    refine AW2_if (p := (97 : UInt8) ≤ (lrd t16'2 t18_0.toNat)) Y (fun h5 => ?_) (fun h5 => ?_)
    ·replace H := ite_then h5 H
     refine AW2_reg [0, 1, 2, 3] Y ?_
     refine rp Y Y (p_move Y Y) ?_
     refine rp Y Y (p_u8sub (a := (lrd t16'2 t18_0.toNat)) (b := (97 : UInt8)) Y Y Y) ?_
     refine rp Y Y (p_u8add (a := (lrd t16'2 t18_0.toNat) - (97 : UInt8)) (b := (10 : UInt8)) Y Y Y) ?_
     refine rp Y Y (p_asg Y Y) ?_
     refine rz [(5, .p (AV.u32 n5_0)), (8, .p (AV.b8 (((lrd t16'2 t18_0.toNat) - (97 : UInt8)) + (10 : UInt8)))), (16, .c (.own 16 t16'2.length 1)), (17, .i t17'1), (18, .i t18_0)] [(16, .pure (bcells t16'2))] Y Y Y ?_
     have hz := some_elim H
     subst hz
     exact rfl
    ·replace H := ite_else h5 H
     refine as2 [(5, .p (AV.u32 n5_0)), (8, .p (AV.b8 ((lrd t16'2 t18_0.toNat) - (48 : UInt8)))), (16, .c (.own 16 t16'2.length 1)), (17, .i t17'1), (18, .i t18_0)] [(16, .pure (bcells t16'2))] Y Y Y ?_
     refine AW2_skip ?_
     have hz := some_elim H
     subst hz
     exact rfl
   ·refine AW2_reg [0, 1, 2, 3, 4, 5] Y ?_
    refine rp Y Y (p_move Y Y) ?_
    refine rp Y Y (p_u32mul (a := n5_0) (b := (16 : UInt32)) Y Y Y) ?_
    refine rp Y Y (p_move Y Y) ?_
    refine rp Y Y (p_u8_u32 (a := j'3) Y Tryd.underlying5 Tryd.underlying66 Y) ?_
    refine rp Y Y (p_u32add (a := n5_0 * (16 : UInt32)) (b := j'3.toUInt32) Y Y Y) ?_
    refine rp Y Y (p_asg Y Y) ?_
    refine rz [(5, .p (AV.u32 ((n5_0 * (16 : UInt32)) + j'3.toUInt32))), (16, .c (.own 16 t16'2.length 1)), (17, .i t17'1), (18, .i t18_0)] [(16, .pure (bcells t16'2))] Y Y Y ?_
    refine AW2_reg [0, 1] Y ?_
    refine rp Y Y (p_bin Y Y Y Y) ?_
    refine rp Y Y (p_move Y Y) ?_
    refine rz [(5, .p (AV.u32 ((n5_0 * (16 : UInt32)) + j'3.toUInt32))), (16, .c (.own 16 t16'2.length 1)), (17, .i t17'1), (18, .i (w64 (t18_0 + (1 : Int))))] [(16, .pure (bcells t16'2))] Y Y Y ?_
    have hz := some_elim H
    subst hz
    exact ⟨Y, Y⟩
  ·replace H := ite_else h2 H
   refine as2 [(5, .p (AV.u32 n5_0))] [] Y Y Y ?_
   refine AW2_exit ?_
   refine thenQ2_exit ?_
   have hz := some_elim H
   subst hz
   exact ⟨Y, Y⟩
 ·obtain ⟨rfl, rfl⟩ := hs
  refine ⟨by simp, ?_⟩
  refine blockQ2_exit ?_
  refine sg [0, 1] Y ?_
  refine rp Y Y (p_move Y Y) ?_
  refine rp Y Y (p_asg Y Y) ?_
  refine rz [(4, .p (AV.u32 y'7))] [] Y Y Y ?_
  refine AW2_ret ?_
  have hz := some_elim H
  subst hz
  exact ⟨⟨res_tmp (.same _), trivial⟩, trivial⟩

/-! chirographref.Begun -/
def g_ref_Begun_t0 : List UInt8 := [54, 97, 48, 57, 101, 54, 54, 55, 98, 98, 54, 55, 97, 101, 56, 53, 51, 99, 54, 101, 102, 51, 55, 50, 97, 53, 52, 102, 102, 53, 51, 97, 53, 49, 48, 101, 53, 50, 55, 102, 57, 98, 48, 53, 54, 56, 56, 99, 49, 102, 56, 51, 100, 57, 97, 98, 53, 98, 101, 48, 99, 100, 49, 57]
noncomputable def g_ref_Begun_l0 : Int × GStream → Option ((Int × GStream) ⊕ (GStream))
  | (t3_0, s1_0) => (if t3_0 < (8 : Int) then (g_ref_hexWord g_ref_Begun_t0 t3_0).bind fun r'1 => if 0 ≤ t3_0 ∧ t3_0 < (8 : Int) then some (.inl (w64 (t3_0 + (1 : Int)), { s1_0 with H := (vwr s1_0.H t3_0.toNat r'1) })) else none else some (.inr s1_0))
noncomputable def g_ref_Begun : Option (GStream) :=
  (loopO (g_ref_Begun_l0) ((0 : Int), GStream.zero)).bind fun y'5 => some y'5
set_option maxHeartbeats 4000000 in
set_option maxRecDepth 100000 in
theorem g_ref_Begun_ac {r : GStream} (H : g_ref_Begun = some r) : ACp Tryd.prog 42 [] (.agg (GStream.cs r)) := by
 refine ACp_of (AC2_of_body (vs := [.g (GStream.cs r)]) Tryd.func42 Y Y (Nat.le_of_ble_eq_true Y) Y ?_) (fun _ => .same _)
 unfold g_ref_Begun at H
 refine as2 [] [] Y Y Y ?_
 refine sg [0] Y ?_
 refine r_op Y Y (MakeD.opD (u_alloc 0 Y in_70 one_70 zc_70) Y Y Y Y) ?_
 refine rz [(0, .q 0 (0))] [(0, .pure (GStream.cs GStream.zero))] Y Y Y ?_
 refine sg [0] Y ?_
 refine r_op Y Y (MakeD.opD (u_alloc 1 Y in_70 one_70 zc_70) Y Y Y Y) ?_
 refine rz [(0, .q 0 (0)), (1, .q 1 (0))] [(0, .pure (GStream.cs GStream.zero)), (1, .pure (GStream.cs GStream.zero))] Y Y Y ?_
 refine AW2_seq ?_
 refine sg [0] Y ?_
 refine rp Y Y (p_move Y Y) ?_
 refine rz [(0, .q 0 (0)), (1, .q 1 (0)), (3, .i (0 : Int))] [(0, .pure (GStream.cs GStream.zero)), (1, .pure (GStream.cs GStream.zero))] Y Y Y ?_
 refine AW2_block ?_
 refine as2 [(0, .q 0 (0)), (1, .q 1 (0)), (3, .i (0 : Int))] [(0, .pure (GStream.cs GStream.zero)), (1, .pure (GStream.cs GStream.zero))] Y Y Y ?_
 refine bindK H fun y'5 h4 H => ?_
 refine AW2_loopO (fun a'2 : Int × GStream => (⟨[(0, .q 0 (0)), (1, .q 1 (0)), (3, .i a'2.1)], [(0, .pure (GStream.cs GStream.zero)), (1, .pure (GStream.cs a'2.2))], 13⟩ : TS)) (fun (y'3 : GStream) e s' => e = Go.Exit.exit 0 ∧ s' = (⟨[(0, .q 0 (0)), (1, .q 1 (0))], [(0, .pure (GStream.cs GStream.zero)), (1, .pure (GStream.cs y'3))], 13⟩ : TS)) h4 Y (fun a x hx => ?_) (fun e s' hs => ?_)
 ·clear H
  obtain ⟨t3_0, s1_0⟩ := a
  have H := hx
  clear hx
  unfold g_ref_Begun_l0 at H
  refine sg [0] Y ?_
  refine rp Y Y (p_bin Y Y Y Y) ?_
  refine rz [(0, .q 0 (0)), (1, .q 1 (0)), (3, .i t3_0), (4, .b (decide (t3_0 < (8 : Int))))] [(0, .pure (GStream.cs GStream.zero)), (1, .pure (GStream.cs s1_0))] Y Y Y ?_
  refine AW2_seq ?_
  refine AW2_if (p := t3_0 < (8 : Int)) Y (fun h1 => ?_) (fun h1 => ?_)
  ·replace H := ite_then h1 H
   refine as2 [(0, .q 0 (0)), (1, .q 1 (0)), (3, .i t3_0)] [(0, .pure (GStream.cs GStream.zero)), (1, .pure (GStream.cs s1_0))] Y Y Y ?_
   refine AW2_skip ?_
   refine AW2_seq ?_
   refine AW2_block ?_
   refine sg [0, 1] Y ?_
   refine rp Y Y (p_move Y Y) ?_
   refine rp Y Y (p_asg Y Y) ?_
   refine rz [(0, .q 0 (0)), (1, .q 1 (0)), (2, .i t3_0), (3, .i t3_0)] [(0, .pure (GStream.cs GStream.zero)), (1, .pure (GStream.cs s1_0))] Y Y Y ?_
   refine AW2_reg [0, 1, 2, 3, 4, 5] Y ?_
   refine rp Y Y (p_move Y Y) ?_
   refine rp Y Y (p_move Y Y) ?_
   refine bindK H fun r'1 h2 H => ?_
   refine rp Y Y (p_callp Y Y Y Tryd.func52 Y Y (g_ref_hexWord_ac h2) ⟨by kernel_rfl, Y, trivial⟩) ?_
   refine rp Y Y (u_fa Y Y Tryd.underlying70 Y in_67 nz Y Y (nl (GStream.len s1_0))) ?_
   refine chkK H fun h3 H => ?_
   refine rp Y Y (u_ixp Y Y Tryd.underlying67 in_66 Y Y (nl (GStream.len s1_0)) Y (ixe h3) (ixn h3)) ?_
   refine r_op Y Y (u_st Y Y Y Y Y in_66 Y (nl (GStream.len s1_0)) (Upd.trans ((Sub.refl _).trans (GStream.sub0 s1_0)) (Upd.vmap (ixn h3)) (Upd.trans (Sub.refl _) (GStream.upd0 s1_0 (vwr s1_0.H t3_0.toNat r'1)) (Upd.refl ((GStream.len ((GStream.w0 s1_0 (vwr s1_0.H t3_0.toNat r'1)))).trans (GStream.len s1_0).symm))))) ?_
   refine rz [(0, .q 0 (0)), (1, .q 1 (0)), (3, .i t3_0)] [(0, .pure (GStream.cs GStream.zero)), (1, .pure (GStream.cs ((GStream.w0 s1_0 (vwr s1_0.H t3_0.toNat r'1)))))] Y Y Y ?_
   refine AW2_reg [0, 1] Y ?_
   refine rp Y Y (p_bin Y Y Y Y) ?_
   refine rp Y Y (p_move Y Y) ?_
   refine rz [(0, .q 0 (0)), (1, .q 1 (0)), (3, .i (w64 (t3_0 + (1 : Int))))] [(0, .pure (GStream.cs GStream.zero)), (1, .pure (GStream.cs ((GStream.w0 s1_0 (vwr s1_0.H t3_0.toNat r'1)))))] Y Y Y ?_
   have hz := some_elim H
   subst hz
   exact ⟨Y, Y⟩
  ·replace H := ite_else h1 H
   refine as2 [(0, .q 0 (0)), (1, .q 1 (0))] [(0, .pure (GStream.cs GStream.zero)), (1, .pure (GStream.cs s1_0))] Y Y Y ?_
   refine AW2_exit ?_
   refine thenQ2_exit ?_
   have hz := some_elim H
   subst hz
   exact ⟨Y, Y⟩
 ·obtain ⟨rfl, rfl⟩ := hs
  refine ⟨by simp, ?_⟩
  refine blockQ2_exit ?_
  refine sg [0, 1] Y ?_
  refine rp Y Y (u_lda Y Y Tryd.underlying70 Y in_70 Y (Nat.succ_pos _) (Sub.refl _) (GStream.len y'5)) ?_
  refine r_op Y Y (u_st Y Y Y Y Y in_70 (GStream.len y'5) (nl (GStream.len GStream.zero)) (Upd.refl ((GStream.len y'5).trans (GStream.len GStream.zero).symm))) ?_
  refine rz [(0, .q 0 (0))] [(0, .pure (GStream.cs y'5))] Y Y Y ?_
  refine AW2_ret ?_
  have hz := some_elim H
  subst hz
  exact ⟨⟨res_cella Tryd.underlying70 Y in_70.sz Y (Sub.le (Sub.refl _) (GStream.len y'5)) (by decide) (Sub.take (Sub.refl _) (GStream.len y'5)), trivial⟩, trivial⟩

/-! chirographref.badStream -/
noncomputable def g_ref_badStream_l0 (s0 : GStream) : Int → Option (Int ⊕ (Bool ⊕ Unit))
  | t23_0 => (if t23_0 < (64 : Int) then if 0 ≤ t23_0 ∧ t23_0 < (64 : Int) then (if (t23_0 ≥ s0.N) ∧ ((vrd s0.Held t23_0.toNat) ≠ (0 : UInt8)) then some (.inr (.inl true)) else some (.inl (w64 (t23_0 + (1 : Int))))) else none else some (.inr (.inr ())))
noncomputable def g_ref_badStream (s0 : GStream) : Option (Bool) :=
  (if ((s0.Len < (0 : Int)) ∨ (s0.Len > (1152921504606846976 : Int))) ∨ (s0.N ≠ s0.Len.tmod (64 : Int)) then some true else (loopO (g_ref_badStream_l0 s0) (0 : Int)).bind fun o'4 => match o'4 with | .inl y'5 => some y'5 | .inr (y'6) => some false)
set_option maxHeartbeats 4000000 in
set_option maxRecDepth 100000 in
theorem g_ref_badStream_ac {s0 : GStream} {r : Bool} (H : g_ref_badStream s0 = some r) : ACp Tryd.prog 49 [(.agg (GStream.cs s0))] (AV.bool r) := by
 refine ACp_of (AC2_of_body (vs := [.b r]) Tryd.func49 Y Y (Nat.le_of_ble_eq_true Y) Y ?_) (fun _ => .same _)
 unfold g_ref_badStream at H
 refine as2 [(0, .g (GStream.cs s0))] [] Y Y Y ?_
 refine sg [0, 1] Y ?_
 refine r_op Y Y (MakeD.opD (n_box 1 Y Y) Y Y Y Y) ?_
 refine rp Y Y (p_asg Y Y) ?_
 refine rz [(1, .q 1 (0))] [(1, .pure (GStream.cs s0))] Y Y Y ?_
 refine AW2_seq ?_
 refine AW2_seq ?_
 refine AW2_mid (⟨[(1, .q 1 (0)), (20, .b (decide (((s0.Len < (0 : Int)) ∨ (s0.Len > (1152921504606846976 : Int))) ∨ (s0.N ≠ s0.Len.tmod (64 : Int)))))], [(1, .pure (GStream.cs s0))], 36⟩ : TS) ?_ ?_
 ·refine AW2_reg [0, 1, 2, 3, 4, 5, 6, 7, 8, 9, 10, 11, 12, 13, 14, 15] Y ?_
  refine rp Y Y (u_fa Y Y Tryd.underlying70 Y in_3 nz Y Y (nl (GStream.len s0))) ?_
  refine rp Y Y (u_ld Y Y Tryd.underlying3 Y Y ((Sub.refl _).trans (GStream.sub3 s0))) ?_
  refine rp Y Y (p_bin Y Y Y Y) ?_
  refine rp Y Y (p_move Y Y) ?_
  refine (Classical.em (s0.Len < (0 : Int))).elim (fun h1 => ?_) (fun h1 => ?_)
  ·refine r_off Y Y Y Y (dT h1) Y Y ?_
   refine r_off Y Y Y Y (dT h1) Y Y ?_
   refine r_off Y Y Y Y (dT h1) Y Y ?_
   refine rp Y Y (p_pkt Y Y (dT h1) (tb (dT (p := (s0.Len < (0 : Int)) ∨ (s0.Len > (1152921504606846976 : Int))) (Or.inl h1)).symm)) ?_
   refine rp Y Y (p_move Y Y) ?_
   refine r_off Y Y Y Y (dT (p := (s0.Len < (0 : Int)) ∨ (s0.Len > (1152921504606846976 : Int))) (Or.inl h1)) Y Y ?_
   refine r_off Y Y Y Y (dT (p := (s0.Len < (0 : Int)) ∨ (s0.Len > (1152921504606846976 : Int))) (Or.inl h1)) Y Y ?_
   refine r_off Y Y Y Y (dT (p := (s0.Len < (0 : Int)) ∨ (s0.Len > (1152921504606846976 : Int))) (Or.inl h1)) Y Y ?_
   refine r_off Y Y Y Y (dT (p := (s0.Len < (0 : Int)) ∨ (s0.Len > (1152921504606846976 : Int))) (Or.inl h1)) Y Y ?_
   refine r_off Y Y Y Y (dT (p := (s0.Len < (0 : Int)) ∨ (s0.Len > (1152921504606846976 : Int))) (Or.inl h1)) Y Y ?_
   refine r_off Y Y Y Y (dT (p := (s0.Len < (0 : Int)) ∨ (s0.Len > (1152921504606846976 : Int))) (Or.inl h1)) Y Y ?_
   refine rp Y Y (p_pkt Y Y (dT (p := (s0.Len < (0 : Int)) ∨ (s0.Len > (1152921504606846976 : Int))) (Or.inl h1)) (tb (dT (p := ((s0.Len < (0 : Int)) ∨ (s0.Len > (1152921504606846976 : Int))) ∨ (s0.N ≠ s0.Len.tmod (64 : Int))) (Or.inl (Or.inl h1))).symm)) ?_
   refine rs [(1, .q 1 (0)), (20, .b (decide (((s0.Len < (0 : Int)) ∨ (s0.Len > (1152921504606846976 : Int))) ∨ (s0.N ≠ s0.Len.tmod (64 : Int)))))] [(1, .pure (GStream.cs s0))] Y Y Y ?_
   exact RunW_nil rfl
  ·refine r_on Y Y Y Y (dF h1) Y (PureD.opD (u_fa Y Y Tryd.underlying70 Y in_3 nz Y Y (nl (GStream.len s0)))) ?_
   refine r_on Y Y Y Y (dF h1) Y (PureD.opD (u_ld Y Y Tryd.underlying3 Y Y ((Sub.refl _).trans (GStream.sub3 s0)))) ?_
   refine r_on Y Y Y Y (dF h1) Y (PureD.opD (p_bin Y Y Y Y)) ?_
   refine rp Y Y (p_pkf Y Y (dF h1) (tb ((or_l (p := s0.Len < (0 : Int)) (q := s0.Len > (1152921504606846976 : Int)) h1)))) ?_
   refine rp Y Y (p_move Y Y) ?_
   refine (Classical.em (s0.Len > (1152921504606846976 : Int))).elim (fun h2 => ?_) (fun h2 => ?_)
   ·refine r_off Y Y Y Y (dT (p := (s0.Len < (0 : Int)) ∨ (s0.Len > (1152921504606846976 : Int))) (Or.inr h2)) Y Y ?_
    refine r_off Y Y Y Y (dT (p := (s0.Len < (0 : Int)) ∨ (s0.Len > (1152921504606846976 : Int))) (Or.inr h2)) Y Y ?_
    refine r_off Y Y Y Y (dT (p := (s0.Len < (0 : Int)) ∨ (s0.Len > (1152921504606846976 : Int))) (Or.inr h2)) Y Y ?_
    refine r_off Y Y Y Y (dT (p := (s0.Len < (0 : Int)) ∨ (s0.Len > (1152921504606846976 : Int))) (Or.inr h2)) Y Y ?_
    refine r_off Y Y Y Y (dT (p := (s0.Len < (0 : Int)) ∨ (s0.Len > (1152921504606846976 : Int))) (Or.inr h2)) Y Y ?_
    refine r_off Y Y Y Y (dT (p := (s0.Len < (0 : Int)) ∨ (s0.Len > (1152921504606846976 : Int))) (Or.inr h2)) Y Y ?_
    refine rp Y Y (p_pkt Y Y (dT (p := (s0.Len < (0 : Int)) ∨ (s0.Len > (1152921504606846976 : Int))) (Or.inr h2)) (tb (dT (p := ((s0.Len < (0 : Int)) ∨ (s0.Len > (1152921504606846976 : Int))) ∨ (s0.N ≠ s0.Len.tmod (64 : Int))) (Or.inl (Or.inr h2))).symm)) ?_
    refine rs [(1, .q 1 (0)), (20, .b (decide (((s0.Len < (0 : Int)) ∨ (s0.Len > (1152921504606846976 : Int))) ∨ (s0.N ≠ s0.Len.tmod (64 : Int)))))] [(1, .pure (GStream.cs s0))] Y Y Y ?_
    exact RunW_nil rfl
   ·refine r_on Y Y Y Y (dF (p := (s0.Len < (0 : Int)) ∨ (s0.Len > (1152921504606846976 : Int))) (not_or.2 ⟨h1, h2⟩)) Y (PureD.opD (u_fa Y Y Tryd.underlying70 Y in_3 nz Y Y (nl (GStream.len s0)))) ?_
    refine r_on Y Y Y Y (dF (p := (s0.Len < (0 : Int)) ∨ (s0.Len > (1152921504606846976 : Int))) (not_or.2 ⟨h1, h2⟩)) Y (PureD.opD (u_ld Y Y Tryd.underlying3 Y Y ((Sub.refl _).trans (GStream.sub2 s0)))) ?_
    refine r_on Y Y Y Y (dF (p := (s0.Len < (0 : Int)) ∨ (s0.Len > (1152921504606846976 : Int))) (not_or.2 ⟨h1, h2⟩)) Y (PureD.opD (u_fa Y Y Tryd.underlying70 Y in_3 nz Y Y (nl (GStream.len s0)))) ?_
    refine r_on Y Y Y Y (dF (p := (s0.Len < (0 : Int)) ∨ (s0.Len > (1152921504606846976 : Int))) (not_or.2 ⟨h1, h2⟩)) Y (PureD.opD (u_ld Y Y Tryd.underlying3 Y Y ((Sub.refl _).trans (GStream.sub3 s0)))) ?_
    refine r_on Y Y Y Y (dF (p := (s0.Len < (0 : Int)) ∨ (s0.Len > (1152921504606846976 : Int))) (not_or.2 ⟨h1, h2⟩)) Y (PureD.opD (p_irem Y Y Y (by decide))) ?_
    refine r_on Y Y Y Y (dF (p := (s0.Len < (0 : Int)) ∨ (s0.Len > (1152921504606846976 : Int))) (not_or.2 ⟨h1, h2⟩)) Y (PureD.opD (p_ine Y Y Y)) ?_
    refine rp Y Y (p_pkf Y Y (dF (p := (s0.Len < (0 : Int)) ∨ (s0.Len > (1152921504606846976 : Int))) (not_or.2 ⟨h1, h2⟩)) (tb ((or_l (p := (s0.Len < (0 : Int)) ∨ (s0.Len > (1152921504606846976 : Int))) (q := s0.N ≠ s0.Len.tmod (64 : Int)) (not_or.2 ⟨h1, h2⟩))))) ?_
    refine rs [(1, .q 1 (0)), (20, .b (decide (((s0.Len < (0 : Int)) ∨ (s0.Len > (1152921504606846976 : Int))) ∨ (s0.N ≠ s0.Len.tmod (64 : Int)))))] [(1, .pure (GStream.cs s0))] Y Y Y ?_
    exact RunW_nil rfl
 ·refine AW2_if (p := ((s0.Len < (0 : Int)) ∨ (s0.Len > (1152921504606846976 : Int))) ∨ (s0.N ≠ s0.Len.tmod (64 : Int))) Y (fun h3 => ?_) (fun h3 => ?_)
  ·replace H := ite_then h3 H
   refine sg [0] Y ?_
   refine rp Y Y (p_asg Y Y) ?_
   refine rz [(2, .b true)] [] Y Y Y ?_
   refine AW2_ret ?_
   have hz := some_elim H
   subst hz
   exact ⟨⟨res_tmp (.same _), trivial⟩, trivial⟩
  ·replace H := ite_else h3 H
   refine as2 [(1, .q 1 (0))] [(1, .pure (GStream.cs s0))] Y Y Y ?_
   refine AW2_skip ?_
   refine AW2_seq ?_
   refine sg [0, 1, 2] Y ?_
   refine rp Y Y (u_fa Y Y Tryd.underlying70 Y in_68 nz Y Y (nl (GStream.len s0))) ?_
   refine rp Y Y (u_lda Y Y Tryd.underlying68 Y in_68 Y (Nat.succ_pos _) ((Sub.refl _).trans (GStream.sub1 s0)) ((bcells_length _).trans (vlen s0.Held))) ?_
   refine rp Y Y (p_move Y Y) ?_
   refine rz [(1, .q 1 (0)), (22, .g (bcells s0.Held.toList)), (23, .i (0 : Int))] [(1, .pure (GStream.cs s0))] Y Y Y ?_
   refine AW2_block ?_
   refine as2 [(1, .q 1 (0)), (22, .g (bcells s0.Held.toList)), (23, .i (0 : Int))] [(1, .pure (GStream.cs s0))] Y Y Y ?_
   refine bindK H fun o'4 h8 H => ?_
   refine AW2_loopO (fun a'1 : Int => (⟨[(1, .q 1 (0)), (22, .g (bcells s0.Held.toList)), (23, .i a'1)], [(1, .pure (GStream.cs s0))], 36⟩ : TS)) (fun (o : Bool ⊕ Unit) e s' => match o with | .inl y'2 => e = Go.Exit.ret ∧ ResAll Tryd.prog s' [ResultVar.tmp 2] [.b y'2] ∧ HFits s' [] | .inr (y'3) => e = Go.Exit.exit 0 ∧ s' = (⟨[], [], 36⟩ : TS)) h8 Y (fun t23_0 x hx => ?_) (fun e s' hs => ?_)
   ·clear H
    have H := hx
    clear hx
    unfold g_ref_badStream_l0 at H
    refine sg [0] Y ?_
    refine rp Y Y (p_bin Y Y Y Y) ?_
    refine rz [(1, .q 1 (0)), (22, .g (bcells s0.Held.toList)), (23, .i t23_0), (24, .b (decide (t23_0 < (64 : Int))))] [(1, .pure (GStream.cs s0))] Y Y Y ?_
    refine AW2_seq ?_
    refine AW2_if (p := t23_0 < (64 : Int)) Y (fun h4 => ?_) (fun h4 => ?_)
    ·replace H := ite_then h4 H
     refine as2 [(1, .q 1 (0)), (22, .g (bcells s0.Held.toList)), (23, .i t23_0)] [(1, .pure (GStream.cs s0))] Y Y Y ?_
     refine AW2_skip ?_
     refine AW2_seq ?_
     refine AW2_block ?_
     refine sg [0, 1, 2, 3] Y ?_
     refine rp Y Y (p_move Y Y) ?_
     refine chkK H fun h5 H => ?_
     refine rp Y Y (u_ixa Y Y Tryd.underlying68 in_5 Tryd.underlying5 Y Y Y (ixe h5) (ixn h5) (Sub.vmap (ixn h5))) ?_
     refine rp Y Y (p_asg Y Y) ?_
     refine rp Y Y (p_asg Y Y) ?_
     refine rz [(1, .q 1 (0)), (3, .i t23_0), (4, .p (AV.b8 (vrd s0.Held t23_0.toNat))), (22, .g (bcells s0.Held.toList)), (23, .i t23_0)] [(1, .pure (GStream.cs s0))] Y Y Y ?_
     refine AW2_seq ?_
     refine AW2_mid (⟨[(1, .q 1 (0)), (22, .g (bcells s0.Held.toList)), (23, .i t23_0), (34, .b (decide ((t23_0 ≥ s0.N) ∧ ((vrd s0.Held t23_0.toNat) ≠ (0 : UInt8)))))], [(1, .pure (GStream.cs s0))], 36⟩ : TS) ?_ ?_
     ·refine AW2_reg [0, 1, 2, 3, 4, 5, 6, 7] Y ?_
      refine rp Y Y (p_move Y Y) ?_
      refine rp Y Y (u_fa Y Y Tryd.underlying70 Y in_3 nz Y Y (nl (GStream.len s0))) ?_
      refine rp Y Y (u_ld Y Y Tryd.underlying3 Y Y ((Sub.refl _).trans (GStream.sub2 s0))) ?_
      refine rp Y Y (p_bin Y Y Y Y) ?_
      refine rp Y Y (p_move Y Y) ?_
      refine (Classical.em (t23_0 ≥ s0.N)).elim (fun h6 => ?_) (fun h6 => ?_)
      ·refine r_on Y Y Y Y (dT h6) Y (PureD.opD (p_move Y Y)) ?_
       refine r_on Y Y Y Y (dT h6) Y (PureD.opD (p_u8ne (a := (vrd s0.Held t23_0.toNat)) (b := (0 : UInt8)) Y Y Y)) ?_
       refine rp Y Y (p_pkt Y Y (dT h6) (tb ((and_l (p := t23_0 ≥ s0.N) (q := (vrd s0.Held t23_0.toNat) ≠ (0 : UInt8)) h6)))) ?_
       refine rs [(1, .q 1 (0)), (22, .g (bcells s0.Held.toList)), (23, .i t23_0), (34, .b (decide ((t23_0 ≥ s0.N) ∧ ((vrd s0.Held t23_0.toNat) ≠ (0 : UInt8)))))] [(1, .pure (GStream.cs s0))] Y Y Y ?_
       exact RunW_nil rfl
      ·refine r_off Y Y Y Y (dF h6) Y Y ?_
       refine r_off Y Y Y Y (dF h6) Y Y ?_
       refine rp Y Y (p_pkf Y Y (dF h6) (tb (dF (p := (t23_0 ≥ s0.N) ∧ ((vrd s0.Held t23_0.toNat) ≠ (0 : UInt8))) (fun x => h6 x.1)).symm)) ?_
       refine rs [(1, .q 1 (0)), (22, .g (bcells s0.Held.toList)), (23, .i t23_0), (34, .b (decide ((t23_0 ≥ s0.N) ∧ ((vrd s0.Held t23_0.toNat) ≠ (0 : UInt8)))))] [(1, .pure (GStream.cs s0))] Y Y Y ?_
       exact RunW_nil rfl
     ·refine AW2_if (p := (t23_0 ≥ s0.N) ∧ ((vrd s0.Held t23_0.toNat) ≠ (0 : UInt8))) Y (fun h7 => ?_) (fun h7 => ?_)
      ·replace H := ite_then h7 H
       refine sg [0] Y ?_
       refine rp Y Y (p_asg Y Y) ?_
       refine rz [(2, .b true)] [] Y Y Y ?_
       refine AW2_ret ?_
       have hz := some_elim H
       subst hz
       exact ⟨Y, ⟨res_tmp (.same _), trivial⟩, trivial⟩
      ·replace H := ite_else h7 H
       refine as2 [(1, .q 1 (0)), (22, .g (bcells s0.Held.toList)), (23, .i t23_0)] [(1, .pure (GStream.cs s0))] Y Y Y ?_
       refine AW2_skip ?_
       refine AW2_reg [0, 1] Y ?_
       refine rp Y Y (p_bin Y Y Y Y) ?_
       refine rp Y Y (p_move Y Y) ?_
       refine rz [(1, .q 1 (0)), (22, .g (bcells s0.Held.toList)), (23, .i (w64 (t23_0 + (1 : Int))))] [(1, .pure (GStream.cs s0))] Y Y Y ?_
       have hz := some_elim H
       subst hz
       exact ⟨Y, Y⟩
    ·replace H := ite_else h4 H
     refine as2 [] [] Y Y Y ?_
     refine AW2_exit ?_
     refine thenQ2_exit ?_
     have hz := some_elim H
     subst hz
     exact ⟨Y, Y⟩
   ·rcases o'4 with y'5 | y'6
    ·obtain ⟨rfl, hs⟩ := hs
     refine ⟨by simp, ?_⟩
     have hz := some_elim H
     subst hz
     exact ⟨hs.1, hs.2⟩
    ·obtain ⟨rfl, rfl⟩ := hs
     refine ⟨by simp, ?_⟩
     refine blockQ2_exit ?_
     refine sg [0] Y ?_
     refine rp Y Y (p_asg Y Y) ?_
     refine rz [(2, .b false)] [] Y Y Y ?_
     refine AW2_ret ?_
     have hz := some_elim H
     subst hz
     exact ⟨⟨res_tmp (.same _), trivial⟩, trivial⟩

/-! chirographref.heldOf -/
def g_ref_heldOf_r2 : List (List (Nat × Option Nat)) := [[(3, none)], [(6, some 0)], [(1, none)], [(8, some 2)]]
def g_ref_heldOf_r2c : List (List Nat) := [[], [0], [], [2], [0, 1, 2, 3], [0, 1, 2, 3, 4]]
noncomputable def g_ref_heldOf (s0 : GStream) : Option ((List UInt8)) :=
  if 0 ≤ s0.N ∧ s0.N ≤ (s0.Held.toList.length : Int) then some (cut s0.Held.toList (0 : Int) s0.N) else none
set_option maxHeartbeats 4000000 in
set_option maxRecDepth 100000 in
theorem g_ref_heldOf_ac {s0 : GStream} {r : (List UInt8)} (H : g_ref_heldOf s0 = some r) : ACp Tryd.prog 50 [(.agg (GStream.cs s0))] (AV.txt r) := by
 refine ACp_of (AC2_of_body (vs := [.t r]) Tryd.func50 Y Y (Nat.le_of_ble_eq_true Y) Y ?_) (fun _ => .same _)
 unfold g_ref_heldOf at H
 refine as2 [(0, .g (GStream.cs s0))] [] Y Y Y ?_
 refine sg [0, 1] Y ?_
 refine r_op Y Y (MakeD.opD (n_box 1 Y Y) Y Y Y Y) ?_
 refine rp Y Y (p_asg Y Y) ?_
 refine rz [(1, .q 1 (0))] [(1, .pure (GStream.cs s0))] Y Y Y ?_
 refine sg [0, 1, 2, 3] Y ?_
 refine rp Y Y (u_fa Y Y Tryd.underlying70 Y in_68 nz Y Y (nl (GStream.len s0))) ?_
 refine rp Y Y (u_lda Y Y Tryd.underlying68 Y in_68 Y (Nat.succ_pos _) ((Sub.refl _).trans (GStream.sub1 s0)) ((bcells_length _).trans (vlen s0.Held))) ?_
 refine r_op Y Y (MakeD.opD (u_alloc 3 Y in_68 one_68 zc_68) Y Y Y Y) ?_
 refine r_op Y Y (u_st Y Y Y Y Y in_68 ((bcells_length _).trans (vlen s0.Held)) (nl ((bcells_length _).trans (vlen (Vector.replicate 64 (0 : UInt8))))) (Upd.refl (((bcells_length _).trans (vlen s0.Held)).trans ((bcells_length _).trans (vlen (Vector.replicate 64 (0 : UInt8)))).symm))) ?_
 refine rz [(1, .q 1 (0)), (3, .q 3 (0))] [(1, .pure (GStream.cs s0)), (3, .pure (bcells s0.Held.toList))] Y Y Y ?_
 refine AW2_seq ?_
 refine chkK H fun h1 H => ?_
 refine AW2_ghoQ ?_
 refine AW2_draw 4 [4, 5] (fun k => ([.c (.sl 3 (0 + 0 * 1) 64 1), .t s0.Held.toList, .q 1 (0 + 72), .i s0.N] : List TV).getD k TV.any) (fun k => g_ref_heldOf_r2.getD k []) [(7, some 1), (9, some 3)] [] (fun k => g_ref_heldOf_r2c.getD k []) mixed (by kernel_rfl) Y Y (a_op (g_x Y (x_p Y (u_cuta Y Y Tryd.underlying68 in_5 Y Y (nl ((bcells_length _).trans (vlen s0.Held))) (Sub.refl _) (((bcells_length _).trans (vlen s0.Held)).trans (by decide))) Y)) (a_op (g_x Y (x_p Y (u_cbl Y Y Tryd.underlying27 Tryd.underlying5 Tryd.underlying9 (bs := s0.Held.toList) (vlen _) Y Y (nl ((bcells_length _).trans (vlen s0.Held))) (Sub.refl _)) Y)) (a_op (g_x Y (x_p Y (u_fa Y Y Tryd.underlying70 Y in_3 nz Y Y (nl (GStream.len s0))) Y)) (a_op (g_x Y (x_p Y (u_ld Y Y Tryd.underlying3 Y Y ((Sub.refl _).trans (GStream.sub2 s0))) Y)) (a_nil))))) ?_
 refine t_op Y Y (PureD.opD (u_cutt (a := (0 : Int)) (b := s0.N) Y Tryd.underlying9 Y bT_zero (bT_i (Int.le_trans (show 0 ≤ (0 : Int) ∧ (0 : Int) ≤ s0.N ∧ s0.N ≤ (s0.Held.toList.length : Int) from ⟨Int.le_refl _, h1.1, h1.2⟩).1 (show 0 ≤ (0 : Int) ∧ (0 : Int) ≤ s0.N ∧ s0.N ≤ (s0.Held.toList.length : Int) from ⟨Int.le_refl _, h1.1, h1.2⟩).2.1) Y) (show 0 ≤ (0 : Int) ∧ (0 : Int) ≤ s0.N ∧ s0.N ≤ (s0.Held.toList.length : Int) from ⟨Int.le_refl _, h1.1, h1.2⟩))) ?_
 refine t_op Y Y (PureD.opD (p_asg Y Y)) ?_
 refine t_gho (Gho_st (L := [(2, .t (cut s0.Held.toList (0 : Int) s0.N))]) (H := []) (N := 11) Y ⟨TLes.same _, trivial⟩ trivial) ?_
 refine AW2_ret ?_
 have hz := some_elim H
 subst hz
 exact ⟨⟨res_tmp (.same _), trivial⟩, trivial⟩

/-! chirographref.number -/
noncomputable def g_ref_number_l0 (s0 : List UInt8) : UInt64 × Int → Option ((UInt64 × Int) ⊕ (UInt64))
  | (n3_0, i4_0) => (if i4_0 < (s0.length : Int) then if 0 ≤ i4_0 ∧ i4_0 < (s0.length : Int) then some (.inl ((n3_0 * (256 : UInt64)) + ((lrd s0 i4_0.toNat).toUInt64), w64 (i4_0 + (1 : Int)))) else none else some (.inr n3_0))
noncomputable def g_ref_number (s0 : List UInt8) : Option (UInt64) :=
  (loopO (g_ref_number_l0 s0) ((0 : UInt64), (0 : Int))).bind fun y'4 => some y'4
set_option maxHeartbeats 4000000 in
set_option maxRecDepth 100000 in
theorem g_ref_number_ac {s0 : List UInt8} {r : UInt64} (H : g_ref_number s0 = some r) : ACp Tryd.prog 59 [(AV.txt s0)] (AV.u64 r) := by
 refine ACp_of (AC2_of_body (vs := [.p (AV.u64 r)]) Tryd.func59 Y Y (Nat.le_of_ble_eq_true Y) Y ?_) (fun _ => .same _)
 unfold g_ref_number at H
 refine as2 [(0, .t s0)] [] Y Y Y ?_
 refine sg [0] Y ?_
 refine rp Y Y (p_asg Y Y) ?_
 refine rz [(0, .t s0)] [] Y Y Y ?_
 refine sg [0] Y ?_
 refine rp Y Y (p_asg Y Y) ?_
 refine rz [(0, .t s0), (3, .p (AV.u64 (0 : UInt64)))] [] Y Y Y ?_
 refine AW2_seq ?_
 refine sg [0] Y ?_
 refine rp Y Y (p_asg Y Y) ?_
 refine rz [(0, .t s0), (3, .p (AV.u64 (0 : UInt64))), (4, .i (0 : Int))] [] Y Y Y ?_
 refine AW2_block ?_
 refine as2 [(0, .t s0), (3, .p (AV.u64 (0 : UInt64))), (4, .i (0 : Int))] [] Y Y Y ?_
 refine bindK H fun y'4 h3 H => ?_
 refine AW2_loopO (fun a'1 : UInt64 × Int => (⟨[(0, .t s0), (3, .p (AV.u64 a'1.1)), (4, .i a'1.2)], [], 19⟩ : TS)) (fun (y'2 : UInt64) e s' => e = Go.Exit.exit 0 ∧ s' = (⟨[(3, .p (AV.u64 y'2))], [], 19⟩ : TS)) h3 Y (fun a x hx => ?_) (fun e s' hs => ?_)
 ·clear H
  obtain ⟨n3_0, i4_0⟩ := a
  have H := hx
  clear hx
  unfold g_ref_number_l0 at H
  refine AW2_seq ?_
  refine sg [0, 1, 2, 3] Y ?_
  refine rp Y Y (p_move Y Y) ?_
  refine rp Y Y (p_move Y Y) ?_
  refine rp Y Y (p_lent Y Tryd.underlying9 Y) ?_
  refine rp Y Y (p_bin Y Y Y Y) ?_
  refine rz [(0, .t s0), (3, .p (AV.u64 n3_0)), (4, .i i4_0), (8, .b (decide (i4_0 < (s0.length : Int))))] [] Y Y Y ?_
  refine AW2_if (p := i4_0 < (s0.length : Int)) Y (fun h1 => ?_) (fun h1 => ?_)
  ·replace H := ite_then h1 H
   refine as2 [(0, .t s0), (3, .p (AV.u64 n3_0)), (4, .i i4_0)] [] Y Y Y ?_
   refine AW2_skip ?_
   refine AW2_seq ?_
   refine AW2_block ?_
   refine AW2_reg [0, 1, 2, 3, 4, 5, 6, 7] Y ?_
   refine rp Y Y (p_move Y Y) ?_
   refine rp Y Y (p_u64mul (a := n3_0) (b := (256 : UInt64)) Y Y Y) ?_
   refine rp Y Y (p_move Y Y) ?_
   refine rp Y Y (p_move Y Y) ?_
   refine chkK H fun h2 H => ?_
   refine rp Y Y (p_ixt Y Tryd.underlying9 Y Y (ixe h2) (lrd_get (ixn h2))) ?_
   refine rp Y Y (p_u8_u64 (a := (lrd s0 i4_0.toNat)) Y Tryd.underlying5 Tryd.underlying78 Y) ?_
   refine rp Y Y (p_u64add (a := n3_0 * (256 : UInt64)) (b := (lrd s0 i4_0.toNat).toUInt64) Y Y Y) ?_
   refine rp Y Y (p_asg Y Y) ?_
   refine rz [(0, .t s0), (3, .p (AV.u64 ((n3_0 * (256 : UInt64)) + ((lrd s0 i4_0.toNat).toUInt64)))), (4, .i i4_0)] [] Y Y Y ?_
   refine AW2_reg [0, 1, 2] Y ?_
   refine rp Y Y (p_move Y Y) ?_
   refine rp Y Y (p_bin Y Y Y Y) ?_
   refine rp Y Y (p_asg Y Y) ?_
   refine rz [(0, .t s0), (3, .p (AV.u64 ((n3_0 * (256 : UInt64)) + ((lrd s0 i4_0.toNat).toUInt64)))), (4, .i (w64 (i4_0 + (1 : Int))))] [] Y Y Y ?_
   have hz := some_elim H
   subst hz
   exact ⟨Y, Y⟩
  ·replace H := ite_else h1 H
   refine as2 [(3, .p (AV.u64 n3_0))] [] Y Y Y ?_
   refine AW2_exit ?_
   refine thenQ2_exit ?_
   have hz := some_elim H
   subst hz
   exact ⟨Y, Y⟩
 ·obtain ⟨rfl, rfl⟩ := hs
  refine ⟨by simp, ?_⟩
  refine blockQ2_exit ?_
  refine sg [0, 1] Y ?_
  refine rp Y Y (p_move Y Y) ?_
  refine rp Y Y (p_asg Y Y) ?_
  refine rz [(2, .p (AV.u64 y'4))] [] Y Y Y ?_
  refine AW2_ret ?_
  have hz := some_elim H
  subst hz
  exact ⟨⟨res_tmp (.same _), trivial⟩, trivial⟩

/-! chirographref.rot -/
def g_ref_rot_r1 : List (List (Nat × Option Nat)) := [[(0, none)], [(1, none)], [(5, some 0), (6, some 1)], [(0, none)], [(1, none)], [(9, some 4)], [(8, some 3), (10, some 5)]]
def g_ref_rot_r1c : List (List Nat) := [[], [], [0, 1], [], [], [4], [3, 4, 5], [0, 1, 2, 3, 4, 5, 6], [0, 1, 2, 3, 4, 5, 6, 7]]
noncomputable def g_ref_rot (x0 : UInt32) (n1 : Int) : Option (UInt32) :=
  if 0 ≤ n1 then if 0 ≤ w64 ((32 : Int) - n1) then some ((shr_u32 x0 n1.toNat) ||| (shl_u32 x0 ((w64 ((32 : Int) - n1)).toNat))) else none else none
set_option maxHeartbeats 4000000 in
set_option maxRecDepth 100000 in
theorem g_ref_rot_ac {x0 : UInt32} {n1 : Int} {r : UInt32} (H : g_ref_rot x0 n1 = some r) : ACp Tryd.prog 58 [(AV.u32 x0), (AV.int n1)] (AV.u32 r) := by
 refine ACp_of (AC2_of_body (vs := [.p (AV.u32 r)]) Tryd.func58 Y Y (Nat.le_of_ble_eq_true Y) Y ?_) (fun _ => .same _)
 unfold g_ref_rot at H
 refine as2 [(0, .p (AV.u32 x0)), (1, .i n1)] [] Y Y Y ?_
 refine sg [0] Y ?_
 refine rp Y Y (p_asg Y Y) ?_
 refine rz [(0, .p (AV.u32 x0)), (1, .i n1)] [] Y Y Y ?_
 refine AW2_seq ?_
 refine chkK H fun h1 H => ?_
 refine chkK H fun h2 H => ?_
 refine AW2_ghoQ ?_
 refine AW2_draw 7 [7, 8] (fun k => ([.p (AV.u32 x0), .i n1, .p (AV.u32 (shr_u32 x0 n1.toNat)), .p (AV.u32 x0), .i n1, .i (w64 ((32 : Int) - n1)), .p (AV.u32 (shl_u32 x0 ((w64 ((32 : Int) - n1)).toNat)))] : List TV).getD k TV.any) (fun k => g_ref_rot_r1.getD k []) [(7, some 2), (11, some 6)] [] (fun k => g_ref_rot_r1c.getD k []) mixed (by kernel_rfl) Y Y (a_op (g_x Y (x_p Y (p_move Y Y) Y)) (a_op (g_x Y (x_p Y (p_move Y Y) Y)) (a_op (g_x Y (x_p Y (p_u32shr (n := n1.toNat) Y Y Y (Int.toNat_of_nonneg h1).symm) Y)) (a_op (g_x Y (x_p Y (p_move Y Y) Y)) (a_op (g_x Y (x_p Y (p_move Y Y) Y)) (a_op (g_x Y (x_p Y (p_bin Y Y Y Y) Y)) (a_op (g_x Y (x_p Y (p_u32shl (n := (w64 ((32 : Int) - n1)).toNat) Y Y Y (Int.toNat_of_nonneg h2).symm) Y)) (a_nil)))))))) ?_
 refine t_op Y Y (PureD.opD (p_u32or (a := shr_u32 x0 n1.toNat) (b := shl_u32 x0 ((w64 ((32 : Int) - n1)).toNat)) Y Y Y)) ?_
 refine t_op Y Y (PureD.opD (p_asg Y Y)) ?_
 refine t_gho (Gho_st (L := [(4, .p (AV.u32 ((shr_u32 x0 n1.toNat) ||| (shl_u32 x0 ((w64 ((32 : Int) - n1)).toNat)))))]) (H := []) (N := 13) Y ⟨TLes.same _, trivial⟩ trivial) ?_
 refine AW2_ret ?_
 have hz := some_elim H
 subst hz
 exact ⟨⟨res_tmp (.same _), trivial⟩, trivial⟩

/-! chirographref.schedule -/
def g_ref_schedule_r8 : List (List (Nat × Option Nat)) := [[(3, none)], [(5, none)], [(30, some 1)], [(29, some 0), (31, some 2)], [(32, some 3)], [(3, none)], [(5, none)], [(35, some 6)], [(34, some 5), (36, some 7)], [(37, some 8)], [(33, some 4)]]
def g_ref_schedule_r8c : List (List Nat) := [[], [], [1], [0, 1, 2], [0, 1, 2, 3], [], [], [6], [5, 6, 7], [5, 6, 7, 8], [0, 1, 2, 3, 4], [0, 1, 2, 3, 4, 5, 6, 7, 8, 9, 10]]
def g_ref_schedule_r9 : List (List (Nat × Option Nat)) := [[(3, none)], [(3, none)], [(5, none)], [(41, some 2)], [(40, some 1), (42, some 3)], [(43, some 4)], [(3, none)], [(5, none)], [(46, some 7)], [(45, some 6), (47, some 8)], [(48, some 9)], [(44, some 5), (49, some 10)], [(6, none)], [(51, some 12)], [(6, none)], [(53, some 14)], [(52, some 13), (54, some 15)], [(6, none)], [(56, some 17)], [(55, some 16), (57, some 18)], [(50, some 11), (58, some 19)], [(7, none)], [(60, some 21)], [(7, none)], [(62, some 23)], [(61, some 22), (63, some 24)], [(7, none)], [(65, some 26)], [(64, some 25), (66, some 27)], [(59, some 20), (67, some 28)], [(68, some 29)]]
def g_ref_schedule_r9c : List (List Nat) := [[], [], [], [2], [1, 2, 3], [1, 2, 3, 4], [], [], [7], [6, 7, 8], [6, 7, 8, 9], [1, 2, 3, 4, 5, 6, 7, 8, 9, 10], [], [12], [], [12, 13, 14], [12, 13, 14, 15], [], [17], [12, 13, 14, 15, 16, 17, 18], [1, 2, 3, 4, 5, 6, 7, 8, 9, 10, 11, 12, 13, 14, 15, 16, 17, 18, 19], [], [12, 13, 14, 15, 21], [], [12, 13, 14, 15, 21, 22, 23], [12, 13, 14, 15, 21, 22, 23, 24], [], [26], [12, 13, 14, 15, 21, 22, 23, 24, 25, 26, 27], [1, 2, 3, 4, 5, 6, 7, 8, 9, 10, 11, 12, 13, 14, 15, 16, 17, 18, 19, 20, 21, 22, 23, 24, 25, 26, 27, 28], [1, 2, 3, 4, 5, 6, 7, 8, 9, 10, 11, 12, 13, 14, 15, 16, 17, 18, 19, 20, 21, 22, 23, 24, 25, 26, 27, 28, 29], [0, 1, 2, 3, 4, 5, 6, 7, 8, 9, 10, 11, 12, 13, 14, 15, 16, 17, 18, 19, 20, 21, 22, 23, 24, 25, 26, 27, 28, 29, 30], [0, 1, 2, 3, 4, 5, 6, 7, 8, 9, 10, 11, 12, 13, 14, 15, 16, 17, 18, 19, 20, 21, 22, 23, 24, 25, 26, 27, 28, 29, 30, 31]]
noncomputable def g_ref_schedule_l0 (b0 : List UInt8) : Int × (List UInt32) → Option ((Int × (List UInt32)) ⊕ (((List UInt32))))
  | (i4_0, w3_0) => (if i4_0 < (16 : Int) then if 0 ≤ w64 ((4 : Int) * i4_0) ∧ w64 ((4 : Int) * i4_0) ≤ w64 ((w64 ((4 : Int) * i4_0)) + (4 : Int)) ∧ w64 ((w64 ((4 : Int) * i4_0)) + (4 : Int)) ≤ (b0.length : Int) then (g_ref_number (cut b0 (w64 ((4 : Int) * i4_0)) (w64 ((w64 ((4 : Int) * i4_0)) + (4 : Int))))).bind fun r'1 => if room (w3_0.length + ([r'1.toUInt32] : List UInt32).length) 4 then some (.inl (w64 (i4_0 + (1 : Int)), w3_0 ++ ([r'1.toUInt32] : List UInt32))) else none else none else some (.inr w3_0))
noncomputable def g_ref_schedule_l1 : (List UInt32) → Option (((List UInt32)) ⊕ (((List UInt32))))
  | w3_1 => (if (w3_1.length : Int) < (64 : Int) then if 0 ≤ w64 ((w3_1.length : Int) - (15 : Int)) ∧ w64 ((w3_1.length : Int) - (15 : Int)) < (w3_1.length : Int) then if 0 ≤ w64 ((w3_1.length : Int) - (2 : Int)) ∧ w64 ((w3_1.length : Int) - (2 : Int)) < (w3_1.length : Int) then if 0 ≤ w64 ((w3_1.length : Int) - (16 : Int)) ∧ w64 ((w3_1.length : Int) - (16 : Int)) < (w3_1.length : Int) then if 0 ≤ w64 ((w3_1.length : Int) - (7 : Int)) ∧ w64 ((w3_1.length : Int) - (7 : Int)) < (w3_1.length : Int) then (g_ref_rot (lrd w3_1 ((w64 ((w3_1.length : Int) - (15 : Int))).toNat)) (7 : Int)).bind fun r'6 => (g_ref_rot (lrd w3_1 ((w64 ((w3_1.length : Int) - (15 : Int))).toNat)) (18 : Int)).bind fun r'7 => (g_ref_rot (lrd w3_1 ((w64 ((w3_1.length : Int) - (2 : Int))).toNat)) (17 : Int)).bind fun r'8 => (g_ref_rot (lrd w3_1 ((w64 ((w3_1.length : Int) - (2 : Int))).toNat)) (19 : Int)).bind fun r'9 => if room (w3_1.length + ([(((lrd w3_1 ((w64 ((w3_1.length : Int) - (16 : Int))).toNat)) + (lrd w3_1 ((w64 ((w3_1.length : Int) - (7 : Int))).toNat))) + ((r'6 ^^^ r'7) ^^^ (shr_u32 (lrd w3_1 ((w64 ((w3_1.length : Int) - (15 : Int))).toNat)) 3))) + ((r'8 ^^^ r'9) ^^^ (shr_u32 (lrd w3_1 ((w64 ((w3_1.length : Int) - (2 : Int))).toNat)) 10))] : List UInt32).length) 4 then letO (w3_1 ++ ([(((lrd w3_1 ((w64 ((w3_1.length : Int) - (16 : Int))).toNat)) + (lrd w3_1 ((w64 ((w3_1.length : Int) - (7 : Int))).toNat))) + ((r'6 ^^^ r'7) ^^^ (shr_u32 (lrd w3_1 ((w64 ((w3_1.length : Int) - (15 : Int))).toNat)) 3))) + ((r'8 ^^^ r'9) ^^^ (shr_u32 (lrd w3_1 ((w64 ((w3_1.length : Int) - (2 : Int))).toNat)) 10))] : List UInt32)) fun w3'10 => some (.inl w3'10) else none else none else none else none else none else some (.inr w3_1))
noncomputable def g_ref_schedule (b0 : List UInt8) : Option ((List UInt32)) :=
  (loopO (g_ref_schedule_l0 b0) ((0 : Int), ([] : List UInt32))).bind fun y'5 => (loopO (g_ref_schedule_l1) y'5).bind fun y'14 => some y'14
set_option maxHeartbeats 4000000 in
set_option maxRecDepth 100000 in
theorem g_ref_schedule_ac2 {b0 : List UInt8} {r : (List UInt32)} (H : g_ref_schedule b0 = some r) : AC2 Tryd.prog 57 (pureT [(AV.txt b0)]) [] (.c (.own 2 r.length 1)) [(2, .pure (r.map AV.u32))] := by
 refine AC2_of_body (vs := [.c (.own 2 r.length 1)]) Tryd.func57 Y Y (Nat.le_of_ble_eq_true Y) Y ?_
 unfold g_ref_schedule at H
 refine as2 [(0, .t b0)] [] Y Y Y ?_
 refine sg [0] Y ?_
 refine rp Y Y (p_asgn Y) ?_
 refine rz [(0, .t b0)] [] Y Y Y ?_
 refine sg [0] Y ?_
 refine rp Y Y (p_asgn Y) ?_
 refine rz [(0, .t b0), (3, .p .nil)] [] Y Y Y ?_
 refine AW2_seq ?_
 refine sg [0] Y ?_
 refine rp Y Y (p_asg Y Y) ?_
 refine rz [(0, .t b0), (3, .p .nil), (4, .i (0 : Int))] [] Y Y Y ?_
 refine AW2_block ?_
 refine as2 [(0, .t b0), (3, .p .nil), (4, .i (0 : Int))] [] Y Y Y ?_
 refine AW2_gho (Gho_own (d := 3) (b := 3) (z := 1) Y Y Y Y) ?_
 refine AW2_st [(0, .t b0), (3, .c (.own 3 ([] : List UInt32).length 1)), (4, .i (0 : Int))] [(3, .pure (([] : List UInt32).map AV.u32))] Y ⟨TLes.same _, TLes.own Y, TLes.same _, trivial⟩ ⟨Y, trivial⟩ ?_
 refine bindK H fun y'5 h5 H => ?_
 refine AW2_loopO (fun a'2 : Int × (List UInt32) => (⟨[(0, .t b0), (3, .c (.own 3 a'2.2.length 1)), (4, .i a'2.1)], [(3, .pure (a'2.2.map AV.u32))], 72⟩ : TS)) (fun (y'3 : ((List UInt32))) e s' => e = Go.Exit.exit 0 ∧ s' = (⟨[(3, .c (.own 3 y'3.length 1))], [(3, .pure (y'3.map AV.u32))], 72⟩ : TS)) h5 Y (fun a x hx => ?_) (fun e s' hs => ?_)
 ·clear H
  obtain ⟨i4_0, w3_0⟩ := a
  have H := hx
  clear hx
  unfold g_ref_schedule_l0 at H
  refine AW2_seq ?_
  refine sg [0, 1] Y ?_
  refine rp Y Y (p_move Y Y) ?_
  refine rp Y Y (p_bin Y Y Y Y) ?_
  refine rz [(0, .t b0), (3, .c (.own 3 w3_0.length 1)), (4, .i i4_0), (9, .b (decide (i4_0 < (16 : Int))))] [(3, .pure (w3_0.map AV.u32))] Y Y Y ?_
  refine AW2_if (p := i4_0 < (16 : Int)) Y (fun h1 => ?_) (fun h1 => ?_)
  ·replace H := ite_then h1 H
   refine as2 [(0, .t b0), (3, .c (.own 3 w3_0.length 1)), (4, .i i4_0)] [(3, .pure (w3_0.map AV.u32))] Y Y Y ?_
   refine AW2_skip ?_
   refine AW2_seq ?_
   refine AW2_block ?_
   refine AW2_reg [0, 1, 2, 3, 4, 5, 6, 7, 8, 9, 10, 11, 12] Y ?_
   refine rp Y Y (p_move Y Y) ?_
   refine rp Y Y (p_move Y Y) ?_
   refine rp Y Y (p_move Y Y) ?_
   refine rp Y Y (p_bin Y Y Y Y) ?_
   refine rp Y Y (p_move Y Y) ?_
   refine rp Y Y (p_bin Y Y Y Y) ?_
   refine rp Y Y (p_bin Y Y Y Y) ?_
   refine chkK H fun h2 H => ?_
   refine rp Y Y (u_cutt (a := w64 ((4 : Int) * i4_0)) (b := w64 ((w64 ((4 : Int) * i4_0)) + (4 : Int))) Y Tryd.underlying9 Y (bT_i (show 0 ≤ w64 ((4 : Int) * i4_0) ∧ w64 ((4 : Int) * i4_0) ≤ w64 ((w64 ((4 : Int) * i4_0)) + (4 : Int)) ∧ w64 ((w64 ((4 : Int) * i4_0)) + (4 : Int)) ≤ (b0.length : Int) from h2).1 Y) (bT_i (Int.le_trans (show 0 ≤ w64 ((4 : Int) * i4_0) ∧ w64 ((4 : Int) * i4_0) ≤ w64 ((w64 ((4 : Int) * i4_0)) + (4 : Int)) ∧ w64 ((w64 ((4 : Int) * i4_0)) + (4 : Int)) ≤ (b0.length : Int) from h2).1 (show 0 ≤ w64 ((4 : Int) * i4_0) ∧ w64 ((4 : Int) * i4_0) ≤ w64 ((w64 ((4 : Int) * i4_0)) + (4 : Int)) ∧ w64 ((w64 ((4 : Int) * i4_0)) + (4 : Int)) ≤ (b0.length : Int) from h2).2.1) Y) (show 0 ≤ w64 ((4 : Int) * i4_0) ∧ w64 ((4 : Int) * i4_0) ≤ w64 ((w64 ((4 : Int) * i4_0)) + (4 : Int)) ∧ w64 ((w64 ((4 : Int) * i4_0)) + (4 : Int)) ≤ (b0.length : Int) from h2)) ?_
   refine bindK H fun r'1 h3 H => ?_
   refine rp Y Y (p_callp Y Y Y Tryd.func59 Y Y (g_ref_number_ac h3) ⟨Y, trivial⟩) ?_
   refine rp Y Y (p_u64_u32 (a := r'1) Y Tryd.underlying78 Tryd.underlying66 Y) ?_
   refine r_op Y Y (MakeD.opD (u_bs 22 Y Tryd.underlying88 in_66 Y one_66 (by decide) (by decide) Y Y Y) Y Y Y Y) ?_
   refine chkK H fun h4 H => ?_
   refine r_op Y Y (u_app [3, 12] Y Y Y Y Tryd.underlying88 Tryd.underlying88 in_66 Y Y Y (ml AV.u32 w3_0) (by decide) (srcT_o Y Y (ml AV.u32 ([r'1.toUInt32] : List UInt32)) (by decide)) (ml AV.u32 ([r'1.toUInt32] : List UInt32)) h4 (by decide) Y Y (mapp AV.u32 w3_0 ([r'1.toUInt32] : List UInt32)) (lapp w3_0 ([r'1.toUInt32] : List UInt32))) ?_
   refine rp Y Y (p_asg Y Y) ?_
   refine rz [(0, .t b0), (3, .c (.own 3 (w3_0 ++ ([r'1.toUInt32] : List UInt32)).length 1)), (4, .i i4_0)] [(3, .pure ((w3_0 ++ ([r'1.toUInt32] : List UInt32)).map AV.u32))] Y Y Y ?_
   refine AW2_reg [0, 1, 2] Y ?_
   refine rp Y Y (p_move Y Y) ?_
   refine rp Y Y (p_bin Y Y Y Y) ?_
   refine rp Y Y (p_asg Y Y) ?_
   refine rz [(0, .t b0), (3, .c (.own 3 (w3_0 ++ ([r'1.toUInt32] : List UInt32)).length 1)), (4, .i (w64 (i4_0 + (1 : Int))))] [(3, .pure ((w3_0 ++ ([r'1.toUInt32] : List UInt32)).map AV.u32))] Y Y Y ?_
   have hz := some_elim H
   subst hz
   exact ⟨Y, Y⟩
  ·replace H := ite_else h1 H
   refine as2 [(3, .c (.own 3 w3_0.length 1))] [(3, .pure (w3_0.map AV.u32))] Y Y Y ?_
   refine AW2_exit ?_
   refine thenQ2_exit ?_
   have hz := some_elim H
   subst hz
   exact ⟨Y, Y⟩
 ·obtain ⟨rfl, rfl⟩ := hs
  refine ⟨by simp, ?_⟩
  refine blockQ2_exit ?_
  refine AW2_seq ?_
  refine AW2_block ?_
  refine as2 [(3, .c (.own 3 y'5.length 1))] [(3, .pure (y'5.map AV.u32))] Y Y Y ?_
  refine bindK H fun y'14 h16 H => ?_
  refine AW2_loopO (fun a'11 : (List UInt32) => (⟨[(3, .c (.own 3 a'11.length 1))], [(3, .pure (a'11.map AV.u32))], 72⟩ : TS)) (fun (y'12 : ((List UInt32))) e s' => e = Go.Exit.exit 2 ∧ s' = (⟨[(3, .c (.own 3 y'12.length 1))], [(3, .pure (y'12.map AV.u32))], 72⟩ : TS)) h16 Y (fun w3_1 x hx => ?_) (fun e s' hs => ?_)
  ·clear H
   have H := hx
   clear hx
   unfold g_ref_schedule_l1 at H
   refine AW2_seq ?_
   refine sg [0, 1, 2] Y ?_
   refine rp Y Y (p_move Y Y) ?_
   refine rp Y Y (p_leno Y Tryd.underlying88 Y Y Y (ml AV.u32 w3_1) (by decide)) ?_
   refine rp Y Y (p_bin Y Y Y Y) ?_
   refine rz [(3, .c (.own 3 w3_1.length 1)), (26, .b (decide ((w3_1.length : Int) < (64 : Int))))] [(3, .pure (w3_1.map AV.u32))] Y Y Y ?_
   refine AW2_if (p := (w3_1.length : Int) < (64 : Int)) Y (fun h6 => ?_) (fun h6 => ?_)
   ·replace H := ite_then h6 H
    refine as2 [(3, .c (.own 3 w3_1.length 1))] [(3, .pure (w3_1.map AV.u32))] Y Y Y ?_
    refine AW2_skip ?_
    refine AW2_block ?_
    refine sg [0, 1, 2] Y ?_
    refine rp Y Y (p_move Y Y) ?_
    refine rp Y Y (p_leno Y Tryd.underlying88 Y Y Y (ml AV.u32 w3_1) (by decide)) ?_
    refine rp Y Y (p_asg Y Y) ?_
    refine rz [(3, .c (.own 3 w3_1.length 1)), (5, .i (w3_1.length : Int))] [(3, .pure (w3_1.map AV.u32))] Y Y Y ?_
    refine AW2_seq ?_
    refine chkK H fun h7 H => ?_
    refine chkK H fun h8 H => ?_
    refine AW2_ghoQ ?_
    refine AW2_draw 11 [11] (fun k => ([.c (.own 3 w3_1.length 1), .i (w3_1.length : Int), .i (w64 ((w3_1.length : Int) - (15 : Int))), .q 3 (0 + ((w64 ((w3_1.length : Int) - (15 : Int))).toNat) * 1), .p (AV.u32 (lrd w3_1 ((w64 ((w3_1.length : Int) - (15 : Int))).toNat))), .c (.own 3 w3_1.length 1), .i (w3_1.length : Int), .i (w64 ((w3_1.length : Int) - (2 : Int))), .q 3 (0 + ((w64 ((w3_1.length : Int) - (2 : Int))).toNat) * 1), .p (AV.u32 (lrd w3_1 ((w64 ((w3_1.length : Int) - (2 : Int))).toNat))), .p (AV.u32 (lrd w3_1 ((w64 ((w3_1.length : Int) - (15 : Int))).toNat)))] : List TV).getD k TV.any) (fun k => g_ref_schedule_r8.getD k []) [(3, none), (5, none), (6, some 10), (38, some 9)] [] (fun k => g_ref_schedule_r8c.getD k []) mixed (by kernel_rfl) Y Y (a_op (g_x Y (x_p Y (p_move Y Y) Y)) (a_op (g_x Y (x_p Y (p_move Y Y) Y)) (a_op (g_x Y (x_p Y (p_bin Y Y Y Y) Y)) (a_op (g_x Y (x_p Y (u_ixo Y Y Tryd.underlying88 in_66 Y Y (lne (ixn h7)) Y (ixe h7) (ixn h7)) Y)) (a_op (g_x Y (x_p Y (u_ld Y Y Tryd.underlying66 Y Y ((Sub.refl _).trans (Sub.map default (ixn h7)))) Y)) (a_op (g_x Y (x_p Y (p_move Y Y) Y)) (a_op (g_x Y (x_p Y (p_move Y Y) Y)) (a_op (g_x Y (x_p Y (p_bin Y Y Y Y) Y)) (a_op (g_x Y (x_p Y (u_ixo Y Y Tryd.underlying88 in_66 Y Y (lne (ixn h8)) Y (ixe h8) (ixn h8)) Y)) (a_op (g_x Y (x_p Y (u_ld Y Y Tryd.underlying66 Y Y ((Sub.refl _).trans (Sub.map default (ixn h8)))) Y)) (a_op (g_x Y (x_p Y (p_asg Y Y) Y)) (a_nil)))))))))))) ?_
    refine t_op Y Y (PureD.opD (p_asg Y Y)) ?_
    refine t_gho (Gho_st (L := [(3, .c (.own 3 w3_1.length 1)), (5, .i (w3_1.length : Int)), (6, .p (AV.u32 (lrd w3_1 ((w64 ((w3_1.length : Int) - (15 : Int))).toNat)))), (7, .p (AV.u32 (lrd w3_1 ((w64 ((w3_1.length : Int) - (2 : Int))).toNat))))]) (H := [(3, .pure (w3_1.map AV.u32))]) (N := 72) Y ⟨TLes.same _, TLes.same _, TLes.same _, TLes.same _, trivial⟩ ⟨Y, trivial⟩) ?_
    refine chkK H fun h9 H => ?_
    refine chkK H fun h10 H => ?_
    refine bindK H fun r'6 h11 H => ?_
    refine bindK H fun r'7 h12 H => ?_
    refine bindK H fun r'8 h13 H => ?_
    refine bindK H fun r'9 h14 H => ?_
    refine chkK H fun h15 H => ?_
    refine AW2_ghoQ ?_
    refine AW2_draw 31 [31, 32] (fun k => ([.c (.own 3 w3_1.length 1), .c (.own 3 w3_1.length 1), .i (w3_1.length : Int), .i (w64 ((w3_1.length : Int) - (16 : Int))), .q 3 (0 + ((w64 ((w3_1.length : Int) - (16 : Int))).toNat) * 1), .p (AV.u32 (lrd w3_1 ((w64 ((w3_1.length : Int) - (16 : Int))).toNat))), .c (.own 3 w3_1.length 1), .i (w3_1.length : Int), .i (w64 ((w3_1.length : Int) - (7 : Int))), .q 3 (0 + ((w64 ((w3_1.length : Int) - (7 : Int))).toNat) * 1), .p (AV.u32 (lrd w3_1 ((w64 ((w3_1.length : Int) - (7 : Int))).toNat))), .p (AV.u32 ((lrd w3_1 ((w64 ((w3_1.length : Int) - (16 : Int))).toNat)) + (lrd w3_1 ((w64 ((w3_1.length : Int) - (7 : Int))).toNat)))), .p (AV.u32 (lrd w3_1 ((w64 ((w3_1.length : Int) - (15 : Int))).toNat))), .p (AV.u32 r'6), .p (AV.u32 (lrd w3_1 ((w64 ((w3_1.length : Int) - (15 : Int))).toNat))), .p (AV.u32 r'7), .p (AV.u32 (r'6 ^^^ r'7)), .p (AV.u32 (lrd w3_1 ((w64 ((w3_1.length : Int) - (15 : Int))).toNat))), .p (AV.u32 (shr_u32 (lrd w3_1 ((w64 ((w3_1.length : Int) - (15 : Int))).toNat)) 3)), .p (AV.u32 ((r'6 ^^^ r'7) ^^^ (shr_u32 (lrd w3_1 ((w64 ((w3_1.length : Int) - (15 : Int))).toNat)) 3))), .p (AV.u32 (((lrd w3_1 ((w64 ((w3_1.length : Int) - (16 : Int))).toNat)) + (lrd w3_1 ((w64 ((w3_1.length : Int) - (7 : Int))).toNat))) + ((r'6 ^^^ r'7) ^^^ (shr_u32 (lrd w3_1 ((w64 ((w3_1.length : Int) - (15 : Int))).toNat)) 3)))), .p (AV.u32 (lrd w3_1 ((w64 ((w3_1.length : Int) - (2 : Int))).toNat))), .p (AV.u32 r'8), .p (AV.u32 (lrd w3_1 ((w64 ((w3_1.length : Int) - (2 : Int))).toNat))), .p (AV.u32 r'9), .p (AV.u32 (r'8 ^^^ r'9)), .p (AV.u32 (lrd w3_1 ((w64 ((w3_1.length : Int) - (2 : Int))).toNat))), .p (AV.u32 (shr_u32 (lrd w3_1 ((w64 ((w3_1.length : Int) - (2 : Int))).toNat)) 10)), .p (AV.u32 ((r'8 ^^^ r'9) ^^^ (shr_u32 (lrd w3_1 ((w64 ((w3_1.length : Int) - (2 : Int))).toNat)) 10))), .p (AV.u32 ((((lrd w3_1 ((w64 ((w3_1.length : Int) - (16 : Int))).toNat)) + (lrd w3_1 ((w64 ((w3_1.length : Int) - (7 : Int))).toNat))) + ((r'6 ^^^ r'7) ^^^ (shr_u32 (lrd w3_1 ((w64 ((w3_1.length : Int) - (15 : Int))).toNat)) 3))) + ((r'8 ^^^ r'9) ^^^ (shr_u32 (lrd w3_1 ((w64 ((w3_1.length : Int) - (2 : Int))).toNat)) 10)))), .c (.own 69 1 1)] : List TV).getD k TV.any) (fun k => g_ref_schedule_r9.getD k []) [(3, none), (39, some 0), (69, some 30)] [(30, 69, (([(((lrd w3_1 ((w64 ((w3_1.length : Int) - (16 : Int))).toNat)) + (lrd w3_1 ((w64 ((w3_1.length : Int) - (7 : Int))).toNat))) + ((r'6 ^^^ r'7) ^^^ (shr_u32 (lrd w3_1 ((w64 ((w3_1.length : Int) - (15 : Int))).toNat)) 3))) + ((r'8 ^^^ r'9) ^^^ (shr_u32 (lrd w3_1 ((w64 ((w3_1.length : Int) - (2 : Int))).toNat)) 10))] : List UInt32).map AV.u32))] (fun k => g_ref_schedule_r9c.getD k []) mixed (by kernel_rfl) Y Y (a_op (g_x Y (x_p Y (p_move Y Y) Y)) (a_op (g_x Y (x_p Y (p_move Y Y) Y)) (a_op (g_x Y (x_p Y (p_move Y Y) Y)) (a_op (g_x Y (x_p Y (p_bin Y Y Y Y) Y)) (a_op (g_x Y (x_p Y (u_ixo Y Y Tryd.underlying88 in_66 Y Y (lne (ixn h9)) Y (ixe h9) (ixn h9)) Y)) (a_op (g_x Y (x_p Y (u_ld Y Y Tryd.underlying66 Y Y ((Sub.refl _).trans (Sub.map default (ixn h9)))) Y)) (a_op (g_x Y (x_p Y (p_move Y Y) Y)) (a_op (g_x Y (x_p Y (p_move Y Y) Y)) (a_op (g_x Y (x_p Y (p_bin Y Y Y Y) Y)) (a_op (g_x Y (x_p Y (u_ixo Y Y Tryd.underlying88 in_66 Y Y (lne (ixn h10)) Y (ixe h10) (ixn h10)) Y)) (a_op (g_x Y (x_p Y (u_ld Y Y Tryd.underlying66 Y Y ((Sub.refl _).trans (Sub.map default (ixn h10)))) Y)) (a_op (g_x Y (x_p Y (p_u32add (a := (lrd w3_1 ((w64 ((w3_1.length : Int) - (16 : Int))).toNat))) (b := (lrd w3_1 ((w64 ((w3_1.length : Int) - (7 : Int))).toNat))) Y Y Y) Y)) (a_op (g_x Y (x_p Y (p_move Y Y) Y)) (a_op (g_x Y (x_p Y (p_callp Y Y Y Tryd.func58 Y Y (g_ref_rot_ac h11) ⟨Y, Y, trivial⟩) Y)) (a_op (g_x Y (x_p Y (p_move Y Y) Y)) (a_op (g_x Y (x_p Y (p_callp Y Y Y Tryd.func58 Y Y (g_ref_rot_ac h12) ⟨Y, Y, trivial⟩) Y)) (a_op (g_x Y (x_p Y (p_u32xor (a := r'6) (b := r'7) Y Y Y) Y)) (a_op (g_x Y (x_p Y (p_move Y Y) Y)) (a_op (g_x Y (x_p Y (p_u32shr (n := 3) Y Y Y Y) Y)) (a_op (g_x Y (x_p Y (p_u32xor (a := r'6 ^^^ r'7) (b := shr_u32 (lrd w3_1 ((w64 ((w3_1.length : Int) - (15 : Int))).toNat)) 3) Y Y Y) Y)) (a_op (g_x Y (x_p Y (p_u32add (a := (lrd w3_1 ((w64 ((w3_1.length : Int) - (16 : Int))).toNat)) + (lrd w3_1 ((w64 ((w3_1.length : Int) - (7 : Int))).toNat))) (b := (r'6 ^^^ r'7) ^^^ (shr_u32 (lrd w3_1 ((w64 ((w3_1.length : Int) - (15 : Int))).toNat)) 3)) Y Y Y) Y)) (a_op (g_x Y (x_p Y (p_move Y Y) Y)) (a_op (g_x Y (x_p Y (p_callp Y Y Y Tryd.func58 Y Y (g_ref_rot_ac h13) ⟨Y, Y, trivial⟩) Y)) (a_op (g_x Y (x_p Y (p_move Y Y) Y)) (a_op (g_x Y (x_p Y (p_callp Y Y Y Tryd.func58 Y Y (g_ref_rot_ac h14) ⟨Y, Y, trivial⟩) Y)) (a_op (g_x Y (x_p Y (p_u32xor (a := r'8) (b := r'9) Y Y Y) Y)) (a_op (g_x Y (x_p Y (p_move Y Y) Y)) (a_op (g_x Y (x_p Y (p_u32shr (n := 10) Y Y Y Y) Y)) (a_op (g_x Y (x_p Y (p_u32xor (a := r'8 ^^^ r'9) (b := shr_u32 (lrd w3_1 ((w64 ((w3_1.length : Int) - (2 : Int))).toNat)) 10) Y Y Y) Y)) (a_op (g_x Y (x_p Y (p_u32add (a := ((lrd w3_1 ((w64 ((w3_1.length : Int) - (16 : Int))).toNat)) + (lrd w3_1 ((w64 ((w3_1.length : Int) - (7 : Int))).toNat))) + ((r'6 ^^^ r'7) ^^^ (shr_u32 (lrd w3_1 ((w64 ((w3_1.length : Int) - (15 : Int))).toNat)) 3))) (b := (r'8 ^^^ r'9) ^^^ (shr_u32 (lrd w3_1 ((w64 ((w3_1.length : Int) - (2 : Int))).toNat)) 10)) Y Y Y) Y)) (a_op (g_x Y (x_m Y (u_bs 69 Y Tryd.underlying88 in_66 Y one_66 (by decide) (by decide) Y Y Y) Y Y)) (a_nil)))))))))))))))))))))))))))))))) ?_
    refine t_op Y Y (u_app [3, 39] Y Y Y Y Tryd.underlying88 Tryd.underlying88 in_66 Y Y Y (ml AV.u32 w3_1) (by decide) (srcT_o Y Y (ml AV.u32 ([(((lrd w3_1 ((w64 ((w3_1.length : Int) - (16 : Int))).toNat)) + (lrd w3_1 ((w64 ((w3_1.length : Int) - (7 : Int))).toNat))) + ((r'6 ^^^ r'7) ^^^ (shr_u32 (lrd w3_1 ((w64 ((w3_1.length : Int) - (15 : Int))).toNat)) 3))) + ((r'8 ^^^ r'9) ^^^ (shr_u32 (lrd w3_1 ((w64 ((w3_1.length : Int) - (2 : Int))).toNat)) 10))] : List UInt32)) (by decide)) (ml AV.u32 ([(((lrd w3_1 ((w64 ((w3_1.length : Int) - (16 : Int))).toNat)) + (lrd w3_1 ((w64 ((w3_1.length : Int) - (7 : Int))).toNat))) + ((r'6 ^^^ r'7) ^^^ (shr_u32 (lrd w3_1 ((w64 ((w3_1.length : Int) - (15 : Int))).toNat)) 3))) + ((r'8 ^^^ r'9) ^^^ (shr_u32 (lrd w3_1 ((w64 ((w3_1.length : Int) - (2 : Int))).toNat)) 10))] : List UInt32)) h15 (by decide) Y Y (mapp AV.u32 w3_1 ([(((lrd w3_1 ((w64 ((w3_1.length : Int) - (16 : Int))).toNat)) + (lrd w3_1 ((w64 ((w3_1.length : Int) - (7 : Int))).toNat))) + ((r'6 ^^^ r'7) ^^^ (shr_u32 (lrd w3_1 ((w64 ((w3_1.length : Int) - (15 : Int))).toNat)) 3))) + ((r'8 ^^^ r'9) ^^^ (shr_u32 (lrd w3_1 ((w64 ((w3_1.length : Int) - (2 : Int))).toNat)) 10))] : List UInt32)) (lapp w3_1 ([(((lrd w3_1 ((w64 ((w3_1.length : Int) - (16 : Int))).toNat)) + (lrd w3_1 ((w64 ((w3_1.length : Int) - (7 : Int))).toNat))) + ((r'6 ^^^ r'7) ^^^ (shr_u32 (lrd w3_1 ((w64 ((w3_1.length : Int) - (15 : Int))).toNat)) 3))) + ((r'8 ^^^ r'9) ^^^ (shr_u32 (lrd w3_1 ((w64 ((w3_1.length : Int) - (2 : Int))).toNat)) 10))] : List UInt32))) ?_
    refine t_op Y Y (PureD.opD (p_asg Y Y)) ?_
    refine t_gho (Gho_st (L := [(3, .c (.own 3 (w3_1 ++ ([(((lrd w3_1 ((w64 ((w3_1.length : Int) - (16 : Int))).toNat)) + (lrd w3_1 ((w64 ((w3_1.length : Int) - (7 : Int))).toNat))) + ((r'6 ^^^ r'7) ^^^ (shr_u32 (lrd w3_1 ((w64 ((w3_1.length : Int) - (15 : Int))).toNat)) 3))) + ((r'8 ^^^ r'9) ^^^ (shr_u32 (lrd w3_1 ((w64 ((w3_1.length : Int) - (2 : Int))).toNat)) 10))] : List UInt32)).length 1))]) (H := [(3, .pure ((w3_1 ++ ([(((lrd w3_1 ((w64 ((w3_1.length : Int) - (16 : Int))).toNat)) + (lrd w3_1 ((w64 ((w3_1.length : Int) - (7 : Int))).toNat))) + ((r'6 ^^^ r'7) ^^^ (shr_u32 (lrd w3_1 ((w64 ((w3_1.length : Int) - (15 : Int))).toNat)) 3))) + ((r'8 ^^^ r'9) ^^^ (shr_u32 (lrd w3_1 ((w64 ((w3_1.length : Int) - (2 : Int))).toNat)) 10))] : List UInt32)).map AV.u32))]) (N := 72) Y ⟨TLes.same _, trivial⟩ ⟨Y, trivial⟩) ?_
    refine gen1 (fun w3'10 => (⟨[(3, .c (.own 3 w3'10.length 1))], [(3, .pure (w3'10.map AV.u32))], 72⟩ : TS)) H ?_
    intro w3'10 H
    have hz := some_elim H
    subst hz
    exact ⟨Y, Y⟩
   ·replace H := ite_else h6 H
    refine as2 [(3, .c (.own 3 w3_1.length 1))] [(3, .pure (w3_1.map AV.u32))] Y Y Y ?_
    refine AW2_exit ?_
    refine thenQ2_exit ?_
    have hz := some_elim H
    subst hz
    exact ⟨Y, Y⟩
  ·obtain ⟨rfl, rfl⟩ := hs
   refine ⟨by simp, ?_⟩
   refine blockQ2_exit ?_
   refine sg [0, 1] Y ?_
   refine rp Y Y (p_move Y Y) ?_
   refine rp Y Y (p_asg Y Y) ?_
   refine rs [(2, .c (.own 3 y'14.length 1))] [(3, .pure (y'14.map AV.u32))] Y Y Y ?_
   refine RunW_gho (Gho_ren 3 2 Y Y Y Y Y) ?_
   refine rz [(2, .c (.own 2 y'14.length 1))] [(2, .pure (y'14.map AV.u32))] Y Y Y ?_
   refine as2 [(2, .c (.own 2 y'14.length 1))] [(2, .pure (y'14.map AV.u32))] Y Y Y ?_
   refine AW2_ret ?_
   have hz := some_elim H
   subst hz
   exact ⟨⟨res_tmp (.same _), trivial⟩, ⟨Y, trivial⟩⟩
theorem g_ref_schedule_ac {b0 : List UInt8} {r : (List UInt32)} (H : g_ref_schedule b0 = some r) : ACp Tryd.prog 57 [(AV.txt b0)] ((fun q : List UInt32 => AV.lst (q.map AV.u32) q.length) r) := ACp_pub (g_ref_schedule_ac2 H) (fun _ _ hm => lent_own hm rfl (ml AV.u32 r) (by decide))

/-! chirographref.block -/
def g_ref_block_t0 : List UInt8 := [52, 50, 56, 97, 50, 102, 57, 56, 55, 49, 51, 55, 52, 52, 57, 49, 98, 53, 99, 48, 102, 98, 99, 102, 101, 57, 98, 53, 100, 98, 97, 53, 51, 57, 53, 54, 99, 50, 53, 98, 53, 57, 102, 49, 49, 49, 102, 49, 57, 50, 51, 102, 56, 50, 97, 52, 97, 98, 49, 99, 53, 101, 100, 53, 100, 56, 48, 55, 97, 97, 57, 56, 49, 50, 56, 51, 53, 98, 48, 49, 50, 52, 51, 49, 56, 53, 98, 101, 53, 53, 48, 99, 55, 100, 99, 51, 55, 50, 98, 101, 53, 100, 55, 52, 56, 48, 100, 101, 98, 49, 102, 101, 57, 98, 100, 99, 48, 54, 97, 55, 99, 49, 57, 98, 102, 49, 55, 52, 101, 52, 57, 98, 54, 57, 99, 49, 101, 102, 98, 101, 52, 55, 56, 54, 48, 102, 99, 49, 57, 100, 99, 54, 50, 52, 48, 99, 97, 49, 99, 99, 50, 100, 101, 57, 50, 99, 54, 102, 52, 97, 55, 52, 56, 52, 97, 97, 53, 99, 98, 48, 97, 57, 100, 99, 55, 54, 102, 57, 56, 56, 100, 97, 57, 56, 51, 101, 53, 49, 53, 50, 97, 56, 51, 49, 99, 54, 54, 100, 98, 48, 48, 51, 50, 55, 99, 56, 98, 102, 53, 57, 55, 102, 99, 55, 99, 54, 101, 48, 48, 98, 102, 51, 100, 53, 97, 55, 57, 49, 52, 55, 48, 54, 99, 97, 54, 51, 53, 49, 49, 52, 50, 57, 50, 57, 54, 55, 50, 55, 98, 55, 48, 97, 56, 53, 50, 101, 49, 98, 50, 49, 51, 56, 52, 100, 50, 99, 54, 100, 102, 99, 53, 51, 51, 56, 48, 100, 49, 51, 54, 53, 48, 97, 55, 51, 53, 52, 55, 54, 54, 97, 48, 97, 98, 98, 56, 49, 99, 50, 99, 57, 50, 101, 57, 50, 55, 50, 50, 99, 56, 53, 97, 50, 98, 102, 101, 56, 97, 49, 97, 56, 49, 97, 54, 54, 52, 98, 99, 50, 52, 98, 56, 98, 55, 48, 99, 55, 54, 99, 53, 49, 97, 51, 100, 49, 57, 50, 101, 56, 49, 57, 100, 54, 57, 57, 48, 54, 50, 52, 102, 52, 48, 101, 51, 53, 56, 53, 49, 48, 54, 97, 97, 48, 55, 48, 49, 57, 97, 52, 99, 49, 49, 54, 49, 101, 51, 55, 54, 99, 48, 56, 50, 55, 52, 56, 55, 55, 52, 99, 51, 52, 98, 48, 98, 99, 98, 53, 51, 57, 49, 99, 48, 99, 98, 51, 52, 101, 100, 56, 97, 97, 52, 97, 53, 98, 57, 99, 99, 97, 52, 102, 54, 56, 50, 101, 54, 102, 102, 51, 55, 52, 56, 102, 56, 50, 101, 101, 55, 56, 97, 53, 54, 51, 54, 102, 56, 52, 99, 56, 55, 56, 49, 52, 56, 99, 99, 55, 48, 50, 48, 56, 57, 48, 98, 101, 102, 102, 102, 97, 97, 52, 53, 48, 54, 99, 101, 98, 98, 101, 102, 57, 97, 51, 102, 55, 99, 54, 55, 49, 55, 56, 102, 50]
def g_ref_block_r2 : List (List (Nat × Option Nat)) := [[(2, none)], [(21, some 0)], [(2, none)], [(23, some 2)], [(2, none)], [(25, some 4)], [(2, none)], [(27, some 6)], [(2, none)], [(29, some 8)], [(2, none)], [(31, some 10)], [(2, none)], [(33, some 12)], [(2, none)], [(35, some 14)], [(22, some 1)], [(24, some 3)], [(26, some 5)], [(28, some 7)], [(30, some 9)], [(32, some 11)], [(34, some 13)]]
def g_ref_block_r2c : List (List Nat) := [[], [0], [], [2], [], [4], [], [6], [], [8], [], [10], [], [12], [], [14], [0, 1], [0, 1, 2, 3, 16], [0, 1, 2, 3, 4, 5, 16, 17], [0, 1, 2, 3, 4, 5, 6, 7, 16, 17, 18], [0, 1, 2, 3, 4, 5, 6, 7, 8, 9, 16, 17, 18, 19], [0, 1, 2, 3, 4, 5, 6, 7, 8, 9, 10, 11, 16, 17, 18, 19, 20], [0, 1, 2, 3, 4, 5, 6, 7, 8, 9, 10, 11, 12, 13, 16, 17, 18, 19, 20, 21], [0, 1, 2, 3, 4, 5, 6, 7, 8, 9, 10, 11, 12, 13, 14, 15, 16, 17, 18, 19, 20, 21, 22]]
def g_ref_block_r8 : List (List (Nat × Option Nat)) := [[(13, none)], [(10, none)], [(61, some 1)], [(10, none)], [(63, some 3)], [(62, some 2), (64, some 4)], [(10, none)], [(66, some 6)], [(65, some 5), (67, some 7)], [(60, some 0), (68, some 8)], [(15, none)], [(69, some 9), (70, some 10)], [(14, none)], [(72, some 12)], [(71, some 11), (73, some 13)], [(5, none)], [(14, none)], [(75, some 15), (76, some 16)], [(77, some 17)]]
def g_ref_block_r8c : List (List Nat) := [[], [], [1], [], [1, 2, 3], [1, 2, 3, 4], [], [1, 2, 3, 4, 6], [1, 2, 3, 4, 5, 6, 7], [0, 1, 2, 3, 4, 5, 6, 7, 8], [], [0, 1, 2, 3, 4, 5, 6, 7, 8, 9, 10], [], [1, 2, 3, 4, 6, 7, 12], [0, 1, 2, 3, 4, 5, 6, 7, 8, 9, 10, 11, 12, 13], [], [], [15, 16], [15, 16, 17], [0, 1, 2, 3, 4, 5, 6, 7, 8, 9, 10, 11, 12, 13, 14, 15, 16, 17, 18], [0, 1, 2, 3, 4, 5, 6, 7, 8, 9, 10, 11, 12, 13, 14, 15, 16, 17, 18, 19]]
noncomputable def g_ref_block_l0 (r'1 : List UInt32) : UInt32 × UInt32 × UInt32 × UInt32 × UInt32 × UInt32 × UInt32 × UInt32 × Int → Option ((UInt32 × UInt32 × UInt32 × UInt32 × UInt32 × UInt32 × UInt32 × UInt32 × Int) ⊕ ((UInt32 × UInt32 × UInt32 × UInt32 × UInt32 × UInt32 × UInt32 × UInt32)))
  | (p6_0, q7_0, r8_0, s9_0, t10_0, u11_0, v12_0, x13_0, i14_0) => (if i14_0 < (64 : Int) then (g_ref_rot t10_0 (6 : Int)).bind fun r'2 => (g_ref_rot t10_0 (11 : Int)).bind fun r'3 => (g_ref_rot t10_0 (25 : Int)).bind fun r'4 => (g_ref_hexWord g_ref_block_t0 i14_0).bind fun r'5 => if 0 ≤ i14_0 ∧ i14_0 < (r'1.length : Int) then letO ((((x13_0 + ((r'2 ^^^ r'3) ^^^ r'4)) + ((t10_0 &&& u11_0) ||| ((~~~ t10_0) &&& v12_0))) + r'5) + (lrd r'1 i14_0.toNat)) fun one17'6 => (g_ref_rot p6_0 (2 : Int)).bind fun r'7 => (g_ref_rot p6_0 (13 : Int)).bind fun r'8 => (g_ref_rot p6_0 (22 : Int)).bind fun r'9 => letO (((r'7 ^^^ r'8) ^^^ r'9) + (((p6_0 &&& q7_0) ||| (p6_0 &&& r8_0)) ||| (q7_0 &&& r8_0))) fun two18'10 => some (.inl (one17'6 + two18'10, p6_0, q7_0, r8_0, s9_0 + one17'6, t10_0, u11_0, v12_0, w64 (i14_0 + (1 : Int)))) else none else some (.inr (p6_0, q7_0, r8_0, s9_0, t10_0, u11_0, v12_0, x13_0)))
noncomputable def g_ref_block (h0 : Vector UInt32 8) (b1 : List UInt8) : Option ((Vector UInt32 8)) :=
  (g_ref_schedule b1).bind fun r'1 => (loopO (g_ref_block_l0 r'1) ((vrd h0 0), (vrd h0 1), (vrd h0 2), (vrd h0 3), (vrd h0 4), (vrd h0 5), (vrd h0 6), (vrd h0 7), (0 : Int))).bind fun y'14 => letO (#v[(vrd h0 0) + y'14.1, (vrd h0 1) + y'14.2.1, (vrd h0 2) + y'14.2.2.1, (vrd h0 3) + y'14.2.2.2.1, (vrd h0 4) + y'14.2.2.2.2.1, (vrd h0 5) + y'14.2.2.2.2.2.1, (vrd h0 6) + y'14.2.2.2.2.2.2.1, (vrd h0 7) + y'14.2.2.2.2.2.2.2]) fun t4'15 => some t4'15
set_option maxHeartbeats 4000000 in
set_option maxRecDepth 100000 in
theorem g_ref_block_ac {h0 : Vector UInt32 8} {b1 : List UInt8} {r : (Vector UInt32 8)} (H : g_ref_block h0 b1 = some r) : ACp Tryd.prog 55 [(.agg (h0.toList.map AV.u32)), (AV.txt b1)] (.agg (r.toList.map AV.u32)) := by
 refine ACp_of (AC2_of_body (vs := [.g (r.toList.map AV.u32)]) Tryd.func55 Y Y (Nat.le_of_ble_eq_true Y) Y ?_) (fun _ => .same _)
 unfold g_ref_block at H
 refine as2 [(0, .g (h0.toList.map AV.u32)), (1, .t b1)] [] Y Y Y ?_
 refine sg [0, 1] Y ?_
 refine r_op Y Y (MakeD.opD (n_box 2 Y Y) Y Y Y Y) ?_
 refine r_op Y Y (MakeD.opD (u_alloc 4 Y in_67 one_67 zc_67) Y Y Y Y) ?_
 refine rz [(1, .t b1), (2, .q 2 (0)), (4, .q 4 (0))] [(2, .pure (h0.toList.map AV.u32)), (4, .pure (((Vector.replicate 8 (0 : UInt32)).toList).map AV.u32))] Y Y Y ?_
 refine sg [0, 1, 2] Y ?_
 refine rp Y Y (p_move Y Y) ?_
 refine bindK H fun r'1 h1 H => ?_
 refine rp Y Y (p_callp Y Y Y Tryd.func57 Y Y (g_ref_schedule_ac h1) ⟨Y, trivial⟩) ?_
 refine rp Y Y (p_asg Y Y) ?_
 refine rz [(2, .q 2 (0)), (4, .q 4 (0)), (5, .p ((fun q : List UInt32 => AV.lst (q.map AV.u32) q.length) r'1))] [(2, .pure (h0.toList.map AV.u32)), (4, .pure (((Vector.replicate 8 (0 : UInt32)).toList).map AV.u32))] Y Y Y ?_
 refine AW2_seq ?_
 refine AW2_ghoQ ?_
 refine AW2_draw 23 [23] (fun k => ([.q 2 (0 + 0 * 1), .p (AV.u32 (vrd h0 0)), .q 2 (0 + 1 * 1), .p (AV.u32 (vrd h0 1)), .q 2 (0 + 2 * 1), .p (AV.u32 (vrd h0 2)), .q 2 (0 + 3 * 1), .p (AV.u32 (vrd h0 3)), .q 2 (0 + 4 * 1), .p (AV.u32 (vrd h0 4)), .q 2 (0 + 5 * 1), .p (AV.u32 (vrd h0 5)), .q 2 (0 + 6 * 1), .p (AV.u32 (vrd h0 6)), .q 2 (0 + 7 * 1), .p (AV.u32 (vrd h0 7)), .p (AV.u32 (vrd h0 0)), .p (AV.u32 (vrd h0 1)), .p (AV.u32 (vrd h0 2)), .p (AV.u32 (vrd h0 3)), .p (AV.u32 (vrd h0 4)), .p (AV.u32 (vrd h0 5)), .p (AV.u32 (vrd h0 6))] : List TV).getD k TV.any) (fun k => g_ref_block_r2.getD k []) [(2, none), (4, none), (5, none), (6, some 16), (7, some 17), (8, some 18), (9, some 19), (10, some 20), (11, some 21), (12, some 22), (36, some 15)] [] (fun k => g_ref_block_r2c.getD k []) mixed (by kernel_rfl) Y Y (a_op (g_x Y (x_p Y (u_ixp Y Y Tryd.underlying67 in_66 Y Y (nl (vmap_len (f := AV.u32) h0)) Y Y (by decide)) Y)) (a_op (g_x Y (x_p Y (u_ld Y Y Tryd.underlying66 Y Y ((Sub.refl _).trans (Sub.vmap (by decide)))) Y)) (a_op (g_x Y (x_p Y (u_ixp Y Y Tryd.underlying67 in_66 Y Y (nl (vmap_len (f := AV.u32) h0)) Y Y (by decide)) Y)) (a_op (g_x Y (x_p Y (u_ld Y Y Tryd.underlying66 Y Y ((Sub.refl _).trans (Sub.vmap (by decide)))) Y)) (a_op (g_x Y (x_p Y (u_ixp Y Y Tryd.underlying67 in_66 Y Y (nl (vmap_len (f := AV.u32) h0)) Y Y (by decide)) Y)) (a_op (g_x Y (x_p Y (u_ld Y Y Tryd.underlying66 Y Y ((Sub.refl _).trans (Sub.vmap (by decide)))) Y)) (a_op (g_x Y (x_p Y (u_ixp Y Y Tryd.underlying67 in_66 Y Y (nl (vmap_len (f := AV.u32) h0)) Y Y (by decide)) Y)) (a_op (g_x Y (x_p Y (u_ld Y Y Tryd.underlying66 Y Y ((Sub.refl _).trans (Sub.vmap (by decide)))) Y)) (a_op (g_x Y (x_p Y (u_ixp Y Y Tryd.underlying67 in_66 Y Y (nl (vmap_len (f := AV.u32) h0)) Y Y (by decide)) Y)) (a_op (g_x Y (x_p Y (u_ld Y Y Tryd.underlying66 Y Y ((Sub.refl _).trans (Sub.vmap (by decide)))) Y)) (a_op (g_x Y (x_p Y (u_ixp Y Y Tryd.underlying67 in_66 Y Y (nl (vmap_len (f := AV.u32) h0)) Y Y (by decide)) Y)) (a_op (g_x Y (x_p Y (u_ld Y Y Tryd.underlying66 Y Y ((Sub.refl _).trans (Sub.vmap (by decide)))) Y)) (a_op (g_x Y (x_p Y (u_ixp Y Y Tryd.underlying67 in_66 Y Y (nl (vmap_len (f := AV.u32) h0)) Y Y (by decide)) Y)) (a_op (g_x Y (x_p Y (u_ld Y Y Tryd.underlying66 Y Y ((Sub.refl _).trans (Sub.vmap (by decide)))) Y)) (a_op (g_x Y (x_p Y (u_ixp Y Y Tryd.underlying67 in_66 Y Y (nl (vmap_len (f := AV.u32) h0)) Y Y (by decide)) Y)) (a_op (g_x Y (x_p Y (u_ld Y Y Tryd.underlying66 Y Y ((Sub.refl _).trans (Sub.vmap (by decide)))) Y)) (a_op (g_x Y (x_p Y (p_asg Y Y) Y)) (a_op (g_x Y (x_p Y (p_asg Y Y) Y)) (a_op (g_x Y (x_p Y (p_asg Y Y) Y)) (a_op (g_x Y (x_p Y (p_asg Y Y) Y)) (a_op (g_x Y (x_p Y (p_asg Y Y) Y)) (a_op (g_x Y (x_p Y (p_asg Y Y) Y)) (a_op (g_x Y (x_p Y (p_asg Y Y) Y)) (a_nil)))))))))))))))))))))))) ?_
 refine t_op Y Y (PureD.opD (p_asg Y Y)) ?_
 refine t_gho (Gho_st (L := [(2, .q 2 (0)), (4, .q 4 (0)), (5, .p ((fun q : List UInt32 => AV.lst (q.map AV.u32) q.length) r'1)), (6, .p (AV.u32 (vrd h0 0))), (7, .p (AV.u32 (vrd h0 1))), (8, .p (AV.u32 (vrd h0 2))), (9, .p (AV.u32 (vrd h0 3))), (10, .p (AV.u32 (vrd h0 4))), (11, .p (AV.u32 (vrd h0 5))), (12, .p (AV.u32 (vrd h0 6))), (13, .p (AV.u32 (vrd h0 7)))]) (H := [(2, .pure (h0.toList.map AV.u32)), (4, .pure (((Vector.replicate 8 (0 : UInt32)).toList).map AV.u32))]) (N := 135) Y ⟨TLes.same _, TLes.same _, TLes.same _, TLes.same _, TLes.same _, TLes.same _, TLes.same _, TLes.same _, TLes.same _, TLes.same _, TLes.same _, trivial⟩ ⟨Y, Y, trivial⟩) ?_
 refine AW2_seq ?_
 refine sg [0] Y ?_
 refine rp Y Y (p_asg Y Y) ?_
 refine rz [(2, .q 2 (0)), (4, .q 4 (0)), (5, .p ((fun q : List UInt32 => AV.lst (q.map AV.u32) q.length) r'1)), (6, .p (AV.u32 (vrd h0 0))), (7, .p (AV.u32 (vrd h0 1))), (8, .p (AV.u32 (vrd h0 2))), (9, .p (AV.u32 (vrd h0 3))), (10, .p (AV.u32 (vrd h0 4))), (11, .p (AV.u32 (vrd h0 5))), (12, .p (AV.u32 (vrd h0 6))), (13, .p (AV.u32 (vrd h0 7))), (14, .i (0 : Int))] [(2, .pure (h0.toList.map AV.u32)), (4, .pure (((Vector.replicate 8 (0 : UInt32)).toList).map AV.u32))] Y Y Y ?_
 refine AW2_block ?_
 refine as2 [(2, .q 2 (0)), (4, .q 4 (0)), (5, .p ((fun q : List UInt32 => AV.lst (q.map AV.u32) q.length) r'1)), (6, .p (AV.u32 (vrd h0 0))), (7, .p (AV.u32 (vrd h0 1))), (8, .p (AV.u32 (vrd h0 2))), (9, .p (AV.u32 (vrd h0 3))), (10, .p (AV.u32 (vrd h0 4))), (11, .p (AV.u32 (vrd h0 5))), (12, .p (AV.u32 (vrd h0 6))), (13, .p (AV.u32 (vrd h0 7))), (14, .i (0 : Int))] [(2, .pure (h0.toList.map AV.u32)), (4, .pure (((Vector.replicate 8 (0 : UInt32)).toList).map AV.u32))] Y Y Y ?_
 refine bindK H fun y'14 h11 H => ?_
 refine AW2_loopO (fun a'11 : UInt32 × UInt32 × UInt32 × UInt32 × UInt32 × UInt32 × UInt32 × UInt32 × Int => (⟨[(2, .q 2 (0)), (4, .q 4 (0)), (5, .p ((fun q : List UInt32 => AV.lst (q.map AV.u32) q.length) r'1)), (6, .p (AV.u32 a'11.1)), (7, .p (AV.u32 a'11.2.1)), (8, .p (AV.u32 a'11.2.2.1)), (9, .p (AV.u32 a'11.2.2.2.1)), (10, .p (AV.u32 a'11.2.2.2.2.1)), (11, .p (AV.u32 a'11.2.2.2.2.2.1)), (12, .p (AV.u32 a'11.2.2.2.2.2.2.1)), (13, .p (AV.u32 a'11.2.2.2.2.2.2.2.1)), (14, .i a'11.2.2.2.2.2.2.2.2)], [(2, .pure (h0.toList.map AV.u32)), (4, .pure (((Vector.replicate 8 (0 : UInt32)).toList).map AV.u32))], 135⟩ : TS)) (fun (y'12 : (UInt32 × UInt32 × UInt32 × UInt32 × UInt32 × UInt32 × UInt32 × UInt32)) e s' => e = Go.Exit.exit 0 ∧ s' = (⟨[(2, .q 2 (0)), (4, .q 4 (0)), (6, .p (AV.u32 y'12.1)), (7, .p (AV.u32 y'12.2.1)), (8, .p (AV.u32 y'12.2.2.1)), (9, .p (AV.u32 y'12.2.2.2.1)), (10, .p (AV.u32 y'12.2.2.2.2.1)), (11, .p (AV.u32 y'12.2.2.2.2.2.1)), (12, .p (AV.u32 y'12.2.2.2.2.2.2.1)), (13, .p (AV.u32 y'12.2.2.2.2.2.2.2))], [(2, .pure (h0.toList.map AV.u32)), (4, .pure (((Vector.replicate 8 (0 : UInt32)).toList).map AV.u32))], 135⟩ : TS)) h11 Y (fun a x hx => ?_) (fun e s' hs => ?_)
 ·clear H
  obtain ⟨p6_0, q7_0, r8_0, s9_0, t10_0, u11_0, v12_0, x13_0, i14_0⟩ := a
  have H := hx
  clear hx
  unfold g_ref_block_l0 at H
  refine AW2_seq ?_
  refine sg [0, 1] Y ?_
  refine rp Y Y (p_move Y Y) ?_
  refine rp Y Y (p_bin Y Y Y Y) ?_
  refine rz [(2, .q 2 (0)), (4, .q 4 (0)), (5, .p ((fun q : List UInt32 => AV.lst (q.map AV.u32) q.length) r'1)), (6, .p (AV.u32 p6_0)), (7, .p (AV.u32 q7_0)), (8, .p (AV.u32 r8_0)), (9, .p (AV.u32 s9_0)), (10, .p (AV.u32 t10_0)), (11, .p (AV.u32 u11_0)), (12, .p (AV.u32 v12_0)), (13, .p (AV.u32 x13_0)), (14, .i i14_0), (38, .b (decide (i14_0 < (64 : Int))))] [(2, .pure (h0.toList.map AV.u32)), (4, .pure (((Vector.replicate 8 (0 : UInt32)).toList).map AV.u32))] Y Y Y ?_
  refine AW2_if (p := i14_0 < (64 : Int)) Y (fun h2 => ?_) (fun h2 => ?_)
  ·replace H := ite_then h2 H
   refine as2 [(2, .q 2 (0)), (4, .q 4 (0)), (5, .p ((fun q : List UInt32 => AV.lst (q.map AV.u32) q.length) r'1)), (6, .p (AV.u32 p6_0)), (7, .p (AV.u32 q7_0)), (8, .p (AV.u32 r8_0)), (9, .p (AV.u32 s9_0)), (10, .p (AV.u32 t10_0)), (11, .p (AV.u32 u11_0)), (12, .p (AV.u32 v12_0)), (13, .p (AV.u32 x13_0)), (14, .i i14_0)] [(2, .pure (h0.toList.map AV.u32)), (4, .pure (((Vector.replicate 8 (0 : UInt32)).toList).map AV.u32))] Y Y Y ?_
   refine AW2_skip ?_
   refine AW2_seq ?_
   refine AW2_block ?_
   refine sg [0, 1, 2, 3, 4, 5, 6, 7, 8] Y ?_
   refine rp Y Y (p_move Y Y) ?_
   refine rp Y Y (p_move Y Y) ?_
   refine rp Y Y (p_u32and (a := t10_0) (b := u11_0) Y Y Y) ?_
   refine rp Y Y (p_move Y Y) ?_
   refine rp Y Y (p_u32cpl Y Y) ?_
   refine rp Y Y (p_move Y Y) ?_
   refine rp Y Y (p_u32and (a := ~~~ t10_0) (b := v12_0) Y Y Y) ?_
   refine rp Y Y (p_u32or (a := t10_0 &&& u11_0) (b := (~~~ t10_0) &&& v12_0) Y Y Y) ?_
   refine rp Y Y (p_asg Y Y) ?_
   refine rz [(2, .q 2 (0)), (4, .q 4 (0)), (5, .p ((fun q : List UInt32 => AV.lst (q.map AV.u32) q.length) r'1)), (6, .p (AV.u32 p6_0)), (7, .p (AV.u32 q7_0)), (8, .p (AV.u32 r8_0)), (9, .p (AV.u32 s9_0)), (10, .p (AV.u32 t10_0)), (11, .p (AV.u32 u11_0)), (12, .p (AV.u32 v12_0)), (13, .p (AV.u32 x13_0)), (14, .i i14_0), (15, .p (AV.u32 ((t10_0 &&& u11_0) ||| ((~~~ t10_0) &&& v12_0))))] [(2, .pure (h0.toList.map AV.u32)), (4, .pure (((Vector.replicate 8 (0 : UInt32)).toList).map AV.u32))] Y Y Y ?_
   refine sg [0, 1, 2, 3, 4, 5, 6, 7, 8, 9, 10, 11] Y ?_
   refine rp Y Y (p_move Y Y) ?_
   refine rp Y Y (p_move Y Y) ?_
   refine rp Y Y (p_u32and (a := p6_0) (b := q7_0) Y Y Y) ?_
   refine rp Y Y (p_move Y Y) ?_
   refine rp Y Y (p_move Y Y) ?_
   refine rp Y Y (p_u32and (a := p6_0) (b := r8_0) Y Y Y) ?_
   refine rp Y Y (p_u32or (a := p6_0 &&& q7_0) (b := p6_0 &&& r8_0) Y Y Y) ?_
   refine rp Y Y (p_move Y Y) ?_
   refine rp Y Y (p_move Y Y) ?_
   refine rp Y Y (p_u32and (a := q7_0) (b := r8_0) Y Y Y) ?_
   refine rp Y Y (p_u32or (a := (p6_0 &&& q7_0) ||| (p6_0 &&& r8_0)) (b := q7_0 &&& r8_0) Y Y Y) ?_
   refine rp Y Y (p_asg Y Y) ?_
   refine rz [(2, .q 2 (0)), (4, .q 4 (0)), (5, .p ((fun q : List UInt32 => AV.lst (q.map AV.u32) q.length) r'1)), (6, .p (AV.u32 p6_0)), (7, .p (AV.u32 q7_0)), (8, .p (AV.u32 r8_0)), (9, .p (AV.u32 s9_0)), (10, .p (AV.u32 t10_0)), (11, .p (AV.u32 u11_0)), (12, .p (AV.u32 v12_0)), (13, .p (AV.u32 x13_0)), (14, .i i14_0), (15, .p (AV.u32 ((t10_0 &&& u11_0) ||| ((~~~ t10_0) &&& v12_0)))), (16, .p (AV.u32 (((p6_0 &&& q7_0) ||| (p6_0 &&& r8_0)) ||| (q7_0 &&& r8_0))))] [(2, .pure (h0.toList.map AV.u32)), (4, .pure (((Vector.replicate 8 (0 : UInt32)).toList).map AV.u32))] Y Y Y ?_
   refine AW2_seq ?_
   refine bindK H fun r'2 h3 H => ?_
   refine bindK H fun r'3 h4 H => ?_
   refine bindK H fun r'4 h5 H => ?_
   refine bindK H fun r'5 h6 H => ?_
   refine chkK H fun h7 H => ?_
   refine AW2_ghoQ ?_
   refine AW2_draw 19 [19, 20] (fun k => ([.p (AV.u32 x13_0), .p (AV.u32 t10_0), .p (AV.u32 r'2), .p (AV.u32 t10_0), .p (AV.u32 r'3), .p (AV.u32 (r'2 ^^^ r'3)), .p (AV.u32 t10_0), .p (AV.u32 r'4), .p (AV.u32 ((r'2 ^^^ r'3) ^^^ r'4)), .p (AV.u32 (x13_0 + ((r'2 ^^^ r'3) ^^^ r'4))), .p (AV.u32 ((t10_0 &&& u11_0) ||| ((~~~ t10_0) &&& v12_0))), .p (AV.u32 ((x13_0 + ((r'2 ^^^ r'3) ^^^ r'4)) + ((t10_0 &&& u11_0) ||| ((~~~ t10_0) &&& v12_0)))), .i i14_0, .p (AV.u32 r'5), .p (AV.u32 (((x13_0 + ((r'2 ^^^ r'3) ^^^ r'4)) + ((t10_0 &&& u11_0) ||| ((~~~ t10_0) &&& v12_0))) + r'5)), .p ((fun q : List UInt32 => AV.lst (q.map AV.u32) q.length) r'1), .i i14_0, .p (.rptr (r'1.map AV.u32) (i14_0.toNat * 1)), .p (AV.u32 (lrd r'1 i14_0.toNat))] : List TV).getD k TV.any) (fun k => g_ref_block_r8.getD k []) [(2, none), (4, none), (5, none), (6, none), (7, none), (8, none), (9, none), (10, none), (11, none), (12, none), (14, none), (16, none), (74, some 14), (78, some 18)] [] (fun k => g_ref_block_r8c.getD k []) mixed (by kernel_rfl) Y Y (a_op (g_x Y (x_p Y (p_move Y Y) Y)) (a_op (g_x Y (x_p Y (p_move Y Y) Y)) (a_op (g_x Y (x_p Y (p_callp Y Y Y Tryd.func58 Y Y (g_ref_rot_ac h3) ⟨Y, Y, trivial⟩) Y)) (a_op (g_x Y (x_p Y (p_move Y Y) Y)) (a_op (g_x Y (x_p Y (p_callp Y Y Y Tryd.func58 Y Y (g_ref_rot_ac h4) ⟨Y, Y, trivial⟩) Y)) (a_op (g_x Y (x_p Y (p_u32xor (a := r'2) (b := r'3) Y Y Y) Y)) (a_op (g_x Y (x_p Y (p_move Y Y) Y)) (a_op (g_x Y (x_p Y (p_callp Y Y Y Tryd.func58 Y Y (g_ref_rot_ac h5) ⟨Y, Y, trivial⟩) Y)) (a_op (g_x Y (x_p Y (p_u32xor (a := r'2 ^^^ r'3) (b := r'4) Y Y Y) Y)) (a_op (g_x Y (x_p Y (p_u32add (a := x13_0) (b := (r'2 ^^^ r'3) ^^^ r'4) Y Y Y) Y)) (a_op (g_x Y (x_p Y (p_move Y Y) Y)) (a_op (g_x Y (x_p Y (p_u32add (a := x13_0 + ((r'2 ^^^ r'3) ^^^ r'4)) (b := (t10_0 &&& u11_0) ||| ((~~~ t10_0) &&& v12_0)) Y Y Y) Y)) (a_op (g_x Y (x_p Y (p_move Y Y) Y)) (a_op (g_x Y (x_p Y (p_callp Y Y Y Tryd.func52 Y Y (g_ref_hexWord_ac h6) ⟨by kernel_rfl, Y, trivial⟩) Y)) (a_op (g_x Y (x_p Y (p_u32add (a := (x13_0 + ((r'2 ^^^ r'3) ^^^ r'4)) + ((t10_0 &&& u11_0) ||| ((~~~ t10_0) &&& v12_0))) (b := r'5) Y Y Y) Y)) (a_op (g_x Y (x_p Y (p_move Y Y) Y)) (a_op (g_x Y (x_p Y (p_move Y Y) Y)) (a_op (g_x Y (x_p Y (u_ixl Y Y Tryd.underlying88 in_66 Y Y (ixe h7) (ixn h7) (lne (ixn h7))) Y)) (a_op (g_x Y (x_p Y (u_ld Y Y Tryd.underlying66 Y Y (Sub.map default (ixn h7))) Y)) (a_nil)))))))))))))))))))) ?_
   refine t_op Y Y (PureD.opD (p_u32add (a := ((x13_0 + ((r'2 ^^^ r'3) ^^^ r'4)) + ((t10_0 &&& u11_0) ||| ((~~~ t10_0) &&& v12_0))) + r'5) (b := (lrd r'1 i14_0.toNat)) Y Y Y)) ?_
   refine t_op Y Y (PureD.opD (p_asg Y Y)) ?_
   refine t_gho (Gho_st (L := [(2, .q 2 (0)), (4, .q 4 (0)), (5, .p ((fun q : List UInt32 => AV.lst (q.map AV.u32) q.length) r'1)), (6, .p (AV.u32 p6_0)), (7, .p (AV.u32 q7_0)), (8, .p (AV.u32 r8_0)), (9, .p (AV.u32 s9_0)), (10, .p (AV.u32 t10_0)), (11, .p (AV.u32 u11_0)), (12, .p (AV.u32 v12_0)), (14, .i i14_0), (16, .p (AV.u32 (((p6_0 &&& q7_0) ||| (p6_0 &&& r8_0)) ||| (q7_0 &&& r8_0)))), (17, .p (AV.u32 ((((x13_0 + ((r'2 ^^^ r'3) ^^^ r'4)) + ((t10_0 &&& u11_0) ||| ((~~~ t10_0) &&& v12_0))) + r'5) + (lrd r'1 i14_0.toNat))))]) (H := [(2, .pure (h0.toList.map AV.u32)), (4, .pure (((Vector.replicate 8 (0 : UInt32)).toList).map AV.u32))]) (N := 135) Y ⟨TLes.same _, TLes.same _, TLes.same _, TLes.same _, TLes.same _, TLes.same _, TLes.same _, TLes.same _, TLes.same _, TLes.same _, TLes.same _, TLes.same _, TLes.same _, trivial⟩ ⟨Y, Y, trivial⟩) ?_
   refine gen1 (fun one17'6 => (⟨[(2, .q 2 (0)), (4, .q 4 (0)), (5, .p ((fun q : List UInt32 => AV.lst (q.map AV.u32) q.length) r'1)), (6, .p (AV.u32 p6_0)), (7, .p (AV.u32 q7_0)), (8, .p (AV.u32 r8_0)), (9, .p (AV.u32 s9_0)), (10, .p (AV.u32 t10_0)), (11, .p (AV.u32 u11_0)), (12, .p (AV.u32 v12_0)), (14, .i i14_0), (16, .p (AV.u32 (((p6_0 &&& q7_0) ||| (p6_0 &&& r8_0)) ||| (q7_0 &&& r8_0)))), (17, .p (AV.u32 one17'6))], [(2, .pure (h0.toList.map AV.u32)), (4, .pure (((Vector.replicate 8 (0 : UInt32)).toList).map AV.u32))], 135⟩ : TS)) H ?_
   intro one17'6 H
   refine sg [0, 1, 2, 3, 4, 5, 6, 7, 8, 9, 10] Y ?_
   refine rp Y Y (p_move Y Y) ?_
   refine bindK H fun r'7 h8 H => ?_
   refine rp Y Y (p_callp Y Y Y Tryd.func58 Y Y (g_ref_rot_ac h8) ⟨Y, Y, trivial⟩) ?_
   refine rp Y Y (p_move Y Y) ?_
   refine bindK H fun r'8 h9 H => ?_
   refine rp Y Y (p_callp Y Y Y Tryd.func58 Y Y (g_ref_rot_ac h9) ⟨Y, Y, trivial⟩) ?_
   refine rp Y Y (p_u32xor (a := r'7) (b := r'8) Y Y Y) ?_
   refine rp Y Y (p_move Y Y) ?_
   refine bindK H fun r'9 h10 H => ?_
   refine rp Y Y (p_callp Y Y Y Tryd.func58 Y Y (g_ref_rot_ac h10) ⟨Y, Y, trivial⟩) ?_
   refine rp Y Y (p_u32xor (a := r'7 ^^^ r'8) (b := r'9) Y Y Y) ?_
   refine rp Y Y (p_move Y Y) ?_
   refine rp Y Y (p_u32add (a := (r'7 ^^^ r'8) ^^^ r'9) (b := ((p6_0 &&& q7_0) ||| (p6_0 &&& r8_0)) ||| (q7_0 &&& r8_0)) Y Y Y) ?_
   refine rp Y Y (p_asg Y Y) ?_
   refine rz [(2, .q 2 (0)), (4, .q 4 (0)), (5, .p ((fun q : List UInt32 => AV.lst (q.map AV.u32) q.length) r'1)), (6, .p (AV.u32 p6_0)), (7, .p (AV.u32 q7_0)), (8, .p (AV.u32 r8_0)), (9, .p (AV.u32 s9_0)), (10, .p (AV.u32 t10_0)), (11, .p (AV.u32 u11_0)), (12, .p (AV.u32 v12_0)), (14, .i i14_0), (17, .p (AV.u32 one17'6)), (18, .p (AV.u32 (((r'7 ^^^ r'8) ^^^ r'9) + (((p6_0 &&& q7_0) ||| (p6_0 &&& r8_0)) ||| (q7_0 &&& r8_0)))))] [(2, .pure (h0.toList.map AV.u32)), (4, .pure (((Vector.replicate 8 (0 : UInt32)).toList).map AV.u32))] Y Y Y ?_
   refine gen1 (fun two18'10 => (⟨[(2, .q 2 (0)), (4, .q 4 (0)), (5, .p ((fun q : List UInt32 => AV.lst (q.map AV.u32) q.length) r'1)), (6, .p (AV.u32 p6_0)), (7, .p (AV.u32 q7_0)), (8, .p (AV.u32 r8_0)), (9, .p (AV.u32 s9_0)), (10, .p (AV.u32 t10_0)), (11, .p (AV.u32 u11_0)), (12, .p (AV.u32 v12_0)), (14, .i i14_0), (17, .p (AV.u32 one17'6)), (18, .p (AV.u32 two18'10))], [(2, .pure (h0.toList.map AV.u32)), (4, .pure (((Vector.replicate 8 (0 : UInt32)).toList).map AV.u32))], 135⟩ : TS)) H ?_
   intro two18'10 H
   refine AW2_reg [0, 1, 2, 3, 4, 5, 6, 7, 8, 9, 10, 11, 12, 13, 14, 15, 16, 17, 18, 19] Y ?_
   refine rp Y Y (p_move Y Y) ?_
   refine rp Y Y (p_move Y Y) ?_
   refine rp Y Y (p_u32add (a := one17'6) (b := two18'10) Y Y Y) ?_
   refine rp Y Y (p_move Y Y) ?_
   refine rp Y Y (p_move Y Y) ?_
   refine rp Y Y (p_move Y Y) ?_
   refine rp Y Y (p_move Y Y) ?_
   refine rp Y Y (p_move Y Y) ?_
   refine rp Y Y (p_u32add (a := s9_0) (b := one17'6) Y Y Y) ?_
   refine rp Y Y (p_move Y Y) ?_
   refine rp Y Y (p_move Y Y) ?_
   refine rp Y Y (p_move Y Y) ?_
   refine rp Y Y (p_asg Y Y) ?_
   refine rp Y Y (p_asg Y Y) ?_
   refine rp Y Y (p_asg Y Y) ?_
   refine rp Y Y (p_asg Y Y) ?_
   refine rp Y Y (p_asg Y Y) ?_
   refine rp Y Y (p_asg Y Y) ?_
   refine rp Y Y (p_asg Y Y) ?_
   refine rp Y Y (p_asg Y Y) ?_
   refine rz [(2, .q 2 (0)), (4, .q 4 (0)), (5, .p ((fun q : List UInt32 => AV.lst (q.map AV.u32) q.length) r'1)), (6, .p (AV.u32 (one17'6 + two18'10))), (7, .p (AV.u32 p6_0)), (8, .p (AV.u32 q7_0)), (9, .p (AV.u32 r8_0)), (10, .p (AV.u32 (s9_0 + one17'6))), (11, .p (AV.u32 t10_0)), (12, .p (AV.u32 u11_0)), (13, .p (AV.u32 v12_0)), (14, .i i14_0)] [(2, .pure (h0.toList.map AV.u32)), (4, .pure (((Vector.replicate 8 (0 : UInt32)).toList).map AV.u32))] Y Y Y ?_
   refine AW2_reg [0, 1, 2] Y ?_
   refine rp Y Y (p_move Y Y) ?_
   refine rp Y Y (p_bin Y Y Y Y) ?_
   refine rp Y Y (p_asg Y Y) ?_
   refine rz [(2, .q 2 (0)), (4, .q 4 (0)), (5, .p ((fun q : List UInt32 => AV.lst (q.map AV.u32) q.length) r'1)), (6, .p (AV.u32 (one17'6 + two18'10))), (7, .p (AV.u32 p6_0)), (8, .p (AV.u32 q7_0)), (9, .p (AV.u32 r8_0)), (10, .p (AV.u32 (s9_0 + one17'6))), (11, .p (AV.u32 t10_0)), (12, .p (AV.u32 u11_0)), (13, .p (AV.u32 v12_0)), (14, .i (w64 (i14_0 + (1 : Int))))] [(2, .pure (h0.toList.map AV.u32)), (4, .pure (((Vector.replicate 8 (0 : UInt32)).toList).map AV.u32))] Y Y Y ?_
   have hz := some_elim H
   subst hz
   exact ⟨Y, Y⟩
  ·replace H := ite_else h2 H
   refine as2 [(2, .q 2 (0)), (4, .q 4 (0)), (6, .p (AV.u32 p6_0)), (7, .p (AV.u32 q7_0)), (8, .p (AV.u32 r8_0)), (9, .p (AV.u32 s9_0)), (10, .p (AV.u32 t10_0)), (11, .p (AV.u32 u11_0)), (12, .p (AV.u32 v12_0)), (13, .p (AV.u32 x13_0))] [(2, .pure (h0.toList.map AV.u32)), (4, .pure (((Vector.replicate 8 (0 : UInt32)).toList).map AV.u32))] Y Y Y ?_
   refine AW2_exit ?_
   refine thenQ2_exit ?_
   have hz := some_elim H
   subst hz
   exact ⟨Y, Y⟩
 ·obtain ⟨rfl, rfl⟩ := hs
  refine ⟨by simp, ?_⟩
  refine blockQ2_exit ?_
  refine sg [0, 1, 2, 3, 4, 5, 6, 7, 8, 9, 10, 11, 12, 13, 14, 15, 16, 17, 18, 19, 20, 21, 22, 23, 24, 25, 26, 27, 28, 29, 30, 31, 32, 33] Y ?_
  refine rp Y Y (u_ixp Y Y Tryd.underlying67 in_66 Y Y (nl (vmap_len (f := AV.u32) h0)) Y Y (by decide)) ?_
  refine rp Y Y (u_ld Y Y Tryd.underlying66 Y Y ((Sub.refl _).trans (Sub.vmap (by decide)))) ?_
  refine rp Y Y (p_move Y Y) ?_
  refine rp Y Y (p_u32add (a := (vrd h0 0)) (b := y'14.1) Y Y Y) ?_
  refine rp Y Y (u_ixp Y Y Tryd.underlying67 in_66 Y Y (nl (vmap_len (f := AV.u32) h0)) Y Y (by decide)) ?_
  refine rp Y Y (u_ld Y Y Tryd.underlying66 Y Y ((Sub.refl _).trans (Sub.vmap (by decide)))) ?_
  refine rp Y Y (p_move Y Y) ?_
  refine rp Y Y (p_u32add (a := (vrd h0 1)) (b := y'14.2.1) Y Y Y) ?_
  refine rp Y Y (u_ixp Y Y Tryd.underlying67 in_66 Y Y (nl (vmap_len (f := AV.u32) h0)) Y Y (by decide)) ?_
  refine rp Y Y (u_ld Y Y Tryd.underlying66 Y Y ((Sub.refl _).trans (Sub.vmap (by decide)))) ?_
  refine rp Y Y (p_move Y Y) ?_
  refine rp Y Y (p_u32add (a := (vrd h0 2)) (b := y'14.2.2.1) Y Y Y) ?_
  refine rp Y Y (u_ixp Y Y Tryd.underlying67 in_66 Y Y (nl (vmap_len (f := AV.u32) h0)) Y Y (by decide)) ?_
  refine rp Y Y (u_ld Y Y Tryd.underlying66 Y Y ((Sub.refl _).trans (Sub.vmap (by decide)))) ?_
  refine rp Y Y (p_move Y Y) ?_
  refine rp Y Y (p_u32add (a := (vrd h0 3)) (b := y'14.2.2.2.1) Y Y Y) ?_
  refine rp Y Y (u_ixp Y Y Tryd.underlying67 in_66 Y Y (nl (vmap_len (f := AV.u32) h0)) Y Y (by decide)) ?_
  refine rp Y Y (u_ld Y Y Tryd.underlying66 Y Y ((Sub.refl _).trans (Sub.vmap (by decide)))) ?_
  refine rp Y Y (p_move Y Y) ?_
  refine rp Y Y (p_u32add (a := (vrd h0 4)) (b := y'14.2.2.2.2.1) Y Y Y) ?_
  refine rp Y Y (u_ixp Y Y Tryd.underlying67 in_66 Y Y (nl (vmap_len (f := AV.u32) h0)) Y Y (by decide)) ?_
  refine rp Y Y (u_ld Y Y Tryd.underlying66 Y Y ((Sub.refl _).trans (Sub.vmap (by decide)))) ?_
  refine rp Y Y (p_move Y Y) ?_
  refine rp Y Y (p_u32add (a := (vrd h0 5)) (b := y'14.2.2.2.2.2.1) Y Y Y) ?_
  refine rp Y Y (u_ixp Y Y Tryd.underlying67 in_66 Y Y (nl (vmap_len (f := AV.u32) h0)) Y Y (by decide)) ?_
  refine rp Y Y (u_ld Y Y Tryd.underlying66 Y Y ((Sub.refl _).trans (Sub.vmap (by decide)))) ?_
  refine rp Y Y (p_move Y Y) ?_
  refine rp Y Y (p_u32add (a := (vrd h0 6)) (b := y'14.2.2.2.2.2.2.1) Y Y Y) ?_
  refine rp Y Y (u_ixp Y Y Tryd.underlying67 in_66 Y Y (nl (vmap_len (f := AV.u32) h0)) Y Y (by decide)) ?_
  refine rp Y Y (u_ld Y Y Tryd.underlying66 Y Y ((Sub.refl _).trans (Sub.vmap (by decide)))) ?_
  refine rp Y Y (p_move Y Y) ?_
  refine rp Y Y (p_u32add (a := (vrd h0 7)) (b := y'14.2.2.2.2.2.2.2) Y Y Y) ?_
  refine rp Y Y (u_blda Y in_67 one_67 Y Tryd.underlying67 in_66 Y Y) ?_
  refine r_op Y Y (u_st Y Y Y Y Y in_67 (vmap_len (f := AV.u32) (#v[(vrd h0 0) + y'14.1, (vrd h0 1) + y'14.2.1, (vrd h0 2) + y'14.2.2.1, (vrd h0 3) + y'14.2.2.2.1, (vrd h0 4) + y'14.2.2.2.2.1, (vrd h0 5) + y'14.2.2.2.2.2.1, (vrd h0 6) + y'14.2.2.2.2.2.2.1, (vrd h0 7) + y'14.2.2.2.2.2.2.2])) (nl (vmap_len (f := AV.u32) (Vector.replicate 8 (0 : UInt32)))) (Upd.refl ((vmap_len (f := AV.u32) (#v[(vrd h0 0) + y'14.1, (vrd h0 1) + y'14.2.1, (vrd h0 2) + y'14.2.2.1, (vrd h0 3) + y'14.2.2.2.1, (vrd h0 4) + y'14.2.2.2.2.1, (vrd h0 5) + y'14.2.2.2.2.2.1, (vrd h0 6) + y'14.2.2.2.2.2.2.1, (vrd h0 7) + y'14.2.2.2.2.2.2.2])).trans (vmap_len (f := AV.u32) (Vector.replicate 8 (0 : UInt32))).symm))) ?_
  refine rz [(4, .q 4 (0))] [(4, .pure (((#v[(vrd h0 0) + y'14.1, (vrd h0 1) + y'14.2.1, (vrd h0 2) + y'14.2.2.1, (vrd h0 3) + y'14.2.2.2.1, (vrd h0 4) + y'14.2.2.2.2.1, (vrd h0 5) + y'14.2.2.2.2.2.1, (vrd h0 6) + y'14.2.2.2.2.2.2.1, (vrd h0 7) + y'14.2.2.2.2.2.2.2]).toList).map AV.u32))] Y Y Y ?_
  refine gen1 (fun t4'15 => (⟨[(4, .q 4 (0))], [(4, .pure (t4'15.toList.map AV.u32))], 135⟩ : TS)) H ?_
  intro t4'15 H
  refine AW2_ret ?_
  have hz := some_elim H
  subst hz
  exact ⟨⟨res_cella Tryd.underlying67 Y in_67.sz Y (Sub.le (Sub.refl _) (vmap_len (f := AV.u32) t4'15)) (by decide) (Sub.take (Sub.refl _) (vmap_len (f := AV.u32) t4'15)), trivial⟩, trivial⟩

/-! chirographref.blocks -/
def g_ref_blocks_r3 : List (List (Nat × Option Nat)) := [[(2, none)], [(1, none)], [(11, some 1)]]
def g_ref_blocks_r3c : List (List Nat) := [[], [], [1], [0, 1, 2], [0, 1, 2, 3]]
noncomputable def g_ref_blocks_l0 : (List UInt8) × (Vector UInt32 8) → Option (((List UInt8) × (Vector UInt32 8)) ⊕ (((Vector UInt32 8))))
  | (s1_0, h2_0) => (if (s1_0.length : Int) ≥ (64 : Int) then if 0 ≤ (64 : Int) ∧ (64 : Int) ≤ (s1_0.length : Int) then (g_ref_block h2_0 (cut s1_0 (0 : Int) (64 : Int))).bind fun r'1 => if 0 ≤ (64 : Int) ∧ (64 : Int) ≤ (s1_0.length : Int) then some (.inl ((cut s1_0 (64 : Int) (s1_0.length : Int)), r'1)) else none else none else some (.inr h2_0))
noncomputable def g_ref_blocks (h0 : Vector UInt32 8) (s1 : List UInt8) : Option ((Vector UInt32 8)) :=
  (loopO (g_ref_blocks_l0) (s1, h0)).bind fun y'5 => some y'5
set_option maxHeartbeats 4000000 in
set_option maxRecDepth 100000 in
theorem g_ref_blocks_ac {h0 : Vector UInt32 8} {s1 : List UInt8} {r : (Vector UInt32 8)} (H : g_ref_blocks h0 s1 = some r) : ACp Tryd.prog 51 [(.agg (h0.toList.map AV.u32)), (AV.txt s1)] (.agg (r.toList.map AV.u32)) := by
 refine ACp_of (AC2_of_body (vs := [.g (r.toList.map AV.u32)]) Tryd.func51 Y Y (Nat.le_of_ble_eq_true Y) Y ?_) (fun _ => .same _)
 unfold g_ref_blocks at H
 refine as2 [(0, .g (h0.toList.map AV.u32)), (1, .t s1)] [] Y Y Y ?_
 refine sg [0, 1] Y ?_
 refine r_op Y Y (MakeD.opD (n_box 2 Y Y) Y Y Y Y) ?_
 refine r_op Y Y (MakeD.opD (u_alloc 4 Y in_67 one_67 zc_67) Y Y Y Y) ?_
 refine rz [(1, .t s1), (2, .q 2 (0)), (4, .q 4 (0))] [(2, .pure (h0.toList.map AV.u32)), (4, .pure (((Vector.replicate 8 (0 : UInt32)).toList).map AV.u32))] Y Y Y ?_
 refine AW2_seq ?_
 refine AW2_block ?_
 refine as2 [(1, .t s1), (2, .q 2 (0)), (4, .q 4 (0))] [(2, .pure (h0.toList.map AV.u32)), (4, .pure (((Vector.replicate 8 (0 : UInt32)).toList).map AV.u32))] Y Y Y ?_
 refine bindK H fun y'5 h5 H => ?_
 refine AW2_loopO (fun a'2 : (List UInt8) × (Vector UInt32 8) => (⟨[(1, .t a'2.1), (2, .q 2 (0)), (4, .q 4 (0))], [(2, .pure (a'2.2.toList.map AV.u32)), (4, .pure (((Vector.replicate 8 (0 : UInt32)).toList).map AV.u32))], 15⟩ : TS)) (fun (y'3 : ((Vector UInt32 8))) e s' => e = Go.Exit.exit 0 ∧ s' = (⟨[(2, .q 2 (0)), (4, .q 4 (0))], [(2, .pure (y'3.toList.map AV.u32)), (4, .pure (((Vector.replicate 8 (0 : UInt32)).toList).map AV.u32))], 15⟩ : TS)) h5 Y (fun a x hx => ?_) (fun e s' hs => ?_)
 ·clear H
  obtain ⟨s1_0, h2_0⟩ := a
  have H := hx
  clear hx
  unfold g_ref_blocks_l0 at H
  refine AW2_seq ?_
  refine sg [0, 1, 2] Y ?_
  refine rp Y Y (p_move Y Y) ?_
  refine rp Y Y (p_lent Y Tryd.underlying9 Y) ?_
  refine rp Y Y (p_bin Y Y Y Y) ?_
  refine rz [(1, .t s1_0), (2, .q 2 (0)), (4, .q 4 (0)), (7, .b (decide ((s1_0.length : Int) ≥ (64 : Int))))] [(2, .pure (h2_0.toList.map AV.u32)), (4, .pure (((Vector.replicate 8 (0 : UInt32)).toList).map AV.u32))] Y Y Y ?_
  refine AW2_if (p := (s1_0.length : Int) ≥ (64 : Int)) Y (fun h1 => ?_) (fun h1 => ?_)
  ·replace H := ite_then h1 H
   refine as2 [(1, .t s1_0), (2, .q 2 (0)), (4, .q 4 (0))] [(2, .pure (h2_0.toList.map AV.u32)), (4, .pure (((Vector.replicate 8 (0 : UInt32)).toList).map AV.u32))] Y Y Y ?_
   refine AW2_skip ?_
   refine AW2_seq ?_
   refine AW2_block ?_
   refine chkK H fun h2 H => ?_
   refine bindK H fun r'1 h3 H => ?_
   refine AW2_ghoQ ?_
   refine AW2_draw 3 [3, 4] (fun k => ([.g (h2_0.toList.map AV.u32), .t s1_0, .t (cut s1_0 (0 : Int) (64 : Int))] : List TV).getD k TV.any) (fun k => g_ref_blocks_r3.getD k []) [(1, none), (2, none), (4, none), (10, some 0), (12, some 2)] [] (fun k => g_ref_blocks_r3c.getD k []) mixed (by kernel_rfl) Y Y (a_op (g_x Y (x_p Y (u_lda Y Y Tryd.underlying67 Y in_67 Y (Nat.succ_pos _) (Sub.refl _) (vmap_len (f := AV.u32) h2_0)) Y)) (a_op (g_x Y (x_p Y (p_move Y Y) Y)) (a_op (g_x Y (x_p Y (u_cutt (a := (0 : Int)) (b := (64 : Int)) Y Tryd.underlying9 Y bT_zero (bT_i (Int.le_trans (show 0 ≤ (0 : Int) ∧ (0 : Int) ≤ (64 : Int) ∧ (64 : Int) ≤ (s1_0.length : Int) from ⟨Int.le_refl _, h2.1, h2.2⟩).1 (show 0 ≤ (0 : Int) ∧ (0 : Int) ≤ (64 : Int) ∧ (64 : Int) ≤ (s1_0.length : Int) from ⟨Int.le_refl _, h2.1, h2.2⟩).2.1) Y) (show 0 ≤ (0 : Int) ∧ (0 : Int) ≤ (64 : Int) ∧ (64 : Int) ≤ (s1_0.length : Int) from ⟨Int.le_refl _, h2.1, h2.2⟩)) Y)) (a_nil)))) ?_
   refine t_op Y Y (PureD.opD (p_callp Y Y Y Tryd.func55 Y Y (g_ref_block_ac h3) ⟨Y, Y, trivial⟩)) ?_
   refine t_op Y Y (u_st Y Y Y Y Y in_67 (vmap_len (f := AV.u32) r'1) (nl (vmap_len (f := AV.u32) h2_0)) (Upd.refl ((vmap_len (f := AV.u32) r'1).trans (vmap_len (f := AV.u32) h2_0).symm))) ?_
   refine t_gho (Gho_st (L := [(1, .t s1_0), (2, .q 2 (0)), (4, .q 4 (0))]) (H := [(2, .pure (r'1.toList.map AV.u32)), (4, .pure (((Vector.replicate 8 (0 : UInt32)).toList).map AV.u32))]) (N := 15) Y ⟨TLes.same _, TLes.same _, TLes.same _, trivial⟩ ⟨Y, Y, trivial⟩) ?_
   refine AW2_reg [0, 1, 2] Y ?_
   refine rp Y Y (p_move Y Y) ?_
   refine chkK H fun h4 H => ?_
   refine rp Y Y (u_cutt (a := (64 : Int)) (b := (s1_0.length : Int)) Y Tryd.underlying9 Y (bT_i (show 0 ≤ (64 : Int) ∧ (64 : Int) ≤ (s1_0.length : Int) ∧ (s1_0.length : Int) ≤ (s1_0.length : Int) from ⟨h4.1, h4.2, Int.le_refl _⟩).1 Y) (bT_len _) (show 0 ≤ (64 : Int) ∧ (64 : Int) ≤ (s1_0.length : Int) ∧ (s1_0.length : Int) ≤ (s1_0.length : Int) from ⟨h4.1, h4.2, Int.le_refl _⟩)) ?_
   refine rp Y Y (p_asg Y Y) ?_
   refine rz [(1, .t (cut s1_0 (64 : Int) (s1_0.length : Int))), (2, .q 2 (0)), (4, .q 4 (0))] [(2, .pure (r'1.toList.map AV.u32)), (4, .pure (((Vector.replicate 8 (0 : UInt32)).toList).map AV.u32))] Y Y Y ?_
   have hz := some_elim H
   subst hz
   exact ⟨Y, Y⟩
  ·replace H := ite_else h1 H
   refine as2 [(2, .q 2 (0)), (4, .q 4 (0))] [(2, .pure (h2_0.toList.map AV.u32)), (4, .pure (((Vector.replicate 8 (0 : UInt32)).toList).map AV.u32))] Y Y Y ?_
   refine AW2_exit ?_
   refine thenQ2_exit ?_
   have hz := some_elim H
   subst hz
   exact ⟨Y, Y⟩
 ·obtain ⟨rfl, rfl⟩ := hs
  refine ⟨by simp, ?_⟩
  refine blockQ2_exit ?_
  refine sg [0, 1] Y ?_
  refine rp Y Y (u_lda Y Y Tryd.underlying67 Y in_67 Y (Nat.succ_pos _) (Sub.refl _) (vmap_len (f := AV.u32) y'5)) ?_
  refine r_op Y Y (u_st Y Y Y Y Y in_67 (vmap_len (f := AV.u32) y'5) (nl (vmap_len (f := AV.u32) (Vector.replicate 8 (0 : UInt32)))) (Upd.refl ((vmap_len (f := AV.u32) y'5).trans (vmap_len (f := AV.u32) (Vector.replicate 8 (0 : UInt32))).symm))) ?_
  refine rz [(4, .q 4 (0))] [(4, .pure (y'5.toList.map AV.u32))] Y Y Y ?_
  refine AW2_ret ?_
  have hz := some_elim H
  subst hz
  exact ⟨⟨res_cella Tryd.underlying67 Y in_67.sz Y (Sub.le (Sub.refl _) (vmap_len (f := AV.u32) y'5)) (by decide) (Sub.take (Sub.refl _) (vmap_len (f := AV.u32) y'5)), trivial⟩, trivial⟩
end Go.Proofs.YteilidpbnndnpaaDoor.VM
