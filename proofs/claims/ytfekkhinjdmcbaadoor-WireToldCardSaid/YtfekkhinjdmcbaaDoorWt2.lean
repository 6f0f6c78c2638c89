/- Functions of the program, as they answer, and that their code comes to these answers. -/
import Derived.Test.YtfekkhinjdmcbaaDoorWt1
namespace Go.Proofs.YtfekkhinjdmcbaaDoor.VM
open Go Go.RowKit

theorem eq_24 : EqT Tryd.prog 24 2 (fun x : GValue => .agg (GValue.cs x)) :=
  eqt_struct [fun a b => a.Kind = b.Kind, fun a b => a.Int_ = b.Int_, fun a b => a.Bits = b.Bits, fun a b => a.Text = b.Text] Tryd.underlying24 (by kernel_rfl) ⟨(FieldEq.more (fe_one (by decide) Tryd.underlying3 rfl (eqt_int Tryd.underlying3) (fun a => GValue.sub0 a)) (by decide : 1 ≤ 1)), (FieldEq.more (fe_one (by decide) Tryd.underlying3 rfl (eqt_int Tryd.underlying3) (fun a => GValue.sub1 a)) (by decide : 1 ≤ 1)), (FieldEq.more (fe_one (by decide) Tryd.underlying22 rfl (eqt_u64 Tryd.underlying22) (fun a => GValue.sub2 a)) (by decide : 1 ≤ 1)), (FieldEq.more (fe_one (by decide) Tryd.underlying9 rfl (eqt_txt Tryd.underlying9) (fun a => GValue.sub3 a)) (by decide : 1 ≤ 1)), trivial⟩ (fun a b => by
    cases a; cases b
    simp)

/-! chirographref.number -/
noncomputable def g_ref_number_l0 (s0 : List UInt8) : UInt64 × Int → Option ((UInt64 × Int) ⊕ (UInt64))
  | (n3_0, i4_0) => (if i4_0 < (s0.length : Int) then if 0 ≤ i4_0 ∧ i4_0 < (s0.length : Int) then some (.inl ((n3_0 * (256 : UInt64)) + ((lrd s0 i4_0.toNat).toUInt64), w64 (i4_0 + (1 : Int)))) else none else some (.inr n3_0))
noncomputable def g_ref_number (s0 : List UInt8) : Option (UInt64) :=
  (loopO (g_ref_number_l0 s0) ((0 : UInt64), (0 : Int))).bind fun y'4 => some y'4
set_option maxHeartbeats 4000000 in
set_option maxRecDepth 100000 in
theorem g_ref_number_ac {s0 : List UInt8} {r : UInt64} (H : g_ref_number s0 = some r) : ACp Tryd.prog 57 [(AV.txt s0)] (AV.u64 r) := by
 refine ACp_of (AC2_of_body (vs := [.p (AV.u64 r)]) Tryd.func57 rfl rfl (Nat.le_of_ble_eq_true rfl) rfl ?_) (fun _ => .same _)
 unfold g_ref_number at H
 refine as2 [(0, .t s0)] [] rfl rfl rfl ?_
 refine sg [0] rfl ?_
 refine rp rfl rfl (p_asg rfl rfl) ?_
 refine rz [(0, .t s0)] [] rfl rfl rfl ?_
 refine sg [0] rfl ?_
 refine rp rfl rfl (p_asg rfl rfl) ?_
 refine rz [(0, .t s0), (3, .p (AV.u64 (0 : UInt64)))] [] rfl rfl rfl ?_
 refine AW2_seq ?_
 refine sg [0] rfl ?_
 refine rp rfl rfl (p_asg rfl rfl) ?_
 refine rz [(0, .t s0), (3, .p (AV.u64 (0 : UInt64))), (4, .i (0 : Int))] [] rfl rfl rfl ?_
 refine AW2_block ?_
 refine as2 [(0, .t s0), (3, .p (AV.u64 (0 : UInt64))), (4, .i (0 : Int))] [] rfl rfl rfl ?_
 refine bindK H fun y'4 h3 H => ?_
 refine AW2_loopO (fun a'1 : UInt64 × Int => (⟨[(0, .t s0), (3, .p (AV.u64 a'1.1)), (4, .i a'1.2)], [], 19⟩ : TS)) (fun (y'2 : UInt64) e s' => e = Go.Exit.exit 0 ∧ s' = (⟨[(3, .p (AV.u64 y'2))], [], 19⟩ : TS)) h3 rfl (fun a x hx => ?_) (fun e s' hs => ?_)
 ·clear H
  obtain ⟨n3_0, i4_0⟩ := a
  have H := hx
  clear hx
  unfold g_ref_number_l0 at H
  refine AW2_seq ?_
  refine sg [0, 1, 2, 3] rfl ?_
  refine rp rfl rfl (p_move rfl rfl) ?_
  refine rp rfl rfl (p_move rfl rfl) ?_
  refine rp rfl rfl (p_lent rfl Tryd.underlying9 rfl) ?_
  refine rp rfl rfl (p_bin rfl rfl rfl rfl) ?_
  refine rz [(0, .t s0), (3, .p (AV.u64 n3_0)), (4, .i i4_0), (8, .b (decide (i4_0 < (s0.length : Int))))] [] rfl rfl rfl ?_
  refine AW2_if (p := i4_0 < (s0.length : Int)) rfl (fun h1 => ?_) (fun h1 => ?_)
  ·replace H := ite_then h1 H
   refine as2 [(0, .t s0), (3, .p (AV.u64 n3_0)), (4, .i i4_0)] [] rfl rfl rfl ?_
   refine AW2_skip ?_
   refine AW2_seq ?_
   refine AW2_block ?_
   refine AW2_reg [0, 1, 2, 3, 4, 5, 6, 7] rfl ?_
   refine rp rfl rfl (p_move rfl rfl) ?_
   refine rp rfl rfl (p_u64mul (a := n3_0) (b := (256 : UInt64)) rfl rfl rfl) ?_
   refine rp rfl rfl (p_move rfl rfl) ?_
   refine rp rfl rfl (p_move rfl rfl) ?_
   refine chkK H fun h2 H => ?_
   refine rp rfl rfl (p_ixt rfl Tryd.underlying9 rfl rfl (ixe h2) (lrd_get (ixn h2))) ?_
   refine rp rfl rfl (p_u8_u64 (a := (lrd s0 i4_0.toNat)) rfl Tryd.underlying5 Tryd.underlying22 rfl) ?_
   refine rp rfl rfl (p_u64add (a := n3_0 * (256 : UInt64)) (b := (lrd s0 i4_0.toNat).toUInt64) rfl rfl rfl) ?_
   refine rp rfl rfl (p_asg rfl rfl) ?_
   refine rz [(0, .t s0), (3, .p (AV.u64 ((n3_0 * (256 : UInt64)) + ((lrd s0 i4_0.toNat).toUInt64)))), (4, .i i4_0)] [] rfl rfl rfl ?_
   refine AW2_reg [0, 1, 2] rfl ?_
   refine rp rfl rfl (p_move rfl rfl) ?_
   refine rp rfl rfl (p_bin rfl rfl rfl rfl) ?_
   refine rp rfl rfl (p_asg rfl rfl) ?_
   refine rz [(0, .t s0), (3, .p (AV.u64 ((n3_0 * (256 : UInt64)) + ((lrd s0 i4_0.toNat).toUInt64)))), (4, .i (w64 (i4_0 + (1 : Int))))] [] rfl rfl rfl ?_
   have hz := some_elim H
   subst hz
   exact ⟨rfl, rfl⟩
  ·replace H := ite_else h1 H
   refine as2 [(3, .p (AV.u64 n3_0))] [] rfl rfl rfl ?_
   refine AW2_exit ?_
   refine thenQ2_exit ?_
   have hz := some_elim H
   subst hz
   exact ⟨rfl, rfl⟩
 ·obtain ⟨rfl, rfl⟩ := hs
  refine ⟨by simp, ?_⟩
  refine blockQ2_exit ?_
  refine sg [0, 1] rfl ?_
  refine rp rfl rfl (p_move rfl rfl) ?_
  refine rp rfl rfl (p_asg rfl rfl) ?_
  refine rz [(2, .p (AV.u64 y'4))] [] rfl rfl rfl ?_
  refine AW2_ret ?_
  have hz := some_elim H
  subst hz
  exact ⟨⟨res_tmp (.same _), trivial⟩, trivial⟩

/-! chirographref.downs -/
noncomputable def g_ref_downs (down0 : Int) (i1 : Int) : Option (Bool) :=
  if 0 ≤ i1 then some (decide (iand down0 (ishl (1 : Int) i1.toNat) ≠ (0 : Int))) else none
set_option maxHeartbeats 4000000 in
set_option maxRecDepth 100000 in
theorem g_ref_downs_ac {down0 : Int} {i1 : Int} {r : Bool} (H : g_ref_downs down0 i1 = some r) : ACp Tryd.prog 51 [(AV.int down0), (AV.int i1)] (AV.bool r) := by
 refine ACp_of (AC2_of_body (vs := [.b r]) Tryd.func51 rfl rfl (Nat.le_of_ble_eq_true rfl) rfl ?_) (fun _ => .same _)
 unfold g_ref_downs at H
 refine as2 [(0, .i down0), (1, .i i1)] [] rfl rfl rfl ?_
 refine sg [0] rfl ?_
 refine rp rfl rfl (p_asg rfl rfl) ?_
 refine rz [(0, .i down0), (1, .i i1)] [] rfl rfl rfl ?_
 refine sg [0, 1, 2, 3, 4, 5] rfl ?_
 refine rp rfl rfl (p_move rfl rfl) ?_
 refine rp rfl rfl (p_move rfl rfl) ?_
 refine chkK H fun h1 H => ?_
 refine rp rfl rfl (p_ishl (n := i1.toNat) rfl rfl rfl (Int.toNat_of_nonneg h1).symm) ?_
 refine rp rfl rfl (p_bin rfl rfl rfl rfl) ?_
 refine rp rfl rfl (p_ine rfl rfl rfl) ?_
 refine rp rfl rfl (p_asg rfl rfl) ?_
 refine rz [(4, .b (decide (iand down0 (ishl (1 : Int) i1.toNat) ≠ (0 : Int))))] [] rfl rfl rfl ?_
 refine AW2_ret ?_
 have hz := some_elim H
 subst hz
 exact ⟨⟨res_tmp (.same _), trivial⟩, trivial⟩

/-! chirographref.flipped -/
noncomputable def g_ref_flipped_l0 (s0 : List UInt8) : Int × (List UInt8) → Option ((Int × (List UInt8)) ⊕ (((List UInt8))))
  | (t9_0, b3_0) => (if t9_0 < (s0.length : Int) then if 0 ≤ t9_0 ∧ t9_0 < (b3_0.length : Int) then if 0 ≤ t9_0 ∧ t9_0 < (b3_0.length : Int) then some (.inl (w64 (t9_0 + (1 : Int)), (b3_0.set t9_0.toNat ((255 : UInt8) - (lrd b3_0 t9_0.toNat))))) else none else none else some (.inr b3_0))
noncomputable def g_ref_flipped (s0 : List UInt8) : Option ((List UInt8)) :=
  (loopO (g_ref_flipped_l0 s0) ((0 : Int), s0)).bind fun y'4 => some y'4
set_option maxHeartbeats 4000000 in
set_option maxRecDepth 100000 in
theorem g_ref_flipped_ac {s0 : List UInt8} {r : (List UInt8)} (H : g_ref_flipped s0 = some r) : ACp Tryd.prog 52 [(AV.txt s0)] (AV.txt r) := by
 refine ACp_of (AC2_of_body (vs := [.t r]) Tryd.func52 rfl rfl (Nat.le_of_ble_eq_true rfl) rfl ?_) (fun _ => .same _)
 unfold g_ref_flipped at H
 refine as2 [(0, .t s0)] [] rfl rfl rfl ?_
 refine sg [0] rfl ?_
 refine rp rfl rfl (p_asg rfl rfl) ?_
 refine rz [(0, .t s0)] [] rfl rfl rfl ?_
 refine sg [0, 1, 2] rfl ?_
 refine rp rfl rfl (p_move rfl rfl) ?_
 refine r_op rfl rfl (MakeD.opD (n_sb 6 rfl Tryd.underlying9 Tryd.underlying33 Tryd.underlying5 rfl) rfl rfl rfl rfl) ?_
 refine rp rfl rfl (p_asg rfl rfl) ?_
 refine rs [(3, .c (.own 6 s0.length 1))] [(6, .pure (bcells s0))] rfl rfl rfl ?_
 refine RunW_gho (Gho_ren 6 3 rfl rfl rfl rfl rfl) ?_
 refine rz [(3, .c (.own 3 s0.length 1))] [(3, .pure (bcells s0))] rfl rfl rfl ?_
 refine AW2_seq ?_
 refine sg [0, 1, 2] rfl ?_
 refine rp rfl rfl (p_move rfl rfl) ?_
 refine rp rfl rfl (p_leno rfl Tryd.underlying33 rfl rfl rfl (bl s0) (by decide)) ?_
 refine rp rfl rfl (p_move rfl rfl) ?_
 refine rz [(3, .c (.own 3 s0.length 1)), (8, .i (s0.length : Int)), (9, .i (0 : Int))] [(3, .pure (bcells s0))] rfl rfl rfl ?_
 refine AW2_block ?_
 refine as2 [(3, .c (.own 3 s0.length 1)), (8, .i (s0.length : Int)), (9, .i (0 : Int))] [(3, .pure (bcells s0))] rfl rfl rfl ?_
 refine bindK H fun y'4 h4 H => ?_
 refine AW2_loopO (fun a'1 : Int × (List UInt8) => (⟨[(3, .c (.own 3 a'1.2.length 1)), (8, .i (s0.length : Int)), (9, .i a'1.1)], [(3, .pure (bcells a'1.2))], 23⟩ : TS)) (fun (y'2 : ((List UInt8))) e s' => e = Go.Exit.exit 0 ∧ s' = (⟨[(3, .c (.own 3 y'2.length 1))], [(3, .pure (bcells y'2))], 23⟩ : TS)) h4 rfl (fun a x hx => ?_) (fun e s' hs => ?_)
 ·clear H
  obtain ⟨t9_0, b3_0⟩ := a
  have H := hx
  clear hx
  unfold g_ref_flipped_l0 at H
  refine sg [0] rfl ?_
  refine rp rfl rfl (p_bin rfl rfl rfl rfl) ?_
  refine rz [(3, .c (.own 3 b3_0.length 1)), (8, .i (s0.length : Int)), (9, .i t9_0), (10, .b (decide (t9_0 < (s0.length : Int))))] [(3, .pure (bcells b3_0))] rfl rfl rfl ?_
  refine AW2_seq ?_
  refine AW2_if (p := t9_0 < (s0.length : Int)) rfl (fun h1 => ?_) (fun h1 => ?_)
  ·replace H := ite_then h1 H
   refine as2 [(3, .c (.own 3 b3_0.length 1)), (8, .i (s0.length : Int)), (9, .i t9_0)] [(3, .pure (bcells b3_0))] rfl rfl rfl ?_
   refine AW2_skip ?_
   refine AW2_seq ?_
   refine AW2_block ?_
   refine sg [0, 1] rfl ?_
   refine rp rfl rfl (p_move rfl rfl) ?_
   refine rp rfl rfl (p_asg rfl rfl) ?_
   refine rz [(3, .c (.own 3 b3_0.length 1)), (4, .i t9_0), (8, .i (s0.length : Int)), (9, .i t9_0)] [(3, .pure (bcells b3_0))] rfl rfl rfl ?_
   refine AW2_reg [0, 1, 2, 3, 4, 5, 6, 7, 8] rfl ?_
   refine rp rfl rfl (p_move rfl rfl) ?_
   refine rp rfl rfl (p_move rfl rfl) ?_
   refine rp rfl rfl (p_move rfl rfl) ?_
   refine rp rfl rfl (p_move rfl rfl) ?_
   refine chkK H fun h2 H => ?_
   refine rp rfl rfl (u_ixo rfl rfl Tryd.underlying33 in_5 rfl rfl (lne (ixn h2)) rfl (ixe h2) (ixn h2)) ?_
   refine rp rfl rfl (u_ld rfl rfl Tryd.underlying5 rfl rfl ((Sub.refl _).trans (Sub.map default (ixn h2)))) ?_
   refine rp rfl rfl (p_u8sub (a := (255 : UInt8)) (b := (lrd b3_0 t9_0.toNat)) rfl rfl rfl) ?_
   refine chkK H fun h3 H => ?_
   refine rp rfl rfl (u_ixo rfl rfl Tryd.underlying33 in_5 rfl rfl (lne (ixn h3)) rfl (ixe h3) (ixn h3)) ?_
   refine r_op rfl rfl (u_st rfl rfl rfl rfl rfl in_5 rfl (lne (ixn h3)) (Upd.trans (Sub.refl _) (Upd.map (ixn h3)) (Upd.refl (by simp [bcells_length])))) ?_
   refine RunW_st [(3, .c (.own 3 (b3_0.set t9_0.toNat ((255 : UInt8) - (lrd b3_0 t9_0.toNat))).length 1)), (8, .i (s0.length : Int)), (9, .i t9_0)] [(3, .pure (bcells (b3_0.set t9_0.toNat ((255 : UInt8) - (lrd b3_0 t9_0.toNat)))))] rfl ⟨TLes.own (by simp only [List.length_set]), TLes.same _, TLes.same _, trivial⟩ ⟨rfl, trivial⟩ ?_
   refine RunW_nil ?_
   refine AW2_reg [0, 1] rfl ?_
   refine rp rfl rfl (p_bin rfl rfl rfl rfl) ?_
   refine rp rfl rfl (p_move rfl rfl) ?_
   refine rz [(3, .c (.own 3 (b3_0.set t9_0.toNat ((255 : UInt8) - (lrd b3_0 t9_0.toNat))).length 1)), (8, .i (s0.length : Int)), (9, .i (w64 (t9_0 + (1 : Int))))] [(3, .pure (bcells (b3_0.set t9_0.toNat ((255 : UInt8) - (lrd b3_0 t9_0.toNat)))))] rfl rfl rfl ?_
   have hz := some_elim H
   subst hz
   exact ⟨rfl, rfl⟩
  ·replace H := ite_else h1 H
   refine as2 [(3, .c (.own 3 b3_0.length 1))] [(3, .pure (bcells b3_0))] rfl rfl rfl ?_
   refine AW2_exit ?_
   refine thenQ2_exit ?_
   have hz := some_elim H
   subst hz
   exact ⟨rfl, rfl⟩
 ·obtain ⟨rfl, rfl⟩ := hs
  refine ⟨by simp, ?_⟩
  refine blockQ2_exit ?_
  refine sg [0, 1, 2] rfl ?_
  refine rp rfl rfl (p_move rfl rfl) ?_
  refine rp rfl rfl (p_cbo (bs := y'4) rfl rfl Tryd.underlying33 Tryd.underlying5 Tryd.underlying9 rfl rfl) ?_
  refine rp rfl rfl (p_asg rfl rfl) ?_
  refine rz [(2, .t y'4)] [] rfl rfl rfl ?_
  refine AW2_ret ?_
  have hz := some_elim H
  subst hz
  exact ⟨⟨res_tmp (.same _), trivial⟩, trivial⟩

/-! chirographref.textOf -/
noncomputable def g_ref_textOf_l0 (s0 : List UInt8) : (List UInt8) × Int → Option (((List UInt8) × Int) ⊕ ((GValue × Int × Int) ⊕ Unit))
  | (t5_0, i6_0) => (if i6_0 < (s0.length : Int) then if 0 ≤ i6_0 ∧ i6_0 ≤ w64 (i6_0 + (1 : Int)) ∧ w64 (i6_0 + (1 : Int)) ≤ (s0.length : Int) then (show Option ((Unit ⊕ (GValue × Int × Int)) ⊕ Int) from (if (cut s0 i6_0 (w64 (i6_0 + (1 : Int)))) = [0] then (if w64 (i6_0 + (1 : Int)) = (s0.length : Int) then some (.inl (.inl ())) else if 0 ≤ w64 (i6_0 + (1 : Int)) ∧ w64 (i6_0 + (1 : Int)) < (s0.length : Int) then (if (lrd s0 ((w64 (i6_0 + (1 : Int))).toNat)) = (1 : UInt8) then (g_utf8_ValidString t5_0).bind fun r'4 => (if (!r'4) = true then some (.inl (.inr (GValue.zero, (0 : Int), (3 : Int)))) else some (.inl (.inr ({ { GValue.zero with Kind := (4 : Int) } with Text := t5_0 }, w64 ((w64 (i6_0 + (1 : Int))) + (2 : Int)), (0 : Int))))) else if 0 ≤ w64 (i6_0 + (1 : Int)) ∧ w64 (i6_0 + (1 : Int)) < (s0.length : Int) then (if (lrd s0 ((w64 (i6_0 + (1 : Int))).toNat)) ≠ (255 : UInt8) then some (.inl (.inr (GValue.zero, (0 : Int), (3 : Int)))) else some (.inr (w64 (i6_0 + (1 : Int))))) else none) else none) else some (.inr i6_0))).bind fun o'7 => match o'7 with | .inl (.inl y'5) => some (.inr (.inr ())) | .inl (.inr (y'6)) => some (.inr (.inl y'6)) | .inr j'1 => if t5_0.length + (cut s0 i6_0 (w64 (i6_0 + (1 : Int)))).length ≤ 9223372036854775807 then (if ((t5_0 ++ (cut s0 i6_0 (w64 (i6_0 + (1 : Int))))).length : Int) > (40 : Int) then some (.inr (.inl (GValue.zero, (0 : Int), (1 : Int)))) else some (.inl (t5_0 ++ (cut s0 i6_0 (w64 (i6_0 + (1 : Int)))), w64 (j'1 + (1 : Int))))) else none else none else some (.inr (.inr ())))
noncomputable def g_ref_textOf (s0 : List UInt8) : Option (GValue × Int × Int) :=
  (loopO (g_ref_textOf_l0 s0) ([], (0 : Int))).bind fun o'12 => match o'12 with | .inl y'13 => some y'13 | .inr (y'14) => some (GValue.zero, (0 : Int), (4 : Int))
set_option maxHeartbeats 4000000 in
set_option maxRecDepth 100000 in
theorem g_ref_textOf_ac {s0 : List UInt8} {r : GValue × Int × Int} (H : g_ref_textOf s0 = some r) : ACp Tryd.prog 76 [(AV.txt s0)] (.tup [(.agg (GValue.cs r.1)), (AV.int r.2.1), (AV.int r.2.2)]) := by
 refine ACp_of (AC2_of_body (vs := [.g (GValue.cs r.1), .i r.2.1, .i r.2.2]) Tryd.func76 rfl rfl (Nat.le_of_ble_eq_true rfl) rfl ?_) (fun _ => .same _)
 unfold g_ref_textOf at H
 refine as2 [(0, .t s0)] [] rfl rfl rfl ?_
 refine sg [0, 1, 2] rfl ?_
 refine r_op rfl rfl (MakeD.opD (u_alloc 2 rfl in_24 one_24 zc_24) rfl rfl rfl rfl) ?_
 refine rp rfl rfl (p_asg rfl rfl) ?_
 refine rp rfl rfl (p_asg rfl rfl) ?_
 refine rz [(0, .t s0), (2, .q 2 (0))] [(2, .pure (GValue.cs GValue.zero))] rfl rfl rfl ?_
 refine sg [0] rfl ?_
 refine rp rfl rfl (p_asg rfl rfl) ?_
 refine rz [(0, .t s0), (2, .q 2 (0)), (5, .t [])] [(2, .pure (GValue.cs GValue.zero))] rfl rfl rfl ?_
 refine AW2_seq ?_
 refine sg [0] rfl ?_
 refine rp rfl rfl (p_asg rfl rfl) ?_
 refine rz [(0, .t s0), (2, .q 2 (0)), (5, .t []), (6, .i (0 : Int))] [(2, .pure (GValue.cs GValue.zero))] rfl rfl rfl ?_
 refine AW2_block ?_
 refine as2 [(0, .t s0), (2, .q 2 (0)), (5, .t []), (6, .i (0 : Int))] [(2, .pure (GValue.cs GValue.zero))] rfl rfl rfl ?_
 refine bindK H fun o'12 h14 H => ?_
 refine AW2_loopO (fun a'9 : (List UInt8) × Int => (⟨[(0, .t s0), (2, .q 2 (0)), (5, .t a'9.1), (6, .i a'9.2)], [(2, .pure (GValue.cs GValue.zero))], 52⟩ : TS)) (fun (o : (GValue × Int × Int) ⊕ Unit) e s' => match o with | .inl y'10 => e = Go.Exit.ret ∧ ResAll Tryd.prog s' [ResultVar.cell 2 24, ResultVar.tmp 3, ResultVar.tmp 4] [.g (GValue.cs y'10.1), .i y'10.2.1, .i y'10.2.2] ∧ HFits s' [] | .inr (y'11) => e = Go.Exit.exit 0 ∧ s' = (⟨[(2, .q 2 (0))], [(2, .pure (GValue.cs GValue.zero))], 52⟩ : TS)) h14 rfl (fun a x hx => ?_) (fun e s' hs => ?_)
 ·clear H
  obtain ⟨t5_0, i6_0⟩ := a
  have H := hx
  clear hx
  unfold g_ref_textOf_l0 at H
  refine AW2_seq ?_
  refine sg [0, 1, 2, 3] rfl ?_
  refine rp rfl rfl (p_move rfl rfl) ?_
  refine rp rfl rfl (p_move rfl rfl) ?_
  refine rp rfl rfl (p_lent rfl Tryd.underlying9 rfl) ?_
  refine rp rfl rfl (p_bin rfl rfl rfl rfl) ?_
  refine rz [(0, .t s0), (2, .q 2 (0)), (5, .t t5_0), (6, .i i6_0), (11, .b (decide (i6_0 < (s0.length : Int))))] [(2, .pure (GValue.cs GValue.zero))] rfl rfl rfl ?_
  refine AW2_if (p := i6_0 < (s0.length : Int)) rfl (fun h1 => ?_) (fun h1 => ?_)
  ·replace H := ite_then h1 H
   refine as2 [(0, .t s0), (2, .q 2 (0)), (5, .t t5_0), (6, .i i6_0)] [(2, .pure (GValue.cs GValue.zero))] rfl rfl rfl ?_
   refine AW2_skip ?_
   refine AW2_seq ?_
   refine AW2_block ?_
   refine sg [0, 1, 2, 3, 4, 5] rfl ?_
   refine rp rfl rfl (p_move rfl rfl) ?_
   refine rp rfl rfl (p_move rfl rfl) ?_
   refine rp rfl rfl (p_move rfl rfl) ?_
   refine rp rfl rfl (p_bin rfl rfl rfl rfl) ?_
   refine chkK H fun h2 H => ?_
   refine rp rfl rfl (u_cutt (a := i6_0) (b := w64 (i6_0 + (1 : Int))) rfl Tryd.underlying9 rfl (bT_i (show 0 ≤ i6_0 ∧ i6_0 ≤ w64 (i6_0 + (1 : Int)) ∧ w64 (i6_0 + (1 : Int)) ≤ (s0.length : Int) from h2).1 rfl) (bT_i (Int.le_trans (show 0 ≤ i6_0 ∧ i6_0 ≤ w64 (i6_0 + (1 : Int)) ∧ w64 (i6_0 + (1 : Int)) ≤ (s0.length : Int) from h2).1 (show 0 ≤ i6_0 ∧ i6_0 ≤ w64 (i6_0 + (1 : Int)) ∧ w64 (i6_0 + (1 : Int)) ≤ (s0.length : Int) from h2).2.1) rfl) (show 0 ≤ i6_0 ∧ i6_0 ≤ w64 (i6_0 + (1 : Int)) ∧ w64 (i6_0 + (1 : Int)) ≤ (s0.length : Int) from h2)) ?_
   refine rp rfl rfl (p_asg rfl rfl) ?_
   refine rz [(0, .t s0), (2, .q 2 (0)), (5, .t t5_0), (6, .i i6_0), (7, .t (cut s0 i6_0 (w64 (i6_0 + (1 : Int)))))] [(2, .pure (GValue.cs GValue.zero))] rfl rfl rfl ?_
   refine AW2_seq ?_
   refine bindK H fun o'7 h3 H => ?_
   refine AW2_join (fun j'1 : Int => (⟨[(0, .t s0), (2, .q 2 (0)), (5, .t t5_0), (6, .i j'1), (7, .t (cut s0 i6_0 (w64 (i6_0 + (1 : Int)))))], [(2, .pure (GValue.cs GValue.zero))], 52⟩ : TS)) (fun (o : Unit ⊕ (GValue × Int × Int)) e s' => match o with | .inl y'2 => e = Go.Exit.exit 0 ∧ s' = (⟨[(2, .q 2 (0))], [(2, .pure (GValue.cs GValue.zero))], 52⟩ : TS) | .inr (y'3) => e = Go.Exit.ret ∧ ResAll Tryd.prog s' [ResultVar.cell 2 24, ResultVar.tmp 3, ResultVar.tmp 4] [.g (GValue.cs y'3.1), .i y'3.2.1, .i y'3.2.2] ∧ HFits s' []) (x := o'7) ?_ (fun j'1 hy => ?_) (fun z'8 e s' hy hs => ?_)
   ·clear H
    have H := h3
    clear h3
    refine sg [0, 1] rfl ?_
    refine rp rfl rfl (p_move rfl rfl) ?_
    refine rp rfl rfl (p_seq rfl rfl rfl) ?_
    refine rz [(0, .t s0), (2, .q 2 (0)), (5, .t t5_0), (6, .i i6_0), (7, .t (cut s0 i6_0 (w64 (i6_0 + (1 : Int))))), (20, .b (decide ((cut s0 i6_0 (w64 (i6_0 + (1 : Int)))) = [0])))] [(2, .pure (GValue.cs GValue.zero))] rfl rfl rfl ?_
    refine AW2_if (p := (cut s0 i6_0 (w64 (i6_0 + (1 : Int)))) = [0]) rfl (fun h4 => ?_) (fun h4 => ?_)
    ·replace H := ite_then h4 H
     refine sg [0, 1, 2] rfl ?_
     refine rp rfl rfl (p_move rfl rfl) ?_
     refine rp rfl rfl (p_bin rfl rfl rfl rfl) ?_
     refine rp rfl rfl (p_asg rfl rfl) ?_
     refine rz [(0, .t s0), (2, .q 2 (0)), (5, .t t5_0), (6, .i (w64 (i6_0 + (1 : Int)))), (7, .t (cut s0 i6_0 (w64 (i6_0 + (1 : Int)))))] [(2, .pure (GValue.cs GValue.zero))] rfl rfl rfl ?_
     refine AW2_seq ?_
     refine sg [0, 1, 2, 3] rfl ?_
     refine rp rfl rfl (p_move rfl rfl) ?_
     refine rp rfl rfl (p_move rfl rfl) ?_
     refine rp rfl rfl (p_lent rfl Tryd.underlying9 rfl) ?_
     refine rp rfl rfl (p_ieq rfl rfl rfl) ?_
     refine rz [(0, .t s0), (2, .q 2 (0)), (5, .t t5_0), (6, .i (w64 (i6_0 + (1 : Int)))), (7, .t (cut s0 i6_0 (w64 (i6_0 + (1 : Int))))), (26, .b (decide (w64 (i6_0 + (1 : Int)) = (s0.length : Int))))] [(2, .pure (GValue.cs GValue.zero))] rfl rfl rfl ?_
     refine AW2_if (p := w64 (i6_0 + (1 : Int)) = (s0.length : Int)) rfl (fun h5 => ?_) (fun h5 => ?_)
     ·replace H := ite_then h5 H
      refine as2 [(2, .q 2 (0))] [(2, .pure (GValue.cs GValue.zero))] rfl rfl rfl ?_
      refine AW2_exit ?_
      refine thenQ2_exit ?_
      have hz := some_elim H
      subst hz
      exact ⟨rfl, rfl⟩
     ·replace H := ite_else h5 H
      refine as2 [(0, .t s0), (2, .q 2 (0)), (5, .t t5_0), (6, .i (w64 (i6_0 + (1 : Int)))), (7, .t (cut s0 i6_0 (w64 (i6_0 + (1 : Int)))))] [(2, .pure (GValue.cs GValue.zero))] rfl rfl rfl ?_
      refine AW2_skip ?_
      refine AW2_seq ?_
      refine sg [0, 1, 2, 3] rfl ?_
      refine rp rfl rfl (p_move rfl rfl) ?_
      refine rp rfl rfl (p_move rfl rfl) ?_
      refine chkK H fun h6 H => ?_
      refine rp rfl rfl (p_ixt rfl Tryd.underlying9 rfl rfl (ixe h6) (lrd_get (ixn h6))) ?_
      refine rp rfl rfl (p_u8eq (a := (lrd s0 ((w64 (i6_0 + (1 : Int))).toNat))) (b := (1 : UInt8)) rfl rfl rfl) ?_
      refine rz [(0, .t s0), (2, .q 2 (0)), (5, .t t5_0), (6, .i (w64 (i6_0 + (1 : Int)))), (7, .t (cut s0 i6_0 (w64 (i6_0 + (1 : Int))))), (30, .b (decide ((lrd s0 ((w64 (i6_0 + (1 : Int))).toNat)) = (1 : UInt8))))] [(2, .pure (GValue.cs GValue.zero))] rfl rfl rfl ?_
      refine AW2_if (p := (lrd s0 ((w64 (i6_0 + (1 : Int))).toNat)) = (1 : UInt8)) rfl (fun h7 => ?_) (fun h7 => ?_)
      ·replace H := ite_then h7 H
       refine AW2_seq ?_
       refine sg [0, 1, 2] rfl ?_
       refine rp rfl rfl (p_move rfl rfl) ?_
       refine bindK H fun r'4 h8 H => ?_
       refine rp rfl rfl (p_callp rfl rfl rfl Tryd.func40 rfl rfl (g_utf8_ValidString_ac h8) ⟨rfl, trivial⟩) ?_
       refine rp rfl rfl (p_not rfl rfl) ?_
       refine rz [(2, .q 2 (0)), (5, .t t5_0), (6, .i (w64 (i6_0 + (1 : Int)))), (33, .b (!r'4))] [(2, .pure (GValue.cs GValue.zero))] rfl rfl rfl ?_
       refine AW2_cond rfl (fun h9 => ?_) (fun h9 => ?_)
       ·replace H := ite_then h9 H
        refine sg [0, 1, 2, 3] rfl ?_
        refine rp rfl rfl (u_bld rfl in_24 one_24 zc_24 pl_24 rfl rfl) ?_
        refine r_op rfl rfl (u_st rfl rfl rfl rfl rfl in_24 (GValue.len GValue.zero) (ne_of_lt (n := 0) (Nat.lt_of_lt_of_eq (by decide) (Eq.symm (GValue.len GValue.zero)))) (Upd.refl ((GValue.len GValue.zero).trans (GValue.len GValue.zero).symm))) ?_
        refine rp rfl rfl (p_asg rfl rfl) ?_
        refine rp rfl rfl (p_asg rfl rfl) ?_
        refine rz [(2, .q 2 (0)), (3, .i (0 : Int)), (4, .i (3 : Int))] [(2, .pure (GValue.cs GValue.zero))] rfl rfl rfl ?_
        refine AW2_ret ?_
        have hz := some_elim H
        subst hz
        exact ⟨rfl, ⟨res_cella Tryd.underlying24 rfl in_24.sz rfl (Sub.le (Sub.refl _) (GValue.len GValue.zero)) (by decide) (Sub.take (Sub.refl _) (GValue.len GValue.zero)), res_tmp (.same _), res_tmp (.same _), trivial⟩, trivial⟩
       ·replace H := ite_else (ne_true h9) H
        refine as2 [(2, .q 2 (0)), (5, .t t5_0), (6, .i (w64 (i6_0 + (1 : Int))))] [(2, .pure (GValue.cs GValue.zero))] rfl rfl rfl ?_
        refine AW2_skip ?_
        refine sg [0, 1, 2, 3, 4, 5, 6] rfl ?_
        refine rp rfl rfl (p_move rfl rfl) ?_
        refine rp rfl rfl (u_bld rfl in_24 one_24 zc_24 pl_24 rfl (af_cons rfl rfl (GValue.upd0 GValue.zero (4 : Int)) (af_cons rfl rfl (GValue.upd3 ((GValue.w0 GValue.zero (4 : Int))) t5_0) rfl))) ?_
        refine rp rfl rfl (p_move rfl rfl) ?_
        refine rp rfl rfl (p_bin rfl rfl rfl rfl) ?_
        refine r_op rfl rfl (u_st rfl rfl rfl rfl rfl in_24 (GValue.len ((GValue.w3 (GValue.w0 GValue.zero (4 : Int)) t5_0))) (ne_of_lt (n := 0) (Nat.lt_of_lt_of_eq (by decide) (Eq.symm (GValue.len GValue.zero)))) (Upd.refl ((GValue.len ((GValue.w3 (GValue.w0 GValue.zero (4 : Int)) t5_0))).trans (GValue.len GValue.zero).symm))) ?_
        refine rp rfl rfl (p_asg rfl rfl) ?_
        refine rp rfl rfl (p_asg rfl rfl) ?_
        refine rz [(2, .q 2 (0)), (3, .i (w64 ((w64 (i6_0 + (1 : Int))) + (2 : Int)))), (4, .i (0 : Int))] [(2, .pure (GValue.cs ((GValue.w3 (GValue.w0 GValue.zero (4 : Int)) t5_0))))] rfl rfl rfl ?_
        refine AW2_ret ?_
        have hz := some_elim H
        subst hz
        exact ⟨rfl, ⟨res_cella Tryd.underlying24 rfl in_24.sz rfl (Sub.le (Sub.refl _) (GValue.len ((GValue.w3 (GValue.w0 GValue.zero (4 : Int)) t5_0)))) (by decide) (Sub.take (Sub.refl _) (GValue.len ((GValue.w3 (GValue.w0 GValue.zero (4 : Int)) t5_0)))), res_tmp (.same _), res_tmp (.same _), trivial⟩, trivial⟩
      ·replace H := ite_else h7 H
       refine as2 [(0, .t s0), (2, .q 2 (0)), (5, .t t5_0), (6, .i (w64 (i6_0 + (1 : Int)))), (7, .t (cut s0 i6_0 (w64 (i6_0 + (1 : Int)))))] [(2, .pure (GValue.cs GValue.zero))] rfl rfl rfl ?_
       refine AW2_skip ?_
       refine sg [0, 1, 2, 3] rfl ?_
       refine rp rfl rfl (p_move rfl rfl) ?_
       refine rp rfl rfl (p_move rfl rfl) ?_
       refine chkK H fun h10 H => ?_
       refine rp rfl rfl (p_ixt rfl Tryd.underlying9 rfl rfl (ixe h10) (lrd_get (ixn h10))) ?_
       refine rp rfl rfl (p_u8ne (a := (lrd s0 ((w64 (i6_0 + (1 : Int))).toNat))) (b := (255 : UInt8)) rfl rfl rfl) ?_
       refine rz [(0, .t s0), (2, .q 2 (0)), (5, .t t5_0), (6, .i (w64 (i6_0 + (1 : Int)))), (7, .t (cut s0 i6_0 (w64 (i6_0 + (1 : Int))))), (42, .b (decide ((lrd s0 ((w64 (i6_0 + (1 : Int))).toNat)) ≠ (255 : UInt8))))] [(2, .pure (GValue.cs GValue.zero))] rfl rfl rfl ?_
       refine AW2_if (p := (lrd s0 ((w64 (i6_0 + (1 : Int))).toNat)) ≠ (255 : UInt8)) rfl (fun h11 => ?_) (fun h11 => ?_)
       ·replace H := ite_then h11 H
        refine sg [0, 1, 2, 3] rfl ?_
        refine rp rfl rfl (u_bld rfl in_24 one_24 zc_24 pl_24 rfl rfl) ?_
        refine r_op rfl rfl (u_st rfl rfl rfl rfl rfl in_24 (GValue.len GValue.zero) (ne_of_lt (n := 0) (Nat.lt_of_lt_of_eq (by decide) (Eq.symm (GValue.len GValue.zero)))) (Upd.refl ((GValue.len GValue.zero).trans (GValue.len GValue.zero).symm))) ?_
        refine rp rfl rfl (p_asg rfl rfl) ?_
        refine rp rfl rfl (p_asg rfl rfl) ?_
        refine rz [(2, .q 2 (0)), (3, .i (0 : Int)), (4, .i (3 : Int))] [(2, .pure (GValue.cs GValue.zero))] rfl rfl rfl ?_
        refine AW2_ret ?_
        have hz := some_elim H
        subst hz
        exact ⟨rfl, ⟨res_cella Tryd.underlying24 rfl in_24.sz rfl (Sub.le (Sub.refl _) (GValue.len GValue.zero)) (by decide) (Sub.take (Sub.refl _) (GValue.len GValue.zero)), res_tmp (.same _), res_tmp (.same _), trivial⟩, trivial⟩
       ·replace H := ite_else h11 H
        refine as2 [(0, .t s0), (2, .q 2 (0)), (5, .t t5_0), (6, .i (w64 (i6_0 + (1 : Int)))), (7, .t (cut s0 i6_0 (w64 (i6_0 + (1 : Int)))))] [(2, .pure (GValue.cs GValue.zero))] rfl rfl rfl ?_
        refine AW2_skip ?_
        have hz := some_elim H
        subst hz
        exact ⟨rfl, rfl⟩
    ·replace H := ite_else h4 H
     refine as2 [(0, .t s0), (2, .q 2 (0)), (5, .t t5_0), (6, .i i6_0), (7, .t (cut s0 i6_0 (w64 (i6_0 + (1 : Int)))))] [(2, .pure (GValue.cs GValue.zero))] rfl rfl rfl ?_
     refine AW2_skip ?_
     have hz := some_elim H
     subst hz
     exact ⟨rfl, rfl⟩
   ·subst hy
    refine sg [0, 1, 2, 3] rfl ?_
    refine rp rfl rfl (p_move rfl rfl) ?_
    refine rp rfl rfl (p_move rfl rfl) ?_
    refine chkK H fun h12 H => ?_
    refine rp rfl rfl (p_cat rfl rfl rfl h12) ?_
    refine rp rfl rfl (p_asg rfl rfl) ?_
    refine rz [(0, .t s0), (2, .q 2 (0)), (5, .t (t5_0 ++ (cut s0 i6_0 (w64 (i6_0 + (1 : Int)))))), (6, .i j'1)] [(2, .pure (GValue.cs GValue.zero))] rfl rfl rfl ?_
    refine sg [0, 1, 2] rfl ?_
    refine rp rfl rfl (p_move rfl rfl) ?_
    refine rp rfl rfl (p_lent rfl Tryd.underlying9 rfl) ?_
    refine rp rfl rfl (p_bin rfl rfl rfl rfl) ?_
    refine rz [(0, .t s0), (2, .q 2 (0)), (5, .t (t5_0 ++ (cut s0 i6_0 (w64 (i6_0 + (1 : Int)))))), (6, .i j'1), (49, .b (decide (((t5_0 ++ (cut s0 i6_0 (w64 (i6_0 + (1 : Int))))).length : Int) > (40 : Int))))] [(2, .pure (GValue.cs GValue.zero))] rfl rfl rfl ?_
    refine AW2_if (p := ((t5_0 ++ (cut s0 i6_0 (w64 (i6_0 + (1 : Int))))).length : Int) > (40 : Int)) rfl (fun h13 => ?_) (fun h13 => ?_)
    ·replace H := ite_then h13 H
     refine sg [0, 1, 2, 3] rfl ?_
     refine rp rfl rfl (u_bld rfl in_24 one_24 zc_24 pl_24 rfl rfl) ?_
     refine r_op rfl rfl (u_st rfl rfl rfl rfl rfl in_24 (GValue.len GValue.zero) (ne_of_lt (n := 0) (Nat.lt_of_lt_of_eq (by decide) (Eq.symm (GValue.len GValue.zero)))) (Upd.refl ((GValue.len GValue.zero).trans (GValue.len GValue.zero).symm))) ?_
     refine rp rfl rfl (p_asg rfl rfl) ?_
     refine rp rfl rfl (p_asg rfl rfl) ?_
     refine rz [(2, .q 2 (0)), (3, .i (0 : Int)), (4, .i (1 : Int))] [(2, .pure (GValue.cs GValue.zero))] rfl rfl rfl ?_
     refine AW2_ret ?_
     have hz := some_elim H
     subst hz
     exact ⟨rfl, ⟨res_cella Tryd.underlying24 rfl in_24.sz rfl (Sub.le (Sub.refl _) (GValue.len GValue.zero)) (by decide) (Sub.take (Sub.refl _) (GValue.len GValue.zero)), res_tmp (.same _), res_tmp (.same _), trivial⟩, trivial⟩
    ·replace H := ite_else h13 H
     refine as2 [(0, .t s0), (2, .q 2 (0)), (5, .t (t5_0 ++ (cut s0 i6_0 (w64 (i6_0 + (1 : Int)))))), (6, .i j'1)] [(2, .pure (GValue.cs GValue.zero))] rfl rfl rfl ?_
     refine AW2_skip ?_
     refine AW2_reg [0, 1, 2] rfl ?_
     refine rp rfl rfl (p_move rfl rfl) ?_
     refine rp rfl rfl (p_bin rfl rfl rfl rfl) ?_
     refine rp rfl rfl (p_asg rfl rfl) ?_
     refine rz [(0, .t s0), (2, .q 2 (0)), (5, .t (t5_0 ++ (cut s0 i6_0 (w64 (i6_0 + (1 : Int)))))), (6, .i (w64 (j'1 + (1 : Int))))] [(2, .pure (GValue.cs GValue.zero))] rfl rfl rfl ?_
     have hz := some_elim H
     subst hz
     exact ⟨rfl, rfl⟩
   ·subst hy
    rcases z'8 with y'5 | y'6
    ·obtain ⟨rfl, rfl⟩ := hs
     refine thenQ2_exit ?_
     refine blockQ2_pass (by decide) ?_
     refine thenQ2_exit ?_
     have hz := some_elim H
     subst hz
     exact ⟨rfl, rfl⟩
    ·obtain ⟨rfl, hs⟩ := hs
     have hz := some_elim H
     subst hz
     exact ⟨rfl, hs.1, hs.2⟩
  ·replace H := ite_else h1 H
   refine as2 [(2, .q 2 (0))] [(2, .pure (GValue.cs GValue.zero))] rfl rfl rfl ?_
   refine AW2_exit ?_
   refine thenQ2_exit ?_
   have hz := some_elim H
   subst hz
   exact ⟨rfl, rfl⟩
 ·rcases o'12 with y'13 | y'14
  ·obtain ⟨rfl, hs⟩ := hs
   refine ⟨by simp, ?_⟩
   have hz := some_elim H
   subst hz
   exact ⟨hs.1, hs.2⟩
  ·obtain ⟨rfl, rfl⟩ := hs
   refine ⟨by simp, ?_⟩
   refine blockQ2_exit ?_
   refine sg [0, 1, 2, 3] rfl ?_
   refine rp rfl rfl (u_bld rfl in_24 one_24 zc_24 pl_24 rfl rfl) ?_
   refine r_op rfl rfl (u_st rfl rfl rfl rfl rfl in_24 (GValue.len GValue.zero) (ne_of_lt (n := 0) (Nat.lt_of_lt_of_eq (by decide) (Eq.symm (GValue.len GValue.zero)))) (Upd.refl ((GValue.len GValue.zero).trans (GValue.len GValue.zero).symm))) ?_
   refine rp rfl rfl (p_asg rfl rfl) ?_
   refine rp rfl rfl (p_asg rfl rfl) ?_
   refine rz [(2, .q 2 (0)), (3, .i (0 : Int)), (4, .i (4 : Int))] [(2, .pure (GValue.cs GValue.zero))] rfl rfl rfl ?_
   refine AW2_ret ?_
   have hz := some_elim H
   subst hz
   exact ⟨⟨res_cella Tryd.underlying24 rfl in_24.sz rfl (Sub.le (Sub.refl _) (GValue.len GValue.zero)) (by decide) (Sub.take (Sub.refl _) (GValue.len GValue.zero)), res_tmp (.same _), res_tmp (.same _), trivial⟩, trivial⟩

/-! chirographref.badReal -/
noncomputable def g_ref_badReal (b0 : UInt64) : Option (Bool) :=
  some (decide ((b0 = (9223372036854775808 : UInt64)) ∨ ((18437736874454810624 : UInt64) < shl_u64 b0 1)))
set_option maxHeartbeats 4000000 in
set_option maxRecDepth 100000 in
theorem g_ref_badReal_ac {b0 : UInt64} {r : Bool} (H : g_ref_badReal b0 = some r) : ACp Tryd.prog 41 [(AV.u64 b0)] (AV.bool r) := by
 refine ACp_of (AC2_of_body (vs := [.b r]) Tryd.func41 rfl rfl (Nat.le_of_ble_eq_true rfl) rfl ?_) (fun _ => .same _)
 unfold g_ref_badReal at H
 refine as2 [(0, .p (AV.u64 b0))] [] rfl rfl rfl ?_
 refine sg [0] rfl ?_
 refine rp rfl rfl (p_asg rfl rfl) ?_
 refine rz [(0, .p (AV.u64 b0))] [] rfl rfl rfl ?_
 refine AW2_seq ?_
 refine AW2_mid (⟨[(2, .b (decide ((b0 = (9223372036854775808 : UInt64)) ∨ ((18437736874454810624 : UInt64) < shl_u64 b0 1))))], [], 10⟩ : TS) ?_ ?_
 ·refine AW2_reg [0, 1, 2, 3, 4, 5, 6, 7] rfl ?_
  refine rp rfl rfl (p_move rfl rfl) ?_
  refine rp rfl rfl (p_u64eq (a := b0) (b := (9223372036854775808 : UInt64)) rfl rfl rfl) ?_
  refine rp rfl rfl (p_move rfl rfl) ?_
  refine (Classical.em (b0 = (9223372036854775808 : UInt64))).elim (fun h1 => ?_) (fun h1 => ?_)
  ·refine r_off rfl rfl rfl rfl (decide_eq_true h1) rfl rfl ?_
   refine r_off rfl rfl rfl rfl (decide_eq_true h1) rfl rfl ?_
   refine r_off rfl rfl rfl rfl (decide_eq_true h1) rfl rfl ?_
   refine rp rfl rfl (p_pkt rfl rfl (decide_eq_true h1) (tb (decide_eq_true (p := (b0 = (9223372036854775808 : UInt64)) ∨ ((18437736874454810624 : UInt64) < shl_u64 b0 1)) (Or.inl h1)).symm)) ?_
   refine rp rfl rfl (p_asg rfl rfl) ?_
   refine rs [(2, .b (decide ((b0 = (9223372036854775808 : UInt64)) ∨ ((18437736874454810624 : UInt64) < shl_u64 b0 1))))] [] rfl rfl rfl ?_
   exact RunW_nil rfl
  ·refine r_on rfl rfl rfl rfl (decide_eq_false h1) rfl (PureD.opD (p_move rfl rfl)) ?_
   refine r_on rfl rfl rfl rfl (decide_eq_false h1) rfl (PureD.opD (p_u64shl (n := 1) rfl rfl rfl rfl)) ?_
   refine r_on rfl rfl rfl rfl (decide_eq_false h1) rfl (PureD.opD (p_u64gt (a := shl_u64 b0 1) (b := (18437736874454810624 : UInt64)) rfl rfl rfl)) ?_
   refine rp rfl rfl (p_pkf rfl rfl (decide_eq_false h1) (tb ((or_l (p := b0 = (9223372036854775808 : UInt64)) (q := (18437736874454810624 : UInt64) < shl_u64 b0 1) h1)))) ?_
   refine rp rfl rfl (p_asg rfl rfl) ?_
   refine rs [(2, .b (decide ((b0 = (9223372036854775808 : UInt64)) ∨ ((18437736874454810624 : UInt64) < shl_u64 b0 1))))] [] rfl rfl rfl ?_
   exact RunW_nil rfl
 ·refine AW2_ret ?_
  have hz := some_elim H
  subst hz
  exact ⟨⟨res_tmp (.same _), trivial⟩, trivial⟩

/-! chirographref.ValueFault -/
noncomputable def g_ref_ValueFault (v0 : GValue) : Option (Int) :=
  (show Option (Int ⊕ GValue) from (if v0.Kind = (0 : Int) then some (.inr ({ GValue.zero with Kind := v0.Kind })) else ((if v0.Kind = (1 : Int) then some (decide (v0.Kind = (1 : Int))) else some (decide (v0.Kind = (2 : Int))))).bind fun j'2 => (if j'2 = true then some (.inr ({ { GValue.zero with Kind := v0.Kind } with Int_ := v0.Int_ })) else (if v0.Kind = (3 : Int) then some (.inr ({ { GValue.zero with Kind := v0.Kind } with Bits := v0.Bits })) else (if v0.Kind = (4 : Int) then some (.inr ({ { GValue.zero with Kind := v0.Kind } with Text := v0.Text })) else some (.inl (2 : Int))))))).bind fun o'12 => match o'12 with | .inl y'3 => some y'3 | .inr j'1 => (if (v0.Text.length : Int) > (40 : Int) then some (1 : Int) else ((if v0 ≠ j'1 then some true else (if v0.Kind = (1 : Int) then (if (1 : UInt64) < UInt64.ofInt v0.Int_ then some true else (if v0.Kind = (3 : Int) then (g_ref_badReal v0.Bits).bind fun r'5 => (if r'5 = true then some true else (g_utf8_ValidString v0.Text).bind fun r'6 => some (!r'6)) else (g_utf8_ValidString v0.Text).bind fun r'7 => some (!r'7))) else (if v0.Kind = (3 : Int) then (g_ref_badReal v0.Bits).bind fun r'8 => (if r'8 = true then some true else (g_utf8_ValidString v0.Text).bind fun r'9 => some (!r'9)) else (g_utf8_ValidString v0.Text).bind fun r'10 => some (!r'10))))).bind fun g'11 => (if g'11 = true then some (3 : Int) else some (0 : Int)))
set_option maxHeartbeats 4000000 in
set_option maxRecDepth 100000 in
theorem g_ref_ValueFault_ac {v0 : GValue} {r : Int} (H : g_ref_ValueFault v0 = some r) : ACp Tryd.prog 15 [(.agg (GValue.cs v0))] (AV.int r) := by
 refine ACp_of (AC2_of_body (vs := [.i r]) Tryd.func15 rfl rfl (Nat.le_of_ble_eq_true rfl) rfl ?_) (fun _ => .same _)
 unfold g_ref_ValueFault at H
 refine as2 [(0, .g (GValue.cs v0))] [] rfl rfl rfl ?_
 refine sg [0, 1] rfl ?_
 refine r_op rfl rfl (MakeD.opD (n_box 1 rfl rfl) rfl rfl rfl rfl) ?_
 refine rp rfl rfl (p_asg rfl rfl) ?_
 refine rz [(1, .q 1 (0))] [(1, .pure (GValue.cs v0))] rfl rfl rfl ?_
 refine sg [0, 1, 2, 3, 4] rfl ?_
 refine rp rfl rfl (u_fa rfl rfl Tryd.underlying24 rfl in_3 (Nat.succ_ne_zero _) rfl rfl (ne_of_lt (n := 0) (Nat.lt_of_lt_of_eq (by decide) (Eq.symm (GValue.len v0))))) ?_
 refine rp rfl rfl (u_ld rfl rfl Tryd.underlying3 rfl rfl ((Sub.refl _).trans (GValue.sub0 v0))) ?_
 refine rp rfl rfl (u_bld rfl in_24 one_24 zc_24 pl_24 rfl (af_cons rfl rfl (GValue.upd0 GValue.zero v0.Kind) rfl)) ?_
 refine r_op rfl rfl (MakeD.opD (u_alloc 3 rfl in_24 one_24 zc_24) rfl rfl rfl rfl) ?_
 refine r_op rfl rfl (u_st rfl rfl rfl rfl rfl in_24 (GValue.len ((GValue.w0 GValue.zero v0.Kind))) (ne_of_lt (n := 0) (Nat.lt_of_lt_of_eq (by decide) (Eq.symm (GValue.len GValue.zero)))) (Upd.refl ((GValue.len ((GValue.w0 GValue.zero v0.Kind))).trans (GValue.len GValue.zero).symm))) ?_
 refine rz [(1, .q 1 (0)), (3, .q 3 (0))] [(1, .pure (GValue.cs v0)), (3, .pure (GValue.cs ((GValue.w0 GValue.zero v0.Kind))))] rfl rfl rfl ?_
 refine AW2_seq ?_
 refine bindK H fun o'12 h1 H => ?_
 refine AW2_join (fun j'1 : GValue => (⟨[(1, .q 1 (0)), (3, .q 3 (0))], [(1, .pure (GValue.cs v0)), (3, .pure (GValue.cs j'1))], 61⟩ : TS)) (fun r e s' => e = Go.Exit.ret ∧ ResAll Tryd.prog s' [ResultVar.tmp 2] [.i r] ∧ HFits s' []) (x := o'12) ?_ (fun j'1 hy => ?_) (fun y'3 e s' hy hs => ?_)
 ·clear H
  have H := h1
  clear h1
  refine sg [0, 1] rfl ?_
  refine rp rfl rfl (u_fa rfl rfl Tryd.underlying24 rfl in_3 (Nat.succ_ne_zero _) rfl rfl (ne_of_lt (n := 0) (Nat.lt_of_lt_of_eq (by decide) (Eq.symm (GValue.len v0))))) ?_
  refine rp rfl rfl (u_ld rfl rfl Tryd.underlying3 rfl rfl ((Sub.refl _).trans (GValue.sub0 v0))) ?_
  refine rz [(1, .q 1 (0)), (3, .q 3 (0)), (8, .i v0.Kind)] [(1, .pure (GValue.cs v0)), (3, .pure (GValue.cs ((GValue.w0 GValue.zero v0.Kind))))] rfl rfl rfl ?_
  refine AW2_block ?_
  refine sg [0, 1] rfl ?_
  refine rp rfl rfl (p_ieq rfl rfl rfl) ?_
  refine rp rfl rfl (p_asg rfl rfl) ?_
  refine rz [(1, .q 1 (0)), (3, .q 3 (0)), (8, .i v0.Kind), (9, .b (decide (v0.Kind = (0 : Int))))] [(1, .pure (GValue.cs v0)), (3, .pure (GValue.cs ((GValue.w0 GValue.zero v0.Kind))))] rfl rfl rfl ?_
  refine AW2_if (p := v0.Kind = (0 : Int)) rfl (fun h2 => ?_) (fun h2 => ?_)
  ·replace H := ite_then h2 H
   refine as2 [(1, .q 1 (0)), (3, .q 3 (0))] [(1, .pure (GValue.cs v0)), (3, .pure (GValue.cs ((GValue.w0 GValue.zero v0.Kind))))] rfl rfl rfl ?_
   refine AW2_skip ?_
   have hz := some_elim H
   subst hz
   exact ⟨rfl, rfl⟩
  ·replace H := ite_else h2 H
   refine AW2_seq ?_
   refine bindK H fun j'2 h3 H => ?_
   refine AW2_mid (⟨[(1, .q 1 (0)), (3, .q 3 (0)), (8, .i v0.Kind), (11, .b j'2)], [(1, .pure (GValue.cs v0)), (3, .pure (GValue.cs ((GValue.w0 GValue.zero v0.Kind))))], 61⟩ : TS) ?_ ?_
   ·clear H
    have H := h3
    clear h3
    refine sg [0, 1] rfl ?_
    refine rp rfl rfl (p_ieq rfl rfl rfl) ?_
    refine rp rfl rfl (p_asg rfl rfl) ?_
    refine rz [(1, .q 1 (0)), (3, .q 3 (0)), (8, .i v0.Kind), (11, .b (decide (v0.Kind = (1 : Int))))] [(1, .pure (GValue.cs v0)), (3, .pure (GValue.cs ((GValue.w0 GValue.zero v0.Kind))))] rfl rfl rfl ?_
    refine AW2_if (p := v0.Kind = (1 : Int)) rfl (fun h4 => ?_) (fun h4 => ?_)
    ·replace H := ite_then h4 H
     refine AW2_skip ?_
     have hz := some_elim H
     subst hz
     exact rfl
    ·replace H := ite_else h4 H
     refine AW2_reg [0, 1] rfl ?_
     refine rp rfl rfl (p_ieq rfl rfl rfl) ?_
     refine rp rfl rfl (p_asg rfl rfl) ?_
     refine rz [(1, .q 1 (0)), (3, .q 3 (0)), (8, .i v0.Kind), (11, .b (decide (v0.Kind = (2 : Int))))] [(1, .pure (GValue.cs v0)), (3, .pure (GValue.cs ((GValue.w0 GValue.zero v0.Kind))))] rfl rfl rfl ?_
     have hz := some_elim H
     subst hz
     exact rfl
   ·refine AW2_cond rfl (fun h5 => ?_) (fun h5 => ?_)
    ·replace H := ite_then h5 H
     refine AW2_reg [0, 1, 2, 3] rfl ?_
     refine rp rfl rfl (u_fa rfl rfl Tryd.underlying24 rfl in_3 (Nat.succ_ne_zero _) rfl rfl (ne_of_lt (n := 0) (Nat.lt_of_lt_of_eq (by decide) (Eq.symm (GValue.len v0))))) ?_
     refine rp rfl rfl (u_ld rfl rfl Tryd.underlying3 rfl rfl ((Sub.refl _).trans (GValue.sub1 v0))) ?_
     refine rp rfl rfl (u_fa rfl rfl Tryd.underlying24 rfl in_3 (Nat.succ_ne_zero _) rfl rfl (ne_of_lt (n := 0) (Nat.lt_of_lt_of_eq (by decide) (Eq.symm (GValue.len ((GValue.w0 GValue.zero v0.Kind))))))) ?_
     refine r_op rfl rfl (u_st rfl rfl rfl rfl rfl in_3 rfl (ne_of_lt (n := 0) (Nat.lt_of_lt_of_eq (by decide) (Eq.symm (GValue.len ((GValue.w0 GValue.zero v0.Kind)))))) (Upd.trans (Sub.refl _) (GValue.upd1 ((GValue.w0 GValue.zero v0.Kind)) v0.Int_) (Upd.refl ((GValue.len ((GValue.w1 (GValue.w0 GValue.zero v0.Kind) v0.Int_))).trans (GValue.len ((GValue.w0 GValue.zero v0.Kind))).symm)))) ?_
     refine rz [(1, .q 1 (0)), (3, .q 3 (0))] [(1, .pure (GValue.cs v0)), (3, .pure (GValue.cs ((GValue.w1 (GValue.w0 GValue.zero v0.Kind) v0.Int_))))] rfl rfl rfl ?_
     have hz := some_elim H
     subst hz
     exact ⟨rfl, rfl⟩
    ·replace H := ite_else (ne_true h5) H
     refine sg [0, 1] rfl ?_
     refine rp rfl rfl (p_ieq rfl rfl rfl) ?_
     refine rp rfl rfl (p_asg rfl rfl) ?_
     refine rz [(1, .q 1 (0)), (3, .q 3 (0)), (8, .i v0.Kind), (17, .b (decide (v0.Kind = (3 : Int))))] [(1, .pure (GValue.cs v0)), (3, .pure (GValue.cs ((GValue.w0 GValue.zero v0.Kind))))] rfl rfl rfl ?_
     refine AW2_if (p := v0.Kind = (3 : Int)) rfl (fun h6 => ?_) (fun h6 => ?_)
     ·replace H := ite_then h6 H
      refine AW2_reg [0, 1, 2, 3] rfl ?_
      refine rp rfl rfl (u_fa rfl rfl Tryd.underlying24 rfl in_22 (Nat.succ_ne_zero _) rfl rfl (ne_of_lt (n := 0) (Nat.lt_of_lt_of_eq (by decide) (Eq.symm (GValue.len v0))))) ?_
      refine rp rfl rfl (u_ld rfl rfl Tryd.underlying22 rfl rfl ((Sub.refl _).trans (GValue.sub2 v0))) ?_
      refine rp rfl rfl (u_fa rfl rfl Tryd.underlying24 rfl in_22 (Nat.succ_ne_zero _) rfl rfl (ne_of_lt (n := 0) (Nat.lt_of_lt_of_eq (by decide) (Eq.symm (GValue.len ((GValue.w0 GValue.zero v0.Kind))))))) ?_
      refine r_op rfl rfl (u_st rfl rfl rfl rfl rfl in_22 rfl (ne_of_lt (n := 0) (Nat.lt_of_lt_of_eq (by decide) (Eq.symm (GValue.len ((GValue.w0 GValue.zero v0.Kind)))))) (Upd.trans (Sub.refl _) (GValue.upd2 ((GValue.w0 GValue.zero v0.Kind)) v0.Bits) (Upd.refl ((GValue.len ((GValue.w2 (GValue.w0 GValue.zero v0.Kind) v0.Bits))).trans (GValue.len ((GValue.w0 GValue.zero v0.Kind))).symm)))) ?_
      refine rz [(1, .q 1 (0)), (3, .q 3 (0))] [(1, .pure (GValue.cs v0)), (3, .pure (GValue.cs ((GValue.w2 (GValue.w0 GValue.zero v0.Kind) v0.Bits))))] rfl rfl rfl ?_
      have hz := some_elim H
      subst hz
      exact ⟨rfl, rfl⟩
     ·replace H := ite_else h6 H
      refine sg [0, 1] rfl ?_
      refine rp rfl rfl (p_ieq rfl rfl rfl) ?_
      refine rp rfl rfl (p_asg rfl rfl) ?_
      refine rz [(1, .q 1 (0)), (3, .q 3 (0)), (22, .b (decide (v0.Kind = (4 : Int))))] [(1, .pure (GValue.cs v0)), (3, .pure (GValue.cs ((GValue.w0 GValue.zero v0.Kind))))] rfl rfl rfl ?_
      refine AW2_if (p := v0.Kind = (4 : Int)) rfl (fun h7 => ?_) (fun h7 => ?_)
      ·replace H := ite_then h7 H
       refine AW2_reg [0, 1, 2, 3] rfl ?_
       refine rp rfl rfl (u_fa rfl rfl Tryd.underlying24 rfl in_9 (Nat.succ_ne_zero _) rfl rfl (ne_of_lt (n := 0) (Nat.lt_of_lt_of_eq (by decide) (Eq.symm (GValue.len v0))))) ?_
       refine rp rfl rfl (u_ld rfl rfl Tryd.underlying9 rfl rfl ((Sub.refl _).trans (GValue.sub3 v0))) ?_
       refine rp rfl rfl (u_fa rfl rfl Tryd.underlying24 rfl in_9 (Nat.succ_ne_zero _) rfl rfl (ne_of_lt (n := 0) (Nat.lt_of_lt_of_eq (by decide) (Eq.symm (GValue.len ((GValue.w0 GValue.zero v0.Kind))))))) ?_
       refine r_op rfl rfl (u_st rfl rfl rfl rfl rfl in_9 rfl (ne_of_lt (n := 0) (Nat.lt_of_lt_of_eq (by decide) (Eq.symm (GValue.len ((GValue.w0 GValue.zero v0.Kind)))))) (Upd.trans (Sub.refl _) (GValue.upd3 ((GValue.w0 GValue.zero v0.Kind)) v0.Text) (Upd.refl ((GValue.len ((GValue.w3 (GValue.w0 GValue.zero v0.Kind) v0.Text))).trans (GValue.len ((GValue.w0 GValue.zero v0.Kind))).symm)))) ?_
       refine rz [(1, .q 1 (0)), (3, .q 3 (0))] [(1, .pure (GValue.cs v0)), (3, .pure (GValue.cs ((GValue.w3 (GValue.w0 GValue.zero v0.Kind) v0.Text))))] rfl rfl rfl ?_
       have hz := some_elim H
       subst hz
       exact ⟨rfl, rfl⟩
      ·replace H := ite_else h7 H
       refine sg [0] rfl ?_
       refine rp rfl rfl (p_asg rfl rfl) ?_
       refine rz [(2, .i (2 : Int))] [] rfl rfl rfl ?_
       refine AW2_ret ?_
       have hz := some_elim H
       subst hz
       exact ⟨rfl, ⟨res_tmp (.same _), trivial⟩, trivial⟩
 ·subst hy
  refine AW2_seq ?_
  refine sg [0, 1, 2, 3] rfl ?_
  refine rp rfl rfl (u_fa rfl rfl Tryd.underlying24 rfl in_9 (Nat.succ_ne_zero _) rfl rfl (ne_of_lt (n := 0) (Nat.lt_of_lt_of_eq (by decide) (Eq.symm (GValue.len v0))))) ?_
  refine rp rfl rfl (u_ld rfl rfl Tryd.underlying9 rfl rfl ((Sub.refl _).trans (GValue.sub3 v0))) ?_
  refine rp rfl rfl (p_lent rfl Tryd.underlying9 rfl) ?_
  refine rp rfl rfl (p_bin rfl rfl rfl rfl) ?_
  refine rz [(1, .q 1 (0)), (3, .q 3 (0)), (30, .b (decide ((v0.Text.length : Int) > (40 : Int))))] [(1, .pure (GValue.cs v0)), (3, .pure (GValue.cs j'1))] rfl rfl rfl ?_
  refine AW2_if (p := (v0.Text.length : Int) > (40 : Int)) rfl (fun h8 => ?_) (fun h8 => ?_)
  ·replace H := ite_then h8 H
   refine sg [0] rfl ?_
   refine rp rfl rfl (p_asg rfl rfl) ?_
   refine rz [(2, .i (1 : Int))] [] rfl rfl rfl ?_
   refine AW2_ret ?_
   have hz := some_elim H
   subst hz
   exact ⟨⟨res_tmp (.same _), trivial⟩, trivial⟩
  ·replace H := ite_else h8 H
   refine as2 [(1, .q 1 (0)), (3, .q 3 (0))] [(1, .pure (GValue.cs v0)), (3, .pure (GValue.cs j'1))] rfl rfl rfl ?_
   refine AW2_skip ?_
   refine AW2_seq ?_
   refine AW2_seq ?_
   refine bindK H fun g'11 h23 H => ?_
   refine AW2_mid (⟨[(60, .b g'11)], [], 61⟩ : TS) ?_ ?_
   ·clear H
    have H := h23
    clear h23
    refine AW2_reg [0, 1, 2, 3, 4, 5, 6, 7, 8, 9, 10, 11, 12, 13, 14, 15, 16, 17, 18, 19, 20, 21, 22, 23, 24, 25, 26, 27, 28, 29] rfl ?_
    refine rp rfl rfl (u_lda rfl rfl Tryd.underlying24 rfl in_24 rfl (Nat.succ_pos _) (Sub.refl _) (GValue.len v0)) ?_
    refine rp rfl rfl (u_lda rfl rfl Tryd.underlying24 rfl in_24 rfl (Nat.succ_pos _) (Sub.refl _) (GValue.len j'1)) ?_
    refine rp rfl rfl (p_nea (a := v0) (b := j'1) rfl eq_24 rfl (by kernel_rfl) rfl rfl) ?_
    refine rp rfl rfl (p_move rfl rfl) ?_
    refine (Classical.em (v0 ≠ j'1)).elim (fun h10 => ?_) (fun h10 => ?_)
    ·replace H := ite_then h10 H
     refine r_off rfl rfl rfl rfl (decide_eq_true h10) rfl rfl ?_
     refine r_off rfl rfl rfl rfl (decide_eq_true h10) rfl rfl ?_
     refine r_off rfl rfl rfl rfl (decide_eq_true h10) rfl rfl ?_
     refine r_off rfl rfl rfl rfl (decide_eq_true h10) rfl rfl ?_
     refine r_off2 rfl rfl rfl rfl rfl rfl ?_
     refine r_off2 rfl rfl rfl rfl rfl rfl ?_
     refine r_off2 rfl rfl rfl rfl rfl rfl ?_
     refine r_off2 rfl rfl rfl rfl rfl rfl ?_
     refine r_off rfl rfl rfl rfl (decide_eq_true h10) rfl rfl ?_
     refine rp rfl rfl (p_pkt rfl rfl (decide_eq_true h10) (.same _)) ?_
     refine rp rfl rfl (p_move rfl rfl) ?_
     refine r_off rfl rfl rfl rfl rfl rfl rfl ?_
     refine r_off rfl rfl rfl rfl rfl rfl rfl ?_
     refine r_off rfl rfl rfl rfl rfl rfl rfl ?_
     refine r_off rfl rfl rfl rfl rfl rfl rfl ?_
     refine r_off2 rfl rfl rfl rfl rfl rfl ?_
     refine r_off2 rfl rfl rfl rfl rfl rfl ?_
     refine r_off2 rfl rfl rfl rfl rfl rfl ?_
     refine r_off rfl rfl rfl rfl rfl rfl rfl ?_
     refine rp rfl rfl (p_pkt rfl rfl rfl (.same _)) ?_
     refine rp rfl rfl (p_move rfl rfl) ?_
     refine r_off rfl rfl rfl rfl rfl rfl rfl ?_
     refine r_off rfl rfl rfl rfl rfl rfl rfl ?_
     refine r_off rfl rfl rfl rfl rfl rfl rfl ?_
     refine r_off rfl rfl rfl rfl rfl rfl rfl ?_
     refine rp rfl rfl (p_pkt rfl rfl rfl (.same _)) ?_
     refine rs [(60, .b true)] [] rfl rfl rfl ?_
     have hz := some_elim H
     subst hz
     exact RunW_nil rfl
    ·replace H := ite_else h10 H
     refine r_on rfl rfl rfl rfl (decide_eq_false h10) rfl (PureD.opD (u_fa rfl rfl Tryd.underlying24 rfl in_3 (Nat.succ_ne_zero _) rfl rfl (ne_of_lt (n := 0) (Nat.lt_of_lt_of_eq (by decide) (Eq.symm (GValue.len v0)))))) ?_
     refine r_on rfl rfl rfl rfl (decide_eq_false h10) rfl (PureD.opD (u_ld rfl rfl Tryd.underlying3 rfl rfl ((Sub.refl _).trans (GValue.sub0 v0)))) ?_
     refine r_on rfl rfl rfl rfl (decide_eq_false h10) rfl (PureD.opD (p_ieq rfl rfl rfl)) ?_
     refine r_on rfl rfl rfl rfl (decide_eq_false h10) rfl (PureD.opD (p_move rfl rfl)) ?_
     refine (Classical.em (v0.Kind = (1 : Int))).elim (fun h11 => ?_) (fun h11 => ?_)
     ·replace H := ite_then h11 H
      refine r_on rfl rfl rfl rfl (decide_eq_true h11) rfl (PureD.opD (u_fa rfl rfl Tryd.underlying24 rfl in_3 (Nat.succ_ne_zero _) rfl rfl (ne_of_lt (n := 0) (Nat.lt_of_lt_of_eq (by decide) (Eq.symm (GValue.len v0)))))) ?_
      refine r_on rfl rfl rfl rfl (decide_eq_true h11) rfl (PureD.opD (u_ld rfl rfl Tryd.underlying3 rfl rfl ((Sub.refl _).trans (GValue.sub1 v0)))) ?_
      refine r_on rfl rfl rfl rfl (decide_eq_true h11) rfl (PureD.opD (p_i_u64 rfl Tryd.underlying3 Tryd.underlying64 rfl)) ?_
      refine r_on rfl rfl rfl rfl (decide_eq_true h11) rfl (PureD.opD (p_u64gt (a := UInt64.ofInt v0.Int_) (b := (1 : UInt64)) rfl rfl rfl)) ?_
      refine r_on rfl rfl rfl rfl (decide_eq_false h10) rfl (PureD.opD (p_pkt rfl rfl (decide_eq_true h11) (.same _))) ?_
      refine rp rfl rfl (p_pkf rfl rfl (decide_eq_false h10) (.same _)) ?_
      refine rp rfl rfl (p_move rfl rfl) ?_
      refine (Classical.em ((1 : UInt64) < UInt64.ofInt v0.Int_)).elim (fun h12 => ?_) (fun h12 => ?_)
      ·replace H := ite_then h12 H
       refine r_off rfl rfl rfl rfl (decide_eq_true h12) rfl rfl ?_
       refine r_off rfl rfl rfl rfl (decide_eq_true h12) rfl rfl ?_
       refine r_off rfl rfl rfl rfl (decide_eq_true h12) rfl rfl ?_
       refine r_off rfl rfl rfl rfl (decide_eq_true h12) rfl rfl ?_
       refine r_off2 rfl rfl rfl rfl rfl rfl ?_
       refine r_off2 rfl rfl rfl rfl rfl rfl ?_
       refine r_off2 rfl rfl rfl rfl rfl rfl ?_
       refine r_off rfl rfl rfl rfl (decide_eq_true h12) rfl rfl ?_
       refine rp rfl rfl (p_pkt rfl rfl (decide_eq_true h12) (.same _)) ?_
       refine rp rfl rfl (p_move rfl rfl) ?_
       refine r_off rfl rfl rfl rfl rfl rfl rfl ?_
       refine r_off rfl rfl rfl rfl rfl rfl rfl ?_
       refine r_off rfl rfl rfl rfl rfl rfl rfl ?_
       refine r_off rfl rfl rfl rfl rfl rfl rfl ?_
       refine rp rfl rfl (p_pkt rfl rfl rfl (.same _)) ?_
       refine rs [(60, .b true)] [] rfl rfl rfl ?_
       have hz := some_elim H
       subst hz
       exact RunW_nil rfl
      ·replace H := ite_else h12 H
       refine r_on rfl rfl rfl rfl (decide_eq_false h12) rfl (PureD.opD (u_fa rfl rfl Tryd.underlying24 rfl in_3 (Nat.succ_ne_zero _) rfl rfl (ne_of_lt (n := 0) (Nat.lt_of_lt_of_eq (by decide) (Eq.symm (GValue.len v0)))))) ?_
       refine r_on rfl rfl rfl rfl (decide_eq_false h12) rfl (PureD.opD (u_ld rfl rfl Tryd.underlying3 rfl rfl ((Sub.refl _).trans (GValue.sub0 v0)))) ?_
       refine r_on rfl rfl rfl rfl (decide_eq_false h12) rfl (PureD.opD (p_ieq rfl rfl rfl)) ?_
       refine r_on rfl rfl rfl rfl (decide_eq_false h12) rfl (PureD.opD (p_move rfl rfl)) ?_
       refine (Classical.em (v0.Kind = (3 : Int))).elim (fun h13 => ?_) (fun h13 => ?_)
       ·replace H := ite_then h13 H
        refine r_on rfl rfl rfl rfl (decide_eq_true h13) rfl (PureD.opD (u_fa rfl rfl Tryd.underlying24 rfl in_22 (Nat.succ_ne_zero _) rfl rfl (ne_of_lt (n := 0) (Nat.lt_of_lt_of_eq (by decide) (Eq.symm (GValue.len v0)))))) ?_
        refine r_on rfl rfl rfl rfl (decide_eq_true h13) rfl (PureD.opD (u_ld rfl rfl Tryd.underlying22 rfl rfl ((Sub.refl _).trans (GValue.sub2 v0)))) ?_
        refine bindK H fun r'5 h14 H => ?_
        refine r_on rfl rfl rfl rfl (decide_eq_true h13) rfl (PureD.opD (p_callp rfl rfl rfl Tryd.func41 rfl rfl (g_ref_badReal_ac h14) ⟨rfl, trivial⟩)) ?_
        refine r_on rfl rfl rfl rfl (decide_eq_false h12) rfl (PureD.opD (p_pkt rfl rfl (decide_eq_true h13) (.same _))) ?_
        refine rp rfl rfl (p_pkf rfl rfl (decide_eq_false h12) (.same _)) ?_
        refine rp rfl rfl (p_move rfl rfl) ?_
        refine (Classical.em (r'5 = true)).elim (fun h15 => ?_) (fun h15 => ?_)
        ·replace H := ite_then h15 H
         refine r_off rfl rfl rfl rfl h15 rfl rfl ?_
         refine r_off rfl rfl rfl rfl h15 rfl rfl ?_
         refine r_off rfl rfl rfl rfl h15 rfl rfl ?_
         refine r_off rfl rfl rfl rfl h15 rfl rfl ?_
         refine rp rfl rfl (p_pkt rfl rfl h15 (.same _)) ?_
         refine rs [(60, .b true)] [] rfl rfl rfl ?_
         have hz := some_elim H
         subst hz
         exact RunW_nil rfl
        ·replace H := ite_else h15 H
         refine r_on rfl rfl rfl rfl (bfalse h15) rfl (PureD.opD (u_fa rfl rfl Tryd.underlying24 rfl in_9 (Nat.succ_ne_zero _) rfl rfl (ne_of_lt (n := 0) (Nat.lt_of_lt_of_eq (by decide) (Eq.symm (GValue.len v0)))))) ?_
         refine r_on rfl rfl rfl rfl (bfalse h15) rfl (PureD.opD (u_ld rfl rfl Tryd.underlying9 rfl rfl ((Sub.refl _).trans (GValue.sub3 v0)))) ?_
         refine bindK H fun r'6 h16 H => ?_
         refine r_on rfl rfl rfl rfl (bfalse h15) rfl (PureD.opD (p_callp rfl rfl rfl Tryd.func40 rfl rfl (g_utf8_ValidString_ac h16) ⟨rfl, trivial⟩)) ?_
         refine r_on rfl rfl rfl rfl (bfalse h15) rfl (PureD.opD (p_not rfl rfl)) ?_
         refine rp rfl rfl (p_pkf rfl rfl (bfalse h15) (.same _)) ?_
         refine rs [(60, .b (!r'6))] [] rfl rfl rfl ?_
         have hz := some_elim H
         subst hz
         exact RunW_nil rfl
       ·replace H := ite_else h13 H
        refine r_off rfl rfl rfl rfl (decide_eq_false h13) rfl rfl ?_
        refine r_off rfl rfl rfl rfl (decide_eq_false h13) rfl rfl ?_
        refine r_off rfl rfl rfl rfl (decide_eq_false h13) rfl rfl ?_
        refine r_on rfl rfl rfl rfl (decide_eq_false h12) rfl (PureD.opD (p_pkf rfl rfl (decide_eq_false h13) (.same _))) ?_
        refine rp rfl rfl (p_pkf rfl rfl (decide_eq_false h12) (.same _)) ?_
        refine rp rfl rfl (p_move rfl rfl) ?_
        refine r_on rfl rfl rfl rfl (bfalse (by decide)) rfl (PureD.opD (u_fa rfl rfl Tryd.underlying24 rfl in_9 (Nat.succ_ne_zero _) rfl rfl (ne_of_lt (n := 0) (Nat.lt_of_lt_of_eq (by decide) (Eq.symm (GValue.len v0)))))) ?_
        refine r_on rfl rfl rfl rfl (bfalse (by decide)) rfl (PureD.opD (u_ld rfl rfl Tryd.underlying9 rfl rfl ((Sub.refl _).trans (GValue.sub3 v0)))) ?_
        refine bindK H fun r'7 h17 H => ?_
        refine r_on rfl rfl rfl rfl (bfalse (by decide)) rfl (PureD.opD (p_callp rfl rfl rfl Tryd.func40 rfl rfl (g_utf8_ValidString_ac h17) ⟨rfl, trivial⟩)) ?_
        refine r_on rfl rfl rfl rfl (bfalse (by decide)) rfl (PureD.opD (p_not rfl rfl)) ?_
        refine rp rfl rfl (p_pkf rfl rfl (bfalse (by decide)) (.same _)) ?_
        refine rs [(60, .b (!r'7))] [] rfl rfl rfl ?_
        have hz := some_elim H
        subst hz
        exact RunW_nil rfl
     ·replace H := ite_else h11 H
      refine r_off rfl rfl rfl rfl (decide_eq_false h11) rfl rfl ?_
      refine r_off rfl rfl rfl rfl (decide_eq_false h11) rfl rfl ?_
      refine r_off rfl rfl rfl rfl (decide_eq_false h11) rfl rfl ?_
      refine r_off rfl rfl rfl rfl (decide_eq_false h11) rfl rfl ?_
      refine r_on rfl rfl rfl rfl (decide_eq_false h10) rfl (PureD.opD (p_pkf rfl rfl (decide_eq_false h11) (.same _))) ?_
      refine rp rfl rfl (p_pkf rfl rfl (decide_eq_false h10) (.same _)) ?_
      refine rp rfl rfl (p_move rfl rfl) ?_
      refine r_on rfl rfl rfl rfl (bfalse (by decide)) rfl (PureD.opD (u_fa rfl rfl Tryd.underlying24 rfl in_3 (Nat.succ_ne_zero _) rfl rfl (ne_of_lt (n := 0) (Nat.lt_of_lt_of_eq (by decide) (Eq.symm (GValue.len v0)))))) ?_
      refine r_on rfl rfl rfl rfl (bfalse (by decide)) rfl (PureD.opD (u_ld rfl rfl Tryd.underlying3 rfl rfl ((Sub.refl _).trans (GValue.sub0 v0)))) ?_
      refine r_on rfl rfl rfl rfl (bfalse (by decide)) rfl (PureD.opD (p_ieq rfl rfl rfl)) ?_
      refine r_on rfl rfl rfl rfl (bfalse (by decide)) rfl (PureD.opD (p_move rfl rfl)) ?_
      refine (Classical.em (v0.Kind = (3 : Int))).elim (fun h18 => ?_) (fun h18 => ?_)
      ·replace H := ite_then h18 H
       refine r_on rfl rfl rfl rfl (decide_eq_true h18) rfl (PureD.opD (u_fa rfl rfl Tryd.underlying24 rfl in_22 (Nat.succ_ne_zero _) rfl rfl (ne_of_lt (n := 0) (Nat.lt_of_lt_of_eq (by decide) (Eq.symm (GValue.len v0)))))) ?_
       refine r_on rfl rfl rfl rfl (decide_eq_true h18) rfl (PureD.opD (u_ld rfl rfl Tryd.underlying22 rfl rfl ((Sub.refl _).trans (GValue.sub2 v0)))) ?_
       refine bindK H fun r'8 h19 H => ?_
       refine r_on rfl rfl rfl rfl (decide_eq_true h18) rfl (PureD.opD (p_callp rfl rfl rfl Tryd.func41 rfl rfl (g_ref_badReal_ac h19) ⟨rfl, trivial⟩)) ?_
       refine r_on rfl rfl rfl rfl (bfalse (by decide)) rfl (PureD.opD (p_pkt rfl rfl (decide_eq_true h18) (.same _))) ?_
       refine rp rfl rfl (p_pkf rfl rfl (bfalse (by decide)) (.same _)) ?_
       refine rp rfl rfl (p_move rfl rfl) ?_
       refine (Classical.em (r'8 = true)).elim (fun h20 => ?_) (fun h20 => ?_)
       ·replace H := ite_then h20 H
        refine r_off rfl rfl rfl rfl h20 rfl rfl ?_
        refine r_off rfl rfl rfl rfl h20 rfl rfl ?_
        refine r_off rfl rfl rfl rfl h20 rfl rfl ?_
        refine r_off rfl rfl rfl rfl h20 rfl rfl ?_
        refine rp rfl rfl (p_pkt rfl rfl h20 (.same _)) ?_
        refine rs [(60, .b true)] [] rfl rfl rfl ?_
        have hz := some_elim H
        subst hz
        exact RunW_nil rfl
       ·replace H := ite_else h20 H
        refine r_on rfl rfl rfl rfl (bfalse h20) rfl (PureD.opD (u_fa rfl rfl Tryd.underlying24 rfl in_9 (Nat.succ_ne_zero _) rfl rfl (ne_of_lt (n := 0) (Nat.lt_of_lt_of_eq (by decide) (Eq.symm (GValue.len v0)))))) ?_
        refine r_on rfl rfl rfl rfl (bfalse h20) rfl (PureD.opD (u_ld rfl rfl Tryd.underlying9 rfl rfl ((Sub.refl _).trans (GValue.sub3 v0)))) ?_
        refine bindK H fun r'9 h21 H => ?_
        refine r_on rfl rfl rfl rfl (bfalse h20) rfl (PureD.opD (p_callp rfl rfl rfl Tryd.func40 rfl rfl (g_utf8_ValidString_ac h21) ⟨rfl, trivial⟩)) ?_
        refine r_on rfl rfl rfl rfl (bfalse h20) rfl (PureD.opD (p_not rfl rfl)) ?_
        refine rp rfl rfl (p_pkf rfl rfl (bfalse h20) (.same _)) ?_
        refine rs [(60, .b (!r'9))] [] rfl rfl rfl ?_
        have hz := some_elim H
        subst hz
        exact RunW_nil rfl
      ·replace H := ite_else h18 H
       refine r_off rfl rfl rfl rfl (decide_eq_false h18) rfl rfl ?_
       refine r_off rfl rfl rfl rfl (decide_eq_false h18) rfl rfl ?_
       refine r_off rfl rfl rfl rfl (decide_eq_false h18) rfl rfl ?_
       refine r_on rfl rfl rfl rfl (bfalse (by decide)) rfl (PureD.opD (p_pkf rfl rfl (decide_eq_false h18) (.same _))) ?_
       refine rp rfl rfl (p_pkf rfl rfl (bfalse (by decide)) (.same _)) ?_
       refine rp rfl rfl (p_move rfl rfl) ?_
       refine r_on rfl rfl rfl rfl (bfalse (by decide)) rfl (PureD.opD (u_fa rfl rfl Tryd.underlying24 rfl in_9 (Nat.succ_ne_zero _) rfl rfl (ne_of_lt (n := 0) (Nat.lt_of_lt_of_eq (by decide) (Eq.symm (GValue.len v0)))))) ?_
       refine r_on rfl rfl rfl rfl (bfalse (by decide)) rfl (PureD.opD (u_ld rfl rfl Tryd.underlying9 rfl rfl ((Sub.refl _).trans (GValue.sub3 v0)))) ?_
       refine bindK H fun r'10 h22 H => ?_
       refine r_on rfl rfl rfl rfl (bfalse (by decide)) rfl (PureD.opD (p_callp rfl rfl rfl Tryd.func40 rfl rfl (g_utf8_ValidString_ac h22) ⟨rfl, trivial⟩)) ?_
       refine r_on rfl rfl rfl rfl (bfalse (by decide)) rfl (PureD.opD (p_not rfl rfl)) ?_
       refine rp rfl rfl (p_pkf rfl rfl (bfalse (by decide)) (.same _)) ?_
       refine rs [(60, .b (!r'10))] [] rfl rfl rfl ?_
       have hz := some_elim H
       subst hz
       exact RunW_nil rfl
   ·refine AW2_cond rfl (fun h24 => ?_) (fun h24 => ?_)
    ·replace H := ite_then h24 H
     refine sg [0] rfl ?_
     refine rp rfl rfl (p_asg rfl rfl) ?_
     refine rz [(2, .i (3 : Int))] [] rfl rfl rfl ?_
     refine AW2_ret ?_
     have hz := some_elim H
     subst hz
     exact ⟨⟨res_tmp (.same _), trivial⟩, trivial⟩
    ·replace H := ite_else (ne_true h24) H
     refine as2 [] [] rfl rfl rfl ?_
     refine AW2_skip ?_
     refine sg [0] rfl ?_
     refine rp rfl rfl (p_asg rfl rfl) ?_
     refine rz [(2, .i (0 : Int))] [] rfl rfl rfl ?_
     refine AW2_ret ?_
     have hz := some_elim H
     subst hz
     exact ⟨⟨res_tmp (.same _), trivial⟩, trivial⟩
 ·subst hy
  obtain ⟨rfl, hs⟩ := hs
  have hz := some_elim H
  subst hz
  exact ⟨hs.1, hs.2⟩

/-! chirographref.valueOf -/
noncomputable def g_ref_valueOf (s0 : List UInt8) : Option (GValue × Int × Int) :=
  (if s0 = [] then some (GValue.zero, (0 : Int), (4 : Int)) else if 0 < s0.length then (if (w64 (((lrd s0 0).toNat : Int) - (1 : Int)) < (0 : Int)) ∨ (w64 (((lrd s0 0).toNat : Int) - (1 : Int)) > (4 : Int)) then some (GValue.zero, (0 : Int), (3 : Int)) else (if w64 (((lrd s0 0).toNat : Int) - (1 : Int)) = (4 : Int) then if 0 ≤ (1 : Int) ∧ (1 : Int) ≤ (s0.length : Int) then (g_ref_textOf (cut s0 (1 : Int) (s0.length : Int))).bind fun r'1 => some (r'1.1, r'1.2.1, r'1.2.2) else none else if 0 ≤ w64 (((lrd s0 0).toNat : Int) - (1 : Int)) ∧ w64 (((lrd s0 0).toNat : Int) - (1 : Int)) < (([(0 : Int), (1 : Int), (8 : Int), (8 : Int), (0 : Int)] : List Int).length : Int) then letO ((lrd ([(0 : Int), (1 : Int), (8 : Int), (8 : Int), (0 : Int)] : List Int) ((w64 (((lrd s0 0).toNat : Int) - (1 : Int))).toNat))) fun n7'2 => (if (s0.length : Int) < w64 ((1 : Int) + n7'2) then some (GValue.zero, (0 : Int), (4 : Int)) else if 0 ≤ (1 : Int) ∧ (1 : Int) ≤ w64 ((1 : Int) + n7'2) ∧ w64 ((1 : Int) + n7'2) ≤ (s0.length : Int) then (g_ref_number (cut s0 (1 : Int) (w64 ((1 : Int) + n7'2)))).bind fun r'3 => letO ({ GValue.zero with Kind := w64 (((lrd s0 0).toNat : Int) - (1 : Int)) }) fun v9'4 => ((if w64 (((lrd s0 0).toNat : Int) - (1 : Int)) = (1 : Int) then some ({ v9'4 with Int_ := w64 (r'3.toNat : Int) }) else (if w64 (((lrd s0 0).toNat : Int) - (1 : Int)) = (2 : Int) then letO ({ v9'4 with Int_ := w64 ((r'3 - (9223372036854775808 : UInt64)).toNat : Int) }) fun v9'6 => some v9'6 else (if w64 (((lrd s0 0).toNat : Int) - (1 : Int)) = (3 : Int) then (if r'3 < (9223372036854775808 : UInt64) then letO ({ { v9'4 with Bits := r'3 - (9223372036854775808 : UInt64) } with Bits := ~~~ r'3 }) fun v9'7 => some v9'7 else some ({ v9'4 with Bits := r'3 - (9223372036854775808 : UInt64) })) else some v9'4)))).bind fun j'5 => (g_ref_ValueFault j'5).bind fun r'8 => (if r'8 ≠ (0 : Int) then some (GValue.zero, (0 : Int), (3 : Int)) else some (j'5, w64 ((1 : Int) + n7'2), (0 : Int))) else none) else none)) else none)
set_option maxHeartbeats 4000000 in
set_option maxRecDepth 100000 in
theorem g_ref_valueOf_ac {s0 : List UInt8} {r : GValue × Int × Int} (H : g_ref_valueOf s0 = some r) : ACp Tryd.prog 55 [(AV.txt s0)] (.tup [(.agg (GValue.cs r.1)), (AV.int r.2.1), (AV.int r.2.2)]) := by
 refine ACp_of (AC2_of_body (vs := [.g (GValue.cs r.1), .i r.2.1, .i r.2.2]) Tryd.func55 rfl rfl (Nat.le_of_ble_eq_true rfl) rfl ?_) (fun _ => .same _)
 unfold g_ref_valueOf at H
 refine as2 [(0, .t s0)] [] rfl rfl rfl ?_
 refine sg [0, 1, 2] rfl ?_
 refine r_op rfl rfl (MakeD.opD (u_alloc 2 rfl in_24 one_24 zc_24) rfl rfl rfl rfl) ?_
 refine rp rfl rfl (p_asg rfl rfl) ?_
 refine rp rfl rfl (p_asg rfl rfl) ?_
 refine rz [(0, .t s0), (2, .q 2 (0))] [(2, .pure (GValue.cs GValue.zero))] rfl rfl rfl ?_
 refine AW2_seq ?_
 refine sg [0, 1] rfl ?_
 refine rp rfl rfl (p_move rfl rfl) ?_
 refine rp rfl rfl (p_seq rfl rfl rfl) ?_
 refine rz [(0, .t s0), (2, .q 2 (0)), (11, .b (decide (s0 = [])))] [(2, .pure (GValue.cs GValue.zero))] rfl rfl rfl ?_
 refine AW2_if (p := s0 = []) rfl (fun h1 => ?_) (fun h1 => ?_)
 ·replace H := ite_then h1 H
  refine sg [0, 1, 2, 3] rfl ?_
  refine rp rfl rfl (u_bld rfl in_24 one_24 zc_24 pl_24 rfl rfl) ?_
  refine r_op rfl rfl (u_st rfl rfl rfl rfl rfl in_24 (GValue.len GValue.zero) (ne_of_lt (n := 0) (Nat.lt_of_lt_of_eq (by decide) (Eq.symm (GValue.len GValue.zero)))) (Upd.refl ((GValue.len GValue.zero).trans (GValue.len GValue.zero).symm))) ?_
  refine rp rfl rfl (p_asg rfl rfl) ?_
  refine rp rfl rfl (p_asg rfl rfl) ?_
  refine rz [(2, .q 2 (0)), (3, .i (0 : Int)), (4, .i (4 : Int))] [(2, .pure (GValue.cs GValue.zero))] rfl rfl rfl ?_
  refine AW2_ret ?_
  have hz := some_elim H
  subst hz
  exact ⟨⟨res_cella Tryd.underlying24 rfl in_24.sz rfl (Sub.le (Sub.refl _) (GValue.len GValue.zero)) (by decide) (Sub.take (Sub.refl _) (GValue.len GValue.zero)), res_tmp (.same _), res_tmp (.same _), trivial⟩, trivial⟩
 ·replace H := ite_else h1 H
  refine as2 [(0, .t s0), (2, .q 2 (0))] [(2, .pure (GValue.cs GValue.zero))] rfl rfl rfl ?_
  refine AW2_skip ?_
  refine sg [0, 1, 2, 3, 4] rfl ?_
  refine rp rfl rfl (p_move rfl rfl) ?_
  refine chkK H fun h2 H => ?_
  refine rp rfl rfl (p_ixt rfl Tryd.underlying9 rfl rfl rfl (lrd_get h2)) ?_
  refine rp rfl rfl (p_ci rfl Tryd.underlying5 Tryd.underlying3 rfl (wrapu8i (lrd s0 0))) ?_
  refine rp rfl rfl (p_bin rfl rfl rfl rfl) ?_
  refine rp rfl rfl (p_asg rfl rfl) ?_
  refine rz [(0, .t s0), (2, .q 2 (0)), (5, .i (w64 (((lrd s0 0).toNat : Int) - (1 : Int))))] [(2, .pure (GValue.cs GValue.zero))] rfl rfl rfl ?_
  refine sg [0, 1] rfl ?_
  refine r_op rfl rfl (MakeD.opD (u_bs 17 rfl Tryd.underlying101 in_3 rfl one_3 (by decide) (by decide) rfl rfl rfl) rfl rfl rfl rfl) ?_
  refine rp rfl rfl (p_asg rfl rfl) ?_
  refine RunW_st [(0, .t s0), (2, .q 2 (0)), (5, .i (w64 (((lrd s0 0).toNat : Int) - (1 : Int)))), (6, .c (.own 17 ([(0 : Int), (1 : Int), (8 : Int), (8 : Int), (0 : Int)] : List Int).length 1))] [(2, .pure (GValue.cs GValue.zero)), (17, .pure (([(0 : Int), (1 : Int), (8 : Int), (8 : Int), (0 : Int)] : List Int).map AV.int))] rfl ⟨TLes.same _, TLes.same _, TLes.same _, TLes.own rfl, trivial⟩ ⟨rfl, rfl, trivial⟩ ?_
  refine RunW_gho (Gho_ren 17 6 rfl rfl rfl rfl rfl) ?_
  refine rz [(0, .t s0), (2, .q 2 (0)), (5, .i (w64 (((lrd s0 0).toNat : Int) - (1 : Int)))), (6, .c (.own 6 ([(0 : Int), (1 : Int), (8 : Int), (8 : Int), (0 : Int)] : List Int).length 1))] [(2, .pure (GValue.cs GValue.zero)), (6, .pure (([(0 : Int), (1 : Int), (8 : Int), (8 : Int), (0 : Int)] : List Int).map AV.int))] rfl rfl rfl ?_
  refine AW2_seq ?_
  refine AW2_seq ?_
  refine AW2_mid (⟨[(0, .t s0), (2, .q 2 (0)), (5, .i (w64 (((lrd s0 0).toNat : Int) - (1 : Int)))), (6, .c (.own 6 ([(0 : Int), (1 : Int), (8 : Int), (8 : Int), (0 : Int)] : List Int).length 1)), (23, .b (decide ((w64 (((lrd s0 0).toNat : Int) - (1 : Int)) < (0 : Int)) ∨ (w64 (((lrd s0 0).toNat : Int) - (1 : Int)) > (4 : Int)))))], [(2, .pure (GValue.cs GValue.zero)), (6, .pure (([(0 : Int), (1 : Int), (8 : Int), (8 : Int), (0 : Int)] : List Int).map AV.int))], 79⟩ : TS) ?_ ?_
  ·refine AW2_reg [0, 1, 2, 3, 4, 5] rfl ?_
   refine rp rfl rfl (p_move rfl rfl) ?_
   refine rp rfl rfl (p_bin rfl rfl rfl rfl) ?_
   refine rp rfl rfl (p_move rfl rfl) ?_
   refine (Classical.em (w64 (((lrd s0 0).toNat : Int) - (1 : Int)) < (0 : Int))).elim (fun h3 => ?_) (fun h3 => ?_)
   ·refine r_off rfl rfl rfl rfl (decide_eq_true h3) rfl rfl ?_
    refine r_off rfl rfl rfl rfl (decide_eq_true h3) rfl rfl ?_
    refine rp rfl rfl (p_pkt rfl rfl (decide_eq_true h3) (tb (decide_eq_true (p := (w64 (((lrd s0 0).toNat : Int) - (1 : Int)) < (0 : Int)) ∨ (w64 (((lrd s0 0).toNat : Int) - (1 : Int)) > (4 : Int))) (Or.inl h3)).symm)) ?_
    refine rs [(0, .t s0), (2, .q 2 (0)), (5, .i (w64 (((lrd s0 0).toNat : Int) - (1 : Int)))), (6, .c (.own 6 ([(0 : Int), (1 : Int), (8 : Int), (8 : Int), (0 : Int)] : List Int).length 1)), (23, .b (decide ((w64 (((lrd s0 0).toNat : Int) - (1 : Int)) < (0 : Int)) ∨ (w64 (((lrd s0 0).toNat : Int) - (1 : Int)) > (4 : Int)))))] [(2, .pure (GValue.cs GValue.zero)), (6, .pure (([(0 : Int), (1 : Int), (8 : Int), (8 : Int), (0 : Int)] : List Int).map AV.int))] rfl rfl rfl ?_
    exact RunW_nil rfl
   ·refine r_on rfl rfl rfl rfl (decide_eq_false h3) rfl (PureD.opD (p_move rfl rfl)) ?_
    refine r_on rfl rfl rfl rfl (decide_eq_false h3) rfl (PureD.opD (p_bin rfl rfl rfl rfl)) ?_
    refine rp rfl rfl (p_pkf rfl rfl (decide_eq_false h3) (tb ((or_l (p := w64 (((lrd s0 0).toNat : Int) - (1 : Int)) < (0 : Int)) (q := w64 (((lrd s0 0).toNat : Int) - (1 : Int)) > (4 : Int)) h3)))) ?_
    refine rs [(0, .t s0), (2, .q 2 (0)), (5, .i (w64 (((lrd s0 0).toNat : Int) - (1 : Int)))), (6, .c (.own 6 ([(0 : Int), (1 : Int), (8 : Int), (8 : Int), (0 : Int)] : List Int).length 1)), (23, .b (decide ((w64 (((lrd s0 0).toNat : Int) - (1 : Int)) < (0 : Int)) ∨ (w64 (((lrd s0 0).toNat : Int) - (1 : Int)) > (4 : Int)))))] [(2, .pure (GValue.cs GValue.zero)), (6, .pure (([(0 : Int), (1 : Int), (8 : Int), (8 : Int), (0 : Int)] : List Int).map AV.int))] rfl rfl rfl ?_
    exact RunW_nil rfl
  ·refine AW2_if (p := (w64 (((lrd s0 0).toNat : Int) - (1 : Int)) < (0 : Int)) ∨ (w64 (((lrd s0 0).toNat : Int) - (1 : Int)) > (4 : Int))) rfl (fun h4 => ?_) (fun h4 => ?_)
   ·replace H := ite_then h4 H
    refine sg [0, 1, 2, 3] rfl ?_
    refine rp rfl rfl (u_bld rfl in_24 one_24 zc_24 pl_24 rfl rfl) ?_
    refine r_op rfl rfl (u_st rfl rfl rfl rfl rfl in_24 (GValue.len GValue.zero) (ne_of_lt (n := 0) (Nat.lt_of_lt_of_eq (by decide) (Eq.symm (GValue.len GValue.zero)))) (Upd.refl ((GValue.len GValue.zero).trans (GValue.len GValue.zero).symm))) ?_
    refine rp rfl rfl (p_asg rfl rfl) ?_
    refine rp rfl rfl (p_asg rfl rfl) ?_
    refine rz [(2, .q 2 (0)), (3, .i (0 : Int)), (4, .i (3 : Int))] [(2, .pure (GValue.cs GValue.zero))] rfl rfl rfl ?_
    refine AW2_ret ?_
    have hz := some_elim H
    subst hz
    exact ⟨⟨res_cella Tryd.underlying24 rfl in_24.sz rfl (Sub.le (Sub.refl _) (GValue.len GValue.zero)) (by decide) (Sub.take (Sub.refl _) (GValue.len GValue.zero)), res_tmp (.same _), res_tmp (.same _), trivial⟩, trivial⟩
   ·replace H := ite_else h4 H
    refine as2 [(0, .t s0), (2, .q 2 (0)), (5, .i (w64 (((lrd s0 0).toNat : Int) - (1 : Int)))), (6, .c (.own 6 ([(0 : Int), (1 : Int), (8 : Int), (8 : Int), (0 : Int)] : List Int).length 1))] [(2, .pure (GValue.cs GValue.zero)), (6, .pure (([(0 : Int), (1 : Int), (8 : Int), (8 : Int), (0 : Int)] : List Int).map AV.int))] rfl rfl rfl ?_
    refine AW2_skip ?_
    refine AW2_seq ?_
    refine sg [0, 1] rfl ?_
    refine rp rfl rfl (p_move rfl rfl) ?_
    refine rp rfl rfl (p_ieq rfl rfl rfl) ?_
    refine rz [(0, .t s0), (2, .q 2 (0)), (5, .i (w64 (((lrd s0 0).toNat : Int) - (1 : Int)))), (6, .c (.own 6 ([(0 : Int), (1 : Int), (8 : Int), (8 : Int), (0 : Int)] : List Int).length 1)), (26, .b (decide (w64 (((lrd s0 0).toNat : Int) - (1 : Int)) = (4 : Int))))] [(2, .pure (GValue.cs GValue.zero)), (6, .pure (([(0 : Int), (1 : Int), (8 : Int), (8 : Int), (0 : Int)] : List Int).map AV.int))] rfl rfl rfl ?_
    refine AW2_if (p := w64 (((lrd s0 0).toNat : Int) - (1 : Int)) = (4 : Int)) rfl (fun h5 => ?_) (fun h5 => ?_)
    ·replace H := ite_then h5 H
     refine sg [0, 1, 2, 3, 4, 5, 6, 7, 8] rfl ?_
     refine rp rfl rfl (p_move rfl rfl) ?_
     refine chkK H fun h6 H => ?_
     refine rp rfl rfl (u_cutt (a := (1 : Int)) (b := (s0.length : Int)) rfl Tryd.underlying9 rfl (bT_i (show 0 ≤ (1 : Int) ∧ (1 : Int) ≤ (s0.length : Int) ∧ (s0.length : Int) ≤ (s0.length : Int) from ⟨h6.1, h6.2, Int.le_refl _⟩).1 rfl) (bT_len _) (show 0 ≤ (1 : Int) ∧ (1 : Int) ≤ (s0.length : Int) ∧ (s0.length : Int) ≤ (s0.length : Int) from ⟨h6.1, h6.2, Int.le_refl _⟩)) ?_
     refine bindK H fun r'1 h7 H => ?_
     refine rp rfl rfl (p_callp rfl rfl rfl Tryd.func76 rfl rfl (g_ref_textOf_ac h7) ⟨rfl, trivial⟩) ?_
     refine rp rfl rfl (p_ext rfl rfl rfl rfl) ?_
     refine rp rfl rfl (p_ext rfl rfl rfl rfl) ?_
     refine rp rfl rfl (p_ext rfl rfl rfl rfl) ?_
     refine r_op rfl rfl (u_st rfl rfl rfl rfl rfl in_24 (GValue.len r'1.1) (ne_of_lt (n := 0) (Nat.lt_of_lt_of_eq (by decide) (Eq.symm (GValue.len GValue.zero)))) (Upd.refl ((GValue.len r'1.1).trans (GValue.len GValue.zero).symm))) ?_
     refine rp rfl rfl (p_asg rfl rfl) ?_
     refine rp rfl rfl (p_asg rfl rfl) ?_
     refine rz [(2, .q 2 (0)), (3, .i r'1.2.1), (4, .i r'1.2.2)] [(2, .pure (GValue.cs r'1.1))] rfl rfl rfl ?_
     refine AW2_ret ?_
     have hz := some_elim H
     subst hz
     exact ⟨⟨res_cella Tryd.underlying24 rfl in_24.sz rfl (Sub.le (Sub.refl _) (GValue.len r'1.1)) (by decide) (Sub.take (Sub.refl _) (GValue.len r'1.1)), res_tmp (.same _), res_tmp (.same _), trivial⟩, trivial⟩
    ·replace H := ite_else h5 H
     refine as2 [(0, .t s0), (2, .q 2 (0)), (5, .i (w64 (((lrd s0 0).toNat : Int) - (1 : Int)))), (6, .c (.own 6 ([(0 : Int), (1 : Int), (8 : Int), (8 : Int), (0 : Int)] : List Int).length 1))] [(2, .pure (GValue.cs GValue.zero)), (6, .pure (([(0 : Int), (1 : Int), (8 : Int), (8 : Int), (0 : Int)] : List Int).map AV.int))] rfl rfl rfl ?_
     refine AW2_skip ?_
     refine sg [0, 1, 2, 3, 4] rfl ?_
     refine rp rfl rfl (p_move rfl rfl) ?_
     refine rp rfl rfl (p_move rfl rfl) ?_
     refine chkK H fun h8 H => ?_
     refine rp rfl rfl (u_ixo rfl rfl Tryd.underlying101 in_3 rfl rfl (lne (ixn h8)) rfl (ixe h8) (ixn h8)) ?_
     refine rp rfl rfl (u_ld rfl rfl Tryd.underlying3 rfl rfl ((Sub.refl _).trans (Sub.map default (ixn h8)))) ?_
     refine rp rfl rfl (p_asg rfl rfl) ?_
     refine rz [(0, .t s0), (2, .q 2 (0)), (5, .i (w64 (((lrd s0 0).toNat : Int) - (1 : Int)))), (7, .i (lrd ([(0 : Int), (1 : Int), (8 : Int), (8 : Int), (0 : Int)] : List Int) ((w64 (((lrd s0 0).toNat : Int) - (1 : Int))).toNat)))] [(2, .pure (GValue.cs GValue.zero))] rfl rfl rfl ?_
     refine gen1 (fun n7'2 => (⟨[(0, .t s0), (2, .q 2 (0)), (5, .i (w64 (((lrd s0 0).toNat : Int) - (1 : Int)))), (7, .i n7'2)], [(2, .pure (GValue.cs GValue.zero))], 79⟩ : TS)) H ?_
     intro n7'2 H
     refine AW2_seq ?_
     refine sg [0, 1, 2, 3, 4] rfl ?_
     refine rp rfl rfl (p_move rfl rfl) ?_
     refine rp rfl rfl (p_lent rfl Tryd.underlying9 rfl) ?_
     refine rp rfl rfl (p_move rfl rfl) ?_
     refine rp rfl rfl (p_bin rfl rfl rfl rfl) ?_
     refine rp rfl rfl (p_bin rfl rfl rfl rfl) ?_
     refine rz [(0, .t s0), (2, .q 2 (0)), (5, .i (w64 (((lrd s0 0).toNat : Int) - (1 : Int)))), (7, .i n7'2), (41, .b (decide ((s0.length : Int) < w64 ((1 : Int) + n7'2))))] [(2, .pure (GValue.cs GValue.zero))] rfl rfl rfl ?_
     refine AW2_if (p := (s0.length : Int) < w64 ((1 : Int) + n7'2)) rfl (fun h9 => ?_) (fun h9 => ?_)
     ·replace H := ite_then h9 H
      refine sg [0, 1, 2, 3] rfl ?_
      refine rp rfl rfl (u_bld rfl in_24 one_24 zc_24 pl_24 rfl rfl) ?_
      refine r_op rfl rfl (u_st rfl rfl rfl rfl rfl in_24 (GValue.len GValue.zero) (ne_of_lt (n := 0) (Nat.lt_of_lt_of_eq (by decide) (Eq.symm (GValue.len GValue.zero)))) (Upd.refl ((GValue.len GValue.zero).trans (GValue.len GValue.zero).symm))) ?_
      refine rp rfl rfl (p_asg rfl rfl) ?_
      refine rp rfl rfl (p_asg rfl rfl) ?_
      refine rz [(2, .q 2 (0)), (3, .i (0 : Int)), (4, .i (4 : Int))] [(2, .pure (GValue.cs GValue.zero))] rfl rfl rfl ?_
      refine AW2_ret ?_
      have hz := some_elim H
      subst hz
      exact ⟨⟨res_cella Tryd.underlying24 rfl in_24.sz rfl (Sub.le (Sub.refl _) (GValue.len GValue.zero)) (by decide) (Sub.take (Sub.refl _) (GValue.len GValue.zero)), res_tmp (.same _), res_tmp (.same _), trivial⟩, trivial⟩
     ·replace H := ite_else h9 H
      refine as2 [(0, .t s0), (2, .q 2 (0)), (5, .i (w64 (((lrd s0 0).toNat : Int) - (1 : Int)))), (7, .i n7'2)] [(2, .pure (GValue.cs GValue.zero))] rfl rfl rfl ?_
      refine AW2_skip ?_
      refine sg [0, 1, 2, 3, 4, 5] rfl ?_
      refine rp rfl rfl (p_move rfl rfl) ?_
      refine rp rfl rfl (p_move rfl rfl) ?_
      refine rp rfl rfl (p_bin rfl rfl rfl rfl) ?_
      refine chkK H fun h10 H => ?_
      refine rp rfl rfl (u_cutt (a := (1 : Int)) (b := w64 ((1 : Int) + n7'2)) rfl Tryd.underlying9 rfl (bT_i (show 0 ≤ (1 : Int) ∧ (1 : Int) ≤ w64 ((1 : Int) + n7'2) ∧ w64 ((1 : Int) + n7'2) ≤ (s0.length : Int) from h10).1 rfl) (bT_i (Int.le_trans (show 0 ≤ (1 : Int) ∧ (1 : Int) ≤ w64 ((1 : Int) + n7'2) ∧ w64 ((1 : Int) + n7'2) ≤ (s0.length : Int) from h10).1 (show 0 ≤ (1 : Int) ∧ (1 : Int) ≤ w64 ((1 : Int) + n7'2) ∧ w64 ((1 : Int) + n7'2) ≤ (s0.length : Int) from h10).2.1) rfl) (show 0 ≤ (1 : Int) ∧ (1 : Int) ≤ w64 ((1 : Int) + n7'2) ∧ w64 ((1 : Int) + n7'2) ≤ (s0.length : Int) from h10)) ?_
      refine bindK H fun r'3 h11 H => ?_
      refine rp rfl rfl (p_callp rfl rfl rfl Tryd.func57 rfl rfl (g_ref_number_ac h11) ⟨rfl, trivial⟩) ?_
      refine rp rfl rfl (p_asg rfl rfl) ?_
      refine rz [(2, .q 2 (0)), (5, .i (w64 (((lrd s0 0).toNat : Int) - (1 : Int)))), (7, .i n7'2), (8, .p (AV.u64 r'3))] [(2, .pure (GValue.cs GValue.zero))] rfl rfl rfl ?_
      refine sg [0, 1, 2, 3] rfl ?_
      refine rp rfl rfl (p_move rfl rfl) ?_
      refine rp rfl rfl (u_bld rfl in_24 one_24 zc_24 pl_24 rfl (af_cons rfl rfl (GValue.upd0 GValue.zero (w64 (((lrd s0 0).toNat : Int) - (1 : Int)))) rfl)) ?_
      refine r_op rfl rfl (MakeD.opD (u_alloc 9 rfl in_24 one_24 zc_24) rfl rfl rfl rfl) ?_
      refine r_op rfl rfl (u_st rfl rfl rfl rfl rfl in_24 (GValue.len ((GValue.w0 GValue.zero (w64 (((lrd s0 0).toNat : Int) - (1 : Int)))))) (ne_of_lt (n := 0) (Nat.lt_of_lt_of_eq (by decide) (Eq.symm (GValue.len GValue.zero)))) (Upd.refl ((GValue.len ((GValue.w0 GValue.zero (w64 (((lrd s0 0).toNat : Int) - (1 : Int)))))).trans (GValue.len GValue.zero).symm))) ?_
      refine rz [(2, .q 2 (0)), (5, .i (w64 (((lrd s0 0).toNat : Int) - (1 : Int)))), (7, .i n7'2), (8, .p (AV.u64 r'3)), (9, .q 9 (0))] [(2, .pure (GValue.cs GValue.zero)), (9, .pure (GValue.cs ((GValue.w0 GValue.zero (w64 (((lrd s0 0).toNat : Int) - (1 : Int)))))))] rfl rfl rfl ?_
      refine gen1 (fun v9'4 => (⟨[(2, .q 2 (0)), (5, .i (w64 (((lrd s0 0).toNat : Int) - (1 : Int)))), (7, .i n7'2), (8, .p (AV.u64 r'3)), (9, .q 9 (0))], [(2, .pure (GValue.cs GValue.zero)), (9, .pure (GValue.cs v9'4))], 79⟩ : TS)) H ?_
      intro v9'4 H
      refine AW2_seq ?_
      refine bindK H fun j'5 h12 H => ?_
      refine AW2_mid (⟨[(2, .q 2 (0)), (7, .i n7'2), (9, .q 9 (0))], [(2, .pure (GValue.cs GValue.zero)), (9, .pure (GValue.cs j'5))], 79⟩ : TS) ?_ ?_
      ·clear H
       have H := h12
       clear h12
       refine sg [0] rfl ?_
       refine rp rfl rfl (p_move rfl rfl) ?_
       refine rz [(2, .q 2 (0)), (7, .i n7'2), (8, .p (AV.u64 r'3)), (9, .q 9 (0)), (50, .i (w64 (((lrd s0 0).toNat : Int) - (1 : Int))))] [(2, .pure (GValue.cs GValue.zero)), (9, .pure (GValue.cs v9'4))] rfl rfl rfl ?_
       refine AW2_block ?_
       refine sg [0, 1] rfl ?_
       refine rp rfl rfl (p_ieq rfl rfl rfl) ?_
       refine rp rfl rfl (p_asg rfl rfl) ?_
       refine rz [(2, .q 2 (0)), (7, .i n7'2), (8, .p (AV.u64 r'3)), (9, .q 9 (0)), (50, .i (w64 (((lrd s0 0).toNat : Int) - (1 : Int)))), (51, .b (decide (w64 (((lrd s0 0).toNat : Int) - (1 : Int)) = (1 : Int))))] [(2, .pure (GValue.cs GValue.zero)), (9, .pure (GValue.cs v9'4))] rfl rfl rfl ?_
       refine AW2_if (p := w64 (((lrd s0 0).toNat : Int) - (1 : Int)) = (1 : Int)) rfl (fun h13 => ?_) (fun h13 => ?_)
       ·replace H := ite_then h13 H
        refine AW2_reg [0, 1, 2, 3] rfl ?_
        refine rp rfl rfl (p_move rfl rfl) ?_
        refine rp rfl rfl (p_u64_i (a := r'3) rfl Tryd.underlying22 Tryd.underlying3 rfl) ?_
        refine rp rfl rfl (u_fa rfl rfl Tryd.underlying24 rfl in_3 (Nat.succ_ne_zero _) rfl rfl (ne_of_lt (n := 0) (Nat.lt_of_lt_of_eq (by decide) (Eq.symm (GValue.len v9'4))))) ?_
        refine r_op rfl rfl (u_st rfl rfl rfl rfl rfl in_3 rfl (ne_of_lt (n := 0) (Nat.lt_of_lt_of_eq (by decide) (Eq.symm (GValue.len v9'4)))) (Upd.trans (Sub.refl _) (GValue.upd1 v9'4 (w64 (r'3.toNat : Int))) (Upd.refl ((GValue.len ((GValue.w1 v9'4 (w64 (r'3.toNat : Int))))).trans (GValue.len v9'4).symm)))) ?_
        refine rz [(2, .q 2 (0)), (7, .i n7'2), (9, .q 9 (0))] [(2, .pure (GValue.cs GValue.zero)), (9, .pure (GValue.cs ((GValue.w1 v9'4 (w64 (r'3.toNat : Int))))))] rfl rfl rfl ?_
        have hz := some_elim H
        subst hz
        exact rfl
       ·replace H := ite_else h13 H
        refine sg [0, 1] rfl ?_
        refine rp rfl rfl (p_ieq rfl rfl rfl) ?_
        refine rp rfl rfl (p_asg rfl rfl) ?_
        refine rz [(2, .q 2 (0)), (7, .i n7'2), (8, .p (AV.u64 r'3)), (9, .q 9 (0)), (50, .i (w64 (((lrd s0 0).toNat : Int) - (1 : Int)))), (56, .b (decide (w64 (((lrd s0 0).toNat : Int) - (1 : Int)) = (2 : Int))))] [(2, .pure (GValue.cs GValue.zero)), (9, .pure (GValue.cs v9'4))] rfl rfl rfl ?_
        refine AW2_if (p := w64 (((lrd s0 0).toNat : Int) - (1 : Int)) = (2 : Int)) rfl (fun h14 => ?_) (fun h14 => ?_)
        ·replace H := ite_then h14 H
         refine AW2_reg [0, 1, 2, 3, 4] rfl ?_
         refine rp rfl rfl (p_move rfl rfl) ?_
         refine rp rfl rfl (p_u64sub (a := r'3) (b := (9223372036854775808 : UInt64)) rfl rfl rfl) ?_
         refine rp rfl rfl (p_u64_i (a := r'3 - (9223372036854775808 : UInt64)) rfl Tryd.underlying22 Tryd.underlying3 rfl) ?_
         refine rp rfl rfl (u_fa rfl rfl Tryd.underlying24 rfl in_3 (Nat.succ_ne_zero _) rfl rfl (ne_of_lt (n := 0) (Nat.lt_of_lt_of_eq (by decide) (Eq.symm (GValue.len v9'4))))) ?_
         refine r_op rfl rfl (u_st rfl rfl rfl rfl rfl in_3 rfl (ne_of_lt (n := 0) (Nat.lt_of_lt_of_eq (by decide) (Eq.symm (GValue.len v9'4)))) (Upd.trans (Sub.refl _) (GValue.upd1 v9'4 (w64 ((r'3 - (9223372036854775808 : UInt64)).toNat : Int))) (Upd.refl ((GValue.len ((GValue.w1 v9'4 (w64 ((r'3 - (9223372036854775808 : UInt64)).toNat : Int))))).trans (GValue.len v9'4).symm)))) ?_
         refine rz [(2, .q 2 (0)), (7, .i n7'2), (9, .q 9 (0))] [(2, .pure (GValue.cs GValue.zero)), (9, .pure (GValue.cs ((GValue.w1 v9'4 (w64 ((r'3 - (9223372036854775808 : UInt64)).toNat : Int))))))] rfl rfl rfl ?_
         refine gen1 (fun v9'6 => (⟨[(2, .q 2 (0)), (7, .i n7'2), (9, .q 9 (0))], [(2, .pure (GValue.cs GValue.zero)), (9, .pure (GValue.cs v9'6))], 79⟩ : TS)) H ?_
         intro v9'6 H
         have hz := some_elim H
         subst hz
         exact rfl
        ·replace H := ite_else h14 H
         refine sg [0, 1] rfl ?_
         refine rp rfl rfl (p_ieq rfl rfl rfl) ?_
         refine rp rfl rfl (p_asg rfl rfl) ?_
         refine rz [(2, .q 2 (0)), (7, .i n7'2), (8, .p (AV.u64 r'3)), (9, .q 9 (0)), (62, .b (decide (w64 (((lrd s0 0).toNat : Int) - (1 : Int)) = (3 : Int))))] [(2, .pure (GValue.cs GValue.zero)), (9, .pure (GValue.cs v9'4))] rfl rfl rfl ?_
         refine AW2_if (p := w64 (((lrd s0 0).toNat : Int) - (1 : Int)) = (3 : Int)) rfl (fun h15 => ?_) (fun h15 => ?_)
         ·replace H := ite_then h15 H
          refine sg [0, 1, 2, 3] rfl ?_
          refine rp rfl rfl (p_move rfl rfl) ?_
          refine rp rfl rfl (p_u64sub (a := r'3) (b := (9223372036854775808 : UInt64)) rfl rfl rfl) ?_
          refine rp rfl rfl (u_fa rfl rfl Tryd.underlying24 rfl in_22 (Nat.succ_ne_zero _) rfl rfl (ne_of_lt (n := 0) (Nat.lt_of_lt_of_eq (by decide) (Eq.symm (GValue.len v9'4))))) ?_
          refine r_op rfl rfl (u_st rfl rfl rfl rfl rfl in_22 rfl (ne_of_lt (n := 0) (Nat.lt_of_lt_of_eq (by decide) (Eq.symm (GValue.len v9'4)))) (Upd.trans (Sub.refl _) (GValue.upd2 v9'4 (r'3 - (9223372036854775808 : UInt64))) (Upd.refl ((GValue.len ((GValue.w2 v9'4 (r'3 - (9223372036854775808 : UInt64))))).trans (GValue.len v9'4).symm)))) ?_
          refine rz [(2, .q 2 (0)), (7, .i n7'2), (8, .p (AV.u64 r'3)), (9, .q 9 (0))] [(2, .pure (GValue.cs GValue.zero)), (9, .pure (GValue.cs ((GValue.w2 v9'4 (r'3 - (9223372036854775808 : UInt64))))))] rfl rfl rfl ?_
          refine sg [0, 1] rfl ?_
          refine rp rfl rfl (p_move rfl rfl) ?_
          refine rp rfl rfl (p_u64lt (a := r'3) (b := (9223372036854775808 : UInt64)) rfl rfl rfl) ?_
          refine rz [(2, .q 2 (0)), (7, .i n7'2), (8, .p (AV.u64 r'3)), (9, .q 9 (0)), (68, .b (decide (r'3 < (9223372036854775808 : UInt64))))] [(2, .pure (GValue.cs GValue.zero)), (9, .pure (GValue.cs ((GValue.w2 v9'4 (r'3 - (9223372036854775808 : UInt64))))))] rfl rfl rfl ?_
          refine AW2_if (p := r'3 < (9223372036854775808 : UInt64)) rfl (fun h16 => ?_) (fun h16 => ?_)
          ·replace H := ite_then h16 H
           refine AW2_reg [0, 1, 2, 3] rfl ?_
           refine rp rfl rfl (p_move rfl rfl) ?_
           refine rp rfl rfl (p_u64cpl rfl rfl) ?_
           refine rp rfl rfl (u_fa rfl rfl Tryd.underlying24 rfl in_22 (Nat.succ_ne_zero _) rfl rfl (ne_of_lt (n := 0) (Nat.lt_of_lt_of_eq (by decide) (Eq.symm (GValue.len ((GValue.w2 v9'4 (r'3 - (9223372036854775808 : UInt64))))))))) ?_
           refine r_op rfl rfl (u_st rfl rfl rfl rfl rfl in_22 rfl (ne_of_lt (n := 0) (Nat.lt_of_lt_of_eq (by decide) (Eq.symm (GValue.len ((GValue.w2 v9'4 (r'3 - (9223372036854775808 : UInt64)))))))) (Upd.trans (Sub.refl _) (GValue.upd2 ((GValue.w2 v9'4 (r'3 - (9223372036854775808 : UInt64)))) (~~~ r'3)) (Upd.refl ((GValue.len ((GValue.w2 (GValue.w2 v9'4 (r'3 - (9223372036854775808 : UInt64))) (~~~ r'3)))).trans (GValue.len ((GValue.w2 v9'4 (r'3 - (9223372036854775808 : UInt64))))).symm)))) ?_
           refine rz [(2, .q 2 (0)), (7, .i n7'2), (9, .q 9 (0))] [(2, .pure (GValue.cs GValue.zero)), (9, .pure (GValue.cs ((GValue.w2 (GValue.w2 v9'4 (r'3 - (9223372036854775808 : UInt64))) (~~~ r'3)))))] rfl rfl rfl ?_
           refine gen1 (fun v9'7 => (⟨[(2, .q 2 (0)), (7, .i n7'2), (9, .q 9 (0))], [(2, .pure (GValue.cs GValue.zero)), (9, .pure (GValue.cs v9'7))], 79⟩ : TS)) H ?_
           intro v9'7 H
           have hz := some_elim H
           subst hz
           exact rfl
          ·replace H := ite_else h16 H
           refine as2 [(2, .q 2 (0)), (7, .i n7'2), (9, .q 9 (0))] [(2, .pure (GValue.cs GValue.zero)), (9, .pure (GValue.cs ((GValue.w2 v9'4 (r'3 - (9223372036854775808 : UInt64))))))] rfl rfl rfl ?_
           refine AW2_skip ?_
           have hz := some_elim H
           subst hz
           exact rfl
         ·replace H := ite_else h15 H
          refine as2 [(2, .q 2 (0)), (7, .i n7'2), (9, .q 9 (0))] [(2, .pure (GValue.cs GValue.zero)), (9, .pure (GValue.cs v9'4))] rfl rfl rfl ?_
          refine AW2_skip ?_
          have hz := some_elim H
          subst hz
          exact rfl
      ·refine AW2_seq ?_
       refine sg [0, 1, 2] rfl ?_
       refine rp rfl rfl (u_lda rfl rfl Tryd.underlying24 rfl in_24 rfl (Nat.succ_pos _) (Sub.refl _) (GValue.len j'5)) ?_
       refine bindK H fun r'8 h17 H => ?_
       refine rp rfl rfl (p_callp rfl rfl rfl Tryd.func15 rfl rfl (g_ref_ValueFault_ac h17) ⟨rfl, trivial⟩) ?_
       refine rp rfl rfl (p_ine rfl rfl rfl) ?_
       refine rz [(2, .q 2 (0)), (7, .i n7'2), (9, .q 9 (0)), (74, .b (decide (r'8 ≠ (0 : Int))))] [(2, .pure (GValue.cs GValue.zero)), (9, .pure (GValue.cs j'5))] rfl rfl rfl ?_
       refine AW2_if (p := r'8 ≠ (0 : Int)) rfl (fun h18 => ?_) (fun h18 => ?_)
       ·replace H := ite_then h18 H
        refine sg [0, 1, 2, 3] rfl ?_
        refine rp rfl rfl (u_bld rfl in_24 one_24 zc_24 pl_24 rfl rfl) ?_
        refine r_op rfl rfl (u_st rfl rfl rfl rfl rfl in_24 (GValue.len GValue.zero) (ne_of_lt (n := 0) (Nat.lt_of_lt_of_eq (by decide) (Eq.symm (GValue.len GValue.zero)))) (Upd.refl ((GValue.len GValue.zero).trans (GValue.len GValue.zero).symm))) ?_
        refine rp rfl rfl (p_asg rfl rfl) ?_
        refine rp rfl rfl (p_asg rfl rfl) ?_
        refine rz [(2, .q 2 (0)), (3, .i (0 : Int)), (4, .i (3 : Int))] [(2, .pure (GValue.cs GValue.zero))] rfl rfl rfl ?_
        refine AW2_ret ?_
        have hz := some_elim H
        subst hz
        exact ⟨⟨res_cella Tryd.underlying24 rfl in_24.sz rfl (Sub.le (Sub.refl _) (GValue.len GValue.zero)) (by decide) (Sub.take (Sub.refl _) (GValue.len GValue.zero)), res_tmp (.same _), res_tmp (.same _), trivial⟩, trivial⟩
       ·replace H := ite_else h18 H
        refine as2 [(2, .q 2 (0)), (7, .i n7'2), (9, .q 9 (0))] [(2, .pure (GValue.cs GValue.zero)), (9, .pure (GValue.cs j'5))] rfl rfl rfl ?_
        refine AW2_skip ?_
        refine sg [0, 1, 2, 3, 4, 5] rfl ?_
        refine rp rfl rfl (u_lda rfl rfl Tryd.underlying24 rfl in_24 rfl (Nat.succ_pos _) (Sub.refl _) (GValue.len j'5)) ?_
        refine rp rfl rfl (p_move rfl rfl) ?_
        refine rp rfl rfl (p_bin rfl rfl rfl rfl) ?_
        refine r_op rfl rfl (u_st rfl rfl rfl rfl rfl in_24 (GValue.len j'5) (ne_of_lt (n := 0) (Nat.lt_of_lt_of_eq (by decide) (Eq.symm (GValue.len GValue.zero)))) (Upd.refl ((GValue.len j'5).trans (GValue.len GValue.zero).symm))) ?_
        refine rp rfl rfl (p_asg rfl rfl) ?_
        refine rp rfl rfl (p_asg rfl rfl) ?_
        refine rz [(2, .q 2 (0)), (3, .i (w64 ((1 : Int) + n7'2))), (4, .i (0 : Int))] [(2, .pure (GValue.cs j'5))] rfl rfl rfl ?_
        refine AW2_ret ?_
        have hz := some_elim H
        subst hz
        exact ⟨⟨res_cella Tryd.underlying24 rfl in_24.sz rfl (Sub.le (Sub.refl _) (GValue.len j'5)) (by decide) (Sub.take (Sub.refl _) (GValue.len j'5)), res_tmp (.same _), res_tmp (.same _), trivial⟩, trivial⟩

/-! chirographref.RowOf -/
noncomputable def g_ref_RowOf_l0 (n1 : Int) (down2 : Int) : (List UInt8) × Int × (List GValue) → Option (((List UInt8) × Int × (List GValue)) ⊕ (((List GValue) × Int) ⊕ ((List UInt8) × (List GValue))))
  | (s8_0, i10_0, out9_0) => (if i10_0 < n1 then ((g_ref_downs down2 i10_0).bind fun r'2 => (if r'2 = true then (g_ref_flipped s8_0).bind fun r'3 => some r'3 else some s8_0)).bind fun j'1 => (g_ref_valueOf j'1).bind fun r'4 => (if r'4.2.2 ≠ (0 : Int) then some (.inr (.inl (([] : List GValue), r'4.2.2))) else if room (out9_0.length + ([r'4.1] : List GValue).length) 40 then if 0 ≤ r'4.2.1 ∧ r'4.2.1 ≤ (s8_0.length : Int) then some (.inl ((cut s8_0 r'4.2.1 (s8_0.length : Int)), w64 (i10_0 + (1 : Int)), out9_0 ++ ([r'4.1] : List GValue))) else none else none) else some (.inr (.inr (s8_0, out9_0))))
noncomputable def g_ref_RowOf (b0 : List UInt8) (n1 : Int) (down2 : Int) : Option ((List GValue) × Int) :=
  (if (n1 < (0 : Int)) ∨ (n1 > (5 : Int)) then some (([] : List GValue), (1 : Int)) else (loopO (g_ref_RowOf_l0 n1 down2) (b0, (0 : Int), ([] : List GValue))).bind fun o'8 => match o'8 with | .inl y'9 => some y'9 | .inr (y'10) => (if y'10.1 ≠ [] then some (([] : List GValue), (3 : Int)) else some (y'10.2, (0 : Int))))
set_option maxHeartbeats 4000000 in
set_option maxRecDepth 100000 in
theorem g_ref_RowOf_ac2 {b0 : List UInt8} {n1 : Int} {down2 : Int} {r : (List GValue) × Int} (H : g_ref_RowOf b0 n1 down2 = some r) : AC2 Tryd.prog 25 (pureT [(AV.bytes b0), (AV.int n1), (AV.int down2)]) [] (retV [.c (.own 6 r.1.length 4), .i r.2]) [(6, .pure (r.1.flatMap GValue.cs))] := by
 refine AC2_of_body (vs := [.c (.own 6 r.1.length 4), .i r.2]) Tryd.func25 rfl rfl (Nat.le_of_ble_eq_true rfl) rfl ?_
 unfold g_ref_RowOf at H
 refine as2 [(0, .y b0), (1, .i n1), (2, .i down2)] [] rfl rfl rfl ?_
 refine sg [0, 1] rfl ?_
 refine rp rfl rfl (p_asgn rfl) ?_
 refine rp rfl rfl (p_asg rfl rfl) ?_
 refine rz [(0, .y b0), (1, .i n1), (2, .i down2)] [] rfl rfl rfl ?_
 refine AW2_seq ?_
 refine AW2_seq ?_
 refine AW2_mid (⟨[(0, .y b0), (1, .i n1), (2, .i down2), (20, .b (decide ((n1 < (0 : Int)) ∨ (n1 > (5 : Int)))))], [], 53⟩ : TS) ?_ ?_
 ·refine AW2_reg [0, 1, 2, 3, 4, 5] rfl ?_
  refine rp rfl rfl (p_move rfl rfl) ?_
  refine rp rfl rfl (p_bin rfl rfl rfl rfl) ?_
  refine rp rfl rfl (p_move rfl rfl) ?_
  refine (Classical.em (n1 < (0 : Int))).elim (fun h1 => ?_) (fun h1 => ?_)
  ·refine r_off rfl rfl rfl rfl (decide_eq_true h1) rfl rfl ?_
   refine r_off rfl rfl rfl rfl (decide_eq_true h1) rfl rfl ?_
   refine rp rfl rfl (p_pkt rfl rfl (decide_eq_true h1) (tb (decide_eq_true (p := (n1 < (0 : Int)) ∨ (n1 > (5 : Int))) (Or.inl h1)).symm)) ?_
   refine rs [(0, .y b0), (1, .i n1), (2, .i down2), (20, .b (decide ((n1 < (0 : Int)) ∨ (n1 > (5 : Int)))))] [] rfl rfl rfl ?_
   exact RunW_nil rfl
  ·refine r_on rfl rfl rfl rfl (decide_eq_false h1) rfl (PureD.opD (p_move rfl rfl)) ?_
   refine r_on rfl rfl rfl rfl (decide_eq_false h1) rfl (PureD.opD (p_bin rfl rfl rfl rfl)) ?_
   refine rp rfl rfl (p_pkf rfl rfl (decide_eq_false h1) (tb ((or_l (p := n1 < (0 : Int)) (q := n1 > (5 : Int)) h1)))) ?_
   refine rs [(0, .y b0), (1, .i n1), (2, .i down2), (20, .b (decide ((n1 < (0 : Int)) ∨ (n1 > (5 : Int)))))] [] rfl rfl rfl ?_
   exact RunW_nil rfl
 ·refine AW2_if (p := (n1 < (0 : Int)) ∨ (n1 > (5 : Int))) rfl (fun h2 => ?_) (fun h2 => ?_)
  ·replace H := ite_then h2 H
   refine sg [0, 1] rfl ?_
   refine rp rfl rfl (p_asgn rfl) ?_
   refine rp rfl rfl (p_asg rfl rfl) ?_
   refine rz [(6, .p .nil), (7, .i (1 : Int))] [] rfl rfl rfl ?_
   refine as2 [(6, .p .nil), (7, .i (1 : Int))] [] rfl rfl rfl ?_
   refine AW2_gho (Gho_own (d := 6) (b := 6) (z := 4) rfl rfl rfl rfl) ?_
   refine AW2_st [(6, .c (.own 6 ([] : List GValue).length 4)), (7, .i (1 : Int))] [(6, .pure (([] : List GValue).flatMap GValue.cs))] rfl ⟨TLes.own rfl, TLes.same _, trivial⟩ ⟨rfl, trivial⟩ ?_
   refine AW2_ret ?_
   have hz := some_elim H
   subst hz
   exact ⟨⟨res_tmp (.same _), res_tmp (.same _), trivial⟩, ⟨rfl, trivial⟩⟩
  ·replace H := ite_else h2 H
   refine as2 [(0, .y b0), (1, .i n1), (2, .i down2)] [] rfl rfl rfl ?_
   refine AW2_skip ?_
   refine sg [0, 1, 2] rfl ?_
   refine rp rfl rfl (p_move rfl rfl) ?_
   refine rp rfl rfl (p_cb rfl rfl Tryd.underlying33 Tryd.underlying5 Tryd.underlying9 rfl) ?_
   refine rp rfl rfl (p_asg rfl rfl) ?_
   refine rz [(1, .i n1), (2, .i down2), (8, .t b0)] [] rfl rfl rfl ?_
   refine sg [0] rfl ?_
   refine rp rfl rfl (p_asgn rfl) ?_
   refine rz [(1, .i n1), (2, .i down2), (8, .t b0), (9, .p .nil)] [] rfl rfl rfl ?_
   refine AW2_seq ?_
   refine sg [0] rfl ?_
   refine rp rfl rfl (p_asg rfl rfl) ?_
   refine rz [(1, .i n1), (2, .i down2), (8, .t b0), (9, .p .nil), (10, .i (0 : Int))] [] rfl rfl rfl ?_
   refine AW2_block ?_
   refine as2 [(1, .i n1), (2, .i down2), (8, .t b0), (9, .p .nil), (10, .i (0 : Int))] [] rfl rfl rfl ?_
   refine AW2_gho (Gho_own (d := 9) (b := 9) (z := 4) rfl rfl rfl rfl) ?_
   refine AW2_st [(1, .i n1), (2, .i down2), (8, .t b0), (9, .c (.own 9 ([] : List GValue).length 4)), (10, .i (0 : Int))] [(9, .pure (([] : List GValue).flatMap GValue.cs))] rfl ⟨TLes.same _, TLes.same _, TLes.same _, TLes.own rfl, TLes.same _, trivial⟩ ⟨rfl, trivial⟩ ?_
   refine bindK H fun o'8 h12 H => ?_
   refine AW2_loopO (fun a'5 : (List UInt8) × Int × (List GValue) => (⟨[(1, .i n1), (2, .i down2), (8, .t a'5.1), (9, .c (.own 9 a'5.2.2.length 4)), (10, .i a'5.2.1)], [(9, .pure (a'5.2.2.flatMap GValue.cs))], 53⟩ : TS)) (fun (o : ((List GValue) × Int) ⊕ ((List UInt8) × (List GValue))) e s' => match o with | .inl y'6 => e = Go.Exit.ret ∧ ResAll Tryd.prog s' [ResultVar.tmp 6, ResultVar.tmp 7] [.c (.own 6 y'6.1.length 4), .i y'6.2] ∧ HFits s' [(6, .pure (y'6.1.flatMap GValue.cs))] | .inr (y'7) => e = Go.Exit.exit 0 ∧ s' = (⟨[(8, .t y'7.1), (9, .c (.own 9 y'7.2.length 4))], [(9, .pure (y'7.2.flatMap GValue.cs))], 53⟩ : TS)) h12 rfl (fun a x hx => ?_) (fun e s' hs => ?_)
   ·clear H
    obtain ⟨s8_0, i10_0, out9_0⟩ := a
    have H := hx
    clear hx
    unfold g_ref_RowOf_l0 at H
    refine AW2_seq ?_
    refine sg [0, 1, 2] rfl ?_
    refine rp rfl rfl (p_move rfl rfl) ?_
    refine rp rfl rfl (p_move rfl rfl) ?_
    refine rp rfl rfl (p_bin rfl rfl rfl rfl) ?_
    refine rz [(1, .i n1), (2, .i down2), (8, .t s8_0), (9, .c (.own 9 out9_0.length 4)), (10, .i i10_0), (25, .b (decide (i10_0 < n1)))] [(9, .pure (out9_0.flatMap GValue.cs))] rfl rfl rfl ?_
    refine AW2_if (p := i10_0 < n1) rfl (fun h3 => ?_) (fun h3 => ?_)
    ·replace H := ite_then h3 H
     refine as2 [(1, .i n1), (2, .i down2), (8, .t s8_0), (9, .c (.own 9 out9_0.length 4)), (10, .i i10_0)] [(9, .pure (out9_0.flatMap GValue.cs))] rfl rfl rfl ?_
     refine AW2_skip ?_
     refine AW2_seq ?_
     refine AW2_block ?_
     refine sg [0, 1] rfl ?_
     refine rp rfl rfl (p_move rfl rfl) ?_
     refine rp rfl rfl (p_asg rfl rfl) ?_
     refine rz [(1, .i n1), (2, .i down2), (8, .t s8_0), (9, .c (.own 9 out9_0.length 4)), (10, .i i10_0), (11, .t s8_0)] [(9, .pure (out9_0.flatMap GValue.cs))] rfl rfl rfl ?_
     refine AW2_seq ?_
     refine bindK H fun j'1 h4 H => ?_
     refine AW2_mid (⟨[(1, .i n1), (2, .i down2), (8, .t s8_0), (9, .c (.own 9 out9_0.length 4)), (10, .i i10_0), (11, .t j'1)], [(9, .pure (out9_0.flatMap GValue.cs))], 53⟩ : TS) ?_ ?_
     ·clear H
      have H := h4
      clear h4
      refine sg [0, 1, 2] rfl ?_
      refine rp rfl rfl (p_move rfl rfl) ?_
      refine rp rfl rfl (p_move rfl rfl) ?_
      refine bindK H fun r'2 h5 H => ?_
      refine rp rfl rfl (p_callp rfl rfl rfl Tryd.func51 rfl rfl (g_ref_downs_ac h5) ⟨rfl, rfl, trivial⟩) ?_
      refine rz [(1, .i n1), (2, .i down2), (8, .t s8_0), (9, .c (.own 9 out9_0.length 4)), (10, .i i10_0), (11, .t s8_0), (31, .b r'2)] [(9, .pure (out9_0.flatMap GValue.cs))] rfl rfl rfl ?_
      refine AW2_cond rfl (fun h6 => ?_) (fun h6 => ?_)
      ·replace H := ite_then h6 H
       refine AW2_reg [0, 1, 2] rfl ?_
       refine rp rfl rfl (p_move rfl rfl) ?_
       refine bindK H fun r'3 h7 H => ?_
       refine rp rfl rfl (p_callp rfl rfl rfl Tryd.func52 rfl rfl (g_ref_flipped_ac h7) ⟨rfl, trivial⟩) ?_
       refine rp rfl rfl (p_asg rfl rfl) ?_
       refine rz [(1, .i n1), (2, .i down2), (8, .t s8_0), (9, .c (.own 9 out9_0.length 4)), (10, .i i10_0), (11, .t r'3)] [(9, .pure (out9_0.flatMap GValue.cs))] rfl rfl rfl ?_
       have hz := some_elim H
       subst hz
       exact rfl
      ·replace H := ite_else (ne_true h6) H
       refine as2 [(1, .i n1), (2, .i down2), (8, .t s8_0), (9, .c (.own 9 out9_0.length 4)), (10, .i i10_0), (11, .t s8_0)] [(9, .pure (out9_0.flatMap GValue.cs))] rfl rfl rfl ?_
       refine AW2_skip ?_
       have hz := some_elim H
       subst hz
       exact rfl
     ·refine sg [0, 1, 2, 3, 4, 5, 6, 7, 8, 9] rfl ?_
      refine rp rfl rfl (p_move rfl rfl) ?_
      refine bindK H fun r'4 h8 H => ?_
      refine rp rfl rfl (p_callp rfl rfl rfl Tryd.func55 rfl rfl (g_ref_valueOf_ac h8) ⟨rfl, trivial⟩) ?_
      refine rp rfl rfl (p_move rfl rfl) ?_
      refine rp rfl rfl (p_ext rfl rfl rfl rfl) ?_
      refine rp rfl rfl (p_ext rfl rfl rfl rfl) ?_
      refine rp rfl rfl (p_ext rfl rfl rfl rfl) ?_
      refine r_op rfl rfl (MakeD.opD (u_alloc 12 rfl in_24 one_24 zc_24) rfl rfl rfl rfl) ?_
      refine r_op rfl rfl (u_st rfl rfl rfl rfl rfl in_24 (GValue.len r'4.1) (ne_of_lt (n := 0) (Nat.lt_of_lt_of_eq (by decide) (Eq.symm (GValue.len GValue.zero)))) (Upd.refl ((GValue.len r'4.1).trans (GValue.len GValue.zero).symm))) ?_
      refine rp rfl rfl (p_asg rfl rfl) ?_
      refine rp rfl rfl (p_asg rfl rfl) ?_
      refine rz [(1, .i n1), (2, .i down2), (8, .t s8_0), (9, .c (.own 9 out9_0.length 4)), (10, .i i10_0), (12, .q 12 (0)), (13, .i r'4.2.1), (14, .i r'4.2.2)] [(9, .pure (out9_0.flatMap GValue.cs)), (12, .pure (GValue.cs r'4.1))] rfl rfl rfl ?_
      refine AW2_seq ?_
      refine sg [0, 1] rfl ?_
      refine rp rfl rfl (p_move rfl rfl) ?_
      refine rp rfl rfl (p_ine rfl rfl rfl) ?_
      refine rz [(1, .i n1), (2, .i down2), (8, .t s8_0), (9, .c (.own 9 out9_0.length 4)), (10, .i i10_0), (12, .q 12 (0)), (13, .i r'4.2.1), (14, .i r'4.2.2), (41, .b (decide (r'4.2.2 ≠ (0 : Int))))] [(9, .pure (out9_0.flatMap GValue.cs)), (12, .pure (GValue.cs r'4.1))] rfl rfl rfl ?_
      refine AW2_if (p := r'4.2.2 ≠ (0 : Int)) rfl (fun h9 => ?_) (fun h9 => ?_)
      ·replace H := ite_then h9 H
       refine sg [0, 1, 2] rfl ?_
       refine rp rfl rfl (p_move rfl rfl) ?_
       refine rp rfl rfl (p_asgn rfl) ?_
       refine rp rfl rfl (p_asg rfl rfl) ?_
       refine rz [(6, .p .nil), (7, .i r'4.2.2)] [] rfl rfl rfl ?_
       refine as2 [(6, .p .nil), (7, .i r'4.2.2)] [] rfl rfl rfl ?_
       refine AW2_gho (Gho_own (d := 6) (b := 6) (z := 4) rfl rfl rfl rfl) ?_
       refine AW2_st [(6, .c (.own 6 ([] : List GValue).length 4)), (7, .i r'4.2.2)] [(6, .pure (([] : List GValue).flatMap GValue.cs))] rfl ⟨TLes.own rfl, TLes.same _, trivial⟩ ⟨rfl, trivial⟩ ?_
       refine AW2_ret ?_
       have hz := some_elim H
       subst hz
       exact ⟨rfl, ⟨res_tmp (.same _), res_tmp (.same _), trivial⟩, ⟨rfl, trivial⟩⟩
      ·replace H := ite_else h9 H
       refine as2 [(1, .i n1), (2, .i down2), (8, .t s8_0), (9, .c (.own 9 out9_0.length 4)), (10, .i i10_0), (12, .q 12 (0)), (13, .i r'4.2.1)] [(9, .pure (out9_0.flatMap GValue.cs)), (12, .pure (GValue.cs r'4.1))] rfl rfl rfl ?_
       refine AW2_skip ?_
       refine sg [0, 1, 2, 3, 4] rfl ?_
       refine rp rfl rfl (p_move rfl rfl) ?_
       refine rp rfl rfl (u_lda rfl rfl Tryd.underlying24 rfl in_24 rfl (Nat.succ_pos _) (Sub.refl _) (GValue.len r'4.1)) ?_
       refine r_op rfl rfl (MakeD.opD (u_bs 45 rfl Tryd.underlying32 in_24 rfl one_24 (by decide) (by decide) zc_24 rfl (af_lit (g := GValue.cs) (fun x => (GValue.len x)) (GValue.len GValue.zero) [r'4.1])) rfl rfl rfl rfl) ?_
       refine chkK H fun h10 H => ?_
       refine r_op rfl rfl (u_app [9, 43] rfl rfl rfl rfl Tryd.underlying32 Tryd.underlying32 in_24 rfl rfl rfl (fm_length (fun x => (GValue.len x)) out9_0) (by decide) (srcT_o rfl rfl (fm_length (fun x => (GValue.len x)) ([r'4.1] : List GValue)) (by decide)) (fm_length (fun x => (GValue.len x)) ([r'4.1] : List GValue)) h10 (by decide) rfl rfl (fapp GValue.cs out9_0 ([r'4.1] : List GValue)) (lapp out9_0 ([r'4.1] : List GValue))) ?_
       refine rp rfl rfl (p_asg rfl rfl) ?_
       refine rz [(1, .i n1), (2, .i down2), (8, .t s8_0), (9, .c (.own 9 (out9_0 ++ ([r'4.1] : List GValue)).length 4)), (10, .i i10_0), (13, .i r'4.2.1)] [(9, .pure ((out9_0 ++ ([r'4.1] : List GValue)).flatMap GValue.cs))] rfl rfl rfl ?_
       refine AW2_reg [0, 1, 2, 3] rfl ?_
       refine rp rfl rfl (p_move rfl rfl) ?_
       refine rp rfl rfl (p_move rfl rfl) ?_
       refine chkK H fun h11 H => ?_
       refine rp rfl rfl (u_cutt (a := r'4.2.1) (b := (s8_0.length : Int)) rfl Tryd.underlying9 rfl (bT_i (show 0 ≤ r'4.2.1 ∧ r'4.2.1 ≤ (s8_0.length : Int) ∧ (s8_0.length : Int) ≤ (s8_0.length : Int) from ⟨h11.1, h11.2, Int.le_refl _⟩).1 rfl) (bT_len _) (show 0 ≤ r'4.2.1 ∧ r'4.2.1 ≤ (s8_0.length : Int) ∧ (s8_0.length : Int) ≤ (s8_0.length : Int) from ⟨h11.1, h11.2, Int.le_refl _⟩)) ?_
       refine rp rfl rfl (p_asg rfl rfl) ?_
       refine rz [(1, .i n1), (2, .i down2), (8, .t (cut s8_0 r'4.2.1 (s8_0.length : Int))), (9, .c (.own 9 (out9_0 ++ ([r'4.1] : List GValue)).length 4)), (10, .i i10_0)] [(9, .pure ((out9_0 ++ ([r'4.1] : List GValue)).flatMap GValue.cs))] rfl rfl rfl ?_
       refine AW2_reg [0, 1, 2] rfl ?_
       refine rp rfl rfl (p_move rfl rfl) ?_
       refine rp rfl rfl (p_bin rfl rfl rfl rfl) ?_
       refine rp rfl rfl (p_asg rfl rfl) ?_
       refine rz [(1, .i n1), (2, .i down2), (8, .t (cut s8_0 r'4.2.1 (s8_0.length : Int))), (9, .c (.own 9 (out9_0 ++ ([r'4.1] : List GValue)).length 4)), (10, .i (w64 (i10_0 + (1 : Int))))] [(9, .pure ((out9_0 ++ ([r'4.1] : List GValue)).flatMap GValue.cs))] rfl rfl rfl ?_
       have hz := some_elim H
       subst hz
       exact ⟨rfl, rfl⟩
    ·replace H := ite_else h3 H
     refine as2 [(8, .t s8_0), (9, .c (.own 9 out9_0.length 4))] [(9, .pure (out9_0.flatMap GValue.cs))] rfl rfl rfl ?_
     refine AW2_exit ?_
     refine thenQ2_exit ?_
     have hz := some_elim H
     subst hz
     exact ⟨rfl, rfl⟩
   ·rcases o'8 with y'9 | y'10
    ·obtain ⟨rfl, hs⟩ := hs
     refine ⟨by simp, ?_⟩
     have hz := some_elim H
     subst hz
     exact ⟨hs.1, hs.2⟩
    ·obtain ⟨rfl, rfl⟩ := hs
     refine ⟨by simp, ?_⟩
     refine blockQ2_exit ?_
     refine AW2_seq ?_
     refine sg [0, 1] rfl ?_
     refine rp rfl rfl (p_move rfl rfl) ?_
     refine rp rfl rfl (p_sne rfl rfl rfl) ?_
     refine rz [(9, .c (.own 9 y'10.2.length 4)), (51, .b (decide (y'10.1 ≠ [])))] [(9, .pure (y'10.2.flatMap GValue.cs))] rfl rfl rfl ?_
     refine AW2_if (p := y'10.1 ≠ []) rfl (fun h13 => ?_) (fun h13 => ?_)
     ·replace H := ite_then h13 H
      refine sg [0, 1] rfl ?_
      refine rp rfl rfl (p_asgn rfl) ?_
      refine rp rfl rfl (p_asg rfl rfl) ?_
      refine rz [(6, .p .nil), (7, .i (3 : Int))] [] rfl rfl rfl ?_
      refine as2 [(6, .p .nil), (7, .i (3 : Int))] [] rfl rfl rfl ?_
      refine AW2_gho (Gho_own (d := 6) (b := 6) (z := 4) rfl rfl rfl rfl) ?_
      refine AW2_st [(6, .c (.own 6 ([] : List GValue).length 4)), (7, .i (3 : Int))] [(6, .pure (([] : List GValue).flatMap GValue.cs))] rfl ⟨TLes.own rfl, TLes.same _, trivial⟩ ⟨rfl, trivial⟩ ?_
      refine AW2_ret ?_
      have hz := some_elim H
      subst hz
      exact ⟨⟨res_tmp (.same _), res_tmp (.same _), trivial⟩, ⟨rfl, trivial⟩⟩
     ·replace H := ite_else h13 H
      refine as2 [(9, .c (.own 9 y'10.2.length 4))] [(9, .pure (y'10.2.flatMap GValue.cs))] rfl rfl rfl ?_
      refine AW2_skip ?_
      refine sg [0, 1, 2] rfl ?_
      refine rp rfl rfl (p_move rfl rfl) ?_
      refine rp rfl rfl (p_asg rfl rfl) ?_
      refine rp rfl rfl (p_asg rfl rfl) ?_
      refine rs [(6, .c (.own 9 y'10.2.length 4)), (7, .i (0 : Int))] [(9, .pure (y'10.2.flatMap GValue.cs))] rfl rfl rfl ?_
      refine RunW_gho (Gho_ren 9 6 rfl rfl rfl rfl rfl) ?_
      refine rz [(6, .c (.own 6 y'10.2.length 4)), (7, .i (0 : Int))] [(6, .pure (y'10.2.flatMap GValue.cs))] rfl rfl rfl ?_
      refine as2 [(6, .c (.own 6 y'10.2.length 4)), (7, .i (0 : Int))] [(6, .pure (y'10.2.flatMap GValue.cs))] rfl rfl rfl ?_
      refine AW2_ret ?_
      have hz := some_elim H
      subst hz
      exact ⟨⟨res_tmp (.same _), res_tmp (.same _), trivial⟩, ⟨rfl, trivial⟩⟩
theorem g_ref_RowOf_ac {b0 : List UInt8} {n1 : Int} {down2 : Int} {r : (List GValue) × Int} (H : g_ref_RowOf b0 n1 down2 = some r) : ACp Tryd.prog 25 [(AV.bytes b0), (AV.int n1), (AV.int down2)] (.tup [((fun q : List GValue => AV.lst (q.flatMap GValue.cs) q.length) r.1), (AV.int r.2)]) := ACp_pub (g_ref_RowOf_ac2 H) (fun _ _ hm => lent_tup ⟨lent_own hm rfl (fm_length (fun x => (GValue.len x)) r.1) (by decide), .same _, trivial⟩)

/-! chirographref.ReplyOf -/
def g_ref_ReplyOf_r6 : List (List (Nat × Option Nat)) := [[(4, none)], [(30, some 0)], [(31, some 1)], [(4, none)], [(33, some 3)], [(34, some 4)], [(32, some 2), (35, some 5)], []]
def g_ref_ReplyOf_r6c : List (List Nat) := [[], [0], [0, 1], [], [3], [3, 4], [0, 1, 2, 3, 4, 5], [], [0, 1, 2, 3, 4, 5, 6, 7]]
def g_ref_ReplyOf_r16 : List (List (Nat × Option Nat)) := [[(4, none)], [(7, none)], [(62, some 1)], [(61, some 0), (63, some 2)], [(64, some 3)], [(4, none)], [(66, some 5)], [(67, some 6)], [(65, some 4), (68, some 7)], [(69, some 8)], [(60, some 9)], [(60, some 9)], [(70, some 10)]]
def g_ref_ReplyOf_r16c : List (List Nat) := [[], [], [1], [0, 1, 2], [0, 1, 2, 3], [], [5], [5, 6], [0, 1, 2, 3, 4, 5, 6, 7], [0, 1, 2, 3, 4, 5, 6, 7, 8], [0, 1, 2, 3, 4, 5, 6, 7, 8, 9], [0, 1, 2, 3, 4, 5, 6, 7, 8, 9], [0, 1, 2, 3, 4, 5, 6, 7, 8, 9, 10], [0, 1, 2, 3, 4, 5, 6, 7, 8, 9, 10, 11, 12]]
noncomputable def g_ref_ReplyOf_l0 : (List UInt8) × Int × (List (List GValue)) → Option (((List UInt8) × Int × (List (List GValue))) ⊕ ((GReply × Int) ⊕ ((List UInt8) × (List (List GValue)))))
  | (s4_0, left6_0, t1000_0) => (if left6_0 > (0 : Int) then (if (s4_0.length : Int) < (3 : Int) then some (.inr (.inl (GReply.zero, (4 : Int)))) else if 0 ≤ (1 : Int) ∧ (1 : Int) ≤ (3 : Int) ∧ (3 : Int) ≤ (s4_0.length : Int) then (g_ref_number (cut s4_0 (1 : Int) (3 : Int))).bind fun r'2 => (if (s4_0.length : Int) < w64 ((3 : Int) + (w64 (r'2.toNat : Int))) then some (.inr (.inl (GReply.zero, (4 : Int)))) else if 0 ≤ (3 : Int) ∧ (3 : Int) ≤ w64 ((3 : Int) + (w64 (r'2.toNat : Int))) ∧ w64 ((3 : Int) + (w64 (r'2.toNat : Int))) ≤ (s4_0.length : Int) then if 0 < s4_0.length then (g_ref_RowOf (cut s4_0 (3 : Int) (w64 ((3 : Int) + (w64 (r'2.toNat : Int))))) ((lrd s4_0 0).toNat : Int) (0 : Int)).bind fun r'3 => (if r'3.2 ≠ (0 : Int) then some (.inr (.inl (GReply.zero, r'3.2))) else if room (t1000_0.length + ([r'3.1] : List (List GValue)).length) 24 then if 0 ≤ w64 ((3 : Int) + (w64 (r'2.toNat : Int))) ∧ w64 ((3 : Int) + (w64 (r'2.toNat : Int))) ≤ (s4_0.length : Int) then letO ((cut s4_0 (w64 ((3 : Int) + (w64 (r'2.toNat : Int)))) (s4_0.length : Int))) fun s4'4 => some (.inl (s4'4, w64 (left6_0 - (1 : Int)), t1000_0 ++ ([r'3.1] : List (List GValue)))) else none else none) else none else none) else none) else some (.inr (.inr (s4_0, t1000_0))))
noncomputable def g_ref_ReplyOf (b0 : List UInt8) : Option (GReply × Int) :=
  (if (b0.length : Int) < (3 : Int) then some (GReply.zero, (4 : Int)) else (if 0 < b0.length then (if (12 : UInt8) < (lrd b0 0) then some true else if 1 < b0.length then (if (64 : UInt8) < (lrd b0 1) then some true else if 2 < b0.length then some (decide ((64 : UInt8) < (lrd b0 2))) else none) else none) else none).bind fun g'1 => (if g'1 = true then some (GReply.zero, (6 : Int)) else if 0 < b0.length then if 1 < b0.length then if 2 < b0.length then if 0 ≤ (3 : Int) ∧ (3 : Int) ≤ (b0.length : Int) then (loopO (g_ref_ReplyOf_l0) ((cut b0 (3 : Int) (b0.length : Int)), ((lrd b0 2).toNat : Int), ([] : List (List GValue)))).bind fun o'8 => match o'8 with | .inl y'9 => some y'9 | .inr (y'10) => (if y'10.1 ≠ [] then some (GReply.zero, (3 : Int)) else letO (({ Error := ((lrd b0 0).toNat : Int), Count := ((lrd b0 1).toNat : Int), Rows := y'10.2 } : GReply)) fun t2'11 => some (t2'11, (0 : Int))) else none else none else none else none))
set_option maxHeartbeats 4000000 in
set_option maxRecDepth 100000 in
theorem g_ref_ReplyOf_ac {b0 : List UInt8} {r : GReply × Int} (H : g_ref_ReplyOf b0 = some r) : ACp Tryd.prog 30 [(AV.bytes b0)] (.tup [(.agg (GReply.cs r.1)), (AV.int r.2)]) := by
 refine ACp_of (AC2_of_body (vs := [.g (GReply.cs r.1), .i r.2]) Tryd.func30 rfl rfl (Nat.le_of_ble_eq_true rfl) rfl ?_) (fun _ => .same _)
 unfold g_ref_ReplyOf at H
 refine as2 [(0, .y b0)] [] rfl rfl rfl ?_
 refine sg [0, 1] rfl ?_
 refine r_op rfl rfl (MakeD.opD (u_alloc 2 rfl in_44 one_44 zc_44) rfl rfl rfl rfl) ?_
 refine rp rfl rfl (p_asg rfl rfl) ?_
 refine rz [(0, .y b0), (2, .q 2 (0))] [(2, .pure (GReply.cs GReply.zero))] rfl rfl rfl ?_
 refine sg [0, 1, 2] rfl ?_
 refine rp rfl rfl (p_move rfl rfl) ?_
 refine rp rfl rfl (p_cb rfl rfl Tryd.underlying33 Tryd.underlying5 Tryd.underlying9 rfl) ?_
 refine rp rfl rfl (p_asg rfl rfl) ?_
 refine rz [(2, .q 2 (0)), (4, .t b0)] [(2, .pure (GReply.cs GReply.zero))] rfl rfl rfl ?_
 refine AW2_seq ?_
 refine sg [0, 1, 2] rfl ?_
 refine rp rfl rfl (p_move rfl rfl) ?_
 refine rp rfl rfl (p_lent rfl Tryd.underlying9 rfl) ?_
 refine rp rfl rfl (p_bin rfl rfl rfl rfl) ?_
 refine rz [(2, .q 2 (0)), (4, .t b0), (14, .b (decide ((b0.length : Int) < (3 : Int))))] [(2, .pure (GReply.cs GReply.zero))] rfl rfl rfl ?_
 refine AW2_if (p := (b0.length : Int) < (3 : Int)) rfl (fun h1 => ?_) (fun h1 => ?_)
 ·replace H := ite_then h1 H
  refine sg [0, 1, 2] rfl ?_
  refine rp rfl rfl (u_bld rfl in_44 one_44 zc_44 pl_44 rfl rfl) ?_
  refine r_op rfl rfl (u_st rfl rfl rfl rfl rfl in_44 (GReply.len GReply.zero) (ne_of_lt (n := 0) (Nat.lt_of_lt_of_eq (by decide) (Eq.symm (GReply.len GReply.zero)))) (Upd.refl ((GReply.len GReply.zero).trans (GReply.len GReply.zero).symm))) ?_
  refine rp rfl rfl (p_asg rfl rfl) ?_
  refine rz [(2, .q 2 (0)), (3, .i (4 : Int))] [(2, .pure (GReply.cs GReply.zero))] rfl rfl rfl ?_
  refine AW2_ret ?_
  have hz := some_elim H
  subst hz
  exact ⟨⟨res_cella Tryd.underlying44 rfl in_44.sz rfl (Sub.le (Sub.refl _) (GReply.len GReply.zero)) (by decide) (Sub.take (Sub.refl _) (GReply.len GReply.zero)), res_tmp (.same _), trivial⟩, trivial⟩
 ·replace H := ite_else h1 H
  refine as2 [(2, .q 2 (0)), (4, .t b0)] [(2, .pure (GReply.cs GReply.zero))] rfl rfl rfl ?_
  refine AW2_skip ?_
  refine AW2_seq ?_
  refine AW2_seq ?_
  refine bindK H fun g'1 h9 H => ?_
  refine AW2_mid (⟨[(2, .q 2 (0)), (4, .t b0), (28, .b g'1)], [(2, .pure (GReply.cs GReply.zero))], 90⟩ : TS) ?_ ?_
  ·clear H
   have H := h9
   clear h9
   refine AW2_reg [0, 1, 2, 3, 4, 5, 6, 7, 8, 9, 10, 11, 12] rfl ?_
   refine rp rfl rfl (p_move rfl rfl) ?_
   refine chkK H fun h4 H => ?_
   refine rp rfl rfl (p_ixt rfl Tryd.underlying9 rfl rfl rfl (lrd_get h4)) ?_
   refine rp rfl rfl (p_u8gt (a := (lrd b0 0)) (b := (12 : UInt8)) rfl rfl rfl) ?_
   refine rp rfl rfl (p_move rfl rfl) ?_
   refine (Classical.em ((12 : UInt8) < (lrd b0 0))).elim (fun h5 => ?_) (fun h5 => ?_)
   ·replace H := ite_then h5 H
    iterate 3 (refine r_off rfl rfl rfl rfl (decide_eq_true h5) rfl rfl ?_)
    refine rp rfl rfl (p_pkt rfl rfl (decide_eq_true h5) (.same _)) ?_
    refine rp rfl rfl (p_move rfl rfl) ?_
    iterate 3 (refine r_off rfl rfl rfl rfl rfl rfl rfl ?_)
    refine rp rfl rfl (p_pkt rfl rfl rfl (.same _)) ?_
    refine rs [(2, .q 2 (0)), (4, .t b0), (28, .b true)] [(2, .pure (GReply.cs GReply.zero))] rfl rfl rfl ?_
    have hz := some_elim H
    subst hz
    exact RunW_nil rfl
   ·replace H := ite_else h5 H
    refine r_on rfl rfl rfl rfl (decide_eq_false h5) rfl (PureD.opD (p_move rfl rfl)) ?_
    refine chkK H fun h6 H => ?_
    refine r_on rfl rfl rfl rfl (decide_eq_false h5) rfl (PureD.opD (p_ixt rfl Tryd.underlying9 rfl rfl rfl (lrd_get h6))) ?_
    refine r_on rfl rfl rfl rfl (decide_eq_false h5) rfl (PureD.opD (p_u8gt (a := (lrd b0 1)) (b := (64 : UInt8)) rfl rfl rfl)) ?_
    refine rp rfl rfl (p_pkf rfl rfl (decide_eq_false h5) (.same _)) ?_
    refine rp rfl rfl (p_move rfl rfl) ?_
    refine (Classical.em ((64 : UInt8) < (lrd b0 1))).elim (fun h7 => ?_) (fun h7 => ?_)
    ·replace H := ite_then h7 H
     iterate 3 (refine r_off rfl rfl rfl rfl (decide_eq_true h7) rfl rfl ?_)
     refine rp rfl rfl (p_pkt rfl rfl (decide_eq_true h7) (.same _)) ?_
     refine rs [(2, .q 2 (0)), (4, .t b0), (28, .b true)] [(2, .pure (GReply.cs GReply.zero))] rfl rfl rfl ?_
     have hz := some_elim H
     subst hz
     exact RunW_nil rfl
    ·replace H := ite_else h7 H
     refine r_on rfl rfl rfl rfl (decide_eq_false h7) rfl (PureD.opD (p_move rfl rfl)) ?_
     refine chkK H fun h8 H => ?_
     refine r_on rfl rfl rfl rfl (decide_eq_false h7) rfl (PureD.opD (p_ixt rfl Tryd.underlying9 rfl rfl rfl (lrd_get h8))) ?_
     refine r_on rfl rfl rfl rfl (decide_eq_false h7) rfl (PureD.opD (p_u8gt (a := (lrd b0 2)) (b := (64 : UInt8)) rfl rfl rfl)) ?_
     refine rp rfl rfl (p_pkf rfl rfl (decide_eq_false h7) (.same _)) ?_
     refine rs [(2, .q 2 (0)), (4, .t b0), (28, .b (decide ((64 : UInt8) < (lrd b0 2))))] [(2, .pure (GReply.cs GReply.zero))] rfl rfl rfl ?_
     have hz := some_elim H
     subst hz
     exact RunW_nil rfl
  ·refine AW2_cond rfl (fun h10 => ?_) (fun h10 => ?_)
   ·replace H := ite_then h10 H
    refine sg [0, 1, 2] rfl ?_
    refine rp rfl rfl (u_bld rfl in_44 one_44 zc_44 pl_44 rfl rfl) ?_
    refine r_op rfl rfl (u_st rfl rfl rfl rfl rfl in_44 (GReply.len GReply.zero) (ne_of_lt (n := 0) (Nat.lt_of_lt_of_eq (by decide) (Eq.symm (GReply.len GReply.zero)))) (Upd.refl ((GReply.len GReply.zero).trans (GReply.len GReply.zero).symm))) ?_
    refine rp rfl rfl (p_asg rfl rfl) ?_
    refine rz [(2, .q 2 (0)), (3, .i (6 : Int))] [(2, .pure (GReply.cs GReply.zero))] rfl rfl rfl ?_
    refine AW2_ret ?_
    have hz := some_elim H
    subst hz
    exact ⟨⟨res_cella Tryd.underlying44 rfl in_44.sz rfl (Sub.le (Sub.refl _) (GReply.len GReply.zero)) (by decide) (Sub.take (Sub.refl _) (GReply.len GReply.zero)), res_tmp (.same _), trivial⟩, trivial⟩
   ·replace H := ite_else (ne_true h10) H
    refine as2 [(2, .q 2 (0)), (4, .t b0)] [(2, .pure (GReply.cs GReply.zero))] rfl rfl rfl ?_
    refine AW2_skip ?_
    refine AW2_seq ?_
    refine chkK H fun h11 H => ?_
    refine chkK H fun h12 H => ?_
    refine AW2_ghoQ ?_
    refine AW2_draw 8 [8] (fun k => ([.t b0, .p (AV.b8 (lrd b0 0)), .i ((lrd b0 0).toNat : Int), .t b0, .p (AV.b8 (lrd b0 1)), .i ((lrd b0 1).toNat : Int), .agg [.p ((AV.int ((lrd b0 0).toNat : Int))), .p ((AV.int ((lrd b0 1).toNat : Int))), .p .nil], .q 5 (0)] : List TV).getD k TV.any) (fun k => g_ref_ReplyOf_r6.getD k []) [(2, none), (4, none), (5, some 7), (36, some 6)] [(7, 5, (GReply.cs GReply.zero))] (fun k => g_ref_ReplyOf_r6c.getD k []) mixed (by kernel_rfl) rfl rfl (a_op (g_x rfl (x_p rfl (p_move rfl rfl) rfl)) (a_op (g_x rfl (x_p rfl (p_ixt rfl Tryd.underlying9 rfl rfl rfl (lrd_get h11)) rfl)) (a_op (g_x rfl (x_p rfl (p_ci rfl Tryd.underlying5 Tryd.underlying25 rfl (wrapu8i (lrd b0 0))) rfl)) (a_op (g_x rfl (x_p rfl (p_move rfl rfl) rfl)) (a_op (g_x rfl (x_p rfl (p_ixt rfl Tryd.underlying9 rfl rfl rfl (lrd_get h12)) rfl)) (a_op (g_x rfl (x_p rfl (p_ci rfl Tryd.underlying5 Tryd.underlying3 rfl (wrapu8i (lrd b0 1))) rfl)) (a_op (g_x rfl (x_p rfl (u_bldmn (ps := [(0, [.p ((AV.int ((lrd b0 0).toNat : Int)))]), (1, [.p ((AV.int ((lrd b0 1).toNat : Int)))])]) (cs := [.p ((AV.int ((lrd b0 0).toNat : Int))), .p ((AV.int ((lrd b0 1).toNat : Int))), .p .nil]) rfl in_44 one_44 rfl pl_44 rfl (fun _ => rfl)) rfl)) (a_op (g_x rfl (x_m rfl (u_alloc 5 rfl in_44 one_44 zc_44) rfl rfl)) (a_nil))))))))) ?_
    refine t_op rfl rfl (OpD_gho (Gho_owna (d := 36) (b := 1000) (z := 1) (i := 2) rfl rfl rfl rfl rfl rfl) (OpD_gho (Gho_st (L := [(2, .q 2 (0)), (4, .t b0), (5, .q 5 (0)), (36, .agg [.p ((AV.int ((lrd b0 0).toNat : Int))), .p ((AV.int ((lrd b0 1).toNat : Int))), .own 1000 0 1])]) (H := [(2, .pure (GReply.cs GReply.zero)), (5, .pure (GReply.cs GReply.zero)), (1000, .pure (([] : List (List GValue)).map (fun q : List GValue => AV.lst (q.flatMap GValue.cs) q.length)))]) (N := 90) rfl ⟨TLes.same _, TLes.same _, TLes.same _, TLes.same _, trivial⟩ ⟨rfl, rfl, rfl, trivial⟩) (d_stm (o := [.p ((AV.int GReply.zero.Error)), .p ((AV.int GReply.zero.Count)), .p (((fun q : List (List GValue) => AV.lst (q.map (fun q : List GValue => AV.lst (q.flatMap GValue.cs) q.length)) q.length) GReply.zero.Rows))]) (xs := [.p ((AV.int ((lrd b0 0).toNat : Int))), .p ((AV.int ((lrd b0 1).toNat : Int))), .own 1000 0 1]) (o' := [.p ((AV.int ((lrd b0 0).toNat : Int))), .p ((AV.int ((lrd b0 1).toNat : Int))), .own 1000 0 1]) rfl rfl rfl rfl (fun _ => rfl) rfl (in_44).sz (Nat.le_of_ble_eq_true rfl) (List.cons_ne_nil _ _) (fun _ => rfl)))) ?_
    refine t_gho (Gho_st (L := [(2, .q 2 (0)), (4, .t b0), (5, .q 5 (0))]) (H := [(2, .pure (GReply.cs GReply.zero)), (5, .mix [.p ((AV.int ((lrd b0 0).toNat : Int))), .p ((AV.int ((lrd b0 1).toNat : Int))), .own 1000 ([] : List (List GValue)).length 1]), (1000, .pure (([] : List (List GValue)).map (fun q : List GValue => AV.lst (q.flatMap GValue.cs) q.length)))]) (N := 90) rfl ⟨TLes.same _, TLes.same _, TLes.same _, trivial⟩ ⟨rfl, (congrArg (fun n'' => some (Blk.mix [.p ((AV.int ((lrd b0 0).toNat : Int))), .p ((AV.int ((lrd b0 1).toNat : Int))), .own 1000 n'' 1])) rfl), rfl, trivial⟩) ?_
    refine sg [0, 1, 2, 3] rfl ?_
    refine rp rfl rfl (p_move rfl rfl) ?_
    refine chkK H fun h13 H => ?_
    refine rp rfl rfl (p_ixt rfl Tryd.underlying9 rfl rfl rfl (lrd_get h13)) ?_
    refine rp rfl rfl (p_ci rfl Tryd.underlying5 Tryd.underlying3 rfl (wrapu8i (lrd b0 2))) ?_
    refine rp rfl rfl (p_asg rfl rfl) ?_
    refine rz [(2, .q 2 (0)), (4, .t b0), (5, .q 5 (0)), (6, .i ((lrd b0 2).toNat : Int))] [(2, .pure (GReply.cs GReply.zero)), (5, .mix [.p ((AV.int ((lrd b0 0).toNat : Int))), .p ((AV.int ((lrd b0 1).toNat : Int))), .own 1000 ([] : List (List GValue)).length 1]), (1000, .pure (([] : List (List GValue)).map (fun q : List GValue => AV.lst (q.flatMap GValue.cs) q.length)))] rfl rfl rfl ?_
    refine sg [0, 1, 2] rfl ?_
    refine rp rfl rfl (p_move rfl rfl) ?_
    refine chkK H fun h14 H => ?_
    refine rp rfl rfl (u_cutt (a := (3 : Int)) (b := (b0.length : Int)) rfl Tryd.underlying9 rfl (bT_i (show 0 ≤ (3 : Int) ∧ (3 : Int) ≤ (b0.length : Int) ∧ (b0.length : Int) ≤ (b0.length : Int) from ⟨h14.1, h14.2, Int.le_refl _⟩).1 rfl) (bT_len _) (show 0 ≤ (3 : Int) ∧ (3 : Int) ≤ (b0.length : Int) ∧ (b0.length : Int) ≤ (b0.length : Int) from ⟨h14.1, h14.2, Int.le_refl _⟩)) ?_
    refine rp rfl rfl (p_asg rfl rfl) ?_
    refine rz [(2, .q 2 (0)), (4, .t (cut b0 (3 : Int) (b0.length : Int))), (5, .q 5 (0)), (6, .i ((lrd b0 2).toNat : Int))] [(2, .pure (GReply.cs GReply.zero)), (5, .mix [.p ((AV.int ((lrd b0 0).toNat : Int))), .p ((AV.int ((lrd b0 1).toNat : Int))), .own 1000 ([] : List (List GValue)).length 1]), (1000, .pure (([] : List (List GValue)).map (fun q : List GValue => AV.lst (q.flatMap GValue.cs) q.length)))] rfl rfl rfl ?_
    refine AW2_seq ?_
    refine AW2_block ?_
    refine as2 [(2, .q 2 (0)), (4, .t (cut b0 (3 : Int) (b0.length : Int))), (5, .q 5 (0)), (6, .i ((lrd b0 2).toNat : Int))] [(2, .pure (GReply.cs GReply.zero)), (5, .mix [.p ((AV.int ((lrd b0 0).toNat : Int))), .p ((AV.int ((lrd b0 1).toNat : Int))), .own 1000 ([] : List (List GValue)).length 1]), (1000, .pure (([] : List (List GValue)).map (fun q : List GValue => AV.lst (q.flatMap GValue.cs) q.length)))] rfl rfl rfl ?_
    refine bindK H fun o'8 h26 H => ?_
    refine AW2_loopO (fun a'5 : (List UInt8) × Int × (List (List GValue)) => (⟨[(2, .q 2 (0)), (4, .t a'5.1), (5, .q 5 (0)), (6, .i a'5.2.1)], [(2, .pure (GReply.cs GReply.zero)), (5, .mix [.p ((AV.int ((lrd b0 0).toNat : Int))), .p ((AV.int ((lrd b0 1).toNat : Int))), .own 1000 a'5.2.2.length 1]), (1000, .pure (a'5.2.2.map (fun q : List GValue => AV.lst (q.flatMap GValue.cs) q.length)))], 90⟩ : TS)) (fun (o : (GReply × Int) ⊕ ((List UInt8) × (List (List GValue)))) e s' => match o with | .inl y'6 => e = Go.Exit.ret ∧ ResAll Tryd.prog s' [ResultVar.cell 2 44, ResultVar.tmp 3] [.g (GReply.cs y'6.1), .i y'6.2] ∧ HFits s' [] | .inr (y'7) => e = Go.Exit.exit 0 ∧ s' = (⟨[(2, .q 2 (0)), (4, .t y'7.1), (5, .q 5 (0))], [(2, .pure (GReply.cs GReply.zero)), (5, .mix [.p ((AV.int ((lrd b0 0).toNat : Int))), .p ((AV.int ((lrd b0 1).toNat : Int))), .own 1000 y'7.2.length 1]), (1000, .pure (y'7.2.map (fun q : List GValue => AV.lst (q.flatMap GValue.cs) q.length)))], 90⟩ : TS)) h26 rfl (fun a x hx => ?_) (fun e s' hs => ?_)
    ·clear H
     obtain ⟨s4_0, left6_0, t1000_0⟩ := a
     have H := hx
     clear hx
     unfold g_ref_ReplyOf_l0 at H
     refine AW2_seq ?_
     refine sg [0, 1] rfl ?_
     refine rp rfl rfl (p_move rfl rfl) ?_
     refine rp rfl rfl (p_bin rfl rfl rfl rfl) ?_
     refine rz [(2, .q 2 (0)), (4, .t s4_0), (5, .q 5 (0)), (6, .i left6_0), (43, .b (decide (left6_0 > (0 : Int))))] [(2, .pure (GReply.cs GReply.zero)), (5, .mix [.p ((AV.int ((lrd b0 0).toNat : Int))), .p ((AV.int ((lrd b0 1).toNat : Int))), .own 1000 t1000_0.length 1]), (1000, .pure (t1000_0.map (fun q : List GValue => AV.lst (q.flatMap GValue.cs) q.length)))] rfl rfl rfl ?_
     refine AW2_if (p := left6_0 > (0 : Int)) rfl (fun h15 => ?_) (fun h15 => ?_)
     ·replace H := ite_then h15 H
      refine as2 [(2, .q 2 (0)), (4, .t s4_0), (5, .q 5 (0)), (6, .i left6_0)] [(2, .pure (GReply.cs GReply.zero)), (5, .mix [.p ((AV.int ((lrd b0 0).toNat : Int))), .p ((AV.int ((lrd b0 1).toNat : Int))), .own 1000 t1000_0.length 1]), (1000, .pure (t1000_0.map (fun q : List GValue => AV.lst (q.flatMap GValue.cs) q.length)))] rfl rfl rfl ?_
      refine AW2_skip ?_
      refine AW2_seq ?_
      refine AW2_block ?_
      refine AW2_seq ?_
      refine sg [0, 1, 2] rfl ?_
      refine rp rfl rfl (p_move rfl rfl) ?_
      refine rp rfl rfl (p_lent rfl Tryd.underlying9 rfl) ?_
      refine rp rfl rfl (p_bin rfl rfl rfl rfl) ?_
      refine rz [(2, .q 2 (0)), (4, .t s4_0), (5, .q 5 (0)), (6, .i left6_0), (48, .b (decide ((s4_0.length : Int) < (3 : Int))))] [(2, .pure (GReply.cs GReply.zero)), (5, .mix [.p ((AV.int ((lrd b0 0).toNat : Int))), .p ((AV.int ((lrd b0 1).toNat : Int))), .own 1000 t1000_0.length 1]), (1000, .pure (t1000_0.map (fun q : List GValue => AV.lst (q.flatMap GValue.cs) q.length)))] rfl rfl rfl ?_
      refine AW2_if (p := (s4_0.length : Int) < (3 : Int)) rfl (fun h16 => ?_) (fun h16 => ?_)
      ·replace H := ite_then h16 H
       refine sg [0, 1, 2] rfl ?_
       refine rp rfl rfl (u_bld rfl in_44 one_44 zc_44 pl_44 rfl rfl) ?_
       refine r_op rfl rfl (u_st rfl rfl rfl rfl rfl in_44 (GReply.len GReply.zero) (ne_of_lt (n := 0) (Nat.lt_of_lt_of_eq (by decide) (Eq.symm (GReply.len GReply.zero)))) (Upd.refl ((GReply.len GReply.zero).trans (GReply.len GReply.zero).symm))) ?_
       refine rp rfl rfl (p_asg rfl rfl) ?_
       refine rz [(2, .q 2 (0)), (3, .i (4 : Int))] [(2, .pure (GReply.cs GReply.zero))] rfl rfl rfl ?_
       refine AW2_ret ?_
       have hz := some_elim H
       subst hz
       exact ⟨rfl, ⟨res_cella Tryd.underlying44 rfl in_44.sz rfl (Sub.le (Sub.refl _) (GReply.len GReply.zero)) (by decide) (Sub.take (Sub.refl _) (GReply.len GReply.zero)), res_tmp (.same _), trivial⟩, trivial⟩
      ·replace H := ite_else h16 H
       refine as2 [(2, .q 2 (0)), (4, .t s4_0), (5, .q 5 (0)), (6, .i left6_0)] [(2, .pure (GReply.cs GReply.zero)), (5, .mix [.p ((AV.int ((lrd b0 0).toNat : Int))), .p ((AV.int ((lrd b0 1).toNat : Int))), .own 1000 t1000_0.length 1]), (1000, .pure (t1000_0.map (fun q : List GValue => AV.lst (q.flatMap GValue.cs) q.length)))] rfl rfl rfl ?_
       refine AW2_skip ?_
       refine sg [0, 1, 2, 3, 4] rfl ?_
       refine rp rfl rfl (p_move rfl rfl) ?_
       refine chkK H fun h17 H => ?_
       refine rp rfl rfl (u_cutt (a := (1 : Int)) (b := (3 : Int)) rfl Tryd.underlying9 rfl (bT_i (show 0 ≤ (1 : Int) ∧ (1 : Int) ≤ (3 : Int) ∧ (3 : Int) ≤ (s4_0.length : Int) from h17).1 rfl) (bT_i (Int.le_trans (show 0 ≤ (1 : Int) ∧ (1 : Int) ≤ (3 : Int) ∧ (3 : Int) ≤ (s4_0.length : Int) from h17).1 (show 0 ≤ (1 : Int) ∧ (1 : Int) ≤ (3 : Int) ∧ (3 : Int) ≤ (s4_0.length : Int) from h17).2.1) rfl) (show 0 ≤ (1 : Int) ∧ (1 : Int) ≤ (3 : Int) ∧ (3 : Int) ≤ (s4_0.length : Int) from h17)) ?_
       refine bindK H fun r'2 h18 H => ?_
       refine rp rfl rfl (p_callp rfl rfl rfl Tryd.func57 rfl rfl (g_ref_number_ac h18) ⟨rfl, trivial⟩) ?_
       refine rp rfl rfl (p_u64_i (a := r'2) rfl Tryd.underlying22 Tryd.underlying3 rfl) ?_
       refine rp rfl rfl (p_asg rfl rfl) ?_
       refine rz [(2, .q 2 (0)), (4, .t s4_0), (5, .q 5 (0)), (6, .i left6_0), (7, .i (w64 (r'2.toNat : Int)))] [(2, .pure (GReply.cs GReply.zero)), (5, .mix [.p ((AV.int ((lrd b0 0).toNat : Int))), .p ((AV.int ((lrd b0 1).toNat : Int))), .own 1000 t1000_0.length 1]), (1000, .pure (t1000_0.map (fun q : List GValue => AV.lst (q.flatMap GValue.cs) q.length)))] rfl rfl rfl ?_
       refine AW2_seq ?_
       refine sg [0, 1, 2, 3, 4] rfl ?_
       refine rp rfl rfl (p_move rfl rfl) ?_
       refine rp rfl rfl (p_lent rfl Tryd.underlying9 rfl) ?_
       refine rp rfl rfl (p_move rfl rfl) ?_
       refine rp rfl rfl (p_bin rfl rfl rfl rfl) ?_
       refine rp rfl rfl (p_bin rfl rfl rfl rfl) ?_
       refine rz [(2, .q 2 (0)), (4, .t s4_0), (5, .q 5 (0)), (6, .i left6_0), (7, .i (w64 (r'2.toNat : Int))), (58, .b (decide ((s4_0.length : Int) < w64 ((3 : Int) + (w64 (r'2.toNat : Int))))))] [(2, .pure (GReply.cs GReply.zero)), (5, .mix [.p ((AV.int ((lrd b0 0).toNat : Int))), .p ((AV.int ((lrd b0 1).toNat : Int))), .own 1000 t1000_0.length 1]), (1000, .pure (t1000_0.map (fun q : List GValue => AV.lst (q.flatMap GValue.cs) q.length)))] rfl rfl rfl ?_
       refine AW2_if (p := (s4_0.length : Int) < w64 ((3 : Int) + (w64 (r'2.toNat : Int)))) rfl (fun h19 => ?_) (fun h19 => ?_)
       ·replace H := ite_then h19 H
        refine sg [0, 1, 2] rfl ?_
        refine rp rfl rfl (u_bld rfl in_44 one_44 zc_44 pl_44 rfl rfl) ?_
        refine r_op rfl rfl (u_st rfl rfl rfl rfl rfl in_44 (GReply.len GReply.zero) (ne_of_lt (n := 0) (Nat.lt_of_lt_of_eq (by decide) (Eq.symm (GReply.len GReply.zero)))) (Upd.refl ((GReply.len GReply.zero).trans (GReply.len GReply.zero).symm))) ?_
        refine rp rfl rfl (p_asg rfl rfl) ?_
        refine rz [(2, .q 2 (0)), (3, .i (4 : Int))] [(2, .pure (GReply.cs GReply.zero))] rfl rfl rfl ?_
        refine AW2_ret ?_
        have hz := some_elim H
        subst hz
        exact ⟨rfl, ⟨res_cella Tryd.underlying44 rfl in_44.sz rfl (Sub.le (Sub.refl _) (GReply.len GReply.zero)) (by decide) (Sub.take (Sub.refl _) (GReply.len GReply.zero)), res_tmp (.same _), trivial⟩, trivial⟩
       ·replace H := ite_else h19 H
        refine as2 [(2, .q 2 (0)), (4, .t s4_0), (5, .q 5 (0)), (6, .i left6_0), (7, .i (w64 (r'2.toNat : Int)))] [(2, .pure (GReply.cs GReply.zero)), (5, .mix [.p ((AV.int ((lrd b0 0).toNat : Int))), .p ((AV.int ((lrd b0 1).toNat : Int))), .own 1000 t1000_0.length 1]), (1000, .pure (t1000_0.map (fun q : List GValue => AV.lst (q.flatMap GValue.cs) q.length)))] rfl rfl rfl ?_
        refine AW2_skip ?_
        refine AW2_seq ?_
        refine chkK H fun h20 H => ?_
        refine chkK H fun h21 H => ?_
        refine bindK H fun r'3 h22 H => ?_
        refine AW2_ghoQ ?_
        refine AW2_draw 13 [13] (fun k => ([.t s4_0, .i (w64 (r'2.toNat : Int)), .i (w64 ((3 : Int) + (w64 (r'2.toNat : Int)))), .t (cut s4_0 (3 : Int) (w64 ((3 : Int) + (w64 (r'2.toNat : Int))))), .y (cut s4_0 (3 : Int) (w64 ((3 : Int) + (w64 (r'2.toNat : Int))))), .t s4_0, .p (AV.b8 (lrd s4_0 0)), .i ((lrd s4_0 0).toNat : Int), .p (.tup [((fun q : List GValue => AV.lst (q.flatMap GValue.cs) q.length) r'3.1), (AV.int r'3.2)]), .p (.tup [((fun q : List GValue => AV.lst (q.flatMap GValue.cs) q.length) r'3.1), (AV.int r'3.2)]), .p ((fun q : List GValue => AV.lst (q.flatMap GValue.cs) q.length) r'3.1), .i r'3.2, .p ((fun q : List GValue => AV.lst (q.flatMap GValue.cs) q.length) r'3.1)] : List TV).getD k TV.any) (fun k => g_ref_ReplyOf_r16.getD k []) [(2, none), (4, none), (5, none), (6, none), (7, none), (8, some 12), (71, some 11)] [] (fun k => g_ref_ReplyOf_r16c.getD k []) mixed (by kernel_rfl) rfl rfl (a_op (g_x rfl (x_p rfl (p_move rfl rfl) rfl)) (a_op (g_x rfl (x_p rfl (p_move rfl rfl) rfl)) (a_op (g_x rfl (x_p rfl (p_bin rfl rfl rfl rfl) rfl)) (a_op (g_x rfl (x_p rfl (u_cutt (a := (3 : Int)) (b := w64 ((3 : Int) + (w64 (r'2.toNat : Int)))) rfl Tryd.underlying9 rfl (bT_i (show 0 ≤ (3 : Int) ∧ (3 : Int) ≤ w64 ((3 : Int) + (w64 (r'2.toNat : Int))) ∧ w64 ((3 : Int) + (w64 (r'2.toNat : Int))) ≤ (s4_0.length : Int) from h20).1 rfl) (bT_i (Int.le_trans (show 0 ≤ (3 : Int) ∧ (3 : Int) ≤ w64 ((3 : Int) + (w64 (r'2.toNat : Int))) ∧ w64 ((3 : Int) + (w64 (r'2.toNat : Int))) ≤ (s4_0.length : Int) from h20).1 (show 0 ≤ (3 : Int) ∧ (3 : Int) ≤ w64 ((3 : Int) + (w64 (r'2.toNat : Int))) ∧ w64 ((3 : Int) + (w64 (r'2.toNat : Int))) ≤ (s4_0.length : Int) from h20).2.1) rfl) (show 0 ≤ (3 : Int) ∧ (3 : Int) ≤ w64 ((3 : Int) + (w64 (r'2.toNat : Int))) ∧ w64 ((3 : Int) + (w64 (r'2.toNat : Int))) ≤ (s4_0.length : Int) from h20)) rfl)) (a_op (g_x rfl (x_p rfl (MakeD.pubD (n_sb 65 rfl Tryd.underlying9 Tryd.underlying33 Tryd.underlying5 rfl) (bl (cut s4_0 (3 : Int) (w64 ((3 : Int) + (w64 (r'2.toNat : Int)))))) (by decide)) rfl)) (a_op (g_x rfl (x_p rfl (p_move rfl rfl) rfl)) (a_op (g_x rfl (x_p rfl (p_ixt rfl Tryd.underlying9 rfl rfl rfl (lrd_get h21)) rfl)) (a_op (g_x rfl (x_p rfl (p_ci rfl Tryd.underlying5 Tryd.underlying3 rfl (wrapu8i (lrd s4_0 0))) rfl)) (a_op (g_x rfl (x_p rfl (p_callp rfl rfl rfl Tryd.func25 rfl rfl (g_ref_RowOf_ac h22) ⟨rfl, rfl, rfl, trivial⟩) rfl)) (a_op (g_x rfl (x_p rfl (p_move rfl rfl) rfl)) (a_op (g_x rfl (x_p rfl (p_ext rfl rfl rfl rfl) rfl)) (a_op (g_x rfl (x_p rfl (p_ext rfl rfl rfl rfl) rfl)) (a_op (g_x rfl (x_p rfl (p_asg rfl rfl) rfl)) (a_nil)))))))))))))) ?_
        refine t_op rfl rfl (PureD.opD (p_asg rfl rfl)) ?_
        refine t_gho (Gho_st (L := [(2, .q 2 (0)), (4, .t s4_0), (5, .q 5 (0)), (6, .i left6_0), (7, .i (w64 (r'2.toNat : Int))), (8, .p ((fun q : List GValue => AV.lst (q.flatMap GValue.cs) q.length) r'3.1)), (9, .i r'3.2)]) (H := [(2, .pure (GReply.cs GReply.zero)), (5, .mix [.p ((AV.int ((lrd b0 0).toNat : Int))), .p ((AV.int ((lrd b0 1).toNat : Int))), .own 1000 t1000_0.length 1]), (1000, .pure (t1000_0.map (fun q : List GValue => AV.lst (q.flatMap GValue.cs) q.length)))]) (N := 90) rfl ⟨TLes.same _, TLes.same _, TLes.same _, TLes.same _, TLes.same _, TLes.same _, TLes.same _, trivial⟩ ⟨rfl, rfl, rfl, trivial⟩) ?_
        refine AW2_seq ?_
        refine sg [0, 1] rfl ?_
        refine rp rfl rfl (p_move rfl rfl) ?_
        refine rp rfl rfl (p_ine rfl rfl rfl) ?_
        refine rz [(2, .q 2 (0)), (4, .t s4_0), (5, .q 5 (0)), (6, .i left6_0), (7, .i (w64 (r'2.toNat : Int))), (8, .p ((fun q : List GValue => AV.lst (q.flatMap GValue.cs) q.length) r'3.1)), (9, .i r'3.2), (73, .b (decide (r'3.2 ≠ (0 : Int))))] [(2, .pure (GReply.cs GReply.zero)), (5, .mix [.p ((AV.int ((lrd b0 0).toNat : Int))), .p ((AV.int ((lrd b0 1).toNat : Int))), .own 1000 t1000_0.length 1]), (1000, .pure (t1000_0.map (fun q : List GValue => AV.lst (q.flatMap GValue.cs) q.length)))] rfl rfl rfl ?_
        refine AW2_if (p := r'3.2 ≠ (0 : Int)) rfl (fun h23 => ?_) (fun h23 => ?_)
        ·replace H := ite_then h23 H
         refine sg [0, 1, 2, 3] rfl ?_
         refine rp rfl rfl (u_bld rfl in_44 one_44 zc_44 pl_44 rfl rfl) ?_
         refine rp rfl rfl (p_move rfl rfl) ?_
         refine r_op rfl rfl (u_st rfl rfl rfl rfl rfl in_44 (GReply.len GReply.zero) (ne_of_lt (n := 0) (Nat.lt_of_lt_of_eq (by decide) (Eq.symm (GReply.len GReply.zero)))) (Upd.refl ((GReply.len GReply.zero).trans (GReply.len GReply.zero).symm))) ?_
         refine rp rfl rfl (p_asg rfl rfl) ?_
         refine rz [(2, .q 2 (0)), (3, .i r'3.2)] [(2, .pure (GReply.cs GReply.zero))] rfl rfl rfl ?_
         refine AW2_ret ?_
         have hz := some_elim H
         subst hz
         exact ⟨rfl, ⟨res_cella Tryd.underlying44 rfl in_44.sz rfl (Sub.le (Sub.refl _) (GReply.len GReply.zero)) (by decide) (Sub.take (Sub.refl _) (GReply.len GReply.zero)), res_tmp (.same _), trivial⟩, trivial⟩
        ·replace H := ite_else h23 H
         refine as2 [(2, .q 2 (0)), (4, .t s4_0), (5, .q 5 (0)), (6, .i left6_0), (7, .i (w64 (r'2.toNat : Int))), (8, .p ((fun q : List GValue => AV.lst (q.flatMap GValue.cs) q.length) r'3.1))] [(2, .pure (GReply.cs GReply.zero)), (5, .mix [.p ((AV.int ((lrd b0 0).toNat : Int))), .p ((AV.int ((lrd b0 1).toNat : Int))), .own 1000 t1000_0.length 1]), (1000, .pure (t1000_0.map (fun q : List GValue => AV.lst (q.flatMap GValue.cs) q.length)))] rfl rfl rfl ?_
         refine AW2_skip ?_
         refine sg [0, 1, 2, 3, 4, 5, 6] rfl ?_
         refine rp rfl rfl (p_fa rfl rfl Tryd.underlying44 rfl (in_42).sz (Nat.succ_ne_zero _) rfl rfl (fun _ => List.cons_ne_nil _ _)) ?_
         refine rp rfl rfl (p_ldm rfl rfl Tryd.underlying42 rfl rfl rfl rfl) ?_
         refine rp rfl rfl (p_move rfl rfl) ?_
         refine r_op rfl rfl (MakeD.opD (u_bs 79 rfl Tryd.underlying42 in_32 rfl one_32 (by decide) (by decide) rfl rfl rfl) rfl rfl rfl rfl) ?_
         refine RunW_st [(2, .q 2 (0)), (4, .t s4_0), (5, .q 5 (0)), (6, .i left6_0), (7, .i (w64 (r'2.toNat : Int))), (8, .p ((fun q : List GValue => AV.lst (q.flatMap GValue.cs) q.length) r'3.1)), (76, .q 5 (0 + 2)), (77, .c (.own 1000 t1000_0.length 1)), (78, .p ((fun q : List GValue => AV.lst (q.flatMap GValue.cs) q.length) r'3.1)), (79, .c (.own 79 ([r'3.1] : List (List GValue)).length 1))] [(2, .pure (GReply.cs GReply.zero)), (5, .mix [.p ((AV.int ((lrd b0 0).toNat : Int))), .p ((AV.int ((lrd b0 1).toNat : Int))), .own 1000 t1000_0.length 1]), (79, .pure (([r'3.1] : List (List GValue)).map (fun q : List GValue => AV.lst (q.flatMap GValue.cs) q.length))), (1000, .pure (t1000_0.map (fun q : List GValue => AV.lst (q.flatMap GValue.cs) q.length)))] rfl ⟨TLes.same _, TLes.same _, TLes.same _, TLes.same _, TLes.same _, TLes.same _, TLes.same _, TLes.same _, TLes.same _, TLes.own rfl, trivial⟩ ⟨rfl, rfl, rfl, rfl, trivial⟩ ?_
         refine RunW_gho (Gho_blk (b := 5) (k := .mix [.p ((AV.int ((lrd b0 0).toNat : Int))), .p ((AV.int ((lrd b0 1).toNat : Int))), .own 1000 t1000_0.length 1]) (k' := .mix [.p ((AV.int ((lrd b0 0).toNat : Int))), .p ((AV.int ((lrd b0 1).toNat : Int))), .p .any]) rfl (AnyL.cles ⟨(.inl rfl), (.inl rfl), (.inr rfl), trivial⟩)) ?_
         refine rs [(2, .q 2 (0)), (4, .t s4_0), (5, .q 5 (0)), (6, .i left6_0), (7, .i (w64 (r'2.toNat : Int))), (8, .p ((fun q : List GValue => AV.lst (q.flatMap GValue.cs) q.length) r'3.1)), (76, .q 5 (0 + 2)), (77, .c (.own 1000 t1000_0.length 1)), (78, .p ((fun q : List GValue => AV.lst (q.flatMap GValue.cs) q.length) r'3.1)), (79, .c (.own 79 ([r'3.1] : List (List GValue)).length 1))] [(2, .pure (GReply.cs GReply.zero)), (5, .mix [.p ((AV.int ((lrd b0 0).toNat : Int))), .p ((AV.int ((lrd b0 1).toNat : Int))), .p .any]), (79, .pure (([r'3.1] : List (List GValue)).map (fun q : List GValue => AV.lst (q.flatMap GValue.cs) q.length))), (1000, .pure (t1000_0.map (fun q : List GValue => AV.lst (q.flatMap GValue.cs) q.length)))] rfl rfl rfl ?_
         refine chkK H fun h24 H => ?_
         refine r_op rfl rfl (u_app [77] rfl rfl rfl rfl Tryd.underlying42 Tryd.underlying42 in_32 rfl rfl rfl (ml (fun q : List GValue => AV.lst (q.flatMap GValue.cs) q.length) t1000_0) (by decide) (srcT_o rfl rfl (ml (fun q : List GValue => AV.lst (q.flatMap GValue.cs) q.length) ([r'3.1] : List (List GValue))) (by decide)) (ml (fun q : List GValue => AV.lst (q.flatMap GValue.cs) q.length) ([r'3.1] : List (List GValue))) h24 (by decide) rfl rfl (mapp (fun q : List GValue => AV.lst (q.flatMap GValue.cs) q.length) t1000_0 ([r'3.1] : List (List GValue))) (lapp t1000_0 ([r'3.1] : List (List GValue)))) ?_
         refine rp rfl rfl (p_fa rfl rfl Tryd.underlying44 rfl (in_42).sz (Nat.succ_ne_zero _) rfl rfl (fun _ => List.cons_ne_nil _ _)) ?_
         refine r_op rfl rfl (d_stm (o := [.p ((AV.int ((lrd b0 0).toNat : Int))), .p ((AV.int ((lrd b0 1).toNat : Int))), .p .any]) (xs := [.own 1000 (t1000_0 ++ ([r'3.1] : List (List GValue))).length 1]) (o' := [.p ((AV.int ((lrd b0 0).toNat : Int))), .p ((AV.int ((lrd b0 1).toNat : Int))), .own 1000 (t1000_0 ++ ([r'3.1] : List (List GValue))).length 1]) rfl rfl rfl rfl (fun _ => rfl) rfl (in_42).sz (Nat.le_of_ble_eq_true rfl) (List.cons_ne_nil _ _) (fun _ => rfl)) ?_
         refine rz [(2, .q 2 (0)), (4, .t s4_0), (5, .q 5 (0)), (6, .i left6_0), (7, .i (w64 (r'2.toNat : Int)))] [(2, .pure (GReply.cs GReply.zero)), (5, .mix [.p ((AV.int ((lrd b0 0).toNat : Int))), .p ((AV.int ((lrd b0 1).toNat : Int))), .own 1000 (t1000_0 ++ ([r'3.1] : List (List GValue))).length 1]), (1000, .pure ((t1000_0 ++ ([r'3.1] : List (List GValue))).map (fun q : List GValue => AV.lst (q.flatMap GValue.cs) q.length)))] rfl rfl rfl ?_
         refine AW2_reg [0, 1, 2, 3, 4] rfl ?_
         refine rp rfl rfl (p_move rfl rfl) ?_
         refine rp rfl rfl (p_move rfl rfl) ?_
         refine rp rfl rfl (p_bin rfl rfl rfl rfl) ?_
         refine chkK H fun h25 H => ?_
         refine rp rfl rfl (u_cutt (a := w64 ((3 : Int) + (w64 (r'2.toNat : Int)))) (b := (s4_0.length : Int)) rfl Tryd.underlying9 rfl (bT_i (show 0 ≤ w64 ((3 : Int) + (w64 (r'2.toNat : Int))) ∧ w64 ((3 : Int) + (w64 (r'2.toNat : Int))) ≤ (s4_0.length : Int) ∧ (s4_0.length : Int) ≤ (s4_0.length : Int) from ⟨h25.1, h25.2, Int.le_refl _⟩).1 rfl) (bT_len _) (show 0 ≤ w64 ((3 : Int) + (w64 (r'2.toNat : Int))) ∧ w64 ((3 : Int) + (w64 (r'2.toNat : Int))) ≤ (s4_0.length : Int) ∧ (s4_0.length : Int) ≤ (s4_0.length : Int) from ⟨h25.1, h25.2, Int.le_refl _⟩)) ?_
         refine rp rfl rfl (p_asg rfl rfl) ?_
         refine rz [(2, .q 2 (0)), (4, .t (cut s4_0 (w64 ((3 : Int) + (w64 (r'2.toNat : Int)))) (s4_0.length : Int))), (5, .q 5 (0)), (6, .i left6_0)] [(2, .pure (GReply.cs GReply.zero)), (5, .mix [.p ((AV.int ((lrd b0 0).toNat : Int))), .p ((AV.int ((lrd b0 1).toNat : Int))), .own 1000 (t1000_0 ++ ([r'3.1] : List (List GValue))).length 1]), (1000, .pure ((t1000_0 ++ ([r'3.1] : List (List GValue))).map (fun q : List GValue => AV.lst (q.flatMap GValue.cs) q.length)))] rfl rfl rfl ?_
         refine gen1 (fun s4'4 => (⟨[(2, .q 2 (0)), (4, .t s4'4), (5, .q 5 (0)), (6, .i left6_0)], [(2, .pure (GReply.cs GReply.zero)), (5, .mix [.p ((AV.int ((lrd b0 0).toNat : Int))), .p ((AV.int ((lrd b0 1).toNat : Int))), .own 1000 (t1000_0 ++ ([r'3.1] : List (List GValue))).length 1]), (1000, .pure ((t1000_0 ++ ([r'3.1] : List (List GValue))).map (fun q : List GValue => AV.lst (q.flatMap GValue.cs) q.length)))], 90⟩ : TS)) H ?_
         intro s4'4 H
         refine AW2_reg [0, 1, 2] rfl ?_
         refine rp rfl rfl (p_move rfl rfl) ?_
         refine rp rfl rfl (p_bin rfl rfl rfl rfl) ?_
         refine rp rfl rfl (p_asg rfl rfl) ?_
         refine rz [(2, .q 2 (0)), (4, .t s4'4), (5, .q 5 (0)), (6, .i (w64 (left6_0 - (1 : Int))))] [(2, .pure (GReply.cs GReply.zero)), (5, .mix [.p ((AV.int ((lrd b0 0).toNat : Int))), .p ((AV.int ((lrd b0 1).toNat : Int))), .own 1000 (t1000_0 ++ ([r'3.1] : List (List GValue))).length 1]), (1000, .pure ((t1000_0 ++ ([r'3.1] : List (List GValue))).map (fun q : List GValue => AV.lst (q.flatMap GValue.cs) q.length)))] rfl rfl rfl ?_
         have hz := some_elim H
         subst hz
         exact ⟨rfl, rfl⟩
     ·replace H := ite_else h15 H
      refine as2 [(2, .q 2 (0)), (4, .t s4_0), (5, .q 5 (0))] [(2, .pure (GReply.cs GReply.zero)), (5, .mix [.p ((AV.int ((lrd b0 0).toNat : Int))), .p ((AV.int ((lrd b0 1).toNat : Int))), .own 1000 t1000_0.length 1]), (1000, .pure (t1000_0.map (fun q : List GValue => AV.lst (q.flatMap GValue.cs) q.length)))] rfl rfl rfl ?_
      refine AW2_exit ?_
      refine thenQ2_exit ?_
      have hz := some_elim H
      subst hz
      exact ⟨rfl, rfl⟩
    ·rcases o'8 with y'9 | y'10
     ·obtain ⟨rfl, hs⟩ := hs
      refine ⟨by simp, ?_⟩
      have hz := some_elim H
      subst hz
      exact ⟨hs.1, hs.2⟩
     ·obtain ⟨rfl, rfl⟩ := hs
      refine ⟨by simp, ?_⟩
      refine blockQ2_exit ?_
      refine AW2_seq ?_
      refine sg [0, 1] rfl ?_
      refine rp rfl rfl (p_move rfl rfl) ?_
      refine rp rfl rfl (p_sne rfl rfl rfl) ?_
      refine rz [(2, .q 2 (0)), (5, .q 5 (0)), (87, .b (decide (y'10.1 ≠ [])))] [(2, .pure (GReply.cs GReply.zero)), (5, .mix [.p ((AV.int ((lrd b0 0).toNat : Int))), .p ((AV.int ((lrd b0 1).toNat : Int))), .own 1000 y'10.2.length 1]), (1000, .pure (y'10.2.map (fun q : List GValue => AV.lst (q.flatMap GValue.cs) q.length)))] rfl rfl rfl ?_
      refine AW2_if (p := y'10.1 ≠ []) rfl (fun h27 => ?_) (fun h27 => ?_)
      ·replace H := ite_then h27 H
       refine sg [0, 1, 2] rfl ?_
       refine rp rfl rfl (u_bld rfl in_44 one_44 zc_44 pl_44 rfl rfl) ?_
       refine r_op rfl rfl (u_st rfl rfl rfl rfl rfl in_44 (GReply.len GReply.zero) (ne_of_lt (n := 0) (Nat.lt_of_lt_of_eq (by decide) (Eq.symm (GReply.len GReply.zero)))) (Upd.refl ((GReply.len GReply.zero).trans (GReply.len GReply.zero).symm))) ?_
       refine rp rfl rfl (p_asg rfl rfl) ?_
       refine rz [(2, .q 2 (0)), (3, .i (3 : Int))] [(2, .pure (GReply.cs GReply.zero))] rfl rfl rfl ?_
       refine AW2_ret ?_
       have hz := some_elim H
       subst hz
       exact ⟨⟨res_cella Tryd.underlying44 rfl in_44.sz rfl (Sub.le (Sub.refl _) (GReply.len GReply.zero)) (by decide) (Sub.take (Sub.refl _) (GReply.len GReply.zero)), res_tmp (.same _), trivial⟩, trivial⟩
      ·replace H := ite_else h27 H
       refine as2 [(2, .q 2 (0)), (5, .q 5 (0))] [(2, .pure (GReply.cs GReply.zero)), (5, .mix [.p ((AV.int ((lrd b0 0).toNat : Int))), .p ((AV.int ((lrd b0 1).toNat : Int))), .own 1000 y'10.2.length 1]), (1000, .pure (y'10.2.map (fun q : List GValue => AV.lst (q.flatMap GValue.cs) q.length)))] rfl rfl rfl ?_
       refine AW2_skip ?_
       refine sg [0, 1, 2] rfl ?_
       refine rp rfl rfl (p_ldam rfl rfl Tryd.underlying44 rfl (in_44).sz rfl rfl (Nat.le_of_ble_eq_true rfl) (Nat.succ_pos _) rfl) ?_
       refine rs [(2, .q 2 (0)), (89, .agg [.p ((AV.int ((lrd b0 0).toNat : Int))), .p ((AV.int ((lrd b0 1).toNat : Int))), .own 1000 y'10.2.length 1])] [(2, .pure (GReply.cs GReply.zero)), (1000, .pure (y'10.2.map (fun q : List GValue => AV.lst (q.flatMap GValue.cs) q.length)))] rfl rfl rfl ?_
       refine RunW_gho (Gho_puba (b := 1000) [(89, .agg [.p ((AV.int ((lrd b0 0).toNat : Int))), .p ((AV.int ((lrd b0 1).toNat : Int))), .p (((fun q : List (List GValue) => AV.lst (q.map (fun q : List GValue => AV.lst (q.flatMap GValue.cs) q.length)) q.length) y'10.2))])] ⟨⟨(.inl rfl), (.inl rfl), (.inr (.inl ⟨rfl, rfl⟩)), trivial⟩, trivial⟩ rfl (ml (fun q : List GValue => AV.lst (q.flatMap GValue.cs) q.length) y'10.2) (by decide)) ?_
       refine RunW_st [(2, .q 2 (0)), (89, .g (GReply.cs ({ Error := ((lrd b0 0).toNat : Int), Count := ((lrd b0 1).toNat : Int), Rows := y'10.2 } : GReply)))] [(2, .pure (GReply.cs GReply.zero))] rfl ⟨TLes.same _, (fun _ => .same _), trivial⟩ ⟨rfl, trivial⟩ ?_
       refine r_op rfl rfl (u_st rfl rfl rfl rfl rfl in_44 (GReply.len ({ Error := ((lrd b0 0).toNat : Int), Count := ((lrd b0 1).toNat : Int), Rows := y'10.2 } : GReply)) (ne_of_lt (n := 0) (Nat.lt_of_lt_of_eq (by decide) (Eq.symm (GReply.len GReply.zero)))) (Upd.refl ((GReply.len ({ Error := ((lrd b0 0).toNat : Int), Count := ((lrd b0 1).toNat : Int), Rows := y'10.2 } : GReply)).trans (GReply.len GReply.zero).symm))) ?_
       refine rp rfl rfl (p_asg rfl rfl) ?_
       refine rz [(2, .q 2 (0)), (3, .i (0 : Int))] [(2, .pure (GReply.cs ({ Error := ((lrd b0 0).toNat : Int), Count := ((lrd b0 1).toNat : Int), Rows := y'10.2 } : GReply)))] rfl rfl rfl ?_
       refine gen1 (fun t2'11 => (⟨[(2, .q 2 (0)), (3, .i (0 : Int))], [(2, .pure (GReply.cs t2'11))], 90⟩ : TS)) H ?_
       intro t2'11 H
       refine AW2_ret ?_
       have hz := some_elim H
       subst hz
       exact ⟨⟨res_cella Tryd.underlying44 rfl in_44.sz rfl (Sub.le (Sub.refl _) (GReply.len t2'11)) (by decide) (Sub.take (Sub.refl _) (GReply.len t2'11)), res_tmp (.same _), trivial⟩, trivial⟩

/-! chirographlaw.sameRow -/
def g_law_sameRow_r6 : List (List (Nat × Option Nat)) := [[(0, none)], [(5, none)], [(16, some 0), (17, some 1)], [(18, some 2)], [(1, none)], [(5, none)], [(20, some 4), (21, some 5)], [(22, some 6)]]
def g_law_sameRow_r6c : List (List Nat) := [[], [], [0, 1], [0, 1, 2], [], [], [4, 5], [4, 5, 6], [0, 1, 2, 3, 4, 5, 6, 7]]
noncomputable def g_law_sameRow_l0 (a0 : List GValue) (b1 : List GValue) : Int → Option (Int ⊕ (Bool ⊕ Unit))
  | t13_0 => (if t13_0 < (a0.length : Int) then if 0 ≤ t13_0 ∧ t13_0 < (a0.length : Int) then if 0 ≤ t13_0 ∧ t13_0 < (b1.length : Int) then (if (lrd a0 t13_0.toNat) ≠ (lrd b1 t13_0.toNat) then some (.inr (.inl false)) else some (.inl (w64 (t13_0 + (1 : Int))))) else none else none else some (.inr (.inr ())))
noncomputable def g_law_sameRow (a0 : List GValue) (b1 : List GValue) : Option (Bool) :=
  (if (a0.length : Int) ≠ (b1.length : Int) then some false else (loopO (g_law_sameRow_l0 a0 b1) (0 : Int)).bind fun o'4 => match o'4 with | .inl y'5 => some y'5 | .inr (y'6) => some true)
set_option maxHeartbeats 4000000 in
set_option maxRecDepth 100000 in
theorem g_law_sameRow_ac {a0 : List GValue} {b1 : List GValue} {r : Bool} (H : g_law_sameRow a0 b1 = some r) : ACp Tryd.prog 26 [((fun q : List GValue => AV.lst (q.flatMap GValue.cs) q.length) a0), ((fun q : List GValue => AV.lst (q.flatMap GValue.cs) q.length) b1)] (AV.bool r) := by
 refine ACp_of (AC2_of_body (vs := [.b r]) Tryd.func26 rfl rfl (Nat.le_of_ble_eq_true rfl) rfl ?_) (fun _ => .same _)
 unfold g_law_sameRow at H
 refine as2 [(0, .p ((fun q : List GValue => AV.lst (q.flatMap GValue.cs) q.length) a0)), (1, .p ((fun q : List GValue => AV.lst (q.flatMap GValue.cs) q.length) b1))] [] rfl rfl rfl ?_
 refine sg [0] rfl ?_
 refine rp rfl rfl (p_asg rfl rfl) ?_
 refine rz [(0, .p ((fun q : List GValue => AV.lst (q.flatMap GValue.cs) q.length) a0)), (1, .p ((fun q : List GValue => AV.lst (q.flatMap GValue.cs) q.length) b1))] [] rfl rfl rfl ?_
 refine AW2_seq ?_
 refine sg [0, 1, 2, 3, 4] rfl ?_
 refine rp rfl rfl (p_move rfl rfl) ?_
 refine rp rfl rfl (p_lenl rfl Tryd.underlying32 rfl rfl) ?_
 refine rp rfl rfl (p_move rfl rfl) ?_
 refine rp rfl rfl (p_lenl rfl Tryd.underlying32 rfl rfl) ?_
 refine rp rfl rfl (p_ine rfl rfl rfl) ?_
 refine rz [(0, .p ((fun q : List GValue => AV.lst (q.flatMap GValue.cs) q.length) a0)), (1, .p ((fun q : List GValue => AV.lst (q.flatMap GValue.cs) q.length) b1)), (10, .b (decide ((a0.length : Int) ≠ (b1.length : Int))))] [] rfl rfl rfl ?_
 refine AW2_if (p := (a0.length : Int) ≠ (b1.length : Int)) rfl (fun h1 => ?_) (fun h1 => ?_)
 ·replace H := ite_then h1 H
  refine sg [0] rfl ?_
  refine rp rfl rfl (p_asg rfl rfl) ?_
  refine rz [(4, .b false)] [] rfl rfl rfl ?_
  refine AW2_ret ?_
  have hz := some_elim H
  subst hz
  exact ⟨⟨res_tmp (.same _), trivial⟩, trivial⟩
 ·replace H := ite_else h1 H
  refine as2 [(0, .p ((fun q : List GValue => AV.lst (q.flatMap GValue.cs) q.length) a0)), (1, .p ((fun q : List GValue => AV.lst (q.flatMap GValue.cs) q.length) b1))] [] rfl rfl rfl ?_
  refine AW2_skip ?_
  refine AW2_seq ?_
  refine sg [0, 1, 2] rfl ?_
  refine rp rfl rfl (p_move rfl rfl) ?_
  refine rp rfl rfl (p_lenl rfl Tryd.underlying32 rfl rfl) ?_
  refine rp rfl rfl (p_move rfl rfl) ?_
  refine rz [(0, .p ((fun q : List GValue => AV.lst (q.flatMap GValue.cs) q.length) a0)), (1, .p ((fun q : List GValue => AV.lst (q.flatMap GValue.cs) q.length) b1)), (12, .i (a0.length : Int)), (13, .i (0 : Int))] [] rfl rfl rfl ?_
  refine AW2_block ?_
  refine as2 [(0, .p ((fun q : List GValue => AV.lst (q.flatMap GValue.cs) q.length) a0)), (1, .p ((fun q : List GValue => AV.lst (q.flatMap GValue.cs) q.length) b1)), (12, .i (a0.length : Int)), (13, .i (0 : Int))] [] rfl rfl rfl ?_
  refine bindK H fun o'4 h6 H => ?_
  refine AW2_loopO (fun a'1 : Int => (⟨[(0, .p ((fun q : List GValue => AV.lst (q.flatMap GValue.cs) q.length) a0)), (1, .p ((fun q : List GValue => AV.lst (q.flatMap GValue.cs) q.length) b1)), (12, .i (a0.length : Int)), (13, .i a'1)], [], 26⟩ : TS)) (fun (o : Bool ⊕ Unit) e s' => match o with | .inl y'2 => e = Go.Exit.ret ∧ ResAll Tryd.prog s' [ResultVar.tmp 4] [.b y'2] ∧ HFits s' [] | .inr (y'3) => e = Go.Exit.exit 0 ∧ s' = (⟨[], [], 26⟩ : TS)) h6 rfl (fun t13_0 x hx => ?_) (fun e s' hs => ?_)
  ·clear H
   have H := hx
   clear hx
   unfold g_law_sameRow_l0 at H
   refine sg [0] rfl ?_
   refine rp rfl rfl (p_bin rfl rfl rfl rfl) ?_
   refine rz [(0, .p ((fun q : List GValue => AV.lst (q.flatMap GValue.cs) q.length) a0)), (1, .p ((fun q : List GValue => AV.lst (q.flatMap GValue.cs) q.length) b1)), (12, .i (a0.length : Int)), (13, .i t13_0), (14, .b (decide (t13_0 < (a0.length : Int))))] [] rfl rfl rfl ?_
   refine AW2_seq ?_
   refine AW2_if (p := t13_0 < (a0.length : Int)) rfl (fun h2 => ?_) (fun h2 => ?_)
   ·replace H := ite_then h2 H
    refine as2 [(0, .p ((fun q : List GValue => AV.lst (q.flatMap GValue.cs) q.length) a0)), (1, .p ((fun q : List GValue => AV.lst (q.flatMap GValue.cs) q.length) b1)), (12, .i (a0.length : Int)), (13, .i t13_0)] [] rfl rfl rfl ?_
    refine AW2_skip ?_
    refine AW2_seq ?_
    refine AW2_block ?_
    refine sg [0, 1] rfl ?_
    refine rp rfl rfl (p_move rfl rfl) ?_
    refine rp rfl rfl (p_asg rfl rfl) ?_
    refine rz [(0, .p ((fun q : List GValue => AV.lst (q.flatMap GValue.cs) q.length) a0)), (1, .p ((fun q : List GValue => AV.lst (q.flatMap GValue.cs) q.length) b1)), (5, .i t13_0), (12, .i (a0.length : Int)), (13, .i t13_0)] [] rfl rfl rfl ?_
    refine AW2_seq ?_
    refine chkK H fun h3 H => ?_
    refine chkK H fun h4 H => ?_
    refine AW2_ghoQ ?_
    refine AW2_draw 8 [8] (fun k => ([.p ((fun q : List GValue => AV.lst (q.flatMap GValue.cs) q.length) a0), .i t13_0, .p (.rptr (a0.flatMap GValue.cs) (t13_0.toNat * 4)), .g (GValue.cs (lrd a0 t13_0.toNat)), .p ((fun q : List GValue => AV.lst (q.flatMap GValue.cs) q.length) b1), .i t13_0, .p (.rptr (b1.flatMap GValue.cs) (t13_0.toNat * 4)), .g (GValue.cs (lrd b1 t13_0.toNat))] : List TV).getD k TV.any) (fun k => g_law_sameRow_r6.getD k []) [(0, none), (1, none), (12, none), (13, none), (19, some 3), (23, some 7)] [] (fun k => g_law_sameRow_r6c.getD k []) mixed (by kernel_rfl) rfl rfl (a_op (g_x rfl (x_p rfl (p_move rfl rfl) rfl)) (a_op (g_x rfl (x_p rfl (p_move rfl rfl) rfl)) (a_op (g_x rfl (x_p rfl (u_ixl rfl rfl Tryd.underlying32 in_24 rfl rfl (ixe h3) (ixn h3) (fne (fun x => (GValue.len x)) (by decide) (ixn h3))) rfl)) (a_op (g_x rfl (x_p rfl (u_lda rfl rfl Tryd.underlying24 rfl in_24 rfl (Nat.succ_pos _) (Sub.fm default (fun x => (GValue.len x)) (ixn h3)) (GValue.len (lrd a0 t13_0.toNat))) rfl)) (a_op (g_x rfl (x_p rfl (p_move rfl rfl) rfl)) (a_op (g_x rfl (x_p rfl (p_move rfl rfl) rfl)) (a_op (g_x rfl (x_p rfl (u_ixl rfl rfl Tryd.underlying32 in_24 rfl rfl (ixe h4) (ixn h4) (fne (fun x => (GValue.len x)) (by decide) (ixn h4))) rfl)) (a_op (g_x rfl (x_p rfl (u_lda rfl rfl Tryd.underlying24 rfl in_24 rfl (Nat.succ_pos _) (Sub.fm default (fun x => (GValue.len x)) (ixn h4)) (GValue.len (lrd b1 t13_0.toNat))) rfl)) (a_nil))))))))) ?_
    refine t_op rfl rfl (PureD.opD (p_nea (a := (lrd a0 t13_0.toNat)) (b := (lrd b1 t13_0.toNat)) rfl eq_24 rfl (by kernel_rfl) rfl rfl)) ?_
    refine t_gho (Gho_st (L := [(0, .p ((fun q : List GValue => AV.lst (q.flatMap GValue.cs) q.length) a0)), (1, .p ((fun q : List GValue => AV.lst (q.flatMap GValue.cs) q.length) b1)), (12, .i (a0.length : Int)), (13, .i t13_0), (24, .b (decide ((lrd a0 t13_0.toNat) ≠ (lrd b1 t13_0.toNat))))]) (H := []) (N := 26) rfl ⟨TLes.same _, TLes.same _, TLes.same _, TLes.same _, TLes.same _, trivial⟩ trivial) ?_
    refine AW2_if (p := (lrd a0 t13_0.toNat) ≠ (lrd b1 t13_0.toNat)) rfl (fun h5 => ?_) (fun h5 => ?_)
    ·replace H := ite_then h5 H
     refine sg [0] rfl ?_
     refine rp rfl rfl (p_asg rfl rfl) ?_
     refine rz [(4, .b false)] [] rfl rfl rfl ?_
     refine AW2_ret ?_
     have hz := some_elim H
     subst hz
     exact ⟨rfl, ⟨res_tmp (.same _), trivial⟩, trivial⟩
    ·replace H := ite_else h5 H
     refine as2 [(0, .p ((fun q : List GValue => AV.lst (q.flatMap GValue.cs) q.length) a0)), (1, .p ((fun q : List GValue => AV.lst (q.flatMap GValue.cs) q.length) b1)), (12, .i (a0.length : Int)), (13, .i t13_0)] [] rfl rfl rfl ?_
     refine AW2_skip ?_
     refine AW2_reg [0, 1] rfl ?_
     refine rp rfl rfl (p_bin rfl rfl rfl rfl) ?_
     refine rp rfl rfl (p_move rfl rfl) ?_
     refine rz [(0, .p ((fun q : List GValue => AV.lst (q.flatMap GValue.cs) q.length) a0)), (1, .p ((fun q : List GValue => AV.lst (q.flatMap GValue.cs) q.length) b1)), (12, .i (a0.length : Int)), (13, .i (w64 (t13_0 + (1 : Int))))] [] rfl rfl rfl ?_
     have hz := some_elim H
     subst hz
     exact ⟨rfl, rfl⟩
   ·replace H := ite_else h2 H
    refine as2 [] [] rfl rfl rfl ?_
    refine AW2_exit ?_
    refine thenQ2_exit ?_
    have hz := some_elim H
    subst hz
    exact ⟨rfl, rfl⟩
  ·rcases o'4 with y'5 | y'6
   ·obtain ⟨rfl, hs⟩ := hs
    refine ⟨by simp, ?_⟩
    have hz := some_elim H
    subst hz
    exact ⟨hs.1, hs.2⟩
   ·obtain ⟨rfl, rfl⟩ := hs
    refine ⟨by simp, ?_⟩
    refine blockQ2_exit ?_
    refine sg [0] rfl ?_
    refine rp rfl rfl (p_asg rfl rfl) ?_
    refine rz [(4, .b true)] [] rfl rfl rfl ?_
    refine AW2_ret ?_
    have hz := some_elim H
    subst hz
    exact ⟨⟨res_tmp (.same _), trivial⟩, trivial⟩
end Go.Proofs.YtfekkhinjdmcbaaDoor.VM
