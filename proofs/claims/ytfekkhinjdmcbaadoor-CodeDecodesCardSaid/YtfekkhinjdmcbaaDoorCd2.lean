/- Functions of the program, as they answer, and that their code comes to these answers. -/
import Derived.Test.YtfekkhinjdmcbaaDoorCd1
namespace Go.Proofs.YtfekkhinjdmcbaaDoor.VM
open Go Go.RowKit

theorem eq_24 : EqT Tryd.prog 24 2 (fun x : GValue => .agg (GValue.cs x)) :=
  eqt_struct [fun a b => a.Kind = b.Kind, fun a b => a.Int_ = b.Int_, fun a b => a.Bits = b.Bits, fun a b => a.Text = b.Text] Tryd.underlying24 (by kernel_rfl) ⟨(FieldEq.more (fe_one (by decide) Tryd.underlying3 rfl (eqt_int Tryd.underlying3) (fun a => GValue.sub0 a)) (by decide : 1 ≤ 1)), (FieldEq.more (fe_one (by decide) Tryd.underlying3 rfl (eqt_int Tryd.underlying3) (fun a => GValue.sub1 a)) (by decide : 1 ≤ 1)), (FieldEq.more (fe_one (by decide) Tryd.underlying22 rfl (eqt_u64 Tryd.underlying22) (fun a => GValue.sub2 a)) (by decide : 1 ≤ 1)), (FieldEq.more (fe_one (by decide) Tryd.underlying9 rfl (eqt_txt Tryd.underlying9) (fun a => GValue.sub3 a)) (by decide : 1 ≤ 1)), trivial⟩ (fun a b => by
    cases a; cases b
    simp)
set_option maxRecDepth 100000 in
theorem ty_5 {d : Nat} {cs : List AV} (h : Typed Tryd.prog d 5 cs) : ∃ x : UInt8, cs = [(AV.b8 x)] ∧ okA x := match d, h with
  | 0, h => False.elim h
  | d + 1, h => ty_u8 Tryd.underlying5 h
set_option maxRecDepth 100000 in
theorem ty_33 {d : Nat} {cs : List AV} (h : Typed Tryd.prog d 33 cs) : ∃ x : List UInt8, cs = [(AV.bytes x)] ∧ (okL 1 okA) x := match d, h with
  | 0, h => False.elim h
  | d + 1, h => ty_slice (f := AV.b8) Tryd.underlying33 (bytes_of in_5) (fun _ hx => ty_5 hx) h
set_option maxRecDepth 100000 in
theorem ty_3 {d : Nat} {cs : List AV} (h : Typed Tryd.prog d 3 cs) : ∃ x : Int, cs = [(AV.int x)] ∧ okI x := match d, h with
  | 0, h => False.elim h
  | d + 1, h => ty_int Tryd.underlying3 h

/-! chirographref.number -/
noncomputable def g_ref_number_l0 (s0 : List UInt8) : UInt64 × Int → Option ((UInt64 × Int) ⊕ (UInt64))
  | (n3_0, i4_0) => (if i4_0 < (s0.length : Int) then if 0 ≤ i4_0 ∧ i4_0 < (s0.length : Int) then some (.inl ((n3_0 * (256 : UInt64)) + ((lrd s0 i4_0.toNat).toUInt64), w64 (i4_0 + (1 : Int)))) else none else some (.inr n3_0))
noncomputable def g_ref_number (s0 : List UInt8) : Option (UInt64) :=
  (loopO (g_ref_number_l0 s0) ((0 : UInt64), (0 : Int))).bind fun y'4 => some y'4
set_option maxHeartbeats 4000000 in
set_option maxRecDepth 100000 in
theorem g_ref_number_ac {s0 : List UInt8} {r : UInt64} (H : g_ref_number s0 = some r) : ACp Tryd.prog 57 [(AV.txt s0)] (AV.u64 r) := by
 refine ACp_of (AC2_of_body (vs := [.p (AV.u64 r)]) Tryd.func57 rfl rfl (Nat.le_of_ble_eq_true rfl) rfl ?_) (fun _ => .same _)
 unfold g_ref_number at H
 refine as2 [(0, .t s0)] [] rfl rfl rfl ?_
 refine sg [0] rfl ?_
 refine rp rfl rfl (p_asg rfl rfl) ?_
 refine rz [(0, .t s0)] [] rfl rfl rfl ?_
 refine sg [0] rfl ?_
 refine rp rfl rfl (p_asg rfl rfl) ?_
 refine rz [(0, .t s0), (3, .p (AV.u64 (0 : UInt64)))] [] rfl rfl rfl ?_
 refine AW2_seq ?_
 refine sg [0] rfl ?_
 refine rp rfl rfl (p_asg rfl rfl) ?_
 refine rz [(0, .t s0), (3, .p (AV.u64 (0 : UInt64))), (4, .i (0 : Int))] [] rfl rfl rfl ?_
 refine AW2_block ?_
 refine as2 [(0, .t s0), (3, .p (AV.u64 (0 : UInt64))), (4, .i (0 : Int))] [] rfl rfl rfl ?_
 refine bindK H fun y'4 h3 H => ?_
 refine AW2_loopO (fun a'1 : UInt64 × Int => (⟨[(0, .t s0), (3, .p (AV.u64 a'1.1)), (4, .i a'1.2)], [], 19⟩ : TS)) (fun (y'2 : UInt64) e s' => e = Go.Exit.exit 0 ∧ s' = (⟨[(3, .p (AV.u64 y'2))], [], 19⟩ : TS)) h3 rfl (fun a x hx => ?_) (fun e s' hs => ?_)
 ·clear H
  obtain ⟨n3_0, i4_0⟩ := a
  have H := hx
  clear hx
  unfold g_ref_number_l0 at H
  refine AW2_seq ?_
  refine sg [0, 1, 2, 3] rfl ?_
  refine rp rfl rfl (p_move rfl rfl) ?_
  refine rp rfl rfl (p_move rfl rfl) ?_
  refine rp rfl rfl (p_lent rfl Tryd.underlying9 rfl) ?_
  refine rp rfl rfl (p_bin rfl rfl rfl rfl) ?_
  refine rz [(0, .t s0), (3, .p (AV.u64 n3_0)), (4, .i i4_0), (8, .b (decide (i4_0 < (s0.length : Int))))] [] rfl rfl rfl ?_
  refine AW2_if (p := i4_0 < (s0.length : Int)) rfl (fun h1 => ?_) (fun h1 => ?_)
  ·replace H := ite_then h1 H
   refine as2 [(0, .t s0), (3, .p (AV.u64 n3_0)), (4, .i i4_0)] [] rfl rfl rfl ?_
   refine AW2_skip ?_
   refine AW2_seq ?_
   refine AW2_block ?_
   refine AW2_reg [0, 1, 2, 3, 4, 5, 6, 7] rfl ?_
   refine rp rfl rfl (p_move rfl rfl) ?_
   refine rp rfl rfl (p_u64mul (a := n3_0) (b := (256 : UInt64)) rfl rfl rfl) ?_
   refine rp rfl rfl (p_move rfl rfl) ?_
   refine rp rfl rfl (p_move rfl rfl) ?_
   refine chkK H fun h2 H => ?_
   refine rp rfl rfl (p_ixt rfl Tryd.underlying9 rfl rfl (ixe h2) (lrd_get (ixn h2))) ?_
   refine rp rfl rfl (p_u8_u64 (a := (lrd s0 i4_0.toNat)) rfl Tryd.underlying5 Tryd.underlying22 rfl) ?_
   refine rp rfl rfl (p_u64add (a := n3_0 * (256 : UInt64)) (b := (lrd s0 i4_0.toNat).toUInt64) rfl rfl rfl) ?_
   refine rp rfl rfl (p_asg rfl rfl) ?_
   refine rz [(0, .t s0), (3, .p (AV.u64 ((n3_0 * (256 : UInt64)) + ((lrd s0 i4_0.toNat).toUInt64)))), (4, .i i4_0)] [] rfl rfl rfl ?_
   refine AW2_reg [0, 1, 2] rfl ?_
   refine rp rfl rfl (p_move rfl rfl) ?_
   refine rp rfl rfl (p_bin rfl rfl rfl rfl) ?_
   refine rp rfl rfl (p_asg rfl rfl) ?_
   refine rz [(0, .t s0), (3, .p (AV.u64 ((n3_0 * (256 : UInt64)) + ((lrd s0 i4_0.toNat).toUInt64)))), (4, .i (w64 (i4_0 + (1 : Int))))] [] rfl rfl rfl ?_
   have hz := some_elim H
   subst hz
   exact ⟨rfl, rfl⟩
  ·replace H := ite_else h1 H
   refine as2 [(3, .p (AV.u64 n3_0))] [] rfl rfl rfl ?_
   refine AW2_exit ?_
   refine thenQ2_exit ?_
   have hz := some_elim H
   subst hz
   exact ⟨rfl, rfl⟩
 ·obtain ⟨rfl, rfl⟩ := hs
  refine ⟨by simp, ?_⟩
  refine blockQ2_exit ?_
  refine sg [0, 1] rfl ?_
  refine rp rfl rfl (p_move rfl rfl) ?_
  refine rp rfl rfl (p_asg rfl rfl) ?_
  refine rz [(2, .p (AV.u64 y'4))] [] rfl rfl rfl ?_
  refine AW2_ret ?_
  have hz := some_elim H
  subst hz
  exact ⟨⟨res_tmp (.same _), trivial⟩, trivial⟩

/-! chirographref.badReal -/
noncomputable def g_ref_badReal (b0 : UInt64) : Option (Bool) :=
  some (decide ((b0 = (9223372036854775808 : UInt64)) ∨ ((18437736874454810624 : UInt64) < shl_u64 b0 1)))
set_option maxHeartbeats 4000000 in
set_option maxRecDepth 100000 in
theorem g_ref_badReal_ac {b0 : UInt64} {r : Bool} (H : g_ref_badReal b0 = some r) : ACp Tryd.prog 41 [(AV.u64 b0)] (AV.bool r) := by
 refine ACp_of (AC2_of_body (vs := [.b r]) Tryd.func41 rfl rfl (Nat.le_of_ble_eq_true rfl) rfl ?_) (fun _ => .same _)
 unfold g_ref_badReal at H
 refine as2 [(0, .p (AV.u64 b0))] [] rfl rfl rfl ?_
 refine sg [0] rfl ?_
 refine rp rfl rfl (p_asg rfl rfl) ?_
 refine rz [(0, .p (AV.u64 b0))] [] rfl rfl rfl ?_
 refine AW2_seq ?_
 refine AW2_mid (⟨[(2, .b (decide ((b0 = (9223372036854775808 : UInt64)) ∨ ((18437736874454810624 : UInt64) < shl_u64 b0 1))))], [], 10⟩ : TS) ?_ ?_
 ·refine AW2_reg [0, 1, 2, 3, 4, 5, 6, 7] rfl ?_
  refine rp rfl rfl (p_move rfl rfl) ?_
  refine rp rfl rfl (p_u64eq (a := b0) (b := (9223372036854775808 : UInt64)) rfl rfl rfl) ?_
  refine rp rfl rfl (p_move rfl rfl) ?_
  refine (Classical.em (b0 = (9223372036854775808 : UInt64))).elim (fun h1 => ?_) (fun h1 => ?_)
  ·refine r_off rfl rfl rfl rfl (decide_eq_true h1) rfl rfl ?_
   refine r_off rfl rfl rfl rfl (decide_eq_true h1) rfl rfl ?_
   refine r_off rfl rfl rfl rfl (decide_eq_true h1) rfl rfl ?_
   refine rp rfl rfl (p_pkt rfl rfl (decide_eq_true h1) (tb (decide_eq_true (p := (b0 = (9223372036854775808 : UInt64)) ∨ ((18437736874454810624 : UInt64) < shl_u64 b0 1)) (Or.inl h1)).symm)) ?_
   refine rp rfl rfl (p_asg rfl rfl) ?_
   refine rs [(2, .b (decide ((b0 = (9223372036854775808 : UInt64)) ∨ ((18437736874454810624 : UInt64) < shl_u64 b0 1))))] [] rfl rfl rfl ?_
   exact RunW_nil rfl
  ·refine r_on rfl rfl rfl rfl (decide_eq_false h1) rfl (PureD.opD (p_move rfl rfl)) ?_
   refine r_on rfl rfl rfl rfl (decide_eq_false h1) rfl (PureD.opD (p_u64shl (n := 1) rfl rfl rfl rfl)) ?_
   refine r_on rfl rfl rfl rfl (decide_eq_false h1) rfl (PureD.opD (p_u64gt (a := shl_u64 b0 1) (b := (18437736874454810624 : UInt64)) rfl rfl rfl)) ?_
   refine rp rfl rfl (p_pkf rfl rfl (decide_eq_false h1) (tb ((or_l (p := b0 = (9223372036854775808 : UInt64)) (q := (18437736874454810624 : UInt64) < shl_u64 b0 1) h1)))) ?_
   refine rp rfl rfl (p_asg rfl rfl) ?_
   refine rs [(2, .b (decide ((b0 = (9223372036854775808 : UInt64)) ∨ ((18437736874454810624 : UInt64) < shl_u64 b0 1))))] [] rfl rfl rfl ?_
   exact RunW_nil rfl
 ·refine AW2_ret ?_
  have hz := some_elim H
  subst hz
  exact ⟨⟨res_tmp (.same _), trivial⟩, trivial⟩

/-! chirographref.ValueFault -/
noncomputable def g_ref_ValueFault (v0 : GValue) : Option (Int) :=
  (show Option (Int ⊕ GValue) from (if v0.Kind = (0 : Int) then some (.inr ({ GValue.zero with Kind := v0.Kind })) else ((if v0.Kind = (1 : Int) then some (decide (v0.Kind = (1 : Int))) else some (decide (v0.Kind = (2 : Int))))).bind fun j'2 => (if j'2 = true then some (.inr ({ { GValue.zero with Kind := v0.Kind } with Int_ := v0.Int_ })) else (if v0.Kind = (3 : Int) then some (.inr ({ { GValue.zero with Kind := v0.Kind } with Bits := v0.Bits })) else (if v0.Kind = (4 : Int) then some (.inr ({ { GValue.zero with Kind := v0.Kind } with Text := v0.Text })) else some (.inl (2 : Int))))))).bind fun o'12 => match o'12 with | .inl y'3 => some y'3 | .inr j'1 => (if (v0.Text.length : Int) > (40 : Int) then some (1 : Int) else ((if v0 ≠ j'1 then some true else (if v0.Kind = (1 : Int) then (if (1 : UInt64) < UInt64.ofInt v0.Int_ then some true else (if v0.Kind = (3 : Int) then (g_ref_badReal v0.Bits).bind fun r'5 => (if r'5 = true then some true else (g_utf8_ValidString v0.Text).bind fun r'6 => some (!r'6)) else (g_utf8_ValidString v0.Text).bind fun r'7 => some (!r'7))) else (if v0.Kind = (3 : Int) then (g_ref_badReal v0.Bits).bind fun r'8 => (if r'8 = true then some true else (g_utf8_ValidString v0.Text).bind fun r'9 => some (!r'9)) else (g_utf8_ValidString v0.Text).bind fun r'10 => some (!r'10))))).bind fun g'11 => (if g'11 = true then some (3 : Int) else some (0 : Int)))
set_option maxHeartbeats 4000000 in
set_option maxRecDepth 100000 in
theorem g_ref_ValueFault_ac {v0 : GValue} {r : Int} (H : g_ref_ValueFault v0 = some r) : ACp Tryd.prog 15 [(.agg (GValue.cs v0))] (AV.int r) := by
 refine ACp_of (AC2_of_body (vs := [.i r]) Tryd.func15 rfl rfl (Nat.le_of_ble_eq_true rfl) rfl ?_) (fun _ => .same _)
 unfold g_ref_ValueFault at H
 refine as2 [(0, .g (GValue.cs v0))] [] rfl rfl rfl ?_
 refine sg [0, 1] rfl ?_
 refine r_op rfl rfl (MakeD.opD (n_box 1 rfl rfl) rfl rfl rfl rfl) ?_
 refine rp rfl rfl (p_asg rfl rfl) ?_
 refine rz [(1, .q 1 (0))] [(1, .pure (GValue.cs v0))] rfl rfl rfl ?_
 refine sg [0, 1, 2, 3, 4] rfl ?_
 refine rp rfl rfl (u_fa rfl rfl Tryd.underlying24 rfl in_3 (Nat.succ_ne_zero _) rfl rfl (ne_of_lt (n := 0) (Nat.lt_of_lt_of_eq (by decide) (Eq.symm (GValue.len v0))))) ?_
 refine rp rfl rfl (u_ld rfl rfl Tryd.underlying3 rfl rfl ((Sub.refl _).trans (GValue.sub0 v0))) ?_
 refine rp rfl rfl (u_bld rfl in_24 one_24 zc_24 pl_24 rfl (af_cons rfl rfl (GValue.upd0 GValue.zero v0.Kind) rfl)) ?_
 refine r_op rfl rfl (MakeD.opD (u_alloc 3 rfl in_24 one_24 zc_24) rfl rfl rfl rfl) ?_
 refine r_op rfl rfl (u_st rfl rfl rfl rfl rfl in_24 (GValue.len ((GValue.w0 GValue.zero v0.Kind))) (ne_of_lt (n := 0) (Nat.lt_of_lt_of_eq (by decide) (Eq.symm (GValue.len GValue.zero)))) (Upd.refl ((GValue.len ((GValue.w0 GValue.zero v0.Kind))).trans (GValue.len GValue.zero).symm))) ?_
 refine rz [(1, .q 1 (0)), (3, .q 3 (0))] [(1, .pure (GValue.cs v0)), (3, .pure (GValue.cs ((GValue.w0 GValue.zero v0.Kind))))] rfl rfl rfl ?_
 refine AW2_seq ?_
 refine bindK H fun o'12 h1 H => ?_
 refine AW2_join (fun j'1 : GValue => (⟨[(1, .q 1 (0)), (3, .q 3 (0))], [(1, .pure (GValue.cs v0)), (3, .pure (GValue.cs j'1))], 61⟩ : TS)) (fun r e s' => e = Go.Exit.ret ∧ ResAll Tryd.prog s' [ResultVar.tmp 2] [.i r] ∧ HFits s' []) (x := o'12) ?_ (fun j'1 hy => ?_) (fun y'3 e s' hy hs => ?_)
 ·clear H
  have H := h1
  clear h1
  refine sg [0, 1] rfl ?_
  refine rp rfl rfl (u_fa rfl rfl Tryd.underlying24 rfl in_3 (Nat.succ_ne_zero _) rfl rfl (ne_of_lt (n := 0) (Nat.lt_of_lt_of_eq (by decide) (Eq.symm (GValue.len v0))))) ?_
  refine rp rfl rfl (u_ld rfl rfl Tryd.underlying3 rfl rfl ((Sub.refl _).trans (GValue.sub0 v0))) ?_
  refine rz [(1, .q 1 (0)), (3, .q 3 (0)), (8, .i v0.Kind)] [(1, .pure (GValue.cs v0)), (3, .pure (GValue.cs ((GValue.w0 GValue.zero v0.Kind))))] rfl rfl rfl ?_
  refine AW2_block ?_
  refine sg [0, 1] rfl ?_
  refine rp rfl rfl (p_ieq rfl rfl rfl) ?_
  refine rp rfl rfl (p_asg rfl rfl) ?_
  refine rz [(1, .q 1 (0)), (3, .q 3 (0)), (8, .i v0.Kind), (9, .b (decide (v0.Kind = (0 : Int))))] [(1, .pure (GValue.cs v0)), (3, .pure (GValue.cs ((GValue.w0 GValue.zero v0.Kind))))] rfl rfl rfl ?_
  refine AW2_if (p := v0.Kind = (0 : Int)) rfl (fun h2 => ?_) (fun h2 => ?_)
  ·replace H := ite_then h2 H
   refine as2 [(1, .q 1 (0)), (3, .q 3 (0))] [(1, .pure (GValue.cs v0)), (3, .pure (GValue.cs ((GValue.w0 GValue.zero v0.Kind))))] rfl rfl rfl ?_
   refine AW2_skip ?_
   have hz := some_elim H
   subst hz
   exact ⟨rfl, rfl⟩
  ·replace H := ite_else h2 H
   refine AW2_seq ?_
   refine bindK H fun j'2 h3 H => ?_
   refine AW2_mid (⟨[(1, .q 1 (0)), (3, .q 3 (0)), (8, .i v0.Kind), (11, .b j'2)], [(1, .pure (GValue.cs v0)), (3, .pure (GValue.cs ((GValue.w0 GValue.zero v0.Kind))))], 61⟩ : TS) ?_ ?_
   ·clear H
    have H := h3
    clear h3
    refine sg [0, 1] rfl ?_
    refine rp rfl rfl (p_ieq rfl rfl rfl) ?_
    refine rp rfl rfl (p_asg rfl rfl) ?_
    refine rz [(1, .q 1 (0)), (3, .q 3 (0)), (8, .i v0.Kind), (11, .b (decide (v0.Kind = (1 : Int))))] [(1, .pure (GValue.cs v0)), (3, .pure (GValue.cs ((GValue.w0 GValue.zero v0.Kind))))] rfl rfl rfl ?_
    refine AW2_if (p := v0.Kind = (1 : Int)) rfl (fun h4 => ?_) (fun h4 => ?_)
    ·replace H := ite_then h4 H
     refine AW2_skip ?_
     have hz := some_elim H
     subst hz
     exact rfl
    ·replace H := ite_else h4 H
     refine AW2_reg [0, 1] rfl ?_
     refine rp rfl rfl (p_ieq rfl rfl rfl) ?_
     refine rp rfl rfl (p_asg rfl rfl) ?_
     refine rz [(1, .q 1 (0)), (3, .q 3 (0)), (8, .i v0.Kind), (11, .b (decide (v0.Kind = (2 : Int))))] [(1, .pure (GValue.cs v0)), (3, .pure (GValue.cs ((GValue.w0 GValue.zero v0.Kind))))] rfl rfl rfl ?_
     have hz := some_elim H
     subst hz
     exact rfl
   ·refine AW2_cond rfl (fun h5 => ?_) (fun h5 => ?_)
    ·replace H := ite_then h5 H
     refine AW2_reg [0, 1, 2, 3] rfl ?_
     refine rp rfl rfl (u_fa rfl rfl Tryd.underlying24 rfl in_3 (Nat.succ_ne_zero _) rfl rfl (ne_of_lt (n := 0) (Nat.lt_of_lt_of_eq (by decide) (Eq.symm (GValue.len v0))))) ?_
     refine rp rfl rfl (u_ld rfl rfl Tryd.underlying3 rfl rfl ((Sub.refl _).trans (GValue.sub1 v0))) ?_
     refine rp rfl rfl (u_fa rfl rfl Tryd.underlying24 rfl in_3 (Nat.succ_ne_zero _) rfl rfl (ne_of_lt (n := 0) (Nat.lt_of_lt_of_eq (by decide) (Eq.symm (GValue.len ((GValue.w0 GValue.zero v0.Kind))))))) ?_
     refine r_op rfl rfl (u_st rfl rfl rfl rfl rfl in_3 rfl (ne_of_lt (n := 0) (Nat.lt_of_lt_of_eq (by decide) (Eq.symm (GValue.len ((GValue.w0 GValue.zero v0.Kind)))))) (Upd.trans (Sub.refl _) (GValue.upd1 ((GValue.w0 GValue.zero v0.Kind)) v0.Int_) (Upd.refl ((GValue.len ((GValue.w1 (GValue.w0 GValue.zero v0.Kind) v0.Int_))).trans (GValue.len ((GValue.w0 GValue.zero v0.Kind))).symm)))) ?_
     refine rz [(1, .q 1 (0)), (3, .q 3 (0))] [(1, .pure (GValue.cs v0)), (3, .pure (GValue.cs ((GValue.w1 (GValue.w0 GValue.zero v0.Kind) v0.Int_))))] rfl rfl rfl ?_
     have hz := some_elim H
     subst hz
     exact ⟨rfl, rfl⟩
    ·replace H := ite_else (ne_true h5) H
     refine sg [0, 1] rfl ?_
     refine rp rfl rfl (p_ieq rfl rfl rfl) ?_
     refine rp rfl rfl (p_asg rfl rfl) ?_
     refine rz [(1, .q 1 (0)), (3, .q 3 (0)), (8, .i v0.Kind), (17, .b (decide (v0.Kind = (3 : Int))))] [(1, .pure (GValue.cs v0)), (3, .pure (GValue.cs ((GValue.w0 GValue.zero v0.Kind))))] rfl rfl rfl ?_
     refine AW2_if (p := v0.Kind = (3 : Int)) rfl (fun h6 => ?_) (fun h6 => ?_)
     ·replace H := ite_then h6 H
      refine AW2_reg [0, 1, 2, 3] rfl ?_
      refine rp rfl rfl (u_fa rfl rfl Tryd.underlying24 rfl in_22 (Nat.succ_ne_zero _) rfl rfl (ne_of_lt (n := 0) (Nat.lt_of_lt_of_eq (by decide) (Eq.symm (GValue.len v0))))) ?_
      refine rp rfl rfl (u_ld rfl rfl Tryd.underlying22 rfl rfl ((Sub.refl _).trans (GValue.sub2 v0))) ?_
      refine rp rfl rfl (u_fa rfl rfl Tryd.underlying24 rfl in_22 (Nat.succ_ne_zero _) rfl rfl (ne_of_lt (n := 0) (Nat.lt_of_lt_of_eq (by decide) (Eq.symm (GValue.len ((GValue.w0 GValue.zero v0.Kind))))))) ?_
      refine r_op rfl rfl (u_st rfl rfl rfl rfl rfl in_22 rfl (ne_of_lt (n := 0) (Nat.lt_of_lt_of_eq (by decide) (Eq.symm (GValue.len ((GValue.w0 GValue.zero v0.Kind)))))) (Upd.trans (Sub.refl _) (GValue.upd2 ((GValue.w0 GValue.zero v0.Kind)) v0.Bits) (Upd.refl ((GValue.len ((GValue.w2 (GValue.w0 GValue.zero v0.Kind) v0.Bits))).trans (GValue.len ((GValue.w0 GValue.zero v0.Kind))).symm)))) ?_
      refine rz [(1, .q 1 (0)), (3, .q 3 (0))] [(1, .pure (GValue.cs v0)), (3, .pure (GValue.cs ((GValue.w2 (GValue.w0 GValue.zero v0.Kind) v0.Bits))))] rfl rfl rfl ?_
      have hz := some_elim H
      subst hz
      exact ⟨rfl, rfl⟩
     ·replace H := ite_else h6 H
      refine sg [0, 1] rfl ?_
      refine rp rfl rfl (p_ieq rfl rfl rfl) ?_
      refine rp rfl rfl (p_asg rfl rfl) ?_
      refine rz [(1, .q 1 (0)), (3, .q 3 (0)), (22, .b (decide (v0.Kind = (4 : Int))))] [(1, .pure (GValue.cs v0)), (3, .pure (GValue.cs ((GValue.w0 GValue.zero v0.Kind))))] rfl rfl rfl ?_
      refine AW2_if (p := v0.Kind = (4 : Int)) rfl (fun h7 => ?_) (fun h7 => ?_)
      ·replace H := ite_then h7 H
       refine AW2_reg [0, 1, 2, 3] rfl ?_
       refine rp rfl rfl (u_fa rfl rfl Tryd.underlying24 rfl in_9 (Nat.succ_ne_zero _) rfl rfl (ne_of_lt (n := 0) (Nat.lt_of_lt_of_eq (by decide) (Eq.symm (GValue.len v0))))) ?_
       refine rp rfl rfl (u_ld rfl rfl Tryd.underlying9 rfl rfl ((Sub.refl _).trans (GValue.sub3 v0))) ?_
       refine rp rfl rfl (u_fa rfl rfl Tryd.underlying24 rfl in_9 (Nat.succ_ne_zero _) rfl rfl (ne_of_lt (n := 0) (Nat.lt_of_lt_of_eq (by decide) (Eq.symm (GValue.len ((GValue.w0 GValue.zero v0.Kind))))))) ?_
       refine r_op rfl rfl (u_st rfl rfl rfl rfl rfl in_9 rfl (ne_of_lt (n := 0) (Nat.lt_of_lt_of_eq (by decide) (Eq.symm (GValue.len ((GValue.w0 GValue.zero v0.Kind)))))) (Upd.trans (Sub.refl _) (GValue.upd3 ((GValue.w0 GValue.zero v0.Kind)) v0.Text) (Upd.refl ((GValue.len ((GValue.w3 (GValue.w0 GValue.zero v0.Kind) v0.Text))).trans (GValue.len ((GValue.w0 GValue.zero v0.Kind))).symm)))) ?_
       refine rz [(1, .q 1 (0)), (3, .q 3 (0))] [(1, .pure (GValue.cs v0)), (3, .pure (GValue.cs ((GValue.w3 (GValue.w0 GValue.zero v0.Kind) v0.Text))))] rfl rfl rfl ?_
       have hz := some_elim H
       subst hz
       exact ⟨rfl, rfl⟩
      ·replace H := ite_else h7 H
       refine sg [0] rfl ?_
       refine rp rfl rfl (p_asg rfl rfl) ?_
       refine rz [(2, .i (2 : Int))] [] rfl rfl rfl ?_
       refine AW2_ret ?_
       have hz := some_elim H
       subst hz
       exact ⟨rfl, ⟨res_tmp (.same _), trivial⟩, trivial⟩
 ·subst hy
  refine AW2_seq ?_
  refine sg [0, 1, 2, 3] rfl ?_
  refine rp rfl rfl (u_fa rfl rfl Tryd.underlying24 rfl in_9 (Nat.succ_ne_zero _) rfl rfl (ne_of_lt (n := 0) (Nat.lt_of_lt_of_eq (by decide) (Eq.symm (GValue.len v0))))) ?_
  refine rp rfl rfl (u_ld rfl rfl Tryd.underlying9 rfl rfl ((Sub.refl _).trans (GValue.sub3 v0))) ?_
  refine rp rfl rfl (p_lent rfl Tryd.underlying9 rfl) ?_
  refine rp rfl rfl (p_bin rfl rfl rfl rfl) ?_
  refine rz [(1, .q 1 (0)), (3, .q 3 (0)), (30, .b (decide ((v0.Text.length : Int) > (40 : Int))))] [(1, .pure (GValue.cs v0)), (3, .pure (GValue.cs j'1))] rfl rfl rfl ?_
  refine AW2_if (p := (v0.Text.length : Int) > (40 : Int)) rfl (fun h8 => ?_) (fun h8 => ?_)
  ·replace H := ite_then h8 H
   refine sg [0] rfl ?_
   refine rp rfl rfl (p_asg rfl rfl) ?_
   refine rz [(2, .i (1 : Int))] [] rfl rfl rfl ?_
   refine AW2_ret ?_
   have hz := some_elim H
   subst hz
   exact ⟨⟨res_tmp (.same _), trivial⟩, trivial⟩
  ·replace H := ite_else h8 H
   refine as2 [(1, .q 1 (0)), (3, .q 3 (0))] [(1, .pure (GValue.cs v0)), (3, .pure (GValue.cs j'1))] rfl rfl rfl ?_
   refine AW2_skip ?_
   refine AW2_seq ?_
   refine AW2_seq ?_
   refine bindK H fun g'11 h23 H => ?_
   refine AW2_mid (⟨[(60, .b g'11)], [], 61⟩ : TS) ?_ ?_
   ·clear H
    have H := h23
    clear h23
    refine AW2_reg [0, 1, 2, 3, 4, 5, 6, 7, 8, 9, 10, 11, 12, 13, 14, 15, 16, 17, 18, 19, 20, 21, 22, 23, 24, 25, 26, 27, 28, 29] rfl ?_
    refine rp rfl rfl (u_lda rfl rfl Tryd.underlying24 rfl in_24 rfl (Nat.succ_pos _) (Sub.refl _) (GValue.len v0)) ?_
    refine rp rfl rfl (u_lda rfl rfl Tryd.underlying24 rfl in_24 rfl (Nat.succ_pos _) (Sub.refl _) (GValue.len j'1)) ?_
    refine rp rfl rfl (p_nea (a := v0) (b := j'1) rfl eq_24 rfl (by kernel_rfl) rfl rfl) ?_
    refine rp rfl rfl (p_move rfl rfl) ?_
    refine (Classical.em (v0 ≠ j'1)).elim (fun h10 => ?_) (fun h10 => ?_)
    ·replace H := ite_then h10 H
     refine r_off rfl rfl rfl rfl (decide_eq_true h10) rfl rfl ?_
     refine r_off rfl rfl rfl rfl (decide_eq_true h10) rfl rfl ?_
     refine r_off rfl rfl rfl rfl (decide_eq_true h10) rfl rfl ?_
     refine r_off rfl rfl rfl rfl (decide_eq_true h10) rfl rfl ?_
     refine r_off2 rfl rfl rfl rfl rfl rfl ?_
     refine r_off2 rfl rfl rfl rfl rfl rfl ?_
     refine r_off2 rfl rfl rfl rfl rfl rfl ?_
     refine r_off2 rfl rfl rfl rfl rfl rfl ?_
     refine r_off rfl rfl rfl rfl (decide_eq_true h10) rfl rfl ?_
     refine rp rfl rfl (p_pkt rfl rfl (decide_eq_true h10) (.same _)) ?_
     refine rp rfl rfl (p_move rfl rfl) ?_
     refine r_off rfl rfl rfl rfl rfl rfl rfl ?_
     refine r_off rfl rfl rfl rfl rfl rfl rfl ?_
     refine r_off rfl rfl rfl rfl rfl rfl rfl ?_
     refine r_off rfl rfl rfl rfl rfl rfl rfl ?_
     refine r_off2 rfl rfl rfl rfl rfl rfl ?_
     refine r_off2 rfl rfl rfl rfl rfl rfl ?_
     refine r_off2 rfl rfl rfl rfl rfl rfl ?_
     refine r_off rfl rfl rfl rfl rfl rfl rfl ?_
     refine rp rfl rfl (p_pkt rfl rfl rfl (.same _)) ?_
     refine rp rfl rfl (p_move rfl rfl) ?_
     refine r_off rfl rfl rfl rfl rfl rfl rfl ?_
     refine r_off rfl rfl rfl rfl rfl rfl rfl ?_
     refine r_off rfl rfl rfl rfl rfl rfl rfl ?_
     refine r_off rfl rfl rfl rfl rfl rfl rfl ?_
     refine rp rfl rfl (p_pkt rfl rfl rfl (.same _)) ?_
     refine rs [(60, .b true)] [] rfl rfl rfl ?_
     have hz := some_elim H
     subst hz
     exact RunW_nil rfl
    ·replace H := ite_else h10 H
     refine r_on rfl rfl rfl rfl (decide_eq_false h10) rfl (PureD.opD (u_fa rfl rfl Tryd.underlying24 rfl in_3 (Nat.succ_ne_zero _) rfl rfl (ne_of_lt (n := 0) (Nat.lt_of_lt_of_eq (by decide) (Eq.symm (GValue.len v0)))))) ?_
     refine r_on rfl rfl rfl rfl (decide_eq_false h10) rfl (PureD.opD (u_ld rfl rfl Tryd.underlying3 rfl rfl ((Sub.refl _).trans (GValue.sub0 v0)))) ?_
     refine r_on rfl rfl rfl rfl (decide_eq_false h10) rfl (PureD.opD (p_ieq rfl rfl rfl)) ?_
     refine r_on rfl rfl rfl rfl (decide_eq_false h10) rfl (PureD.opD (p_move rfl rfl)) ?_
     refine (Classical.em (v0.Kind = (1 : Int))).elim (fun h11 => ?_) (fun h11 => ?_)
     ·replace H := ite_then h11 H
      refine r_on rfl rfl rfl rfl (decide_eq_true h11) rfl (PureD.opD (u_fa rfl rfl Tryd.underlying24 rfl in_3 (Nat.succ_ne_zero _) rfl rfl (ne_of_lt (n := 0) (Nat.lt_of_lt_of_eq (by decide) (Eq.symm (GValue.len v0)))))) ?_
      refine r_on rfl rfl rfl rfl (decide_eq_true h11) rfl (PureD.opD (u_ld rfl rfl Tryd.underlying3 rfl rfl ((Sub.refl _).trans (GValue.sub1 v0)))) ?_
      refine r_on rfl rfl rfl rfl (decide_eq_true h11) rfl (PureD.opD (p_i_u64 rfl Tryd.underlying3 Tryd.underlying64 rfl)) ?_
      refine r_on rfl rfl rfl rfl (decide_eq_true h11) rfl (PureD.opD (p_u64gt (a := UInt64.ofInt v0.Int_) (b := (1 : UInt64)) rfl rfl rfl)) ?_
      refine r_on rfl rfl rfl rfl (decide_eq_false h10) rfl (PureD.opD (p_pkt rfl rfl (decide_eq_true h11) (.same _))) ?_
      refine rp rfl rfl (p_pkf rfl rfl (decide_eq_false h10) (.same _)) ?_
      refine rp rfl rfl (p_move rfl rfl) ?_
      refine (Classical.em ((1 : UInt64) < UInt64.ofInt v0.Int_)).elim (fun h12 => ?_) (fun h12 => ?_)
      ·replace H := ite_then h12 H
       refine r_off rfl rfl rfl rfl (decide_eq_true h12) rfl rfl ?_
       refine r_off rfl rfl rfl rfl (decide_eq_true h12) rfl rfl ?_
       refine r_off rfl rfl rfl rfl (decide_eq_true h12) rfl rfl ?_
       refine r_off rfl rfl rfl rfl (decide_eq_true h12) rfl rfl ?_
       refine r_off2 rfl rfl rfl rfl rfl rfl ?_
       refine r_off2 rfl rfl rfl rfl rfl rfl ?_
       refine r_off2 rfl rfl rfl rfl rfl rfl ?_
       refine r_off rfl rfl rfl rfl (decide_eq_true h12) rfl rfl ?_
       refine rp rfl rfl (p_pkt rfl rfl (decide_eq_true h12) (.same _)) ?_
       refine rp rfl rfl (p_move rfl rfl) ?_
       refine r_off rfl rfl rfl rfl rfl rfl rfl ?_
       refine r_off rfl rfl rfl rfl rfl rfl rfl ?_
       refine r_off rfl rfl rfl rfl rfl rfl rfl ?_
       refine r_off rfl rfl rfl rfl rfl rfl rfl ?_
       refine rp rfl rfl (p_pkt rfl rfl rfl (.same _)) ?_
       refine rs [(60, .b true)] [] rfl rfl rfl ?_
       have hz := some_elim H
       subst hz
       exact RunW_nil rfl
      ·replace H := ite_else h12 H
       refine r_on rfl rfl rfl rfl (decide_eq_false h12) rfl (PureD.opD (u_fa rfl rfl Tryd.underlying24 rfl in_3 (Nat.succ_ne_zero _) rfl rfl (ne_of_lt (n := 0) (Nat.lt_of_lt_of_eq (by decide) (Eq.symm (GValue.len v0)))))) ?_
       refine r_on rfl rfl rfl rfl (decide_eq_false h12) rfl (PureD.opD (u_ld rfl rfl Tryd.underlying3 rfl rfl ((Sub.refl _).trans (GValue.sub0 v0)))) ?_
       refine r_on rfl rfl rfl rfl (decide_eq_false h12) rfl (PureD.opD (p_ieq rfl rfl rfl)) ?_
       refine r_on rfl rfl rfl rfl (decide_eq_false h12) rfl (PureD.opD (p_move rfl rfl)) ?_
       refine (Classical.em (v0.Kind = (3 : Int))).elim (fun h13 => ?_) (fun h13 => ?_)
       ·replace H := ite_then h13 H
        refine r_on rfl rfl rfl rfl (decide_eq_true h13) rfl (PureD.opD (u_fa rfl rfl Tryd.underlying24 rfl in_22 (Nat.succ_ne_zero _) rfl rfl (ne_of_lt (n := 0) (Nat.lt_of_lt_of_eq (by decide) (Eq.symm (GValue.len v0)))))) ?_
        refine r_on rfl rfl rfl rfl (decide_eq_true h13) rfl (PureD.opD (u_ld rfl rfl Tryd.underlying22 rfl rfl ((Sub.refl _).trans (GValue.sub2 v0)))) ?_
        refine bindK H fun r'5 h14 H => ?_
        refine r_on rfl rfl rfl rfl (decide_eq_true h13) rfl (PureD.opD (p_callp rfl rfl rfl Tryd.func41 rfl rfl (g_ref_badReal_ac h14) ⟨rfl, trivial⟩)) ?_
        refine r_on rfl rfl rfl rfl (decide_eq_false h12) rfl (PureD.opD (p_pkt rfl rfl (decide_eq_true h13) (.same _))) ?_
        refine rp rfl rfl (p_pkf rfl rfl (decide_eq_false h12) (.same _)) ?_
        refine rp rfl rfl (p_move rfl rfl) ?_
        refine (Classical.em (r'5 = true)).elim (fun h15 => ?_) (fun h15 => ?_)
        ·replace H := ite_then h15 H
         refine r_off rfl rfl rfl rfl h15 rfl rfl ?_
         refine r_off rfl rfl rfl rfl h15 rfl rfl ?_
         refine r_off rfl rfl rfl rfl h15 rfl rfl ?_
         refine r_off rfl rfl rfl rfl h15 rfl rfl ?_
         refine rp rfl rfl (p_pkt rfl rfl h15 (.same _)) ?_
         refine rs [(60, .b true)] [] rfl rfl rfl ?_
         have hz := some_elim H
         subst hz
         exact RunW_nil rfl
        ·replace H := ite_else h15 H
         refine r_on rfl rfl rfl rfl (bfalse h15) rfl (PureD.opD (u_fa rfl rfl Tryd.underlying24 rfl in_9 (Nat.succ_ne_zero _) rfl rfl (ne_of_lt (n := 0) (Nat.lt_of_lt_of_eq (by decide) (Eq.symm (GValue.len v0)))))) ?_
         refine r_on rfl rfl rfl rfl (bfalse h15) rfl (PureD.opD (u_ld rfl rfl Tryd.underlying9 rfl rfl ((Sub.refl _).trans (GValue.sub3 v0)))) ?_
         refine bindK H fun r'6 h16 H => ?_
         refine r_on rfl rfl rfl rfl (bfalse h15) rfl (PureD.opD (p_callp rfl rfl rfl Tryd.func40 rfl rfl (g_utf8_ValidString_ac h16) ⟨rfl, trivial⟩)) ?_
         refine r_on rfl rfl rfl rfl (bfalse h15) rfl (PureD.opD (p_not rfl rfl)) ?_
         refine rp rfl rfl (p_pkf rfl rfl (bfalse h15) (.same _)) ?_
         refine rs [(60, .b (!r'6))] [] rfl rfl rfl ?_
         have hz := some_elim H
         subst hz
         exact RunW_nil rfl
       ·replace H := ite_else h13 H
        refine r_off rfl rfl rfl rfl (decide_eq_false h13) rfl rfl ?_
        refine r_off rfl rfl rfl rfl (decide_eq_false h13) rfl rfl ?_
        refine r_off rfl rfl rfl rfl (decide_eq_false h13) rfl rfl ?_
        refine r_on rfl rfl rfl rfl (decide_eq_false h12) rfl (PureD.opD (p_pkf rfl rfl (decide_eq_false h13) (.same _))) ?_
        refine rp rfl rfl (p_pkf rfl rfl (decide_eq_false h12) (.same _)) ?_
        refine rp rfl rfl (p_move rfl rfl) ?_
        refine r_on rfl rfl rfl rfl (bfalse (by decide)) rfl (PureD.opD (u_fa rfl rfl Tryd.underlying24 rfl in_9 (Nat.succ_ne_zero _) rfl rfl (ne_of_lt (n := 0) (Nat.lt_of_lt_of_eq (by decide) (Eq.symm (GValue.len v0)))))) ?_
        refine r_on rfl rfl rfl rfl (bfalse (by decide)) rfl (PureD.opD (u_ld rfl rfl Tryd.underlying9 rfl rfl ((Sub.refl _).trans (GValue.sub3 v0)))) ?_
        refine bindK H fun r'7 h17 H => ?_
        refine r_on rfl rfl rfl rfl (bfalse (by decide)) rfl (PureD.opD (p_callp rfl rfl rfl Tryd.func40 rfl rfl (g_utf8_ValidString_ac h17) ⟨rfl, trivial⟩)) ?_
        refine r_on rfl rfl rfl rfl (bfalse (by decide)) rfl (PureD.opD (p_not rfl rfl)) ?_
        refine rp rfl rfl (p_pkf rfl rfl (bfalse (by decide)) (.same _)) ?_
        refine rs [(60, .b (!r'7))] [] rfl rfl rfl ?_
        have hz := some_elim H
        subst hz
        exact RunW_nil rfl
     ·replace H := ite_else h11 H
      refine r_off rfl rfl rfl rfl (decide_eq_false h11) rfl rfl ?_
      refine r_off rfl rfl rfl rfl (decide_eq_false h11) rfl rfl ?_
      refine r_off rfl rfl rfl rfl (decide_eq_false h11) rfl rfl ?_
      refine r_off rfl rfl rfl rfl (decide_eq_false h11) rfl rfl ?_
      refine r_on rfl rfl rfl rfl (decide_eq_false h10) rfl (PureD.opD (p_pkf rfl rfl (decide_eq_false h11) (.same _))) ?_
      refine rp rfl rfl (p_pkf rfl rfl (decide_eq_false h10) (.same _)) ?_
      refine rp rfl rfl (p_move rfl rfl) ?_
      refine r_on rfl rfl rfl rfl (bfalse (by decide)) rfl (PureD.opD (u_fa rfl rfl Tryd.underlying24 rfl in_3 (Nat.succ_ne_zero _) rfl rfl (ne_of_lt (n := 0) (Nat.lt_of_lt_of_eq (by decide) (Eq.symm (GValue.len v0)))))) ?_
      refine r_on rfl rfl rfl rfl (bfalse (by decide)) rfl (PureD.opD (u_ld rfl rfl Tryd.underlying3 rfl rfl ((Sub.refl _).trans (GValue.sub0 v0)))) ?_
      refine r_on rfl rfl rfl rfl (bfalse (by decide)) rfl (PureD.opD (p_ieq rfl rfl rfl)) ?_
      refine r_on rfl rfl rfl rfl (bfalse (by decide)) rfl (PureD.opD (p_move rfl rfl)) ?_
      refine (Classical.em (v0.Kind = (3 : Int))).elim (fun h18 => ?_) (fun h18 => ?_)
      ·replace H := ite_then h18 H
       refine r_on rfl rfl rfl rfl (decide_eq_true h18) rfl (PureD.opD (u_fa rfl rfl Tryd.underlying24 rfl in_22 (Nat.succ_ne_zero _) rfl rfl (ne_of_lt (n := 0) (Nat.lt_of_lt_of_eq (by decide) (Eq.symm (GValue.len v0)))))) ?_
       refine r_on rfl rfl rfl rfl (decide_eq_true h18) rfl (PureD.opD (u_ld rfl rfl Tryd.underlying22 rfl rfl ((Sub.refl _).trans (GValue.sub2 v0)))) ?_
       refine bindK H fun r'8 h19 H => ?_
       refine r_on rfl rfl rfl rfl (decide_eq_true h18) rfl (PureD.opD (p_callp rfl rfl rfl Tryd.func41 rfl rfl (g_ref_badReal_ac h19) ⟨rfl, trivial⟩)) ?_
       refine r_on rfl rfl rfl rfl (bfalse (by decide)) rfl (PureD.opD (p_pkt rfl rfl (decide_eq_true h18) (.same _))) ?_
       refine rp rfl rfl (p_pkf rfl rfl (bfalse (by decide)) (.same _)) ?_
       refine rp rfl rfl (p_move rfl rfl) ?_
       refine (Classical.em (r'8 = true)).elim (fun h20 => ?_) (fun h20 => ?_)
       ·replace H := ite_then h20 H
        refine r_off rfl rfl rfl rfl h20 rfl rfl ?_
        refine r_off rfl rfl rfl rfl h20 rfl rfl ?_
        refine r_off rfl rfl rfl rfl h20 rfl rfl ?_
        refine r_off rfl rfl rfl rfl h20 rfl rfl ?_
        refine rp rfl rfl (p_pkt rfl rfl h20 (.same _)) ?_
        refine rs [(60, .b true)] [] rfl rfl rfl ?_
        have hz := some_elim H
        subst hz
        exact RunW_nil rfl
       ·replace H := ite_else h20 H
        refine r_on rfl rfl rfl rfl (bfalse h20) rfl (PureD.opD (u_fa rfl rfl Tryd.underlying24 rfl in_9 (Nat.succ_ne_zero _) rfl rfl (ne_of_lt (n := 0) (Nat.lt_of_lt_of_eq (by decide) (Eq.symm (GValue.len v0)))))) ?_
        refine r_on rfl rfl rfl rfl (bfalse h20) rfl (PureD.opD (u_ld rfl rfl Tryd.underlying9 rfl rfl ((Sub.refl _).trans (GValue.sub3 v0)))) ?_
        refine bindK H fun r'9 h21 H => ?_
        refine r_on rfl rfl rfl rfl (bfalse h20) rfl (PureD.opD (p_callp rfl rfl rfl Tryd.func40 rfl rfl (g_utf8_ValidString_ac h21) ⟨rfl, trivial⟩)) ?_
        refine r_on rfl rfl rfl rfl (bfalse h20) rfl (PureD.opD (p_not rfl rfl)) ?_
        refine rp rfl rfl (p_pkf rfl rfl (bfalse h20) (.same _)) ?_
        refine rs [(60, .b (!r'9))] [] rfl rfl rfl ?_
        have hz := some_elim H
        subst hz
        exact RunW_nil rfl
      ·replace H := ite_else h18 H
       refine r_off rfl rfl rfl rfl (decide_eq_false h18) rfl rfl ?_
       refine r_off rfl rfl rfl rfl (decide_eq_false h18) rfl rfl ?_
       refine r_off rfl rfl rfl rfl (decide_eq_false h18) rfl rfl ?_
       refine r_on rfl rfl rfl rfl (bfalse (by decide)) rfl (PureD.opD (p_pkf rfl rfl (decide_eq_false h18) (.same _))) ?_
       refine rp rfl rfl (p_pkf rfl rfl (bfalse (by decide)) (.same _)) ?_
       refine rp rfl rfl (p_move rfl rfl) ?_
       refine r_on rfl rfl rfl rfl (bfalse (by decide)) rfl (PureD.opD (u_fa rfl rfl Tryd.underlying24 rfl in_9 (Nat.succ_ne_zero _) rfl rfl (ne_of_lt (n := 0) (Nat.lt_of_lt_of_eq (by decide) (Eq.symm (GValue.len v0)))))) ?_
       refine r_on rfl rfl rfl rfl (bfalse (by decide)) rfl (PureD.opD (u_ld rfl rfl Tryd.underlying9 rfl rfl ((Sub.refl _).trans (GValue.sub3 v0)))) ?_
       refine bindK H fun r'10 h22 H => ?_
       refine r_on rfl rfl rfl rfl (bfalse (by decide)) rfl (PureD.opD (p_callp rfl rfl rfl Tryd.func40 rfl rfl (g_utf8_ValidString_ac h22) ⟨rfl, trivial⟩)) ?_
       refine r_on rfl rfl rfl rfl (bfalse (by decide)) rfl (PureD.opD (p_not rfl rfl)) ?_
       refine rp rfl rfl (p_pkf rfl rfl (bfalse (by decide)) (.same _)) ?_
       refine rs [(60, .b (!r'10))] [] rfl rfl rfl ?_
       have hz := some_elim H
       subst hz
       exact RunW_nil rfl
   ·refine AW2_cond rfl (fun h24 => ?_) (fun h24 => ?_)
    ·replace H := ite_then h24 H
     refine sg [0] rfl ?_
     refine rp rfl rfl (p_asg rfl rfl) ?_
     refine rz [(2, .i (3 : Int))] [] rfl rfl rfl ?_
     refine AW2_ret ?_
     have hz := some_elim H
     subst hz
     exact ⟨⟨res_tmp (.same _), trivial⟩, trivial⟩
    ·replace H := ite_else (ne_true h24) H
     refine as2 [] [] rfl rfl rfl ?_
     refine AW2_skip ?_
     refine sg [0] rfl ?_
     refine rp rfl rfl (p_asg rfl rfl) ?_
     refine rz [(2, .i (0 : Int))] [] rfl rfl rfl ?_
     refine AW2_ret ?_
     have hz := some_elim H
     subst hz
     exact ⟨⟨res_tmp (.same _), trivial⟩, trivial⟩
 ·subst hy
  obtain ⟨rfl, hs⟩ := hs
  have hz := some_elim H
  subst hz
  exact ⟨hs.1, hs.2⟩

/-! chirographref.valueOf -/
noncomputable def g_ref_valueOf (s0 : List UInt8) : Option (GValue × Int × Int) :=
  (if s0 = [] then some (GValue.zero, (0 : Int), (4 : Int)) else if 0 < s0.length then (if (w64 (((lrd s0 0).toNat : Int) - (1 : Int)) < (0 : Int)) ∨ (w64 (((lrd s0 0).toNat : Int) - (1 : Int)) > (4 : Int)) then some (GValue.zero, (0 : Int), (3 : Int)) else (if w64 (((lrd s0 0).toNat : Int) - (1 : Int)) = (4 : Int) then if 0 ≤ (1 : Int) ∧ (1 : Int) ≤ (s0.length : Int) then (g_ref_textOf (cut s0 (1 : Int) (s0.length : Int))).bind fun r'1 => some (r'1.1, r'1.2.1, r'1.2.2) else none else if 0 ≤ w64 (((lrd s0 0).toNat : Int) - (1 : Int)) ∧ w64 (((lrd s0 0).toNat : Int) - (1 : Int)) < (([(0 : Int), (1 : Int), (8 : Int), (8 : Int), (0 : Int)] : List Int).length : Int) then letO ((lrd ([(0 : Int), (1 : Int), (8 : Int), (8 : Int), (0 : Int)] : List Int) ((w64 (((lrd s0 0).toNat : Int) - (1 : Int))).toNat))) fun n7'2 => (if (s0.length : Int) < w64 ((1 : Int) + n7'2) then some (GValue.zero, (0 : Int), (4 : Int)) else if 0 ≤ (1 : Int) ∧ (1 : Int) ≤ w64 ((1 : Int) + n7'2) ∧ w64 ((1 : Int) + n7'2) ≤ (s0.length : Int) then (g_ref_number (cut s0 (1 : Int) (w64 ((1 : Int) + n7'2)))).bind fun r'3 => letO ({ GValue.zero with Kind := w64 (((lrd s0 0).toNat : Int) - (1 : Int)) }) fun v9'4 => ((if w64 (((lrd s0 0).toNat : Int) - (1 : Int)) = (1 : Int) then some ({ v9'4 with Int_ := w64 (r'3.toNat : Int) }) else (if w64 (((lrd s0 0).toNat : Int) - (1 : Int)) = (2 : Int) then letO ({ v9'4 with Int_ := w64 ((r'3 - (9223372036854775808 : UInt64)).toNat : Int) }) fun v9'6 => some v9'6 else (if w64 (((lrd s0 0).toNat : Int) - (1 : Int)) = (3 : Int) then (if r'3 < (9223372036854775808 : UInt64) then letO ({ { v9'4 with Bits := r'3 - (9223372036854775808 : UInt64) } with Bits := ~~~ r'3 }) fun v9'7 => some v9'7 else some ({ v9'4 with Bits := r'3 - (9223372036854775808 : UInt64) })) else some v9'4)))).bind fun j'5 => (g_ref_ValueFault j'5).bind fun r'8 => (if r'8 ≠ (0 : Int) then some (GValue.zero, (0 : Int), (3 : Int)) else some (j'5, w64 ((1 : Int) + n7'2), (0 : Int))) else none) else none)) else none)
set_option maxHeartbeats 4000000 in
set_option maxRecDepth 100000 in
theorem g_ref_valueOf_ac {s0 : List UInt8} {r : GValue × Int × Int} (H : g_ref_valueOf s0 = some r) : ACp Tryd.prog 55 [(AV.txt s0)] (.tup [(.agg (GValue.cs r.1)), (AV.int r.2.1), (AV.int r.2.2)]) := by
 refine ACp_of (AC2_of_body (vs := [.g (GValue.cs r.1), .i r.2.1, .i r.2.2]) Tryd.func55 rfl rfl (Nat.le_of_ble_eq_true rfl) rfl ?_) (fun _ => .same _)
 unfold g_ref_valueOf at H
 refine as2 [(0, .t s0)] [] rfl rfl rfl ?_
 refine sg [0, 1, 2] rfl ?_
 refine r_op rfl rfl (MakeD.opD (u_alloc 2 rfl in_24 one_24 zc_24) rfl rfl rfl rfl) ?_
 refine rp rfl rfl (p_asg rfl rfl) ?_
 refine rp rfl rfl (p_asg rfl rfl) ?_
 refine rz [(0, .t s0), (2, .q 2 (0))] [(2, .pure (GValue.cs GValue.zero))] rfl rfl rfl ?_
 refine AW2_seq ?_
 refine sg [0, 1] rfl ?_
 refine rp rfl rfl (p_move rfl rfl) ?_
 refine rp rfl rfl (p_seq rfl rfl rfl) ?_
 refine rz [(0, .t s0), (2, .q 2 (0)), (11, .b (decide (s0 = [])))] [(2, .pure (GValue.cs GValue.zero))] rfl rfl rfl ?_
 refine AW2_if (p := s0 = []) rfl (fun h1 => ?_) (fun h1 => ?_)
 ·replace H := ite_then h1 H
  refine sg [0, 1, 2, 3] rfl ?_
  refine rp rfl rfl (u_bld rfl in_24 one_24 zc_24 pl_24 rfl rfl) ?_
  refine r_op rfl rfl (u_st rfl rfl rfl rfl rfl in_24 (GValue.len GValue.zero) (ne_of_lt (n := 0) (Nat.lt_of_lt_of_eq (by decide) (Eq.symm (GValue.len GValue.zero)))) (Upd.refl ((GValue.len GValue.zero).trans (GValue.len GValue.zero).symm))) ?_
  refine rp rfl rfl (p_asg rfl rfl) ?_
  refine rp rfl rfl (p_asg rfl rfl) ?_
  refine rz [(2, .q 2 (0)), (3, .i (0 : Int)), (4, .i (4 : Int))] [(2, .pure (GValue.cs GValue.zero))] rfl rfl rfl ?_
  refine AW2_ret ?_
  have hz := some_elim H
  subst hz
  exact ⟨⟨res_cella Tryd.underlying24 rfl in_24.sz rfl (Sub.le (Sub.refl _) (GValue.len GValue.zero)) (by decide) (Sub.take (Sub.refl _) (GValue.len GValue.zero)), res_tmp (.same _), res_tmp (.same _), trivial⟩, trivial⟩
 ·replace H := ite_else h1 H
  refine as2 [(0, .t s0), (2, .q 2 (0))] [(2, .pure (GValue.cs GValue.zero))] rfl rfl rfl ?_
  refine AW2_skip ?_
  refine sg [0, 1, 2, 3, 4] rfl ?_
  refine rp rfl rfl (p_move rfl rfl) ?_
  refine chkK H fun h2 H => ?_
  refine rp rfl rfl (p_ixt rfl Tryd.underlying9 rfl rfl rfl (lrd_get h2)) ?_
  refine rp rfl rfl (p_ci rfl Tryd.underlying5 Tryd.underlying3 rfl (wrapu8i (lrd s0 0))) ?_
  refine rp rfl rfl (p_bin rfl rfl rfl rfl) ?_
  refine rp rfl rfl (p_asg rfl rfl) ?_
  refine rz [(0, .t s0), (2, .q 2 (0)), (5, .i (w64 (((lrd s0 0).toNat : Int) - (1 : Int))))] [(2, .pure (GValue.cs GValue.zero))] rfl rfl rfl ?_
  refine sg [0, 1] rfl ?_
  refine r_op rfl rfl (MakeD.opD (u_bs 17 rfl Tryd.underlying101 in_3 rfl one_3 (by decide) (by decide) rfl rfl rfl) rfl rfl rfl rfl) ?_
  refine rp rfl rfl (p_asg rfl rfl) ?_
  refine RunW_st [(0, .t s0), (2, .q 2 (0)), (5, .i (w64 (((lrd s0 0).toNat : Int) - (1 : Int)))), (6, .c (.own 17 ([(0 : Int), (1 : Int), (8 : Int), (8 : Int), (0 : Int)] : List Int).length 1))] [(2, .pure (GValue.cs GValue.zero)), (17, .pure (([(0 : Int), (1 : Int), (8 : Int), (8 : Int), (0 : Int)] : List Int).map AV.int))] rfl ⟨TLes.same _, TLes.same _, TLes.same _, TLes.own rfl, trivial⟩ ⟨rfl, rfl, trivial⟩ ?_
  refine RunW_gho (Gho_ren 17 6 rfl rfl rfl rfl rfl) ?_
  refine rz [(0, .t s0), (2, .q 2 (0)), (5, .i (w64 (((lrd s0 0).toNat : Int) - (1 : Int)))), (6, .c (.own 6 ([(0 : Int), (1 : Int), (8 : Int), (8 : Int), (0 : Int)] : List Int).length 1))] [(2, .pure (GValue.cs GValue.zero)), (6, .pure (([(0 : Int), (1 : Int), (8 : Int), (8 : Int), (0 : Int)] : List Int).map AV.int))] rfl rfl rfl ?_
  refine AW2_seq ?_
  refine AW2_seq ?_
  refine AW2_mid (⟨[(0, .t s0), (2, .q 2 (0)), (5, .i (w64 (((lrd s0 0).toNat : Int) - (1 : Int)))), (6, .c (.own 6 ([(0 : Int), (1 : Int), (8 : Int), (8 : Int), (0 : Int)] : List Int).length 1)), (23, .b (decide ((w64 (((lrd s0 0).toNat : Int) - (1 : Int)) < (0 : Int)) ∨ (w64 (((lrd s0 0).toNat : Int) - (1 : Int)) > (4 : Int)))))], [(2, .pure (GValue.cs GValue.zero)), (6, .pure (([(0 : Int), (1 : Int), (8 : Int), (8 : Int), (0 : Int)] : List Int).map AV.int))], 79⟩ : TS) ?_ ?_
  ·refine AW2_reg [0, 1, 2, 3, 4, 5] rfl ?_
   refine rp rfl rfl (p_move rfl rfl) ?_
   refine rp rfl rfl (p_bin rfl rfl rfl rfl) ?_
   refine rp rfl rfl (p_move rfl rfl) ?_
   refine (Classical.em (w64 (((lrd s0 0).toNat : Int) - (1 : Int)) < (0 : Int))).elim (fun h3 => ?_) (fun h3 => ?_)
   ·refine r_off rfl rfl rfl rfl (decide_eq_true h3) rfl rfl ?_
    refine r_off rfl rfl rfl rfl (decide_eq_true h3) rfl rfl ?_
    refine rp rfl rfl (p_pkt rfl rfl (decide_eq_true h3) (tb (decide_eq_true (p := (w64 (((lrd s0 0).toNat : Int) - (1 : Int)) < (0 : Int)) ∨ (w64 (((lrd s0 0).toNat : Int) - (1 : Int)) > (4 : Int))) (Or.inl h3)).symm)) ?_
    refine rs [(0, .t s0), (2, .q 2 (0)), (5, .i (w64 (((lrd s0 0).toNat : Int) - (1 : Int)))), (6, .c (.own 6 ([(0 : Int), (1 : Int), (8 : Int), (8 : Int), (0 : Int)] : List Int).length 1)), (23, .b (decide ((w64 (((lrd s0 0).toNat : Int) - (1 : Int)) < (0 : Int)) ∨ (w64 (((lrd s0 0).toNat : Int) - (1 : Int)) > (4 : Int)))))] [(2, .pure (GValue.cs GValue.zero)), (6, .pure (([(0 : Int), (1 : Int), (8 : Int), (8 : Int), (0 : Int)] : List Int).map AV.int))] rfl rfl rfl ?_
    exact RunW_nil rfl
   ·refine r_on rfl rfl rfl rfl (decide_eq_false h3) rfl (PureD.opD (p_move rfl rfl)) ?_
    refine r_on rfl rfl rfl rfl (decide_eq_false h3) rfl (PureD.opD (p_bin rfl rfl rfl rfl)) ?_
    refine rp rfl rfl (p_pkf rfl rfl (decide_eq_false h3) (tb ((or_l (p := w64 (((lrd s0 0).toNat : Int) - (1 : Int)) < (0 : Int)) (q := w64 (((lrd s0 0).toNat : Int) - (1 : Int)) > (4 : Int)) h3)))) ?_
    refine rs [(0, .t s0), (2, .q 2 (0)), (5, .i (w64 (((lrd s0 0).toNat : Int) - (1 : Int)))), (6, .c (.own 6 ([(0 : Int), (1 : Int), (8 : Int), (8 : Int), (0 : Int)] : List Int).length 1)), (23, .b (decide ((w64 (((lrd s0 0).toNat : Int) - (1 : Int)) < (0 : Int)) ∨ (w64 (((lrd s0 0).toNat : Int) - (1 : Int)) > (4 : Int)))))] [(2, .pure (GValue.cs GValue.zero)), (6, .pure (([(0 : Int), (1 : Int), (8 : Int), (8 : Int), (0 : Int)] : List Int).map AV.int))] rfl rfl rfl ?_
    exact RunW_nil rfl
  ·refine AW2_if (p := (w64 (((lrd s0 0).toNat : Int) - (1 : Int)) < (0 : Int)) ∨ (w64 (((lrd s0 0).toNat : Int) - (1 : Int)) > (4 : Int))) rfl (fun h4 => ?_) (fun h4 => ?_)
   ·replace H := ite_then h4 H
    refine sg [0, 1, 2, 3] rfl ?_
    refine rp rfl rfl (u_bld rfl in_24 one_24 zc_24 pl_24 rfl rfl) ?_
    refine r_op rfl rfl (u_st rfl rfl rfl rfl rfl in_24 (GValue.len GValue.zero) (ne_of_lt (n := 0) (Nat.lt_of_lt_of_eq (by decide) (Eq.symm (GValue.len GValue.zero)))) (Upd.refl ((GValue.len GValue.zero).trans (GValue.len GValue.zero).symm))) ?_
    refine rp rfl rfl (p_asg rfl rfl) ?_
    refine rp rfl rfl (p_asg rfl rfl) ?_
    refine rz [(2, .q 2 (0)), (3, .i (0 : Int)), (4, .i (3 : Int))] [(2, .pure (GValue.cs GValue.zero))] rfl rfl rfl ?_
    refine AW2_ret ?_
    have hz := some_elim H
    subst hz
    exact ⟨⟨res_cella Tryd.underlying24 rfl in_24.sz rfl (Sub.le (Sub.refl _) (GValue.len GValue.zero)) (by decide) (Sub.take (Sub.refl _) (GValue.len GValue.zero)), res_tmp (.same _), res_tmp (.same _), trivial⟩, trivial⟩
   ·replace H := ite_else h4 H
    refine as2 [(0, .t s0), (2, .q 2 (0)), (5, .i (w64 (((lrd s0 0).toNat : Int) - (1 : Int)))), (6, .c (.own 6 ([(0 : Int), (1 : Int), (8 : Int), (8 : Int), (0 : Int)] : List Int).length 1))] [(2, .pure (GValue.cs GValue.zero)), (6, .pure (([(0 : Int), (1 : Int), (8 : Int), (8 : Int), (0 : Int)] : List Int).map AV.int))] rfl rfl rfl ?_
    refine AW2_skip ?_
    refine AW2_seq ?_
    refine sg [0, 1] rfl ?_
    refine rp rfl rfl (p_move rfl rfl) ?_
    refine rp rfl rfl (p_ieq rfl rfl rfl) ?_
    refine rz [(0, .t s0), (2, .q 2 (0)), (5, .i (w64 (((lrd s0 0).toNat : Int) - (1 : Int)))), (6, .c (.own 6 ([(0 : Int), (1 : Int), (8 : Int), (8 : Int), (0 : Int)] : List Int).length 1)), (26, .b (decide (w64 (((lrd s0 0).toNat : Int) - (1 : Int)) = (4 : Int))))] [(2, .pure (GValue.cs GValue.zero)), (6, .pure (([(0 : Int), (1 : Int), (8 : Int), (8 : Int), (0 : Int)] : List Int).map AV.int))] rfl rfl rfl ?_
    refine AW2_if (p := w64 (((lrd s0 0).toNat : Int) - (1 : Int)) = (4 : Int)) rfl (fun h5 => ?_) (fun h5 => ?_)
    ·replace H := ite_then h5 H
     refine sg [0, 1, 2, 3, 4, 5, 6, 7, 8] rfl ?_
     refine rp rfl rfl (p_move rfl rfl) ?_
     refine chkK H fun h6 H => ?_
     refine rp rfl rfl (u_cutt (a := (1 : Int)) (b := (s0.length : Int)) rfl Tryd.underlying9 rfl (bT_i (show 0 ≤ (1 : Int) ∧ (1 : Int) ≤ (s0.length : Int) ∧ (s0.length : Int) ≤ (s0.length : Int) from ⟨h6.1, h6.2, Int.le_refl _⟩).1 rfl) (bT_len _) (show 0 ≤ (1 : Int) ∧ (1 : Int) ≤ (s0.length : Int) ∧ (s0.length : Int) ≤ (s0.length : Int) from ⟨h6.1, h6.2, Int.le_refl _⟩)) ?_
     refine bindK H fun r'1 h7 H => ?_
     refine rp rfl rfl (p_callp rfl rfl rfl Tryd.func76 rfl rfl (g_ref_textOf_ac h7) ⟨rfl, trivial⟩) ?_
     refine rp rfl rfl (p_ext rfl rfl rfl rfl) ?_
     refine rp rfl rfl (p_ext rfl rfl rfl rfl) ?_
     refine rp rfl rfl (p_ext rfl rfl rfl rfl) ?_
     refine r_op rfl rfl (u_st rfl rfl rfl rfl rfl in_24 (GValue.len r'1.1) (ne_of_lt (n := 0) (Nat.lt_of_lt_of_eq (by decide) (Eq.symm (GValue.len GValue.zero)))) (Upd.refl ((GValue.len r'1.1).trans (GValue.len GValue.zero).symm))) ?_
     refine rp rfl rfl (p_asg rfl rfl) ?_
     refine rp rfl rfl (p_asg rfl rfl) ?_
     refine rz [(2, .q 2 (0)), (3, .i r'1.2.1), (4, .i r'1.2.2)] [(2, .pure (GValue.cs r'1.1))] rfl rfl rfl ?_
     refine AW2_ret ?_
     have hz := some_elim H
     subst hz
     exact ⟨⟨res_cella Tryd.underlying24 rfl in_24.sz rfl (Sub.le (Sub.refl _) (GValue.len r'1.1)) (by decide) (Sub.take (Sub.refl _) (GValue.len r'1.1)), res_tmp (.same _), res_tmp (.same _), trivial⟩, trivial⟩
    ·replace H := ite_else h5 H
     refine as2 [(0, .t s0), (2, .q 2 (0)), (5, .i (w64 (((lrd s0 0).toNat : Int) - (1 : Int)))), (6, .c (.own 6 ([(0 : Int), (1 : Int), (8 : Int), (8 : Int), (0 : Int)] : List Int).length 1))] [(2, .pure (GValue.cs GValue.zero)), (6, .pure (([(0 : Int), (1 : Int), (8 : Int), (8 : Int), (0 : Int)] : List Int).map AV.int))] rfl rfl rfl ?_
     refine AW2_skip ?_
     refine sg [0, 1, 2, 3, 4] rfl ?_
     refine rp rfl rfl (p_move rfl rfl) ?_
     refine rp rfl rfl (p_move rfl rfl) ?_
     refine chkK H fun h8 H => ?_
     refine rp rfl rfl (u_ixo rfl rfl Tryd.underlying101 in_3 rfl rfl (lne (ixn h8)) rfl (ixe h8) (ixn h8)) ?_
     refine rp rfl rfl (u_ld rfl rfl Tryd.underlying3 rfl rfl ((Sub.refl _).trans (Sub.map default (ixn h8)))) ?_
     refine rp rfl rfl (p_asg rfl rfl) ?_
     refine rz [(0, .t s0), (2, .q 2 (0)), (5, .i (w64 (((lrd s0 0).toNat : Int) - (1 : Int)))), (7, .i (lrd ([(0 : Int), (1 : Int), (8 : Int), (8 : Int), (0 : Int)] : List Int) ((w64 (((lrd s0 0).toNat : Int) - (1 : Int))).toNat)))] [(2, .pure (GValue.cs GValue.zero))] rfl rfl rfl ?_
     refine gen1 (fun n7'2 => (⟨[(0, .t s0), (2, .q 2 (0)), (5, .i (w64 (((lrd s0 0).toNat : Int) - (1 : Int)))), (7, .i n7'2)], [(2, .pure (GValue.cs GValue.zero))], 79⟩ : TS)) H ?_
     intro n7'2 H
     refine AW2_seq ?_
     refine sg [0, 1, 2, 3, 4] rfl ?_
     refine rp rfl rfl (p_move rfl rfl) ?_
     refine rp rfl rfl (p_lent rfl Tryd.underlying9 rfl) ?_
     refine rp rfl rfl (p_move rfl rfl) ?_
     refine rp rfl rfl (p_bin rfl rfl rfl rfl) ?_
     refine rp rfl rfl (p_bin rfl rfl rfl rfl) ?_
     refine rz [(0, .t s0), (2, .q 2 (0)), (5, .i (w64 (((lrd s0 0).toNat : Int) - (1 : Int)))), (7, .i n7'2), (41, .b (decide ((s0.length : Int) < w64 ((1 : Int) + n7'2))))] [(2, .pure (GValue.cs GValue.zero))] rfl rfl rfl ?_
     refine AW2_if (p := (s0.length : Int) < w64 ((1 : Int) + n7'2)) rfl (fun h9 => ?_) (fun h9 => ?_)
     ·replace H := ite_then h9 H
      refine sg [0, 1, 2, 3] rfl ?_
      refine rp rfl rfl (u_bld rfl in_24 one_24 zc_24 pl_24 rfl rfl) ?_
      refine r_op rfl rfl (u_st rfl rfl rfl rfl rfl in_24 (GValue.len GValue.zero) (ne_of_lt (n := 0) (Nat.lt_of_lt_of_eq (by decide) (Eq.symm (GValue.len GValue.zero)))) (Upd.refl ((GValue.len GValue.zero).trans (GValue.len GValue.zero).symm))) ?_
      refine rp rfl rfl (p_asg rfl rfl) ?_
      refine rp rfl rfl (p_asg rfl rfl) ?_
      refine rz [(2, .q 2 (0)), (3, .i (0 : Int)), (4, .i (4 : Int))] [(2, .pure (GValue.cs GValue.zero))] rfl rfl rfl ?_
      refine AW2_ret ?_
      have hz := some_elim H
      subst hz
      exact ⟨⟨res_cella Tryd.underlying24 rfl in_24.sz rfl (Sub.le (Sub.refl _) (GValue.len GValue.zero)) (by decide) (Sub.take (Sub.refl _) (GValue.len GValue.zero)), res_tmp (.same _), res_tmp (.same _), trivial⟩, trivial⟩
     ·replace H := ite_else h9 H
      refine as2 [(0, .t s0), (2, .q 2 (0)), (5, .i (w64 (((lrd s0 0).toNat : Int) - (1 : Int)))), (7, .i n7'2)] [(2, .pure (GValue.cs GValue.zero))] rfl rfl rfl ?_
      refine AW2_skip ?_
      refine sg [0, 1, 2, 3, 4, 5] rfl ?_
      refine rp rfl rfl (p_move rfl rfl) ?_
      refine rp rfl rfl (p_move rfl rfl) ?_
      refine rp rfl rfl (p_bin rfl rfl rfl rfl) ?_
      refine chkK H fun h10 H => ?_
      refine rp rfl rfl (u_cutt (a := (1 : Int)) (b := w64 ((1 : Int) + n7'2)) rfl Tryd.underlying9 rfl (bT_i (show 0 ≤ (1 : Int) ∧ (1 : Int) ≤ w64 ((1 : Int) + n7'2) ∧ w64 ((1 : Int) + n7'2) ≤ (s0.length : Int) from h10).1 rfl) (bT_i (Int.le_trans (show 0 ≤ (1 : Int) ∧ (1 : Int) ≤ w64 ((1 : Int) + n7'2) ∧ w64 ((1 : Int) + n7'2) ≤ (s0.length : Int) from h10).1 (show 0 ≤ (1 : Int) ∧ (1 : Int) ≤ w64 ((1 : Int) + n7'2) ∧ w64 ((1 : Int) + n7'2) ≤ (s0.length : Int) from h10).2.1) rfl) (show 0 ≤ (1 : Int) ∧ (1 : Int) ≤ w64 ((1 : Int) + n7'2) ∧ w64 ((1 : Int) + n7'2) ≤ (s0.length : Int) from h10)) ?_
      refine bindK H fun r'3 h11 H => ?_
      refine rp rfl rfl (p_callp rfl rfl rfl Tryd.func57 rfl rfl (g_ref_number_ac h11) ⟨rfl, trivial⟩) ?_
      refine rp rfl rfl (p_asg rfl rfl) ?_
      refine rz [(2, .q 2 (0)), (5, .i (w64 (((lrd s0 0).toNat : Int) - (1 : Int)))), (7, .i n7'2), (8, .p (AV.u64 r'3))] [(2, .pure (GValue.cs GValue.zero))] rfl rfl rfl ?_
      refine sg [0, 1, 2, 3] rfl ?_
      refine rp rfl rfl (p_move rfl rfl) ?_
      refine rp rfl rfl (u_bld rfl in_24 one_24 zc_24 pl_24 rfl (af_cons rfl rfl (GValue.upd0 GValue.zero (w64 (((lrd s0 0).toNat : Int) - (1 : Int)))) rfl)) ?_
      refine r_op rfl rfl (MakeD.opD (u_alloc 9 rfl in_24 one_24 zc_24) rfl rfl rfl rfl) ?_
      refine r_op rfl rfl (u_st rfl rfl rfl rfl rfl in_24 (GValue.len ((GValue.w0 GValue.zero (w64 (((lrd s0 0).toNat : Int) - (1 : Int)))))) (ne_of_lt (n := 0) (Nat.lt_of_lt_of_eq (by decide) (Eq.symm (GValue.len GValue.zero)))) (Upd.refl ((GValue.len ((GValue.w0 GValue.zero (w64 (((lrd s0 0).toNat : Int) - (1 : Int)))))).trans (GValue.len GValue.zero).symm))) ?_
      refine rz [(2, .q 2 (0)), (5, .i (w64 (((lrd s0 0).toNat : Int) - (1 : Int)))), (7, .i n7'2), (8, .p (AV.u64 r'3)), (9, .q 9 (0))] [(2, .pure (GValue.cs GValue.zero)), (9, .pure (GValue.cs ((GValue.w0 GValue.zero (w64 (((lrd s0 0).toNat : Int) - (1 : Int)))))))] rfl rfl rfl ?_
      refine gen1 (fun v9'4 => (⟨[(2, .q 2 (0)), (5, .i (w64 (((lrd s0 0).toNat : Int) - (1 : Int)))), (7, .i n7'2), (8, .p (AV.u64 r'3)), (9, .q 9 (0))], [(2, .pure (GValue.cs GValue.zero)), (9, .pure (GValue.cs v9'4))], 79⟩ : TS)) H ?_
      intro v9'4 H
      refine AW2_seq ?_
      refine bindK H fun j'5 h12 H => ?_
      refine AW2_mid (⟨[(2, .q 2 (0)), (7, .i n7'2), (9, .q 9 (0))], [(2, .pure (GValue.cs GValue.zero)), (9, .pure (GValue.cs j'5))], 79⟩ : TS) ?_ ?_
      ·clear H
       have H := h12
       clear h12
       refine sg [0] rfl ?_
       refine rp rfl rfl (p_move rfl rfl) ?_
       refine rz [(2, .q 2 (0)), (7, .i n7'2), (8, .p (AV.u64 r'3)), (9, .q 9 (0)), (50, .i (w64 (((lrd s0 0).toNat : Int) - (1 : Int))))] [(2, .pure (GValue.cs GValue.zero)), (9, .pure (GValue.cs v9'4))] rfl rfl rfl ?_
       refine AW2_block ?_
       refine sg [0, 1] rfl ?_
       refine rp rfl rfl (p_ieq rfl rfl rfl) ?_
       refine rp rfl rfl (p_asg rfl rfl) ?_
       refine rz [(2, .q 2 (0)), (7, .i n7'2), (8, .p (AV.u64 r'3)), (9, .q 9 (0)), (50, .i (w64 (((lrd s0 0).toNat : Int) - (1 : Int)))), (51, .b (decide (w64 (((lrd s0 0).toNat : Int) - (1 : Int)) = (1 : Int))))] [(2, .pure (GValue.cs GValue.zero)), (9, .pure (GValue.cs v9'4))] rfl rfl rfl ?_
       refine AW2_if (p := w64 (((lrd s0 0).toNat : Int) - (1 : Int)) = (1 : Int)) rfl (fun h13 => ?_) (fun h13 => ?_)
       ·replace H := ite_then h13 H
        refine AW2_reg [0, 1, 2, 3] rfl ?_
        refine rp rfl rfl (p_move rfl rfl) ?_
        refine rp rfl rfl (p_u64_i (a := r'3) rfl Tryd.underlying22 Tryd.underlying3 rfl) ?_
        refine rp rfl rfl (u_fa rfl rfl Tryd.underlying24 rfl in_3 (Nat.succ_ne_zero _) rfl rfl (ne_of_lt (n := 0) (Nat.lt_of_lt_of_eq (by decide) (Eq.symm (GValue.len v9'4))))) ?_
        refine r_op rfl rfl (u_st rfl rfl rfl rfl rfl in_3 rfl (ne_of_lt (n := 0) (Nat.lt_of_lt_of_eq (by decide) (Eq.symm (GValue.len v9'4)))) (Upd.trans (Sub.refl _) (GValue.upd1 v9'4 (w64 (r'3.toNat : Int))) (Upd.refl ((GValue.len ((GValue.w1 v9'4 (w64 (r'3.toNat : Int))))).trans (GValue.len v9'4).symm)))) ?_
        refine rz [(2, .q 2 (0)), (7, .i n7'2), (9, .q 9 (0))] [(2, .pure (GValue.cs GValue.zero)), (9, .pure (GValue.cs ((GValue.w1 v9'4 (w64 (r'3.toNat : Int))))))] rfl rfl rfl ?_
        have hz := some_elim H
        subst hz
        exact rfl
       ·replace H := ite_else h13 H
        refine sg [0, 1] rfl ?_
        refine rp rfl rfl (p_ieq rfl rfl rfl) ?_
        refine rp rfl rfl (p_asg rfl rfl) ?_
        refine rz [(2, .q 2 (0)), (7, .i n7'2), (8, .p (AV.u64 r'3)), (9, .q 9 (0)), (50, .i (w64 (((lrd s0 0).toNat : Int) - (1 : Int)))), (56, .b (decide (w64 (((lrd s0 0).toNat : Int) - (1 : Int)) = (2 : Int))))] [(2, .pure (GValue.cs GValue.zero)), (9, .pure (GValue.cs v9'4))] rfl rfl rfl ?_
        refine AW2_if (p := w64 (((lrd s0 0).toNat : Int) - (1 : Int)) = (2 : Int)) rfl (fun h14 => ?_) (fun h14 => ?_)
        ·replace H := ite_then h14 H
         refine AW2_reg [0, 1, 2, 3, 4] rfl ?_
         refine rp rfl rfl (p_move rfl rfl) ?_
         refine rp rfl rfl (p_u64sub (a := r'3) (b := (9223372036854775808 : UInt64)) rfl rfl rfl) ?_
         refine rp rfl rfl (p_u64_i (a := r'3 - (9223372036854775808 : UInt64)) rfl Tryd.underlying22 Tryd.underlying3 rfl) ?_
         refine rp rfl rfl (u_fa rfl rfl Tryd.underlying24 rfl in_3 (Nat.succ_ne_zero _) rfl rfl (ne_of_lt (n := 0) (Nat.lt_of_lt_of_eq (by decide) (Eq.symm (GValue.len v9'4))))) ?_
         refine r_op rfl rfl (u_st rfl rfl rfl rfl rfl in_3 rfl (ne_of_lt (n := 0) (Nat.lt_of_lt_of_eq (by decide) (Eq.symm (GValue.len v9'4)))) (Upd.trans (Sub.refl _) (GValue.upd1 v9'4 (w64 ((r'3 - (9223372036854775808 : UInt64)).toNat : Int))) (Upd.refl ((GValue.len ((GValue.w1 v9'4 (w64 ((r'3 - (9223372036854775808 : UInt64)).toNat : Int))))).trans (GValue.len v9'4).symm)))) ?_
         refine rz [(2, .q 2 (0)), (7, .i n7'2), (9, .q 9 (0))] [(2, .pure (GValue.cs GValue.zero)), (9, .pure (GValue.cs ((GValue.w1 v9'4 (w64 ((r'3 - (9223372036854775808 : UInt64)).toNat : Int))))))] rfl rfl rfl ?_
         refine gen1 (fun v9'6 => (⟨[(2, .q 2 (0)), (7, .i n7'2), (9, .q 9 (0))], [(2, .pure (GValue.cs GValue.zero)), (9, .pure (GValue.cs v9'6))], 79⟩ : TS)) H ?_
         intro v9'6 H
         have hz := some_elim H
         subst hz
         exact rfl
        ·replace H := ite_else h14 H
         refine sg [0, 1] rfl ?_
         refine rp rfl rfl (p_ieq rfl rfl rfl) ?_
         refine rp rfl rfl (p_asg rfl rfl) ?_
         refine rz [(2, .q 2 (0)), (7, .i n7'2), (8, .p (AV.u64 r'3)), (9, .q 9 (0)), (62, .b (decide (w64 (((lrd s0 0).toNat : Int) - (1 : Int)) = (3 : Int))))] [(2, .pure (GValue.cs GValue.zero)), (9, .pure (GValue.cs v9'4))] rfl rfl rfl ?_
         refine AW2_if (p := w64 (((lrd s0 0).toNat : Int) - (1 : Int)) = (3 : Int)) rfl (fun h15 => ?_) (fun h15 => ?_)
         ·replace H := ite_then h15 H
          refine sg [0, 1, 2, 3] rfl ?_
          refine rp rfl rfl (p_move rfl rfl) ?_
          refine rp rfl rfl (p_u64sub (a := r'3) (b := (9223372036854775808 : UInt64)) rfl rfl rfl) ?_
          refine rp rfl rfl (u_fa rfl rfl Tryd.underlying24 rfl in_22 (Nat.succ_ne_zero _) rfl rfl (ne_of_lt (n := 0) (Nat.lt_of_lt_of_eq (by decide) (Eq.symm (GValue.len v9'4))))) ?_
          refine r_op rfl rfl (u_st rfl rfl rfl rfl rfl in_22 rfl (ne_of_lt (n := 0) (Nat.lt_of_lt_of_eq (by decide) (Eq.symm (GValue.len v9'4)))) (Upd.trans (Sub.refl _) (GValue.upd2 v9'4 (r'3 - (9223372036854775808 : UInt64))) (Upd.refl ((GValue.len ((GValue.w2 v9'4 (r'3 - (9223372036854775808 : UInt64))))).trans (GValue.len v9'4).symm)))) ?_
          refine rz [(2, .q 2 (0)), (7, .i n7'2), (8, .p (AV.u64 r'3)), (9, .q 9 (0))] [(2, .pure (GValue.cs GValue.zero)), (9, .pure (GValue.cs ((GValue.w2 v9'4 (r'3 - (9223372036854775808 : UInt64))))))] rfl rfl rfl ?_
          refine sg [0, 1] rfl ?_
          refine rp rfl rfl (p_move rfl rfl) ?_
          refine rp rfl rfl (p_u64lt (a := r'3) (b := (9223372036854775808 : UInt64)) rfl rfl rfl) ?_
          refine rz [(2, .q 2 (0)), (7, .i n7'2), (8, .p (AV.u64 r'3)), (9, .q 9 (0)), (68, .b (decide (r'3 < (9223372036854775808 : UInt64))))] [(2, .pure (GValue.cs GValue.zero)), (9, .pure (GValue.cs ((GValue.w2 v9'4 (r'3 - (9223372036854775808 : UInt64))))))] rfl rfl rfl ?_
          refine AW2_if (p := r'3 < (9223372036854775808 : UInt64)) rfl (fun h16 => ?_) (fun h16 => ?_)
          ·replace H := ite_then h16 H
           refine AW2_reg [0, 1, 2, 3] rfl ?_
           refine rp rfl rfl (p_move rfl rfl) ?_
           refine rp rfl rfl (p_u64cpl rfl rfl) ?_
           refine rp rfl rfl (u_fa rfl rfl Tryd.underlying24 rfl in_22 (Nat.succ_ne_zero _) rfl rfl (ne_of_lt (n := 0) (Nat.lt_of_lt_of_eq (by decide) (Eq.symm (GValue.len ((GValue.w2 v9'4 (r'3 - (9223372036854775808 : UInt64))))))))) ?_
           refine r_op rfl rfl (u_st rfl rfl rfl rfl rfl in_22 rfl (ne_of_lt (n := 0) (Nat.lt_of_lt_of_eq (by decide) (Eq.symm (GValue.len ((GValue.w2 v9'4 (r'3 - (9223372036854775808 : UInt64)))))))) (Upd.trans (Sub.refl _) (GValue.upd2 ((GValue.w2 v9'4 (r'3 - (9223372036854775808 : UInt64)))) (~~~ r'3)) (Upd.refl ((GValue.len ((GValue.w2 (GValue.w2 v9'4 (r'3 - (9223372036854775808 : UInt64))) (~~~ r'3)))).trans (GValue.len ((GValue.w2 v9'4 (r'3 - (9223372036854775808 : UInt64))))).symm)))) ?_
           refine rz [(2, .q 2 (0)), (7, .i n7'2), (9, .q 9 (0))] [(2, .pure (GValue.cs GValue.zero)), (9, .pure (GValue.cs ((GValue.w2 (GValue.w2 v9'4 (r'3 - (9223372036854775808 : UInt64))) (~~~ r'3)))))] rfl rfl rfl ?_
           refine gen1 (fun v9'7 => (⟨[(2, .q 2 (0)), (7, .i n7'2), (9, .q 9 (0))], [(2, .pure (GValue.cs GValue.zero)), (9, .pure (GValue.cs v9'7))], 79⟩ : TS)) H ?_
           intro v9'7 H
           have hz := some_elim H
           subst hz
           exact rfl
          ·replace H := ite_else h16 H
           refine as2 [(2, .q 2 (0)), (7, .i n7'2), (9, .q 9 (0))] [(2, .pure (GValue.cs GValue.zero)), (9, .pure (GValue.cs ((GValue.w2 v9'4 (r'3 - (9223372036854775808 : UInt64))))))] rfl rfl rfl ?_
           refine AW2_skip ?_
           have hz := some_elim H
           subst hz
           exact rfl
         ·replace H := ite_else h15 H
          refine as2 [(2, .q 2 (0)), (7, .i n7'2), (9, .q 9 (0))] [(2, .pure (GValue.cs GValue.zero)), (9, .pure (GValue.cs v9'4))] rfl rfl rfl ?_
          refine AW2_skip ?_
          have hz := some_elim H
          subst hz
          exact rfl
      ·refine AW2_seq ?_
       refine sg [0, 1, 2] rfl ?_
       refine rp rfl rfl (u_lda rfl rfl Tryd.underlying24 rfl in_24 rfl (Nat.succ_pos _) (Sub.refl _) (GValue.len j'5)) ?_
       refine bindK H fun r'8 h17 H => ?_
       refine rp rfl rfl (p_callp rfl rfl rfl Tryd.func15 rfl rfl (g_ref_ValueFault_ac h17) ⟨rfl, trivial⟩) ?_
       refine rp rfl rfl (p_ine rfl rfl rfl) ?_
       refine rz [(2, .q 2 (0)), (7, .i n7'2), (9, .q 9 (0)), (74, .b (decide (r'8 ≠ (0 : Int))))] [(2, .pure (GValue.cs GValue.zero)), (9, .pure (GValue.cs j'5))] rfl rfl rfl ?_
       refine AW2_if (p := r'8 ≠ (0 : Int)) rfl (fun h18 => ?_) (fun h18 => ?_)
       ·replace H := ite_then h18 H
        refine sg [0, 1, 2, 3] rfl ?_
        refine rp rfl rfl (u_bld rfl in_24 one_24 zc_24 pl_24 rfl rfl) ?_
        refine r_op rfl rfl (u_st rfl rfl rfl rfl rfl in_24 (GValue.len GValue.zero) (ne_of_lt (n := 0) (Nat.lt_of_lt_of_eq (by decide) (Eq.symm (GValue.len GValue.zero)))) (Upd.refl ((GValue.len GValue.zero).trans (GValue.len GValue.zero).symm))) ?_
        refine rp rfl rfl (p_asg rfl rfl) ?_
        refine rp rfl rfl (p_asg rfl rfl) ?_
        refine rz [(2, .q 2 (0)), (3, .i (0 : Int)), (4, .i (3 : Int))] [(2, .pure (GValue.cs GValue.zero))] rfl rfl rfl ?_
        refine AW2_ret ?_
        have hz := some_elim H
        subst hz
        exact ⟨⟨res_cella Tryd.underlying24 rfl in_24.sz rfl (Sub.le (Sub.refl _) (GValue.len GValue.zero)) (by decide) (Sub.take (Sub.refl _) (GValue.len GValue.zero)), res_tmp (.same _), res_tmp (.same _), trivial⟩, trivial⟩
       ·replace H := ite_else h18 H
        refine as2 [(2, .q 2 (0)), (7, .i n7'2), (9, .q 9 (0))] [(2, .pure (GValue.cs GValue.zero)), (9, .pure (GValue.cs j'5))] rfl rfl rfl ?_
        refine AW2_skip ?_
        refine sg [0, 1, 2, 3, 4, 5] rfl ?_
        refine rp rfl rfl (u_lda rfl rfl Tryd.underlying24 rfl in_24 rfl (Nat.succ_pos _) (Sub.refl _) (GValue.len j'5)) ?_
        refine rp rfl rfl (p_move rfl rfl) ?_
        refine rp rfl rfl (p_bin rfl rfl rfl rfl) ?_
        refine r_op rfl rfl (u_st rfl rfl rfl rfl rfl in_24 (GValue.len j'5) (ne_of_lt (n := 0) (Nat.lt_of_lt_of_eq (by decide) (Eq.symm (GValue.len GValue.zero)))) (Upd.refl ((GValue.len j'5).trans (GValue.len GValue.zero).symm))) ?_
        refine rp rfl rfl (p_asg rfl rfl) ?_
        refine rp rfl rfl (p_asg rfl rfl) ?_
        refine rz [(2, .q 2 (0)), (3, .i (w64 ((1 : Int) + n7'2))), (4, .i (0 : Int))] [(2, .pure (GValue.cs j'5))] rfl rfl rfl ?_
        refine AW2_ret ?_
        have hz := some_elim H
        subst hz
        exact ⟨⟨res_cella Tryd.underlying24 rfl in_24.sz rfl (Sub.le (Sub.refl _) (GValue.len j'5)) (by decide) (Sub.take (Sub.refl _) (GValue.len j'5)), res_tmp (.same _), res_tmp (.same _), trivial⟩, trivial⟩

/-! chirographref.RowOf -/
noncomputable def g_ref_RowOf_l0 (n1 : Int) (down2 : Int) : (List UInt8) × Int × (List GValue) → Option (((List UInt8) × Int × (List GValue)) ⊕ (((List GValue) × Int) ⊕ ((List UInt8) × (List GValue))))
  | (s8_0, i10_0, out9_0) => (if i10_0 < n1 then ((g_ref_downs down2 i10_0).bind fun r'2 => (if r'2 = true then (g_ref_flipped s8_0).bind fun r'3 => some r'3 else some s8_0)).bind fun j'1 => (g_ref_valueOf j'1).bind fun r'4 => (if r'4.2.2 ≠ (0 : Int) then some (.inr (.inl (([] : List GValue), r'4.2.2))) else if room (out9_0.length + ([r'4.1] : List GValue).length) 40 then if 0 ≤ r'4.2.1 ∧ r'4.2.1 ≤ (s8_0.length : Int) then some (.inl ((cut s8_0 r'4.2.1 (s8_0.length : Int)), w64 (i10_0 + (1 : Int)), out9_0 ++ ([r'4.1] : List GValue))) else none else none) else some (.inr (.inr (s8_0, out9_0))))
noncomputable def g_ref_RowOf (b0 : List UInt8) (n1 : Int) (down2 : Int) : Option ((List GValue) × Int) :=
  (if (n1 < (0 : Int)) ∨ (n1 > (5 : Int)) then some (([] : List GValue), (1 : Int)) else (loopO (g_ref_RowOf_l0 n1 down2) (b0, (0 : Int), ([] : List GValue))).bind fun o'8 => match o'8 with | .inl y'9 => some y'9 | .inr (y'10) => (if y'10.1 ≠ [] then some (([] : List GValue), (3 : Int)) else some (y'10.2, (0 : Int))))
set_option maxHeartbeats 4000000 in
set_option maxRecDepth 100000 in
theorem g_ref_RowOf_ac2 {b0 : List UInt8} {n1 : Int} {down2 : Int} {r : (List GValue) × Int} (H : g_ref_RowOf b0 n1 down2 = some r) : AC2 Tryd.prog 25 (pureT [(AV.bytes b0), (AV.int n1), (AV.int down2)]) [] (retV [.c (.own 6 r.1.length 4), .i r.2]) [(6, .pure (r.1.flatMap GValue.cs))] := by
 refine AC2_of_body (vs := [.c (.own 6 r.1.length 4), .i r.2]) Tryd.func25 rfl rfl (Nat.le_of_ble_eq_true rfl) rfl ?_
 unfold g_ref_RowOf at H
 refine as2 [(0, .y b0), (1, .i n1), (2, .i down2)] [] rfl rfl rfl ?_
 refine sg [0, 1] rfl ?_
 refine rp rfl rfl (p_asgn rfl) ?_
 refine rp rfl rfl (p_asg rfl rfl) ?_
 refine rz [(0, .y b0), (1, .i n1), (2, .i down2)] [] rfl rfl rfl ?_
 refine AW2_seq ?_
 refine AW2_seq ?_
 refine AW2_mid (⟨[(0, .y b0), (1, .i n1), (2, .i down2), (20, .b (decide ((n1 < (0 : Int)) ∨ (n1 > (5 : Int)))))], [], 53⟩ : TS) ?_ ?_
 ·refine AW2_reg [0, 1, 2, 3, 4, 5] rfl ?_
  refine rp rfl rfl (p_move rfl rfl) ?_
  refine rp rfl rfl (p_bin rfl rfl rfl rfl) ?_
  refine rp rfl rfl (p_move rfl rfl) ?_
  refine (Classical.em (n1 < (0 : Int))).elim (fun h1 => ?_) (fun h1 => ?_)
  ·refine r_off rfl rfl rfl rfl (decide_eq_true h1) rfl rfl ?_
   refine r_off rfl rfl rfl rfl (decide_eq_true h1) rfl rfl ?_
   refine rp rfl rfl (p_pkt rfl rfl (decide_eq_true h1) (tb (decide_eq_true (p := (n1 < (0 : Int)) ∨ (n1 > (5 : Int))) (Or.inl h1)).symm)) ?_
   refine rs [(0, .y b0), (1, .i n1), (2, .i down2), (20, .b (decide ((n1 < (0 : Int)) ∨ (n1 > (5 : Int)))))] [] rfl rfl rfl ?_
   exact RunW_nil rfl
  ·refine r_on rfl rfl rfl rfl (decide_eq_false h1) rfl (PureD.opD (p_move rfl rfl)) ?_
   refine r_on rfl rfl rfl rfl (decide_eq_false h1) rfl (PureD.opD (p_bin rfl rfl rfl rfl)) ?_
   refine rp rfl rfl (p_pkf rfl rfl (decide_eq_false h1) (tb ((or_l (p := n1 < (0 : Int)) (q := n1 > (5 : Int)) h1)))) ?_
   refine rs [(0, .y b0), (1, .i n1), (2, .i down2), (20, .b (decide ((n1 < (0 : Int)) ∨ (n1 > (5 : Int)))))] [] rfl rfl rfl ?_
   exact RunW_nil rfl
 ·refine AW2_if (p := (n1 < (0 : Int)) ∨ (n1 > (5 : Int))) rfl (fun h2 => ?_) (fun h2 => ?_)
  ·replace H := ite_then h2 H
   refine sg [0, 1] rfl ?_
   refine rp rfl rfl (p_asgn rfl) ?_
   refine rp rfl rfl (p_asg rfl rfl) ?_
   refine rz [(6, .p .nil), (7, .i (1 : Int))] [] rfl rfl rfl ?_
   refine as2 [(6, .p .nil), (7, .i (1 : Int))] [] rfl rfl rfl ?_
   refine AW2_gho (Gho_own (d := 6) (b := 6) (z := 4) rfl rfl rfl rfl) ?_
   refine AW2_st [(6, .c (.own 6 ([] : List GValue).length 4)), (7, .i (1 : Int))] [(6, .pure (([] : List GValue).flatMap GValue.cs))] rfl ⟨TLes.own rfl, TLes.same _, trivial⟩ ⟨rfl, trivial⟩ ?_
   refine AW2_ret ?_
   have hz := some_elim H
   subst hz
   exact ⟨⟨res_tmp (.same _), res_tmp (.same _), trivial⟩, ⟨rfl, trivial⟩⟩
  ·replace H := ite_else h2 H
   refine as2 [(0, .y b0), (1, .i n1), (2, .i down2)] [] rfl rfl rfl ?_
   refine AW2_skip ?_
   refine sg [0, 1, 2] rfl ?_
   refine rp rfl rfl (p_move rfl rfl) ?_
   refine rp rfl rfl (p_cb rfl rfl Tryd.underlying33 Tryd.underlying5 Tryd.underlying9 rfl) ?_
   refine rp rfl rfl (p_asg rfl rfl) ?_
   refine rz [(1, .i n1), (2, .i down2), (8, .t b0)] [] rfl rfl rfl ?_
   refine sg [0] rfl ?_
   refine rp rfl rfl (p_asgn rfl) ?_
   refine rz [(1, .i n1), (2, .i down2), (8, .t b0), (9, .p .nil)] [] rfl rfl rfl ?_
   refine AW2_seq ?_
   refine sg [0] rfl ?_
   refine rp rfl rfl (p_asg rfl rfl) ?_
   refine rz [(1, .i n1), (2, .i down2), (8, .t b0), (9, .p .nil), (10, .i (0 : Int))] [] rfl rfl rfl ?_
   refine AW2_block ?_
   refine as2 [(1, .i n1), (2, .i down2), (8, .t b0), (9, .p .nil), (10, .i (0 : Int))] [] rfl rfl rfl ?_
   refine AW2_gho (Gho_own (d := 9) (b := 9) (z := 4) rfl rfl rfl rfl) ?_
   refine AW2_st [(1, .i n1), (2, .i down2), (8, .t b0), (9, .c (.own 9 ([] : List GValue).length 4)), (10, .i (0 : Int))] [(9, .pure (([] : List GValue).flatMap GValue.cs))] rfl ⟨TLes.same _, TLes.same _, TLes.same _, TLes.own rfl, TLes.same _, trivial⟩ ⟨rfl, trivial⟩ ?_
   refine bindK H fun o'8 h12 H => ?_
   refine AW2_loopO (fun a'5 : (List UInt8) × Int × (List GValue) => (⟨[(1, .i n1), (2, .i down2), (8, .t a'5.1), (9, .c (.own 9 a'5.2.2.length 4)), (10, .i a'5.2.1)], [(9, .pure (a'5.2.2.flatMap GValue.cs))], 53⟩ : TS)) (fun (o : ((List GValue) × Int) ⊕ ((List UInt8) × (List GValue))) e s' => match o with | .inl y'6 => e = Go.Exit.ret ∧ ResAll Tryd.prog s' [ResultVar.tmp 6, ResultVar.tmp 7] [.c (.own 6 y'6.1.length 4), .i y'6.2] ∧ HFits s' [(6, .pure (y'6.1.flatMap GValue.cs))] | .inr (y'7) => e = Go.Exit.exit 0 ∧ s' = (⟨[(8, .t y'7.1), (9, .c (.own 9 y'7.2.length 4))], [(9, .pure (y'7.2.flatMap GValue.cs))], 53⟩ : TS)) h12 rfl (fun a x hx => ?_) (fun e s' hs => ?_)
   ·clear H
    obtain ⟨s8_0, i10_0, out9_0⟩ := a
    have H := hx
    clear hx
    unfold g_ref_RowOf_l0 at H
    refine AW2_seq ?_
    refine sg [0, 1, 2] rfl ?_
    refine rp rfl rfl (p_move rfl rfl) ?_
    refine rp rfl rfl (p_move rfl rfl) ?_
    refine rp rfl rfl (p_bin rfl rfl rfl rfl) ?_
    refine rz [(1, .i n1), (2, .i down2), (8, .t s8_0), (9, .c (.own 9 out9_0.length 4)), (10, .i i10_0), (25, .b (decide (i10_0 < n1)))] [(9, .pure (out9_0.flatMap GValue.cs))] rfl rfl rfl ?_
    refine AW2_if (p := i10_0 < n1) rfl (fun h3 => ?_) (fun h3 => ?_)
    ·replace H := ite_then h3 H
     refine as2 [(1, .i n1), (2, .i down2), (8, .t s8_0), (9, .c (.own 9 out9_0.length 4)), (10, .i i10_0)] [(9, .pure (out9_0.flatMap GValue.cs))] rfl rfl rfl ?_
     refine AW2_skip ?_
     refine AW2_seq ?_
     refine AW2_block ?_
     refine sg [0, 1] rfl ?_
     refine rp rfl rfl (p_move rfl rfl) ?_
     refine rp rfl rfl (p_asg rfl rfl) ?_
     refine rz [(1, .i n1), (2, .i down2), (8, .t s8_0), (9, .c (.own 9 out9_0.length 4)), (10, .i i10_0), (11, .t s8_0)] [(9, .pure (out9_0.flatMap GValue.cs))] rfl rfl rfl ?_
     refine AW2_seq ?_
     refine bindK H fun j'1 h4 H => ?_
     refine AW2_mid (⟨[(1, .i n1), (2, .i down2), (8, .t s8_0), (9, .c (.own 9 out9_0.length 4)), (10, .i i10_0), (11, .t j'1)], [(9, .pure (out9_0.flatMap GValue.cs))], 53⟩ : TS) ?_ ?_
     ·clear H
      have H := h4
      clear h4
      refine sg [0, 1, 2] rfl ?_
      refine rp rfl rfl (p_move rfl rfl) ?_
      refine rp rfl rfl (p_move rfl rfl) ?_
      refine bindK H fun r'2 h5 H => ?_
      refine rp rfl rfl (p_callp rfl rfl rfl Tryd.func51 rfl rfl (g_ref_downs_ac h5) ⟨rfl, rfl, trivial⟩) ?_
      refine rz [(1, .i n1), (2, .i down2), (8, .t s8_0), (9, .c (.own 9 out9_0.length 4)), (10, .i i10_0), (11, .t s8_0), (31, .b r'2)] [(9, .pure (out9_0.flatMap GValue.cs))] rfl rfl rfl ?_
      refine AW2_cond rfl (fun h6 => ?_) (fun h6 => ?_)
      ·replace H := ite_then h6 H
       refine AW2_reg [0, 1, 2] rfl ?_
       refine rp rfl rfl (p_move rfl rfl) ?_
       refine bindK H fun r'3 h7 H => ?_
       refine rp rfl rfl (p_callp rfl rfl rfl Tryd.func52 rfl rfl (g_ref_flipped_ac h7) ⟨rfl, trivial⟩) ?_
       refine rp rfl rfl (p_asg rfl rfl) ?_
       refine rz [(1, .i n1), (2, .i down2), (8, .t s8_0), (9, .c (.own 9 out9_0.length 4)), (10, .i i10_0), (11, .t r'3)] [(9, .pure (out9_0.flatMap GValue.cs))] rfl rfl rfl ?_
       have hz := some_elim H
       subst hz
       exact rfl
      ·replace H := ite_else (ne_true h6) H
       refine as2 [(1, .i n1), (2, .i down2), (8, .t s8_0), (9, .c (.own 9 out9_0.length 4)), (10, .i i10_0), (11, .t s8_0)] [(9, .pure (out9_0.flatMap GValue.cs))] rfl rfl rfl ?_
       refine AW2_skip ?_
       have hz := some_elim H
       subst hz
       exact rfl
     ·refine sg [0, 1, 2, 3, 4, 5, 6, 7, 8, 9] rfl ?_
      refine rp rfl rfl (p_move rfl rfl) ?_
      refine bindK H fun r'4 h8 H => ?_
      refine rp rfl rfl (p_callp rfl rfl rfl Tryd.func55 rfl rfl (g_ref_valueOf_ac h8) ⟨rfl, trivial⟩) ?_
      refine rp rfl rfl (p_move rfl rfl) ?_
      refine rp rfl rfl (p_ext rfl rfl rfl rfl) ?_
      refine rp rfl rfl (p_ext rfl rfl rfl rfl) ?_
      refine rp rfl rfl (p_ext rfl rfl rfl rfl) ?_
      refine r_op rfl rfl (MakeD.opD (u_alloc 12 rfl in_24 one_24 zc_24) rfl rfl rfl rfl) ?_
      refine r_op rfl rfl (u_st rfl rfl rfl rfl rfl in_24 (GValue.len r'4.1) (ne_of_lt (n := 0) (Nat.lt_of_lt_of_eq (by decide) (Eq.symm (GValue.len GValue.zero)))) (Upd.refl ((GValue.len r'4.1).trans (GValue.len GValue.zero).symm))) ?_
      refine rp rfl rfl (p_asg rfl rfl) ?_
      refine rp rfl rfl (p_asg rfl rfl) ?_
      refine rz [(1, .i n1), (2, .i down2), (8, .t s8_0), (9, .c (.own 9 out9_0.length 4)), (10, .i i10_0), (12, .q 12 (0)), (13, .i r'4.2.1), (14, .i r'4.2.2)] [(9, .pure (out9_0.flatMap GValue.cs)), (12, .pure (GValue.cs r'4.1))] rfl rfl rfl ?_
      refine AW2_seq ?_
      refine sg [0, 1] rfl ?_
      refine rp rfl rfl (p_move rfl rfl) ?_
      refine rp rfl rfl (p_ine rfl rfl rfl) ?_
      refine rz [(1, .i n1), (2, .i down2), (8, .t s8_0), (9, .c (.own 9 out9_0.length 4)), (10, .i i10_0), (12, .q 12 (0)), (13, .i r'4.2.1), (14, .i r'4.2.2), (41, .b (decide (r'4.2.2 ≠ (0 : Int))))] [(9, .pure (out9_0.flatMap GValue.cs)), (12, .pure (GValue.cs r'4.1))] rfl rfl rfl ?_
      refine AW2_if (p := r'4.2.2 ≠ (0 : Int)) rfl (fun h9 => ?_) (fun h9 => ?_)
      ·replace H := ite_then h9 H
       refine sg [0, 1, 2] rfl ?_
       refine rp rfl rfl (p_move rfl rfl) ?_
       refine rp rfl rfl (p_asgn rfl) ?_
       refine rp rfl rfl (p_asg rfl rfl) ?_
       refine rz [(6, .p .nil), (7, .i r'4.2.2)] [] rfl rfl rfl ?_
       refine as2 [(6, .p .nil), (7, .i r'4.2.2)] [] rfl rfl rfl ?_
       refine AW2_gho (Gho_own (d := 6) (b := 6) (z := 4) rfl rfl rfl rfl) ?_
       refine AW2_st [(6, .c (.own 6 ([] : List GValue).length 4)), (7, .i r'4.2.2)] [(6, .pure (([] : List GValue).flatMap GValue.cs))] rfl ⟨TLes.own rfl, TLes.same _, trivial⟩ ⟨rfl, trivial⟩ ?_
       refine AW2_ret ?_
       have hz := some_elim H
       subst hz
       exact ⟨rfl, ⟨res_tmp (.same _), res_tmp (.same _), trivial⟩, ⟨rfl, trivial⟩⟩
      ·replace H := ite_else h9 H
       refine as2 [(1, .i n1), (2, .i down2), (8, .t s8_0), (9, .c (.own 9 out9_0.length 4)), (10, .i i10_0), (12, .q 12 (0)), (13, .i r'4.2.1)] [(9, .pure (out9_0.flatMap GValue.cs)), (12, .pure (GValue.cs r'4.1))] rfl rfl rfl ?_
       refine AW2_skip ?_
       refine sg [0, 1, 2, 3, 4] rfl ?_
       refine rp rfl rfl (p_move rfl rfl) ?_
       refine rp rfl rfl (u_lda rfl rfl Tryd.underlying24 rfl in_24 rfl (Nat.succ_pos _) (Sub.refl _) (GValue.len r'4.1)) ?_
       refine r_op rfl rfl (MakeD.opD (u_bs 45 rfl Tryd.underlying32 in_24 rfl one_24 (by decide) (by decide) zc_24 rfl (af_lit (g := GValue.cs) (fun x => (GValue.len x)) (GValue.len GValue.zero) [r'4.1])) rfl rfl rfl rfl) ?_
       refine chkK H fun h10 H => ?_
       refine r_op rfl rfl (u_app [9, 43] rfl rfl rfl rfl Tryd.underlying32 Tryd.underlying32 in_24 rfl rfl rfl (fm_length (fun x => (GValue.len x)) out9_0) (by decide) (srcT_o rfl rfl (fm_length (fun x => (GValue.len x)) ([r'4.1] : List GValue)) (by decide)) (fm_length (fun x => (GValue.len x)) ([r'4.1] : List GValue)) h10 (by decide) rfl rfl (fapp GValue.cs out9_0 ([r'4.1] : List GValue)) (lapp out9_0 ([r'4.1] : List GValue))) ?_
       refine rp rfl rfl (p_asg rfl rfl) ?_
       refine rz [(1, .i n1), (2, .i down2), (8, .t s8_0), (9, .c (.own 9 (out9_0 ++ ([r'4.1] : List GValue)).length 4)), (10, .i i10_0), (13, .i r'4.2.1)] [(9, .pure ((out9_0 ++ ([r'4.1] : List GValue)).flatMap GValue.cs))] rfl rfl rfl ?_
       refine AW2_reg [0, 1, 2, 3] rfl ?_
       refine rp rfl rfl (p_move rfl rfl) ?_
       refine rp rfl rfl (p_move rfl rfl) ?_
       refine chkK H fun h11 H => ?_
       refine rp rfl rfl (u_cutt (a := r'4.2.1) (b := (s8_0.length : Int)) rfl Tryd.underlying9 rfl (bT_i (show 0 ≤ r'4.2.1 ∧ r'4.2.1 ≤ (s8_0.length : Int) ∧ (s8_0.length : Int) ≤ (s8_0.length : Int) from ⟨h11.1, h11.2, Int.le_refl _⟩).1 rfl) (bT_len _) (show 0 ≤ r'4.2.1 ∧ r'4.2.1 ≤ (s8_0.length : Int) ∧ (s8_0.length : Int) ≤ (s8_0.length : Int) from ⟨h11.1, h11.2, Int.le_refl _⟩)) ?_
       refine rp rfl rfl (p_asg rfl rfl) ?_
       refine rz [(1, .i n1), (2, .i down2), (8, .t (cut s8_0 r'4.2.1 (s8_0.length : Int))), (9, .c (.own 9 (out9_0 ++ ([r'4.1] : List GValue)).length 4)), (10, .i i10_0)] [(9, .pure ((out9_0 ++ ([r'4.1] : List GValue)).flatMap GValue.cs))] rfl rfl rfl ?_
       refine AW2_reg [0, 1, 2] rfl ?_
       refine rp rfl rfl (p_move rfl rfl) ?_
       refine rp rfl rfl (p_bin rfl rfl rfl rfl) ?_
       refine rp rfl rfl (p_asg rfl rfl) ?_
       refine rz [(1, .i n1), (2, .i down2), (8, .t (cut s8_0 r'4.2.1 (s8_0.length : Int))), (9, .c (.own 9 (out9_0 ++ ([r'4.1] : List GValue)).length 4)), (10, .i (w64 (i10_0 + (1 : Int))))] [(9, .pure ((out9_0 ++ ([r'4.1] : List GValue)).flatMap GValue.cs))] rfl rfl rfl ?_
       have hz := some_elim H
       subst hz
       exact ⟨rfl, rfl⟩
    ·replace H := ite_else h3 H
     refine as2 [(8, .t s8_0), (9, .c (.own 9 out9_0.length 4))] [(9, .pure (out9_0.flatMap GValue.cs))] rfl rfl rfl ?_
     refine AW2_exit ?_
     refine thenQ2_exit ?_
     have hz := some_elim H
     subst hz
     exact ⟨rfl, rfl⟩
   ·rcases o'8 with y'9 | y'10
    ·obtain ⟨rfl, hs⟩ := hs
     refine ⟨by simp, ?_⟩
     have hz := some_elim H
     subst hz
     exact ⟨hs.1, hs.2⟩
    ·obtain ⟨rfl, rfl⟩ := hs
     refine ⟨by simp, ?_⟩
     refine blockQ2_exit ?_
     refine AW2_seq ?_
     refine sg [0, 1] rfl ?_
     refine rp rfl rfl (p_move rfl rfl) ?_
     refine rp rfl rfl (p_sne rfl rfl rfl) ?_
     refine rz [(9, .c (.own 9 y'10.2.length 4)), (51, .b (decide (y'10.1 ≠ [])))] [(9, .pure (y'10.2.flatMap GValue.cs))] rfl rfl rfl ?_
     refine AW2_if (p := y'10.1 ≠ []) rfl (fun h13 => ?_) (fun h13 => ?_)
     ·replace H := ite_then h13 H
      refine sg [0, 1] rfl ?_
      refine rp rfl rfl (p_asgn rfl) ?_
      refine rp rfl rfl (p_asg rfl rfl) ?_
      refine rz [(6, .p .nil), (7, .i (3 : Int))] [] rfl rfl rfl ?_
      refine as2 [(6, .p .nil), (7, .i (3 : Int))] [] rfl rfl rfl ?_
      refine AW2_gho (Gho_own (d := 6) (b := 6) (z := 4) rfl rfl rfl rfl) ?_
      refine AW2_st [(6, .c (.own 6 ([] : List GValue).length 4)), (7, .i (3 : Int))] [(6, .pure (([] : List GValue).flatMap GValue.cs))] rfl ⟨TLes.own rfl, TLes.same _, trivial⟩ ⟨rfl, trivial⟩ ?_
      refine AW2_ret ?_
      have hz := some_elim H
      subst hz
      exact ⟨⟨res_tmp (.same _), res_tmp (.same _), trivial⟩, ⟨rfl, trivial⟩⟩
     ·replace H := ite_else h13 H
      refine as2 [(9, .c (.own 9 y'10.2.length 4))] [(9, .pure (y'10.2.flatMap GValue.cs))] rfl rfl rfl ?_
      refine AW2_skip ?_
      refine sg [0, 1, 2] rfl ?_
      refine rp rfl rfl (p_move rfl rfl) ?_
      refine rp rfl rfl (p_asg rfl rfl) ?_
      refine rp rfl rfl (p_asg rfl rfl) ?_
      refine rs [(6, .c (.own 9 y'10.2.length 4)), (7, .i (0 : Int))] [(9, .pure (y'10.2.flatMap GValue.cs))] rfl rfl rfl ?_
      refine RunW_gho (Gho_ren 9 6 rfl rfl rfl rfl rfl) ?_
      refine rz [(6, .c (.own 6 y'10.2.length 4)), (7, .i (0 : Int))] [(6, .pure (y'10.2.flatMap GValue.cs))] rfl rfl rfl ?_
      refine as2 [(6, .c (.own 6 y'10.2.length 4)), (7, .i (0 : Int))] [(6, .pure (y'10.2.flatMap GValue.cs))] rfl rfl rfl ?_
      refine AW2_ret ?_
      have hz := some_elim H
      subst hz
      exact ⟨⟨res_tmp (.same _), res_tmp (.same _), trivial⟩, ⟨rfl, trivial⟩⟩
theorem g_ref_RowOf_ac {b0 : List UInt8} {n1 : Int} {down2 : Int} {r : (List GValue) × Int} (H : g_ref_RowOf b0 n1 down2 = some r) : ACp Tryd.prog 25 [(AV.bytes b0), (AV.int n1), (AV.int down2)] (.tup [((fun q : List GValue => AV.lst (q.flatMap GValue.cs) q.length) r.1), (AV.int r.2)]) := ACp_pub (g_ref_RowOf_ac2 H) (fun _ _ hm => lent_tup ⟨lent_own hm rfl (fm_length (fun x => (GValue.len x)) r.1) (by decide), .same _, trivial⟩)

/-! chirographlaw.sameRow -/
def g_law_sameRow_r6 : List (List (Nat × Option Nat)) := [[(0, none)], [(5, none)], [(16, some 0), (17, some 1)], [(18, some 2)], [(1, none)], [(5, none)], [(20, some 4), (21, some 5)], [(22, some 6)]]
def g_law_sameRow_r6c : List (List Nat) := [[], [], [0, 1], [0, 1, 2], [], [], [4, 5], [4, 5, 6], [0, 1, 2, 3, 4, 5, 6, 7]]
noncomputable def g_law_sameRow_l0 (a0 : List GValue) (b1 : List GValue) : Int → Option (Int ⊕ (Bool ⊕ Unit))
  | t13_0 => (if t13_0 < (a0.length : Int) then if 0 ≤ t13_0 ∧ t13_0 < (a0.length : Int) then if 0 ≤ t13_0 ∧ t13_0 < (b1.length : Int) then (if (lrd a0 t13_0.toNat) ≠ (lrd b1 t13_0.toNat) then some (.inr (.inl false)) else some (.inl (w64 (t13_0 + (1 : Int))))) else none else none else some (.inr (.inr ())))
noncomputable def g_law_sameRow (a0 : List GValue) (b1 : List GValue) : Option (Bool) :=
  (if (a0.length : Int) ≠ (b1.length : Int) then some false else (loopO (g_law_sameRow_l0 a0 b1) (0 : Int)).bind fun o'4 => match o'4 with | .inl y'5 => some y'5 | .inr (y'6) => some true)
set_option maxHeartbeats 4000000 in
set_option maxRecDepth 100000 in
theorem g_law_sameRow_ac {a0 : List GValue} {b1 : List GValue} {r : Bool} (H : g_law_sameRow a0 b1 = some r) : ACp Tryd.prog 26 [((fun q : List GValue => AV.lst (q.flatMap GValue.cs) q.length) a0), ((fun q : List GValue => AV.lst (q.flatMap GValue.cs) q.length) b1)] (AV.bool r) := by
 refine ACp_of (AC2_of_body (vs := [.b r]) Tryd.func26 rfl rfl (Nat.le_of_ble_eq_true rfl) rfl ?_) (fun _ => .same _)
 unfold g_law_sameRow at H
 refine as2 [(0, .p ((fun q : List GValue => AV.lst (q.flatMap GValue.cs) q.length) a0)), (1, .p ((fun q : List GValue => AV.lst (q.flatMap GValue.cs) q.length) b1))] [] rfl rfl rfl ?_
 refine sg [0] rfl ?_
 refine rp rfl rfl (p_asg rfl rfl) ?_
 refine rz [(0, .p ((fun q : List GValue => AV.lst (q.flatMap GValue.cs) q.length) a0)), (1, .p ((fun q : List GValue => AV.lst (q.flatMap GValue.cs) q.length) b1))] [] rfl rfl rfl ?_
 refine AW2_seq ?_
 refine sg [0, 1, 2, 3, 4] rfl ?_
 refine rp rfl rfl (p_move rfl rfl) ?_
 refine rp rfl rfl (p_lenl rfl Tryd.underlying32 rfl rfl) ?_
 refine rp rfl rfl (p_move rfl rfl) ?_
 refine rp rfl rfl (p_lenl rfl Tryd.underlying32 rfl rfl) ?_
 refine rp rfl rfl (p_ine rfl rfl rfl) ?_
 refine rz [(0, .p ((fun q : List GValue => AV.lst (q.flatMap GValue.cs) q.length) a0)), (1, .p ((fun q : List GValue => AV.lst (q.flatMap GValue.cs) q.length) b1)), (10, .b (decide ((a0.length : Int) ≠ (b1.length : Int))))] [] rfl rfl rfl ?_
 refine AW2_if (p := (a0.length : Int) ≠ (b1.length : Int)) rfl (fun h1 => ?_) (fun h1 => ?_)
 ·replace H := ite_then h1 H
  refine sg [0] rfl ?_
  refine rp rfl rfl (p_asg rfl rfl) ?_
  refine rz [(4, .b false)] [] rfl rfl rfl ?_
  refine AW2_ret ?_
  have hz := some_elim H
  subst hz
  exact ⟨⟨res_tmp (.same _), trivial⟩, trivial⟩
 ·replace H := ite_else h1 H
  refine as2 [(0, .p ((fun q : List GValue => AV.lst (q.flatMap GValue.cs) q.length) a0)), (1, .p ((fun q : List GValue => AV.lst (q.flatMap GValue.cs) q.length) b1))] [] rfl rfl rfl ?_
  refine AW2_skip ?_
  refine AW2_seq ?_
  refine sg [0, 1, 2] rfl ?_
  refine rp rfl rfl (p_move rfl rfl) ?_
  refine rp rfl rfl (p_lenl rfl Tryd.underlying32 rfl rfl) ?_
  refine rp rfl rfl (p_move rfl rfl) ?_
  refine rz [(0, .p ((fun q : List GValue => AV.lst (q.flatMap GValue.cs) q.length) a0)), (1, .p ((fun q : List GValue => AV.lst (q.flatMap GValue.cs) q.length) b1)), (12, .i (a0.length : Int)), (13, .i (0 : Int))] [] rfl rfl rfl ?_
  refine AW2_block ?_
  refine as2 [(0, .p ((fun q : List GValue => AV.lst (q.flatMap GValue.cs) q.length) a0)), (1, .p ((fun q : List GValue => AV.lst (q.flatMap GValue.cs) q.length) b1)), (12, .i (a0.length : Int)), (13, .i (0 : Int))] [] rfl rfl rfl ?_
  refine bindK H fun o'4 h6 H => ?_
  refine AW2_loopO (fun a'1 : Int => (⟨[(0, .p ((fun q : List GValue => AV.lst (q.flatMap GValue.cs) q.length) a0)), (1, .p ((fun q : List GValue => AV.lst (q.flatMap GValue.cs) q.length) b1)), (12, .i (a0.length : Int)), (13, .i a'1)], [], 26⟩ : TS)) (fun (o : Bool ⊕ Unit) e s' => match o with | .inl y'2 => e = Go.Exit.ret ∧ ResAll Tryd.prog s' [ResultVar.tmp 4] [.b y'2] ∧ HFits s' [] | .inr (y'3) => e = Go.Exit.exit 0 ∧ s' = (⟨[], [], 26⟩ : TS)) h6 rfl (fun t13_0 x hx => ?_) (fun e s' hs => ?_)
  ·clear H
   have H := hx
   clear hx
   unfold g_law_sameRow_l0 at H
   refine sg [0] rfl ?_
   refine rp rfl rfl (p_bin rfl rfl rfl rfl) ?_
   refine rz [(0, .p ((fun q : List GValue => AV.lst (q.flatMap GValue.cs) q.length) a0)), (1, .p ((fun q : List GValue => AV.lst (q.flatMap GValue.cs) q.length) b1)), (12, .i (a0.length : Int)), (13, .i t13_0), (14, .b (decide (t13_0 < (a0.length : Int))))] [] rfl rfl rfl ?_
   refine AW2_seq ?_
   refine AW2_if (p := t13_0 < (a0.length : Int)) rfl (fun h2 => ?_) (fun h2 => ?_)
   ·replace H := ite_then h2 H
    refine as2 [(0, .p ((fun q : List GValue => AV.lst (q.flatMap GValue.cs) q.length) a0)), (1, .p ((fun q : List GValue => AV.lst (q.flatMap GValue.cs) q.length) b1)), (12, .i (a0.length : Int)), (13, .i t13_0)] [] rfl rfl rfl ?_
    refine AW2_skip ?_
    refine AW2_seq ?_
    refine AW2_block ?_
    refine sg [0, 1] rfl ?_
    refine rp rfl rfl (p_move rfl rfl) ?_
    refine rp rfl rfl (p_asg rfl rfl) ?_
    refine rz [(0, .p ((fun q : List GValue => AV.lst (q.flatMap GValue.cs) q.length) a0)), (1, .p ((fun q : List GValue => AV.lst (q.flatMap GValue.cs) q.length) b1)), (5, .i t13_0), (12, .i (a0.length : Int)), (13, .i t13_0)] [] rfl rfl rfl ?_
    refine AW2_seq ?_
    refine chkK H fun h3 H => ?_
    refine chkK H fun h4 H => ?_
    refine AW2_ghoQ ?_
    refine AW2_draw 8 [8] (fun k => ([.p ((fun q : List GValue => AV.lst (q.flatMap GValue.cs) q.length) a0), .i t13_0, .p (.rptr (a0.flatMap GValue.cs) (t13_0.toNat * 4)), .g (GValue.cs (lrd a0 t13_0.toNat)), .p ((fun q : List GValue => AV.lst (q.flatMap GValue.cs) q.length) b1), .i t13_0, .p (.rptr (b1.flatMap GValue.cs) (t13_0.toNat * 4)), .g (GValue.cs (lrd b1 t13_0.toNat))] : List TV).getD k TV.any) (fun k => g_law_sameRow_r6.getD k []) [(0, none), (1, none), (12, none), (13, none), (19, some 3), (23, some 7)] [] (fun k => g_law_sameRow_r6c.getD k []) mixed (by kernel_rfl) rfl rfl (a_op (g_x rfl (x_p rfl (p_move rfl rfl) rfl)) (a_op (g_x rfl (x_p rfl (p_move rfl rfl) rfl)) (a_op (g_x rfl (x_p rfl (u_ixl rfl rfl Tryd.underlying32 in_24 rfl rfl (ixe h3) (ixn h3) (fne (fun x => (GValue.len x)) (by decide) (ixn h3))) rfl)) (a_op (g_x rfl (x_p rfl (u_lda rfl rfl Tryd.underlying24 rfl in_24 rfl (Nat.succ_pos _) (Sub.fm default (fun x => (GValue.len x)) (ixn h3)) (GValue.len (lrd a0 t13_0.toNat))) rfl)) (a_op (g_x rfl (x_p rfl (p_move rfl rfl) rfl)) (a_op (g_x rfl (x_p rfl (p_move rfl rfl) rfl)) (a_op (g_x rfl (x_p rfl (u_ixl rfl rfl Tryd.underlying32 in_24 rfl rfl (ixe h4) (ixn h4) (fne (fun x => (GValue.len x)) (by decide) (ixn h4))) rfl)) (a_op (g_x rfl (x_p rfl (u_lda rfl rfl Tryd.underlying24 rfl in_24 rfl (Nat.succ_pos _) (Sub.fm default (fun x => (GValue.len x)) (ixn h4)) (GValue.len (lrd b1 t13_0.toNat))) rfl)) (a_nil))))))))) ?_
    refine t_op rfl rfl (PureD.opD (p_nea (a := (lrd a0 t13_0.toNat)) (b := (lrd b1 t13_0.toNat)) rfl eq_24 rfl (by kernel_rfl) rfl rfl)) ?_
    refine t_gho (Gho_st (L := [(0, .p ((fun q : List GValue => AV.lst (q.flatMap GValue.cs) q.length) a0)), (1, .p ((fun q : List GValue => AV.lst (q.flatMap GValue.cs) q.length) b1)), (12, .i (a0.length : Int)), (13, .i t13_0), (24, .b (decide ((lrd a0 t13_0.toNat) ≠ (lrd b1 t13_0.toNat))))]) (H := []) (N := 26) rfl ⟨TLes.same _, TLes.same _, TLes.same _, TLes.same _, TLes.same _, trivial⟩ trivial) ?_
    refine AW2_if (p := (lrd a0 t13_0.toNat) ≠ (lrd b1 t13_0.toNat)) rfl (fun h5 => ?_) (fun h5 => ?_)
    ·replace H := ite_then h5 H
     refine sg [0] rfl ?_
     refine rp rfl rfl (p_asg rfl rfl) ?_
     refine rz [(4, .b false)] [] rfl rfl rfl ?_
     refine AW2_ret ?_
     have hz := some_elim H
     subst hz
     exact ⟨rfl, ⟨res_tmp (.same _), trivial⟩, trivial⟩
    ·replace H := ite_else h5 H
     refine as2 [(0, .p ((fun q : List GValue => AV.lst (q.flatMap GValue.cs) q.length) a0)), (1, .p ((fun q : List GValue => AV.lst (q.flatMap GValue.cs) q.length) b1)), (12, .i (a0.length : Int)), (13, .i t13_0)] [] rfl rfl rfl ?_
     refine AW2_skip ?_
     refine AW2_reg [0, 1] rfl ?_
     refine rp rfl rfl (p_bin rfl rfl rfl rfl) ?_
     refine rp rfl rfl (p_move rfl rfl) ?_
     refine rz [(0, .p ((fun q : List GValue => AV.lst (q.flatMap GValue.cs) q.length) a0)), (1, .p ((fun q : List GValue => AV.lst (q.flatMap GValue.cs) q.length) b1)), (12, .i (a0.length : Int)), (13, .i (w64 (t13_0 + (1 : Int))))] [] rfl rfl rfl ?_
     have hz := some_elim H
     subst hz
     exact ⟨rfl, rfl⟩
   ·replace H := ite_else h2 H
    refine as2 [] [] rfl rfl rfl ?_
    refine AW2_exit ?_
    refine thenQ2_exit ?_
    have hz := some_elim H
    subst hz
    exact ⟨rfl, rfl⟩
  ·rcases o'4 with y'5 | y'6
   ·obtain ⟨rfl, hs⟩ := hs
    refine ⟨by simp, ?_⟩
    have hz := some_elim H
    subst hz
    exact ⟨hs.1, hs.2⟩
   ·obtain ⟨rfl, rfl⟩ := hs
    refine ⟨by simp, ?_⟩
    refine blockQ2_exit ?_
    refine sg [0] rfl ?_
    refine rp rfl rfl (p_asg rfl rfl) ?_
    refine rz [(4, .b true)] [] rfl rfl rfl ?_
    refine AW2_ret ?_
    have hz := some_elim H
    subst hz
    exact ⟨⟨res_tmp (.same _), trivial⟩, trivial⟩

/-! chirographlaw.CodeDecodes -/
noncomputable def g_law_CodeDecodes (l0 : List UInt8) (n1 : Int) (down2 : Int) : Option (Bool) :=
  (g_code_Decode l0 n1 down2).bind fun r'1 => (g_ref_RowOf l0 n1 down2).bind fun r'2 => ((if r'1.2 = r'2.2 then (g_law_sameRow r'1.1 r'2.1).bind fun r'4 => some r'4 else some false)).bind fun g'5 => some g'5
set_option maxHeartbeats 4000000 in
set_option maxRecDepth 100000 in
theorem g_law_CodeDecodes_ac {l0 : List UInt8} {n1 : Int} {down2 : Int} {r : Bool} (H : g_law_CodeDecodes l0 n1 down2 = some r) : ACp Tryd.prog 8 [(AV.bytes l0), (AV.int n1), (AV.int down2)] (AV.bool r) := by
 refine ACp_of (AC2_of_body (vs := [.b r]) Tryd.func8 rfl rfl (Nat.le_of_ble_eq_true rfl) rfl ?_) (fun _ => .same _)
 unfold g_law_CodeDecodes at H
 refine as2 [(0, .y l0), (1, .i n1), (2, .i down2)] [] rfl rfl rfl ?_
 refine sg [0] rfl ?_
 refine rp rfl rfl (p_asg rfl rfl) ?_
 refine rz [(0, .y l0), (1, .i n1), (2, .i down2)] [] rfl rfl rfl ?_
 refine sg [0, 1, 2, 3, 4, 5, 6, 7, 8] rfl ?_
 refine rp rfl rfl (p_move rfl rfl) ?_
 refine rp rfl rfl (p_move rfl rfl) ?_
 refine rp rfl rfl (p_move rfl rfl) ?_
 refine bindK H fun r'1 h1 H => ?_
 refine rp rfl rfl (p_callp rfl rfl rfl Tryd.func24 rfl rfl (g_code_Decode_ac h1) ⟨rfl, rfl, rfl, trivial⟩) ?_
 refine rp rfl rfl (p_move rfl rfl) ?_
 refine rp rfl rfl (p_ext rfl rfl rfl rfl) ?_
 refine rp rfl rfl (p_ext rfl rfl rfl rfl) ?_
 refine rp rfl rfl (p_asg rfl rfl) ?_
 refine rp rfl rfl (p_asg rfl rfl) ?_
 refine rz [(0, .y l0), (1, .i n1), (2, .i down2), (7, .p ((fun q : List GValue => AV.lst (q.flatMap GValue.cs) q.length) r'1.1)), (8, .i r'1.2)] [] rfl rfl rfl ?_
 refine sg [0, 1, 2, 3, 4, 5, 6, 7, 8] rfl ?_
 refine rp rfl rfl (p_move rfl rfl) ?_
 refine rp rfl rfl (p_move rfl rfl) ?_
 refine rp rfl rfl (p_move rfl rfl) ?_
 refine bindK H fun r'2 h2 H => ?_
 refine rp rfl rfl (p_callp rfl rfl rfl Tryd.func25 rfl rfl (g_ref_RowOf_ac h2) ⟨rfl, rfl, rfl, trivial⟩) ?_
 refine rp rfl rfl (p_move rfl rfl) ?_
 refine rp rfl rfl (p_ext rfl rfl rfl rfl) ?_
 refine rp rfl rfl (p_ext rfl rfl rfl rfl) ?_
 refine rp rfl rfl (p_asg rfl rfl) ?_
 refine rp rfl rfl (p_asg rfl rfl) ?_
 refine rz [(7, .p ((fun q : List GValue => AV.lst (q.flatMap GValue.cs) q.length) r'1.1)), (8, .i r'1.2), (9, .p ((fun q : List GValue => AV.lst (q.flatMap GValue.cs) q.length) r'2.1)), (10, .i r'2.2)] [] rfl rfl rfl ?_
 refine AW2_seq ?_
 refine bindK H fun g'5 h6 H => ?_
 refine AW2_mid (⟨[(6, .b g'5)], [], 33⟩ : TS) ?_ ?_
 ·clear H
  have H := h6
  clear h6
  refine AW2_reg [0, 1, 2, 3, 4, 5, 6, 7, 8] rfl ?_
  refine rp rfl rfl (p_move rfl rfl) ?_
  refine rp rfl rfl (p_move rfl rfl) ?_
  refine rp rfl rfl (p_ieq rfl rfl rfl) ?_
  refine rp rfl rfl (p_move rfl rfl) ?_
  refine (Classical.em (r'1.2 = r'2.2)).elim (fun h4 => ?_) (fun h4 => ?_)
  ·replace H := ite_then h4 H
   refine r_on rfl rfl rfl rfl (decide_eq_true h4) rfl (PureD.opD (p_move rfl rfl)) ?_
   refine r_on rfl rfl rfl rfl (decide_eq_true h4) rfl (PureD.opD (p_move rfl rfl)) ?_
   refine bindK H fun r'4 h5 H => ?_
   refine r_on rfl rfl rfl rfl (decide_eq_true h4) rfl (PureD.opD (p_callp rfl rfl rfl Tryd.func26 rfl rfl (g_law_sameRow_ac h5) ⟨rfl, rfl, trivial⟩)) ?_
   refine rp rfl rfl (p_pkt rfl rfl (decide_eq_true h4) (.same _)) ?_
   refine rp rfl rfl (p_asg rfl rfl) ?_
   refine rs [(6, .b r'4)] [] rfl rfl rfl ?_
   have hz := some_elim H
   subst hz
   exact RunW_nil rfl
  ·replace H := ite_else h4 H
   refine r_off rfl rfl rfl rfl (decide_eq_false h4) rfl rfl ?_
   refine r_off rfl rfl rfl rfl (decide_eq_false h4) rfl rfl ?_
   refine r_off rfl rfl rfl rfl (decide_eq_false h4) rfl rfl ?_
   refine rp rfl rfl (p_pkf rfl rfl (decide_eq_false h4) (.same _)) ?_
   refine rp rfl rfl (p_asg rfl rfl) ?_
   refine rs [(6, .b false)] [] rfl rfl rfl ?_
   have hz := some_elim H
   subst hz
   exact RunW_nil rfl
 ·refine AW2_ret ?_
  have hz := some_elim H
  subst hz
  exact ⟨⟨res_tmp (.same _), trivial⟩, trivial⟩
end Go.Proofs.YtfekkhinjdmcbaaDoor.VM
