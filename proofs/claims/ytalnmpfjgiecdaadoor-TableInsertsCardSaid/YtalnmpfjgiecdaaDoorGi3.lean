/- Functions of the program, as they answer, and that their code comes to these answers. -/
import Derived.Test.YtalnmpfjgiecdaaDoorGi2
namespace Go.Proofs.YtalnmpfjgiecdaaDoor.VM
open Go Go.RowKit

theorem eq_68 : EqT Tryd.prog 68 2 (fun x : GColumn => .agg (GColumn.cs x)) :=
  eqt_struct [fun a b => a.Name = b.Name, fun a b => a.Kind = b.Kind, fun a b => a.Null = b.Null] Tryd.underlying68 (by kernel_rfl) ⟨(FieldEq.more (fe_one (by decide) Tryd.underlying9 rfl (eqt_txt Tryd.underlying9) (fun a => GColumn.sub0 a)) (by decide : 1 ≤ 1)), (FieldEq.more (fe_one (by decide) Tryd.underlying3 rfl (eqt_int Tryd.underlying3) (fun a => GColumn.sub1 a)) (by decide : 1 ≤ 1)), (FieldEq.more (fe_one (by decide) Tryd.underlying4 rfl (eqt_bool Tryd.underlying4) (fun a => GColumn.sub2 a)) (by decide : 1 ≤ 1)), trivial⟩ (fun a b => by
    cases a; cases b
    simp)

/-! chirographref.badReal -/
noncomputable def g_ref_badReal (b0 : UInt64) : Option (Bool) :=
  some (decide ((b0 = (9223372036854775808 : UInt64)) ∨ ((18437736874454810624 : UInt64) < shl_u64 b0 1)))
set_option maxHeartbeats 4000000 in
set_option maxRecDepth 100000 in
theorem g_ref_badReal_ac {b0 : UInt64} {r : Bool} (H : g_ref_badReal b0 = some r) : ACp Tryd.prog 35 [(AV.u64 b0)] (AV.bool r) := by
 refine ACp_of (AC2_of_body (vs := [.b r]) Tryd.func35 rfl rfl (Nat.le_of_ble_eq_true rfl) rfl ?_) (fun _ => .same _)
 unfold g_ref_badReal at H
 refine as2 [(0, .p (AV.u64 b0))] [] rfl rfl rfl ?_
 refine sg [0] rfl ?_
 refine rp rfl rfl (p_asg rfl rfl) ?_
 refine rz [(0, .p (AV.u64 b0))] [] rfl rfl rfl ?_
 refine AW2_seq ?_
 refine AW2_mid (⟨[(2, .b (decide ((b0 = (9223372036854775808 : UInt64)) ∨ ((18437736874454810624 : UInt64) < shl_u64 b0 1))))], [], 10⟩ : TS) ?_ ?_
 ·refine AW2_reg [0, 1, 2, 3, 4, 5, 6, 7] rfl ?_
  refine rp rfl rfl (p_move rfl rfl) ?_
  refine rp rfl rfl (p_u64eq (a := b0) (b := (9223372036854775808 : UInt64)) rfl rfl rfl) ?_
  refine rp rfl rfl (p_move rfl rfl) ?_
  refine (Classical.em (b0 = (9223372036854775808 : UInt64))).elim (fun h1 => ?_) (fun h1 => ?_)
  ·refine r_off rfl rfl rfl rfl (decide_eq_true h1) rfl rfl ?_
   refine r_off rfl rfl rfl rfl (decide_eq_true h1) rfl rfl ?_
   refine r_off rfl rfl rfl rfl (decide_eq_true h1) rfl rfl ?_
   refine rp rfl rfl (p_pkt rfl rfl (decide_eq_true h1) (tb (decide_eq_true (p := (b0 = (9223372036854775808 : UInt64)) ∨ ((18437736874454810624 : UInt64) < shl_u64 b0 1)) (Or.inl h1)).symm)) ?_
   refine rp rfl rfl (p_asg rfl rfl) ?_
   refine rs [(2, .b (decide ((b0 = (9223372036854775808 : UInt64)) ∨ ((18437736874454810624 : UInt64) < shl_u64 b0 1))))] [] rfl rfl rfl ?_
   exact RunW_nil rfl
  ·refine r_on rfl rfl rfl rfl (decide_eq_false h1) rfl (PureD.opD (p_move rfl rfl)) ?_
   refine r_on rfl rfl rfl rfl (decide_eq_false h1) rfl (PureD.opD (p_u64shl (n := 1) rfl rfl rfl rfl)) ?_
   refine r_on rfl rfl rfl rfl (decide_eq_false h1) rfl (PureD.opD (p_u64gt (a := shl_u64 b0 1) (b := (18437736874454810624 : UInt64)) rfl rfl rfl)) ?_
   refine rp rfl rfl (p_pkf rfl rfl (decide_eq_false h1) (tb ((or_l (p := b0 = (9223372036854775808 : UInt64)) (q := (18437736874454810624 : UInt64) < shl_u64 b0 1) h1)))) ?_
   refine rp rfl rfl (p_asg rfl rfl) ?_
   refine rs [(2, .b (decide ((b0 = (9223372036854775808 : UInt64)) ∨ ((18437736874454810624 : UInt64) < shl_u64 b0 1))))] [] rfl rfl rfl ?_
   exact RunW_nil rfl
 ·refine AW2_ret ?_
  have hz := some_elim H
  subst hz
  exact ⟨⟨res_tmp (.same _), trivial⟩, trivial⟩

/-! chirographref.ValueFault -/
noncomputable def g_ref_ValueFault (v0 : GValue) : Option (Int) :=
  (show Option (Int ⊕ GValue) from (if v0.Kind = (0 : Int) then some (.inr ({ GValue.zero with Kind := v0.Kind })) else ((if v0.Kind = (1 : Int) then some (decide (v0.Kind = (1 : Int))) else some (decide (v0.Kind = (2 : Int))))).bind fun j'2 => (if j'2 = true then some (.inr ({ { GValue.zero with Kind := v0.Kind } with Int_ := v0.Int_ })) else (if v0.Kind = (3 : Int) then some (.inr ({ { GValue.zero with Kind := v0.Kind } with Bits := v0.Bits })) else (if v0.Kind = (4 : Int) then some (.inr ({ { GValue.zero with Kind := v0.Kind } with Text := v0.Text })) else some (.inl (2 : Int))))))).bind fun o'12 => match o'12 with | .inl y'3 => some y'3 | .inr j'1 => (if (v0.Text.length : Int) > (40 : Int) then some (1 : Int) else ((if v0 ≠ j'1 then some true else (if v0.Kind = (1 : Int) then (if (1 : UInt64) < UInt64.ofInt v0.Int_ then some true else (if v0.Kind = (3 : Int) then (g_ref_badReal v0.Bits).bind fun r'5 => (if r'5 = true then some true else (g_utf8_ValidString v0.Text).bind fun r'6 => some (!r'6)) else (g_utf8_ValidString v0.Text).bind fun r'7 => some (!r'7))) else (if v0.Kind = (3 : Int) then (g_ref_badReal v0.Bits).bind fun r'8 => (if r'8 = true then some true else (g_utf8_ValidString v0.Text).bind fun r'9 => some (!r'9)) else (g_utf8_ValidString v0.Text).bind fun r'10 => some (!r'10))))).bind fun g'11 => (if g'11 = true then some (3 : Int) else some (0 : Int)))
set_option maxHeartbeats 4000000 in
set_option maxRecDepth 100000 in
theorem g_ref_ValueFault_ac {v0 : GValue} {r : Int} (H : g_ref_ValueFault v0 = some r) : ACp Tryd.prog 43 [(.agg (GValue.cs v0))] (AV.int r) := by
 refine ACp_of (AC2_of_body (vs := [.i r]) Tryd.func43 rfl rfl (Nat.le_of_ble_eq_true rfl) rfl ?_) (fun _ => .same _)
 unfold g_ref_ValueFault at H
 refine as2 [(0, .g (GValue.cs v0))] [] rfl rfl rfl ?_
 refine sg [0, 1] rfl ?_
 refine r_op rfl rfl (MakeD.opD (n_box 1 rfl rfl) rfl rfl rfl rfl) ?_
 refine rp rfl rfl (p_asg rfl rfl) ?_
 refine rz [(1, .q 1 (0))] [(1, .pure (GValue.cs v0))] rfl rfl rfl ?_
 refine sg [0, 1, 2, 3, 4] rfl ?_
 refine rp rfl rfl (u_fa rfl rfl Tryd.underlying29 rfl in_3 (Nat.succ_ne_zero _) rfl rfl (ne_of_lt (n := 0) (Nat.lt_of_lt_of_eq (by decide) (Eq.symm (GValue.len v0))))) ?_
 refine rp rfl rfl (u_ld rfl rfl Tryd.underlying3 rfl rfl ((Sub.refl _).trans (GValue.sub0 v0))) ?_
 refine rp rfl rfl (u_bld rfl in_29 one_29 zc_29 pl_29 rfl (af_cons rfl rfl (GValue.upd0 GValue.zero v0.Kind) rfl)) ?_
 refine r_op rfl rfl (MakeD.opD (u_alloc 3 rfl in_29 one_29 zc_29) rfl rfl rfl rfl) ?_
 refine r_op rfl rfl (u_st rfl rfl rfl rfl rfl in_29 (GValue.len ((GValue.w0 GValue.zero v0.Kind))) (ne_of_lt (n := 0) (Nat.lt_of_lt_of_eq (by decide) (Eq.symm (GValue.len GValue.zero)))) (Upd.refl ((GValue.len ((GValue.w0 GValue.zero v0.Kind))).trans (GValue.len GValue.zero).symm))) ?_
 refine rz [(1, .q 1 (0)), (3, .q 3 (0))] [(1, .pure (GValue.cs v0)), (3, .pure (GValue.cs ((GValue.w0 GValue.zero v0.Kind))))] rfl rfl rfl ?_
 refine AW2_seq ?_
 refine bindK H fun o'12 h1 H => ?_
 refine AW2_join (fun j'1 : GValue => (⟨[(1, .q 1 (0)), (3, .q 3 (0))], [(1, .pure (GValue.cs v0)), (3, .pure (GValue.cs j'1))], 61⟩ : TS)) (fun r e s' => e = Go.Exit.ret ∧ ResAll Tryd.prog s' [ResultVar.tmp 2] [.i r] ∧ HFits s' []) (x := o'12) ?_ (fun j'1 hy => ?_) (fun y'3 e s' hy hs => ?_)
 ·clear H
  have H := h1
  clear h1
  refine sg [0, 1] rfl ?_
  refine rp rfl rfl (u_fa rfl rfl Tryd.underlying29 rfl in_3 (Nat.succ_ne_zero _) rfl rfl (ne_of_lt (n := 0) (Nat.lt_of_lt_of_eq (by decide) (Eq.symm (GValue.len v0))))) ?_
  refine rp rfl rfl (u_ld rfl rfl Tryd.underlying3 rfl rfl ((Sub.refl _).trans (GValue.sub0 v0))) ?_
  refine rz [(1, .q 1 (0)), (3, .q 3 (0)), (8, .i v0.Kind)] [(1, .pure (GValue.cs v0)), (3, .pure (GValue.cs ((GValue.w0 GValue.zero v0.Kind))))] rfl rfl rfl ?_
  refine AW2_block ?_
  refine sg [0, 1] rfl ?_
  refine rp rfl rfl (p_ieq rfl rfl rfl) ?_
  refine rp rfl rfl (p_asg rfl rfl) ?_
  refine rz [(1, .q 1 (0)), (3, .q 3 (0)), (8, .i v0.Kind), (9, .b (decide (v0.Kind = (0 : Int))))] [(1, .pure (GValue.cs v0)), (3, .pure (GValue.cs ((GValue.w0 GValue.zero v0.Kind))))] rfl rfl rfl ?_
  refine AW2_if (p := v0.Kind = (0 : Int)) rfl (fun h2 => ?_) (fun h2 => ?_)
  ·replace H := ite_then h2 H
   refine as2 [(1, .q 1 (0)), (3, .q 3 (0))] [(1, .pure (GValue.cs v0)), (3, .pure (GValue.cs ((GValue.w0 GValue.zero v0.Kind))))] rfl rfl rfl ?_
   refine AW2_skip ?_
   have hz := some_elim H
   subst hz
   exact ⟨rfl, rfl⟩
  ·replace H := ite_else h2 H
   refine AW2_seq ?_
   refine bindK H fun j'2 h3 H => ?_
   refine AW2_mid (⟨[(1, .q 1 (0)), (3, .q 3 (0)), (8, .i v0.Kind), (11, .b j'2)], [(1, .pure (GValue.cs v0)), (3, .pure (GValue.cs ((GValue.w0 GValue.zero v0.Kind))))], 61⟩ : TS) ?_ ?_
   ·clear H
    have H := h3
    clear h3
    refine sg [0, 1] rfl ?_
    refine rp rfl rfl (p_ieq rfl rfl rfl) ?_
    refine rp rfl rfl (p_asg rfl rfl) ?_
    refine rz [(1, .q 1 (0)), (3, .q 3 (0)), (8, .i v0.Kind), (11, .b (decide (v0.Kind = (1 : Int))))] [(1, .pure (GValue.cs v0)), (3, .pure (GValue.cs ((GValue.w0 GValue.zero v0.Kind))))] rfl rfl rfl ?_
    refine AW2_if (p := v0.Kind = (1 : Int)) rfl (fun h4 => ?_) (fun h4 => ?_)
    ·replace H := ite_then h4 H
     refine AW2_skip ?_
     have hz := some_elim H
     subst hz
     exact rfl
    ·replace H := ite_else h4 H
     refine AW2_reg [0, 1] rfl ?_
     refine rp rfl rfl (p_ieq rfl rfl rfl) ?_
     refine rp rfl rfl (p_asg rfl rfl) ?_
     refine rz [(1, .q 1 (0)), (3, .q 3 (0)), (8, .i v0.Kind), (11, .b (decide (v0.Kind = (2 : Int))))] [(1, .pure (GValue.cs v0)), (3, .pure (GValue.cs ((GValue.w0 GValue.zero v0.Kind))))] rfl rfl rfl ?_
     have hz := some_elim H
     subst hz
     exact rfl
   ·refine AW2_cond rfl (fun h5 => ?_) (fun h5 => ?_)
    ·replace H := ite_then h5 H
     refine AW2_reg [0, 1, 2, 3] rfl ?_
     refine rp rfl rfl (u_fa rfl rfl Tryd.underlying29 rfl in_3 (Nat.succ_ne_zero _) rfl rfl (ne_of_lt (n := 0) (Nat.lt_of_lt_of_eq (by decide) (Eq.symm (GValue.len v0))))) ?_
     refine rp rfl rfl (u_ld rfl rfl Tryd.underlying3 rfl rfl ((Sub.refl _).trans (GValue.sub1 v0))) ?_
     refine rp rfl rfl (u_fa rfl rfl Tryd.underlying29 rfl in_3 (Nat.succ_ne_zero _) rfl rfl (ne_of_lt (n := 0) (Nat.lt_of_lt_of_eq (by decide) (Eq.symm (GValue.len ((GValue.w0 GValue.zero v0.Kind))))))) ?_
     refine r_op rfl rfl (u_st rfl rfl rfl rfl rfl in_3 rfl (ne_of_lt (n := 0) (Nat.lt_of_lt_of_eq (by decide) (Eq.symm (GValue.len ((GValue.w0 GValue.zero v0.Kind)))))) (Upd.trans (Sub.refl _) (GValue.upd1 ((GValue.w0 GValue.zero v0.Kind)) v0.Int_) (Upd.refl ((GValue.len ((GValue.w1 (GValue.w0 GValue.zero v0.Kind) v0.Int_))).trans (GValue.len ((GValue.w0 GValue.zero v0.Kind))).symm)))) ?_
     refine rz [(1, .q 1 (0)), (3, .q 3 (0))] [(1, .pure (GValue.cs v0)), (3, .pure (GValue.cs ((GValue.w1 (GValue.w0 GValue.zero v0.Kind) v0.Int_))))] rfl rfl rfl ?_
     have hz := some_elim H
     subst hz
     exact ⟨rfl, rfl⟩
    ·replace H := ite_else (ne_true h5) H
     refine sg [0, 1] rfl ?_
     refine rp rfl rfl (p_ieq rfl rfl rfl) ?_
     refine rp rfl rfl (p_asg rfl rfl) ?_
     refine rz [(1, .q 1 (0)), (3, .q 3 (0)), (8, .i v0.Kind), (17, .b (decide (v0.Kind = (3 : Int))))] [(1, .pure (GValue.cs v0)), (3, .pure (GValue.cs ((GValue.w0 GValue.zero v0.Kind))))] rfl rfl rfl ?_
     refine AW2_if (p := v0.Kind = (3 : Int)) rfl (fun h6 => ?_) (fun h6 => ?_)
     ·replace H := ite_then h6 H
      refine AW2_reg [0, 1, 2, 3] rfl ?_
      refine rp rfl rfl (u_fa rfl rfl Tryd.underlying29 rfl in_22 (Nat.succ_ne_zero _) rfl rfl (ne_of_lt (n := 0) (Nat.lt_of_lt_of_eq (by decide) (Eq.symm (GValue.len v0))))) ?_
      refine rp rfl rfl (u_ld rfl rfl Tryd.underlying22 rfl rfl ((Sub.refl _).trans (GValue.sub2 v0))) ?_
      refine rp rfl rfl (u_fa rfl rfl Tryd.underlying29 rfl in_22 (Nat.succ_ne_zero _) rfl rfl (ne_of_lt (n := 0) (Nat.lt_of_lt_of_eq (by decide) (Eq.symm (GValue.len ((GValue.w0 GValue.zero v0.Kind))))))) ?_
      refine r_op rfl rfl (u_st rfl rfl rfl rfl rfl in_22 rfl (ne_of_lt (n := 0) (Nat.lt_of_lt_of_eq (by decide) (Eq.symm (GValue.len ((GValue.w0 GValue.zero v0.Kind)))))) (Upd.trans (Sub.refl _) (GValue.upd2 ((GValue.w0 GValue.zero v0.Kind)) v0.Bits) (Upd.refl ((GValue.len ((GValue.w2 (GValue.w0 GValue.zero v0.Kind) v0.Bits))).trans (GValue.len ((GValue.w0 GValue.zero v0.Kind))).symm)))) ?_
      refine rz [(1, .q 1 (0)), (3, .q 3 (0))] [(1, .pure (GValue.cs v0)), (3, .pure (GValue.cs ((GValue.w2 (GValue.w0 GValue.zero v0.Kind) v0.Bits))))] rfl rfl rfl ?_
      have hz := some_elim H
      subst hz
      exact ⟨rfl, rfl⟩
     ·replace H := ite_else h6 H
      refine sg [0, 1] rfl ?_
      refine rp rfl rfl (p_ieq rfl rfl rfl) ?_
      refine rp rfl rfl (p_asg rfl rfl) ?_
      refine rz [(1, .q 1 (0)), (3, .q 3 (0)), (22, .b (decide (v0.Kind = (4 : Int))))] [(1, .pure (GValue.cs v0)), (3, .pure (GValue.cs ((GValue.w0 GValue.zero v0.Kind))))] rfl rfl rfl ?_
      refine AW2_if (p := v0.Kind = (4 : Int)) rfl (fun h7 => ?_) (fun h7 => ?_)
      ·replace H := ite_then h7 H
       refine AW2_reg [0, 1, 2, 3] rfl ?_
       refine rp rfl rfl (u_fa rfl rfl Tryd.underlying29 rfl in_9 (Nat.succ_ne_zero _) rfl rfl (ne_of_lt (n := 0) (Nat.lt_of_lt_of_eq (by decide) (Eq.symm (GValue.len v0))))) ?_
       refine rp rfl rfl (u_ld rfl rfl Tryd.underlying9 rfl rfl ((Sub.refl _).trans (GValue.sub3 v0))) ?_
       refine rp rfl rfl (u_fa rfl rfl Tryd.underlying29 rfl in_9 (Nat.succ_ne_zero _) rfl rfl (ne_of_lt (n := 0) (Nat.lt_of_lt_of_eq (by decide) (Eq.symm (GValue.len ((GValue.w0 GValue.zero v0.Kind))))))) ?_
       refine r_op rfl rfl (u_st rfl rfl rfl rfl rfl in_9 rfl (ne_of_lt (n := 0) (Nat.lt_of_lt_of_eq (by decide) (Eq.symm (GValue.len ((GValue.w0 GValue.zero v0.Kind)))))) (Upd.trans (Sub.refl _) (GValue.upd3 ((GValue.w0 GValue.zero v0.Kind)) v0.Text) (Upd.refl ((GValue.len ((GValue.w3 (GValue.w0 GValue.zero v0.Kind) v0.Text))).trans (GValue.len ((GValue.w0 GValue.zero v0.Kind))).symm)))) ?_
       refine rz [(1, .q 1 (0)), (3, .q 3 (0))] [(1, .pure (GValue.cs v0)), (3, .pure (GValue.cs ((GValue.w3 (GValue.w0 GValue.zero v0.Kind) v0.Text))))] rfl rfl rfl ?_
       have hz := some_elim H
       subst hz
       exact ⟨rfl, rfl⟩
      ·replace H := ite_else h7 H
       refine sg [0] rfl ?_
       refine rp rfl rfl (p_asg rfl rfl) ?_
       refine rz [(2, .i (2 : Int))] [] rfl rfl rfl ?_
       refine AW2_ret ?_
       have hz := some_elim H
       subst hz
       exact ⟨rfl, ⟨res_tmp (.same _), trivial⟩, trivial⟩
 ·subst hy
  refine AW2_seq ?_
  refine sg [0, 1, 2, 3] rfl ?_
  refine rp rfl rfl (u_fa rfl rfl Tryd.underlying29 rfl in_9 (Nat.succ_ne_zero _) rfl rfl (ne_of_lt (n := 0) (Nat.lt_of_lt_of_eq (by decide) (Eq.symm (GValue.len v0))))) ?_
  refine rp rfl rfl (u_ld rfl rfl Tryd.underlying9 rfl rfl ((Sub.refl _).trans (GValue.sub3 v0))) ?_
  refine rp rfl rfl (p_lent rfl Tryd.underlying9 rfl) ?_
  refine rp rfl rfl (p_bin rfl rfl rfl rfl) ?_
  refine rz [(1, .q 1 (0)), (3, .q 3 (0)), (30, .b (decide ((v0.Text.length : Int) > (40 : Int))))] [(1, .pure (GValue.cs v0)), (3, .pure (GValue.cs j'1))] rfl rfl rfl ?_
  refine AW2_if (p := (v0.Text.length : Int) > (40 : Int)) rfl (fun h8 => ?_) (fun h8 => ?_)
  ·replace H := ite_then h8 H
   refine sg [0] rfl ?_
   refine rp rfl rfl (p_asg rfl rfl) ?_
   refine rz [(2, .i (1 : Int))] [] rfl rfl rfl ?_
   refine AW2_ret ?_
   have hz := some_elim H
   subst hz
   exact ⟨⟨res_tmp (.same _), trivial⟩, trivial⟩
  ·replace H := ite_else h8 H
   refine as2 [(1, .q 1 (0)), (3, .q 3 (0))] [(1, .pure (GValue.cs v0)), (3, .pure (GValue.cs j'1))] rfl rfl rfl ?_
   refine AW2_skip ?_
   refine AW2_seq ?_
   refine AW2_seq ?_
   refine bindK H fun g'11 h23 H => ?_
   refine AW2_mid (⟨[(60, .b g'11)], [], 61⟩ : TS) ?_ ?_
   ·clear H
    have H := h23
    clear h23
    refine AW2_reg [0, 1, 2, 3, 4, 5, 6, 7, 8, 9, 10, 11, 12, 13, 14, 15, 16, 17, 18, 19, 20, 21, 22, 23, 24, 25, 26, 27, 28, 29] rfl ?_
    refine rp rfl rfl (u_lda rfl rfl Tryd.underlying29 rfl in_29 rfl (Nat.succ_pos _) (Sub.refl _) (GValue.len v0)) ?_
    refine rp rfl rfl (u_lda rfl rfl Tryd.underlying29 rfl in_29 rfl (Nat.succ_pos _) (Sub.refl _) (GValue.len j'1)) ?_
    refine rp rfl rfl (p_nea (a := v0) (b := j'1) rfl eq_29 rfl (by kernel_rfl) rfl rfl) ?_
    refine rp rfl rfl (p_move rfl rfl) ?_
    refine (Classical.em (v0 ≠ j'1)).elim (fun h10 => ?_) (fun h10 => ?_)
    ·replace H := ite_then h10 H
     refine r_off rfl rfl rfl rfl (decide_eq_true h10) rfl rfl ?_
     refine r_off rfl rfl rfl rfl (decide_eq_true h10) rfl rfl ?_
     refine r_off rfl rfl rfl rfl (decide_eq_true h10) rfl rfl ?_
     refine r_off rfl rfl rfl rfl (decide_eq_true h10) rfl rfl ?_
     refine r_off2 rfl rfl rfl rfl rfl rfl ?_
     refine r_off2 rfl rfl rfl rfl rfl rfl ?_
     refine r_off2 rfl rfl rfl rfl rfl rfl ?_
     refine r_off2 rfl rfl rfl rfl rfl rfl ?_
     refine r_off rfl rfl rfl rfl (decide_eq_true h10) rfl rfl ?_
     refine rp rfl rfl (p_pkt rfl rfl (decide_eq_true h10) (.same _)) ?_
     refine rp rfl rfl (p_move rfl rfl) ?_
     refine r_off rfl rfl rfl rfl rfl rfl rfl ?_
     refine r_off rfl rfl rfl rfl rfl rfl rfl ?_
     refine r_off rfl rfl rfl rfl rfl rfl rfl ?_
     refine r_off rfl rfl rfl rfl rfl rfl rfl ?_
     refine r_off2 rfl rfl rfl rfl rfl rfl ?_
     refine r_off2 rfl rfl rfl rfl rfl rfl ?_
     refine r_off2 rfl rfl rfl rfl rfl rfl ?_
     refine r_off rfl rfl rfl rfl rfl rfl rfl ?_
     refine rp rfl rfl (p_pkt rfl rfl rfl (.same _)) ?_
     refine rp rfl rfl (p_move rfl rfl) ?_
     refine r_off rfl rfl rfl rfl rfl rfl rfl ?_
     refine r_off rfl rfl rfl rfl rfl rfl rfl ?_
     refine r_off rfl rfl rfl rfl rfl rfl rfl ?_
     refine r_off rfl rfl rfl rfl rfl rfl rfl ?_
     refine rp rfl rfl (p_pkt rfl rfl rfl (.same _)) ?_
     refine rs [(60, .b true)] [] rfl rfl rfl ?_
     have hz := some_elim H
     subst hz
     exact RunW_nil rfl
    ·replace H := ite_else h10 H
     refine r_on rfl rfl rfl rfl (decide_eq_false h10) rfl (PureD.opD (u_fa rfl rfl Tryd.underlying29 rfl in_3 (Nat.succ_ne_zero _) rfl rfl (ne_of_lt (n := 0) (Nat.lt_of_lt_of_eq (by decide) (Eq.symm (GValue.len v0)))))) ?_
     refine r_on rfl rfl rfl rfl (decide_eq_false h10) rfl (PureD.opD (u_ld rfl rfl Tryd.underlying3 rfl rfl ((Sub.refl _).trans (GValue.sub0 v0)))) ?_
     refine r_on rfl rfl rfl rfl (decide_eq_false h10) rfl (PureD.opD (p_ieq rfl rfl rfl)) ?_
     refine r_on rfl rfl rfl rfl (decide_eq_false h10) rfl (PureD.opD (p_move rfl rfl)) ?_
     refine (Classical.em (v0.Kind = (1 : Int))).elim (fun h11 => ?_) (fun h11 => ?_)
     ·replace H := ite_then h11 H
      refine r_on rfl rfl rfl rfl (decide_eq_true h11) rfl (PureD.opD (u_fa rfl rfl Tryd.underlying29 rfl in_3 (Nat.succ_ne_zero _) rfl rfl (ne_of_lt (n := 0) (Nat.lt_of_lt_of_eq (by decide) (Eq.symm (GValue.len v0)))))) ?_
      refine r_on rfl rfl rfl rfl (decide_eq_true h11) rfl (PureD.opD (u_ld rfl rfl Tryd.underlying3 rfl rfl ((Sub.refl _).trans (GValue.sub1 v0)))) ?_
      refine r_on rfl rfl rfl rfl (decide_eq_true h11) rfl (PureD.opD (p_i_u64 rfl Tryd.underlying3 Tryd.underlying82 rfl)) ?_
      refine r_on rfl rfl rfl rfl (decide_eq_true h11) rfl (PureD.opD (p_u64gt (a := UInt64.ofInt v0.Int_) (b := (1 : UInt64)) rfl rfl rfl)) ?_
      refine r_on rfl rfl rfl rfl (decide_eq_false h10) rfl (PureD.opD (p_pkt rfl rfl (decide_eq_true h11) (.same _))) ?_
      refine rp rfl rfl (p_pkf rfl rfl (decide_eq_false h10) (.same _)) ?_
      refine rp rfl rfl (p_move rfl rfl) ?_
      refine (Classical.em ((1 : UInt64) < UInt64.ofInt v0.Int_)).elim (fun h12 => ?_) (fun h12 => ?_)
      ·replace H := ite_then h12 H
       refine r_off rfl rfl rfl rfl (decide_eq_true h12) rfl rfl ?_
       refine r_off rfl rfl rfl rfl (decide_eq_true h12) rfl rfl ?_
       refine r_off rfl rfl rfl rfl (decide_eq_true h12) rfl rfl ?_
       refine r_off rfl rfl rfl rfl (decide_eq_true h12) rfl rfl ?_
       refine r_off2 rfl rfl rfl rfl rfl rfl ?_
       refine r_off2 rfl rfl rfl rfl rfl rfl ?_
       refine r_off2 rfl rfl rfl rfl rfl rfl ?_
       refine r_off rfl rfl rfl rfl (decide_eq_true h12) rfl rfl ?_
       refine rp rfl rfl (p_pkt rfl rfl (decide_eq_true h12) (.same _)) ?_
       refine rp rfl rfl (p_move rfl rfl) ?_
       refine r_off rfl rfl rfl rfl rfl rfl rfl ?_
       refine r_off rfl rfl rfl rfl rfl rfl rfl ?_
       refine r_off rfl rfl rfl rfl rfl rfl rfl ?_
       refine r_off rfl rfl rfl rfl rfl rfl rfl ?_
       refine rp rfl rfl (p_pkt rfl rfl rfl (.same _)) ?_
       refine rs [(60, .b true)] [] rfl rfl rfl ?_
       have hz := some_elim H
       subst hz
       exact RunW_nil rfl
      ·replace H := ite_else h12 H
       refine r_on rfl rfl rfl rfl (decide_eq_false h12) rfl (PureD.opD (u_fa rfl rfl Tryd.underlying29 rfl in_3 (Nat.succ_ne_zero _) rfl rfl (ne_of_lt (n := 0) (Nat.lt_of_lt_of_eq (by decide) (Eq.symm (GValue.len v0)))))) ?_
       refine r_on rfl rfl rfl rfl (decide_eq_false h12) rfl (PureD.opD (u_ld rfl rfl Tryd.underlying3 rfl rfl ((Sub.refl _).trans (GValue.sub0 v0)))) ?_
       refine r_on rfl rfl rfl rfl (decide_eq_false h12) rfl (PureD.opD (p_ieq rfl rfl rfl)) ?_
       refine r_on rfl rfl rfl rfl (decide_eq_false h12) rfl (PureD.opD (p_move rfl rfl)) ?_
       refine (Classical.em (v0.Kind = (3 : Int))).elim (fun h13 => ?_) (fun h13 => ?_)
       ·replace H := ite_then h13 H
        refine r_on rfl rfl rfl rfl (decide_eq_true h13) rfl (PureD.opD (u_fa rfl rfl Tryd.underlying29 rfl in_22 (Nat.succ_ne_zero _) rfl rfl (ne_of_lt (n := 0) (Nat.lt_of_lt_of_eq (by decide) (Eq.symm (GValue.len v0)))))) ?_
        refine r_on rfl rfl rfl rfl (decide_eq_true h13) rfl (PureD.opD (u_ld rfl rfl Tryd.underlying22 rfl rfl ((Sub.refl _).trans (GValue.sub2 v0)))) ?_
        refine bindK H fun r'5 h14 H => ?_
        refine r_on rfl rfl rfl rfl (decide_eq_true h13) rfl (PureD.opD (p_callp rfl rfl rfl Tryd.func35 rfl rfl (g_ref_badReal_ac h14) ⟨rfl, trivial⟩)) ?_
        refine r_on rfl rfl rfl rfl (decide_eq_false h12) rfl (PureD.opD (p_pkt rfl rfl (decide_eq_true h13) (.same _))) ?_
        refine rp rfl rfl (p_pkf rfl rfl (decide_eq_false h12) (.same _)) ?_
        refine rp rfl rfl (p_move rfl rfl) ?_
        refine (Classical.em (r'5 = true)).elim (fun h15 => ?_) (fun h15 => ?_)
        ·replace H := ite_then h15 H
         refine r_off rfl rfl rfl rfl h15 rfl rfl ?_
         refine r_off rfl rfl rfl rfl h15 rfl rfl ?_
         refine r_off rfl rfl rfl rfl h15 rfl rfl ?_
         refine r_off rfl rfl rfl rfl h15 rfl rfl ?_
         refine rp rfl rfl (p_pkt rfl rfl h15 (.same _)) ?_
         refine rs [(60, .b true)] [] rfl rfl rfl ?_
         have hz := some_elim H
         subst hz
         exact RunW_nil rfl
        ·replace H := ite_else h15 H
         refine r_on rfl rfl rfl rfl (bfalse h15) rfl (PureD.opD (u_fa rfl rfl Tryd.underlying29 rfl in_9 (Nat.succ_ne_zero _) rfl rfl (ne_of_lt (n := 0) (Nat.lt_of_lt_of_eq (by decide) (Eq.symm (GValue.len v0)))))) ?_
         refine r_on rfl rfl rfl rfl (bfalse h15) rfl (PureD.opD (u_ld rfl rfl Tryd.underlying9 rfl rfl ((Sub.refl _).trans (GValue.sub3 v0)))) ?_
         refine bindK H fun r'6 h16 H => ?_
         refine r_on rfl rfl rfl rfl (bfalse h15) rfl (PureD.opD (p_callp rfl rfl rfl Tryd.func30 rfl rfl (g_utf8_ValidString_ac h16) ⟨rfl, trivial⟩)) ?_
         refine r_on rfl rfl rfl rfl (bfalse h15) rfl (PureD.opD (p_not rfl rfl)) ?_
         refine rp rfl rfl (p_pkf rfl rfl (bfalse h15) (.same _)) ?_
         refine rs [(60, .b (!r'6))] [] rfl rfl rfl ?_
         have hz := some_elim H
         subst hz
         exact RunW_nil rfl
       ·replace H := ite_else h13 H
        refine r_off rfl rfl rfl rfl (decide_eq_false h13) rfl rfl ?_
        refine r_off rfl rfl rfl rfl (decide_eq_false h13) rfl rfl ?_
        refine r_off rfl rfl rfl rfl (decide_eq_false h13) rfl rfl ?_
        refine r_on rfl rfl rfl rfl (decide_eq_false h12) rfl (PureD.opD (p_pkf rfl rfl (decide_eq_false h13) (.same _))) ?_
        refine rp rfl rfl (p_pkf rfl rfl (decide_eq_false h12) (.same _)) ?_
        refine rp rfl rfl (p_move rfl rfl) ?_
        refine r_on rfl rfl rfl rfl (bfalse (by decide)) rfl (PureD.opD (u_fa rfl rfl Tryd.underlying29 rfl in_9 (Nat.succ_ne_zero _) rfl rfl (ne_of_lt (n := 0) (Nat.lt_of_lt_of_eq (by decide) (Eq.symm (GValue.len v0)))))) ?_
        refine r_on rfl rfl rfl rfl (bfalse (by decide)) rfl (PureD.opD (u_ld rfl rfl Tryd.underlying9 rfl rfl ((Sub.refl _).trans (GValue.sub3 v0)))) ?_
        refine bindK H fun r'7 h17 H => ?_
        refine r_on rfl rfl rfl rfl (bfalse (by decide)) rfl (PureD.opD (p_callp rfl rfl rfl Tryd.func30 rfl rfl (g_utf8_ValidString_ac h17) ⟨rfl, trivial⟩)) ?_
        refine r_on rfl rfl rfl rfl (bfalse (by decide)) rfl (PureD.opD (p_not rfl rfl)) ?_
        refine rp rfl rfl (p_pkf rfl rfl (bfalse (by decide)) (.same _)) ?_
        refine rs [(60, .b (!r'7))] [] rfl rfl rfl ?_
        have hz := some_elim H
        subst hz
        exact RunW_nil rfl
     ·replace H := ite_else h11 H
      refine r_off rfl rfl rfl rfl (decide_eq_false h11) rfl rfl ?_
      refine r_off rfl rfl rfl rfl (decide_eq_false h11) rfl rfl ?_
      refine r_off rfl rfl rfl rfl (decide_eq_false h11) rfl rfl ?_
      refine r_off rfl rfl rfl rfl (decide_eq_false h11) rfl rfl ?_
      refine r_on rfl rfl rfl rfl (decide_eq_false h10) rfl (PureD.opD (p_pkf rfl rfl (decide_eq_false h11) (.same _))) ?_
      refine rp rfl rfl (p_pkf rfl rfl (decide_eq_false h10) (.same _)) ?_
      refine rp rfl rfl (p_move rfl rfl) ?_
      refine r_on rfl rfl rfl rfl (bfalse (by decide)) rfl (PureD.opD (u_fa rfl rfl Tryd.underlying29 rfl in_3 (Nat.succ_ne_zero _) rfl rfl (ne_of_lt (n := 0) (Nat.lt_of_lt_of_eq (by decide) (Eq.symm (GValue.len v0)))))) ?_
      refine r_on rfl rfl rfl rfl (bfalse (by decide)) rfl (PureD.opD (u_ld rfl rfl Tryd.underlying3 rfl rfl ((Sub.refl _).trans (GValue.sub0 v0)))) ?_
      refine r_on rfl rfl rfl rfl (bfalse (by decide)) rfl (PureD.opD (p_ieq rfl rfl rfl)) ?_
      refine r_on rfl rfl rfl rfl (bfalse (by decide)) rfl (PureD.opD (p_move rfl rfl)) ?_
      refine (Classical.em (v0.Kind = (3 : Int))).elim (fun h18 => ?_) (fun h18 => ?_)
      ·replace H := ite_then h18 H
       refine r_on rfl rfl rfl rfl (decide_eq_true h18) rfl (PureD.opD (u_fa rfl rfl Tryd.underlying29 rfl in_22 (Nat.succ_ne_zero _) rfl rfl (ne_of_lt (n := 0) (Nat.lt_of_lt_of_eq (by decide) (Eq.symm (GValue.len v0)))))) ?_
       refine r_on rfl rfl rfl rfl (decide_eq_true h18) rfl (PureD.opD (u_ld rfl rfl Tryd.underlying22 rfl rfl ((Sub.refl _).trans (GValue.sub2 v0)))) ?_
       refine bindK H fun r'8 h19 H => ?_
       refine r_on rfl rfl rfl rfl (decide_eq_true h18) rfl (PureD.opD (p_callp rfl rfl rfl Tryd.func35 rfl rfl (g_ref_badReal_ac h19) ⟨rfl, trivial⟩)) ?_
       refine r_on rfl rfl rfl rfl (bfalse (by decide)) rfl (PureD.opD (p_pkt rfl rfl (decide_eq_true h18) (.same _))) ?_
       refine rp rfl rfl (p_pkf rfl rfl (bfalse (by decide)) (.same _)) ?_
       refine rp rfl rfl (p_move rfl rfl) ?_
       refine (Classical.em (r'8 = true)).elim (fun h20 => ?_) (fun h20 => ?_)
       ·replace H := ite_then h20 H
        refine r_off rfl rfl rfl rfl h20 rfl rfl ?_
        refine r_off rfl rfl rfl rfl h20 rfl rfl ?_
        refine r_off rfl rfl rfl rfl h20 rfl rfl ?_
        refine r_off rfl rfl rfl rfl h20 rfl rfl ?_
        refine rp rfl rfl (p_pkt rfl rfl h20 (.same _)) ?_
        refine rs [(60, .b true)] [] rfl rfl rfl ?_
        have hz := some_elim H
        subst hz
        exact RunW_nil rfl
       ·replace H := ite_else h20 H
        refine r_on rfl rfl rfl rfl (bfalse h20) rfl (PureD.opD (u_fa rfl rfl Tryd.underlying29 rfl in_9 (Nat.succ_ne_zero _) rfl rfl (ne_of_lt (n := 0) (Nat.lt_of_lt_of_eq (by decide) (Eq.symm (GValue.len v0)))))) ?_
        refine r_on rfl rfl rfl rfl (bfalse h20) rfl (PureD.opD (u_ld rfl rfl Tryd.underlying9 rfl rfl ((Sub.refl _).trans (GValue.sub3 v0)))) ?_
        refine bindK H fun r'9 h21 H => ?_
        refine r_on rfl rfl rfl rfl (bfalse h20) rfl (PureD.opD (p_callp rfl rfl rfl Tryd.func30 rfl rfl (g_utf8_ValidString_ac h21) ⟨rfl, trivial⟩)) ?_
        refine r_on rfl rfl rfl rfl (bfalse h20) rfl (PureD.opD (p_not rfl rfl)) ?_
        refine rp rfl rfl (p_pkf rfl rfl (bfalse h20) (.same _)) ?_
        refine rs [(60, .b (!r'9))] [] rfl rfl rfl ?_
        have hz := some_elim H
        subst hz
        exact RunW_nil rfl
      ·replace H := ite_else h18 H
       refine r_off rfl rfl rfl rfl (decide_eq_false h18) rfl rfl ?_
       refine r_off rfl rfl rfl rfl (decide_eq_false h18) rfl rfl ?_
       refine r_off rfl rfl rfl rfl (decide_eq_false h18) rfl rfl ?_
       refine r_on rfl rfl rfl rfl (bfalse (by decide)) rfl (PureD.opD (p_pkf rfl rfl (decide_eq_false h18) (.same _))) ?_
       refine rp rfl rfl (p_pkf rfl rfl (bfalse (by decide)) (.same _)) ?_
       refine rp rfl rfl (p_move rfl rfl) ?_
       refine r_on rfl rfl rfl rfl (bfalse (by decide)) rfl (PureD.opD (u_fa rfl rfl Tryd.underlying29 rfl in_9 (Nat.succ_ne_zero _) rfl rfl (ne_of_lt (n := 0) (Nat.lt_of_lt_of_eq (by decide) (Eq.symm (GValue.len v0)))))) ?_
       refine r_on rfl rfl rfl rfl (bfalse (by decide)) rfl (PureD.opD (u_ld rfl rfl Tryd.underlying9 rfl rfl ((Sub.refl _).trans (GValue.sub3 v0)))) ?_
       refine bindK H fun r'10 h22 H => ?_
       refine r_on rfl rfl rfl rfl (bfalse (by decide)) rfl (PureD.opD (p_callp rfl rfl rfl Tryd.func30 rfl rfl (g_utf8_ValidString_ac h22) ⟨rfl, trivial⟩)) ?_
       refine r_on rfl rfl rfl rfl (bfalse (by decide)) rfl (PureD.opD (p_not rfl rfl)) ?_
       refine rp rfl rfl (p_pkf rfl rfl (bfalse (by decide)) (.same _)) ?_
       refine rs [(60, .b (!r'10))] [] rfl rfl rfl ?_
       have hz := some_elim H
       subst hz
       exact RunW_nil rfl
   ·refine AW2_cond rfl (fun h24 => ?_) (fun h24 => ?_)
    ·replace H := ite_then h24 H
     refine sg [0] rfl ?_
     refine rp rfl rfl (p_asg rfl rfl) ?_
     refine rz [(2, .i (3 : Int))] [] rfl rfl rfl ?_
     refine AW2_ret ?_
     have hz := some_elim H
     subst hz
     exact ⟨⟨res_tmp (.same _), trivial⟩, trivial⟩
    ·replace H := ite_else (ne_true h24) H
     refine as2 [] [] rfl rfl rfl ?_
     refine AW2_skip ?_
     refine sg [0] rfl ?_
     refine rp rfl rfl (p_asg rfl rfl) ?_
     refine rz [(2, .i (0 : Int))] [] rfl rfl rfl ?_
     refine AW2_ret ?_
     have hz := some_elim H
     subst hz
     exact ⟨⟨res_tmp (.same _), trivial⟩, trivial⟩
 ·subst hy
  obtain ⟨rfl, hs⟩ := hs
  have hz := some_elim H
  subst hz
  exact ⟨hs.1, hs.2⟩

/-! chirographref.RowFault -/
def g_ref_RowFault_r15 : List (List (Nat × Option Nat)) := [[(7, none)], [(40, some 0)], [(1, none)], [(6, none)], [(42, some 2), (43, some 3)], [(44, some 4)], [(45, some 5)]]
def g_ref_RowFault_r15c : List (List Nat) := [[], [0], [], [], [2, 3], [2, 3, 4], [2, 3, 4, 5], [0, 1, 2, 3, 4, 5, 6]]
noncomputable def g_ref_RowFault_l0 (row0 : List GValue) (cols1 : List GColumn) : Int → Option (Int ⊕ (Int ⊕ Unit))
  | t21_0 => (if t21_0 < (row0.length : Int) then (show Option (Int ⊕ Unit) from if 0 ≤ t21_0 ∧ t21_0 < (row0.length : Int) then (g_ref_ValueFault (lrd row0 t21_0.toNat)).bind fun r'3 => (if r'3 ≠ (0 : Int) then some (.inl r'3) else (if (lrd row0 t21_0.toNat).Kind = (0 : Int) then if 0 ≤ t21_0 ∧ t21_0 < (cols1.length : Int) then (if (!((lrd cols1 t21_0.toNat).Null)) = true then some (.inl (12 : Int)) else some (.inr ())) else none else if 0 ≤ t21_0 ∧ t21_0 < (cols1.length : Int) then (if (lrd row0 t21_0.toNat).Kind ≠ (lrd cols1 t21_0.toNat).Kind then some (.inl (2 : Int)) else some (.inr ())) else none)) else none).bind fun o'5 => match o'5 with | .inl y'4 => some (.inr (.inl y'4)) | .inr j'2 => some (.inl (w64 (t21_0 + (1 : Int)))) else some (.inr (.inr ())))
noncomputable def g_ref_RowFault (row0 : List GValue) (cols1 : List GColumn) : Option (Int) :=
  (g_ref_ColumnsFault cols1).bind fun r'1 => (if r'1 ≠ (0 : Int) then some r'1 else (if (row0.length : Int) ≠ (cols1.length : Int) then some (1 : Int) else (loopO (g_ref_RowFault_l0 row0 cols1) (0 : Int)).bind fun o'9 => match o'9 with | .inl y'10 => some y'10 | .inr (y'11) => some (0 : Int)))
set_option maxHeartbeats 4000000 in
set_option maxRecDepth 100000 in
theorem g_ref_RowFault_ac {row0 : List GValue} {cols1 : List GColumn} {r : Int} (H : g_ref_RowFault row0 cols1 = some r) : ACp Tryd.prog 17 [((fun q : List GValue => AV.lst (q.flatMap GValue.cs) q.length) row0), ((fun q : List GColumn => AV.lst (q.flatMap GColumn.cs) q.length) cols1)] (AV.int r) := by
 refine ACp_of (AC2_of_body (vs := [.i r]) Tryd.func17 rfl rfl (Nat.le_of_ble_eq_true rfl) rfl ?_) (fun _ => .same _)
 unfold g_ref_RowFault at H
 refine as2 [(0, .p ((fun q : List GValue => AV.lst (q.flatMap GValue.cs) q.length) row0)), (1, .p ((fun q : List GColumn => AV.lst (q.flatMap GColumn.cs) q.length) cols1))] [] rfl rfl rfl ?_
 refine sg [0] rfl ?_
 refine rp rfl rfl (p_asg rfl rfl) ?_
 refine rz [(0, .p ((fun q : List GValue => AV.lst (q.flatMap GValue.cs) q.length) row0)), (1, .p ((fun q : List GColumn => AV.lst (q.flatMap GColumn.cs) q.length) cols1))] [] rfl rfl rfl ?_
 refine AW2_seq ?_
 refine sg [0, 1, 2] rfl ?_
 refine rp rfl rfl (p_move rfl rfl) ?_
 refine bindK H fun r'1 h1 H => ?_
 refine rp rfl rfl (p_callp rfl rfl rfl Tryd.func15 rfl rfl (g_ref_ColumnsFault_ac h1) ⟨rfl, trivial⟩) ?_
 refine rp rfl rfl (p_asg rfl rfl) ?_
 refine rz [(0, .p ((fun q : List GValue => AV.lst (q.flatMap GValue.cs) q.length) row0)), (1, .p ((fun q : List GColumn => AV.lst (q.flatMap GColumn.cs) q.length) cols1)), (5, .i r'1)] [] rfl rfl rfl ?_
 refine sg [0, 1] rfl ?_
 refine rp rfl rfl (p_move rfl rfl) ?_
 refine rp rfl rfl (p_ine rfl rfl rfl) ?_
 refine rz [(0, .p ((fun q : List GValue => AV.lst (q.flatMap GValue.cs) q.length) row0)), (1, .p ((fun q : List GColumn => AV.lst (q.flatMap GColumn.cs) q.length) cols1)), (5, .i r'1), (12, .b (decide (r'1 ≠ (0 : Int))))] [] rfl rfl rfl ?_
 refine AW2_if (p := r'1 ≠ (0 : Int)) rfl (fun h2 => ?_) (fun h2 => ?_)
 ·replace H := ite_then h2 H
  refine sg [0, 1] rfl ?_
  refine rp rfl rfl (p_move rfl rfl) ?_
  refine rp rfl rfl (p_asg rfl rfl) ?_
  refine rz [(4, .i r'1)] [] rfl rfl rfl ?_
  refine AW2_ret ?_
  have hz := some_elim H
  subst hz
  exact ⟨⟨res_tmp (.same _), trivial⟩, trivial⟩
 ·replace H := ite_else h2 H
  refine as2 [(0, .p ((fun q : List GValue => AV.lst (q.flatMap GValue.cs) q.length) row0)), (1, .p ((fun q : List GColumn => AV.lst (q.flatMap GColumn.cs) q.length) cols1))] [] rfl rfl rfl ?_
  refine AW2_skip ?_
  refine AW2_seq ?_
  refine sg [0, 1, 2, 3, 4] rfl ?_
  refine rp rfl rfl (p_move rfl rfl) ?_
  refine rp rfl rfl (p_lenl rfl Tryd.underlying38 rfl rfl) ?_
  refine rp rfl rfl (p_move rfl rfl) ?_
  refine rp rfl rfl (p_lenl rfl Tryd.underlying35 rfl rfl) ?_
  refine rp rfl rfl (p_ine rfl rfl rfl) ?_
  refine rz [(0, .p ((fun q : List GValue => AV.lst (q.flatMap GValue.cs) q.length) row0)), (1, .p ((fun q : List GColumn => AV.lst (q.flatMap GColumn.cs) q.length) cols1)), (18, .b (decide ((row0.length : Int) ≠ (cols1.length : Int))))] [] rfl rfl rfl ?_
  refine AW2_if (p := (row0.length : Int) ≠ (cols1.length : Int)) rfl (fun h3 => ?_) (fun h3 => ?_)
  ·replace H := ite_then h3 H
   refine sg [0] rfl ?_
   refine rp rfl rfl (p_asg rfl rfl) ?_
   refine rz [(4, .i (1 : Int))] [] rfl rfl rfl ?_
   refine AW2_ret ?_
   have hz := some_elim H
   subst hz
   exact ⟨⟨res_tmp (.same _), trivial⟩, trivial⟩
  ·replace H := ite_else h3 H
   refine as2 [(0, .p ((fun q : List GValue => AV.lst (q.flatMap GValue.cs) q.length) row0)), (1, .p ((fun q : List GColumn => AV.lst (q.flatMap GColumn.cs) q.length) cols1))] [] rfl rfl rfl ?_
   refine AW2_skip ?_
   refine AW2_seq ?_
   refine sg [0, 1, 2] rfl ?_
   refine rp rfl rfl (p_move rfl rfl) ?_
   refine rp rfl rfl (p_lenl rfl Tryd.underlying38 rfl rfl) ?_
   refine rp rfl rfl (p_move rfl rfl) ?_
   refine rz [(1, .p ((fun q : List GColumn => AV.lst (q.flatMap GColumn.cs) q.length) cols1)), (19, .p ((fun q : List GValue => AV.lst (q.flatMap GValue.cs) q.length) row0)), (20, .i (row0.length : Int)), (21, .i (0 : Int))] [] rfl rfl rfl ?_
   refine AW2_block ?_
   refine as2 [(1, .p ((fun q : List GColumn => AV.lst (q.flatMap GColumn.cs) q.length) cols1)), (19, .p ((fun q : List GValue => AV.lst (q.flatMap GValue.cs) q.length) row0)), (20, .i (row0.length : Int)), (21, .i (0 : Int))] [] rfl rfl rfl ?_
   refine bindK H fun o'9 h14 H => ?_
   refine AW2_loopO (fun a'6 : Int => (⟨[(1, .p ((fun q : List GColumn => AV.lst (q.flatMap GColumn.cs) q.length) cols1)), (19, .p ((fun q : List GValue => AV.lst (q.flatMap GValue.cs) q.length) row0)), (20, .i (row0.length : Int)), (21, .i a'6)], [], 49⟩ : TS)) (fun (o : Int ⊕ Unit) e s' => match o with | .inl y'7 => e = Go.Exit.ret ∧ ResAll Tryd.prog s' [ResultVar.tmp 4] [.i y'7] ∧ HFits s' [] | .inr (y'8) => e = Go.Exit.exit 0 ∧ s' = (⟨[], [], 49⟩ : TS)) h14 rfl (fun t21_0 x hx => ?_) (fun e s' hs => ?_)
   ·clear H
    have H := hx
    clear hx
    unfold g_ref_RowFault_l0 at H
    refine sg [0] rfl ?_
    refine rp rfl rfl (p_bin rfl rfl rfl rfl) ?_
    refine rz [(1, .p ((fun q : List GColumn => AV.lst (q.flatMap GColumn.cs) q.length) cols1)), (19, .p ((fun q : List GValue => AV.lst (q.flatMap GValue.cs) q.length) row0)), (20, .i (row0.length : Int)), (21, .i t21_0), (22, .b (decide (t21_0 < (row0.length : Int))))] [] rfl rfl rfl ?_
    refine AW2_seq ?_
    refine AW2_if (p := t21_0 < (row0.length : Int)) rfl (fun h4 => ?_) (fun h4 => ?_)
    ·replace H := ite_then h4 H
     refine as2 [(1, .p ((fun q : List GColumn => AV.lst (q.flatMap GColumn.cs) q.length) cols1)), (19, .p ((fun q : List GValue => AV.lst (q.flatMap GValue.cs) q.length) row0)), (20, .i (row0.length : Int)), (21, .i t21_0)] [] rfl rfl rfl ?_
     refine AW2_skip ?_
     refine AW2_seq ?_
     refine bindK H fun o'5 h5 H => ?_
     refine AW2_join (fun j'2 : Unit => (⟨[(1, .p ((fun q : List GColumn => AV.lst (q.flatMap GColumn.cs) q.length) cols1)), (19, .p ((fun q : List GValue => AV.lst (q.flatMap GValue.cs) q.length) row0)), (20, .i (row0.length : Int)), (21, .i t21_0)], [], 49⟩ : TS)) (fun r e s' => e = Go.Exit.ret ∧ ResAll Tryd.prog s' [ResultVar.tmp 4] [.i r] ∧ HFits s' []) (x := o'5) ?_ (fun j'2 hy => ?_) (fun y'4 e s' hy hs => ?_)
     ·clear H
      have H := h5
      clear h5
      refine AW2_block ?_
      refine sg [0, 1, 2, 3, 4, 5] rfl ?_
      refine rp rfl rfl (p_move rfl rfl) ?_
      refine chkK H fun h6 H => ?_
      refine rp rfl rfl (u_ixl rfl rfl Tryd.underlying38 in_29 rfl rfl (ixe h6) (ixn h6) (fne (fun x => (GValue.len x)) (by decide) (ixn h6))) ?_
      refine rp rfl rfl (u_lda rfl rfl Tryd.underlying29 rfl in_29 rfl (Nat.succ_pos _) (Sub.fm default (fun x => (GValue.len x)) (ixn h6)) (GValue.len (lrd row0 t21_0.toNat))) ?_
      refine r_op rfl rfl (MakeD.opD (u_alloc 7 rfl in_29 one_29 zc_29) rfl rfl rfl rfl) ?_
      refine rp rfl rfl (p_asg rfl rfl) ?_
      refine r_op rfl rfl (u_st rfl rfl rfl rfl rfl in_29 (GValue.len (lrd row0 t21_0.toNat)) (ne_of_lt (n := 0) (Nat.lt_of_lt_of_eq (by decide) (Eq.symm (GValue.len GValue.zero)))) (Upd.refl ((GValue.len (lrd row0 t21_0.toNat)).trans (GValue.len GValue.zero).symm))) ?_
      refine rz [(1, .p ((fun q : List GColumn => AV.lst (q.flatMap GColumn.cs) q.length) cols1)), (6, .i t21_0), (7, .q 7 (0)), (19, .p ((fun q : List GValue => AV.lst (q.flatMap GValue.cs) q.length) row0)), (20, .i (row0.length : Int)), (21, .i t21_0)] [(7, .pure (GValue.cs (lrd row0 t21_0.toNat)))] rfl rfl rfl ?_
      refine AW2_seq ?_
      refine sg [0, 1, 2] rfl ?_
      refine rp rfl rfl (u_lda rfl rfl Tryd.underlying29 rfl in_29 rfl (Nat.succ_pos _) (Sub.refl _) (GValue.len (lrd row0 t21_0.toNat))) ?_
      refine bindK H fun r'3 h7 H => ?_
      refine rp rfl rfl (p_callp rfl rfl rfl Tryd.func43 rfl rfl (g_ref_ValueFault_ac h7) ⟨rfl, trivial⟩) ?_
      refine rp rfl rfl (p_asg rfl rfl) ?_
      refine rz [(1, .p ((fun q : List GColumn => AV.lst (q.flatMap GColumn.cs) q.length) cols1)), (6, .i t21_0), (7, .q 7 (0)), (8, .i r'3), (19, .p ((fun q : List GValue => AV.lst (q.flatMap GValue.cs) q.length) row0)), (20, .i (row0.length : Int)), (21, .i t21_0)] [(7, .pure (GValue.cs (lrd row0 t21_0.toNat)))] rfl rfl rfl ?_
      refine sg [0, 1] rfl ?_
      refine rp rfl rfl (p_move rfl rfl) ?_
      refine rp rfl rfl (p_ine rfl rfl rfl) ?_
      refine rz [(1, .p ((fun q : List GColumn => AV.lst (q.flatMap GColumn.cs) q.length) cols1)), (6, .i t21_0), (7, .q 7 (0)), (8, .i r'3), (19, .p ((fun q : List GValue => AV.lst (q.flatMap GValue.cs) q.length) row0)), (20, .i (row0.length : Int)), (21, .i t21_0), (29, .b (decide (r'3 ≠ (0 : Int))))] [(7, .pure (GValue.cs (lrd row0 t21_0.toNat)))] rfl rfl rfl ?_
      refine AW2_if (p := r'3 ≠ (0 : Int)) rfl (fun h8 => ?_) (fun h8 => ?_)
      ·replace H := ite_then h8 H
       refine sg [0, 1] rfl ?_
       refine rp rfl rfl (p_move rfl rfl) ?_
       refine rp rfl rfl (p_asg rfl rfl) ?_
       refine rz [(4, .i r'3)] [] rfl rfl rfl ?_
       refine AW2_ret ?_
       have hz := some_elim H
       subst hz
       exact ⟨rfl, ⟨res_tmp (.same _), trivial⟩, trivial⟩
      ·replace H := ite_else h8 H
       refine as2 [(1, .p ((fun q : List GColumn => AV.lst (q.flatMap GColumn.cs) q.length) cols1)), (6, .i t21_0), (7, .q 7 (0)), (19, .p ((fun q : List GValue => AV.lst (q.flatMap GValue.cs) q.length) row0)), (20, .i (row0.length : Int)), (21, .i t21_0)] [(7, .pure (GValue.cs (lrd row0 t21_0.toNat)))] rfl rfl rfl ?_
       refine AW2_skip ?_
       refine sg [0, 1, 2] rfl ?_
       refine rp rfl rfl (u_fa rfl rfl Tryd.underlying29 rfl in_3 (Nat.succ_ne_zero _) rfl rfl (ne_of_lt (n := 0) (Nat.lt_of_lt_of_eq (by decide) (Eq.symm (GValue.len (lrd row0 t21_0.toNat)))))) ?_
       refine rp rfl rfl (u_ld rfl rfl Tryd.underlying3 rfl rfl ((Sub.refl _).trans (GValue.sub0 (lrd row0 t21_0.toNat)))) ?_
       refine rp rfl rfl (p_ieq rfl rfl rfl) ?_
       refine rz [(1, .p ((fun q : List GColumn => AV.lst (q.flatMap GColumn.cs) q.length) cols1)), (6, .i t21_0), (7, .q 7 (0)), (19, .p ((fun q : List GValue => AV.lst (q.flatMap GValue.cs) q.length) row0)), (20, .i (row0.length : Int)), (21, .i t21_0), (33, .b (decide ((lrd row0 t21_0.toNat).Kind = (0 : Int))))] [(7, .pure (GValue.cs (lrd row0 t21_0.toNat)))] rfl rfl rfl ?_
       refine AW2_if (p := (lrd row0 t21_0.toNat).Kind = (0 : Int)) rfl (fun h9 => ?_) (fun h9 => ?_)
       ·replace H := ite_then h9 H
        refine sg [0, 1, 2, 3, 4, 5] rfl ?_
        refine rp rfl rfl (p_move rfl rfl) ?_
        refine rp rfl rfl (p_move rfl rfl) ?_
        refine chkK H fun h10 H => ?_
        refine rp rfl rfl (u_ixl rfl rfl Tryd.underlying35 in_68 rfl rfl (ixe h10) (ixn h10) (fne (fun x => (GColumn.len x)) (by decide) (ixn h10))) ?_
        refine rp rfl rfl (u_far rfl rfl Tryd.underlying68 rfl in_4 (Nat.succ_ne_zero _) rfl) ?_
        refine rp rfl rfl (u_ld rfl rfl Tryd.underlying4 rfl rfl ((Sub.fm default (fun x => (GColumn.len x)) (ixn h10)).trans (GColumn.sub2 (lrd cols1 t21_0.toNat)))) ?_
        refine rp rfl rfl (p_not rfl rfl) ?_
        refine rz [(1, .p ((fun q : List GColumn => AV.lst (q.flatMap GColumn.cs) q.length) cols1)), (19, .p ((fun q : List GValue => AV.lst (q.flatMap GValue.cs) q.length) row0)), (20, .i (row0.length : Int)), (21, .i t21_0), (39, .b (!((lrd cols1 t21_0.toNat).Null)))] [] rfl rfl rfl ?_
        refine AW2_cond rfl (fun h11 => ?_) (fun h11 => ?_)
        ·replace H := ite_then h11 H
         refine sg [0] rfl ?_
         refine rp rfl rfl (p_asg rfl rfl) ?_
         refine rz [(4, .i (12 : Int))] [] rfl rfl rfl ?_
         refine AW2_ret ?_
         have hz := some_elim H
         subst hz
         exact ⟨rfl, ⟨res_tmp (.same _), trivial⟩, trivial⟩
        ·replace H := ite_else (ne_true h11) H
         refine as2 [(1, .p ((fun q : List GColumn => AV.lst (q.flatMap GColumn.cs) q.length) cols1)), (19, .p ((fun q : List GValue => AV.lst (q.flatMap GValue.cs) q.length) row0)), (20, .i (row0.length : Int)), (21, .i t21_0)] [] rfl rfl rfl ?_
         refine AW2_skip ?_
         have hz := some_elim H
         subst hz
         exact ⟨rfl, rfl⟩
       ·replace H := ite_else h9 H
        refine AW2_seq ?_
        refine chkK H fun h12 H => ?_
        refine AW2_ghoQ ?_
        refine AW2_draw 7 [7] (fun k => ([.q 7 (0 + 0), .i ((lrd row0 t21_0.toNat).Kind), .p ((fun q : List GColumn => AV.lst (q.flatMap GColumn.cs) q.length) cols1), .i t21_0, .p (.rptr (cols1.flatMap GColumn.cs) (t21_0.toNat * 3)), .p (.rptr (cols1.flatMap GColumn.cs) (t21_0.toNat * 3 + 1)), .i ((lrd cols1 t21_0.toNat).Kind)] : List TV).getD k TV.any) (fun k => g_ref_RowFault_r15.getD k []) [(1, none), (19, none), (20, none), (21, none), (41, some 1), (46, some 6)] [] (fun k => g_ref_RowFault_r15c.getD k []) mixed (by kernel_rfl) rfl rfl (a_op (g_x rfl (x_p rfl (u_fa rfl rfl Tryd.underlying29 rfl in_3 (Nat.succ_ne_zero _) rfl rfl (ne_of_lt (n := 0) (Nat.lt_of_lt_of_eq (by decide) (Eq.symm (GValue.len (lrd row0 t21_0.toNat)))))) rfl)) (a_op (g_x rfl (x_p rfl (u_ld rfl rfl Tryd.underlying3 rfl rfl ((Sub.refl _).trans (GValue.sub0 (lrd row0 t21_0.toNat)))) rfl)) (a_op (g_x rfl (x_p rfl (p_move rfl rfl) rfl)) (a_op (g_x rfl (x_p rfl (p_move rfl rfl) rfl)) (a_op (g_x rfl (x_p rfl (u_ixl rfl rfl Tryd.underlying35 in_68 rfl rfl (ixe h12) (ixn h12) (fne (fun x => (GColumn.len x)) (by decide) (ixn h12))) rfl)) (a_op (g_x rfl (x_p rfl (u_far rfl rfl Tryd.underlying68 rfl in_3 (Nat.succ_ne_zero _) rfl) rfl)) (a_op (g_x rfl (x_p rfl (u_ld rfl rfl Tryd.underlying3 rfl rfl ((Sub.fm default (fun x => (GColumn.len x)) (ixn h12)).trans (GColumn.sub1 (lrd cols1 t21_0.toNat)))) rfl)) (a_nil)))))))) ?_
        refine t_op rfl rfl (PureD.opD (p_ine rfl rfl rfl)) ?_
        refine t_gho (Gho_st (L := [(1, .p ((fun q : List GColumn => AV.lst (q.flatMap GColumn.cs) q.length) cols1)), (19, .p ((fun q : List GValue => AV.lst (q.flatMap GValue.cs) q.length) row0)), (20, .i (row0.length : Int)), (21, .i t21_0), (47, .b (decide ((lrd row0 t21_0.toNat).Kind ≠ (lrd cols1 t21_0.toNat).Kind)))]) (H := []) (N := 49) rfl ⟨TLes.same _, TLes.same _, TLes.same _, TLes.same _, TLes.same _, trivial⟩ trivial) ?_
        refine AW2_if (p := (lrd row0 t21_0.toNat).Kind ≠ (lrd cols1 t21_0.toNat).Kind) rfl (fun h13 => ?_) (fun h13 => ?_)
        ·replace H := ite_then h13 H
         refine sg [0] rfl ?_
         refine rp rfl rfl (p_asg rfl rfl) ?_
         refine rz [(4, .i (2 : Int))] [] rfl rfl rfl ?_
         refine AW2_ret ?_
         have hz := some_elim H
         subst hz
         exact ⟨rfl, ⟨res_tmp (.same _), trivial⟩, trivial⟩
        ·replace H := ite_else h13 H
         refine as2 [(1, .p ((fun q : List GColumn => AV.lst (q.flatMap GColumn.cs) q.length) cols1)), (19, .p ((fun q : List GValue => AV.lst (q.flatMap GValue.cs) q.length) row0)), (20, .i (row0.length : Int)), (21, .i t21_0)] [] rfl rfl rfl ?_
         refine AW2_skip ?_
         have hz := some_elim H
         subst hz
         exact ⟨rfl, rfl⟩
     ·subst hy
      refine AW2_reg [0, 1] rfl ?_
      refine rp rfl rfl (p_bin rfl rfl rfl rfl) ?_
      refine rp rfl rfl (p_move rfl rfl) ?_
      refine rz [(1, .p ((fun q : List GColumn => AV.lst (q.flatMap GColumn.cs) q.length) cols1)), (19, .p ((fun q : List GValue => AV.lst (q.flatMap GValue.cs) q.length) row0)), (20, .i (row0.length : Int)), (21, .i (w64 (t21_0 + (1 : Int))))] [] rfl rfl rfl ?_
      have hz := some_elim H
      subst hz
      exact ⟨rfl, rfl⟩
     ·subst hy
      obtain ⟨rfl, hs⟩ := hs
      have hz := some_elim H
      subst hz
      exact ⟨rfl, hs.1, hs.2⟩
    ·replace H := ite_else h4 H
     refine as2 [] [] rfl rfl rfl ?_
     refine AW2_exit ?_
     refine thenQ2_exit ?_
     have hz := some_elim H
     subst hz
     exact ⟨rfl, rfl⟩
   ·rcases o'9 with y'10 | y'11
    ·obtain ⟨rfl, hs⟩ := hs
     refine ⟨by simp, ?_⟩
     have hz := some_elim H
     subst hz
     exact ⟨hs.1, hs.2⟩
    ·obtain ⟨rfl, rfl⟩ := hs
     refine ⟨by simp, ?_⟩
     refine blockQ2_exit ?_
     refine sg [0] rfl ?_
     refine rp rfl rfl (p_asg rfl rfl) ?_
     refine rz [(4, .i (0 : Int))] [] rfl rfl rfl ?_
     refine AW2_ret ?_
     have hz := some_elim H
     subst hz
     exact ⟨⟨res_tmp (.same _), trivial⟩, trivial⟩

/-! chirographref.keysFault -/
noncomputable def g_ref_keysFault_l1 (d0 : Vector GCell 4) (t9_0 : Int) (seen3_0 : List Int) : Int → Option (Int ⊕ (Int ⊕ Unit))
  | t17_1 => (if t17_1 < (seen3_0.length : Int) then if 0 ≤ t17_1 ∧ t17_1 < (seen3_0.length : Int) then if 0 < ((vrd d0 t9_0.toNat).Row).length then (if (lrd seen3_0 t17_1.toNat) = (lrd ((vrd d0 t9_0.toNat).Row) 0).Int_ then some (.inr (.inl (8 : Int))) else some (.inl (w64 (t17_1 + (1 : Int))))) else none else none else some (.inr (.inr ())))
noncomputable def g_ref_keysFault_l0 (d0 : Vector GCell 4) : Int × (List Int) → Option ((Int × (List Int)) ⊕ (Int ⊕ Unit))
  | (t9_0, seen3_0) => (if t9_0 < (4 : Int) then (show Option (Int ⊕ ((List Int))) from if 0 ≤ t9_0 ∧ t9_0 < (4 : Int) then (if (!((vrd d0 t9_0.toNat).Full)) = true then some (.inr seen3_0) else (loopO (g_ref_keysFault_l1 d0 t9_0 seen3_0) (0 : Int)).bind fun o'5 => match o'5 with | .inl y'6 => some (.inl y'6) | .inr (y'7) => if 0 < ((vrd d0 t9_0.toNat).Row).length then if room (seen3_0.length + ([(lrd ((vrd d0 t9_0.toNat).Row) 0).Int_] : List Int).length) 8 then some (.inr (seen3_0 ++ ([(lrd ((vrd d0 t9_0.toNat).Row) 0).Int_] : List Int))) else none else none) else none).bind fun o'9 => match o'9 with | .inl y'8 => some (.inr (.inl y'8)) | .inr j'1 => some (.inl (w64 (t9_0 + (1 : Int)), j'1)) else some (.inr (.inr ())))
noncomputable def g_ref_keysFault (d0 : Vector GCell 4) : Option (Int) :=
  (loopO (g_ref_keysFault_l0 d0) ((0 : Int), ([] : List Int))).bind fun o'13 => match o'13 with | .inl y'14 => some y'14 | .inr (y'15) => some (0 : Int)
set_option maxHeartbeats 4000000 in
set_option maxRecDepth 100000 in
theorem g_ref_keysFault_ac {d0 : Vector GCell 4} {r : Int} (H : g_ref_keysFault d0 = some r) : ACp Tryd.prog 45 [(.agg (d0.toList.flatMap GCell.cs))] (AV.int r) := by
 refine ACp_of (AC2_of_body (vs := [.i r]) Tryd.func45 rfl rfl (Nat.le_of_ble_eq_true rfl) rfl ?_) (fun _ => .same _)
 unfold g_ref_keysFault at H
 refine as2 [(0, .g (d0.toList.flatMap GCell.cs))] [] rfl rfl rfl ?_
 refine sg [0, 1] rfl ?_
 refine r_op rfl rfl (MakeD.opD (n_box 1 rfl rfl) rfl rfl rfl rfl) ?_
 refine rp rfl rfl (p_asg rfl rfl) ?_
 refine rz [(1, .q 1 (0))] [(1, .pure (d0.toList.flatMap GCell.cs))] rfl rfl rfl ?_
 refine sg [0] rfl ?_
 refine rp rfl rfl (p_asgn rfl) ?_
 refine rz [(1, .q 1 (0)), (3, .p .nil)] [(1, .pure (d0.toList.flatMap GCell.cs))] rfl rfl rfl ?_
 refine AW2_seq ?_
 refine sg [0, 1] rfl ?_
 refine rp rfl rfl (u_lda rfl rfl Tryd.underlying43 rfl in_43 rfl (Nat.succ_pos _) (Sub.refl _) (vfm_len (fun x => (GCell.len x)) d0)) ?_
 refine rp rfl rfl (p_move rfl rfl) ?_
 refine rz [(3, .p .nil), (8, .g (d0.toList.flatMap GCell.cs)), (9, .i (0 : Int))] [] rfl rfl rfl ?_
 refine AW2_block ?_
 refine as2 [(3, .p .nil), (8, .g (d0.toList.flatMap GCell.cs)), (9, .i (0 : Int))] [] rfl rfl rfl ?_
 refine AW2_gho (Gho_own (d := 3) (b := 3) (z := 1) rfl rfl rfl rfl) ?_
 refine AW2_st [(3, .c (.own 3 ([] : List Int).length 1)), (8, .g (d0.toList.flatMap GCell.cs)), (9, .i (0 : Int))] [(3, .pure (([] : List Int).map AV.int))] rfl ⟨TLes.own rfl, TLes.same _, TLes.same _, trivial⟩ ⟨rfl, trivial⟩ ?_
 refine bindK H fun o'13 h12 H => ?_
 refine AW2_loopO (fun a'10 : Int × (List Int) => (⟨[(3, .c (.own 3 a'10.2.length 1)), (8, .g (d0.toList.flatMap GCell.cs)), (9, .i a'10.1)], [(3, .pure (a'10.2.map AV.int))], 38⟩ : TS)) (fun (o : Int ⊕ Unit) e s' => match o with | .inl y'11 => e = Go.Exit.ret ∧ ResAll Tryd.prog s' [ResultVar.tmp 2] [.i y'11] ∧ HFits s' [] | .inr (y'12) => e = Go.Exit.exit 0 ∧ s' = (⟨[], [], 38⟩ : TS)) h12 rfl (fun a x hx => ?_) (fun e s' hs => ?_)
 ·clear H
  obtain ⟨t9_0, seen3_0⟩ := a
  have H := hx
  clear hx
  unfold g_ref_keysFault_l0 at H
  refine sg [0] rfl ?_
  refine rp rfl rfl (p_bin rfl rfl rfl rfl) ?_
  refine rz [(3, .c (.own 3 seen3_0.length 1)), (8, .g (d0.toList.flatMap GCell.cs)), (9, .i t9_0), (10, .b (decide (t9_0 < (4 : Int))))] [(3, .pure (seen3_0.map AV.int))] rfl rfl rfl ?_
  refine AW2_seq ?_
  refine AW2_if (p := t9_0 < (4 : Int)) rfl (fun h1 => ?_) (fun h1 => ?_)
  ·replace H := ite_then h1 H
   refine as2 [(3, .c (.own 3 seen3_0.length 1)), (8, .g (d0.toList.flatMap GCell.cs)), (9, .i t9_0)] [(3, .pure (seen3_0.map AV.int))] rfl rfl rfl ?_
   refine AW2_skip ?_
   refine AW2_seq ?_
   refine bindK H fun o'9 h2 H => ?_
   refine AW2_join (fun j'1 : (List Int) => (⟨[(3, .c (.own 3 j'1.length 1)), (8, .g (d0.toList.flatMap GCell.cs)), (9, .i t9_0)], [(3, .pure (j'1.map AV.int))], 38⟩ : TS)) (fun r e s' => e = Go.Exit.ret ∧ ResAll Tryd.prog s' [ResultVar.tmp 2] [.i r] ∧ HFits s' []) (x := o'9) ?_ (fun j'1 hy => ?_) (fun y'8 e s' hy hs => ?_)
   ·clear H
    have H := h2
    clear h2
    refine AW2_block ?_
    refine sg [0, 1, 2] rfl ?_
    refine chkK H fun h3 H => ?_
    refine rp rfl rfl (u_ixaa rfl rfl Tryd.underlying43 in_42 Tryd.underlying42 rfl rfl rfl (ixe h3) (ixn h3) (Sub.vfm (fun x => (GCell.len x)) (ixn h3)) (GCell.len (vrd d0 t9_0.toNat))) ?_
    refine r_op rfl rfl (MakeD.opD (u_alloc 5 rfl in_42 one_42 zc_42) rfl rfl rfl rfl) ?_
    refine r_op rfl rfl (u_st rfl rfl rfl rfl rfl in_42 (GCell.len (vrd d0 t9_0.toNat)) (ne_of_lt (n := 0) (Nat.lt_of_lt_of_eq (by decide) (Eq.symm (GCell.len GCell.zero)))) (Upd.refl ((GCell.len (vrd d0 t9_0.toNat)).trans (GCell.len GCell.zero).symm))) ?_
    refine rz [(3, .c (.own 3 seen3_0.length 1)), (5, .q 5 (0)), (8, .g (d0.toList.flatMap GCell.cs)), (9, .i t9_0)] [(3, .pure (seen3_0.map AV.int)), (5, .pure (GCell.cs (vrd d0 t9_0.toNat)))] rfl rfl rfl ?_
    refine AW2_seq ?_
    refine sg [0, 1, 2] rfl ?_
    refine rp rfl rfl (u_fa rfl rfl Tryd.underlying42 rfl in_4 (Nat.succ_ne_zero _) rfl rfl (ne_of_lt (n := 0) (Nat.lt_of_lt_of_eq (by decide) (Eq.symm (GCell.len (vrd d0 t9_0.toNat)))))) ?_
    refine rp rfl rfl (u_ld rfl rfl Tryd.underlying4 rfl rfl ((Sub.refl _).trans (GCell.sub0 (vrd d0 t9_0.toNat)))) ?_
    refine rp rfl rfl (p_not rfl rfl) ?_
    refine rz [(3, .c (.own 3 seen3_0.length 1)), (5, .q 5 (0)), (8, .g (d0.toList.flatMap GCell.cs)), (9, .i t9_0), (14, .b (!((vrd d0 t9_0.toNat).Full)))] [(3, .pure (seen3_0.map AV.int)), (5, .pure (GCell.cs (vrd d0 t9_0.toNat)))] rfl rfl rfl ?_
    refine AW2_cond rfl (fun h4 => ?_) (fun h4 => ?_)
    ·replace H := ite_then h4 H
     refine as2 [(3, .c (.own 3 seen3_0.length 1)), (8, .g (d0.toList.flatMap GCell.cs)), (9, .i t9_0)] [(3, .pure (seen3_0.map AV.int))] rfl rfl rfl ?_
     refine AW2_exit ?_
     refine thenQ2_exit ?_
     refine blockQ2_exit ?_
     have hz := some_elim H
     subst hz
     exact ⟨rfl, rfl⟩
    ·replace H := ite_else (ne_true h4) H
     refine as2 [(3, .c (.own 3 seen3_0.length 1)), (5, .q 5 (0)), (8, .g (d0.toList.flatMap GCell.cs)), (9, .i t9_0)] [(3, .pure (seen3_0.map AV.int)), (5, .pure (GCell.cs (vrd d0 t9_0.toNat)))] rfl rfl rfl ?_
     refine AW2_skip ?_
     refine AW2_seq ?_
     refine sg [0, 1, 2] rfl ?_
     refine rp rfl rfl (p_move rfl rfl) ?_
     refine rp rfl rfl (p_leno rfl Tryd.underlying88 rfl rfl rfl (ml AV.int seen3_0) (by decide)) ?_
     refine rp rfl rfl (p_move rfl rfl) ?_
     refine rz [(3, .c (.own 3 seen3_0.length 1)), (5, .q 5 (0)), (8, .g (d0.toList.flatMap GCell.cs)), (9, .i t9_0), (15, .c (.own 3 seen3_0.length 1)), (16, .i (seen3_0.length : Int)), (17, .i (0 : Int))] [(3, .pure (seen3_0.map AV.int)), (5, .pure (GCell.cs (vrd d0 t9_0.toNat)))] rfl rfl rfl ?_
     refine AW2_block ?_
     refine as2 [(3, .c (.own 3 seen3_0.length 1)), (5, .q 5 (0)), (8, .g (d0.toList.flatMap GCell.cs)), (9, .i t9_0), (15, .c (.own 3 seen3_0.length 1)), (16, .i (seen3_0.length : Int)), (17, .i (0 : Int))] [(3, .pure (seen3_0.map AV.int)), (5, .pure (GCell.cs (vrd d0 t9_0.toNat)))] rfl rfl rfl ?_
     refine bindK H fun o'5 h9 H => ?_
     refine AW2_loopO (fun a'2 : Int => (⟨[(3, .c (.own 3 seen3_0.length 1)), (5, .q 5 (0)), (8, .g (d0.toList.flatMap GCell.cs)), (9, .i t9_0), (15, .c (.own 3 seen3_0.length 1)), (16, .i (seen3_0.length : Int)), (17, .i a'2)], [(3, .pure (seen3_0.map AV.int)), (5, .pure (GCell.cs (vrd d0 t9_0.toNat)))], 38⟩ : TS)) (fun (o : Int ⊕ Unit) e s' => match o with | .inl y'3 => e = Go.Exit.ret ∧ ResAll Tryd.prog s' [ResultVar.tmp 2] [.i y'3] ∧ HFits s' [] | .inr (y'4) => e = Go.Exit.exit 2 ∧ s' = (⟨[(3, .c (.own 3 seen3_0.length 1)), (5, .q 5 (0)), (8, .g (d0.toList.flatMap GCell.cs)), (9, .i t9_0)], [(3, .pure (seen3_0.map AV.int)), (5, .pure (GCell.cs (vrd d0 t9_0.toNat)))], 38⟩ : TS)) h9 rfl (fun t17_1 x hx => ?_) (fun e s' hs => ?_)
     ·clear H
      have H := hx
      clear hx
      unfold g_ref_keysFault_l1 at H
      refine sg [0] rfl ?_
      refine rp rfl rfl (p_bin rfl rfl rfl rfl) ?_
      refine rz [(3, .c (.own 3 seen3_0.length 1)), (5, .q 5 (0)), (8, .g (d0.toList.flatMap GCell.cs)), (9, .i t9_0), (15, .c (.own 3 seen3_0.length 1)), (16, .i (seen3_0.length : Int)), (17, .i t17_1), (18, .b (decide (t17_1 < (seen3_0.length : Int))))] [(3, .pure (seen3_0.map AV.int)), (5, .pure (GCell.cs (vrd d0 t9_0.toNat)))] rfl rfl rfl ?_
      refine AW2_seq ?_
      refine AW2_if (p := t17_1 < (seen3_0.length : Int)) rfl (fun h5 => ?_) (fun h5 => ?_)
      ·replace H := ite_then h5 H
       refine as2 [(3, .c (.own 3 seen3_0.length 1)), (5, .q 5 (0)), (8, .g (d0.toList.flatMap GCell.cs)), (9, .i t9_0), (15, .c (.own 3 seen3_0.length 1)), (16, .i (seen3_0.length : Int)), (17, .i t17_1)] [(3, .pure (seen3_0.map AV.int)), (5, .pure (GCell.cs (vrd d0 t9_0.toNat)))] rfl rfl rfl ?_
       refine AW2_skip ?_
       refine AW2_seq ?_
       refine AW2_block ?_
       refine sg [0, 1, 2] rfl ?_
       refine chkK H fun h6 H => ?_
       refine rp rfl rfl (u_ixo rfl rfl Tryd.underlying88 in_3 rfl rfl (lne (ixn h6)) rfl (ixe h6) (ixn h6)) ?_
       refine rp rfl rfl (u_ld rfl rfl Tryd.underlying3 rfl rfl ((Sub.refl _).trans (Sub.map default (ixn h6)))) ?_
       refine rp rfl rfl (p_asg rfl rfl) ?_
       refine rz [(3, .c (.own 3 seen3_0.length 1)), (5, .q 5 (0)), (7, .i (lrd seen3_0 t17_1.toNat)), (8, .g (d0.toList.flatMap GCell.cs)), (9, .i t9_0), (15, .c (.own 3 seen3_0.length 1)), (16, .i (seen3_0.length : Int)), (17, .i t17_1)] [(3, .pure (seen3_0.map AV.int)), (5, .pure (GCell.cs (vrd d0 t9_0.toNat)))] rfl rfl rfl ?_
       refine sg [0, 1, 2, 3, 4, 5, 6] rfl ?_
       refine rp rfl rfl (p_move rfl rfl) ?_
       refine rp rfl rfl (u_fa rfl rfl Tryd.underlying42 rfl in_38 (Nat.succ_ne_zero _) rfl rfl (ne_of_lt (n := 0) (Nat.lt_of_lt_of_eq (by decide) (Eq.symm (GCell.len (vrd d0 t9_0.toNat)))))) ?_
       refine rp rfl rfl (u_ld rfl rfl Tryd.underlying38 rfl rfl ((Sub.refl _).trans (GCell.sub1 (vrd d0 t9_0.toNat)))) ?_
       refine chkK H fun h7 H => ?_
       refine rp rfl rfl (u_ixl rfl rfl Tryd.underlying38 in_29 rfl rfl rfl h7 (fne (fun x => (GValue.len x)) (by decide) h7)) ?_
       refine rp rfl rfl (u_far rfl rfl Tryd.underlying29 rfl in_3 (Nat.succ_ne_zero _) rfl) ?_
       refine rp rfl rfl (u_ld rfl rfl Tryd.underlying3 rfl rfl ((Sub.fm default (fun x => (GValue.len x)) h7).trans (GValue.sub1 (lrd ((vrd d0 t9_0.toNat).Row) 0)))) ?_
       refine rp rfl rfl (p_ieq rfl rfl rfl) ?_
       refine rz [(3, .c (.own 3 seen3_0.length 1)), (5, .q 5 (0)), (8, .g (d0.toList.flatMap GCell.cs)), (9, .i t9_0), (15, .c (.own 3 seen3_0.length 1)), (16, .i (seen3_0.length : Int)), (17, .i t17_1), (27, .b (decide ((lrd seen3_0 t17_1.toNat) = (lrd ((vrd d0 t9_0.toNat).Row) 0).Int_)))] [(3, .pure (seen3_0.map AV.int)), (5, .pure (GCell.cs (vrd d0 t9_0.toNat)))] rfl rfl rfl ?_
       refine AW2_if (p := (lrd seen3_0 t17_1.toNat) = (lrd ((vrd d0 t9_0.toNat).Row) 0).Int_) rfl (fun h8 => ?_) (fun h8 => ?_)
       ·replace H := ite_then h8 H
        refine sg [0] rfl ?_
        refine rp rfl rfl (p_asg rfl rfl) ?_
        refine rz [(2, .i (8 : Int))] [] rfl rfl rfl ?_
        refine AW2_ret ?_
        have hz := some_elim H
        subst hz
        exact ⟨rfl, ⟨res_tmp (.same _), trivial⟩, trivial⟩
       ·replace H := ite_else h8 H
        refine as2 [(3, .c (.own 3 seen3_0.length 1)), (5, .q 5 (0)), (8, .g (d0.toList.flatMap GCell.cs)), (9, .i t9_0), (15, .c (.own 3 seen3_0.length 1)), (16, .i (seen3_0.length : Int)), (17, .i t17_1)] [(3, .pure (seen3_0.map AV.int)), (5, .pure (GCell.cs (vrd d0 t9_0.toNat)))] rfl rfl rfl ?_
        refine AW2_skip ?_
        refine AW2_reg [0, 1] rfl ?_
        refine rp rfl rfl (p_bin rfl rfl rfl rfl) ?_
        refine rp rfl rfl (p_move rfl rfl) ?_
        refine rz [(3, .c (.own 3 seen3_0.length 1)), (5, .q 5 (0)), (8, .g (d0.toList.flatMap GCell.cs)), (9, .i t9_0), (15, .c (.own 3 seen3_0.length 1)), (16, .i (seen3_0.length : Int)), (17, .i (w64 (t17_1 + (1 : Int))))] [(3, .pure (seen3_0.map AV.int)), (5, .pure (GCell.cs (vrd d0 t9_0.toNat)))] rfl rfl rfl ?_
        have hz := some_elim H
        subst hz
        exact ⟨rfl, rfl⟩
      ·replace H := ite_else h5 H
       refine as2 [(3, .c (.own 3 seen3_0.length 1)), (5, .q 5 (0)), (8, .g (d0.toList.flatMap GCell.cs)), (9, .i t9_0)] [(3, .pure (seen3_0.map AV.int)), (5, .pure (GCell.cs (vrd d0 t9_0.toNat)))] rfl rfl rfl ?_
       refine AW2_exit ?_
       refine thenQ2_exit ?_
       have hz := some_elim H
       subst hz
       exact ⟨rfl, rfl⟩
     ·rcases o'5 with y'6 | y'7
      ·obtain ⟨rfl, hs⟩ := hs
       refine ⟨by simp, ?_⟩
       have hz := some_elim H
       subst hz
       exact ⟨rfl, hs.1, hs.2⟩
      ·obtain ⟨rfl, rfl⟩ := hs
       refine ⟨by simp, ?_⟩
       refine blockQ2_exit ?_
       refine AW2_reg [0, 1, 2, 3, 4, 5, 6, 7, 8] rfl ?_
       refine rp rfl rfl (p_move rfl rfl) ?_
       refine rp rfl rfl (u_fa rfl rfl Tryd.underlying42 rfl in_38 (Nat.succ_ne_zero _) rfl rfl (ne_of_lt (n := 0) (Nat.lt_of_lt_of_eq (by decide) (Eq.symm (GCell.len (vrd d0 t9_0.toNat)))))) ?_
       refine rp rfl rfl (u_ld rfl rfl Tryd.underlying38 rfl rfl ((Sub.refl _).trans (GCell.sub1 (vrd d0 t9_0.toNat)))) ?_
       refine chkK H fun h10 H => ?_
       refine rp rfl rfl (u_ixl rfl rfl Tryd.underlying38 in_29 rfl rfl rfl h10 (fne (fun x => (GValue.len x)) (by decide) h10)) ?_
       refine rp rfl rfl (u_far rfl rfl Tryd.underlying29 rfl in_3 (Nat.succ_ne_zero _) rfl) ?_
       refine rp rfl rfl (u_ld rfl rfl Tryd.underlying3 rfl rfl ((Sub.fm default (fun x => (GValue.len x)) h10).trans (GValue.sub1 (lrd ((vrd d0 t9_0.toNat).Row) 0)))) ?_
       refine r_op rfl rfl (MakeD.opD (u_bs 35 rfl Tryd.underlying88 in_3 rfl one_3 (by decide) (by decide) rfl rfl rfl) rfl rfl rfl rfl) ?_
       refine chkK H fun h11 H => ?_
       refine r_op rfl rfl (u_app [3, 29] rfl rfl rfl rfl Tryd.underlying88 Tryd.underlying88 in_3 rfl rfl rfl (ml AV.int seen3_0) (by decide) (srcT_o rfl rfl (ml AV.int ([(lrd ((vrd d0 t9_0.toNat).Row) 0).Int_] : List Int)) (by decide)) (ml AV.int ([(lrd ((vrd d0 t9_0.toNat).Row) 0).Int_] : List Int)) h11 (by decide) rfl rfl (mapp AV.int seen3_0 ([(lrd ((vrd d0 t9_0.toNat).Row) 0).Int_] : List Int)) (lapp seen3_0 ([(lrd ((vrd d0 t9_0.toNat).Row) 0).Int_] : List Int))) ?_
       refine rp rfl rfl (p_asg rfl rfl) ?_
       refine rz [(3, .c (.own 3 (seen3_0 ++ ([(lrd ((vrd d0 t9_0.toNat).Row) 0).Int_] : List Int)).length 1)), (8, .g (d0.toList.flatMap GCell.cs)), (9, .i t9_0)] [(3, .pure ((seen3_0 ++ ([(lrd ((vrd d0 t9_0.toNat).Row) 0).Int_] : List Int)).map AV.int))] rfl rfl rfl ?_
       have hz := some_elim H
       subst hz
       exact ⟨rfl, rfl⟩
   ·subst hy
    refine AW2_reg [0, 1] rfl ?_
    refine rp rfl rfl (p_bin rfl rfl rfl rfl) ?_
    refine rp rfl rfl (p_move rfl rfl) ?_
    refine rz [(3, .c (.own 3 j'1.length 1)), (8, .g (d0.toList.flatMap GCell.cs)), (9, .i (w64 (t9_0 + (1 : Int))))] [(3, .pure (j'1.map AV.int))] rfl rfl rfl ?_
    have hz := some_elim H
    subst hz
    exact ⟨rfl, rfl⟩
   ·subst hy
    obtain ⟨rfl, hs⟩ := hs
    have hz := some_elim H
    subst hz
    exact ⟨rfl, hs.1, hs.2⟩
  ·replace H := ite_else h1 H
   refine as2 [] [] rfl rfl rfl ?_
   refine AW2_exit ?_
   refine thenQ2_exit ?_
   have hz := some_elim H
   subst hz
   exact ⟨rfl, rfl⟩
 ·rcases o'13 with y'14 | y'15
  ·obtain ⟨rfl, hs⟩ := hs
   refine ⟨by simp, ?_⟩
   have hz := some_elim H
   subst hz
   exact ⟨hs.1, hs.2⟩
  ·obtain ⟨rfl, rfl⟩ := hs
   refine ⟨by simp, ?_⟩
   refine blockQ2_exit ?_
   refine sg [0] rfl ?_
   refine rp rfl rfl (p_asg rfl rfl) ?_
   refine rz [(2, .i (0 : Int))] [] rfl rfl rfl ?_
   refine AW2_ret ?_
   have hz := some_elim H
   subst hz
   exact ⟨⟨res_tmp (.same _), trivial⟩, trivial⟩

/-! chirographref.TableFault -/
noncomputable def g_ref_TableFault_l1 (t0 : GTable) (t52_0 : Int) : Int → Option (Int ⊕ (Int ⊕ Unit))
  | t56_1 => (if t56_1 < (4 : Int) then (show Option (Int ⊕ Unit) from if 0 ≤ t56_1 ∧ t56_1 < (4 : Int) then (if ((vrd (vrd t0.Drawers t52_0.toNat) t56_1.toNat).Full) = true then (g_ref_RowFault ((vrd (vrd t0.Drawers t52_0.toNat) t56_1.toNat).Row) t0.Cols).bind fun r'5 => (if r'5 ≠ (0 : Int) then some (.inl r'5) else some (.inr ())) else (if (((vrd (vrd t0.Drawers t52_0.toNat) t56_1.toNat).Row).length : Int) ≠ (0 : Int) then some (.inl (3 : Int)) else some (.inr ()))) else none).bind fun o'7 => match o'7 with | .inl y'6 => some (.inr (.inl y'6)) | .inr j'4 => some (.inl (w64 (t56_1 + (1 : Int)))) else some (.inr (.inr ())))
noncomputable def g_ref_TableFault_l0 (t0 : GTable) : Int → Option (Int ⊕ (Int ⊕ Unit))
  | t52_0 => (if t52_0 < (2 : Int) then if 0 ≤ t52_0 ∧ t52_0 < (2 : Int) then (loopO (g_ref_TableFault_l1 t0 t52_0) (0 : Int)).bind fun o'11 => match o'11 with | .inl y'12 => some (.inr (.inl y'12)) | .inr (y'13) => (g_ref_keysFault (vrd t0.Drawers t52_0.toNat)).bind fun r'14 => (if r'14 ≠ (0 : Int) then some (.inr (.inl r'14)) else some (.inl (w64 (t52_0 + (1 : Int))))) else none else some (.inr (.inr ())))
noncomputable def g_ref_TableFault (t0 : GTable) : Option (Int) :=
  (if (!t0.There) = true then some (5 : Int) else (g_ref_isName t0.Name).bind fun r'1 => (if ((!r'1) = true) ∨ ((t0.Name.length : Int) > (8 : Int)) then some (3 : Int) else (g_ref_ColumnsFault t0.Cols).bind fun r'2 => (if r'2 ≠ (0 : Int) then some r'2 else ((if (t0.Cols.length : Int) = (0 : Int) then some true else if 0 < t0.Cols.length then (if (lrd t0.Cols 0).Kind ≠ (2 : Int) then some true else if 0 < t0.Cols.length then some ((lrd t0.Cols 0).Null) else none) else none)).bind fun g'3 => (if g'3 = true then some (3 : Int) else (loopO (g_ref_TableFault_l0 t0) (0 : Int)).bind fun o'18 => match o'18 with | .inl y'19 => some y'19 | .inr (y'20) => some (0 : Int)))))
set_option maxHeartbeats 4000000 in
set_option maxRecDepth 100000 in
theorem g_ref_TableFault_ac {t0 : GTable} {r : Int} (H : g_ref_TableFault t0 = some r) : ACp Tryd.prog 19 [(.agg (GTable.cs t0))] (AV.int r) := by
 refine ACp_of (AC2_of_body (vs := [.i r]) Tryd.func19 rfl rfl (Nat.le_of_ble_eq_true rfl) rfl ?_) (fun _ => .same _)
 unfold g_ref_TableFault at H
 refine as2 [(0, .g (GTable.cs t0))] [] rfl rfl rfl ?_
 refine sg [0, 1] rfl ?_
 refine r_op rfl rfl (MakeD.opD (n_box 1 rfl rfl) rfl rfl rfl rfl) ?_
 refine rp rfl rfl (p_asg rfl rfl) ?_
 refine rz [(1, .q 1 (0))] [(1, .pure (GTable.cs t0))] rfl rfl rfl ?_
 refine AW2_seq ?_
 refine AW2_block ?_
 refine sg [0, 1, 2, 3] rfl ?_
 refine rp rfl rfl (u_fa rfl rfl Tryd.underlying46 rfl in_4 (Nat.succ_ne_zero _) rfl rfl (ne_of_lt (n := 0) (Nat.lt_of_lt_of_eq (by decide) (Eq.symm (GTable.len t0))))) ?_
 refine rp rfl rfl (u_ld rfl rfl Tryd.underlying4 rfl rfl ((Sub.refl _).trans (GTable.sub0 t0))) ?_
 refine rp rfl rfl (p_not rfl rfl) ?_
 refine rp rfl rfl (p_asg rfl rfl) ?_
 refine rz [(1, .q 1 (0)), (10, .b (!t0.There))] [(1, .pure (GTable.cs t0))] rfl rfl rfl ?_
 refine AW2_cond rfl (fun h1 => ?_) (fun h1 => ?_)
 ·replace H := ite_then h1 H
  refine sg [0] rfl ?_
  refine rp rfl rfl (p_asg rfl rfl) ?_
  refine rz [(2, .i (5 : Int))] [] rfl rfl rfl ?_
  refine AW2_ret ?_
  have hz := some_elim H
  subst hz
  exact ⟨⟨res_tmp (.same _), trivial⟩, trivial⟩
 ·replace H := ite_else (ne_true h1) H
  refine AW2_seq ?_
  refine bindK H fun r'1 h2 H => ?_
  refine AW2_mid (⟨[(1, .q 1 (0)), (14, .b (decide (((!r'1) = true) ∨ ((t0.Name.length : Int) > (8 : Int)))))], [(1, .pure (GTable.cs t0))], 80⟩ : TS) ?_ ?_
  ·refine AW2_reg [0, 1, 2, 3, 4, 5, 6, 7, 8, 9, 10] rfl ?_
   refine rp rfl rfl (u_fa rfl rfl Tryd.underlying46 rfl in_9 (Nat.succ_ne_zero _) rfl rfl (ne_of_lt (n := 0) (Nat.lt_of_lt_of_eq (by decide) (Eq.symm (GTable.len t0))))) ?_
   refine rp rfl rfl (u_ld rfl rfl Tryd.underlying9 rfl rfl ((Sub.refl _).trans (GTable.sub1 t0))) ?_
   refine rp rfl rfl (p_callp rfl rfl rfl Tryd.func33 rfl rfl (g_ref_isName_ac h2) ⟨rfl, trivial⟩) ?_
   refine rp rfl rfl (p_not rfl rfl) ?_
   refine rp rfl rfl (p_move rfl rfl) ?_
   refine (Classical.em ((!r'1) = true)).elim (fun h3 => ?_) (fun h3 => ?_)
   ·refine r_off rfl rfl rfl rfl h3 rfl rfl ?_
    refine r_off rfl rfl rfl rfl h3 rfl rfl ?_
    refine r_off rfl rfl rfl rfl h3 rfl rfl ?_
    refine r_off rfl rfl rfl rfl h3 rfl rfl ?_
    refine rp rfl rfl (p_pkt rfl rfl h3 (tb (decide_eq_true (p := ((!r'1) = true) ∨ ((t0.Name.length : Int) > (8 : Int))) (Or.inl h3)).symm)) ?_
    refine rp rfl rfl (p_asg rfl rfl) ?_
    refine rs [(1, .q 1 (0)), (14, .b (decide (((!r'1) = true) ∨ ((t0.Name.length : Int) > (8 : Int)))))] [(1, .pure (GTable.cs t0))] rfl rfl rfl ?_
    exact RunW_nil rfl
   ·refine r_on rfl rfl rfl rfl (bfalse h3) rfl (PureD.opD (u_fa rfl rfl Tryd.underlying46 rfl in_9 (Nat.succ_ne_zero _) rfl rfl (ne_of_lt (n := 0) (Nat.lt_of_lt_of_eq (by decide) (Eq.symm (GTable.len t0)))))) ?_
    refine r_on rfl rfl rfl rfl (bfalse h3) rfl (PureD.opD (u_ld rfl rfl Tryd.underlying9 rfl rfl ((Sub.refl _).trans (GTable.sub1 t0)))) ?_
    refine r_on rfl rfl rfl rfl (bfalse h3) rfl (PureD.opD (p_lent rfl Tryd.underlying9 rfl)) ?_
    refine r_on rfl rfl rfl rfl (bfalse h3) rfl (PureD.opD (p_bin rfl rfl rfl rfl)) ?_
    refine rp rfl rfl (p_pkf rfl rfl (bfalse h3) (tb ((or_l (p := (!r'1) = true) (q := (t0.Name.length : Int) > (8 : Int)) h3)))) ?_
    refine rp rfl rfl (p_asg rfl rfl) ?_
    refine rs [(1, .q 1 (0)), (14, .b (decide (((!r'1) = true) ∨ ((t0.Name.length : Int) > (8 : Int)))))] [(1, .pure (GTable.cs t0))] rfl rfl rfl ?_
    exact RunW_nil rfl
  ·refine AW2_if (p := ((!r'1) = true) ∨ ((t0.Name.length : Int) > (8 : Int))) rfl (fun h4 => ?_) (fun h4 => ?_)
   ·replace H := ite_then h4 H
    refine sg [0] rfl ?_
    refine rp rfl rfl (p_asg rfl rfl) ?_
    refine rz [(2, .i (3 : Int))] [] rfl rfl rfl ?_
    refine AW2_ret ?_
    have hz := some_elim H
    subst hz
    exact ⟨⟨res_tmp (.same _), trivial⟩, trivial⟩
   ·replace H := ite_else h4 H
    refine as2 [(1, .q 1 (0))] [(1, .pure (GTable.cs t0))] rfl rfl rfl ?_
    refine AW2_skip ?_
    refine AW2_seq ?_
    refine sg [0, 1, 2, 3] rfl ?_
    refine rp rfl rfl (u_fa rfl rfl Tryd.underlying46 rfl in_35 (Nat.succ_ne_zero _) rfl rfl (ne_of_lt (n := 0) (Nat.lt_of_lt_of_eq (by decide) (Eq.symm (GTable.len t0))))) ?_
    refine rp rfl rfl (u_ld rfl rfl Tryd.underlying35 rfl rfl ((Sub.refl _).trans (GTable.sub2 t0))) ?_
    refine bindK H fun r'2 h5 H => ?_
    refine rp rfl rfl (p_callp rfl rfl rfl Tryd.func15 rfl rfl (g_ref_ColumnsFault_ac h5) ⟨rfl, trivial⟩) ?_
    refine rp rfl rfl (p_asg rfl rfl) ?_
    refine rz [(1, .q 1 (0)), (3, .i r'2)] [(1, .pure (GTable.cs t0))] rfl rfl rfl ?_
    refine sg [0, 1] rfl ?_
    refine rp rfl rfl (p_move rfl rfl) ?_
    refine rp rfl rfl (p_ine rfl rfl rfl) ?_
    refine rz [(1, .q 1 (0)), (3, .i r'2), (29, .b (decide (r'2 ≠ (0 : Int))))] [(1, .pure (GTable.cs t0))] rfl rfl rfl ?_
    refine AW2_if (p := r'2 ≠ (0 : Int)) rfl (fun h6 => ?_) (fun h6 => ?_)
    ·replace H := ite_then h6 H
     refine sg [0, 1] rfl ?_
     refine rp rfl rfl (p_move rfl rfl) ?_
     refine rp rfl rfl (p_asg rfl rfl) ?_
     refine rz [(2, .i r'2)] [] rfl rfl rfl ?_
     refine AW2_ret ?_
     have hz := some_elim H
     subst hz
     exact ⟨⟨res_tmp (.same _), trivial⟩, trivial⟩
    ·replace H := ite_else h6 H
     refine as2 [(1, .q 1 (0))] [(1, .pure (GTable.cs t0))] rfl rfl rfl ?_
     refine AW2_skip ?_
     refine AW2_seq ?_
     refine AW2_seq ?_
     refine bindK H fun g'3 h12 H => ?_
     refine AW2_mid (⟨[(1, .q 1 (0)), (49, .b g'3)], [(1, .pure (GTable.cs t0))], 80⟩ : TS) ?_ ?_
     ·clear H
      have H := h12
      clear h12
      refine AW2_reg [0, 1, 2, 3, 4, 5, 6, 7, 8, 9, 10, 11, 12, 13, 14, 15, 16, 17, 18] rfl ?_
      refine rp rfl rfl (u_fa rfl rfl Tryd.underlying46 rfl in_35 (Nat.succ_ne_zero _) rfl rfl (ne_of_lt (n := 0) (Nat.lt_of_lt_of_eq (by decide) (Eq.symm (GTable.len t0))))) ?_
      refine rp rfl rfl (u_ld rfl rfl Tryd.underlying35 rfl rfl ((Sub.refl _).trans (GTable.sub2 t0))) ?_
      refine rp rfl rfl (p_lenl rfl Tryd.underlying35 rfl rfl) ?_
      refine rp rfl rfl (p_ieq rfl rfl rfl) ?_
      refine rp rfl rfl (p_move rfl rfl) ?_
      refine (Classical.em ((t0.Cols.length : Int) = (0 : Int))).elim (fun h8 => ?_) (fun h8 => ?_)
      ·replace H := ite_then h8 H
       refine r_off rfl rfl rfl rfl (decide_eq_true h8) rfl rfl ?_
       refine r_off rfl rfl rfl rfl (decide_eq_true h8) rfl rfl ?_
       refine r_off rfl rfl rfl rfl (decide_eq_true h8) rfl rfl ?_
       refine r_off rfl rfl rfl rfl (decide_eq_true h8) rfl rfl ?_
       refine r_off rfl rfl rfl rfl (decide_eq_true h8) rfl rfl ?_
       refine r_off rfl rfl rfl rfl (decide_eq_true h8) rfl rfl ?_
       refine rp rfl rfl (p_pkt rfl rfl (decide_eq_true h8) (.same _)) ?_
       refine rp rfl rfl (p_move rfl rfl) ?_
       refine r_off rfl rfl rfl rfl rfl rfl rfl ?_
       refine r_off rfl rfl rfl rfl rfl rfl rfl ?_
       refine r_off rfl rfl rfl rfl rfl rfl rfl ?_
       refine r_off rfl rfl rfl rfl rfl rfl rfl ?_
       refine r_off rfl rfl rfl rfl rfl rfl rfl ?_
       refine rp rfl rfl (p_pkt rfl rfl rfl (.same _)) ?_
       refine rs [(1, .q 1 (0)), (49, .b true)] [(1, .pure (GTable.cs t0))] rfl rfl rfl ?_
       have hz := some_elim H
       subst hz
       exact RunW_nil rfl
      ·replace H := ite_else h8 H
       refine r_on rfl rfl rfl rfl (decide_eq_false h8) rfl (PureD.opD (u_fa rfl rfl Tryd.underlying46 rfl in_35 (Nat.succ_ne_zero _) rfl rfl (ne_of_lt (n := 0) (Nat.lt_of_lt_of_eq (by decide) (Eq.symm (GTable.len t0)))))) ?_
       refine r_on rfl rfl rfl rfl (decide_eq_false h8) rfl (PureD.opD (u_ld rfl rfl Tryd.underlying35 rfl rfl ((Sub.refl _).trans (GTable.sub2 t0)))) ?_
       refine chkK H fun h9 H => ?_
       refine r_on rfl rfl rfl rfl (decide_eq_false h8) rfl (PureD.opD (u_ixl rfl rfl Tryd.underlying35 in_68 rfl rfl rfl h9 (fne (fun x => (GColumn.len x)) (by decide) h9))) ?_
       refine r_on rfl rfl rfl rfl (decide_eq_false h8) rfl (PureD.opD (u_far rfl rfl Tryd.underlying68 rfl in_3 (Nat.succ_ne_zero _) rfl)) ?_
       refine r_on rfl rfl rfl rfl (decide_eq_false h8) rfl (PureD.opD (u_ld rfl rfl Tryd.underlying3 rfl rfl ((Sub.fm default (fun x => (GColumn.len x)) h9).trans (GColumn.sub1 (lrd t0.Cols 0))))) ?_
       refine r_on rfl rfl rfl rfl (decide_eq_false h8) rfl (PureD.opD (p_ine rfl rfl rfl)) ?_
       refine rp rfl rfl (p_pkf rfl rfl (decide_eq_false h8) (.same _)) ?_
       refine rp rfl rfl (p_move rfl rfl) ?_
       refine (Classical.em ((lrd t0.Cols 0).Kind ≠ (2 : Int))).elim (fun h10 => ?_) (fun h10 => ?_)
       ·replace H := ite_then h10 H
        refine r_off rfl rfl rfl rfl (decide_eq_true h10) rfl rfl ?_
        refine r_off rfl rfl rfl rfl (decide_eq_true h10) rfl rfl ?_
        refine r_off rfl rfl rfl rfl (decide_eq_true h10) rfl rfl ?_
        refine r_off rfl rfl rfl rfl (decide_eq_true h10) rfl rfl ?_
        refine r_off rfl rfl rfl rfl (decide_eq_true h10) rfl rfl ?_
        refine rp rfl rfl (p_pkt rfl rfl (decide_eq_true h10) (.same _)) ?_
        refine rs [(1, .q 1 (0)), (49, .b true)] [(1, .pure (GTable.cs t0))] rfl rfl rfl ?_
        have hz := some_elim H
        subst hz
        exact RunW_nil rfl
       ·replace H := ite_else h10 H
        refine r_on rfl rfl rfl rfl (decide_eq_false h10) rfl (PureD.opD (u_fa rfl rfl Tryd.underlying46 rfl in_35 (Nat.succ_ne_zero _) rfl rfl (ne_of_lt (n := 0) (Nat.lt_of_lt_of_eq (by decide) (Eq.symm (GTable.len t0)))))) ?_
        refine r_on rfl rfl rfl rfl (decide_eq_false h10) rfl (PureD.opD (u_ld rfl rfl Tryd.underlying35 rfl rfl ((Sub.refl _).trans (GTable.sub2 t0)))) ?_
        refine chkK H fun h11 H => ?_
        refine r_on rfl rfl rfl rfl (decide_eq_false h10) rfl (PureD.opD (u_ixl rfl rfl Tryd.underlying35 in_68 rfl rfl rfl h11 (fne (fun x => (GColumn.len x)) (by decide) h11))) ?_
        refine r_on rfl rfl rfl rfl (decide_eq_false h10) rfl (PureD.opD (u_far rfl rfl Tryd.underlying68 rfl in_4 (Nat.succ_ne_zero _) rfl)) ?_
        refine r_on rfl rfl rfl rfl (decide_eq_false h10) rfl (PureD.opD (u_ld rfl rfl Tryd.underlying4 rfl rfl ((Sub.fm default (fun x => (GColumn.len x)) h11).trans (GColumn.sub2 (lrd t0.Cols 0))))) ?_
        refine rp rfl rfl (p_pkf rfl rfl (decide_eq_false h10) (.same _)) ?_
        refine rs [(1, .q 1 (0)), (49, .b ((lrd t0.Cols 0).Null))] [(1, .pure (GTable.cs t0))] rfl rfl rfl ?_
        have hz := some_elim H
        subst hz
        exact RunW_nil rfl
     ·refine AW2_cond rfl (fun h13 => ?_) (fun h13 => ?_)
      ·replace H := ite_then h13 H
       refine sg [0] rfl ?_
       refine rp rfl rfl (p_asg rfl rfl) ?_
       refine rz [(2, .i (3 : Int))] [] rfl rfl rfl ?_
       refine AW2_ret ?_
       have hz := some_elim H
       subst hz
       exact ⟨⟨res_tmp (.same _), trivial⟩, trivial⟩
      ·replace H := ite_else (ne_true h13) H
       refine as2 [(1, .q 1 (0))] [(1, .pure (GTable.cs t0))] rfl rfl rfl ?_
       refine AW2_skip ?_
       refine AW2_seq ?_
       refine sg [0, 1, 2] rfl ?_
       refine rp rfl rfl (u_fa rfl rfl Tryd.underlying46 rfl in_44 (Nat.succ_ne_zero _) rfl rfl (ne_of_lt (n := 0) (Nat.lt_of_lt_of_eq (by decide) (Eq.symm (GTable.len t0))))) ?_
       refine rp rfl rfl (u_lda rfl rfl Tryd.underlying44 rfl in_44 rfl (Nat.succ_pos _) ((Sub.refl _).trans (GTable.sub3 t0)) (vfm_len (fun x => (vfm_len (fun x => (GCell.len x)) x)) t0.Drawers)) ?_
       refine rp rfl rfl (p_move rfl rfl) ?_
       refine rz [(1, .q 1 (0)), (51, .g (t0.Drawers.toList.flatMap (fun v : Vector GCell 4 => v.toList.flatMap GCell.cs))), (52, .i (0 : Int))] [(1, .pure (GTable.cs t0))] rfl rfl rfl ?_
       refine AW2_block ?_
       refine as2 [(1, .q 1 (0)), (51, .g (t0.Drawers.toList.flatMap (fun v : Vector GCell 4 => v.toList.flatMap GCell.cs))), (52, .i (0 : Int))] [(1, .pure (GTable.cs t0))] rfl rfl rfl ?_
       refine bindK H fun o'18 h26 H => ?_
       refine AW2_loopO (fun a'15 : Int => (⟨[(1, .q 1 (0)), (51, .g (t0.Drawers.toList.flatMap (fun v : Vector GCell 4 => v.toList.flatMap GCell.cs))), (52, .i a'15)], [(1, .pure (GTable.cs t0))], 80⟩ : TS)) (fun (o : Int ⊕ Unit) e s' => match o with | .inl y'16 => e = Go.Exit.ret ∧ ResAll Tryd.prog s' [ResultVar.tmp 2] [.i y'16] ∧ HFits s' [] | .inr (y'17) => e = Go.Exit.exit 1 ∧ s' = (⟨[], [], 80⟩ : TS)) h26 rfl (fun t52_0 x hx => ?_) (fun e s' hs => ?_)
       ·clear H
        have H := hx
        clear hx
        unfold g_ref_TableFault_l0 at H
        refine sg [0] rfl ?_
        refine rp rfl rfl (p_bin rfl rfl rfl rfl) ?_
        refine rz [(1, .q 1 (0)), (51, .g (t0.Drawers.toList.flatMap (fun v : Vector GCell 4 => v.toList.flatMap GCell.cs))), (52, .i t52_0), (53, .b (decide (t52_0 < (2 : Int))))] [(1, .pure (GTable.cs t0))] rfl rfl rfl ?_
        refine AW2_seq ?_
        refine AW2_if (p := t52_0 < (2 : Int)) rfl (fun h14 => ?_) (fun h14 => ?_)
        ·replace H := ite_then h14 H
         refine as2 [(1, .q 1 (0)), (51, .g (t0.Drawers.toList.flatMap (fun v : Vector GCell 4 => v.toList.flatMap GCell.cs))), (52, .i t52_0)] [(1, .pure (GTable.cs t0))] rfl rfl rfl ?_
         refine AW2_skip ?_
         refine AW2_seq ?_
         refine AW2_block ?_
         refine sg [0, 1, 2] rfl ?_
         refine chkK H fun h15 H => ?_
         refine rp rfl rfl (u_ixaa rfl rfl Tryd.underlying44 in_43 Tryd.underlying43 rfl rfl rfl (ixe h15) (ixn h15) (Sub.vfm (fun x => (vfm_len (fun x => (GCell.len x)) x)) (ixn h15)) (vfm_len (fun x => (GCell.len x)) (vrd t0.Drawers t52_0.toNat))) ?_
         refine r_op rfl rfl (MakeD.opD (u_alloc 5 rfl in_43 one_43 zc_43) rfl rfl rfl rfl) ?_
         refine r_op rfl rfl (u_st rfl rfl rfl rfl rfl in_43 (vfm_len (fun x => (GCell.len x)) (vrd t0.Drawers t52_0.toNat)) (ne_of_lt (n := 0) (Nat.lt_of_lt_of_eq (by decide) (Eq.symm (vfm_len (fun x => (GCell.len x)) (Vector.replicate 4 GCell.zero))))) (Upd.refl ((vfm_len (fun x => (GCell.len x)) (vrd t0.Drawers t52_0.toNat)).trans (vfm_len (fun x => (GCell.len x)) (Vector.replicate 4 GCell.zero)).symm))) ?_
         refine rz [(1, .q 1 (0)), (5, .q 5 (0)), (51, .g (t0.Drawers.toList.flatMap (fun v : Vector GCell 4 => v.toList.flatMap GCell.cs))), (52, .i t52_0)] [(1, .pure (GTable.cs t0)), (5, .pure (((vrd t0.Drawers t52_0.toNat).toList).flatMap GCell.cs))] rfl rfl rfl ?_
         refine AW2_seq ?_
         refine sg [0, 1] rfl ?_
         refine rp rfl rfl (u_lda rfl rfl Tryd.underlying43 rfl in_43 rfl (Nat.succ_pos _) (Sub.refl _) (vfm_len (fun x => (GCell.len x)) (vrd t0.Drawers t52_0.toNat))) ?_
         refine rp rfl rfl (p_move rfl rfl) ?_
         refine rz [(1, .q 1 (0)), (5, .q 5 (0)), (51, .g (t0.Drawers.toList.flatMap (fun v : Vector GCell 4 => v.toList.flatMap GCell.cs))), (52, .i t52_0), (55, .g (((vrd t0.Drawers t52_0.toNat).toList).flatMap GCell.cs)), (56, .i (0 : Int))] [(1, .pure (GTable.cs t0)), (5, .pure (((vrd t0.Drawers t52_0.toNat).toList).flatMap GCell.cs))] rfl rfl rfl ?_
         refine AW2_block ?_
         refine as2 [(1, .q 1 (0)), (5, .q 5 (0)), (51, .g (t0.Drawers.toList.flatMap (fun v : Vector GCell 4 => v.toList.flatMap GCell.cs))), (52, .i t52_0), (55, .g (((vrd t0.Drawers t52_0.toNat).toList).flatMap GCell.cs)), (56, .i (0 : Int))] [(1, .pure (GTable.cs t0)), (5, .pure (((vrd t0.Drawers t52_0.toNat).toList).flatMap GCell.cs))] rfl rfl rfl ?_
         refine bindK H fun o'11 h23 H => ?_
         refine AW2_loopO (fun a'8 : Int => (⟨[(1, .q 1 (0)), (5, .q 5 (0)), (51, .g (t0.Drawers.toList.flatMap (fun v : Vector GCell 4 => v.toList.flatMap GCell.cs))), (52, .i t52_0), (55, .g (((vrd t0.Drawers t52_0.toNat).toList).flatMap GCell.cs)), (56, .i a'8)], [(1, .pure (GTable.cs t0)), (5, .pure (((vrd t0.Drawers t52_0.toNat).toList).flatMap GCell.cs))], 80⟩ : TS)) (fun (o : Int ⊕ Unit) e s' => match o with | .inl y'9 => e = Go.Exit.ret ∧ ResAll Tryd.prog s' [ResultVar.tmp 2] [.i y'9] ∧ HFits s' [] | .inr (y'10) => e = Go.Exit.exit 3 ∧ s' = (⟨[(1, .q 1 (0)), (5, .q 5 (0)), (51, .g (t0.Drawers.toList.flatMap (fun v : Vector GCell 4 => v.toList.flatMap GCell.cs))), (52, .i t52_0)], [(1, .pure (GTable.cs t0)), (5, .pure (((vrd t0.Drawers t52_0.toNat).toList).flatMap GCell.cs))], 80⟩ : TS)) h23 rfl (fun t56_1 x hx => ?_) (fun e s' hs => ?_)
         ·clear H
          have H := hx
          clear hx
          unfold g_ref_TableFault_l1 at H
          refine sg [0] rfl ?_
          refine rp rfl rfl (p_bin rfl rfl rfl rfl) ?_
          refine rz [(1, .q 1 (0)), (5, .q 5 (0)), (51, .g (t0.Drawers.toList.flatMap (fun v : Vector GCell 4 => v.toList.flatMap GCell.cs))), (52, .i t52_0), (55, .g (((vrd t0.Drawers t52_0.toNat).toList).flatMap GCell.cs)), (56, .i t56_1), (57, .b (decide (t56_1 < (4 : Int))))] [(1, .pure (GTable.cs t0)), (5, .pure (((vrd t0.Drawers t52_0.toNat).toList).flatMap GCell.cs))] rfl rfl rfl ?_
          refine AW2_seq ?_
          refine AW2_if (p := t56_1 < (4 : Int)) rfl (fun h16 => ?_) (fun h16 => ?_)
          ·replace H := ite_then h16 H
           refine as2 [(1, .q 1 (0)), (5, .q 5 (0)), (51, .g (t0.Drawers.toList.flatMap (fun v : Vector GCell 4 => v.toList.flatMap GCell.cs))), (52, .i t52_0), (55, .g (((vrd t0.Drawers t52_0.toNat).toList).flatMap GCell.cs)), (56, .i t56_1)] [(1, .pure (GTable.cs t0)), (5, .pure (((vrd t0.Drawers t52_0.toNat).toList).flatMap GCell.cs))] rfl rfl rfl ?_
           refine AW2_skip ?_
           refine AW2_seq ?_
           refine bindK H fun o'7 h17 H => ?_
           refine AW2_join (fun j'4 : Unit => (⟨[(1, .q 1 (0)), (5, .q 5 (0)), (51, .g (t0.Drawers.toList.flatMap (fun v : Vector GCell 4 => v.toList.flatMap GCell.cs))), (52, .i t52_0), (55, .g (((vrd t0.Drawers t52_0.toNat).toList).flatMap GCell.cs)), (56, .i t56_1)], [(1, .pure (GTable.cs t0)), (5, .pure (((vrd t0.Drawers t52_0.toNat).toList).flatMap GCell.cs))], 80⟩ : TS)) (fun r e s' => e = Go.Exit.ret ∧ ResAll Tryd.prog s' [ResultVar.tmp 2] [.i r] ∧ HFits s' []) (x := o'7) ?_ (fun j'4 hy => ?_) (fun y'6 e s' hy hs => ?_)
           ·clear H
            have H := h17
            clear h17
            refine AW2_block ?_
            refine sg [0, 1, 2] rfl ?_
            refine chkK H fun h18 H => ?_
            refine rp rfl rfl (u_ixaa rfl rfl Tryd.underlying43 in_42 Tryd.underlying42 rfl rfl rfl (ixe h18) (ixn h18) (Sub.vfm (fun x => (GCell.len x)) (ixn h18)) (GCell.len (vrd (vrd t0.Drawers t52_0.toNat) t56_1.toNat))) ?_
            refine r_op rfl rfl (MakeD.opD (u_alloc 7 rfl in_42 one_42 zc_42) rfl rfl rfl rfl) ?_
            refine r_op rfl rfl (u_st rfl rfl rfl rfl rfl in_42 (GCell.len (vrd (vrd t0.Drawers t52_0.toNat) t56_1.toNat)) (ne_of_lt (n := 0) (Nat.lt_of_lt_of_eq (by decide) (Eq.symm (GCell.len GCell.zero)))) (Upd.refl ((GCell.len (vrd (vrd t0.Drawers t52_0.toNat) t56_1.toNat)).trans (GCell.len GCell.zero).symm))) ?_
            refine rz [(1, .q 1 (0)), (5, .q 5 (0)), (7, .q 7 (0)), (51, .g (t0.Drawers.toList.flatMap (fun v : Vector GCell 4 => v.toList.flatMap GCell.cs))), (52, .i t52_0), (55, .g (((vrd t0.Drawers t52_0.toNat).toList).flatMap GCell.cs)), (56, .i t56_1)] [(1, .pure (GTable.cs t0)), (5, .pure (((vrd t0.Drawers t52_0.toNat).toList).flatMap GCell.cs)), (7, .pure (GCell.cs (vrd (vrd t0.Drawers t52_0.toNat) t56_1.toNat)))] rfl rfl rfl ?_
            refine sg [0, 1] rfl ?_
            refine rp rfl rfl (u_fa rfl rfl Tryd.underlying42 rfl in_4 (Nat.succ_ne_zero _) rfl rfl (ne_of_lt (n := 0) (Nat.lt_of_lt_of_eq (by decide) (Eq.symm (GCell.len (vrd (vrd t0.Drawers t52_0.toNat) t56_1.toNat)))))) ?_
            refine rp rfl rfl (u_ld rfl rfl Tryd.underlying4 rfl rfl ((Sub.refl _).trans (GCell.sub0 (vrd (vrd t0.Drawers t52_0.toNat) t56_1.toNat)))) ?_
            refine rz [(1, .q 1 (0)), (5, .q 5 (0)), (7, .q 7 (0)), (51, .g (t0.Drawers.toList.flatMap (fun v : Vector GCell 4 => v.toList.flatMap GCell.cs))), (52, .i t52_0), (55, .g (((vrd t0.Drawers t52_0.toNat).toList).flatMap GCell.cs)), (56, .i t56_1), (60, .b ((vrd (vrd t0.Drawers t52_0.toNat) t56_1.toNat).Full))] [(1, .pure (GTable.cs t0)), (5, .pure (((vrd t0.Drawers t52_0.toNat).toList).flatMap GCell.cs)), (7, .pure (GCell.cs (vrd (vrd t0.Drawers t52_0.toNat) t56_1.toNat)))] rfl rfl rfl ?_
            refine AW2_cond rfl (fun h19 => ?_) (fun h19 => ?_)
            ·replace H := ite_then h19 H
             refine sg [0, 1, 2, 3, 4, 5] rfl ?_
             refine rp rfl rfl (u_fa rfl rfl Tryd.underlying42 rfl in_38 (Nat.succ_ne_zero _) rfl rfl (ne_of_lt (n := 0) (Nat.lt_of_lt_of_eq (by decide) (Eq.symm (GCell.len (vrd (vrd t0.Drawers t52_0.toNat) t56_1.toNat)))))) ?_
             refine rp rfl rfl (u_ld rfl rfl Tryd.underlying38 rfl rfl ((Sub.refl _).trans (GCell.sub1 (vrd (vrd t0.Drawers t52_0.toNat) t56_1.toNat)))) ?_
             refine rp rfl rfl (u_fa rfl rfl Tryd.underlying46 rfl in_35 (Nat.succ_ne_zero _) rfl rfl (ne_of_lt (n := 0) (Nat.lt_of_lt_of_eq (by decide) (Eq.symm (GTable.len t0))))) ?_
             refine rp rfl rfl (u_ld rfl rfl Tryd.underlying35 rfl rfl ((Sub.refl _).trans (GTable.sub2 t0))) ?_
             refine bindK H fun r'5 h20 H => ?_
             refine rp rfl rfl (p_callp rfl rfl rfl Tryd.func17 rfl rfl (g_ref_RowFault_ac h20) ⟨rfl, rfl, trivial⟩) ?_
             refine rp rfl rfl (p_asg rfl rfl) ?_
             refine rz [(1, .q 1 (0)), (5, .q 5 (0)), (8, .i r'5), (51, .g (t0.Drawers.toList.flatMap (fun v : Vector GCell 4 => v.toList.flatMap GCell.cs))), (52, .i t52_0), (55, .g (((vrd t0.Drawers t52_0.toNat).toList).flatMap GCell.cs)), (56, .i t56_1)] [(1, .pure (GTable.cs t0)), (5, .pure (((vrd t0.Drawers t52_0.toNat).toList).flatMap GCell.cs))] rfl rfl rfl ?_
             refine sg [0, 1] rfl ?_
             refine rp rfl rfl (p_move rfl rfl) ?_
             refine rp rfl rfl (p_ine rfl rfl rfl) ?_
             refine rz [(1, .q 1 (0)), (5, .q 5 (0)), (8, .i r'5), (51, .g (t0.Drawers.toList.flatMap (fun v : Vector GCell 4 => v.toList.flatMap GCell.cs))), (52, .i t52_0), (55, .g (((vrd t0.Drawers t52_0.toNat).toList).flatMap GCell.cs)), (56, .i t56_1), (67, .b (decide (r'5 ≠ (0 : Int))))] [(1, .pure (GTable.cs t0)), (5, .pure (((vrd t0.Drawers t52_0.toNat).toList).flatMap GCell.cs))] rfl rfl rfl ?_
             refine AW2_if (p := r'5 ≠ (0 : Int)) rfl (fun h21 => ?_) (fun h21 => ?_)
             ·replace H := ite_then h21 H
              refine sg [0, 1] rfl ?_
              refine rp rfl rfl (p_move rfl rfl) ?_
              refine rp rfl rfl (p_asg rfl rfl) ?_
              refine rz [(2, .i r'5)] [] rfl rfl rfl ?_
              refine AW2_ret ?_
              have hz := some_elim H
              subst hz
              exact ⟨rfl, ⟨res_tmp (.same _), trivial⟩, trivial⟩
             ·replace H := ite_else h21 H
              refine as2 [(1, .q 1 (0)), (5, .q 5 (0)), (51, .g (t0.Drawers.toList.flatMap (fun v : Vector GCell 4 => v.toList.flatMap GCell.cs))), (52, .i t52_0), (55, .g (((vrd t0.Drawers t52_0.toNat).toList).flatMap GCell.cs)), (56, .i t56_1)] [(1, .pure (GTable.cs t0)), (5, .pure (((vrd t0.Drawers t52_0.toNat).toList).flatMap GCell.cs))] rfl rfl rfl ?_
              refine AW2_skip ?_
              have hz := some_elim H
              subst hz
              exact ⟨rfl, rfl⟩
            ·replace H := ite_else (ne_true h19) H
             refine sg [0, 1, 2, 3] rfl ?_
             refine rp rfl rfl (u_fa rfl rfl Tryd.underlying42 rfl in_38 (Nat.succ_ne_zero _) rfl rfl (ne_of_lt (n := 0) (Nat.lt_of_lt_of_eq (by decide) (Eq.symm (GCell.len (vrd (vrd t0.Drawers t52_0.toNat) t56_1.toNat)))))) ?_
             refine rp rfl rfl (u_ld rfl rfl Tryd.underlying38 rfl rfl ((Sub.refl _).trans (GCell.sub1 (vrd (vrd t0.Drawers t52_0.toNat) t56_1.toNat)))) ?_
             refine rp rfl rfl (p_lenl rfl Tryd.underlying38 rfl rfl) ?_
             refine rp rfl rfl (p_ine rfl rfl rfl) ?_
             refine rz [(1, .q 1 (0)), (5, .q 5 (0)), (51, .g (t0.Drawers.toList.flatMap (fun v : Vector GCell 4 => v.toList.flatMap GCell.cs))), (52, .i t52_0), (55, .g (((vrd t0.Drawers t52_0.toNat).toList).flatMap GCell.cs)), (56, .i t56_1), (72, .b (decide ((((vrd (vrd t0.Drawers t52_0.toNat) t56_1.toNat).Row).length : Int) ≠ (0 : Int))))] [(1, .pure (GTable.cs t0)), (5, .pure (((vrd t0.Drawers t52_0.toNat).toList).flatMap GCell.cs))] rfl rfl rfl ?_
             refine AW2_if (p := (((vrd (vrd t0.Drawers t52_0.toNat) t56_1.toNat).Row).length : Int) ≠ (0 : Int)) rfl (fun h22 => ?_) (fun h22 => ?_)
             ·replace H := ite_then h22 H
              refine sg [0] rfl ?_
              refine rp rfl rfl (p_asg rfl rfl) ?_
              refine rz [(2, .i (3 : Int))] [] rfl rfl rfl ?_
              refine AW2_ret ?_
              have hz := some_elim H
              subst hz
              exact ⟨rfl, ⟨res_tmp (.same _), trivial⟩, trivial⟩
             ·replace H := ite_else h22 H
              refine as2 [(1, .q 1 (0)), (5, .q 5 (0)), (51, .g (t0.Drawers.toList.flatMap (fun v : Vector GCell 4 => v.toList.flatMap GCell.cs))), (52, .i t52_0), (55, .g (((vrd t0.Drawers t52_0.toNat).toList).flatMap GCell.cs)), (56, .i t56_1)] [(1, .pure (GTable.cs t0)), (5, .pure (((vrd t0.Drawers t52_0.toNat).toList).flatMap GCell.cs))] rfl rfl rfl ?_
              refine AW2_skip ?_
              have hz := some_elim H
              subst hz
              exact ⟨rfl, rfl⟩
           ·subst hy
            refine AW2_reg [0, 1] rfl ?_
            refine rp rfl rfl (p_bin rfl rfl rfl rfl) ?_
            refine rp rfl rfl (p_move rfl rfl) ?_
            refine rz [(1, .q 1 (0)), (5, .q 5 (0)), (51, .g (t0.Drawers.toList.flatMap (fun v : Vector GCell 4 => v.toList.flatMap GCell.cs))), (52, .i t52_0), (55, .g (((vrd t0.Drawers t52_0.toNat).toList).flatMap GCell.cs)), (56, .i (w64 (t56_1 + (1 : Int))))] [(1, .pure (GTable.cs t0)), (5, .pure (((vrd t0.Drawers t52_0.toNat).toList).flatMap GCell.cs))] rfl rfl rfl ?_
            have hz := some_elim H
            subst hz
            exact ⟨rfl, rfl⟩
           ·subst hy
            obtain ⟨rfl, hs⟩ := hs
            have hz := some_elim H
            subst hz
            exact ⟨rfl, hs.1, hs.2⟩
          ·replace H := ite_else h16 H
           refine as2 [(1, .q 1 (0)), (5, .q 5 (0)), (51, .g (t0.Drawers.toList.flatMap (fun v : Vector GCell 4 => v.toList.flatMap GCell.cs))), (52, .i t52_0)] [(1, .pure (GTable.cs t0)), (5, .pure (((vrd t0.Drawers t52_0.toNat).toList).flatMap GCell.cs))] rfl rfl rfl ?_
           refine AW2_exit ?_
           refine thenQ2_exit ?_
           have hz := some_elim H
           subst hz
           exact ⟨rfl, rfl⟩
         ·rcases o'11 with y'12 | y'13
          ·obtain ⟨rfl, hs⟩ := hs
           refine ⟨by simp, ?_⟩
           have hz := some_elim H
           subst hz
           exact ⟨rfl, hs.1, hs.2⟩
          ·obtain ⟨rfl, rfl⟩ := hs
           refine ⟨by simp, ?_⟩
           refine blockQ2_exit ?_
           refine sg [0, 1, 2] rfl ?_
           refine rp rfl rfl (u_lda rfl rfl Tryd.underlying43 rfl in_43 rfl (Nat.succ_pos _) (Sub.refl _) (vfm_len (fun x => (GCell.len x)) (vrd t0.Drawers t52_0.toNat))) ?_
           refine bindK H fun r'14 h24 H => ?_
           refine rp rfl rfl (p_callp rfl rfl rfl Tryd.func45 rfl rfl (g_ref_keysFault_ac h24) ⟨rfl, trivial⟩) ?_
           refine rp rfl rfl (p_asg rfl rfl) ?_
           refine rz [(1, .q 1 (0)), (9, .i r'14), (51, .g (t0.Drawers.toList.flatMap (fun v : Vector GCell 4 => v.toList.flatMap GCell.cs))), (52, .i t52_0)] [(1, .pure (GTable.cs t0))] rfl rfl rfl ?_
           refine sg [0, 1] rfl ?_
           refine rp rfl rfl (p_move rfl rfl) ?_
           refine rp rfl rfl (p_ine rfl rfl rfl) ?_
           refine rz [(1, .q 1 (0)), (9, .i r'14), (51, .g (t0.Drawers.toList.flatMap (fun v : Vector GCell 4 => v.toList.flatMap GCell.cs))), (52, .i t52_0), (77, .b (decide (r'14 ≠ (0 : Int))))] [(1, .pure (GTable.cs t0))] rfl rfl rfl ?_
           refine AW2_if (p := r'14 ≠ (0 : Int)) rfl (fun h25 => ?_) (fun h25 => ?_)
           ·replace H := ite_then h25 H
            refine sg [0, 1] rfl ?_
            refine rp rfl rfl (p_move rfl rfl) ?_
            refine rp rfl rfl (p_asg rfl rfl) ?_
            refine rz [(2, .i r'14)] [] rfl rfl rfl ?_
            refine AW2_ret ?_
            have hz := some_elim H
            subst hz
            exact ⟨rfl, ⟨res_tmp (.same _), trivial⟩, trivial⟩
           ·replace H := ite_else h25 H
            refine as2 [(1, .q 1 (0)), (51, .g (t0.Drawers.toList.flatMap (fun v : Vector GCell 4 => v.toList.flatMap GCell.cs))), (52, .i t52_0)] [(1, .pure (GTable.cs t0))] rfl rfl rfl ?_
            refine AW2_skip ?_
            refine AW2_reg [0, 1] rfl ?_
            refine rp rfl rfl (p_bin rfl rfl rfl rfl) ?_
            refine rp rfl rfl (p_move rfl rfl) ?_
            refine rz [(1, .q 1 (0)), (51, .g (t0.Drawers.toList.flatMap (fun v : Vector GCell 4 => v.toList.flatMap GCell.cs))), (52, .i (w64 (t52_0 + (1 : Int))))] [(1, .pure (GTable.cs t0))] rfl rfl rfl ?_
            have hz := some_elim H
            subst hz
            exact ⟨rfl, rfl⟩
        ·replace H := ite_else h14 H
         refine as2 [] [] rfl rfl rfl ?_
         refine AW2_exit ?_
         refine thenQ2_exit ?_
         have hz := some_elim H
         subst hz
         exact ⟨rfl, rfl⟩
       ·rcases o'18 with y'19 | y'20
        ·obtain ⟨rfl, hs⟩ := hs
         refine ⟨by simp, ?_⟩
         have hz := some_elim H
         subst hz
         exact ⟨hs.1, hs.2⟩
        ·obtain ⟨rfl, rfl⟩ := hs
         refine ⟨by simp, ?_⟩
         refine blockQ2_exit ?_
         refine sg [0] rfl ?_
         refine rp rfl rfl (p_asg rfl rfl) ?_
         refine rz [(2, .i (0 : Int))] [] rfl rfl rfl ?_
         refine AW2_ret ?_
         have hz := some_elim H
         subst hz
         exact ⟨⟨res_tmp (.same _), trivial⟩, trivial⟩

/-! chirographref.ready -/
noncomputable def g_ref_ready (t0 : GTable) (drawer1 : Int) : Option (Int) :=
  (g_ref_TableFault t0).bind fun r'1 => (if r'1 ≠ (0 : Int) then some r'1 else (if (drawer1 ≠ (0 : Int)) ∧ (drawer1 ≠ (1 : Int)) then some (6 : Int) else some (0 : Int)))
set_option maxHeartbeats 4000000 in
set_option maxRecDepth 100000 in
theorem g_ref_ready_ac {t0 : GTable} {drawer1 : Int} {r : Int} (H : g_ref_ready t0 drawer1 = some r) : ACp Tryd.prog 50 [(.agg (GTable.cs t0)), (AV.int drawer1)] (AV.int r) := by
 refine ACp_of (AC2_of_body (vs := [.i r]) Tryd.func50 rfl rfl (Nat.le_of_ble_eq_true rfl) rfl ?_) (fun _ => .same _)
 unfold g_ref_ready at H
 refine as2 [(0, .g (GTable.cs t0)), (1, .i drawer1)] [] rfl rfl rfl ?_
 refine sg [0, 1] rfl ?_
 refine r_op rfl rfl (MakeD.opD (n_box 2 rfl rfl) rfl rfl rfl rfl) ?_
 refine rp rfl rfl (p_asg rfl rfl) ?_
 refine rz [(1, .i drawer1), (2, .q 2 (0))] [(2, .pure (GTable.cs t0))] rfl rfl rfl ?_
 refine AW2_seq ?_
 refine sg [0, 1, 2] rfl ?_
 refine rp rfl rfl (u_lda rfl rfl Tryd.underlying46 rfl in_46 rfl (Nat.succ_pos _) (Sub.refl _) (GTable.len t0)) ?_
 refine bindK H fun r'1 h1 H => ?_
 refine rp rfl rfl (p_callp rfl rfl rfl Tryd.func19 rfl rfl (g_ref_TableFault_ac h1) ⟨rfl, trivial⟩) ?_
 refine rp rfl rfl (p_asg rfl rfl) ?_
 refine rz [(1, .i drawer1), (5, .i r'1)] [] rfl rfl rfl ?_
 refine sg [0, 1] rfl ?_
 refine rp rfl rfl (p_move rfl rfl) ?_
 refine rp rfl rfl (p_ine rfl rfl rfl) ?_
 refine rz [(1, .i drawer1), (5, .i r'1), (9, .b (decide (r'1 ≠ (0 : Int))))] [] rfl rfl rfl ?_
 refine AW2_if (p := r'1 ≠ (0 : Int)) rfl (fun h2 => ?_) (fun h2 => ?_)
 ·replace H := ite_then h2 H
  refine sg [0, 1] rfl ?_
  refine rp rfl rfl (p_move rfl rfl) ?_
  refine rp rfl rfl (p_asg rfl rfl) ?_
  refine rz [(4, .i r'1)] [] rfl rfl rfl ?_
  refine AW2_ret ?_
  have hz := some_elim H
  subst hz
  exact ⟨⟨res_tmp (.same _), trivial⟩, trivial⟩
 ·replace H := ite_else h2 H
  refine as2 [(1, .i drawer1)] [] rfl rfl rfl ?_
  refine AW2_skip ?_
  refine AW2_seq ?_
  refine AW2_seq ?_
  refine AW2_mid (⟨[(16, .b (decide ((drawer1 ≠ (0 : Int)) ∧ (drawer1 ≠ (1 : Int)))))], [], 17⟩ : TS) ?_ ?_
  ·refine AW2_reg [0, 1, 2, 3, 4, 5] rfl ?_
   refine rp rfl rfl (p_move rfl rfl) ?_
   refine rp rfl rfl (p_ine rfl rfl rfl) ?_
   refine rp rfl rfl (p_move rfl rfl) ?_
   refine (Classical.em (drawer1 ≠ (0 : Int))).elim (fun h3 => ?_) (fun h3 => ?_)
   ·refine r_on rfl rfl rfl rfl (decide_eq_true h3) rfl (PureD.opD (p_move rfl rfl)) ?_
    refine r_on rfl rfl rfl rfl (decide_eq_true h3) rfl (PureD.opD (p_ine rfl rfl rfl)) ?_
    refine rp rfl rfl (p_pkt rfl rfl (decide_eq_true h3) (tb ((and_l (p := drawer1 ≠ (0 : Int)) (q := drawer1 ≠ (1 : Int)) h3)))) ?_
    refine rs [(16, .b (decide ((drawer1 ≠ (0 : Int)) ∧ (drawer1 ≠ (1 : Int)))))] [] rfl rfl rfl ?_
    exact RunW_nil rfl
   ·refine r_off rfl rfl rfl rfl (decide_eq_false h3) rfl rfl ?_
    refine r_off rfl rfl rfl rfl (decide_eq_false h3) rfl rfl ?_
    refine rp rfl rfl (p_pkf rfl rfl (decide_eq_false h3) (tb (decide_eq_false (p := (drawer1 ≠ (0 : Int)) ∧ (drawer1 ≠ (1 : Int))) (fun x => h3 x.1)).symm)) ?_
    refine rs [(16, .b (decide ((drawer1 ≠ (0 : Int)) ∧ (drawer1 ≠ (1 : Int)))))] [] rfl rfl rfl ?_
    exact RunW_nil rfl
  ·refine AW2_if (p := (drawer1 ≠ (0 : Int)) ∧ (drawer1 ≠ (1 : Int))) rfl (fun h4 => ?_) (fun h4 => ?_)
   ·replace H := ite_then h4 H
    refine sg [0] rfl ?_
    refine rp rfl rfl (p_asg rfl rfl) ?_
    refine rz [(4, .i (6 : Int))] [] rfl rfl rfl ?_
    refine AW2_ret ?_
    have hz := some_elim H
    subst hz
    exact ⟨⟨res_tmp (.same _), trivial⟩, trivial⟩
   ·replace H := ite_else h4 H
    refine as2 [] [] rfl rfl rfl ?_
    refine AW2_skip ?_
    refine sg [0] rfl ?_
    refine rp rfl rfl (p_asg rfl rfl) ?_
    refine rz [(4, .i (0 : Int))] [] rfl rfl rfl ?_
    refine AW2_ret ?_
    have hz := some_elim H
    subst hz
    exact ⟨⟨res_tmp (.same _), trivial⟩, trivial⟩

/-! chirographref.Inserted -/
def g_ref_Inserted_r13 : List (List (Nat × Option Nat)) := [[(11, none)], [(39, some 0)], [(40, some 1)], [(41, some 2)], [(42, some 3)], [(2, none)], [(44, some 5)], [(45, some 6)], [(46, some 7)]]
def g_ref_Inserted_r13c : List (List Nat) := [[], [0], [0, 1], [0, 1, 2], [0, 1, 2, 3], [], [5], [5, 6], [5, 6, 7], [0, 1, 2, 3, 4, 5, 6, 7, 8]]
noncomputable def g_ref_Inserted_l0 (t0 : GTable) (drawer1 : Int) (r2 : List GValue) : Int × Int × Int → Option ((Int × Int × Int) ⊕ ((Int × Int)))
  | (e8_0, free9_0, i10_0) => (if i10_0 ≥ (0 : Int) then (if 0 ≤ drawer1 ∧ drawer1 < (2 : Int) then if 0 ≤ i10_0 ∧ i10_0 < (4 : Int) then (if (!((vrd (vrd t0.Drawers drawer1.toNat) i10_0.toNat).Full)) = true then some (e8_0, i10_0) else if 0 < ((vrd (vrd t0.Drawers drawer1.toNat) i10_0.toNat).Row).length then if 0 < r2.length then (if (lrd ((vrd (vrd t0.Drawers drawer1.toNat) i10_0.toNat).Row) 0).Int_ = (lrd r2 0).Int_ then some ((8 : Int), free9_0) else some (e8_0, free9_0)) else none else none) else none else none).bind fun j'4 => some (.inl (j'4.1, j'4.2, w64 (i10_0 - (1 : Int)))) else some (.inr (e8_0, free9_0)))
noncomputable def g_ref_Inserted (t0 : GTable) (drawer1 : Int) (r2 : List GValue) : Option (GTable × Int) :=
  (g_ref_ready t0 drawer1).bind fun r'1 => ((if r'1 = (0 : Int) then (g_ref_RowFault r2 t0.Cols).bind fun r'3 => some r'3 else some r'1)).bind fun j'2 => (if j'2 ≠ (0 : Int) then some (GTable.zero, j'2) else (loopO (g_ref_Inserted_l0 t0 drawer1 r2) (j'2, (4 : Int), (3 : Int))).bind fun y'8 => ((if (y'8.1 = (0 : Int)) ∧ (y'8.2 = (4 : Int)) then some (9 : Int) else some y'8.1)).bind fun j'9 => (if j'9 ≠ (0 : Int) then some (GTable.zero, j'9) else if 0 ≤ drawer1 ∧ drawer1 < (2 : Int) then if 0 ≤ y'8.2 ∧ y'8.2 < (4 : Int) then letO ({ t0 with Drawers := (vwr t0.Drawers drawer1.toNat (vwr (vrd t0.Drawers drawer1.toNat) y'8.2.toNat ({ { GCell.zero with Full := true } with Row := r2 }))) }) fun t3'10 => some (t3'10, (0 : Int)) else none else none))
set_option maxHeartbeats 4000000 in
set_option maxRecDepth 100000 in
theorem g_ref_Inserted_ac {t0 : GTable} {drawer1 : Int} {r2 : List GValue} {r : GTable × Int} (H : g_ref_Inserted t0 drawer1 r2 = some r) : ACp Tryd.prog 24 [(.agg (GTable.cs t0)), (AV.int drawer1), ((fun q : List GValue => AV.lst (q.flatMap GValue.cs) q.length) r2)] (.tup [(.agg (GTable.cs r.1)), (AV.int r.2)]) := by
 refine ACp_of (AC2_of_body (vs := [.g (GTable.cs r.1), .i r.2]) Tryd.func24 rfl rfl (Nat.le_of_ble_eq_true rfl) rfl ?_) (fun _ => .same _)
 unfold g_ref_Inserted at H
 refine as2 [(0, .g (GTable.cs t0)), (1, .i drawer1), (2, .p ((fun q : List GValue => AV.lst (q.flatMap GValue.cs) q.length) r2))] [] rfl rfl rfl ?_
 refine sg [0, 1, 2] rfl ?_
 refine r_op rfl rfl (MakeD.opD (n_box 3 rfl rfl) rfl rfl rfl rfl) ?_
 refine r_op rfl rfl (MakeD.opD (u_alloc 6 rfl in_46 one_46 zc_46) rfl rfl rfl rfl) ?_
 refine rp rfl rfl (p_asg rfl rfl) ?_
 refine rz [(1, .i drawer1), (2, .p ((fun q : List GValue => AV.lst (q.flatMap GValue.cs) q.length) r2)), (3, .q 3 (0)), (6, .q 6 (0))] [(3, .pure (GTable.cs t0)), (6, .pure (GTable.cs GTable.zero))] rfl rfl rfl ?_
 refine sg [0, 1, 2, 3] rfl ?_
 refine rp rfl rfl (u_lda rfl rfl Tryd.underlying46 rfl in_46 rfl (Nat.succ_pos _) (Sub.refl _) (GTable.len t0)) ?_
 refine rp rfl rfl (p_move rfl rfl) ?_
 refine bindK H fun r'1 h1 H => ?_
 refine rp rfl rfl (p_callp rfl rfl rfl Tryd.func50 rfl rfl (g_ref_ready_ac h1) ⟨rfl, rfl, trivial⟩) ?_
 refine rp rfl rfl (p_asg rfl rfl) ?_
 refine rz [(1, .i drawer1), (2, .p ((fun q : List GValue => AV.lst (q.flatMap GValue.cs) q.length) r2)), (3, .q 3 (0)), (6, .q 6 (0)), (8, .i r'1)] [(3, .pure (GTable.cs t0)), (6, .pure (GTable.cs GTable.zero))] rfl rfl rfl ?_
 refine AW2_seq ?_
 refine bindK H fun j'2 h2 H => ?_
 refine AW2_mid (⟨[(1, .i drawer1), (2, .p ((fun q : List GValue => AV.lst (q.flatMap GValue.cs) q.length) r2)), (3, .q 3 (0)), (6, .q 6 (0)), (8, .i j'2)], [(3, .pure (GTable.cs t0)), (6, .pure (GTable.cs GTable.zero))], 67⟩ : TS) ?_ ?_
 ·clear H
  have H := h2
  clear h2
  refine sg [0, 1] rfl ?_
  refine rp rfl rfl (p_move rfl rfl) ?_
  refine rp rfl rfl (p_ieq rfl rfl rfl) ?_
  refine rz [(1, .i drawer1), (2, .p ((fun q : List GValue => AV.lst (q.flatMap GValue.cs) q.length) r2)), (3, .q 3 (0)), (6, .q 6 (0)), (8, .i r'1), (16, .b (decide (r'1 = (0 : Int))))] [(3, .pure (GTable.cs t0)), (6, .pure (GTable.cs GTable.zero))] rfl rfl rfl ?_
  refine AW2_if (p := r'1 = (0 : Int)) rfl (fun h3 => ?_) (fun h3 => ?_)
  ·replace H := ite_then h3 H
   refine AW2_reg [0, 1, 2, 3, 4] rfl ?_
   refine rp rfl rfl (p_move rfl rfl) ?_
   refine rp rfl rfl (u_fa rfl rfl Tryd.underlying46 rfl in_35 (Nat.succ_ne_zero _) rfl rfl (ne_of_lt (n := 0) (Nat.lt_of_lt_of_eq (by decide) (Eq.symm (GTable.len t0))))) ?_
   refine rp rfl rfl (u_ld rfl rfl Tryd.underlying35 rfl rfl ((Sub.refl _).trans (GTable.sub2 t0))) ?_
   refine bindK H fun r'3 h4 H => ?_
   refine rp rfl rfl (p_callp rfl rfl rfl Tryd.func17 rfl rfl (g_ref_RowFault_ac h4) ⟨rfl, rfl, trivial⟩) ?_
   refine rp rfl rfl (p_asg rfl rfl) ?_
   refine rz [(1, .i drawer1), (2, .p ((fun q : List GValue => AV.lst (q.flatMap GValue.cs) q.length) r2)), (3, .q 3 (0)), (6, .q 6 (0)), (8, .i r'3)] [(3, .pure (GTable.cs t0)), (6, .pure (GTable.cs GTable.zero))] rfl rfl rfl ?_
   have hz := some_elim H
   subst hz
   exact rfl
  ·replace H := ite_else h3 H
   refine as2 [(1, .i drawer1), (2, .p ((fun q : List GValue => AV.lst (q.flatMap GValue.cs) q.length) r2)), (3, .q 3 (0)), (6, .q 6 (0)), (8, .i r'1)] [(3, .pure (GTable.cs t0)), (6, .pure (GTable.cs GTable.zero))] rfl rfl rfl ?_
   refine AW2_skip ?_
   have hz := some_elim H
   subst hz
   exact rfl
 ·refine AW2_seq ?_
  refine sg [0, 1] rfl ?_
  refine rp rfl rfl (p_move rfl rfl) ?_
  refine rp rfl rfl (p_ine rfl rfl rfl) ?_
  refine rz [(1, .i drawer1), (2, .p ((fun q : List GValue => AV.lst (q.flatMap GValue.cs) q.length) r2)), (3, .q 3 (0)), (6, .q 6 (0)), (8, .i j'2), (22, .b (decide (j'2 ≠ (0 : Int))))] [(3, .pure (GTable.cs t0)), (6, .pure (GTable.cs GTable.zero))] rfl rfl rfl ?_
  refine AW2_if (p := j'2 ≠ (0 : Int)) rfl (fun h5 => ?_) (fun h5 => ?_)
  ·replace H := ite_then h5 H
   refine sg [0, 1, 2, 3] rfl ?_
   refine rp rfl rfl (u_bld rfl in_46 one_46 zc_46 pl_46 rfl rfl) ?_
   refine rp rfl rfl (p_move rfl rfl) ?_
   refine r_op rfl rfl (u_st rfl rfl rfl rfl rfl in_46 (GTable.len GTable.zero) (ne_of_lt (n := 0) (Nat.lt_of_lt_of_eq (by decide) (Eq.symm (GTable.len GTable.zero)))) (Upd.refl ((GTable.len GTable.zero).trans (GTable.len GTable.zero).symm))) ?_
   refine rp rfl rfl (p_asg rfl rfl) ?_
   refine rz [(6, .q 6 (0)), (7, .i j'2)] [(6, .pure (GTable.cs GTable.zero))] rfl rfl rfl ?_
   refine AW2_ret ?_
   have hz := some_elim H
   subst hz
   exact ⟨⟨res_cella Tryd.underlying46 rfl in_46.sz rfl (Sub.le (Sub.refl _) (GTable.len GTable.zero)) (by decide) (Sub.take (Sub.refl _) (GTable.len GTable.zero)), res_tmp (.same _), trivial⟩, trivial⟩
  ·replace H := ite_else h5 H
   refine as2 [(1, .i drawer1), (2, .p ((fun q : List GValue => AV.lst (q.flatMap GValue.cs) q.length) r2)), (3, .q 3 (0)), (6, .q 6 (0)), (8, .i j'2)] [(3, .pure (GTable.cs t0)), (6, .pure (GTable.cs GTable.zero))] rfl rfl rfl ?_
   refine AW2_skip ?_
   refine sg [0] rfl ?_
   refine rp rfl rfl (p_asg rfl rfl) ?_
   refine rz [(1, .i drawer1), (2, .p ((fun q : List GValue => AV.lst (q.flatMap GValue.cs) q.length) r2)), (3, .q 3 (0)), (6, .q 6 (0)), (8, .i j'2), (9, .i (4 : Int))] [(3, .pure (GTable.cs t0)), (6, .pure (GTable.cs GTable.zero))] rfl rfl rfl ?_
   refine AW2_seq ?_
   refine sg [0] rfl ?_
   refine rp rfl rfl (p_asg rfl rfl) ?_
   refine rz [(1, .i drawer1), (2, .p ((fun q : List GValue => AV.lst (q.flatMap GValue.cs) q.length) r2)), (3, .q 3 (0)), (6, .q 6 (0)), (8, .i j'2), (9, .i (4 : Int)), (10, .i (3 : Int))] [(3, .pure (GTable.cs t0)), (6, .pure (GTable.cs GTable.zero))] rfl rfl rfl ?_
   refine AW2_block ?_
   refine as2 [(1, .i drawer1), (2, .p ((fun q : List GValue => AV.lst (q.flatMap GValue.cs) q.length) r2)), (3, .q 3 (0)), (6, .q 6 (0)), (8, .i j'2), (9, .i (4 : Int)), (10, .i (3 : Int))] [(3, .pure (GTable.cs t0)), (6, .pure (GTable.cs GTable.zero))] rfl rfl rfl ?_
   refine bindK H fun y'8 h14 H => ?_
   refine AW2_loopO (fun a'5 : Int × Int × Int => (⟨[(1, .i drawer1), (2, .p ((fun q : List GValue => AV.lst (q.flatMap GValue.cs) q.length) r2)), (3, .q 3 (0)), (6, .q 6 (0)), (8, .i a'5.1), (9, .i a'5.2.1), (10, .i a'5.2.2)], [(3, .pure (GTable.cs t0)), (6, .pure (GTable.cs GTable.zero))], 67⟩ : TS)) (fun (y'6 : (Int × Int)) e s' => e = Go.Exit.exit 0 ∧ s' = (⟨[(1, .i drawer1), (2, .p ((fun q : List GValue => AV.lst (q.flatMap GValue.cs) q.length) r2)), (3, .q 3 (0)), (6, .q 6 (0)), (8, .i y'6.1), (9, .i y'6.2)], [(3, .pure (GTable.cs t0)), (6, .pure (GTable.cs GTable.zero))], 67⟩ : TS)) h14 rfl (fun a x hx => ?_) (fun e s' hs => ?_)
   ·clear H
    obtain ⟨e8_0, free9_0, i10_0⟩ := a
    have H := hx
    clear hx
    unfold g_ref_Inserted_l0 at H
    refine AW2_seq ?_
    refine sg [0, 1] rfl ?_
    refine rp rfl rfl (p_move rfl rfl) ?_
    refine rp rfl rfl (p_bin rfl rfl rfl rfl) ?_
    refine rz [(1, .i drawer1), (2, .p ((fun q : List GValue => AV.lst (q.flatMap GValue.cs) q.length) r2)), (3, .q 3 (0)), (6, .q 6 (0)), (8, .i e8_0), (9, .i free9_0), (10, .i i10_0), (26, .b (decide (i10_0 ≥ (0 : Int))))] [(3, .pure (GTable.cs t0)), (6, .pure (GTable.cs GTable.zero))] rfl rfl rfl ?_
    refine AW2_if (p := i10_0 ≥ (0 : Int)) rfl (fun h6 => ?_) (fun h6 => ?_)
    ·replace H := ite_then h6 H
     refine as2 [(1, .i drawer1), (2, .p ((fun q : List GValue => AV.lst (q.flatMap GValue.cs) q.length) r2)), (3, .q 3 (0)), (6, .q 6 (0)), (8, .i e8_0), (9, .i free9_0), (10, .i i10_0)] [(3, .pure (GTable.cs t0)), (6, .pure (GTable.cs GTable.zero))] rfl rfl rfl ?_
     refine AW2_skip ?_
     refine AW2_seq ?_
     refine bindK H fun j'4 h7 H => ?_
     refine AW2_mid (⟨[(1, .i drawer1), (2, .p ((fun q : List GValue => AV.lst (q.flatMap GValue.cs) q.length) r2)), (3, .q 3 (0)), (6, .q 6 (0)), (8, .i j'4.1), (9, .i j'4.2), (10, .i i10_0)], [(3, .pure (GTable.cs t0)), (6, .pure (GTable.cs GTable.zero))], 67⟩ : TS) ?_ ?_
     ·clear H
      have H := h7
      clear h7
      refine AW2_block ?_
      refine sg [0, 1, 2, 3, 4, 5, 6, 7] rfl ?_
      refine rp rfl rfl (p_move rfl rfl) ?_
      refine rp rfl rfl (p_move rfl rfl) ?_
      refine rp rfl rfl (u_fa rfl rfl Tryd.underlying46 rfl in_44 (Nat.succ_ne_zero _) rfl rfl (ne_of_lt (n := 0) (Nat.lt_of_lt_of_eq (by decide) (Eq.symm (GTable.len t0))))) ?_
      refine chkK H fun h8 H => ?_
      refine rp rfl rfl (u_ixp rfl rfl Tryd.underlying44 in_43 rfl rfl (ne_of_lt (n := 0) (Nat.lt_of_lt_of_eq (by decide) (Eq.symm (GTable.len t0)))) rfl (ixe h8) (ixn h8)) ?_
      refine chkK H fun h9 H => ?_
      refine rp rfl rfl (u_ixp rfl rfl Tryd.underlying43 in_42 rfl rfl (ne_of_lt (n := 0) (Nat.lt_of_lt_of_eq (by decide) (Eq.symm (GTable.len t0)))) rfl (ixe h9) (ixn h9)) ?_
      refine rp rfl rfl (u_lda rfl rfl Tryd.underlying42 rfl in_42 rfl (Nat.succ_pos _) ((((Sub.refl _).trans (GTable.sub3 t0)).trans (Sub.vfm (fun x => (vfm_len (fun x => (GCell.len x)) x)) (ixn h8))).trans (Sub.vfm (fun x => (GCell.len x)) (ixn h9))) (GCell.len (vrd (vrd t0.Drawers drawer1.toNat) i10_0.toNat))) ?_
      refine r_op rfl rfl (MakeD.opD (u_alloc 11 rfl in_42 one_42 zc_42) rfl rfl rfl rfl) ?_
      refine r_op rfl rfl (u_st rfl rfl rfl rfl rfl in_42 (GCell.len (vrd (vrd t0.Drawers drawer1.toNat) i10_0.toNat)) (ne_of_lt (n := 0) (Nat.lt_of_lt_of_eq (by decide) (Eq.symm (GCell.len GCell.zero)))) (Upd.refl ((GCell.len (vrd (vrd t0.Drawers drawer1.toNat) i10_0.toNat)).trans (GCell.len GCell.zero).symm))) ?_
      refine rz [(1, .i drawer1), (2, .p ((fun q : List GValue => AV.lst (q.flatMap GValue.cs) q.length) r2)), (3, .q 3 (0)), (6, .q 6 (0)), (8, .i e8_0), (9, .i free9_0), (10, .i i10_0), (11, .q 11 (0))] [(3, .pure (GTable.cs t0)), (6, .pure (GTable.cs GTable.zero)), (11, .pure (GCell.cs (vrd (vrd t0.Drawers drawer1.toNat) i10_0.toNat)))] rfl rfl rfl ?_
      refine sg [0, 1, 2] rfl ?_
      refine rp rfl rfl (u_fa rfl rfl Tryd.underlying42 rfl in_4 (Nat.succ_ne_zero _) rfl rfl (ne_of_lt (n := 0) (Nat.lt_of_lt_of_eq (by decide) (Eq.symm (GCell.len (vrd (vrd t0.Drawers drawer1.toNat) i10_0.toNat)))))) ?_
      refine rp rfl rfl (u_ld rfl rfl Tryd.underlying4 rfl rfl ((Sub.refl _).trans (GCell.sub0 (vrd (vrd t0.Drawers drawer1.toNat) i10_0.toNat)))) ?_
      refine rp rfl rfl (p_not rfl rfl) ?_
      refine rz [(1, .i drawer1), (2, .p ((fun q : List GValue => AV.lst (q.flatMap GValue.cs) q.length) r2)), (3, .q 3 (0)), (6, .q 6 (0)), (8, .i e8_0), (9, .i free9_0), (10, .i i10_0), (11, .q 11 (0)), (37, .b (!((vrd (vrd t0.Drawers drawer1.toNat) i10_0.toNat).Full)))] [(3, .pure (GTable.cs t0)), (6, .pure (GTable.cs GTable.zero)), (11, .pure (GCell.cs (vrd (vrd t0.Drawers drawer1.toNat) i10_0.toNat)))] rfl rfl rfl ?_
      refine AW2_cond rfl (fun h10 => ?_) (fun h10 => ?_)
      ·replace H := ite_then h10 H
       refine AW2_reg [0, 1] rfl ?_
       refine rp rfl rfl (p_move rfl rfl) ?_
       refine rp rfl rfl (p_asg rfl rfl) ?_
       refine rz [(1, .i drawer1), (2, .p ((fun q : List GValue => AV.lst (q.flatMap GValue.cs) q.length) r2)), (3, .q 3 (0)), (6, .q 6 (0)), (8, .i e8_0), (9, .i i10_0), (10, .i i10_0)] [(3, .pure (GTable.cs t0)), (6, .pure (GTable.cs GTable.zero))] rfl rfl rfl ?_
       have hz := some_elim H
       subst hz
       exact rfl
      ·replace H := ite_else (ne_true h10) H
       refine AW2_seq ?_
       refine chkK H fun h11 H => ?_
       refine chkK H fun h12 H => ?_
       refine AW2_ghoQ ?_
       refine AW2_draw 9 [9] (fun k => ([.q 11 (0 + 1), .p ((fun q : List GValue => AV.lst (q.flatMap GValue.cs) q.length) ((vrd (vrd t0.Drawers drawer1.toNat) i10_0.toNat).Row)), .p (.rptr (((vrd (vrd t0.Drawers drawer1.toNat) i10_0.toNat).Row).flatMap GValue.cs) (0 * 4)), .p (.rptr (((vrd (vrd t0.Drawers drawer1.toNat) i10_0.toNat).Row).flatMap GValue.cs) (0 * 4 + 1)), .i ((lrd ((vrd (vrd t0.Drawers drawer1.toNat) i10_0.toNat).Row) 0).Int_), .p ((fun q : List GValue => AV.lst (q.flatMap GValue.cs) q.length) r2), .p (.rptr (r2.flatMap GValue.cs) (0 * 4)), .p (.rptr (r2.flatMap GValue.cs) (0 * 4 + 1)), .i ((lrd r2 0).Int_)] : List TV).getD k TV.any) (fun k => g_ref_Inserted_r13.getD k []) [(1, none), (2, none), (3, none), (6, none), (8, none), (9, none), (10, none), (43, some 4), (47, some 8)] [] (fun k => g_ref_Inserted_r13c.getD k []) mixed (by kernel_rfl) rfl rfl (a_op (g_x rfl (x_p rfl (u_fa rfl rfl Tryd.underlying42 rfl in_38 (Nat.succ_ne_zero _) rfl rfl (ne_of_lt (n := 0) (Nat.lt_of_lt_of_eq (by decide) (Eq.symm (GCell.len (vrd (vrd t0.Drawers drawer1.toNat) i10_0.toNat)))))) rfl)) (a_op (g_x rfl (x_p rfl (u_ld rfl rfl Tryd.underlying38 rfl rfl ((Sub.refl _).trans (GCell.sub1 (vrd (vrd t0.Drawers drawer1.toNat) i10_0.toNat)))) rfl)) (a_op (g_x rfl (x_p rfl (u_ixl rfl rfl Tryd.underlying38 in_29 rfl rfl rfl h11 (fne (fun x => (GValue.len x)) (by decide) h11)) rfl)) (a_op (g_x rfl (x_p rfl (u_far rfl rfl Tryd.underlying29 rfl in_3 (Nat.succ_ne_zero _) rfl) rfl)) (a_op (g_x rfl (x_p rfl (u_ld rfl rfl Tryd.underlying3 rfl rfl ((Sub.fm default (fun x => (GValue.len x)) h11).trans (GValue.sub1 (lrd ((vrd (vrd t0.Drawers drawer1.toNat) i10_0.toNat).Row) 0)))) rfl)) (a_op (g_x rfl (x_p rfl (p_move rfl rfl) rfl)) (a_op (g_x rfl (x_p rfl (u_ixl rfl rfl Tryd.underlying38 in_29 rfl rfl rfl h12 (fne (fun x => (GValue.len x)) (by decide) h12)) rfl)) (a_op (g_x rfl (x_p rfl (u_far rfl rfl Tryd.underlying29 rfl in_3 (Nat.succ_ne_zero _) rfl) rfl)) (a_op (g_x rfl (x_p rfl (u_ld rfl rfl Tryd.underlying3 rfl rfl ((Sub.fm default (fun x => (GValue.len x)) h12).trans (GValue.sub1 (lrd r2 0)))) rfl)) (a_nil)))))))))) ?_
       refine t_op rfl rfl (PureD.opD (p_ieq rfl rfl rfl)) ?_
       refine t_gho (Gho_st (L := [(1, .i drawer1), (2, .p ((fun q : List GValue => AV.lst (q.flatMap GValue.cs) q.length) r2)), (3, .q 3 (0)), (6, .q 6 (0)), (8, .i e8_0), (9, .i free9_0), (10, .i i10_0), (48, .b (decide ((lrd ((vrd (vrd t0.Drawers drawer1.toNat) i10_0.toNat).Row) 0).Int_ = (lrd r2 0).Int_)))]) (H := [(3, .pure (GTable.cs t0)), (6, .pure (GTable.cs GTable.zero))]) (N := 67) rfl ⟨TLes.same _, TLes.same _, TLes.same _, TLes.same _, TLes.same _, TLes.same _, TLes.same _, TLes.same _, trivial⟩ ⟨rfl, rfl, trivial⟩) ?_
       refine AW2_if (p := (lrd ((vrd (vrd t0.Drawers drawer1.toNat) i10_0.toNat).Row) 0).Int_ = (lrd r2 0).Int_) rfl (fun h13 => ?_) (fun h13 => ?_)
       ·replace H := ite_then h13 H
        refine AW2_reg [0] rfl ?_
        refine rp rfl rfl (p_asg rfl rfl) ?_
        refine rz [(1, .i drawer1), (2, .p ((fun q : List GValue => AV.lst (q.flatMap GValue.cs) q.length) r2)), (3, .q 3 (0)), (6, .q 6 (0)), (8, .i (8 : Int)), (9, .i free9_0), (10, .i i10_0)] [(3, .pure (GTable.cs t0)), (6, .pure (GTable.cs GTable.zero))] rfl rfl rfl ?_
        have hz := some_elim H
        subst hz
        exact rfl
       ·replace H := ite_else h13 H
        refine as2 [(1, .i drawer1), (2, .p ((fun q : List GValue => AV.lst (q.flatMap GValue.cs) q.length) r2)), (3, .q 3 (0)), (6, .q 6 (0)), (8, .i e8_0), (9, .i free9_0), (10, .i i10_0)] [(3, .pure (GTable.cs t0)), (6, .pure (GTable.cs GTable.zero))] rfl rfl rfl ?_
        refine AW2_skip ?_
        have hz := some_elim H
        subst hz
        exact rfl
     ·refine AW2_reg [0, 1, 2] rfl ?_
      refine rp rfl rfl (p_move rfl rfl) ?_
      refine rp rfl rfl (p_bin rfl rfl rfl rfl) ?_
      refine rp rfl rfl (p_asg rfl rfl) ?_
      refine rz [(1, .i drawer1), (2, .p ((fun q : List GValue => AV.lst (q.flatMap GValue.cs) q.length) r2)), (3, .q 3 (0)), (6, .q 6 (0)), (8, .i j'4.1), (9, .i j'4.2), (10, .i (w64 (i10_0 - (1 : Int))))] [(3, .pure (GTable.cs t0)), (6, .pure (GTable.cs GTable.zero))] rfl rfl rfl ?_
      have hz := some_elim H
      subst hz
      exact ⟨rfl, rfl⟩
    ·replace H := ite_else h6 H
     refine as2 [(1, .i drawer1), (2, .p ((fun q : List GValue => AV.lst (q.flatMap GValue.cs) q.length) r2)), (3, .q 3 (0)), (6, .q 6 (0)), (8, .i e8_0), (9, .i free9_0)] [(3, .pure (GTable.cs t0)), (6, .pure (GTable.cs GTable.zero))] rfl rfl rfl ?_
     refine AW2_exit ?_
     refine thenQ2_exit ?_
     have hz := some_elim H
     subst hz
     exact ⟨rfl, rfl⟩
   ·obtain ⟨rfl, rfl⟩ := hs
    refine ⟨by simp, ?_⟩
    refine blockQ2_exit ?_
    refine AW2_seq ?_
    refine bindK H fun j'9 h15 H => ?_
    refine AW2_mid (⟨[(1, .i drawer1), (2, .p ((fun q : List GValue => AV.lst (q.flatMap GValue.cs) q.length) r2)), (3, .q 3 (0)), (6, .q 6 (0)), (8, .i j'9), (9, .i y'8.2)], [(3, .pure (GTable.cs t0)), (6, .pure (GTable.cs GTable.zero))], 67⟩ : TS) ?_ ?_
    ·clear H
     have H := h15
     clear h15
     refine AW2_seq ?_
     refine AW2_mid (⟨[(1, .i drawer1), (2, .p ((fun q : List GValue => AV.lst (q.flatMap GValue.cs) q.length) r2)), (3, .q 3 (0)), (6, .q 6 (0)), (8, .i y'8.1), (9, .i y'8.2), (54, .b (decide ((y'8.1 = (0 : Int)) ∧ (y'8.2 = (4 : Int)))))], [(3, .pure (GTable.cs t0)), (6, .pure (GTable.cs GTable.zero))], 67⟩ : TS) ?_ ?_
     ·refine AW2_reg [0, 1, 2, 3, 4, 5] rfl ?_
      refine rp rfl rfl (p_move rfl rfl) ?_
      refine rp rfl rfl (p_ieq rfl rfl rfl) ?_
      refine rp rfl rfl (p_move rfl rfl) ?_
      refine (Classical.em (y'8.1 = (0 : Int))).elim (fun h16 => ?_) (fun h16 => ?_)
      ·refine r_on rfl rfl rfl rfl (decide_eq_true h16) rfl (PureD.opD (p_move rfl rfl)) ?_
       refine r_on rfl rfl rfl rfl (decide_eq_true h16) rfl (PureD.opD (p_ieq rfl rfl rfl)) ?_
       refine rp rfl rfl (p_pkt rfl rfl (decide_eq_true h16) (tb ((and_l (p := y'8.1 = (0 : Int)) (q := y'8.2 = (4 : Int)) h16)))) ?_
       refine rs [(1, .i drawer1), (2, .p ((fun q : List GValue => AV.lst (q.flatMap GValue.cs) q.length) r2)), (3, .q 3 (0)), (6, .q 6 (0)), (8, .i y'8.1), (9, .i y'8.2), (54, .b (decide ((y'8.1 = (0 : Int)) ∧ (y'8.2 = (4 : Int)))))] [(3, .pure (GTable.cs t0)), (6, .pure (GTable.cs GTable.zero))] rfl rfl rfl ?_
       exact RunW_nil rfl
      ·refine r_off rfl rfl rfl rfl (decide_eq_false h16) rfl rfl ?_
       refine r_off rfl rfl rfl rfl (decide_eq_false h16) rfl rfl ?_
       refine rp rfl rfl (p_pkf rfl rfl (decide_eq_false h16) (tb (decide_eq_false (p := (y'8.1 = (0 : Int)) ∧ (y'8.2 = (4 : Int))) (fun x => h16 x.1)).symm)) ?_
       refine rs [(1, .i drawer1), (2, .p ((fun q : List GValue => AV.lst (q.flatMap GValue.cs) q.length) r2)), (3, .q 3 (0)), (6, .q 6 (0)), (8, .i y'8.1), (9, .i y'8.2), (54, .b (decide ((y'8.1 = (0 : Int)) ∧ (y'8.2 = (4 : Int)))))] [(3, .pure (GTable.cs t0)), (6, .pure (GTable.cs GTable.zero))] rfl rfl rfl ?_
       exact RunW_nil rfl
     ·refine AW2_if (p := (y'8.1 = (0 : Int)) ∧ (y'8.2 = (4 : Int))) rfl (fun h17 => ?_) (fun h17 => ?_)
      ·replace H := ite_then h17 H
       refine AW2_reg [0] rfl ?_
       refine rp rfl rfl (p_asg rfl rfl) ?_
       refine rz [(1, .i drawer1), (2, .p ((fun q : List GValue => AV.lst (q.flatMap GValue.cs) q.length) r2)), (3, .q 3 (0)), (6, .q 6 (0)), (8, .i (9 : Int)), (9, .i y'8.2)] [(3, .pure (GTable.cs t0)), (6, .pure (GTable.cs GTable.zero))] rfl rfl rfl ?_
       have hz := some_elim H
       subst hz
       exact rfl
      ·replace H := ite_else h17 H
       refine as2 [(1, .i drawer1), (2, .p ((fun q : List GValue => AV.lst (q.flatMap GValue.cs) q.length) r2)), (3, .q 3 (0)), (6, .q 6 (0)), (8, .i y'8.1), (9, .i y'8.2)] [(3, .pure (GTable.cs t0)), (6, .pure (GTable.cs GTable.zero))] rfl rfl rfl ?_
       refine AW2_skip ?_
       have hz := some_elim H
       subst hz
       exact rfl
    ·refine AW2_seq ?_
     refine sg [0, 1] rfl ?_
     refine rp rfl rfl (p_move rfl rfl) ?_
     refine rp rfl rfl (p_ine rfl rfl rfl) ?_
     refine rz [(1, .i drawer1), (2, .p ((fun q : List GValue => AV.lst (q.flatMap GValue.cs) q.length) r2)), (3, .q 3 (0)), (6, .q 6 (0)), (8, .i j'9), (9, .i y'8.2), (56, .b (decide (j'9 ≠ (0 : Int))))] [(3, .pure (GTable.cs t0)), (6, .pure (GTable.cs GTable.zero))] rfl rfl rfl ?_
     refine AW2_if (p := j'9 ≠ (0 : Int)) rfl (fun h18 => ?_) (fun h18 => ?_)
     ·replace H := ite_then h18 H
      refine sg [0, 1, 2, 3] rfl ?_
      refine rp rfl rfl (u_bld rfl in_46 one_46 zc_46 pl_46 rfl rfl) ?_
      refine rp rfl rfl (p_move rfl rfl) ?_
      refine r_op rfl rfl (u_st rfl rfl rfl rfl rfl in_46 (GTable.len GTable.zero) (ne_of_lt (n := 0) (Nat.lt_of_lt_of_eq (by decide) (Eq.symm (GTable.len GTable.zero)))) (Upd.refl ((GTable.len GTable.zero).trans (GTable.len GTable.zero).symm))) ?_
      refine rp rfl rfl (p_asg rfl rfl) ?_
      refine rz [(6, .q 6 (0)), (7, .i j'9)] [(6, .pure (GTable.cs GTable.zero))] rfl rfl rfl ?_
      refine AW2_ret ?_
      have hz := some_elim H
      subst hz
      exact ⟨⟨res_cella Tryd.underlying46 rfl in_46.sz rfl (Sub.le (Sub.refl _) (GTable.len GTable.zero)) (by decide) (Sub.take (Sub.refl _) (GTable.len GTable.zero)), res_tmp (.same _), trivial⟩, trivial⟩
     ·replace H := ite_else h18 H
      refine as2 [(1, .i drawer1), (2, .p ((fun q : List GValue => AV.lst (q.flatMap GValue.cs) q.length) r2)), (3, .q 3 (0)), (6, .q 6 (0)), (9, .i y'8.2)] [(3, .pure (GTable.cs t0)), (6, .pure (GTable.cs GTable.zero))] rfl rfl rfl ?_
      refine AW2_skip ?_
      refine sg [0, 1, 2, 3, 4, 5, 6, 7] rfl ?_
      refine rp rfl rfl (p_move rfl rfl) ?_
      refine rp rfl rfl (p_move rfl rfl) ?_
      refine rp rfl rfl (p_move rfl rfl) ?_
      refine rp rfl rfl (u_bld rfl in_42 one_42 zc_42 pl_42 rfl (af_cons rfl rfl (GCell.upd0 GCell.zero true) (af_cons rfl rfl (GCell.upd1 ((GCell.w0 GCell.zero true)) r2) rfl))) ?_
      refine rp rfl rfl (u_fa rfl rfl Tryd.underlying46 rfl in_44 (Nat.succ_ne_zero _) rfl rfl (ne_of_lt (n := 0) (Nat.lt_of_lt_of_eq (by decide) (Eq.symm (GTable.len t0))))) ?_
      refine chkK H fun h19 H => ?_
      refine rp rfl rfl (u_ixp rfl rfl Tryd.underlying44 in_43 rfl rfl (ne_of_lt (n := 0) (Nat.lt_of_lt_of_eq (by decide) (Eq.symm (GTable.len t0)))) rfl (ixe h19) (ixn h19)) ?_
      refine chkK H fun h20 H => ?_
      refine rp rfl rfl (u_ixp rfl rfl Tryd.underlying43 in_42 rfl rfl (ne_of_lt (n := 0) (Nat.lt_of_lt_of_eq (by decide) (Eq.symm (GTable.len t0)))) rfl (ixe h20) (ixn h20)) ?_
      refine r_op rfl rfl (u_st rfl rfl rfl rfl rfl in_42 (GCell.len ((GCell.w1 (GCell.w0 GCell.zero true) r2))) (ne_of_lt (n := 0) (Nat.lt_of_lt_of_eq (by decide) (Eq.symm (GTable.len t0)))) (Upd.trans (((Sub.refl _).trans (GTable.sub3 t0)).trans (Sub.vfm (fun x => (vfm_len (fun x => (GCell.len x)) x)) (ixn h19))) (Upd.vfm (fun x => (GCell.len x)) (ixn h20)) (Upd.trans ((Sub.refl _).trans (GTable.sub3 t0)) (Upd.vfm (fun x => (vfm_len (fun x => (GCell.len x)) x)) (ixn h19)) (Upd.trans (Sub.refl _) (GTable.upd3 t0 (vwr t0.Drawers drawer1.toNat (vwr (vrd t0.Drawers drawer1.toNat) y'8.2.toNat ((GCell.w1 (GCell.w0 GCell.zero true) r2))))) (Upd.refl ((GTable.len ((GTable.w3 t0 (vwr t0.Drawers drawer1.toNat (vwr (vrd t0.Drawers drawer1.toNat) y'8.2.toNat ((GCell.w1 (GCell.w0 GCell.zero true) r2))))))).trans (GTable.len t0).symm)))))) ?_
      refine rz [(3, .q 3 (0)), (6, .q 6 (0))] [(3, .pure (GTable.cs ((GTable.w3 t0 (vwr t0.Drawers drawer1.toNat (vwr (vrd t0.Drawers drawer1.toNat) y'8.2.toNat ((GCell.w1 (GCell.w0 GCell.zero true) r2)))))))), (6, .pure (GTable.cs GTable.zero))] rfl rfl rfl ?_
      refine gen1 (fun t3'10 => (⟨[(3, .q 3 (0)), (6, .q 6 (0))], [(3, .pure (GTable.cs t3'10)), (6, .pure (GTable.cs GTable.zero))], 67⟩ : TS)) H ?_
      intro t3'10 H
      refine sg [0, 1, 2] rfl ?_
      refine rp rfl rfl (u_lda rfl rfl Tryd.underlying46 rfl in_46 rfl (Nat.succ_pos _) (Sub.refl _) (GTable.len t3'10)) ?_
      refine r_op rfl rfl (u_st rfl rfl rfl rfl rfl in_46 (GTable.len t3'10) (ne_of_lt (n := 0) (Nat.lt_of_lt_of_eq (by decide) (Eq.symm (GTable.len GTable.zero)))) (Upd.refl ((GTable.len t3'10).trans (GTable.len GTable.zero).symm))) ?_
      refine rp rfl rfl (p_asg rfl rfl) ?_
      refine rz [(6, .q 6 (0)), (7, .i (0 : Int))] [(6, .pure (GTable.cs t3'10))] rfl rfl rfl ?_
      refine AW2_ret ?_
      have hz := some_elim H
      subst hz
      exact ⟨⟨res_cella Tryd.underlying46 rfl in_46.sz rfl (Sub.le (Sub.refl _) (GTable.len t3'10)) (by decide) (Sub.take (Sub.refl _) (GTable.len t3'10)), res_tmp (.same _), trivial⟩, trivial⟩

/-! chirographlaw.sameColumns -/
def g_law_sameColumns_r6 : List (List (Nat × Option Nat)) := [[(0, none)], [(5, none)], [(16, some 0), (17, some 1)], [(18, some 2)], [(1, none)], [(5, none)], [(20, some 4), (21, some 5)], [(22, some 6)]]
def g_law_sameColumns_r6c : List (List Nat) := [[], [], [0, 1], [0, 1, 2], [], [], [4, 5], [4, 5, 6], [0, 1, 2, 3, 4, 5, 6, 7]]
noncomputable def g_law_sameColumns_l0 (a0 : List GColumn) (b1 : List GColumn) : Int → Option (Int ⊕ (Bool ⊕ Unit))
  | t13_0 => (if t13_0 < (a0.length : Int) then if 0 ≤ t13_0 ∧ t13_0 < (a0.length : Int) then if 0 ≤ t13_0 ∧ t13_0 < (b1.length : Int) then (if (lrd a0 t13_0.toNat) ≠ (lrd b1 t13_0.toNat) then some (.inr (.inl false)) else some (.inl (w64 (t13_0 + (1 : Int))))) else none else none else some (.inr (.inr ())))
noncomputable def g_law_sameColumns (a0 : List GColumn) (b1 : List GColumn) : Option (Bool) :=
  (if (a0.length : Int) ≠ (b1.length : Int) then some false else (loopO (g_law_sameColumns_l0 a0 b1) (0 : Int)).bind fun o'4 => match o'4 with | .inl y'5 => some y'5 | .inr (y'6) => some true)
set_option maxHeartbeats 4000000 in
set_option maxRecDepth 100000 in
theorem g_law_sameColumns_ac {a0 : List GColumn} {b1 : List GColumn} {r : Bool} (H : g_law_sameColumns a0 b1 = some r) : ACp Tryd.prog 51 [((fun q : List GColumn => AV.lst (q.flatMap GColumn.cs) q.length) a0), ((fun q : List GColumn => AV.lst (q.flatMap GColumn.cs) q.length) b1)] (AV.bool r) := by
 refine ACp_of (AC2_of_body (vs := [.b r]) Tryd.func51 rfl rfl (Nat.le_of_ble_eq_true rfl) rfl ?_) (fun _ => .same _)
 unfold g_law_sameColumns at H
 refine as2 [(0, .p ((fun q : List GColumn => AV.lst (q.flatMap GColumn.cs) q.length) a0)), (1, .p ((fun q : List GColumn => AV.lst (q.flatMap GColumn.cs) q.length) b1))] [] rfl rfl rfl ?_
 refine sg [0] rfl ?_
 refine rp rfl rfl (p_asg rfl rfl) ?_
 refine rz [(0, .p ((fun q : List GColumn => AV.lst (q.flatMap GColumn.cs) q.length) a0)), (1, .p ((fun q : List GColumn => AV.lst (q.flatMap GColumn.cs) q.length) b1))] [] rfl rfl rfl ?_
 refine AW2_seq ?_
 refine sg [0, 1, 2, 3, 4] rfl ?_
 refine rp rfl rfl (p_move rfl rfl) ?_
 refine rp rfl rfl (p_lenl rfl Tryd.underlying35 rfl rfl) ?_
 refine rp rfl rfl (p_move rfl rfl) ?_
 refine rp rfl rfl (p_lenl rfl Tryd.underlying35 rfl rfl) ?_
 refine rp rfl rfl (p_ine rfl rfl rfl) ?_
 refine rz [(0, .p ((fun q : List GColumn => AV.lst (q.flatMap GColumn.cs) q.length) a0)), (1, .p ((fun q : List GColumn => AV.lst (q.flatMap GColumn.cs) q.length) b1)), (10, .b (decide ((a0.length : Int) ≠ (b1.length : Int))))] [] rfl rfl rfl ?_
 refine AW2_if (p := (a0.length : Int) ≠ (b1.length : Int)) rfl (fun h1 => ?_) (fun h1 => ?_)
 ·replace H := ite_then h1 H
  refine sg [0] rfl ?_
  refine rp rfl rfl (p_asg rfl rfl) ?_
  refine rz [(4, .b false)] [] rfl rfl rfl ?_
  refine AW2_ret ?_
  have hz := some_elim H
  subst hz
  exact ⟨⟨res_tmp (.same _), trivial⟩, trivial⟩
 ·replace H := ite_else h1 H
  refine as2 [(0, .p ((fun q : List GColumn => AV.lst (q.flatMap GColumn.cs) q.length) a0)), (1, .p ((fun q : List GColumn => AV.lst (q.flatMap GColumn.cs) q.length) b1))] [] rfl rfl rfl ?_
  refine AW2_skip ?_
  refine AW2_seq ?_
  refine sg [0, 1, 2] rfl ?_
  refine rp rfl rfl (p_move rfl rfl) ?_
  refine rp rfl rfl (p_lenl rfl Tryd.underlying35 rfl rfl) ?_
  refine rp rfl rfl (p_move rfl rfl) ?_
  refine rz [(0, .p ((fun q : List GColumn => AV.lst (q.flatMap GColumn.cs) q.length) a0)), (1, .p ((fun q : List GColumn => AV.lst (q.flatMap GColumn.cs) q.length) b1)), (12, .i (a0.length : Int)), (13, .i (0 : Int))] [] rfl rfl rfl ?_
  refine AW2_block ?_
  refine as2 [(0, .p ((fun q : List GColumn => AV.lst (q.flatMap GColumn.cs) q.length) a0)), (1, .p ((fun q : List GColumn => AV.lst (q.flatMap GColumn.cs) q.length) b1)), (12, .i (a0.length : Int)), (13, .i (0 : Int))] [] rfl rfl rfl ?_
  refine bindK H fun o'4 h6 H => ?_
  refine AW2_loopO (fun a'1 : Int => (⟨[(0, .p ((fun q : List GColumn => AV.lst (q.flatMap GColumn.cs) q.length) a0)), (1, .p ((fun q : List GColumn => AV.lst (q.flatMap GColumn.cs) q.length) b1)), (12, .i (a0.length : Int)), (13, .i a'1)], [], 26⟩ : TS)) (fun (o : Bool ⊕ Unit) e s' => match o with | .inl y'2 => e = Go.Exit.ret ∧ ResAll Tryd.prog s' [ResultVar.tmp 4] [.b y'2] ∧ HFits s' [] | .inr (y'3) => e = Go.Exit.exit 0 ∧ s' = (⟨[], [], 26⟩ : TS)) h6 rfl (fun t13_0 x hx => ?_) (fun e s' hs => ?_)
  ·clear H
   have H := hx
   clear hx
   unfold g_law_sameColumns_l0 at H
   refine sg [0] rfl ?_
   refine rp rfl rfl (p_bin rfl rfl rfl rfl) ?_
   refine rz [(0, .p ((fun q : List GColumn => AV.lst (q.flatMap GColumn.cs) q.length) a0)), (1, .p ((fun q : List GColumn => AV.lst (q.flatMap GColumn.cs) q.length) b1)), (12, .i (a0.length : Int)), (13, .i t13_0), (14, .b (decide (t13_0 < (a0.length : Int))))] [] rfl rfl rfl ?_
   refine AW2_seq ?_
   refine AW2_if (p := t13_0 < (a0.length : Int)) rfl (fun h2 => ?_) (fun h2 => ?_)
   ·replace H := ite_then h2 H
    refine as2 [(0, .p ((fun q : List GColumn => AV.lst (q.flatMap GColumn.cs) q.length) a0)), (1, .p ((fun q : List GColumn => AV.lst (q.flatMap GColumn.cs) q.length) b1)), (12, .i (a0.length : Int)), (13, .i t13_0)] [] rfl rfl rfl ?_
    refine AW2_skip ?_
    refine AW2_seq ?_
    refine AW2_block ?_
    refine sg [0, 1] rfl ?_
    refine rp rfl rfl (p_move rfl rfl) ?_
    refine rp rfl rfl (p_asg rfl rfl) ?_
    refine rz [(0, .p ((fun q : List GColumn => AV.lst (q.flatMap GColumn.cs) q.length) a0)), (1, .p ((fun q : List GColumn => AV.lst (q.flatMap GColumn.cs) q.length) b1)), (5, .i t13_0), (12, .i (a0.length : Int)), (13, .i t13_0)] [] rfl rfl rfl ?_
    refine AW2_seq ?_
    refine chkK H fun h3 H => ?_
    refine chkK H fun h4 H => ?_
    refine AW2_ghoQ ?_
    refine AW2_draw 8 [8] (fun k => ([.p ((fun q : List GColumn => AV.lst (q.flatMap GColumn.cs) q.length) a0), .i t13_0, .p (.rptr (a0.flatMap GColumn.cs) (t13_0.toNat * 3)), .g (GColumn.cs (lrd a0 t13_0.toNat)), .p ((fun q : List GColumn => AV.lst (q.flatMap GColumn.cs) q.length) b1), .i t13_0, .p (.rptr (b1.flatMap GColumn.cs) (t13_0.toNat * 3)), .g (GColumn.cs (lrd b1 t13_0.toNat))] : List TV).getD k TV.any) (fun k => g_law_sameColumns_r6.getD k []) [(0, none), (1, none), (12, none), (13, none), (19, some 3), (23, some 7)] [] (fun k => g_law_sameColumns_r6c.getD k []) mixed (by kernel_rfl) rfl rfl (a_op (g_x rfl (x_p rfl (p_move rfl rfl) rfl)) (a_op (g_x rfl (x_p rfl (p_move rfl rfl) rfl)) (a_op (g_x rfl (x_p rfl (u_ixl rfl rfl Tryd.underlying35 in_68 rfl rfl (ixe h3) (ixn h3) (fne (fun x => (GColumn.len x)) (by decide) (ixn h3))) rfl)) (a_op (g_x rfl (x_p rfl (u_lda rfl rfl Tryd.underlying68 rfl in_68 rfl (Nat.succ_pos _) (Sub.fm default (fun x => (GColumn.len x)) (ixn h3)) (GColumn.len (lrd a0 t13_0.toNat))) rfl)) (a_op (g_x rfl (x_p rfl (p_move rfl rfl) rfl)) (a_op (g_x rfl (x_p rfl (p_move rfl rfl) rfl)) (a_op (g_x rfl (x_p rfl (u_ixl rfl rfl Tryd.underlying35 in_68 rfl rfl (ixe h4) (ixn h4) (fne (fun x => (GColumn.len x)) (by decide) (ixn h4))) rfl)) (a_op (g_x rfl (x_p rfl (u_lda rfl rfl Tryd.underlying68 rfl in_68 rfl (Nat.succ_pos _) (Sub.fm default (fun x => (GColumn.len x)) (ixn h4)) (GColumn.len (lrd b1 t13_0.toNat))) rfl)) (a_nil))))))))) ?_
    refine t_op rfl rfl (PureD.opD (p_nea (a := (lrd a0 t13_0.toNat)) (b := (lrd b1 t13_0.toNat)) rfl eq_68 rfl (by kernel_rfl) rfl rfl)) ?_
    refine t_gho (Gho_st (L := [(0, .p ((fun q : List GColumn => AV.lst (q.flatMap GColumn.cs) q.length) a0)), (1, .p ((fun q : List GColumn => AV.lst (q.flatMap GColumn.cs) q.length) b1)), (12, .i (a0.length : Int)), (13, .i t13_0), (24, .b (decide ((lrd a0 t13_0.toNat) ≠ (lrd b1 t13_0.toNat))))]) (H := []) (N := 26) rfl ⟨TLes.same _, TLes.same _, TLes.same _, TLes.same _, TLes.same _, trivial⟩ trivial) ?_
    refine AW2_if (p := (lrd a0 t13_0.toNat) ≠ (lrd b1 t13_0.toNat)) rfl (fun h5 => ?_) (fun h5 => ?_)
    ·replace H := ite_then h5 H
     refine sg [0] rfl ?_
     refine rp rfl rfl (p_asg rfl rfl) ?_
     refine rz [(4, .b false)] [] rfl rfl rfl ?_
     refine AW2_ret ?_
     have hz := some_elim H
     subst hz
     exact ⟨rfl, ⟨res_tmp (.same _), trivial⟩, trivial⟩
    ·replace H := ite_else h5 H
     refine as2 [(0, .p ((fun q : List GColumn => AV.lst (q.flatMap GColumn.cs) q.length) a0)), (1, .p ((fun q : List GColumn => AV.lst (q.flatMap GColumn.cs) q.length) b1)), (12, .i (a0.length : Int)), (13, .i t13_0)] [] rfl rfl rfl ?_
     refine AW2_skip ?_
     refine AW2_reg [0, 1] rfl ?_
     refine rp rfl rfl (p_bin rfl rfl rfl rfl) ?_
     refine rp rfl rfl (p_move rfl rfl) ?_
     refine rz [(0, .p ((fun q : List GColumn => AV.lst (q.flatMap GColumn.cs) q.length) a0)), (1, .p ((fun q : List GColumn => AV.lst (q.flatMap GColumn.cs) q.length) b1)), (12, .i (a0.length : Int)), (13, .i (w64 (t13_0 + (1 : Int))))] [] rfl rfl rfl ?_
     have hz := some_elim H
     subst hz
     exact ⟨rfl, rfl⟩
   ·replace H := ite_else h2 H
    refine as2 [] [] rfl rfl rfl ?_
    refine AW2_exit ?_
    refine thenQ2_exit ?_
    have hz := some_elim H
    subst hz
    exact ⟨rfl, rfl⟩
  ·rcases o'4 with y'5 | y'6
   ·obtain ⟨rfl, hs⟩ := hs
    refine ⟨by simp, ?_⟩
    have hz := some_elim H
    subst hz
    exact ⟨hs.1, hs.2⟩
   ·obtain ⟨rfl, rfl⟩ := hs
    refine ⟨by simp, ?_⟩
    refine blockQ2_exit ?_
    refine sg [0] rfl ?_
    refine rp rfl rfl (p_asg rfl rfl) ?_
    refine rz [(4, .b true)] [] rfl rfl rfl ?_
    refine AW2_ret ?_
    have hz := some_elim H
    subst hz
    exact ⟨⟨res_tmp (.same _), trivial⟩, trivial⟩

/-! chirographlaw.sameRow -/
def g_law_sameRow_r6 : List (List (Nat × Option Nat)) := [[(0, none)], [(5, none)], [(16, some 0), (17, some 1)], [(18, some 2)], [(1, none)], [(5, none)], [(20, some 4), (21, some 5)], [(22, some 6)]]
def g_law_sameRow_r6c : List (List Nat) := [[], [], [0, 1], [0, 1, 2], [], [], [4, 5], [4, 5, 6], [0, 1, 2, 3, 4, 5, 6, 7]]
noncomputable def g_law_sameRow_l0 (a0 : List GValue) (b1 : List GValue) : Int → Option (Int ⊕ (Bool ⊕ Unit))
  | t13_0 => (if t13_0 < (a0.length : Int) then if 0 ≤ t13_0 ∧ t13_0 < (a0.length : Int) then if 0 ≤ t13_0 ∧ t13_0 < (b1.length : Int) then (if (lrd a0 t13_0.toNat) ≠ (lrd b1 t13_0.toNat) then some (.inr (.inl false)) else some (.inl (w64 (t13_0 + (1 : Int))))) else none else none else some (.inr (.inr ())))
noncomputable def g_law_sameRow (a0 : List GValue) (b1 : List GValue) : Option (Bool) :=
  (if (a0.length : Int) ≠ (b1.length : Int) then some false else (loopO (g_law_sameRow_l0 a0 b1) (0 : Int)).bind fun o'4 => match o'4 with | .inl y'5 => some y'5 | .inr (y'6) => some true)
set_option maxHeartbeats 4000000 in
set_option maxRecDepth 100000 in
theorem g_law_sameRow_ac {a0 : List GValue} {b1 : List GValue} {r : Bool} (H : g_law_sameRow a0 b1 = some r) : ACp Tryd.prog 48 [((fun q : List GValue => AV.lst (q.flatMap GValue.cs) q.length) a0), ((fun q : List GValue => AV.lst (q.flatMap GValue.cs) q.length) b1)] (AV.bool r) := by
 refine ACp_of (AC2_of_body (vs := [.b r]) Tryd.func48 rfl rfl (Nat.le_of_ble_eq_true rfl) rfl ?_) (fun _ => .same _)
 unfold g_law_sameRow at H
 refine as2 [(0, .p ((fun q : List GValue => AV.lst (q.flatMap GValue.cs) q.length) a0)), (1, .p ((fun q : List GValue => AV.lst (q.flatMap GValue.cs) q.length) b1))] [] rfl rfl rfl ?_
 refine sg [0] rfl ?_
 refine rp rfl rfl (p_asg rfl rfl) ?_
 refine rz [(0, .p ((fun q : List GValue => AV.lst (q.flatMap GValue.cs) q.length) a0)), (1, .p ((fun q : List GValue => AV.lst (q.flatMap GValue.cs) q.length) b1))] [] rfl rfl rfl ?_
 refine AW2_seq ?_
 refine sg [0, 1, 2, 3, 4] rfl ?_
 refine rp rfl rfl (p_move rfl rfl) ?_
 refine rp rfl rfl (p_lenl rfl Tryd.underlying38 rfl rfl) ?_
 refine rp rfl rfl (p_move rfl rfl) ?_
 refine rp rfl rfl (p_lenl rfl Tryd.underlying38 rfl rfl) ?_
 refine rp rfl rfl (p_ine rfl rfl rfl) ?_
 refine rz [(0, .p ((fun q : List GValue => AV.lst (q.flatMap GValue.cs) q.length) a0)), (1, .p ((fun q : List GValue => AV.lst (q.flatMap GValue.cs) q.length) b1)), (10, .b (decide ((a0.length : Int) ≠ (b1.length : Int))))] [] rfl rfl rfl ?_
 refine AW2_if (p := (a0.length : Int) ≠ (b1.length : Int)) rfl (fun h1 => ?_) (fun h1 => ?_)
 ·replace H := ite_then h1 H
  refine sg [0] rfl ?_
  refine rp rfl rfl (p_asg rfl rfl) ?_
  refine rz [(4, .b false)] [] rfl rfl rfl ?_
  refine AW2_ret ?_
  have hz := some_elim H
  subst hz
  exact ⟨⟨res_tmp (.same _), trivial⟩, trivial⟩
 ·replace H := ite_else h1 H
  refine as2 [(0, .p ((fun q : List GValue => AV.lst (q.flatMap GValue.cs) q.length) a0)), (1, .p ((fun q : List GValue => AV.lst (q.flatMap GValue.cs) q.length) b1))] [] rfl rfl rfl ?_
  refine AW2_skip ?_
  refine AW2_seq ?_
  refine sg [0, 1, 2] rfl ?_
  refine rp rfl rfl (p_move rfl rfl) ?_
  refine rp rfl rfl (p_lenl rfl Tryd.underlying38 rfl rfl) ?_
  refine rp rfl rfl (p_move rfl rfl) ?_
  refine rz [(0, .p ((fun q : List GValue => AV.lst (q.flatMap GValue.cs) q.length) a0)), (1, .p ((fun q : List GValue => AV.lst (q.flatMap GValue.cs) q.length) b1)), (12, .i (a0.length : Int)), (13, .i (0 : Int))] [] rfl rfl rfl ?_
  refine AW2_block ?_
  refine as2 [(0, .p ((fun q : List GValue => AV.lst (q.flatMap GValue.cs) q.length) a0)), (1, .p ((fun q : List GValue => AV.lst (q.flatMap GValue.cs) q.length) b1)), (12, .i (a0.length : Int)), (13, .i (0 : Int))] [] rfl rfl rfl ?_
  refine bindK H fun o'4 h6 H => ?_
  refine AW2_loopO (fun a'1 : Int => (⟨[(0, .p ((fun q : List GValue => AV.lst (q.flatMap GValue.cs) q.length) a0)), (1, .p ((fun q : List GValue => AV.lst (q.flatMap GValue.cs) q.length) b1)), (12, .i (a0.length : Int)), (13, .i a'1)], [], 26⟩ : TS)) (fun (o : Bool ⊕ Unit) e s' => match o with | .inl y'2 => e = Go.Exit.ret ∧ ResAll Tryd.prog s' [ResultVar.tmp 4] [.b y'2] ∧ HFits s' [] | .inr (y'3) => e = Go.Exit.exit 0 ∧ s' = (⟨[], [], 26⟩ : TS)) h6 rfl (fun t13_0 x hx => ?_) (fun e s' hs => ?_)
  ·clear H
   have H := hx
   clear hx
   unfold g_law_sameRow_l0 at H
   refine sg [0] rfl ?_
   refine rp rfl rfl (p_bin rfl rfl rfl rfl) ?_
   refine rz [(0, .p ((fun q : List GValue => AV.lst (q.flatMap GValue.cs) q.length) a0)), (1, .p ((fun q : List GValue => AV.lst (q.flatMap GValue.cs) q.length) b1)), (12, .i (a0.length : Int)), (13, .i t13_0), (14, .b (decide (t13_0 < (a0.length : Int))))] [] rfl rfl rfl ?_
   refine AW2_seq ?_
   refine AW2_if (p := t13_0 < (a0.length : Int)) rfl (fun h2 => ?_) (fun h2 => ?_)
   ·replace H := ite_then h2 H
    refine as2 [(0, .p ((fun q : List GValue => AV.lst (q.flatMap GValue.cs) q.length) a0)), (1, .p ((fun q : List GValue => AV.lst (q.flatMap GValue.cs) q.length) b1)), (12, .i (a0.length : Int)), (13, .i t13_0)] [] rfl rfl rfl ?_
    refine AW2_skip ?_
    refine AW2_seq ?_
    refine AW2_block ?_
    refine sg [0, 1] rfl ?_
    refine rp rfl rfl (p_move rfl rfl) ?_
    refine rp rfl rfl (p_asg rfl rfl) ?_
    refine rz [(0, .p ((fun q : List GValue => AV.lst (q.flatMap GValue.cs) q.length) a0)), (1, .p ((fun q : List GValue => AV.lst (q.flatMap GValue.cs) q.length) b1)), (5, .i t13_0), (12, .i (a0.length : Int)), (13, .i t13_0)] [] rfl rfl rfl ?_
    refine AW2_seq ?_
    refine chkK H fun h3 H => ?_
    refine chkK H fun h4 H => ?_
    refine AW2_ghoQ ?_
    refine AW2_draw 8 [8] (fun k => ([.p ((fun q : List GValue => AV.lst (q.flatMap GValue.cs) q.length) a0), .i t13_0, .p (.rptr (a0.flatMap GValue.cs) (t13_0.toNat * 4)), .g (GValue.cs (lrd a0 t13_0.toNat)), .p ((fun q : List GValue => AV.lst (q.flatMap GValue.cs) q.length) b1), .i t13_0, .p (.rptr (b1.flatMap GValue.cs) (t13_0.toNat * 4)), .g (GValue.cs (lrd b1 t13_0.toNat))] : List TV).getD k TV.any) (fun k => g_law_sameRow_r6.getD k []) [(0, none), (1, none), (12, none), (13, none), (19, some 3), (23, some 7)] [] (fun k => g_law_sameRow_r6c.getD k []) mixed (by kernel_rfl) rfl rfl (a_op (g_x rfl (x_p rfl (p_move rfl rfl) rfl)) (a_op (g_x rfl (x_p rfl (p_move rfl rfl) rfl)) (a_op (g_x rfl (x_p rfl (u_ixl rfl rfl Tryd.underlying38 in_29 rfl rfl (ixe h3) (ixn h3) (fne (fun x => (GValue.len x)) (by decide) (ixn h3))) rfl)) (a_op (g_x rfl (x_p rfl (u_lda rfl rfl Tryd.underlying29 rfl in_29 rfl (Nat.succ_pos _) (Sub.fm default (fun x => (GValue.len x)) (ixn h3)) (GValue.len (lrd a0 t13_0.toNat))) rfl)) (a_op (g_x rfl (x_p rfl (p_move rfl rfl) rfl)) (a_op (g_x rfl (x_p rfl (p_move rfl rfl) rfl)) (a_op (g_x rfl (x_p rfl (u_ixl rfl rfl Tryd.underlying38 in_29 rfl rfl (ixe h4) (ixn h4) (fne (fun x => (GValue.len x)) (by decide) (ixn h4))) rfl)) (a_op (g_x rfl (x_p rfl (u_lda rfl rfl Tryd.underlying29 rfl in_29 rfl (Nat.succ_pos _) (Sub.fm default (fun x => (GValue.len x)) (ixn h4)) (GValue.len (lrd b1 t13_0.toNat))) rfl)) (a_nil))))))))) ?_
    refine t_op rfl rfl (PureD.opD (p_nea (a := (lrd a0 t13_0.toNat)) (b := (lrd b1 t13_0.toNat)) rfl eq_29 rfl (by kernel_rfl) rfl rfl)) ?_
    refine t_gho (Gho_st (L := [(0, .p ((fun q : List GValue => AV.lst (q.flatMap GValue.cs) q.length) a0)), (1, .p ((fun q : List GValue => AV.lst (q.flatMap GValue.cs) q.length) b1)), (12, .i (a0.length : Int)), (13, .i t13_0), (24, .b (decide ((lrd a0 t13_0.toNat) ≠ (lrd b1 t13_0.toNat))))]) (H := []) (N := 26) rfl ⟨TLes.same _, TLes.same _, TLes.same _, TLes.same _, TLes.same _, trivial⟩ trivial) ?_
    refine AW2_if (p := (lrd a0 t13_0.toNat) ≠ (lrd b1 t13_0.toNat)) rfl (fun h5 => ?_) (fun h5 => ?_)
    ·replace H := ite_then h5 H
     refine sg [0] rfl ?_
     refine rp rfl rfl (p_asg rfl rfl) ?_
     refine rz [(4, .b false)] [] rfl rfl rfl ?_
     refine AW2_ret ?_
     have hz := some_elim H
     subst hz
     exact ⟨rfl, ⟨res_tmp (.same _), trivial⟩, trivial⟩
    ·replace H := ite_else h5 H
     refine as2 [(0, .p ((fun q : List GValue => AV.lst (q.flatMap GValue.cs) q.length) a0)), (1, .p ((fun q : List GValue => AV.lst (q.flatMap GValue.cs) q.length) b1)), (12, .i (a0.length : Int)), (13, .i t13_0)] [] rfl rfl rfl ?_
     refine AW2_skip ?_
     refine AW2_reg [0, 1] rfl ?_
     refine rp rfl rfl (p_bin rfl rfl rfl rfl) ?_
     refine rp rfl rfl (p_move rfl rfl) ?_
     refine rz [(0, .p ((fun q : List GValue => AV.lst (q.flatMap GValue.cs) q.length) a0)), (1, .p ((fun q : List GValue => AV.lst (q.flatMap GValue.cs) q.length) b1)), (12, .i (a0.length : Int)), (13, .i (w64 (t13_0 + (1 : Int))))] [] rfl rfl rfl ?_
     have hz := some_elim H
     subst hz
     exact ⟨rfl, rfl⟩
   ·replace H := ite_else h2 H
    refine as2 [] [] rfl rfl rfl ?_
    refine AW2_exit ?_
    refine thenQ2_exit ?_
    have hz := some_elim H
    subst hz
    exact ⟨rfl, rfl⟩
  ·rcases o'4 with y'5 | y'6
   ·obtain ⟨rfl, hs⟩ := hs
    refine ⟨by simp, ?_⟩
    have hz := some_elim H
    subst hz
    exact ⟨hs.1, hs.2⟩
   ·obtain ⟨rfl, rfl⟩ := hs
    refine ⟨by simp, ?_⟩
    refine blockQ2_exit ?_
    refine sg [0] rfl ?_
    refine rp rfl rfl (p_asg rfl rfl) ?_
    refine rz [(4, .b true)] [] rfl rfl rfl ?_
    refine AW2_ret ?_
    have hz := some_elim H
    subst hz
    exact ⟨⟨res_tmp (.same _), trivial⟩, trivial⟩

/-! chirographlaw.sameTable -/
def g_law_sameTable_r9 : List (List (Nat × Option Nat)) := [[(5, none)], [(6, none)], [(2, none)], [(35, some 0), (37, some 2)], [(36, some 1), (38, some 3)], [(39, some 4)], [(5, none)], [(6, none)], [(3, none)], [(41, some 6), (43, some 8)], [(42, some 7), (44, some 9)], [(45, some 10)], [], [], [(7, some 12), (40, some 5)]]
def g_law_sameTable_r9c : List (List Nat) := [[], [], [], [0, 2], [0, 1, 2, 3], [0, 1, 2, 3, 4], [], [], [], [6, 8], [6, 7, 8, 9], [6, 7, 8, 9, 10], [], [], [0, 1, 2, 3, 4, 5, 12, 13], [0, 1, 2, 3, 4, 5, 6, 7, 8, 9, 10, 11, 12, 13, 14]]
noncomputable def g_law_sameTable_l1 (a0 : GTable) (b1 : GTable) (t29_0 : Int) : Int → Option (Int ⊕ (Bool ⊕ Unit))
  | t32_1 => (if t32_1 < (4 : Int) then if 0 ≤ t29_0 ∧ t29_0 < (2 : Int) then if 0 ≤ t32_1 ∧ t32_1 < (4 : Int) then if 0 ≤ t29_0 ∧ t29_0 < (2 : Int) then if 0 ≤ t32_1 ∧ t32_1 < (4 : Int) then ((if ((vrd (vrd a0.Drawers t29_0.toNat) t32_1.toNat).Full) ≠ ((vrd (vrd b1.Drawers t29_0.toNat) t32_1.toNat).Full) then some true else (g_law_sameRow ((vrd (vrd a0.Drawers t29_0.toNat) t32_1.toNat).Row) ((vrd (vrd b1.Drawers t29_0.toNat) t32_1.toNat).Row)).bind fun r'5 => some (!r'5))).bind fun g'6 => (if g'6 = true then some (.inr (.inl false)) else some (.inl (w64 (t32_1 + (1 : Int))))) else none else none else none else none else some (.inr (.inr ())))
noncomputable def g_law_sameTable_l0 (a0 : GTable) (b1 : GTable) : Int → Option (Int ⊕ (Bool ⊕ Unit))
  | t29_0 => (if t29_0 < (2 : Int) then (loopO (g_law_sameTable_l1 a0 b1 t29_0) (0 : Int)).bind fun o'10 => match o'10 with | .inl y'11 => some (.inr (.inl y'11)) | .inr (y'12) => some (.inl (w64 (t29_0 + (1 : Int)))) else some (.inr (.inr ())))
noncomputable def g_law_sameTable (a0 : GTable) (b1 : GTable) : Option (Bool) :=
  ((if a0.There ≠ b1.There then some true else (if a0.Name ≠ b1.Name then some true else (g_law_sameColumns a0.Cols b1.Cols).bind fun r'2 => some (!r'2)))).bind fun g'3 => (if g'3 = true then some false else (loopO (g_law_sameTable_l0 a0 b1) (0 : Int)).bind fun o'16 => match o'16 with | .inl y'17 => some y'17 | .inr (y'18) => some true)
set_option maxHeartbeats 4000000 in
set_option maxRecDepth 100000 in
theorem g_law_sameTable_ac {a0 : GTable} {b1 : GTable} {r : Bool} (H : g_law_sameTable a0 b1 = some r) : ACp Tryd.prog 25 [(.agg (GTable.cs a0)), (.agg (GTable.cs b1))] (AV.bool r) := by
 refine ACp_of (AC2_of_body (vs := [.b r]) Tryd.func25 rfl rfl (Nat.le_of_ble_eq_true rfl) rfl ?_) (fun _ => .same _)
 unfold g_law_sameTable at H
 refine as2 [(0, .g (GTable.cs a0)), (1, .g (GTable.cs b1))] [] rfl rfl rfl ?_
 refine sg [0, 1, 2] rfl ?_
 refine r_op rfl rfl (MakeD.opD (n_box 2 rfl rfl) rfl rfl rfl rfl) ?_
 refine r_op rfl rfl (MakeD.opD (n_box 3 rfl rfl) rfl rfl rfl rfl) ?_
 refine rp rfl rfl (p_asg rfl rfl) ?_
 refine rz [(2, .q 2 (0)), (3, .q 3 (0))] [(2, .pure (GTable.cs a0)), (3, .pure (GTable.cs b1))] rfl rfl rfl ?_
 refine AW2_seq ?_
 refine AW2_seq ?_
 refine bindK H fun g'3 h5 H => ?_
 refine AW2_mid (⟨[(2, .q 2 (0)), (3, .q 3 (0)), (28, .b g'3)], [(2, .pure (GTable.cs a0)), (3, .pure (GTable.cs b1))], 62⟩ : TS) ?_ ?_
 ·clear H
  have H := h5
  clear h5
  refine AW2_reg [0, 1, 2, 3, 4, 5, 6, 7, 8, 9, 10, 11, 12, 13, 14, 15, 16, 17, 18, 19] rfl ?_
  refine rp rfl rfl (u_fa rfl rfl Tryd.underlying46 rfl in_4 (Nat.succ_ne_zero _) rfl rfl (ne_of_lt (n := 0) (Nat.lt_of_lt_of_eq (by decide) (Eq.symm (GTable.len a0))))) ?_
  refine rp rfl rfl (u_ld rfl rfl Tryd.underlying4 rfl rfl ((Sub.refl _).trans (GTable.sub0 a0))) ?_
  refine rp rfl rfl (u_fa rfl rfl Tryd.underlying46 rfl in_4 (Nat.succ_ne_zero _) rfl rfl (ne_of_lt (n := 0) (Nat.lt_of_lt_of_eq (by decide) (Eq.symm (GTable.len b1))))) ?_
  refine rp rfl rfl (u_ld rfl rfl Tryd.underlying4 rfl rfl ((Sub.refl _).trans (GTable.sub0 b1))) ?_
  refine rp rfl rfl (p_bnep rfl Tryd.underlying4 rfl rfl) ?_
  refine rp rfl rfl (p_move rfl rfl) ?_
  refine (Classical.em (a0.There ≠ b1.There)).elim (fun h2 => ?_) (fun h2 => ?_)
  ·replace H := ite_then h2 H
   refine r_off rfl rfl rfl rfl (decide_eq_true h2) rfl rfl ?_
   refine r_off rfl rfl rfl rfl (decide_eq_true h2) rfl rfl ?_
   refine r_off rfl rfl rfl rfl (decide_eq_true h2) rfl rfl ?_
   refine r_off rfl rfl rfl rfl (decide_eq_true h2) rfl rfl ?_
   refine r_off rfl rfl rfl rfl (decide_eq_true h2) rfl rfl ?_
   refine rp rfl rfl (p_pkt rfl rfl (decide_eq_true h2) (.same _)) ?_
   refine rp rfl rfl (p_move rfl rfl) ?_
   refine r_off rfl rfl rfl rfl rfl rfl rfl ?_
   refine r_off rfl rfl rfl rfl rfl rfl rfl ?_
   refine r_off rfl rfl rfl rfl rfl rfl rfl ?_
   refine r_off rfl rfl rfl rfl rfl rfl rfl ?_
   refine r_off rfl rfl rfl rfl rfl rfl rfl ?_
   refine r_off rfl rfl rfl rfl rfl rfl rfl ?_
   refine rp rfl rfl (p_pkt rfl rfl rfl (.same _)) ?_
   refine rs [(2, .q 2 (0)), (3, .q 3 (0)), (28, .b true)] [(2, .pure (GTable.cs a0)), (3, .pure (GTable.cs b1))] rfl rfl rfl ?_
   have hz := some_elim H
   subst hz
   exact RunW_nil rfl
  ·replace H := ite_else h2 H
   refine r_on rfl rfl rfl rfl (decide_eq_false h2) rfl (PureD.opD (u_fa rfl rfl Tryd.underlying46 rfl in_9 (Nat.succ_ne_zero _) rfl rfl (ne_of_lt (n := 0) (Nat.lt_of_lt_of_eq (by decide) (Eq.symm (GTable.len a0)))))) ?_
   refine r_on rfl rfl rfl rfl (decide_eq_false h2) rfl (PureD.opD (u_ld rfl rfl Tryd.underlying9 rfl rfl ((Sub.refl _).trans (GTable.sub1 a0)))) ?_
   refine r_on rfl rfl rfl rfl (decide_eq_false h2) rfl (PureD.opD (u_fa rfl rfl Tryd.underlying46 rfl in_9 (Nat.succ_ne_zero _) rfl rfl (ne_of_lt (n := 0) (Nat.lt_of_lt_of_eq (by decide) (Eq.symm (GTable.len b1)))))) ?_
   refine r_on rfl rfl rfl rfl (decide_eq_false h2) rfl (PureD.opD (u_ld rfl rfl Tryd.underlying9 rfl rfl ((Sub.refl _).trans (GTable.sub1 b1)))) ?_
   refine r_on rfl rfl rfl rfl (decide_eq_false h2) rfl (PureD.opD (p_sne rfl rfl rfl)) ?_
   refine rp rfl rfl (p_pkf rfl rfl (decide_eq_false h2) (.same _)) ?_
   refine rp rfl rfl (p_move rfl rfl) ?_
   refine (Classical.em (a0.Name ≠ b1.Name)).elim (fun h3 => ?_) (fun h3 => ?_)
   ·replace H := ite_then h3 H
    refine r_off rfl rfl rfl rfl (decide_eq_true h3) rfl rfl ?_
    refine r_off rfl rfl rfl rfl (decide_eq_true h3) rfl rfl ?_
    refine r_off rfl rfl rfl rfl (decide_eq_true h3) rfl rfl ?_
    refine r_off rfl rfl rfl rfl (decide_eq_true h3) rfl rfl ?_
    refine r_off rfl rfl rfl rfl (decide_eq_true h3) rfl rfl ?_
    refine r_off rfl rfl rfl rfl (decide_eq_true h3) rfl rfl ?_
    refine rp rfl rfl (p_pkt rfl rfl (decide_eq_true h3) (.same _)) ?_
    refine rs [(2, .q 2 (0)), (3, .q 3 (0)), (28, .b true)] [(2, .pure (GTable.cs a0)), (3, .pure (GTable.cs b1))] rfl rfl rfl ?_
    have hz := some_elim H
    subst hz
    exact RunW_nil rfl
   ·replace H := ite_else h3 H
    refine r_on rfl rfl rfl rfl (decide_eq_false h3) rfl (PureD.opD (u_fa rfl rfl Tryd.underlying46 rfl in_35 (Nat.succ_ne_zero _) rfl rfl (ne_of_lt (n := 0) (Nat.lt_of_lt_of_eq (by decide) (Eq.symm (GTable.len a0)))))) ?_
    refine r_on rfl rfl rfl rfl (decide_eq_false h3) rfl (PureD.opD (u_ld rfl rfl Tryd.underlying35 rfl rfl ((Sub.refl _).trans (GTable.sub2 a0)))) ?_
    refine r_on rfl rfl rfl rfl (decide_eq_false h3) rfl (PureD.opD (u_fa rfl rfl Tryd.underlying46 rfl in_35 (Nat.succ_ne_zero _) rfl rfl (ne_of_lt (n := 0) (Nat.lt_of_lt_of_eq (by decide) (Eq.symm (GTable.len b1)))))) ?_
    refine r_on rfl rfl rfl rfl (decide_eq_false h3) rfl (PureD.opD (u_ld rfl rfl Tryd.underlying35 rfl rfl ((Sub.refl _).trans (GTable.sub2 b1)))) ?_
    refine bindK H fun r'2 h4 H => ?_
    refine r_on rfl rfl rfl rfl (decide_eq_false h3) rfl (PureD.opD (p_callp rfl rfl rfl Tryd.func51 rfl rfl (g_law_sameColumns_ac h4) ⟨rfl, rfl, trivial⟩)) ?_
    refine r_on rfl rfl rfl rfl (decide_eq_false h3) rfl (PureD.opD (p_not rfl rfl)) ?_
    refine rp rfl rfl (p_pkf rfl rfl (decide_eq_false h3) (.same _)) ?_
    refine rs [(2, .q 2 (0)), (3, .q 3 (0)), (28, .b (!r'2))] [(2, .pure (GTable.cs a0)), (3, .pure (GTable.cs b1))] rfl rfl rfl ?_
    have hz := some_elim H
    subst hz
    exact RunW_nil rfl
 ·refine AW2_cond rfl (fun h6 => ?_) (fun h6 => ?_)
  ·replace H := ite_then h6 H
   refine sg [0] rfl ?_
   refine rp rfl rfl (p_asg rfl rfl) ?_
   refine rz [(4, .b false)] [] rfl rfl rfl ?_
   refine AW2_ret ?_
   have hz := some_elim H
   subst hz
   exact ⟨⟨res_tmp (.same _), trivial⟩, trivial⟩
  ·replace H := ite_else (ne_true h6) H
   refine as2 [(2, .q 2 (0)), (3, .q 3 (0))] [(2, .pure (GTable.cs a0)), (3, .pure (GTable.cs b1))] rfl rfl rfl ?_
   refine AW2_skip ?_
   refine AW2_seq ?_
   refine sg [0] rfl ?_
   refine rp rfl rfl (p_move rfl rfl) ?_
   refine rz [(2, .q 2 (0)), (3, .q 3 (0)), (29, .i (0 : Int))] [(2, .pure (GTable.cs a0)), (3, .pure (GTable.cs b1))] rfl rfl rfl ?_
   refine AW2_block ?_
   refine as2 [(2, .q 2 (0)), (3, .q 3 (0)), (29, .i (0 : Int))] [(2, .pure (GTable.cs a0)), (3, .pure (GTable.cs b1))] rfl rfl rfl ?_
   refine bindK H fun o'16 h20 H => ?_
   refine AW2_loopO (fun a'13 : Int => (⟨[(2, .q 2 (0)), (3, .q 3 (0)), (29, .i a'13)], [(2, .pure (GTable.cs a0)), (3, .pure (GTable.cs b1))], 62⟩ : TS)) (fun (o : Bool ⊕ Unit) e s' => match o with | .inl y'14 => e = Go.Exit.ret ∧ ResAll Tryd.prog s' [ResultVar.tmp 4] [.b y'14] ∧ HFits s' [] | .inr (y'15) => e = Go.Exit.exit 0 ∧ s' = (⟨[], [], 62⟩ : TS)) h20 rfl (fun t29_0 x hx => ?_) (fun e s' hs => ?_)
   ·clear H
    have H := hx
    clear hx
    unfold g_law_sameTable_l0 at H
    refine sg [0] rfl ?_
    refine rp rfl rfl (p_bin rfl rfl rfl rfl) ?_
    refine rz [(2, .q 2 (0)), (3, .q 3 (0)), (29, .i t29_0), (30, .b (decide (t29_0 < (2 : Int))))] [(2, .pure (GTable.cs a0)), (3, .pure (GTable.cs b1))] rfl rfl rfl ?_
    refine AW2_seq ?_
    refine AW2_if (p := t29_0 < (2 : Int)) rfl (fun h7 => ?_) (fun h7 => ?_)
    ·replace H := ite_then h7 H
     refine as2 [(2, .q 2 (0)), (3, .q 3 (0)), (29, .i t29_0)] [(2, .pure (GTable.cs a0)), (3, .pure (GTable.cs b1))] rfl rfl rfl ?_
     refine AW2_skip ?_
     refine AW2_seq ?_
     refine AW2_block ?_
     refine sg [0, 1] rfl ?_
     refine rp rfl rfl (p_move rfl rfl) ?_
     refine rp rfl rfl (p_asg rfl rfl) ?_
     refine rz [(2, .q 2 (0)), (3, .q 3 (0)), (5, .i t29_0), (29, .i t29_0)] [(2, .pure (GTable.cs a0)), (3, .pure (GTable.cs b1))] rfl rfl rfl ?_
     refine sg [0] rfl ?_
     refine rp rfl rfl (p_move rfl rfl) ?_
     refine rz [(2, .q 2 (0)), (3, .q 3 (0)), (5, .i t29_0), (29, .i t29_0), (32, .i (0 : Int))] [(2, .pure (GTable.cs a0)), (3, .pure (GTable.cs b1))] rfl rfl rfl ?_
     refine AW2_block ?_
     refine as2 [(2, .q 2 (0)), (3, .q 3 (0)), (5, .i t29_0), (29, .i t29_0), (32, .i (0 : Int))] [(2, .pure (GTable.cs a0)), (3, .pure (GTable.cs b1))] rfl rfl rfl ?_
     refine bindK H fun o'10 h19 H => ?_
     refine AW2_loopO (fun a'7 : Int => (⟨[(2, .q 2 (0)), (3, .q 3 (0)), (5, .i t29_0), (29, .i t29_0), (32, .i a'7)], [(2, .pure (GTable.cs a0)), (3, .pure (GTable.cs b1))], 62⟩ : TS)) (fun (o : Bool ⊕ Unit) e s' => match o with | .inl y'8 => e = Go.Exit.ret ∧ ResAll Tryd.prog s' [ResultVar.tmp 4] [.b y'8] ∧ HFits s' [] | .inr (y'9) => e = Go.Exit.exit 2 ∧ s' = (⟨[(2, .q 2 (0)), (3, .q 3 (0)), (29, .i t29_0)], [(2, .pure (GTable.cs a0)), (3, .pure (GTable.cs b1))], 62⟩ : TS)) h19 rfl (fun t32_1 x hx => ?_) (fun e s' hs => ?_)
     ·clear H
      have H := hx
      clear hx
      unfold g_law_sameTable_l1 at H
      refine sg [0] rfl ?_
      refine rp rfl rfl (p_bin rfl rfl rfl rfl) ?_
      refine rz [(2, .q 2 (0)), (3, .q 3 (0)), (5, .i t29_0), (29, .i t29_0), (32, .i t32_1), (33, .b (decide (t32_1 < (4 : Int))))] [(2, .pure (GTable.cs a0)), (3, .pure (GTable.cs b1))] rfl rfl rfl ?_
      refine AW2_seq ?_
      refine AW2_if (p := t32_1 < (4 : Int)) rfl (fun h8 => ?_) (fun h8 => ?_)
      ·replace H := ite_then h8 H
       refine as2 [(2, .q 2 (0)), (3, .q 3 (0)), (5, .i t29_0), (29, .i t29_0), (32, .i t32_1)] [(2, .pure (GTable.cs a0)), (3, .pure (GTable.cs b1))] rfl rfl rfl ?_
       refine AW2_skip ?_
       refine AW2_seq ?_
       refine AW2_block ?_
       refine sg [0, 1] rfl ?_
       refine rp rfl rfl (p_move rfl rfl) ?_
       refine rp rfl rfl (p_asg rfl rfl) ?_
       refine rz [(2, .q 2 (0)), (3, .q 3 (0)), (5, .i t29_0), (6, .i t32_1), (29, .i t29_0), (32, .i t32_1)] [(2, .pure (GTable.cs a0)), (3, .pure (GTable.cs b1))] rfl rfl rfl ?_
       refine AW2_seq ?_
       refine chkK H fun h9 H => ?_
       refine chkK H fun h10 H => ?_
       refine chkK H fun h11 H => ?_
       refine chkK H fun h12 H => ?_
       refine AW2_ghoQ ?_
       refine AW2_drawU 15 [15] (fun k => ([.i t29_0, .i t32_1, .q 2 (0 + 3), .q 2 (0 + 3 + t29_0.toNat * 8), .q 2 (0 + 3 + t29_0.toNat * 8 + t32_1.toNat * 2), .g (GCell.cs (vrd (vrd a0.Drawers t29_0.toNat) t32_1.toNat)), .i t29_0, .i t32_1, .q 3 (0 + 3), .q 3 (0 + 3 + t29_0.toNat * 8), .q 3 (0 + 3 + t29_0.toNat * 8 + t32_1.toNat * 2), .g (GCell.cs (vrd (vrd b1.Drawers t29_0.toNat) t32_1.toNat)), .q 7 (0), .q 8 (0), .p (.tup [])] : List TV).getD k TV.any) (fun k => g_law_sameTable_r9.getD k []) [(2, none), (3, none), (5, none), (7, some 12), (8, some 13), (29, none), (32, none), (46, some 11)] [(12, 7, (GCell.cs GCell.zero)), (13, 8, (GCell.cs GCell.zero))] [(14, 7, .pure (GCell.cs (vrd (vrd a0.Drawers t29_0.toNat) t32_1.toNat)))] [] (fun k => ([[], [], [(2, false)], [(2, false)], [(2, false)], [(2, false)], [], [], [(3, false)], [(3, false)], [(3, false)], [(3, false)], [], [], [(7, false)]] : List (List (Nat × Bool))).getD k []) (fun k => g_law_sameTable_r9c.getD k []) mixed (by kernel_rfl) rfl rfl rfl (a_op (gu_x rfl (y_p rfl rfl (p_move rfl rfl) rfl)) (a_op (gu_x rfl (y_p rfl rfl (p_move rfl rfl) rfl)) (a_op (gu_x rfl (y_p rfl rfl (u_fa rfl rfl Tryd.underlying46 rfl in_44 (Nat.succ_ne_zero _) rfl rfl (ne_of_lt (n := 0) (Nat.lt_of_lt_of_eq (by decide) (Eq.symm (GTable.len a0))))) rfl)) (a_op (gu_x rfl (y_p rfl rfl (u_ixp rfl rfl Tryd.underlying44 in_43 rfl rfl (ne_of_lt (n := 0) (Nat.lt_of_lt_of_eq (by decide) (Eq.symm (GTable.len a0)))) rfl (ixe h9) (ixn h9)) rfl)) (a_op (gu_x rfl (y_p rfl rfl (u_ixp rfl rfl Tryd.underlying43 in_42 rfl rfl (ne_of_lt (n := 0) (Nat.lt_of_lt_of_eq (by decide) (Eq.symm (GTable.len a0)))) rfl (ixe h10) (ixn h10)) rfl)) (a_op (gu_x rfl (y_p rfl rfl (u_lda rfl rfl Tryd.underlying42 rfl in_42 rfl (Nat.succ_pos _) ((((Sub.refl _).trans (GTable.sub3 a0)).trans (Sub.vfm (fun x => (vfm_len (fun x => (GCell.len x)) x)) (ixn h9))).trans (Sub.vfm (fun x => (GCell.len x)) (ixn h10))) (GCell.len (vrd (vrd a0.Drawers t29_0.toNat) t32_1.toNat))) rfl)) (a_op (gu_x rfl (y_p rfl rfl (p_move rfl rfl) rfl)) (a_op (gu_x rfl (y_p rfl rfl (p_move rfl rfl) rfl)) (a_op (gu_x rfl (y_p rfl rfl (u_fa rfl rfl Tryd.underlying46 rfl in_44 (Nat.succ_ne_zero _) rfl rfl (ne_of_lt (n := 0) (Nat.lt_of_lt_of_eq (by decide) (Eq.symm (GTable.len b1))))) rfl)) (a_op (gu_x rfl (y_p rfl rfl (u_ixp rfl rfl Tryd.underlying44 in_43 rfl rfl (ne_of_lt (n := 0) (Nat.lt_of_lt_of_eq (by decide) (Eq.symm (GTable.len b1)))) rfl (ixe h11) (ixn h11)) rfl)) (a_op (gu_x rfl (y_p rfl rfl (u_ixp rfl rfl Tryd.underlying43 in_42 rfl rfl (ne_of_lt (n := 0) (Nat.lt_of_lt_of_eq (by decide) (Eq.symm (GTable.len b1)))) rfl (ixe h12) (ixn h12)) rfl)) (a_op (gu_x rfl (y_p rfl rfl (u_lda rfl rfl Tryd.underlying42 rfl in_42 rfl (Nat.succ_pos _) ((((Sub.refl _).trans (GTable.sub3 b1)).trans (Sub.vfm (fun x => (vfm_len (fun x => (GCell.len x)) x)) (ixn h11))).trans (Sub.vfm (fun x => (GCell.len x)) (ixn h12))) (GCell.len (vrd (vrd b1.Drawers t29_0.toNat) t32_1.toNat))) rfl)) (a_op (gu_x rfl (y_m rfl rfl (u_alloc 7 rfl in_42 one_42 zc_42) rfl rfl)) (a_op (gu_x rfl (y_m rfl rfl (u_alloc 8 rfl in_42 one_42 zc_42) rfl rfl)) (a_op (gu_x rfl (y_u rfl rfl rfl rfl (UpdD_st rfl rfl rfl rfl rfl in_42 (GCell.len (vrd (vrd a0.Drawers t29_0.toNat) t32_1.toNat)) (ne_of_lt (n := 0) (Nat.lt_of_lt_of_eq (by decide) (Eq.symm (GCell.len GCell.zero)))) (Upd.refl ((GCell.len (vrd (vrd a0.Drawers t29_0.toNat) t32_1.toNat)).trans (GCell.len GCell.zero).symm))) rfl rfl)) (a_nil)))))))))))))))) ?_
       refine t_op rfl rfl (u_st rfl rfl rfl rfl rfl in_42 (GCell.len (vrd (vrd b1.Drawers t29_0.toNat) t32_1.toNat)) (ne_of_lt (n := 0) (Nat.lt_of_lt_of_eq (by decide) (Eq.symm (GCell.len GCell.zero)))) (Upd.refl ((GCell.len (vrd (vrd b1.Drawers t29_0.toNat) t32_1.toNat)).trans (GCell.len GCell.zero).symm))) ?_
       refine t_gho (Gho_st (L := [(2, .q 2 (0)), (3, .q 3 (0)), (5, .i t29_0), (7, .q 7 (0)), (8, .q 8 (0)), (29, .i t29_0), (32, .i t32_1)]) (H := [(2, .pure (GTable.cs a0)), (3, .pure (GTable.cs b1)), (7, .pure (GCell.cs (vrd (vrd a0.Drawers t29_0.toNat) t32_1.toNat))), (8, .pure (GCell.cs (vrd (vrd b1.Drawers t29_0.toNat) t32_1.toNat)))]) (N := 62) rfl ⟨TLes.same _, TLes.same _, TLes.same _, TLes.same _, TLes.same _, TLes.same _, TLes.same _, trivial⟩ ⟨rfl, rfl, rfl, rfl, trivial⟩) ?_
       refine AW2_seq ?_
       refine bindK H fun g'6 h16 H => ?_
       refine AW2_mid (⟨[(2, .q 2 (0)), (3, .q 3 (0)), (5, .i t29_0), (29, .i t29_0), (32, .i t32_1), (59, .b g'6)], [(2, .pure (GTable.cs a0)), (3, .pure (GTable.cs b1))], 62⟩ : TS) ?_ ?_
       ·clear H
        have H := h16
        clear h16
        refine AW2_reg [0, 1, 2, 3, 4, 5, 6, 7, 8, 9, 10, 11, 12] rfl ?_
        refine rp rfl rfl (u_fa rfl rfl Tryd.underlying42 rfl in_4 (Nat.succ_ne_zero _) rfl rfl (ne_of_lt (n := 0) (Nat.lt_of_lt_of_eq (by decide) (Eq.symm (GCell.len (vrd (vrd a0.Drawers t29_0.toNat) t32_1.toNat)))))) ?_
        refine rp rfl rfl (u_ld rfl rfl Tryd.underlying4 rfl rfl ((Sub.refl _).trans (GCell.sub0 (vrd (vrd a0.Drawers t29_0.toNat) t32_1.toNat)))) ?_
        refine rp rfl rfl (u_fa rfl rfl Tryd.underlying42 rfl in_4 (Nat.succ_ne_zero _) rfl rfl (ne_of_lt (n := 0) (Nat.lt_of_lt_of_eq (by decide) (Eq.symm (GCell.len (vrd (vrd b1.Drawers t29_0.toNat) t32_1.toNat)))))) ?_
        refine rp rfl rfl (u_ld rfl rfl Tryd.underlying4 rfl rfl ((Sub.refl _).trans (GCell.sub0 (vrd (vrd b1.Drawers t29_0.toNat) t32_1.toNat)))) ?_
        refine rp rfl rfl (p_bnep rfl Tryd.underlying4 rfl rfl) ?_
        refine rp rfl rfl (p_move rfl rfl) ?_
        refine (Classical.em (((vrd (vrd a0.Drawers t29_0.toNat) t32_1.toNat).Full) ≠ ((vrd (vrd b1.Drawers t29_0.toNat) t32_1.toNat).Full))).elim (fun h14 => ?_) (fun h14 => ?_)
        ·replace H := ite_then h14 H
         refine r_off rfl rfl rfl rfl (decide_eq_true h14) rfl rfl ?_
         refine r_off rfl rfl rfl rfl (decide_eq_true h14) rfl rfl ?_
         refine r_off rfl rfl rfl rfl (decide_eq_true h14) rfl rfl ?_
         refine r_off rfl rfl rfl rfl (decide_eq_true h14) rfl rfl ?_
         refine r_off rfl rfl rfl rfl (decide_eq_true h14) rfl rfl ?_
         refine r_off rfl rfl rfl rfl (decide_eq_true h14) rfl rfl ?_
         refine rp rfl rfl (p_pkt rfl rfl (decide_eq_true h14) (.same _)) ?_
         refine rs [(2, .q 2 (0)), (3, .q 3 (0)), (5, .i t29_0), (29, .i t29_0), (32, .i t32_1), (59, .b true)] [(2, .pure (GTable.cs a0)), (3, .pure (GTable.cs b1))] rfl rfl rfl ?_
         have hz := some_elim H
         subst hz
         exact RunW_nil rfl
        ·replace H := ite_else h14 H
         refine r_on rfl rfl rfl rfl (decide_eq_false h14) rfl (PureD.opD (u_fa rfl rfl Tryd.underlying42 rfl in_38 (Nat.succ_ne_zero _) rfl rfl (ne_of_lt (n := 0) (Nat.lt_of_lt_of_eq (by decide) (Eq.symm (GCell.len (vrd (vrd a0.Drawers t29_0.toNat) t32_1.toNat))))))) ?_
         refine r_on rfl rfl rfl rfl (decide_eq_false h14) rfl (PureD.opD (u_ld rfl rfl Tryd.underlying38 rfl rfl ((Sub.refl _).trans (GCell.sub1 (vrd (vrd a0.Drawers t29_0.toNat) t32_1.toNat))))) ?_
         refine r_on rfl rfl rfl rfl (decide_eq_false h14) rfl (PureD.opD (u_fa rfl rfl Tryd.underlying42 rfl in_38 (Nat.succ_ne_zero _) rfl rfl (ne_of_lt (n := 0) (Nat.lt_of_lt_of_eq (by decide) (Eq.symm (GCell.len (vrd (vrd b1.Drawers t29_0.toNat) t32_1.toNat))))))) ?_
         refine r_on rfl rfl rfl rfl (decide_eq_false h14) rfl (PureD.opD (u_ld rfl rfl Tryd.underlying38 rfl rfl ((Sub.refl _).trans (GCell.sub1 (vrd (vrd b1.Drawers t29_0.toNat) t32_1.toNat))))) ?_
         refine bindK H fun r'5 h15 H => ?_
         refine r_on rfl rfl rfl rfl (decide_eq_false h14) rfl (PureD.opD (p_callp rfl rfl rfl Tryd.func48 rfl rfl (g_law_sameRow_ac h15) ⟨rfl, rfl, trivial⟩)) ?_
         refine r_on rfl rfl rfl rfl (decide_eq_false h14) rfl (PureD.opD (p_not rfl rfl)) ?_
         refine rp rfl rfl (p_pkf rfl rfl (decide_eq_false h14) (.same _)) ?_
         refine rs [(2, .q 2 (0)), (3, .q 3 (0)), (5, .i t29_0), (29, .i t29_0), (32, .i t32_1), (59, .b (!r'5))] [(2, .pure (GTable.cs a0)), (3, .pure (GTable.cs b1))] rfl rfl rfl ?_
         have hz := some_elim H
         subst hz
         exact RunW_nil rfl
       ·refine AW2_cond rfl (fun h17 => ?_) (fun h17 => ?_)
        ·replace H := ite_then h17 H
         refine sg [0] rfl ?_
         refine rp rfl rfl (p_asg rfl rfl) ?_
         refine rz [(4, .b false)] [] rfl rfl rfl ?_
         refine AW2_ret ?_
         have hz := some_elim H
         subst hz
         exact ⟨rfl, ⟨res_tmp (.same _), trivial⟩, trivial⟩
        ·replace H := ite_else (ne_true h17) H
         refine as2 [(2, .q 2 (0)), (3, .q 3 (0)), (5, .i t29_0), (29, .i t29_0), (32, .i t32_1)] [(2, .pure (GTable.cs a0)), (3, .pure (GTable.cs b1))] rfl rfl rfl ?_
         refine AW2_skip ?_
         refine AW2_reg [0, 1] rfl ?_
         refine rp rfl rfl (p_bin rfl rfl rfl rfl) ?_
         refine rp rfl rfl (p_move rfl rfl) ?_
         refine rz [(2, .q 2 (0)), (3, .q 3 (0)), (5, .i t29_0), (29, .i t29_0), (32, .i (w64 (t32_1 + (1 : Int))))] [(2, .pure (GTable.cs a0)), (3, .pure (GTable.cs b1))] rfl rfl rfl ?_
         have hz := some_elim H
         subst hz
         exact ⟨rfl, rfl⟩
      ·replace H := ite_else h8 H
       refine as2 [(2, .q 2 (0)), (3, .q 3 (0)), (29, .i t29_0)] [(2, .pure (GTable.cs a0)), (3, .pure (GTable.cs b1))] rfl rfl rfl ?_
       refine AW2_exit ?_
       refine thenQ2_exit ?_
       have hz := some_elim H
       subst hz
       exact ⟨rfl, rfl⟩
     ·rcases o'10 with y'11 | y'12
      ·obtain ⟨rfl, hs⟩ := hs
       refine ⟨by simp, ?_⟩
       have hz := some_elim H
       subst hz
       exact ⟨rfl, hs.1, hs.2⟩
      ·obtain ⟨rfl, rfl⟩ := hs
       refine ⟨by simp, ?_⟩
       refine blockQ2_exit ?_
       refine AW2_reg [0, 1] rfl ?_
       refine rp rfl rfl (p_bin rfl rfl rfl rfl) ?_
       refine rp rfl rfl (p_move rfl rfl) ?_
       refine rz [(2, .q 2 (0)), (3, .q 3 (0)), (29, .i (w64 (t29_0 + (1 : Int))))] [(2, .pure (GTable.cs a0)), (3, .pure (GTable.cs b1))] rfl rfl rfl ?_
       have hz := some_elim H
       subst hz
       exact ⟨rfl, rfl⟩
    ·replace H := ite_else h7 H
     refine as2 [] [] rfl rfl rfl ?_
     refine AW2_exit ?_
     refine thenQ2_exit ?_
     have hz := some_elim H
     subst hz
     exact ⟨rfl, rfl⟩
   ·rcases o'16 with y'17 | y'18
    ·obtain ⟨rfl, hs⟩ := hs
     refine ⟨by simp, ?_⟩
     have hz := some_elim H
     subst hz
     exact ⟨hs.1, hs.2⟩
    ·obtain ⟨rfl, rfl⟩ := hs
     refine ⟨by simp, ?_⟩
     refine blockQ2_exit ?_
     refine sg [0] rfl ?_
     refine rp rfl rfl (p_asg rfl rfl) ?_
     refine rz [(4, .b true)] [] rfl rfl rfl ?_
     refine AW2_ret ?_
     have hz := some_elim H
     subst hz
     exact ⟨⟨res_tmp (.same _), trivial⟩, trivial⟩
end Go.Proofs.YtalnmpfjgiecdaaDoor.VM
