/- Words and rules that the proof uses. -/
import Derived.Test.YthnkbagmaljjjaaDoorEv1
namespace Go.Proofs.YthnkbagmaljjjaaDoor.VM
open Go Go.RowKit
abbrev U72 := @Tryd.underlying72
noncomputable def g_ref_badReal (b0 : UInt64) : Option (Bool) :=
  some (decide ((b0 = (9223372036854775808 : UInt64)) ∨ ((18437736874454810624 : UInt64) < shl_u64 b0 1)))
set_option maxHeartbeats 4000000 in
set_option maxRecDepth 100000 in
theorem g_ref_badReal_ac {b0 : UInt64} {r : Bool} (H : g_ref_badReal b0 = some r) : ACp Tryd.prog 42 [(AV.u64 b0)] (AV.bool r) := by
 refine ACp_of (AC2_of_body (vs := [.b r]) Tryd.func42 Y Y (lb Y) Y ?_) (fun _ => .same _)
 unfold g_ref_badReal at H
 refine as2 [(0, .p (AV.u64 b0))] [] Y (sg [0] Y (ra Y (rz [(0, _)] [] Y (AW2_seq (AW2_mid (⟨[(2, .b (decide ((b0 = (9223372036854775808 : UInt64)) ∨ ((18437736874454810624 : UInt64) < shl_u64 b0 1))))], [], 10⟩ : TS) ?_ ?_)))))
 ·refine AW2_reg [0,1,2,3,4,5,6,7] Y (rm Y (rp Y (p_u64eq (a := b0) (b := (9223372036854775808 : UInt64)) Y Y Y) (rm Y ?_)))
  refine (Classical.em (b0 = (9223372036854775808 : UInt64))).elim (fun h1 => ?_) (fun h1 => ?_)
  ·exact rO Y (dT h1) Y (rO Y (dT h1) Y (rO Y (dT h1) Y (rp Y (p_pkt Y Y (dT h1) (tb (dT (p := (b0 = (9223372036854775808 : UInt64)) ∨ ((18437736874454810624 : UInt64) < shl_u64 b0 1)) (Or.inl h1)).symm)) (ra Y (rend Y Y)))))
  exact rn Y (dF h1) Y (p_move Y Y) (rn Y (dF h1) Y (p_u64shl (n := 1) Y Y Y Y) (rn Y (dF h1) Y (p_u64gt (a := shl_u64 b0 1) (b := (18437736874454810624 : UInt64)) Y Y Y) (rp Y (p_pkf Y Y (dF h1) (tb ((or_l (p := b0 = (9223372036854775808 : UInt64)) (q := (18437736874454810624 : UInt64) < shl_u64 b0 1) h1)))) (ra Y (rend Y Y)))))
 refine AW2_ret ?_
 obtain rfl := se H
 exact ⟨⟨rt, trivial⟩, trivial⟩
noncomputable def g_ref_ValueFault (v0 : GValue) : Option (Int) :=
  (show Option (Int ⊕ GValue) from (if v0.Kind = (0 : Int) then some (.inr ({ GValue.zero with Kind := v0.Kind })) else ((if v0.Kind = (1 : Int) then some (decide (v0.Kind = (1 : Int))) else some (decide (v0.Kind = (2 : Int))))).bind fun j'2 => (if j'2 = true then some (.inr ({ { GValue.zero with Kind := v0.Kind } with Int_ := v0.Int_ })) else (if v0.Kind = (3 : Int) then some (.inr ({ { GValue.zero with Kind := v0.Kind } with Bits := v0.Bits })) else (if v0.Kind = (4 : Int) then some (.inr ({ { GValue.zero with Kind := v0.Kind } with Text := v0.Text })) else some (.inl (2 : Int))))))).bind fun o'12 => match o'12 with | .inl y'3 => some y'3 | .inr j'1 => (if (v0.Text.length : Int) > (40 : Int) then some (1 : Int) else ((if v0 ≠ j'1 then some true else (if v0.Kind = (1 : Int) then (if (1 : UInt64) < UInt64.ofInt v0.Int_ then some true else (if v0.Kind = (3 : Int) then (g_ref_badReal v0.Bits).bind fun r'5 => (if r'5 = true then some true else (g_utf8_ValidString v0.Text).bind fun r'6 => some (!r'6)) else (g_utf8_ValidString v0.Text).bind fun r'7 => some (!r'7))) else (if v0.Kind = (3 : Int) then (g_ref_badReal v0.Bits).bind fun r'8 => (if r'8 = true then some true else (g_utf8_ValidString v0.Text).bind fun r'9 => some (!r'9)) else (g_utf8_ValidString v0.Text).bind fun r'10 => some (!r'10))))).bind fun g'11 => (if g'11 = true then some (3 : Int) else some (0 : Int)))
set_option maxHeartbeats 4000000 in
set_option maxRecDepth 100000 in
theorem g_ref_ValueFault_ac {v0 : GValue} {r : Int} (H : g_ref_ValueFault v0 = some r) : ACp Tryd.prog 32 [(.agg (GValue.cs v0))] (AV.int r) := by
 refine ACp_of (AC2_of_body (vs := [.i r]) Tryd.func32 Y Y (lb Y) Y ?_) (fun _ => .same _)
 unfold g_ref_ValueFault at H
 refine as2 [(0, .g (GValue.cs v0))] [] Y (sg [0,1] Y (rq Y (MakeD.opD (n_box 1 Y Y) Y Y Y Y) (ra Y (rz [(1, .q 1 (0))] [(1, .pure (GValue.cs v0))] Y (sg [0,1,2,3,4] Y (rf Y U24 Y in_3 Y Y (GValue.len v0) ?_))))))
 refine rp Y (u_ld Y Y U3 Y Y (GValue.sub0 v0)) (rp Y (u_bld Y in_24 one_24 zc_24 pl_24 Y (af_cons Y Y (GValue.upd0 GValue.zero v0.Kind) Y)) (rq Y (MakeD.opD (u_alloc 3 Y in_24 one_24 zc_24) Y Y Y Y) (rq Y (u_sw Y Y Y Y Y in_24 (GValue.len ((GValue.w0 GValue.zero v0.Kind))) (GValue.len GValue.zero) Y) (rz [(1, _), (3, .q 3 (0))] [(1, .pure (GValue.cs v0)), (3, .pure (GValue.cs ((GValue.w0 GValue.zero v0.Kind))))] Y (AW2_seq (bindK H fun o'12 h1 H => ?_))))))
 refine AW2_join (fun j'1 : GValue => (⟨[(1, .q 1 (0)), (3, .q 3 (0))], [(1, .pure (GValue.cs v0)), (3, .pure (GValue.cs j'1))], 61⟩ : TS)) (fun r e s' => e = Go.Exit.ret ∧ ResAll Tryd.prog s' [ResultVar.tmp 2] [.i r] ∧ HFits s' []) (x := o'12) ?_ (fun j'1 hy => ?_) (fun y'3 e s' hy hs => ?_)
 ·clear H
  have H := h1
  clear h1
  refine sg [0,1] Y (rf Y U24 Y in_3 Y Y (GValue.len v0) (rp Y (u_ld Y Y U3 Y Y (GValue.sub0 v0)) (rz [(1, .q 1 (0)), (3, .q 3 (0)), (8, .i v0.Kind)] [(1, .pure (GValue.cs v0)), (3, .pure (GValue.cs ((GValue.w0 GValue.zero v0.Kind))))] Y (AW2_block (sg [0,1] Y (rp Y (p_ieq Y Y Y) ?_))))))
  refine ra Y (rz [(1, _), (3, _), (8, _), (9, .b (decide (v0.Kind = (0 : Int))))] [(1, _), (3, _)] Y (if2 H Y (fun h2 H => ?_) (fun h2 H => ?_)))
  ·refine as2 [(1, _), (3, _)] [(1, _), (3, _)] Y (AW2_skip ?_)
   obtain rfl := se H
   exact ⟨Y, Y⟩
  refine AW2_seq (bindK H fun j'2 h3 H => AW2_mid (⟨[(1, .q 1 (0)), (3, .q 3 (0)), (8, .i v0.Kind), (11, .b j'2)], [(1, .pure (GValue.cs v0)), (3, .pure (GValue.cs ((GValue.w0 GValue.zero v0.Kind))))], 61⟩ : TS) ?_ ?_)
  ·clear H
   have H := h3
   clear h3
   refine sg [0,1] Y (rp Y (p_ieq Y Y Y) (ra Y (rz [(1, .q 1 (0)), (3, .q 3 (0)), (8, .i v0.Kind), (11, .b (decide (v0.Kind = (1 : Int))))] [(1, .pure (GValue.cs v0)), (3, .pure (GValue.cs ((GValue.w0 GValue.zero v0.Kind))))] Y (if2 H Y (fun h4 H => ?_) (fun h4 H => ?_)))))
   ·refine AW2_skip ?_
    obtain rfl := se H
    exact rfl
   refine AW2_reg [0,1] Y (rp Y (p_ieq Y Y Y) (ra Y (rz [(1, _), (3, _), (8, _), (11, .b (decide (v0.Kind = (2 : Int))))] [(1, _), (3, _)] Y ?_)))
   obtain rfl := se H
   exact rfl
  refine AW2_cond Y (fun h5 => ?_) (fun h5 => ?_)
  ·replace H := ite_then h5 H
   refine AW2_reg [0,1,2,3] Y (rf Y U24 Y in_3 Y Y (GValue.len v0) (rp Y (u_ld Y Y U3 Y Y (GValue.sub1 v0)) (rf Y U24 Y in_3 Y Y (GValue.len ((GValue.w0 GValue.zero v0.Kind))) (rq Y (u_st Y Y Y Y Y in_3 Y (nl (GValue.len ((GValue.w0 GValue.zero v0.Kind)))) (Upd.trans (Sub.refl _) (GValue.upd1 ((GValue.w0 GValue.zero v0.Kind)) v0.Int_) (Upd.refl ((GValue.len ((GValue.w1 (GValue.w0 GValue.zero v0.Kind) v0.Int_))).trans (GValue.len ((GValue.w0 GValue.zero v0.Kind))).symm)))) (rz [(1, .q 1 (0)), (3, .q 3 (0))] [(1, .pure (GValue.cs v0)), (3, .pure (GValue.cs ((GValue.w1 (GValue.w0 GValue.zero v0.Kind) v0.Int_))))] Y ?_)))))
   obtain rfl := se H
   exact ⟨Y, Y⟩
  replace H := ite_else (ne_true h5) H
  refine sg [0,1] Y (rp Y (p_ieq Y Y Y) (ra Y (rz [(1, .q 1 (0)), (3, .q 3 (0)), (8, .i v0.Kind), (17, .b (decide (v0.Kind = (3 : Int))))] [(1, .pure (GValue.cs v0)), (3, .pure (GValue.cs ((GValue.w0 GValue.zero v0.Kind))))] Y (if2 H Y (fun h6 H => ?_) (fun h6 H => ?_)))))
  ·refine AW2_reg [0,1,2,3] Y (rf Y U24 Y in_22 Y Y (GValue.len v0) (rp Y (u_ld Y Y U22 Y Y (GValue.sub2 v0)) (rf Y U24 Y in_22 Y Y (GValue.len ((GValue.w0 GValue.zero v0.Kind))) (rq Y (u_st Y Y Y Y Y in_22 Y (nl (GValue.len ((GValue.w0 GValue.zero v0.Kind)))) (Upd.trans (Sub.refl _) (GValue.upd2 ((GValue.w0 GValue.zero v0.Kind)) v0.Bits) (Upd.refl ((GValue.len ((GValue.w2 (GValue.w0 GValue.zero v0.Kind) v0.Bits))).trans (GValue.len ((GValue.w0 GValue.zero v0.Kind))).symm)))) (rz [(1, _), (3, _)] [(1, .pure (GValue.cs v0)), (3, .pure (GValue.cs ((GValue.w2 (GValue.w0 GValue.zero v0.Kind) v0.Bits))))] Y ?_)))))
   obtain rfl := se H
   exact ⟨Y, Y⟩
  refine sg [0,1] Y (rp Y (p_ieq Y Y Y) (ra Y (rz [(1, _), (3, _), (22, .b (decide (v0.Kind = (4 : Int))))] [(1, _), (3, _)] Y (if2 H Y (fun h7 H => ?_) (fun h7 H => ?_)))))
  ·refine AW2_reg [0,1,2,3] Y (rf Y U24 Y in_9 Y Y (GValue.len v0) (rp Y (u_ld Y Y U9 Y Y (GValue.sub3 v0)) (rf Y U24 Y in_9 Y Y (GValue.len ((GValue.w0 GValue.zero v0.Kind))) (rq Y (u_st Y Y Y Y Y in_9 Y (nl (GValue.len ((GValue.w0 GValue.zero v0.Kind)))) (Upd.trans (Sub.refl _) (GValue.upd3 ((GValue.w0 GValue.zero v0.Kind)) v0.Text) (Upd.refl ((GValue.len ((GValue.w3 (GValue.w0 GValue.zero v0.Kind) v0.Text))).trans (GValue.len ((GValue.w0 GValue.zero v0.Kind))).symm)))) (rz [(1, _), (3, _)] [(1, .pure (GValue.cs v0)), (3, .pure (GValue.cs ((GValue.w3 (GValue.w0 GValue.zero v0.Kind) v0.Text))))] Y ?_)))))
   obtain rfl := se H
   exact ⟨Y, Y⟩
  refine sg [0] Y (ra Y (rz [(2, .i (2 : Int))] [] Y (AW2_ret ?_)))
  obtain rfl := se H
  exact ⟨Y, ⟨rt, trivial⟩, trivial⟩
 ·subst hy
  refine AW2_seq (sg [0,1,2,3] Y (rf Y U24 Y in_9 Y Y (GValue.len v0) (rp Y (u_ld Y Y U9 Y Y (GValue.sub3 v0)) (rp Y (p_lent Y U9 Y) (rp Y (p_bin Y Y Y Y) (rz [(1, .q 1 (0)), (3, .q 3 (0)), (30, .b (decide ((v0.Text.length : Int) > (40 : Int))))] [(1, .pure (GValue.cs v0)), (3, .pure (GValue.cs j'1))] Y ?_))))))
  refine if2 H Y (fun h8 H => ?_) (fun h8 H => ?_)
  ·refine sg [0] Y (ra Y (rz [(2, .i (1 : Int))] [] Y (AW2_ret ?_)))
   obtain rfl := se H
   exact ⟨⟨rt, trivial⟩, trivial⟩
  refine as2 [(1, _), (3, _)] [(1, _), (3, _)] Y (AW2_skip (AW2_seq (AW2_seq (bindK H fun g'11 h23 H => AW2_mid (⟨[(60, .b g'11)], [], 61⟩ : TS) ?_ ?_))))
  ·clear H
   have H := h23
   clear h23
   refine AW2_reg [0,1,2,3,4,5,6,7,8,9,10,11,12,13,14,15,16,17,18,19,20,21,22,23,24,25,26,27,28,29] Y (rp Y (u_lda Y Y U24 Y in_24 Y np (Sub.refl _) (GValue.len v0)) (rp Y (u_lda Y Y U24 Y in_24 Y np (Sub.refl _) (GValue.len j'1)) (rp Y (p_nea (a := v0) (b := j'1) Y eq_24 Y (by kernel_rfl) Y Y) (rm Y (em2 H (fun h10 H => ?_) (fun h10 H => ?_))))))
   ·refine rO Y (dT h10) Y (rO Y (dT h10) Y (rO Y (dT h10) Y (rO Y (dT h10) Y (r_off2 Y Y Y Y Y Y (r_off2 Y Y Y Y Y Y (r_off2 Y Y Y Y Y Y ?_))))))
    refine r_off2 Y Y Y Y Y Y (rO Y (dT h10) Y (rp Y (p_pkt Y Y (dT h10) (.same _)) (rm Y (rO Y Y Y (rO Y Y Y (rO Y Y Y ?_))))))
    refine rO Y Y Y (r_off2 Y Y Y Y Y Y (r_off2 Y Y Y Y Y Y (r_off2 Y Y Y Y Y Y (rO Y Y Y (rp Y (p_pkt Y Y Y (.same _)) (rm Y ?_))))))
    refine rO Y Y Y (rO Y Y Y (rO Y Y Y (rO Y Y Y (rp Y (p_pkt Y Y Y (.same _)) (rs [(60, .b true)] [] Y ?_)))))
    obtain rfl := se H
    exact RunW_nil rfl
   refine rn Y (dF h10) Y (u_fa Y Y U24 Y in_3 nz Y Y (nl (GValue.len v0))) (rn Y (dF h10) Y (u_ld Y Y U3 Y Y (GValue.sub0 v0)) (rn Y (dF h10) Y (p_ieq Y Y Y) (rn Y (dF h10) Y (p_move Y Y) (em2 H (fun h11 H => ?_) (fun h11 H => ?_)))))
   ·refine rn Y (dT h11) Y (u_fa Y Y U24 Y in_3 nz Y Y (nl (GValue.len v0))) (rn Y (dT h11) Y (u_ld Y Y U3 Y Y (GValue.sub1 v0)) (rn Y (dT h11) Y (p_i_u64 Y U3 U72 Y) (rn Y (dT h11) Y (p_u64gt (a := UInt64.ofInt v0.Int_) (b := (1 : UInt64)) Y Y Y) (rn Y (dF h10) Y (p_pkt Y Y (dT h11) (.same _)) (rp Y (p_pkf Y Y (dF h10) (.same _)) (rm Y ?_))))))
    refine em2 H (fun h12 H => ?_) (fun h12 H => ?_)
    ·refine rO Y (dT h12) Y (rO Y (dT h12) Y (rO Y (dT h12) Y (rO Y (dT h12) Y (r_off2 Y Y Y Y Y Y (r_off2 Y Y Y Y Y Y (r_off2 Y Y Y Y Y Y ?_))))))
     refine rO Y (dT h12) Y (rp Y (p_pkt Y Y (dT h12) (.same _)) (rm Y (rO Y Y Y (rO Y Y Y (rO Y Y Y (rO Y Y Y ?_))))))
     refine rp Y (p_pkt Y Y Y (.same _)) (rs [(60, .b true)] [] Y ?_)
     obtain rfl := se H
     exact RunW_nil rfl
    refine rn Y (dF h12) Y (u_fa Y Y U24 Y in_3 nz Y Y (nl (GValue.len v0))) (rn Y (dF h12) Y (u_ld Y Y U3 Y Y (GValue.sub0 v0)) (rn Y (dF h12) Y (p_ieq Y Y Y) (rn Y (dF h12) Y (p_move Y Y) (em2 H (fun h13 H => ?_) (fun h13 H => ?_)))))
    ·refine rn Y (dT h13) Y (u_fa Y Y U24 Y in_22 nz Y Y (nl (GValue.len v0))) (rn Y (dT h13) Y (u_ld Y Y U22 Y Y (GValue.sub2 v0)) (bindK H fun r'5 h14 H => rn Y (dT h13) Y (p_callp Y Y Y Tryd.func42 Y Y (g_ref_badReal_ac h14) ⟨Y, trivial⟩) (rn Y (dF h12) Y (p_pkt Y Y (dT h13) (.same _)) (rp Y (p_pkf Y Y (dF h12) (.same _)) (rm Y ?_)))))
     refine em2 H (fun h15 H => ?_) (fun h15 H => ?_)
     ·refine rO Y h15 Y (rO Y h15 Y (rO Y h15 Y (rO Y h15 Y (rp Y (p_pkt Y Y h15 (.same _)) (rs [(60, .b true)] [] Y ?_)))))
      obtain rfl := se H
      exact RunW_nil rfl
     refine rn Y (bfalse h15) Y (u_fa Y Y U24 Y in_9 nz Y Y (nl (GValue.len v0))) (rn Y (bfalse h15) Y (u_ld Y Y U9 Y Y (GValue.sub3 v0)) (bindK H fun r'6 h16 H => rn Y (bfalse h15) Y (p_callp Y Y Y Tryd.func43 Y Y (g_utf8_ValidString_ac h16) ⟨Y, trivial⟩) (rn Y (bfalse h15) Y (p_not Y Y) (rp Y (p_pkf Y Y (bfalse h15) (.same _)) (rs [(60, .b (!r'6))] [] Y ?_)))))
     obtain rfl := se H
     exact RunW_nil rfl
    refine rO Y (dF h13) Y (rO Y (dF h13) Y (rO Y (dF h13) Y (rn Y (dF h12) Y (p_pkf Y Y (dF h13) (.same _)) (rp Y (p_pkf Y Y (dF h12) (.same _)) (rm Y (rn Y (bfalse (by decide)) Y (u_fa Y Y U24 Y in_9 nz Y Y (nl (GValue.len v0))) ?_))))))
    refine rn Y (bfalse (by decide)) Y (u_ld Y Y U9 Y Y (GValue.sub3 v0)) (bindK H fun r'7 h17 H => rn Y (bfalse (by decide)) Y (p_callp Y Y Y Tryd.func43 Y Y (g_utf8_ValidString_ac h17) ⟨Y, trivial⟩) (rn Y (bfalse (by decide)) Y (p_not Y Y) (rp Y (p_pkf Y Y (bfalse (by decide)) (.same _)) (rs [(60, .b (!r'7))] [] Y ?_))))
    obtain rfl := se H
    exact RunW_nil rfl
   refine rO Y (dF h11) Y (rO Y (dF h11) Y (rO Y (dF h11) Y (rO Y (dF h11) Y (rn Y (dF h10) Y (p_pkf Y Y (dF h11) (.same _)) (rp Y (p_pkf Y Y (dF h10) (.same _)) (rm Y ?_))))))
   refine rn Y (bfalse (by decide)) Y (u_fa Y Y U24 Y in_3 nz Y Y (nl (GValue.len v0))) (rn Y (bfalse (by decide)) Y (u_ld Y Y U3 Y Y (GValue.sub0 v0)) (rn Y (bfalse (by decide)) Y (p_ieq Y Y Y) (rn Y (bfalse (by decide)) Y (p_move Y Y) (em2 H (fun h18 H => ?_) (fun h18 H => ?_)))))
   ·refine rn Y (dT h18) Y (u_fa Y Y U24 Y in_22 nz Y Y (nl (GValue.len v0))) (rn Y (dT h18) Y (u_ld Y Y U22 Y Y (GValue.sub2 v0)) (bindK H fun r'8 h19 H => rn Y (dT h18) Y (p_callp Y Y Y Tryd.func42 Y Y (g_ref_badReal_ac h19) ⟨Y, trivial⟩) (rn Y (bfalse (by decide)) Y (p_pkt Y Y (dT h18) (.same _)) (rp Y (p_pkf Y Y (bfalse (by decide)) (.same _)) (rm Y ?_)))))
    refine em2 H (fun h20 H => ?_) (fun h20 H => ?_)
    ·refine rO Y h20 Y (rO Y h20 Y (rO Y h20 Y (rO Y h20 Y (rp Y (p_pkt Y Y h20 (.same _)) (rs [(60, .b true)] [] Y ?_)))))
     obtain rfl := se H
     exact RunW_nil rfl
    refine rn Y (bfalse h20) Y (u_fa Y Y U24 Y in_9 nz Y Y (nl (GValue.len v0))) (rn Y (bfalse h20) Y (u_ld Y Y U9 Y Y (GValue.sub3 v0)) (bindK H fun r'9 h21 H => rn Y (bfalse h20) Y (p_callp Y Y Y Tryd.func43 Y Y (g_utf8_ValidString_ac h21) ⟨Y, trivial⟩) (rn Y (bfalse h20) Y (p_not Y Y) (rp Y (p_pkf Y Y (bfalse h20) (.same _)) (rs [(60, .b (!r'9))] [] Y ?_)))))
    obtain rfl := se H
    exact RunW_nil rfl
   refine rO Y (dF h18) Y (rO Y (dF h18) Y (rO Y (dF h18) Y (rn Y (bfalse (by decide)) Y (p_pkf Y Y (dF h18) (.same _)) (rp Y (p_pkf Y Y (bfalse (by decide)) (.same _)) (rm Y (rn Y (bfalse (by decide)) Y (u_fa Y Y U24 Y in_9 nz Y Y (nl (GValue.len v0))) ?_))))))
   refine rn Y (bfalse (by decide)) Y (u_ld Y Y U9 Y Y (GValue.sub3 v0)) (bindK H fun r'10 h22 H => rn Y (bfalse (by decide)) Y (p_callp Y Y Y Tryd.func43 Y Y (g_utf8_ValidString_ac h22) ⟨Y, trivial⟩) (rn Y (bfalse (by decide)) Y (p_not Y Y) (rp Y (p_pkf Y Y (bfalse (by decide)) (.same _)) (rs [(60, .b (!r'10))] [] Y ?_))))
   obtain rfl := se H
   exact RunW_nil rfl
  refine AW2_cond Y (fun h24 => ?_) (fun h24 => ?_)
  ·replace H := ite_then h24 H
   refine sg [0] Y (ra Y (rz [(2, .i (3 : Int))] [] Y (AW2_ret ?_)))
   obtain rfl := se H
   exact ⟨⟨rt, trivial⟩, trivial⟩
  replace H := ite_else (ne_true h24) H
  refine as2 [] [] Y (AW2_skip (sg [0] Y (ra Y (rz [(2, .i (0 : Int))] [] Y (AW2_ret ?_)))))
  obtain rfl := se H
  exact ⟨⟨rt, trivial⟩, trivial⟩
 subst hy
 obtain ⟨rfl, hs⟩ := hs
 obtain rfl := se H
 exact ⟨hs.1, hs.2⟩
noncomputable def g_ref_among_l0 (c0 : UInt8) (l1 : List UInt8) : Int → Option (Int ⊕ (Bool ⊕ Unit))
  | i5_0 => (if i5_0 < (l1.length : Int) then if 0 ≤ i5_0 ∧ i5_0 < (l1.length : Int) then (if (lrd l1 i5_0.toNat) = c0 then some (.inr (.inl true)) else some (.inl (w64 (i5_0 + (1 : Int))))) else none else some (.inr (.inr ())))
noncomputable def g_ref_among (c0 : UInt8) (l1 : List UInt8) : Option (Bool) :=
  (loopO (g_ref_among_l0 c0 l1) (0 : Int)).bind fun o'4 => match o'4 with | .inl y'5 => some y'5 | .inr (y'6) => some false
set_option maxHeartbeats 4000000 in
set_option maxRecDepth 100000 in
theorem g_ref_among_ac {c0 : UInt8} {l1 : List UInt8} {r : Bool} (H : g_ref_among c0 l1 = some r) : ACp Tryd.prog 58 [(AV.b8 c0), (AV.txt l1)] (AV.bool r) := by
 refine ACp_of (AC2_of_body (vs := [.b r]) Tryd.func58 Y Y (lb Y) Y ?_) (fun _ => .same _)
 unfold g_ref_among at H
 refine as2 [(0, .p (AV.b8 c0)), (1, .t l1)] [] Y (sg [0] Y (ra Y (rz [(0, _), (1, _)] [] Y (AW2_seq (sg [0] Y (ra Y ?_))))))
 refine rz [(0, _), (1, _), (5, .i (0 : Int))] [] Y (AW2_block (as2 [(0, _), (1, _), (5, _)] [] Y (bindK H fun o'4 h4 H => AW2_loopO (fun a'1 : Int => (⟨[(0, .p (AV.b8 c0)), (1, .t l1), (5, .i a'1)], [], 17⟩ : TS)) (fun (o : Bool ⊕ Unit) e s' => match o with | .inl y'2 => e = Go.Exit.ret ∧ ResAll Tryd.prog s' [ResultVar.tmp 4] [.b y'2] ∧ HFits s' [] | .inr (y'3) => e = Go.Exit.exit 0 ∧ s' = (⟨[], [], 17⟩ : TS)) h4 Y (fun i5_0 x hx => ?_) (fun e s' hs => ?_))))
 ·clear H
  have H := hx
  clear hx
  unfold g_ref_among_l0 at H
  refine AW2_seq (sg [0,1,2,3] Y (rm Y (rm Y (rp Y (p_lent Y U9 Y) (rp Y (p_bin Y Y Y Y) (rz [(0, .p (AV.b8 c0)), (1, .t l1), (5, .i i5_0), (9, .b (decide (i5_0 < (l1.length : Int))))] [] Y ?_))))))
  refine if2 H Y (fun h1 H => ?_) (fun h1 H => ?_)
  ·refine as2 [(0, _), (1, _), (5, _)] [] Y (AW2_skip (AW2_seq (AW2_block (sg [0,1,2,3,4] Y (rm Y (rm Y ?_))))))
   refine chkK H fun h2 H => rp Y (p_ixt Y U9 Y Y (ixe h2) (lrd_get (ixn h2))) (rm Y (rp Y (p_u8eq (a := (lrd l1 i5_0.toNat)) (b := c0) Y Y Y) (rz [(0, _), (1, _), (5, _), (16, .b (decide ((lrd l1 i5_0.toNat) = c0)))] [] Y (if2 H Y (fun h3 H => ?_) (fun h3 H => ?_)))))
   ·refine sg [0] Y (ra Y (rz [(4, .b true)] [] Y (AW2_ret ?_)))
    obtain rfl := se H
    exact ⟨Y, ⟨rt, trivial⟩, trivial⟩
   refine as2 [(0, _), (1, _), (5, _)] [] Y (AW2_skip (AW2_reg [0,1,2] Y (rm Y (rp Y (p_bin Y Y Y Y) (ra Y (rz [(0, _), (1, _), (5, .i (w64 (i5_0 + (1 : Int))))] [] Y ?_))))))
   obtain rfl := se H
   exact ⟨Y, Y⟩
  refine as2 [] [] Y (AW2_exit (thenQ2_exit ?_))
  obtain rfl := se H
  exact ⟨Y, Y⟩
 rcases o'4 with y'5 | y'6
 ·obtain ⟨rfl, hs⟩ := hs
  refine ⟨by simp, ?_⟩
  obtain rfl := se H
  exact ⟨hs.1, hs.2⟩
 obtain ⟨rfl, rfl⟩ := hs
 refine ⟨by simp, ?_⟩
 refine blockQ2_exit (sg [0] Y (ra Y (rz [(4, .b false)] [] Y (AW2_ret ?_))))
 obtain rfl := se H
 exact ⟨⟨rt, trivial⟩, trivial⟩
noncomputable def g_ref_reach_l0 (s0 : List UInt8) (l1 : List UInt8) : Int → Option (Int ⊕ (Int))
  | n5_0 => ((if n5_0 < (s0.length : Int) then if 0 ≤ n5_0 ∧ n5_0 < (s0.length : Int) then (g_ref_among (lrd s0 n5_0.toNat) l1).bind fun r'1 => some r'1 else none else some false)).bind fun g'2 => (if g'2 = true then some (.inl (w64 (n5_0 + (1 : Int)))) else some (.inr n5_0))
noncomputable def g_ref_reach (s0 : List UInt8) (l1 : List UInt8) : Option (Int) :=
  (loopO (g_ref_reach_l0 s0 l1) (0 : Int)).bind fun y'6 => some y'6
set_option maxHeartbeats 4000000 in
set_option maxRecDepth 100000 in
theorem g_ref_reach_ac {s0 : List UInt8} {l1 : List UInt8} {r : Int} (H : g_ref_reach s0 l1 = some r) : ACp Tryd.prog 59 [(AV.txt s0), (AV.txt l1)] (AV.int r) := by
 refine ACp_of (AC2_of_body (vs := [.i r]) Tryd.func59 Y Y (lb Y) Y ?_) (fun _ => .same _)
 unfold g_ref_reach at H
 refine as2 [(0, .t s0), (1, .t l1)] [] Y (sg [0] Y (ra Y (rz [(0, _), (1, _)] [] Y (sg [0] Y (ra Y (rz [(0, _), (1, _), (5, .i (0 : Int))] [] Y ?_))))))
 refine AW2_seq (AW2_block (as2 [(0, _), (1, _), (5, _)] [] Y (bindK H fun y'6 h8 H => AW2_loopO (fun a'3 : Int => (⟨[(0, .t s0), (1, .t l1), (5, .i a'3)], [], 20⟩ : TS)) (fun (y'4 : Int) e s' => e = Go.Exit.exit 0 ∧ s' = (⟨[(5, .i y'4)], [], 20⟩ : TS)) h8 Y (fun n5_0 x hx => ?_) (fun e s' hs => ?_))))
 ·clear H
  have H := hx
  clear hx
  unfold g_ref_reach_l0 at H
  refine AW2_seq (AW2_seq (bindK H fun g'2 h5 H => AW2_mid (⟨[(0, .t s0), (1, .t l1), (5, .i n5_0), (16, .b g'2)], [], 20⟩ : TS) ?_ ?_))
  ·clear H
   have H := h5
   clear h5
   refine AW2_reg [0,1,2,3,4,5,6,7,8,9,10] Y (rm Y (rm Y (rp Y (p_lent Y U9 Y) (rp Y (p_bin Y Y Y Y) (rm Y (em2 H (fun h2 H => ?_) (fun h2 H => ?_)))))))
   ·refine rn Y (dT h2) Y (p_move Y Y) (rn Y (dT h2) Y (p_move Y Y) (chkK H fun h3 H => rn Y (dT h2) Y (p_ixt Y U9 Y Y (ixe h3) (lrd_get (ixn h3))) (rn Y (dT h2) Y (p_move Y Y) (bindK H fun r'1 h4 H => rn Y (dT h2) Y (p_callp Y Y Y Tryd.func58 Y Y (g_ref_among_ac h4) ⟨Y, Y, trivial⟩) ?_))))
    refine rp Y (p_pkt Y Y (dT h2) (.same _)) (rs [(0, .t s0), (1, .t l1), (5, .i n5_0), (16, .b r'1)] [] Y ?_)
    obtain rfl := se H
    exact RunW_nil rfl
   refine rO Y (dF h2) Y (rO Y (dF h2) Y (rO Y (dF h2) Y (rO Y (dF h2) Y (rO Y (dF h2) Y (rp Y (p_pkf Y Y (dF h2) (.same _)) (rs [(0, .t s0), (1, .t l1), (5, .i n5_0), (16, .b false)] [] Y ?_))))))
   obtain rfl := se H
   exact RunW_nil rfl
  refine AW2_cond Y (fun h6 => ?_) (fun h6 => ?_)
  ·replace H := ite_then h6 H
   refine as2 [(0, .t s0), (1, .t l1), (5, .i n5_0)] [] Y (AW2_skip (AW2_block (AW2_reg [0,1,2] Y (rm Y (rp Y (p_bin Y Y Y Y) (ra Y ?_))))))
   refine rz [(0, _), (1, _), (5, .i (w64 (n5_0 + (1 : Int))))] [] Y ?_
   obtain rfl := se H
   exact ⟨Y, Y⟩
  replace H := ite_else (ne_true h6) H
  refine as2 [(5, .i n5_0)] [] Y (AW2_exit (thenQ2_exit ?_))
  obtain rfl := se H
  exact ⟨Y, Y⟩
 obtain ⟨rfl, rfl⟩ := hs
 refine ⟨by simp, ?_⟩
 refine blockQ2_exit (sg [0,1] Y (rm Y (ra Y (rz [(4, .i y'6)] [] Y (AW2_ret ?_)))))
 obtain rfl := se H
 exact ⟨⟨rt, trivial⟩, trivial⟩
def g_ref_isName_t0 : List UInt8 := [97, 98, 99, 100, 101, 102, 103, 104, 105, 106, 107, 108, 109, 110, 111, 112, 113, 114, 115, 116, 117, 118, 119, 120, 121, 122]
def g_ref_isName_t1 : List UInt8 := [97, 98, 99, 100, 101, 102, 103, 104, 105, 106, 107, 108, 109, 110, 111, 112, 113, 114, 115, 116, 117, 118, 119, 120, 121, 122, 48, 49, 50, 51, 52, 53, 54, 55, 56, 57, 95]
noncomputable def g_ref_isName (s0 : List UInt8) : Option (Bool) :=
  ((if s0 ≠ [] then if 0 < s0.length then (g_ref_among (lrd s0 0) g_ref_isName_t0).bind fun r'1 => (if r'1 = true then (g_ref_reach s0 g_ref_isName_t1).bind fun r'2 => some (decide (r'2 = (s0.length : Int))) else some false) else none else some false)).bind fun g'3 => some g'3
set_option maxHeartbeats 4000000 in
set_option maxRecDepth 100000 in
theorem g_ref_isName_ac {s0 : List UInt8} {r : Bool} (H : g_ref_isName s0 = some r) : ACp Tryd.prog 41 [(AV.txt s0)] (AV.bool r) := by
 refine ACp_of (AC2_of_body (vs := [.b r]) Tryd.func41 Y Y (lb Y) Y ?_) (fun _ => .same _)
 unfold g_ref_isName at H
 refine as2 [(0, .t s0)] [] Y (sg [0] Y (ra Y (rz [(0, _)] [] Y (AW2_seq (bindK H fun g'3 h7 H => AW2_mid (⟨[(2, .b g'3)], [], 17⟩ : TS) ?_ ?_)))))
 ·clear H
  have H := h7
  clear h7
  refine AW2_reg [0,1,2,3,4,5,6,7,8,9,10,11,12,13,14] Y (rm Y (rp Y (p_sne Y Y Y) (rm Y (em2 H (fun h2 H => ?_) (fun h2 H => ?_)))))
  ·refine rn Y (dT h2) Y (p_move Y Y) (chkK H fun h3 H => rn Y (dT h2) Y (p_ixt Y U9 Y Y Y (lrd_get h3)) (bindK H fun r'1 h4 H => rn Y (dT h2) Y (p_callp Y Y Y Tryd.func58 Y Y (g_ref_among_ac h4) ⟨Y, by kernel_rfl, trivial⟩) (rp Y (p_pkt Y Y (dT h2) (.same _)) (rm Y ?_))))
   refine em2 H (fun h5 H => ?_) (fun h5 H => ?_)
   ·refine rn Y h5 Y (p_move Y Y) (bindK H fun r'2 h6 H => rn Y h5 Y (p_callp Y Y Y Tryd.func59 Y Y (g_ref_reach_ac h6) ⟨Y, by kernel_rfl, trivial⟩) (rn Y h5 Y (p_move Y Y) (rn Y h5 Y (p_lent Y U9 Y) (rn Y h5 Y (p_ieq Y Y Y) (rp Y (p_pkt Y Y h5 (.same _)) ?_)))))
    refine ra Y (rs [(2, .b (decide (r'2 = (s0.length : Int))))] [] Y ?_)
    obtain rfl := se H
    exact RunW_nil rfl
   refine rO Y (bfalse h5) Y (rO Y (bfalse h5) Y (rO Y (bfalse h5) Y (rO Y (bfalse h5) Y (rO Y (bfalse h5) Y (rp Y (p_pkf Y Y (bfalse h5) (.same _)) (ra Y ?_))))))
   refine rs [(2, .b false)] [] Y ?_
   obtain rfl := se H
   exact RunW_nil rfl
  refine rO Y (dF h2) Y (rO Y (dF h2) Y (rO Y (dF h2) Y (rp Y (p_pkf Y Y (dF h2) (.same _)) (rm Y (rO Y (bfalse (by decide)) Y (rO Y (bfalse (by decide)) Y ?_))))))
  refine rO Y (bfalse (by decide)) Y (rO Y (bfalse (by decide)) Y (rO Y (bfalse (by decide)) Y (rp Y (p_pkf Y Y (bfalse (by decide)) (.same _)) (ra Y (rs [(2, .b false)] [] Y ?_)))))
  obtain rfl := se H
  exact RunW_nil rfl
 refine AW2_ret ?_
 obtain rfl := se H
 exact ⟨⟨rt, trivial⟩, trivial⟩
def g_ref_nodeFault_r4 : List (List (Nat × Option Nat)) := [[(1, none)], [(19, some 0)], [(20, some 1)], [(3, none)], [(1, none)], [(23, some 4)], [(22, some 3), (24, some 5)], [(25, some 6)]]
def g_ref_nodeFault_r4c : List (List Nat) := [[], [0], [0, 1], [], [], [4], [3, 4, 5], [3, 4, 5, 6], [0, 1, 2, 3, 4, 5, 6, 7], [0, 1, 2, 3, 4, 5, 6, 7, 8]]
noncomputable def g_ref_nodeFault_l0 (e0 : GExpr) (R' : GExpr → Option Int) : Int → Option (Int ⊕ (Int ⊕ Unit))
  | t87_0 => (if t87_0 < (e0.Args.length : Int) then if 0 ≤ t87_0 ∧ t87_0 < (e0.Args.length : Int) then (R' (lrd e0.Args t87_0.toNat)).bind fun r'9 => (if r'9 ≠ (0 : Int) then some (.inr (.inl r'9)) else some (.inl (w64 (t87_0 + (1 : Int))))) else none else some (.inr (.inr ())))
noncomputable def g_ref_nodeFault_b (R' : GExpr → Option Int) (e0 : GExpr) : Option (Int) :=
  letO (([(0 : Int), (0 : Int), (0 : Int), (1 : Int), (1 : Int), (2 : Int), (2 : Int), (2 : Int), (2 : Int), (2 : Int), (2 : Int), (2 : Int), (2 : Int), (2 : Int), (2 : Int), (2 : Int), (2 : Int), (1 : Int), (1 : Int), (2 : Int), (2 : Int)] : List Int)) fun want3'1 => (if (e0.Op < (1 : Int)) ∨ (e0.Op ≥ (want3'1.length : Int)) then some (2 : Int) else if 0 ≤ e0.Op ∧ e0.Op < (want3'1.length : Int) then ((if e0.Op = (1 : Int) then ((if (e0.Args.length : Int) = (lrd want3'1 e0.Op.toNat) then (if e0.Name = [] then (g_ref_ValueFault e0.Value).bind fun r'4 => (if r'4 = (0 : Int) then some (decide (e0.Value.Int_ ≥ (0 : Int))) else some false) else some false) else some false)).bind fun g'5 => some g'5 else (if e0.Op = (2 : Int) then ((if (e0.Args.length : Int) = (lrd want3'1 e0.Op.toNat) then (if e0.Value = GValue.zero then (g_ref_isName e0.Name).bind fun r'7 => (if r'7 = true then some (decide ((e0.Name.length : Int) ≤ (8 : Int))) else some false) else some false) else some false)).bind fun g'8 => some g'8 else some (decide ((((e0.Args.length : Int) = (lrd want3'1 e0.Op.toNat)) ∧ (e0.Name = [])) ∧ (e0.Value = GValue.zero)))))).bind fun j'2 => (if (!j'2) = true then some (3 : Int) else (loopO (g_ref_nodeFault_l0 e0 R') (0 : Int)).bind fun o'13 => match o'13 with | .inl y'14 => some y'14 | .inr (y'15) => some (0 : Int)) else none)
noncomputable def g_ref_nodeFault : Nat → GExpr → Option Int
  | 0, _ => none
  | fu + 1, e0 => g_ref_nodeFault_b (g_ref_nodeFault fu) e0
set_option maxHeartbeats 4000000 in
set_option maxRecDepth 100000 in
theorem g_ref_nodeFault_ac0 {R' : GExpr → Option Int} (hR : ∀ {e0 : GExpr} {r : Int}, R' e0 = some r → ACp Tryd.prog 30 [(.agg (GExpr.cs e0))] (AV.int r)) {e0 : GExpr} {r : Int} (H : g_ref_nodeFault_b R' e0 = some r) : ACp Tryd.prog 30 [(.agg (GExpr.cs e0))] (AV.int r) := by
 refine ACp_of (AC2_of_body (vs := [.i r]) Tryd.func30 Y Y (lb Y) Y ?_) (fun _ => .same _)
 unfold g_ref_nodeFault_b at H
 refine as2 [(0, .g (GExpr.cs e0))] [] Y (sg [0,1] Y (rq Y (MakeD.opD (n_box 1 Y Y) Y Y Y Y) (ra Y (rz [(1, .q 1 (0))] [(1, .pure (GExpr.cs e0))] Y (sg [0,1] Y (rq Y (MakeD.opD (u_bs 8 Y U70 in_3 Y one_3 (by decide) (by decide) Y Y Y) Y Y Y Y) ?_))))))
 refine ra Y (RunW_st [(1, .q 1 (0)), (3, .c (.own 8 ([(0 : Int), (0 : Int), (0 : Int), (1 : Int), (1 : Int), (2 : Int), (2 : Int), (2 : Int), (2 : Int), (2 : Int), (2 : Int), (2 : Int), (2 : Int), (2 : Int), (2 : Int), (2 : Int), (2 : Int), (1 : Int), (1 : Int), (2 : Int), (2 : Int)] : List Int).length 1))] [(1, .pure (GExpr.cs e0)), (8, .pure (([(0 : Int), (0 : Int), (0 : Int), (1 : Int), (1 : Int), (2 : Int), (2 : Int), (2 : Int), (2 : Int), (2 : Int), (2 : Int), (2 : Int), (2 : Int), (2 : Int), (2 : Int), (2 : Int), (2 : Int), (1 : Int), (1 : Int), (2 : Int), (2 : Int)] : List Int).map AV.int))] Y ⟨TLes.same _, TLes.own Y, trivial⟩ ⟨Y, Y, trivial⟩ (RunW_gho (Gho_ren 8 3 Y Y Y Y Y) (rz [(1, .q 1 (0)), (3, .c (.own 3 ([(0 : Int), (0 : Int), (0 : Int), (1 : Int), (1 : Int), (2 : Int), (2 : Int), (2 : Int), (2 : Int), (2 : Int), (2 : Int), (2 : Int), (2 : Int), (2 : Int), (2 : Int), (2 : Int), (2 : Int), (1 : Int), (1 : Int), (2 : Int), (2 : Int)] : List Int).length 1))] [(1, .pure (GExpr.cs e0)), (3, .pure (([(0 : Int), (0 : Int), (0 : Int), (1 : Int), (1 : Int), (2 : Int), (2 : Int), (2 : Int), (2 : Int), (2 : Int), (2 : Int), (2 : Int), (2 : Int), (2 : Int), (2 : Int), (2 : Int), (2 : Int), (1 : Int), (1 : Int), (2 : Int), (2 : Int)] : List Int).map AV.int))] Y (gen1 (fun want3'1 => (⟨[(1, .q 1 (0)), (3, .c (.own 3 want3'1.length 1))], [(1, .pure (GExpr.cs e0)), (3, .pure (want3'1.map AV.int))], 97⟩ : TS)) H ?_))))
 intro want3'1 H
 refine AW2_seq (AW2_seq (AW2_mid (⟨[(1, .q 1 (0)), (3, .c (.own 3 want3'1.length 1)), (18, .b (decide ((e0.Op < (1 : Int)) ∨ (e0.Op ≥ (want3'1.length : Int)))))], [(1, .pure (GExpr.cs e0)), (3, .pure (want3'1.map AV.int))], 97⟩ : TS) ?_ ?_))
 ·refine AW2_reg [0,1,2,3,4,5,6,7,8,9] Y (rf Y U27 Y in_3 Y Y (GExpr.len e0) (rp Y (u_ld Y Y U3 Y Y (GExpr.sub0 e0)) (rp Y (p_bin Y Y Y Y) (rm Y ?_))))
  refine (Classical.em (e0.Op < (1 : Int))).elim (fun h1 => ?_) (fun h1 => ?_)
  ·iterate 5 (refine rO Y (dT h1) Y ?_)
   exact rp Y (p_pkt Y Y (dT h1) (tb (dT (p := (e0.Op < (1 : Int)) ∨ (e0.Op ≥ (want3'1.length : Int))) (Or.inl h1)).symm)) (rend Y Y)
  exact rn Y (dF h1) Y (u_fa Y Y U27 Y in_3 nz Y Y (nl (GExpr.len e0))) (rn Y (dF h1) Y (u_ld Y Y U3 Y Y (GExpr.sub0 e0)) (rn Y (dF h1) Y (p_move Y Y) (rn Y (dF h1) Y (p_leno Y U70 Y Y Y (ml AV.int want3'1) (by decide)) (rn Y (dF h1) Y (p_bin Y Y Y Y) (rp Y (p_pkf Y Y (dF h1) (tb ((or_l (p := e0.Op < (1 : Int)) (q := e0.Op ≥ (want3'1.length : Int)) h1)))) (rend Y Y))))))
 refine if2 H Y (fun h2 H => ?_) (fun h2 H => ?_)
 ·refine sg [0] Y (ra Y (rz [(2, .i (2 : Int))] [] Y (AW2_ret ?_)))
  obtain rfl := se H
  exact ⟨⟨rt, trivial⟩, trivial⟩
 refine as2 [(1, _), (3, _)] [(1, _), (3, _)] Y (AW2_skip (AW2_seq (chkK H fun h3 H => AW2_ghoQ (AW2_draw 8 [8,9] (fun k => ([.q 1 (0 + 6), .p (GExpr.ls e0.Args), .i (e0.Args.length : Int), .c (.own 3 want3'1.length 1), .q 1 (0 + 0), .i e0.Op, .q 3 (0 + e0.Op.toNat * 1), .i (lrd want3'1 e0.Op.toNat)] : List TV).getD k TV.any) (fun k => g_ref_nodeFault_r4.getD k []) [(1, none), (21, some 2), (26, some 7)] [] (fun k => g_ref_nodeFault_r4c.getD k []) mixed (by kernel_rfl) Y Y (a_op (g_x Y (x_p Y (u_fa Y Y U27 Y in_25 nz Y Y (nl (GExpr.len e0))) Y)) (a_op (g_x Y (x_p Y (u_ld Y Y U25 Y Y (GExpr.sub3 e0)) Y)) (a_op (g_x Y (x_p Y (p_lenl Y U25 Y Y) Y)) (a_op (g_x Y (x_p Y (p_move Y Y) Y)) (a_op (g_x Y (x_p Y (u_fa Y Y U27 Y in_3 nz Y Y (nl (GExpr.len e0))) Y)) (a_op (g_x Y (x_p Y (u_ld Y Y U3 Y Y (GExpr.sub0 e0)) Y)) (a_op (g_x Y (x_p Y (u_ixo Y Y U70 in_3 Y Y (lne (ixn h3)) Y (ixe h3) (ixn h3)) Y)) (a_op (g_x Y (x_p Y (u_ld Y Y U3 Y Y ((Sub.refl _).trans (Sub.map default (ixn h3)))) Y)) (a_nil))))))))) (t_op Y Y (PureD.opD (p_ieq Y Y Y)) ?_)))))
 refine t_op Y Y (PureD.opD (p_asg Y Y)) (t_gho (Gho_st (L := [(1, .q 1 (0)), (4, .b (decide ((e0.Args.length : Int) = (lrd want3'1 e0.Op.toNat))))]) (H := [(1, .pure (GExpr.cs e0))]) (N := 97) Y ⟨TLes.same _, TLes.same _, trivial⟩ ⟨Y, trivial⟩) (AW2_seq (bindK H fun j'2 h4 H => AW2_mid (⟨[(1, .q 1 (0)), (4, .b j'2)], [(1, .pure (GExpr.cs e0))], 97⟩ : TS) ?_ ?_)))
 ·clear H
  have H := h4
  clear h4
  refine sg [0,1] Y (rf Y U27 Y in_3 Y Y (GExpr.len e0) (rp Y (u_ld Y Y U3 Y Y (GExpr.sub0 e0)) (rz [(1, .q 1 (0)), (4, .b (decide ((e0.Args.length : Int) = (lrd want3'1 e0.Op.toNat)))), (29, .i e0.Op)] [(1, .pure (GExpr.cs e0))] Y (AW2_block (sg [0,1] Y (rp Y (p_ieq Y Y Y) ?_))))))
  refine ra Y (rz [(1, _), (4, _), (29, _), (42, .b (decide (e0.Op = (1 : Int))))] [(1, _)] Y (if2 H Y (fun h5 H => ?_) (fun h5 H => ?_)))
  ·refine bindK H fun g'5 h11 H => AW2_mid (⟨[(1, .q 1 (0)), (4, .b g'5)], [(1, .pure (GExpr.cs e0))], 97⟩ : TS) ?_ ?_
   ·clear H
    have H := h11
    clear h11
    refine AW2_reg [0,1,2,3,4,5,6,7,8,9,10,11,12,13,14,15,16,17,18] Y (rm Y (rm Y (em2 H (fun h7 H => ?_) (fun h7 H => ?_))))
    ·refine rn Y (dT h7) Y (u_fa Y Y U27 Y in_9 nz Y Y (nl (GExpr.len e0))) (rn Y (dT h7) Y (u_ld Y Y U9 Y Y (GExpr.sub2 e0)) (rn Y (dT h7) Y (p_seq Y Y Y) (rp Y (p_pkt Y Y (dT h7) (.same _)) (rm Y (em2 H (fun h8 H => ?_) (fun h8 H => ?_))))))
     ·refine rn Y (dT h8) Y (u_fa Y Y U27 Y in_24 nz Y Y (nl (GExpr.len e0))) (rn Y (dT h8) Y (u_lda Y Y U24 Y in_24 Y np (GExpr.sub1 e0) (GValue.len e0.Value)) (bindK H fun r'4 h9 H => rn Y (dT h8) Y (p_callp Y Y Y Tryd.func32 Y Y (g_ref_ValueFault_ac h9) ⟨Y, trivial⟩) (rn Y (dT h8) Y (p_ieq Y Y Y) (rp Y (p_pkt Y Y (dT h8) (.same _)) (rm Y ?_)))))
      refine em2 H (fun h10 H => ?_) (fun h10 H => ?_)
      ·refine rn Y (dT h10) Y (u_fa Y Y U27 Y in_24 nz Y Y (nl (GExpr.len e0))) (rn Y (dT h10) Y (u_fa Y Y U24 Y in_3 nz Y Y (nl (GExpr.len e0))) (rn Y (dT h10) Y (u_ld Y Y U3 Y Y ((GExpr.sub1 e0).trans (GValue.sub1 e0.Value))) (rn Y (dT h10) Y (p_bin Y Y Y Y) (rp Y (p_pkt Y Y (dT h10) (.same _)) (ra Y (rs [(1, .q 1 (0)), (4, .b (decide (e0.Value.Int_ ≥ (0 : Int))))] [(1, .pure (GExpr.cs e0))] Y ?_))))))
       obtain rfl := se H
       exact RunW_nil rfl
      iterate 4 (refine rO Y (dF h10) Y ?_)
      refine rp Y (p_pkf Y Y (dF h10) (.same _)) (ra Y (rs [(1, .q 1 (0)), (4, .b false)] [(1, .pure (GExpr.cs e0))] Y ?_))
      obtain rfl := se H
      exact RunW_nil rfl
     iterate 4 (refine rO Y (dF h8) Y ?_)
     refine rp Y (p_pkf Y Y (dF h8) (.same _)) (rm Y ?_)
     iterate 4 (refine rO Y (bfalse (by decide)) Y ?_)
     refine rp Y (p_pkf Y Y (bfalse (by decide)) (.same _)) (ra Y (rs [(1, .q 1 (0)), (4, .b false)] [(1, .pure (GExpr.cs e0))] Y ?_))
     obtain rfl := se H
     exact RunW_nil rfl
    iterate 3 (refine rO Y (dF h7) Y ?_)
    refine rp Y (p_pkf Y Y (dF h7) (.same _)) (rm Y ?_)
    iterate 4 (refine rO Y (bfalse (by decide)) Y ?_)
    refine rp Y (p_pkf Y Y (bfalse (by decide)) (.same _)) (rm Y ?_)
    iterate 4 (refine rO Y (bfalse (by decide)) Y ?_)
    refine rp Y (p_pkf Y Y (bfalse (by decide)) (.same _)) (ra Y (rs [(1, .q 1 (0)), (4, .b false)] [(1, .pure (GExpr.cs e0))] Y ?_))
    obtain rfl := se H
    exact RunW_nil rfl
   obtain rfl := se H
   exact rfl
  refine sg [0,1] Y (rp Y (p_ieq Y Y Y) (ra Y (rz [(1, _), (4, _), (62, .b (decide (e0.Op = (2 : Int))))] [(1, _)] Y (if2 H Y (fun h13 H => ?_) (fun h13 H => ?_)))))
  ·refine bindK H fun g'8 h19 H => AW2_mid (⟨[(1, .q 1 (0)), (4, .b g'8)], [(1, .pure (GExpr.cs e0))], 97⟩ : TS) ?_ ?_
   ·clear H
    have H := h19
    clear h19
    refine AW2_reg [0,1,2,3,4,5,6,7,8,9,10,11,12,13,14,15,16,17,18] Y (rm Y (rm Y (em2 H (fun h15 H => ?_) (fun h15 H => ?_))))
    ·refine rn Y (dT h15) Y (u_fa Y Y U27 Y in_24 nz Y Y (nl (GExpr.len e0))) (rn Y (dT h15) Y (u_lda Y Y U24 Y in_24 Y np (GExpr.sub1 e0) (GValue.len e0.Value)) (rn Y (dT h15) Y (u_bld Y in_24 one_24 zc_24 pl_24 Y Y) (rn Y (dT h15) Y (p_eqa (a := e0.Value) (b := GValue.zero) Y eq_24 Y (by kernel_rfl) Y Y) (rp Y (p_pkt Y Y (dT h15) (.same _)) (rm Y (em2 H (fun h16 H => ?_) (fun h16 H => ?_)))))))
     ·refine rn Y (dT h16) Y (u_fa Y Y U27 Y in_9 nz Y Y (nl (GExpr.len e0))) (rn Y (dT h16) Y (u_ld Y Y U9 Y Y (GExpr.sub2 e0)) (bindK H fun r'7 h17 H => rn Y (dT h16) Y (p_callp Y Y Y Tryd.func41 Y Y (g_ref_isName_ac h17) ⟨Y, trivial⟩) (rp Y (p_pkt Y Y (dT h16) (.same _)) (rm Y (em2 H (fun h18 H => ?_) (fun h18 H => ?_))))))
      ·refine rn Y h18 Y (u_fa Y Y U27 Y in_9 nz Y Y (nl (GExpr.len e0))) (rn Y h18 Y (u_ld Y Y U9 Y Y (GExpr.sub2 e0)) (rn Y h18 Y (p_lent Y U9 Y) (rn Y h18 Y (p_bin Y Y Y Y) (rp Y (p_pkt Y Y h18 (.same _)) (ra Y (rs [(1, .q 1 (0)), (4, .b (decide ((e0.Name.length : Int) ≤ (8 : Int))))] [(1, .pure (GExpr.cs e0))] Y ?_))))))
       obtain rfl := se H
       exact RunW_nil rfl
      iterate 4 (refine rO Y (bfalse h18) Y ?_)
      refine rp Y (p_pkf Y Y (bfalse h18) (.same _)) (ra Y (rs [(1, .q 1 (0)), (4, .b false)] [(1, .pure (GExpr.cs e0))] Y ?_))
      obtain rfl := se H
      exact RunW_nil rfl
     iterate 3 (refine rO Y (dF h16) Y ?_)
     refine rp Y (p_pkf Y Y (dF h16) (.same _)) (rm Y ?_)
     iterate 4 (refine rO Y (bfalse (by decide)) Y ?_)
     refine rp Y (p_pkf Y Y (bfalse (by decide)) (.same _)) (ra Y (rs [(1, .q 1 (0)), (4, .b false)] [(1, .pure (GExpr.cs e0))] Y ?_))
     obtain rfl := se H
     exact RunW_nil rfl
    iterate 4 (refine rO Y (dF h15) Y ?_)
    refine rp Y (p_pkf Y Y (dF h15) (.same _)) (rm Y ?_)
    iterate 3 (refine rO Y (bfalse (by decide)) Y ?_)
    refine rp Y (p_pkf Y Y (bfalse (by decide)) (.same _)) (rm Y ?_)
    iterate 4 (refine rO Y (bfalse (by decide)) Y ?_)
    refine rp Y (p_pkf Y Y (bfalse (by decide)) (.same _)) (ra Y (rs [(1, .q 1 (0)), (4, .b false)] [(1, .pure (GExpr.cs e0))] Y ?_))
    obtain rfl := se H
    exact RunW_nil rfl
   obtain rfl := se H
   exact rfl
  refine AW2_mid (⟨[(1, .q 1 (0)), (4, .b (decide ((((e0.Args.length : Int) = (lrd want3'1 e0.Op.toNat)) ∧ (e0.Name = [])) ∧ (e0.Value = GValue.zero))))], [(1, .pure (GExpr.cs e0))], 97⟩ : TS) ?_ ?_
  ·refine AW2_reg [0,1,2,3,4,5,6,7,8,9,10,11,12] Y (rm Y (rm Y ?_))
   refine (Classical.em ((e0.Args.length : Int) = (lrd want3'1 e0.Op.toNat))).elim (fun h21 => ?_) (fun h21 => ?_)
   ·refine rn Y (dT h21) Y (u_fa Y Y U27 Y in_9 nz Y Y (nl (GExpr.len e0))) (rn Y (dT h21) Y (u_ld Y Y U9 Y Y (GExpr.sub2 e0)) (rn Y (dT h21) Y (p_seq Y Y Y) (rp Y (p_pkt Y Y (dT h21) (tb ((and_l (p := (e0.Args.length : Int) = (lrd want3'1 e0.Op.toNat)) (q := e0.Name = []) h21)))) (rm Y ?_))))
    refine (Classical.em (e0.Name = [])).elim (fun h22 => ?_) (fun h22 => ?_)
    ·have qq1 := dT (p := ((e0.Args.length : Int) = (lrd want3'1 e0.Op.toNat)) ∧ (e0.Name = [])) ⟨h21, h22⟩
     exact rn Y qq1 Y (u_fa Y Y U27 Y in_24 nz Y Y (nl (GExpr.len e0))) (rn Y qq1 Y (u_lda Y Y U24 Y in_24 Y np (GExpr.sub1 e0) (GValue.len e0.Value)) (rn Y qq1 Y (u_bld Y in_24 one_24 zc_24 pl_24 Y Y) (rn Y qq1 Y (p_eqa (a := e0.Value) (b := GValue.zero) Y eq_24 Y (by kernel_rfl) Y Y) (rp Y (p_pkt Y Y qq1 (tb ((and_l (p := ((e0.Args.length : Int) = (lrd want3'1 e0.Op.toNat)) ∧ (e0.Name = [])) (q := e0.Value = GValue.zero) ⟨h21, h22⟩)))) (ra Y (rend Y Y))))))
    have qq2 := dF (p := ((e0.Args.length : Int) = (lrd want3'1 e0.Op.toNat)) ∧ (e0.Name = [])) (fun h => h22 h.2)
    iterate 4 (refine rO Y qq2 Y ?_)
    exact rp Y (p_pkf Y Y qq2 (tb (dF (p := (((e0.Args.length : Int) = (lrd want3'1 e0.Op.toNat)) ∧ (e0.Name = [])) ∧ (e0.Value = GValue.zero)) (fun x => (fun h => h22 h.2) x.1)).symm)) (ra Y (rend Y Y))
   iterate 3 (refine rO Y (dF h21) Y ?_)
   refine rp Y (p_pkf Y Y (dF h21) (tb (dF (p := ((e0.Args.length : Int) = (lrd want3'1 e0.Op.toNat)) ∧ (e0.Name = [])) (fun x => h21 x.1)).symm)) (rm Y ?_)
   have qq3 := dF (p := ((e0.Args.length : Int) = (lrd want3'1 e0.Op.toNat)) ∧ (e0.Name = [])) (fun h => h21 h.1)
   iterate 4 (refine rO Y qq3 Y ?_)
   exact rp Y (p_pkf Y Y qq3 (tb (dF (p := (((e0.Args.length : Int) = (lrd want3'1 e0.Op.toNat)) ∧ (e0.Name = [])) ∧ (e0.Value = GValue.zero)) (fun x => (fun h => h21 h.1) x.1)).symm)) (ra Y (rend Y Y))
  obtain rfl := se H
  exact rfl
 refine AW2_seq (sg [0,1] Y (rm Y (rp Y (p_not Y Y) (rz [(1, _), (83, .b (!j'2))] [(1, _)] Y (AW2_cond Y (fun h23 => ?_) (fun h23 => ?_))))))
 ·replace H := ite_then h23 H
  refine sg [0] Y (ra Y (rz [(2, .i (3 : Int))] [] Y (AW2_ret ?_)))
  obtain rfl := se H
  exact ⟨⟨rt, trivial⟩, trivial⟩
 replace H := ite_else (ne_true h23) H
 refine as2 [(1, .q 1 (0))] [(1, .pure (GExpr.cs e0))] Y (AW2_skip (AW2_seq (sg [0,1,2,3] Y (rf Y U27 Y in_25 Y Y (GExpr.len e0) (rp Y (u_ld Y Y U25 Y Y (GExpr.sub3 e0)) (rp Y (p_lenl Y U25 Y Y) ?_))))))
 refine rm Y (rz [(85, .p (GExpr.ls e0.Args)), (86, .i (e0.Args.length : Int)), (87, .i (0 : Int))] [] Y (AW2_block (as2 [(85, _), (86, _), (87, _)] [] Y (bindK H fun o'13 h28 H => AW2_loopO (fun a'10 : Int => (⟨[(85, .p (GExpr.ls e0.Args)), (86, .i (e0.Args.length : Int)), (87, .i a'10)], [], 97⟩ : TS)) (fun (o : Int ⊕ Unit) e s' => match o with | .inl y'11 => e = Go.Exit.ret ∧ ResAll Tryd.prog s' [ResultVar.tmp 2] [.i y'11] ∧ HFits s' [] | .inr (y'12) => e = Go.Exit.exit 1 ∧ s' = (⟨[], [], 97⟩ : TS)) h28 Y (fun t87_0 x hx => ?_) (fun e s' hs => ?_)))))
 ·clear H
  have H := hx
  clear hx
  unfold g_ref_nodeFault_l0 at H
  refine sg [0] Y (rp Y (p_bin Y Y Y Y) (rz [(85, .p (GExpr.ls e0.Args)), (86, .i (e0.Args.length : Int)), (87, .i t87_0), (88, .b (decide (t87_0 < (e0.Args.length : Int))))] [] Y (AW2_seq (if2 H Y (fun h24 H => ?_) (fun h24 H => ?_)))))
  ·refine as2 [(85, _), (86, _), (87, _)] [] Y (AW2_skip (AW2_seq (AW2_block (sg [0,1,2,3] Y (chkK H fun h25 H => rp Y (u_ixl Y Y U25 in_27 Y Y (ixe h25) (ixn h25) (fne (fun x => (GExpr.len x)) (by decide) (ixn h25))) ?_)))))
   refine rp Y (u_lda Y Y U27 Y in_27 Y np (Sub.fm default (fun x => (GExpr.len x)) (ixn h25)) (GExpr.len (lrd e0.Args t87_0.toNat))) (rq Y (MakeD.opD (u_alloc 6 Y in_27 one_27 zc_27) Y Y Y Y) (rq Y (u_sw Y Y Y Y Y in_27 (GExpr.len (lrd e0.Args t87_0.toNat)) (GExpr.len GExpr.zero) Y) (rz [(6, .q 6 (0)), (85, _), (86, _), (87, _)] [(6, .pure (GExpr.cs (lrd e0.Args t87_0.toNat)))] Y (sg [0,1,2] Y (rp Y (u_lda Y Y U27 Y in_27 Y np (Sub.refl _) (GExpr.len (lrd e0.Args t87_0.toNat))) (bindK H fun r'9 h26 H => ?_))))))
   refine rp Y (p_callp Y Y Y Tryd.func30 Y Y (hR h26) ⟨Y, trivial⟩) (ra Y (rz [(7, .i r'9), (85, _), (86, _), (87, _)] [] Y (sg [0,1] Y (rm Y (rp Y (p_ine Y Y Y) (rz [(7, _), (85, _), (86, _), (87, _), (94, .b (decide (r'9 ≠ (0 : Int))))] [] Y ?_))))))
   refine if2 H Y (fun h27 H => ?_) (fun h27 H => ?_)
   ·refine sg [0,1] Y (rm Y (ra Y (rz [(2, .i r'9)] [] Y (AW2_ret ?_))))
    obtain rfl := se H
    exact ⟨Y, ⟨rt, trivial⟩, trivial⟩
   refine as2 [(85, _), (86, _), (87, _)] [] Y (AW2_skip (AW2_reg [0,1] Y (rp Y (p_bin Y Y Y Y) (rm Y (rz [(85, _), (86, _), (87, .i (w64 (t87_0 + (1 : Int))))] [] Y ?_)))))
   obtain rfl := se H
   exact ⟨Y, Y⟩
  refine as2 [] [] Y (AW2_exit (thenQ2_exit ?_))
  obtain rfl := se H
  exact ⟨Y, Y⟩
 rcases o'13 with y'14 | y'15
 ·obtain ⟨rfl, hs⟩ := hs
  refine ⟨by simp, ?_⟩
  obtain rfl := se H
  exact ⟨hs.1, hs.2⟩
 obtain ⟨rfl, rfl⟩ := hs
 refine ⟨by simp, ?_⟩
 refine blockQ2_exit (sg [0] Y (ra Y (rz [(2, .i (0 : Int))] [] Y (AW2_ret ?_))))
 obtain rfl := se H
 exact ⟨⟨rt, trivial⟩, trivial⟩
theorem g_ref_nodeFault_acN : ∀ (fu : Nat) {e0 : GExpr} {r : Int}, g_ref_nodeFault fu e0 = some r → ACp Tryd.prog 30 [(.agg (GExpr.cs e0))] (AV.int r)
 | 0, _, _, H => (by cases H)
 | fu + 1, _, _, H => g_ref_nodeFault_ac0 (g_ref_nodeFault_acN fu) H
theorem g_ref_nodeFault_ac {e0 : GExpr} {r : Int} (H : g_ref_nodeFault 100000 e0 = some r) : ACp Tryd.prog 30 [(.agg (GExpr.cs e0))] (AV.int r) := g_ref_nodeFault_acN 100000 H
noncomputable def g_ref_ExprFault (e0 : GExpr) : Option (Int) :=
  (g_ref_within e0).bind fun r'1 => (if (!r'1) = true then some (1 : Int) else (g_ref_nodeFault 100000 e0).bind fun r'2 => some r'2)
set_option maxHeartbeats 4000000 in
set_option maxRecDepth 100000 in
theorem g_ref_ExprFault_ac {e0 : GExpr} {r : Int} (H : g_ref_ExprFault e0 = some r) : ACp Tryd.prog 16 [(.agg (GExpr.cs e0))] (AV.int r) := by
 refine ACp_of (AC2_of_body (vs := [.i r]) Tryd.func16 Y Y (lb Y) Y ?_) (fun _ => .same _)
 unfold g_ref_ExprFault at H
 refine as2 [(0, .g (GExpr.cs e0))] [] Y (sg [0,1] Y (rq Y (MakeD.opD (n_box 1 Y Y) Y Y Y Y) (ra Y (rz [(1, .q 1 (0))] [(1, .pure (GExpr.cs e0))] Y (AW2_seq (sg [0,1,2] Y ?_))))))
 refine rp Y (u_lda Y Y U27 Y in_27 Y np (Sub.refl _) (GExpr.len e0)) (bindK H fun r'1 h1 H => rp Y (p_callp Y Y Y Tryd.func29 Y Y (g_ref_within_ac h1) ⟨Y, trivial⟩) (rp Y (p_not Y Y) (rz [(1, _), (5, .b (!r'1))] [(1, _)] Y (AW2_cond Y (fun h2 => ?_) (fun h2 => ?_)))))
 ·replace H := ite_then h2 H
  refine sg [0] Y (ra Y (rz [(2, .i (1 : Int))] [] Y (AW2_ret ?_)))
  obtain rfl := se H
  exact ⟨⟨rt, trivial⟩, trivial⟩
 replace H := ite_else (ne_true h2) H
 refine as2 [(1, .q 1 (0))] [(1, .pure (GExpr.cs e0))] Y (AW2_skip (sg [0,1,2] Y (rp Y (u_lda Y Y U27 Y in_27 Y np (Sub.refl _) (GExpr.len e0)) (bindK H fun r'2 h3 H => rp Y (p_callp Y Y Y Tryd.func30 Y Y (g_ref_nodeFault_ac h3) ⟨Y, trivial⟩) (ra Y ?_)))))
 refine rz [(2, .i r'2)] [] Y (AW2_ret ?_)
 obtain rfl := se H
 exact ⟨⟨rt, trivial⟩, trivial⟩
noncomputable def g_ref_columnAt_l0 (cols0 : List GColumn) (name1 : List UInt8) : Int → Option (Int ⊕ (Int ⊕ Unit))
  | i5_0 => (if i5_0 ≥ (0 : Int) then if 0 ≤ i5_0 ∧ i5_0 < (cols0.length : Int) then (if (lrd cols0 i5_0.toNat).Name = name1 then some (.inr (.inl i5_0)) else some (.inl (w64 (i5_0 - (1 : Int))))) else none else some (.inr (.inr ())))
noncomputable def g_ref_columnAt (cols0 : List GColumn) (name1 : List UInt8) : Option (Int) :=
  (loopO (g_ref_columnAt_l0 cols0 name1) (w64 ((cols0.length : Int) - (1 : Int)))).bind fun o'4 => match o'4 with | .inl y'5 => some y'5 | .inr (y'6) => some (-1 : Int)
set_option maxHeartbeats 4000000 in
set_option maxRecDepth 100000 in
theorem g_ref_columnAt_ac {cols0 : List GColumn} {name1 : List UInt8} {r : Int} (H : g_ref_columnAt cols0 name1 = some r) : ACp Tryd.prog 33 [(GColumn.ls cols0), (AV.txt name1)] (AV.int r) := by
 refine ACp_of (AC2_of_body (vs := [.i r]) Tryd.func33 Y Y (lb Y) Y ?_) (fun _ => .same _)
 unfold g_ref_columnAt at H
 refine as2 [(0, .p (GColumn.ls cols0)), (1, .t name1)] [] Y (sg [0] Y (ra Y (rz [(0, _), (1, _)] [] Y (AW2_seq (sg [0,1,2,3] Y (rm Y ?_))))))
 refine rp Y (p_lenl Y U28 Y Y) (rp Y (p_bin Y Y Y Y) (ra Y (rz [(0, _), (1, _), (5, .i (w64 ((cols0.length : Int) - (1 : Int))))] [] Y (AW2_block (as2 [(0, _), (1, _), (5, _)] [] Y (bindK H fun o'4 h4 H => ?_))))))
 refine AW2_loopO (fun a'1 : Int => (⟨[(0, .p (GColumn.ls cols0)), (1, .t name1), (5, .i a'1)], [], 21⟩ : TS)) (fun (o : Int ⊕ Unit) e s' => match o with | .inl y'2 => e = Go.Exit.ret ∧ ResAll Tryd.prog s' [ResultVar.tmp 4] [.i y'2] ∧ HFits s' [] | .inr (y'3) => e = Go.Exit.exit 0 ∧ s' = (⟨[], [], 21⟩ : TS)) h4 Y (fun i5_0 x hx => ?_) (fun e s' hs => ?_)
 ·clear H
  have H := hx
  clear hx
  unfold g_ref_columnAt_l0 at H
  refine AW2_seq (sg [0,1] Y (rm Y (rp Y (p_bin Y Y Y Y) (rz [(0, .p (GColumn.ls cols0)), (1, .t name1), (5, .i i5_0), (10, .b (decide (i5_0 ≥ (0 : Int))))] [] Y (if2 H Y (fun h1 H => ?_) (fun h1 H => ?_))))))
  ·refine as2 [(0, _), (1, _), (5, _)] [] Y (AW2_skip (AW2_seq (AW2_block (sg [0,1,2,3,4,5,6] Y (rm Y (rm Y ?_))))))
   refine chkK H fun h2 H => rp Y (u_ixl Y Y U28 in_59 Y Y (ixe h2) (ixn h2) (fne (fun x => (GColumn.len x)) (by decide) (ixn h2))) (rp Y (u_far Y Y U59 Y in_9 nz Y) (rp Y (u_ld Y Y U9 Y Y ((Sub.fm default (fun x => (GColumn.len x)) (ixn h2)).trans (GColumn.sub0 (lrd cols0 i5_0.toNat)))) (rm Y (rp Y (p_seq Y Y Y) (rz [(0, _), (1, _), (5, _), (19, .b (decide ((lrd cols0 i5_0.toNat).Name = name1)))] [] Y ?_)))))
   refine if2 H Y (fun h3 H => ?_) (fun h3 H => ?_)
   ·refine sg [0,1] Y (rm Y (ra Y (rz [(4, .i i5_0)] [] Y (AW2_ret ?_))))
    obtain rfl := se H
    exact ⟨Y, ⟨rt, trivial⟩, trivial⟩
   refine as2 [(0, _), (1, _), (5, _)] [] Y (AW2_skip (AW2_reg [0,1,2] Y (rm Y (rp Y (p_bin Y Y Y Y) (ra Y (rz [(0, _), (1, _), (5, .i (w64 (i5_0 - (1 : Int))))] [] Y ?_))))))
   obtain rfl := se H
   exact ⟨Y, Y⟩
  refine as2 [] [] Y (AW2_exit (thenQ2_exit ?_))
  obtain rfl := se H
  exact ⟨Y, Y⟩
 rcases o'4 with y'5 | y'6
 ·obtain ⟨rfl, hs⟩ := hs
  refine ⟨by simp, ?_⟩
  obtain rfl := se H
  exact ⟨hs.1, hs.2⟩
 obtain ⟨rfl, rfl⟩ := hs
 refine ⟨by simp, ?_⟩
 refine blockQ2_exit (sg [0] Y (ra Y (rz [(4, .i (-1 : Int))] [] Y (AW2_ret ?_))))
 obtain rfl := se H
 exact ⟨⟨rt, trivial⟩, trivial⟩
def g_ref_ColumnsFault_r10 : List (List (Nat × Option Nat)) := [[(0, none)], [(3, none)], [(46, some 0), (47, some 1)], [(4, none)], [(49, some 3)]]
def g_ref_ColumnsFault_r10c : List (List Nat) := [[], [], [0, 1], [], [3], [0, 1, 2, 3, 4], [0, 1, 2, 3, 4, 5], [0, 1, 2, 3, 4, 5, 6]]
noncomputable def g_ref_ColumnsFault_l0 (cols0 : List GColumn) : Int → Option (Int ⊕ (Int ⊕ Unit))
  | t10_0 => (if t10_0 < (cols0.length : Int) then if 0 ≤ t10_0 ∧ t10_0 < (cols0.length : Int) then (g_ref_isName ((lrd cols0 t10_0.toNat).Name)).bind fun r'1 => (if ((!r'1) = true) ∨ ((((lrd cols0 t10_0.toNat).Name).length : Int) > (8 : Int)) then some (.inr (.inl (3 : Int))) else letO (decide (((((lrd cols0 t10_0.toNat).Kind ≠ (1 : Int)) ∧ ((lrd cols0 t10_0.toNat).Kind ≠ (2 : Int))) ∧ ((lrd cols0 t10_0.toNat).Kind ≠ (3 : Int))) ∧ ((lrd cols0 t10_0.toNat).Kind ≠ (4 : Int)))) fun t26'2 => (if t26'2 = true then some (.inr (.inl (2 : Int))) else if 0 ≤ t10_0 ∧ t10_0 ≤ (cols0.length : Int) then (g_ref_columnAt (cut cols0 (0 : Int) t10_0) ((lrd cols0 t10_0.toNat).Name)).bind fun r'3 => (if r'3 ≥ (0 : Int) then some (.inr (.inl (8 : Int))) else some (.inl (w64 (t10_0 + (1 : Int))))) else none)) else none else some (.inr (.inr ())))
noncomputable def g_ref_ColumnsFault (cols0 : List GColumn) : Option (Int) :=
  (if (cols0.length : Int) > (5 : Int) then some (1 : Int) else (loopO (g_ref_ColumnsFault_l0 cols0) (0 : Int)).bind fun o'7 => match o'7 with | .inl y'8 => some y'8 | .inr (y'9) => some (0 : Int))
set_option maxHeartbeats 4000000 in
set_option maxRecDepth 100000 in
theorem g_ref_ColumnsFault_ac {cols0 : List GColumn} {r : Int} (H : g_ref_ColumnsFault cols0 = some r) : ACp Tryd.prog 31 [(GColumn.ls cols0)] (AV.int r) := by
 refine ACp_of (AC2_of_body (vs := [.i r]) Tryd.func31 Y Y (lb Y) Y ?_) (fun _ => .same _)
 unfold g_ref_ColumnsFault at H
 refine as2 [(0, .p (GColumn.ls cols0))] [] Y (sg [0] Y (ra Y (rz [(0, _)] [] Y (AW2_seq (sg [0,1,2] Y (rm Y ?_))))))
 refine rp Y (p_lenl Y U28 Y Y) (rp Y (p_bin Y Y Y Y) (rz [(0, _), (7, .b (decide ((cols0.length : Int) > (5 : Int))))] [] Y (if2 H Y (fun h1 H => ?_) (fun h1 H => ?_))))
 ·refine sg [0] Y (ra Y (rz [(2, .i (1 : Int))] [] Y (AW2_ret ?_)))
  obtain rfl := se H
  exact ⟨⟨rt, trivial⟩, trivial⟩
 refine as2 [(0, _)] [] Y (AW2_skip (AW2_seq (sg [0,1,2] Y (rm Y (rp Y (p_lenl Y U28 Y Y) (rm Y ?_))))))
 refine rz [(0, _), (8, .p (GColumn.ls cols0)), (9, .i (cols0.length : Int)), (10, .i (0 : Int))] [] Y (AW2_block (as2 [(0, _), (8, _), (9, _), (10, _)] [] Y (bindK H fun o'7 h14 H => AW2_loopO (fun a'4 : Int => (⟨[(0, .p (GColumn.ls cols0)), (8, .p (GColumn.ls cols0)), (9, .i (cols0.length : Int)), (10, .i a'4)], [], 54⟩ : TS)) (fun (o : Int ⊕ Unit) e s' => match o with | .inl y'5 => e = Go.Exit.ret ∧ ResAll Tryd.prog s' [ResultVar.tmp 2] [.i y'5] ∧ HFits s' [] | .inr (y'6) => e = Go.Exit.exit 0 ∧ s' = (⟨[], [], 54⟩ : TS)) h14 Y (fun t10_0 x hx => ?_) (fun e s' hs => ?_))))
 ·clear H
  have H := hx
  clear hx
  unfold g_ref_ColumnsFault_l0 at H
  refine sg [0] Y (rp Y (p_bin Y Y Y Y) (rz [(0, .p (GColumn.ls cols0)), (8, .p (GColumn.ls cols0)), (9, .i (cols0.length : Int)), (10, .i t10_0), (11, .b (decide (t10_0 < (cols0.length : Int))))] [] Y (AW2_seq (if2 H Y (fun h2 H => ?_) (fun h2 H => ?_)))))
  ·refine as2 [(0, _), (8, _), (9, _), (10, _)] [] Y (AW2_skip (AW2_seq (AW2_block (sg [0,1,2,3,4,5] Y (rm Y (chkK H fun h3 H => ?_))))))
   refine rp Y (u_ixl Y Y U28 in_59 Y Y (ixe h3) (ixn h3) (fne (fun x => (GColumn.len x)) (by decide) (ixn h3))) (rp Y (u_lda Y Y U59 Y in_59 Y np (Sub.fm default (fun x => (GColumn.len x)) (ixn h3)) (GColumn.len (lrd cols0 t10_0.toNat))) (rq Y (MakeD.opD (u_alloc 4 Y in_59 one_59 zc_59) Y Y Y Y) (ra Y (rq Y (u_sw Y Y Y Y Y in_59 (GColumn.len (lrd cols0 t10_0.toNat)) (GColumn.len GColumn.zero) Y) (rz [(0, _), (3, .i t10_0), (4, .q 4 (0)), (8, _), (9, _), (10, _)] [(4, .pure (GColumn.cs (lrd cols0 t10_0.toNat)))] Y (AW2_block ?_))))))
   refine AW2_seq (bindK H fun r'1 h4 H => AW2_mid (⟨[(0, .p (GColumn.ls cols0)), (3, .i t10_0), (4, .q 4 (0)), (8, .p (GColumn.ls cols0)), (9, .i (cols0.length : Int)), (10, .i t10_0), (15, .b (decide (((!r'1) = true) ∨ ((((lrd cols0 t10_0.toNat).Name).length : Int) > (8 : Int)))))], [(4, .pure (GColumn.cs (lrd cols0 t10_0.toNat)))], 54⟩ : TS) ?_ ?_)
   ·refine AW2_reg [0,1,2,3,4,5,6,7,8,9,10] Y (rf Y U59 Y in_9 Y Y (GColumn.len (lrd cols0 t10_0.toNat)) (rp Y (u_ld Y Y U9 Y Y (GColumn.sub0 (lrd cols0 t10_0.toNat))) (rp Y (p_callp Y Y Y Tryd.func41 Y Y (g_ref_isName_ac h4) ⟨Y, trivial⟩) (rp Y (p_not Y Y) (rm Y ?_)))))
    refine (Classical.em ((!r'1) = true)).elim (fun h5 => ?_) (fun h5 => ?_)
    ·exact rO Y h5 Y (rO Y h5 Y (rO Y h5 Y (rO Y h5 Y (rp Y (p_pkt Y Y h5 (tb (dT (p := ((!r'1) = true) ∨ ((((lrd cols0 t10_0.toNat).Name).length : Int) > (8 : Int))) (Or.inl h5)).symm)) (ra Y (rend Y Y))))))
    exact rn Y (bfalse h5) Y (u_fa Y Y U59 Y in_9 nz Y Y (nl (GColumn.len (lrd cols0 t10_0.toNat)))) (rn Y (bfalse h5) Y (u_ld Y Y U9 Y Y (GColumn.sub0 (lrd cols0 t10_0.toNat))) (rn Y (bfalse h5) Y (p_lent Y U9 Y) (rn Y (bfalse h5) Y (p_bin Y Y Y Y) (rp Y (p_pkf Y Y (bfalse h5) (tb ((or_l (p := (!r'1) = true) (q := (((lrd cols0 t10_0.toNat).Name).length : Int) > (8 : Int)) h5)))) (ra Y (rend Y Y))))))
   refine if2 H Y (fun h6 H => ?_) (fun h6 H => ?_)
   ·refine sg [0] Y (ra Y (rz [(2, .i (3 : Int))] [] Y (AW2_ret ?_)))
    obtain rfl := se H
    exact ⟨Y, ⟨rt, trivial⟩, trivial⟩
   refine AW2_seq (AW2_mid (⟨[(0, .p (GColumn.ls cols0)), (3, .i t10_0), (4, .q 4 (0)), (8, .p (GColumn.ls cols0)), (9, .i (cols0.length : Int)), (10, .i t10_0), (26, .b (decide (((((lrd cols0 t10_0.toNat).Kind ≠ (1 : Int)) ∧ ((lrd cols0 t10_0.toNat).Kind ≠ (2 : Int))) ∧ ((lrd cols0 t10_0.toNat).Kind ≠ (3 : Int))) ∧ ((lrd cols0 t10_0.toNat).Kind ≠ (4 : Int)))))], [(4, .pure (GColumn.cs (lrd cols0 t10_0.toNat)))], 54⟩ : TS) ?_ ?_)
   ·refine AW2_reg [0,1,2,3,4,5,6,7,8,9,10,11,12,13,14,15,16,17,18] Y (rf Y U59 Y in_3 Y Y (GColumn.len (lrd cols0 t10_0.toNat)) (rp Y (u_ld Y Y U3 Y Y (GColumn.sub1 (lrd cols0 t10_0.toNat))) (rp Y (p_ine Y Y Y) (rm Y ?_))))
    refine (Classical.em ((lrd cols0 t10_0.toNat).Kind ≠ (1 : Int))).elim (fun h7 => ?_) (fun h7 => ?_)
    ·refine rn Y (dT h7) Y (u_fa Y Y U59 Y in_3 nz Y Y (nl (GColumn.len (lrd cols0 t10_0.toNat)))) (rn Y (dT h7) Y (u_ld Y Y U3 Y Y (GColumn.sub1 (lrd cols0 t10_0.toNat))) (rn Y (dT h7) Y (p_ine Y Y Y) (rp Y (p_pkt Y Y (dT h7) (tb ((and_l (p := (lrd cols0 t10_0.toNat).Kind ≠ (1 : Int)) (q := (lrd cols0 t10_0.toNat).Kind ≠ (2 : Int)) h7)))) (rm Y ?_))))
     refine (Classical.em ((lrd cols0 t10_0.toNat).Kind ≠ (2 : Int))).elim (fun h8 => ?_) (fun h8 => ?_)
     ·refine rn Y (dT (p := ((lrd cols0 t10_0.toNat).Kind ≠ (1 : Int)) ∧ ((lrd cols0 t10_0.toNat).Kind ≠ (2 : Int))) ⟨h7, h8⟩) Y (u_fa Y Y U59 Y in_3 nz Y Y (nl (GColumn.len (lrd cols0 t10_0.toNat)))) (rn Y (dT (p := ((lrd cols0 t10_0.toNat).Kind ≠ (1 : Int)) ∧ ((lrd cols0 t10_0.toNat).Kind ≠ (2 : Int))) ⟨h7, h8⟩) Y (u_ld Y Y U3 Y Y (GColumn.sub1 (lrd cols0 t10_0.toNat))) (rn Y (dT (p := ((lrd cols0 t10_0.toNat).Kind ≠ (1 : Int)) ∧ ((lrd cols0 t10_0.toNat).Kind ≠ (2 : Int))) ⟨h7, h8⟩) Y (p_ine Y Y Y) (rp Y (p_pkt Y Y (dT (p := ((lrd cols0 t10_0.toNat).Kind ≠ (1 : Int)) ∧ ((lrd cols0 t10_0.toNat).Kind ≠ (2 : Int))) ⟨h7, h8⟩) (tb ((and_l (p := ((lrd cols0 t10_0.toNat).Kind ≠ (1 : Int)) ∧ ((lrd cols0 t10_0.toNat).Kind ≠ (2 : Int))) (q := (lrd cols0 t10_0.toNat).Kind ≠ (3 : Int)) ⟨h7, h8⟩)))) (rm Y ?_))))
      refine (Classical.em ((lrd cols0 t10_0.toNat).Kind ≠ (3 : Int))).elim (fun h9 => ?_) (fun h9 => ?_)
      ·exact rn Y (dT (p := (((lrd cols0 t10_0.toNat).Kind ≠ (1 : Int)) ∧ ((lrd cols0 t10_0.toNat).Kind ≠ (2 : Int))) ∧ ((lrd cols0 t10_0.toNat).Kind ≠ (3 : Int))) ⟨⟨h7, h8⟩, h9⟩) Y (u_fa Y Y U59 Y in_3 nz Y Y (nl (GColumn.len (lrd cols0 t10_0.toNat)))) (rn Y (dT (p := (((lrd cols0 t10_0.toNat).Kind ≠ (1 : Int)) ∧ ((lrd cols0 t10_0.toNat).Kind ≠ (2 : Int))) ∧ ((lrd cols0 t10_0.toNat).Kind ≠ (3 : Int))) ⟨⟨h7, h8⟩, h9⟩) Y (u_ld Y Y U3 Y Y (GColumn.sub1 (lrd cols0 t10_0.toNat))) (rn Y (dT (p := (((lrd cols0 t10_0.toNat).Kind ≠ (1 : Int)) ∧ ((lrd cols0 t10_0.toNat).Kind ≠ (2 : Int))) ∧ ((lrd cols0 t10_0.toNat).Kind ≠ (3 : Int))) ⟨⟨h7, h8⟩, h9⟩) Y (p_ine Y Y Y) (rp Y (p_pkt Y Y (dT (p := (((lrd cols0 t10_0.toNat).Kind ≠ (1 : Int)) ∧ ((lrd cols0 t10_0.toNat).Kind ≠ (2 : Int))) ∧ ((lrd cols0 t10_0.toNat).Kind ≠ (3 : Int))) ⟨⟨h7, h8⟩, h9⟩) (tb ((and_l (p := (((lrd cols0 t10_0.toNat).Kind ≠ (1 : Int)) ∧ ((lrd cols0 t10_0.toNat).Kind ≠ (2 : Int))) ∧ ((lrd cols0 t10_0.toNat).Kind ≠ (3 : Int))) (q := (lrd cols0 t10_0.toNat).Kind ≠ (4 : Int)) ⟨⟨h7, h8⟩, h9⟩)))) (ra Y (rend Y Y)))))
      exact rO Y (dF (p := (((lrd cols0 t10_0.toNat).Kind ≠ (1 : Int)) ∧ ((lrd cols0 t10_0.toNat).Kind ≠ (2 : Int))) ∧ ((lrd cols0 t10_0.toNat).Kind ≠ (3 : Int))) (fun h => h9 h.2)) Y (rO Y (dF (p := (((lrd cols0 t10_0.toNat).Kind ≠ (1 : Int)) ∧ ((lrd cols0 t10_0.toNat).Kind ≠ (2 : Int))) ∧ ((lrd cols0 t10_0.toNat).Kind ≠ (3 : Int))) (fun h => h9 h.2)) Y (rO Y (dF (p := (((lrd cols0 t10_0.toNat).Kind ≠ (1 : Int)) ∧ ((lrd cols0 t10_0.toNat).Kind ≠ (2 : Int))) ∧ ((lrd cols0 t10_0.toNat).Kind ≠ (3 : Int))) (fun h => h9 h.2)) Y (rp Y (p_pkf Y Y (dF (p := (((lrd cols0 t10_0.toNat).Kind ≠ (1 : Int)) ∧ ((lrd cols0 t10_0.toNat).Kind ≠ (2 : Int))) ∧ ((lrd cols0 t10_0.toNat).Kind ≠ (3 : Int))) (fun h => h9 h.2)) (tb (dF (p := ((((lrd cols0 t10_0.toNat).Kind ≠ (1 : Int)) ∧ ((lrd cols0 t10_0.toNat).Kind ≠ (2 : Int))) ∧ ((lrd cols0 t10_0.toNat).Kind ≠ (3 : Int))) ∧ ((lrd cols0 t10_0.toNat).Kind ≠ (4 : Int))) (fun x => (fun h => h9 h.2) x.1)).symm)) (ra Y (rend Y Y)))))
     refine rO Y (dF (p := ((lrd cols0 t10_0.toNat).Kind ≠ (1 : Int)) ∧ ((lrd cols0 t10_0.toNat).Kind ≠ (2 : Int))) (fun h => h8 h.2)) Y (rO Y (dF (p := ((lrd cols0 t10_0.toNat).Kind ≠ (1 : Int)) ∧ ((lrd cols0 t10_0.toNat).Kind ≠ (2 : Int))) (fun h => h8 h.2)) Y (rO Y (dF (p := ((lrd cols0 t10_0.toNat).Kind ≠ (1 : Int)) ∧ ((lrd cols0 t10_0.toNat).Kind ≠ (2 : Int))) (fun h => h8 h.2)) Y (rp Y (p_pkf Y Y (dF (p := ((lrd cols0 t10_0.toNat).Kind ≠ (1 : Int)) ∧ ((lrd cols0 t10_0.toNat).Kind ≠ (2 : Int))) (fun h => h8 h.2)) (tb (dF (p := (((lrd cols0 t10_0.toNat).Kind ≠ (1 : Int)) ∧ ((lrd cols0 t10_0.toNat).Kind ≠ (2 : Int))) ∧ ((lrd cols0 t10_0.toNat).Kind ≠ (3 : Int))) (fun x => (fun h => h8 h.2) x.1)).symm)) (rm Y (rO Y (dF (p := (((lrd cols0 t10_0.toNat).Kind ≠ (1 : Int)) ∧ ((lrd cols0 t10_0.toNat).Kind ≠ (2 : Int))) ∧ ((lrd cols0 t10_0.toNat).Kind ≠ (3 : Int))) (fun h => (fun h => h8 h.2) h.1)) Y (rO Y (dF (p := (((lrd cols0 t10_0.toNat).Kind ≠ (1 : Int)) ∧ ((lrd cols0 t10_0.toNat).Kind ≠ (2 : Int))) ∧ ((lrd cols0 t10_0.toNat).Kind ≠ (3 : Int))) (fun h => (fun h => h8 h.2) h.1)) Y ?_))))))
     exact rO Y (dF (p := (((lrd cols0 t10_0.toNat).Kind ≠ (1 : Int)) ∧ ((lrd cols0 t10_0.toNat).Kind ≠ (2 : Int))) ∧ ((lrd cols0 t10_0.toNat).Kind ≠ (3 : Int))) (fun h => (fun h => h8 h.2) h.1)) Y (rp Y (p_pkf Y Y (dF (p := (((lrd cols0 t10_0.toNat).Kind ≠ (1 : Int)) ∧ ((lrd cols0 t10_0.toNat).Kind ≠ (2 : Int))) ∧ ((lrd cols0 t10_0.toNat).Kind ≠ (3 : Int))) (fun h => (fun h => h8 h.2) h.1)) (tb (dF (p := ((((lrd cols0 t10_0.toNat).Kind ≠ (1 : Int)) ∧ ((lrd cols0 t10_0.toNat).Kind ≠ (2 : Int))) ∧ ((lrd cols0 t10_0.toNat).Kind ≠ (3 : Int))) ∧ ((lrd cols0 t10_0.toNat).Kind ≠ (4 : Int))) (fun x => (fun h => (fun h => h8 h.2) h.1) x.1)).symm)) (ra Y (rend Y Y)))
    refine rO Y (dF h7) Y (rO Y (dF h7) Y (rO Y (dF h7) Y (rp Y (p_pkf Y Y (dF h7) (tb (dF (p := ((lrd cols0 t10_0.toNat).Kind ≠ (1 : Int)) ∧ ((lrd cols0 t10_0.toNat).Kind ≠ (2 : Int))) (fun x => h7 x.1)).symm)) (rm Y (rO Y (dF (p := ((lrd cols0 t10_0.toNat).Kind ≠ (1 : Int)) ∧ ((lrd cols0 t10_0.toNat).Kind ≠ (2 : Int))) (fun h => h7 h.1)) Y (rO Y (dF (p := ((lrd cols0 t10_0.toNat).Kind ≠ (1 : Int)) ∧ ((lrd cols0 t10_0.toNat).Kind ≠ (2 : Int))) (fun h => h7 h.1)) Y ?_))))))
    refine rO Y (dF (p := ((lrd cols0 t10_0.toNat).Kind ≠ (1 : Int)) ∧ ((lrd cols0 t10_0.toNat).Kind ≠ (2 : Int))) (fun h => h7 h.1)) Y (rp Y (p_pkf Y Y (dF (p := ((lrd cols0 t10_0.toNat).Kind ≠ (1 : Int)) ∧ ((lrd cols0 t10_0.toNat).Kind ≠ (2 : Int))) (fun h => h7 h.1)) (tb (dF (p := (((lrd cols0 t10_0.toNat).Kind ≠ (1 : Int)) ∧ ((lrd cols0 t10_0.toNat).Kind ≠ (2 : Int))) ∧ ((lrd cols0 t10_0.toNat).Kind ≠ (3 : Int))) (fun x => (fun h => h7 h.1) x.1)).symm)) (rm Y (rO Y (dF (p := (((lrd cols0 t10_0.toNat).Kind ≠ (1 : Int)) ∧ ((lrd cols0 t10_0.toNat).Kind ≠ (2 : Int))) ∧ ((lrd cols0 t10_0.toNat).Kind ≠ (3 : Int))) (fun h => (fun h => h7 h.1) h.1)) Y (rO Y (dF (p := (((lrd cols0 t10_0.toNat).Kind ≠ (1 : Int)) ∧ ((lrd cols0 t10_0.toNat).Kind ≠ (2 : Int))) ∧ ((lrd cols0 t10_0.toNat).Kind ≠ (3 : Int))) (fun h => (fun h => h7 h.1) h.1)) Y (rO Y (dF (p := (((lrd cols0 t10_0.toNat).Kind ≠ (1 : Int)) ∧ ((lrd cols0 t10_0.toNat).Kind ≠ (2 : Int))) ∧ ((lrd cols0 t10_0.toNat).Kind ≠ (3 : Int))) (fun h => (fun h => h7 h.1) h.1)) Y (rp Y (p_pkf Y Y (dF (p := (((lrd cols0 t10_0.toNat).Kind ≠ (1 : Int)) ∧ ((lrd cols0 t10_0.toNat).Kind ≠ (2 : Int))) ∧ ((lrd cols0 t10_0.toNat).Kind ≠ (3 : Int))) (fun h => (fun h => h7 h.1) h.1)) (tb (dF (p := ((((lrd cols0 t10_0.toNat).Kind ≠ (1 : Int)) ∧ ((lrd cols0 t10_0.toNat).Kind ≠ (2 : Int))) ∧ ((lrd cols0 t10_0.toNat).Kind ≠ (3 : Int))) ∧ ((lrd cols0 t10_0.toNat).Kind ≠ (4 : Int))) (fun x => (fun h => (fun h => h7 h.1) h.1) x.1)).symm)) ?_))))))
    exact ra Y (rend Y Y)
   refine gen1 (fun t26'2 => (⟨[(0, .p (GColumn.ls cols0)), (3, .i t10_0), (4, .q 4 (0)), (8, .p (GColumn.ls cols0)), (9, .i (cols0.length : Int)), (10, .i t10_0), (26, .b t26'2)], [(4, .pure (GColumn.cs (lrd cols0 t10_0.toNat)))], 54⟩ : TS)) H ?_
   intro t26'2 H
   refine AW2_cond Y (fun h10 => ?_) (fun h10 => ?_)
   ·replace H := ite_then h10 H
    refine sg [0] Y (ra Y (rz [(2, .i (2 : Int))] [] Y (AW2_ret ?_)))
    obtain rfl := se H
    exact ⟨Y, ⟨rt, trivial⟩, trivial⟩
   replace H := ite_else (ne_true h10) H
   refine AW2_seq (chkK H fun h11 H => bindK H fun r'3 h12 H => AW2_ghoQ (AW2_draw 5 [5,6,7] (fun k => ([.p (GColumn.ls cols0), .i t10_0, .p (GColumn.ls (cut cols0 (0 : Int) t10_0)), .q 4 (0 + 0), .t ((lrd cols0 t10_0.toNat).Name)] : List TV).getD k TV.any) (fun k => g_ref_ColumnsFault_r10.getD k []) [(0, none), (8, none), (9, none), (10, none), (48, some 2), (50, some 4)] [] (fun k => g_ref_ColumnsFault_r10c.getD k []) mixed (by kernel_rfl) Y Y (a_op (g_x Y (x_p Y (p_move Y Y) Y)) (a_op (g_x Y (x_p Y (p_move Y Y) Y)) (a_op (g_x Y (x_p Y (u_cutl (g := (fun l => l.flatMap GColumn.cs)) (a := (0 : Int)) (b := t10_0) Y Y U28 in_59 Y bT_zero (bT_i (Int.le_trans (show 0 ≤ (0 : Int) ∧ (0 : Int) ≤ t10_0 ∧ t10_0 ≤ (cols0.length : Int) from ⟨Int.le_refl _, h11.1, h11.2⟩).1 (show 0 ≤ (0 : Int) ∧ (0 : Int) ≤ t10_0 ∧ t10_0 ≤ (cols0.length : Int) from ⟨Int.le_refl _, h11.1, h11.2⟩).2.1) Y) (.inl Y) (show 0 ≤ (0 : Int) ∧ (0 : Int) ≤ t10_0 ∧ t10_0 ≤ (cols0.length : Int) from ⟨Int.le_refl _, h11.1, h11.2⟩) (g_fm (fun x => (GColumn.len x)))) Y)) (a_op (g_x Y (x_p Y (u_fa Y Y U59 Y in_9 nz Y Y (nl (GColumn.len (lrd cols0 t10_0.toNat)))) Y)) (a_op (g_x Y (x_p Y (u_ld Y Y U9 Y Y (GColumn.sub0 (lrd cols0 t10_0.toNat))) Y)) (a_nil)))))) (t_op Y Y (PureD.opD (p_callp Y Y Y Tryd.func33 Y Y (g_ref_columnAt_ac h12) ⟨Y, Y, trivial⟩)) (t_op Y Y (PureD.opD (p_bin Y Y Y Y)) ?_))))
   refine t_op Y Y (PureD.opD (p_asg Y Y)) (t_gho (Gho_st (L := [(0, .p (GColumn.ls cols0)), (8, .p (GColumn.ls cols0)), (9, .i (cols0.length : Int)), (10, .i t10_0), (45, .b (decide (r'3 ≥ (0 : Int))))]) (H := []) (N := 54) Y ⟨TLes.same _, TLes.same _, TLes.same _, TLes.same _, TLes.same _, trivial⟩ trivial) (if2 H Y (fun h13 H => ?_) (fun h13 H => ?_)))
   ·refine sg [0] Y (ra Y (rz [(2, .i (8 : Int))] [] Y (AW2_ret ?_)))
    obtain rfl := se H
    exact ⟨Y, ⟨rt, trivial⟩, trivial⟩
   refine as2 [(0, .p (GColumn.ls cols0)), (8, .p (GColumn.ls cols0)), (9, .i (cols0.length : Int)), (10, .i t10_0)] [] Y (AW2_skip (AW2_reg [0,1] Y (rp Y (p_bin Y Y Y Y) (rm Y (rz [(0, _), (8, _), (9, _), (10, .i (w64 (t10_0 + (1 : Int))))] [] Y ?_)))))
   obtain rfl := se H
   exact ⟨Y, Y⟩
  refine as2 [] [] Y (AW2_exit (thenQ2_exit ?_))
  obtain rfl := se H
  exact ⟨Y, Y⟩
 rcases o'7 with y'8 | y'9
 ·obtain ⟨rfl, hs⟩ := hs
  refine ⟨by simp, ?_⟩
  obtain rfl := se H
  exact ⟨hs.1, hs.2⟩
 obtain ⟨rfl, rfl⟩ := hs
 refine ⟨by simp, ?_⟩
 refine blockQ2_exit (sg [0] Y (ra Y (rz [(2, .i (0 : Int))] [] Y (AW2_ret ?_))))
 obtain rfl := se H
 exact ⟨⟨rt, trivial⟩, trivial⟩
def g_ref_RowFault_r15 : List (List (Nat × Option Nat)) := [[(7, none)], [(40, some 0)], [(1, none)], [(6, none)], [(42, some 2), (43, some 3)], [(44, some 4)], [(45, some 5)]]
def g_ref_RowFault_r15c : List (List Nat) := [[], [0], [], [], [2, 3], [2, 3, 4], [2, 3, 4, 5], [0, 1, 2, 3, 4, 5, 6]]
noncomputable def g_ref_RowFault_l0 (row0 : List GValue) (cols1 : List GColumn) : Int → Option (Int ⊕ (Int ⊕ Unit))
  | t21_0 => (if t21_0 < (row0.length : Int) then (show Option (Int ⊕ Unit) from if 0 ≤ t21_0 ∧ t21_0 < (row0.length : Int) then (g_ref_ValueFault (lrd row0 t21_0.toNat)).bind fun r'3 => (if r'3 ≠ (0 : Int) then some (.inl r'3) else (if (lrd row0 t21_0.toNat).Kind = (0 : Int) then if 0 ≤ t21_0 ∧ t21_0 < (cols1.length : Int) then (if (!((lrd cols1 t21_0.toNat).Null)) = true then some (.inl (12 : Int)) else some (.inr ())) else none else if 0 ≤ t21_0 ∧ t21_0 < (cols1.length : Int) then (if (lrd row0 t21_0.toNat).Kind ≠ (lrd cols1 t21_0.toNat).Kind then some (.inl (2 : Int)) else some (.inr ())) else none)) else none).bind fun o'5 => match o'5 with | .inl y'4 => some (.inr (.inl y'4)) | .inr j'2 => some (.inl (w64 (t21_0 + (1 : Int)))) else some (.inr (.inr ())))
noncomputable def g_ref_RowFault (row0 : List GValue) (cols1 : List GColumn) : Option (Int) :=
  (g_ref_ColumnsFault cols1).bind fun r'1 => (if r'1 ≠ (0 : Int) then some r'1 else (if (row0.length : Int) ≠ (cols1.length : Int) then some (1 : Int) else (loopO (g_ref_RowFault_l0 row0 cols1) (0 : Int)).bind fun o'9 => match o'9 with | .inl y'10 => some y'10 | .inr (y'11) => some (0 : Int)))
set_option maxHeartbeats 4000000 in
set_option maxRecDepth 100000 in
theorem g_ref_RowFault_ac {row0 : List GValue} {cols1 : List GColumn} {r : Int} (H : g_ref_RowFault row0 cols1 = some r) : ACp Tryd.prog 17 [(GValue.ls row0), (GColumn.ls cols1)] (AV.int r) := by
 refine ACp_of (AC2_of_body (vs := [.i r]) Tryd.func17 Y Y (lb Y) Y ?_) (fun _ => .same _)
 unfold g_ref_RowFault at H
 refine as2 [(0, .p (GValue.ls row0)), (1, .p (GColumn.ls cols1))] [] Y (sg [0] Y (ra Y (rz [(0, _), (1, _)] [] Y (AW2_seq (sg [0,1,2] Y (rm Y ?_))))))
 refine bindK H fun r'1 h1 H => rp Y (p_callp Y Y Y Tryd.func31 Y Y (g_ref_ColumnsFault_ac h1) ⟨Y, trivial⟩) (ra Y (rz [(0, _), (1, _), (5, .i r'1)] [] Y (sg [0,1] Y (rm Y (rp Y (p_ine Y Y Y) ?_)))))
 refine rz [(0, _), (1, _), (5, _), (12, .b (decide (r'1 ≠ (0 : Int))))] [] Y (if2 H Y (fun h2 H => ?_) (fun h2 H => ?_))
 ·refine sg [0,1] Y (rm Y (ra Y (rz [(4, .i r'1)] [] Y (AW2_ret ?_))))
  obtain rfl := se H
  exact ⟨⟨rt, trivial⟩, trivial⟩
 refine as2 [(0, _), (1, _)] [] Y (AW2_skip (AW2_seq (sg [0,1,2,3,4] Y (rm Y (rp Y (p_lenl Y U29 Y Y) (rm Y ?_))))))
 refine rp Y (p_lenl Y U28 Y Y) (rp Y (p_ine Y Y Y) (rz [(0, _), (1, _), (18, .b (decide ((row0.length : Int) ≠ (cols1.length : Int))))] [] Y (if2 H Y (fun h3 H => ?_) (fun h3 H => ?_))))
 ·refine sg [0] Y (ra Y (rz [(4, .i (1 : Int))] [] Y (AW2_ret ?_)))
  obtain rfl := se H
  exact ⟨⟨rt, trivial⟩, trivial⟩
 refine as2 [(0, _), (1, _)] [] Y (AW2_skip (AW2_seq (sg [0,1,2] Y (rm Y (rp Y (p_lenl Y U29 Y Y) (rm Y ?_))))))
 refine rz [(1, _), (19, .p (GValue.ls row0)), (20, .i (row0.length : Int)), (21, .i (0 : Int))] [] Y (AW2_block (as2 [(1, _), (19, _), (20, _), (21, _)] [] Y (bindK H fun o'9 h14 H => AW2_loopO (fun a'6 : Int => (⟨[(1, .p (GColumn.ls cols1)), (19, .p (GValue.ls row0)), (20, .i (row0.length : Int)), (21, .i a'6)], [], 49⟩ : TS)) (fun (o : Int ⊕ Unit) e s' => match o with | .inl y'7 => e = Go.Exit.ret ∧ ResAll Tryd.prog s' [ResultVar.tmp 4] [.i y'7] ∧ HFits s' [] | .inr (y'8) => e = Go.Exit.exit 0 ∧ s' = (⟨[], [], 49⟩ : TS)) h14 Y (fun t21_0 x hx => ?_) (fun e s' hs => ?_))))
 ·clear H
  have H := hx
  clear hx
  unfold g_ref_RowFault_l0 at H
  refine sg [0] Y (rp Y (p_bin Y Y Y Y) (rz [(1, .p (GColumn.ls cols1)), (19, .p (GValue.ls row0)), (20, .i (row0.length : Int)), (21, .i t21_0), (22, .b (decide (t21_0 < (row0.length : Int))))] [] Y (AW2_seq (if2 H Y (fun h4 H => ?_) (fun h4 H => ?_)))))
  ·refine as2 [(1, _), (19, _), (20, _), (21, _)] [] Y (AW2_skip (AW2_seq (bindK H fun o'5 h5 H => AW2_join (fun j'2 : Unit => (⟨[(1, .p (GColumn.ls cols1)), (19, .p (GValue.ls row0)), (20, .i (row0.length : Int)), (21, .i t21_0)], [], 49⟩ : TS)) (fun r e s' => e = Go.Exit.ret ∧ ResAll Tryd.prog s' [ResultVar.tmp 4] [.i r] ∧ HFits s' []) (x := o'5) ?_ (fun j'2 hy => ?_) (fun y'4 e s' hy hs => ?_))))
   ·clear H
    have H := h5
    clear h5
    refine AW2_block (sg [0,1,2,3,4,5] Y (rm Y (chkK H fun h6 H => rp Y (u_ixl Y Y U29 in_24 Y Y (ixe h6) (ixn h6) (fne (fun x => (GValue.len x)) (by decide) (ixn h6))) (rp Y (u_lda Y Y U24 Y in_24 Y np (Sub.fm default (fun x => (GValue.len x)) (ixn h6)) (GValue.len (lrd row0 t21_0.toNat))) (rq Y (MakeD.opD (u_alloc 7 Y in_24 one_24 zc_24) Y Y Y Y) ?_)))))
    refine ra Y (rq Y (u_sw Y Y Y Y Y in_24 (GValue.len (lrd row0 t21_0.toNat)) (GValue.len GValue.zero) Y) (rz [(1, .p (GColumn.ls cols1)), (6, .i t21_0), (7, .q 7 (0)), (19, .p (GValue.ls row0)), (20, .i (row0.length : Int)), (21, .i t21_0)] [(7, .pure (GValue.cs (lrd row0 t21_0.toNat)))] Y (AW2_seq (sg [0,1,2] Y (rp Y (u_lda Y Y U24 Y in_24 Y np (Sub.refl _) (GValue.len (lrd row0 t21_0.toNat))) (bindK H fun r'3 h7 H => ?_))))))
    refine rp Y (p_callp Y Y Y Tryd.func32 Y Y (g_ref_ValueFault_ac h7) ⟨Y, trivial⟩) (ra Y (rz [(1, _), (6, _), (7, _), (8, .i r'3), (19, _), (20, _), (21, _)] [(7, _)] Y (sg [0,1] Y (rm Y (rp Y (p_ine Y Y Y) (rz [(1, _), (6, _), (7, _), (8, _), (19, _), (20, _), (21, _), (29, .b (decide (r'3 ≠ (0 : Int))))] [(7, _)] Y ?_))))))
    refine if2 H Y (fun h8 H => ?_) (fun h8 H => ?_)
    ·refine sg [0,1] Y (rm Y (ra Y (rz [(4, .i r'3)] [] Y (AW2_ret ?_))))
     obtain rfl := se H
     exact ⟨Y, ⟨rt, trivial⟩, trivial⟩
    refine as2 [(1, _), (6, _), (7, _), (19, _), (20, _), (21, _)] [(7, _)] Y (AW2_skip (sg [0,1,2] Y (rf Y U24 Y in_3 Y Y (GValue.len (lrd row0 t21_0.toNat)) (rp Y (u_ld Y Y U3 Y Y (GValue.sub0 (lrd row0 t21_0.toNat))) (rp Y (p_ieq Y Y Y) (rz [(1, _), (6, _), (7, _), (19, _), (20, _), (21, _), (33, .b (decide ((lrd row0 t21_0.toNat).Kind = (0 : Int))))] [(7, _)] Y ?_))))))
    refine if2 H Y (fun h9 H => ?_) (fun h9 H => ?_)
    ·refine sg [0,1,2,3,4,5] Y (rm Y (rm Y (chkK H fun h10 H => rp Y (u_ixl Y Y U28 in_59 Y Y (ixe h10) (ixn h10) (fne (fun x => (GColumn.len x)) (by decide) (ixn h10))) (rp Y (u_far Y Y U59 Y in_4 nz Y) (rp Y (u_ld Y Y U4 Y Y ((Sub.fm default (fun x => (GColumn.len x)) (ixn h10)).trans (GColumn.sub2 (lrd cols1 t21_0.toNat)))) ?_)))))
     refine rp Y (p_not Y Y) (rz [(1, _), (19, _), (20, _), (21, _), (39, .b (!((lrd cols1 t21_0.toNat).Null)))] [] Y (AW2_cond Y (fun h11 => ?_) (fun h11 => ?_)))
     ·replace H := ite_then h11 H
      refine sg [0] Y (ra Y (rz [(4, .i (12 : Int))] [] Y (AW2_ret ?_)))
      obtain rfl := se H
      exact ⟨Y, ⟨rt, trivial⟩, trivial⟩
     replace H := ite_else (ne_true h11) H
     refine as2 [(1, .p (GColumn.ls cols1)), (19, .p (GValue.ls row0)), (20, .i (row0.length : Int)), (21, .i t21_0)] [] Y (AW2_skip ?_)
     obtain rfl := se H
     exact ⟨Y, Y⟩
    refine AW2_seq (chkK H fun h12 H => AW2_ghoQ (AW2_draw 7 [7] (fun k => ([.q 7 (0 + 0), .i ((lrd row0 t21_0.toNat).Kind), .p (GColumn.ls cols1), .i t21_0, .p (.rptr (cols1.flatMap GColumn.cs) (t21_0.toNat * 3)), .p (.rptr (cols1.flatMap GColumn.cs) (t21_0.toNat * 3 + 1)), .i ((lrd cols1 t21_0.toNat).Kind)] : List TV).getD k TV.any) (fun k => g_ref_RowFault_r15.getD k []) [(1, none), (19, none), (20, none), (21, none), (41, some 1), (46, some 6)] [] (fun k => g_ref_RowFault_r15c.getD k []) mixed (by kernel_rfl) Y Y (a_op (g_x Y (x_p Y (u_fa Y Y U24 Y in_3 nz Y Y (nl (GValue.len (lrd row0 t21_0.toNat)))) Y)) (a_op (g_x Y (x_p Y (u_ld Y Y U3 Y Y (GValue.sub0 (lrd row0 t21_0.toNat))) Y)) (a_op (g_x Y (x_p Y (p_move Y Y) Y)) (a_op (g_x Y (x_p Y (p_move Y Y) Y)) (a_op (g_x Y (x_p Y (u_ixl Y Y U28 in_59 Y Y (ixe h12) (ixn h12) (fne (fun x => (GColumn.len x)) (by decide) (ixn h12))) Y)) (a_op (g_x Y (x_p Y (u_far Y Y U59 Y in_3 nz Y) Y)) (a_op (g_x Y (x_p Y (u_ld Y Y U3 Y Y ((Sub.fm default (fun x => (GColumn.len x)) (ixn h12)).trans (GColumn.sub1 (lrd cols1 t21_0.toNat)))) Y)) (a_nil)))))))) (t_op Y Y (PureD.opD (p_ine Y Y Y)) (t_gho (Gho_st (L := [(1, .p (GColumn.ls cols1)), (19, .p (GValue.ls row0)), (20, .i (row0.length : Int)), (21, .i t21_0), (47, .b (decide ((lrd row0 t21_0.toNat).Kind ≠ (lrd cols1 t21_0.toNat).Kind)))]) (H := []) (N := 49) Y ⟨TLes.same _, TLes.same _, TLes.same _, TLes.same _, TLes.same _, trivial⟩ trivial) (if2 H Y (fun h13 H => ?_) (fun h13 H => ?_))))))
    ·refine sg [0] Y (ra Y (rz [(4, .i (2 : Int))] [] Y (AW2_ret ?_)))
     obtain rfl := se H
     exact ⟨Y, ⟨rt, trivial⟩, trivial⟩
    refine as2 [(1, .p (GColumn.ls cols1)), (19, .p (GValue.ls row0)), (20, .i (row0.length : Int)), (21, .i t21_0)] [] Y (AW2_skip ?_)
    obtain rfl := se H
    exact ⟨Y, Y⟩
   ·subst hy
    refine AW2_reg [0,1] Y (rp Y (p_bin Y Y Y Y) (rm Y (rz [(1, .p (GColumn.ls cols1)), (19, .p (GValue.ls row0)), (20, .i (row0.length : Int)), (21, .i (w64 (t21_0 + (1 : Int))))] [] Y ?_)))
    obtain rfl := se H
    exact ⟨Y, Y⟩
   subst hy
   obtain ⟨rfl, hs⟩ := hs
   obtain rfl := se H
   exact ⟨Y, hs.1, hs.2⟩
  refine as2 [] [] Y (AW2_exit (thenQ2_exit ?_))
  obtain rfl := se H
  exact ⟨Y, Y⟩
 rcases o'9 with y'10 | y'11
 ·obtain ⟨rfl, hs⟩ := hs
  refine ⟨by simp, ?_⟩
  obtain rfl := se H
  exact ⟨hs.1, hs.2⟩
 obtain ⟨rfl, rfl⟩ := hs
 refine ⟨by simp, ?_⟩
 refine blockQ2_exit (sg [0] Y (ra Y (rz [(4, .i (0 : Int))] [] Y (AW2_ret ?_))))
 obtain rfl := se H
 exact ⟨⟨rt, trivial⟩, trivial⟩
noncomputable def g_ref_asksFor (op0 : Int) : Option (Int × Int) :=
  ((if op0 = (3 : Int) then some (decide (op0 = (3 : Int))) else (if op0 = (5 : Int) then some (decide (op0 = (5 : Int))) else (if op0 = (6 : Int) then some (decide (op0 = (6 : Int))) else (if op0 = (7 : Int) then some (decide (op0 = (7 : Int))) else some (decide (op0 = (8 : Int)))))))).bind fun j'1 => (if j'1 = true then some ((2 : Int), (2 : Int)) else ((if op0 = (4 : Int) then some (decide (op0 = (4 : Int))) else (if op0 = (15 : Int) then some (decide (op0 = (15 : Int))) else some (decide (op0 = (16 : Int)))))).bind fun j'2 => (if j'2 = true then some ((1 : Int), (1 : Int)) else (if op0 = (18 : Int) then some ((4 : Int), (2 : Int)) else (if op0 = (19 : Int) then some ((4 : Int), (4 : Int)) else (if op0 = (20 : Int) then some ((0 : Int), (0 : Int)) else some ((0 : Int), (1 : Int)))))))
set_option maxHeartbeats 4000000 in
set_option maxRecDepth 100000 in
theorem g_ref_asksFor_ac {op0 : Int} {r : Int × Int} (H : g_ref_asksFor op0 = some r) : ACp Tryd.prog 44 [(AV.int op0)] (.tup [(AV.int r.1), (AV.int r.2)]) := by
 refine ACp_of (AC2_of_body (vs := [.i r.1, .i r.2]) Tryd.func44 Y Y (lb Y) Y ?_) (fun _ => .same _)
 unfold g_ref_asksFor at H
 refine as2 [(0, .i op0)] [] Y (sg [0,1] Y (ra Y (ra Y (rz [(0, _)] [] Y (AW2_seq (sg [0] Y ?_))))))
 refine rm Y (rz [(4, .i op0)] [] Y (AW2_block (AW2_seq (bindK H fun j'1 h1 H => AW2_mid (⟨[(4, .i op0), (5, .b j'1)], [], 21⟩ : TS) ?_ ?_))))
 ·clear H
  have H := h1
  clear h1
  refine sg [0,1] Y (rp Y (p_ieq Y Y Y) (ra Y (rz [(4, .i op0), (5, .b (decide (op0 = (3 : Int))))] [] Y (if2 H Y (fun h2 H => ?_) (fun h2 H => ?_)))))
  ·refine AW2_skip ?_
   obtain rfl := se H
   exact rfl
  refine sg [0,1] Y (rp Y (p_ieq Y Y Y) (ra Y (rz [(4, _), (5, .b (decide (op0 = (5 : Int))))] [] Y (if2 H Y (fun h3 H => ?_) (fun h3 H => ?_)))))
  ·refine AW2_skip ?_
   obtain rfl := se H
   exact rfl
  refine sg [0,1] Y (rp Y (p_ieq Y Y Y) (ra Y (rz [(4, _), (5, .b (decide (op0 = (6 : Int))))] [] Y (if2 H Y (fun h4 H => ?_) (fun h4 H => ?_)))))
  ·refine AW2_skip ?_
   obtain rfl := se H
   exact rfl
  refine sg [0,1] Y (rp Y (p_ieq Y Y Y) (ra Y (rz [(4, _), (5, .b (decide (op0 = (7 : Int))))] [] Y (if2 H Y (fun h5 H => ?_) (fun h5 H => ?_)))))
  ·refine AW2_skip ?_
   obtain rfl := se H
   exact rfl
  refine AW2_reg [0,1] Y (rp Y (p_ieq Y Y Y) (ra Y (rz [(4, _), (5, .b (decide (op0 = (8 : Int))))] [] Y ?_)))
  obtain rfl := se H
  exact rfl
 refine AW2_cond Y (fun h6 => ?_) (fun h6 => ?_)
 ·replace H := ite_then h6 H
  refine sg [0,1] Y (ra Y (ra Y (rz [(2, .i (2 : Int)), (3, .i (2 : Int))] [] Y (AW2_ret ?_))))
  obtain rfl := se H
  exact ⟨⟨rt, rt, trivial⟩, trivial⟩
 replace H := ite_else (ne_true h6) H
 refine AW2_seq (bindK H fun j'2 h7 H => AW2_mid (⟨[(4, .i op0), (11, .b j'2)], [], 21⟩ : TS) ?_ ?_)
 ·clear H
  have H := h7
  clear h7
  refine sg [0,1] Y (rp Y (p_ieq Y Y Y) (ra Y (rz [(4, .i op0), (11, .b (decide (op0 = (4 : Int))))] [] Y (if2 H Y (fun h8 H => ?_) (fun h8 H => ?_)))))
  ·refine AW2_skip ?_
   obtain rfl := se H
   exact rfl
  refine sg [0,1] Y (rp Y (p_ieq Y Y Y) (ra Y (rz [(4, _), (11, .b (decide (op0 = (15 : Int))))] [] Y (if2 H Y (fun h9 H => ?_) (fun h9 H => ?_)))))
  ·refine AW2_skip ?_
   obtain rfl := se H
   exact rfl
  refine AW2_reg [0,1] Y (rp Y (p_ieq Y Y Y) (ra Y (rz [(4, _), (11, .b (decide (op0 = (16 : Int))))] [] Y ?_)))
  obtain rfl := se H
  exact rfl
 refine AW2_cond Y (fun h10 => ?_) (fun h10 => ?_)
 ·replace H := ite_then h10 H
  refine sg [0,1] Y (ra Y (ra Y (rz [(2, .i (1 : Int)), (3, .i (1 : Int))] [] Y (AW2_ret ?_))))
  obtain rfl := se H
  exact ⟨⟨rt, rt, trivial⟩, trivial⟩
 replace H := ite_else (ne_true h10) H
 refine sg [0,1] Y (rp Y (p_ieq Y Y Y) (ra Y (rz [(4, .i op0), (15, .b (decide (op0 = (18 : Int))))] [] Y (if2 H Y (fun h11 H => ?_) (fun h11 H => ?_)))))
 ·refine sg [0,1] Y (ra Y (ra Y (rz [(2, .i (4 : Int)), (3, .i (2 : Int))] [] Y (AW2_ret ?_))))
  obtain rfl := se H
  exact ⟨⟨rt, rt, trivial⟩, trivial⟩
 refine sg [0,1] Y (rp Y (p_ieq Y Y Y) (ra Y (rz [(4, _), (17, .b (decide (op0 = (19 : Int))))] [] Y (if2 H Y (fun h12 H => ?_) (fun h12 H => ?_)))))
 ·refine sg [0,1] Y (ra Y (ra Y (rz [(2, .i (4 : Int)), (3, .i (4 : Int))] [] Y (AW2_ret ?_))))
  obtain rfl := se H
  exact ⟨⟨rt, rt, trivial⟩, trivial⟩
 refine sg [0,1] Y (rp Y (p_ieq Y Y Y) (ra Y (rz [(19, .b (decide (op0 = (20 : Int))))] [] Y (if2 H Y (fun h13 H => ?_) (fun h13 H => ?_)))))
 ·refine sg [0,1] Y (ra Y (ra Y (rz [(2, .i (0 : Int)), (3, .i (0 : Int))] [] Y (AW2_ret ?_))))
  obtain rfl := se H
  exact ⟨⟨rt, rt, trivial⟩, trivial⟩
 refine as2 [] [] Y (AW2_skip (sg [0,1] Y (ra Y (ra Y (rz [(2, .i (0 : Int)), (3, .i (1 : Int))] [] Y (AW2_ret ?_))))))
 obtain rfl := se H
 exact ⟨⟨rt, rt, trivial⟩, trivial⟩
noncomputable def g_ref_boolOf (t0 : Int) : Option (GValue) :=
  (if t0 = (2 : Int) then some ({ { GValue.zero with Kind := (1 : Int) } with Int_ := (1 : Int) }) else (if t0 = (0 : Int) then some ({ GValue.zero with Kind := (1 : Int) }) else some GValue.zero))
set_option maxHeartbeats 4000000 in
set_option maxRecDepth 100000 in
theorem g_ref_boolOf_ac {t0 : Int} {r : GValue} (H : g_ref_boolOf t0 = some r) : ACp Tryd.prog 25 [(AV.int t0)] (.agg (GValue.cs r)) := by
 refine ACp_of (AC2_of_body (vs := [.g (GValue.cs r)]) Tryd.func25 Y Y (lb Y) Y ?_) (fun _ => .same _)
 unfold g_ref_boolOf at H
 refine as2 [(0, .i t0)] [] Y (sg [0] Y (rq Y (MakeD.opD (u_alloc 2 Y in_24 one_24 zc_24) Y Y Y Y) (rz [(0, _), (2, .q 2 (0))] [(2, .pure (GValue.cs GValue.zero))] Y (AW2_seq (sg [0] Y (rm Y ?_))))))
 refine rz [(2, _), (3, .i t0)] [(2, _)] Y (AW2_block (sg [0,1] Y (rp Y (p_ieq Y Y Y) (ra Y (rz [(2, _), (3, _), (4, .b (decide (t0 = (2 : Int))))] [(2, _)] Y (if2 H Y (fun h1 H => ?_) (fun h1 H => ?_)))))))
 ·refine sg [0,1] Y (rp Y (u_bld Y in_24 one_24 zc_24 pl_24 Y (af_cons Y Y (GValue.upd0 GValue.zero (1 : Int)) (af_cons Y Y (GValue.upd1 ((GValue.w0 GValue.zero (1 : Int))) (1 : Int)) Y))) (rq Y (u_sw Y Y Y Y Y in_24 (GValue.len ((GValue.w1 (GValue.w0 GValue.zero (1 : Int)) (1 : Int)))) (GValue.len GValue.zero) Y) (rz [(2, _)] [(2, .pure (GValue.cs ((GValue.w1 (GValue.w0 GValue.zero (1 : Int)) (1 : Int)))))] Y (AW2_ret ?_))))
  obtain rfl := se H
  exact ⟨⟨rcw U24 Y in_24 Y (GValue.len ((GValue.w1 (GValue.w0 GValue.zero (1 : Int)) (1 : Int)))), trivial⟩, trivial⟩
 refine sg [0,1] Y (rp Y (p_ieq Y Y Y) (ra Y (rz [(2, _), (7, .b (decide (t0 = (0 : Int))))] [(2, _)] Y (if2 H Y (fun h2 H => ?_) (fun h2 H => ?_)))))
 ·refine sg [0,1] Y (rp Y (u_bld Y in_24 one_24 zc_24 pl_24 Y (af_cons Y Y (GValue.upd0 GValue.zero (1 : Int)) Y)) (rq Y (u_sw Y Y Y Y Y in_24 (GValue.len ((GValue.w0 GValue.zero (1 : Int)))) (GValue.len GValue.zero) Y) (rz [(2, _)] [(2, .pure (GValue.cs ((GValue.w0 GValue.zero (1 : Int)))))] Y (AW2_ret ?_))))
  obtain rfl := se H
  exact ⟨⟨rcw U24 Y in_24 Y (GValue.len ((GValue.w0 GValue.zero (1 : Int)))), trivial⟩, trivial⟩
 refine as2 [(2, _)] [(2, _)] Y (AW2_skip (sg [0,1] Y (rp Y (u_bld Y in_24 one_24 zc_24 pl_24 Y Y) (rq Y (u_sw Y Y Y Y Y in_24 (GValue.len GValue.zero) (GValue.len GValue.zero) Y) (rz [(2, _)] [(2, .pure (GValue.cs GValue.zero))] Y (AW2_ret ?_))))))
 obtain rfl := se H
 exact ⟨⟨rcw U24 Y in_24 Y (GValue.len GValue.zero), trivial⟩, trivial⟩
noncomputable def g_ref_truthOf (v0 : GValue) : Option (Int) :=
  (if v0.Kind = (0 : Int) then some (1 : Int) else some (w64 (v0.Int_ * (2 : Int))))
set_option maxHeartbeats 4000000 in
set_option maxRecDepth 100000 in
theorem g_ref_truthOf_ac {v0 : GValue} {r : Int} (H : g_ref_truthOf v0 = some r) : ACp Tryd.prog 46 [(.agg (GValue.cs v0))] (AV.int r) := by
 refine ACp_of (AC2_of_body (vs := [.i r]) Tryd.func46 Y Y (lb Y) Y ?_) (fun _ => .same _)
 unfold g_ref_truthOf at H
 refine as2 [(0, .g (GValue.cs v0))] [] Y (sg [0,1] Y (rq Y (MakeD.opD (n_box 1 Y Y) Y Y Y Y) (ra Y (rz [(1, .q 1 (0))] [(1, .pure (GValue.cs v0))] Y (AW2_seq (sg [0,1,2] Y ?_))))))
 refine rf Y U24 Y in_3 Y Y (GValue.len v0) (rp Y (u_ld Y Y U3 Y Y (GValue.sub0 v0)) (rp Y (p_ieq Y Y Y) (rz [(1, _), (5, .b (decide (v0.Kind = (0 : Int))))] [(1, _)] Y (if2 H Y (fun h1 H => ?_) (fun h1 H => ?_)))))
 ·refine sg [0] Y (ra Y (rz [(2, .i (1 : Int))] [] Y (AW2_ret ?_)))
  obtain rfl := se H
  exact ⟨⟨rt, trivial⟩, trivial⟩
 refine as2 [(1, _)] [(1, _)] Y (AW2_skip (sg [0,1,2,3] Y (rf Y U24 Y in_3 Y Y (GValue.len v0) (rp Y (u_ld Y Y U3 Y Y (GValue.sub1 v0)) (rp Y (p_bin Y Y Y Y) (ra Y ?_))))))
 refine rz [(2, .i (w64 (v0.Int_ * (2 : Int))))] [] Y (AW2_ret ?_)
 obtain rfl := se H
 exact ⟨⟨rt, trivial⟩, trivial⟩
noncomputable def g_ref_isTruth (a0 : Int) : Option (Bool) :=
  some (decide (((a0 = (0 : Int)) ∨ (a0 = (1 : Int))) ∨ (a0 = (2 : Int))))
set_option maxHeartbeats 4000000 in
set_option maxRecDepth 100000 in
theorem g_ref_isTruth_ac {a0 : Int} {r : Bool} (H : g_ref_isTruth a0 = some r) : ACp Tryd.prog 61 [(AV.int a0)] (AV.bool r) := by
 refine ACp_of (AC2_of_body (vs := [.b r]) Tryd.func61 Y Y (lb Y) Y ?_) (fun _ => .same _)
 unfold g_ref_isTruth at H
 refine as2 [(0, .i a0)] [] Y (sg [0] Y (ra Y (rz [(0, _)] [] Y (AW2_seq (AW2_mid (⟨[(2, .b (decide (((a0 = (0 : Int)) ∨ (a0 = (1 : Int))) ∨ (a0 = (2 : Int)))))], [], 13⟩ : TS) ?_ ?_)))))
 ·refine AW2_reg [0,1,2,3,4,5,6,7,8,9,10] Y (rm Y (rp Y (p_ieq Y Y Y) (rm Y ?_)))
  refine (Classical.em (a0 = (0 : Int))).elim (fun h1 => ?_) (fun h1 => ?_)
  ·refine rO Y (dT h1) Y (rO Y (dT h1) Y (rp Y (p_pkt Y Y (dT h1) (tb (dT (p := (a0 = (0 : Int)) ∨ (a0 = (1 : Int))) (Or.inl h1)).symm)) (rm Y (rO Y (dT (p := (a0 = (0 : Int)) ∨ (a0 = (1 : Int))) (Or.inl h1)) Y (rO Y (dT (p := (a0 = (0 : Int)) ∨ (a0 = (1 : Int))) (Or.inl h1)) Y (rp Y (p_pkt Y Y (dT (p := (a0 = (0 : Int)) ∨ (a0 = (1 : Int))) (Or.inl h1)) (tb (dT (p := ((a0 = (0 : Int)) ∨ (a0 = (1 : Int))) ∨ (a0 = (2 : Int))) (Or.inl (Or.inl h1))).symm)) ?_))))))
   exact ra Y (rend Y Y)
  refine rn Y (dF h1) Y (p_move Y Y) (rn Y (dF h1) Y (p_ieq Y Y Y) (rp Y (p_pkf Y Y (dF h1) (tb ((or_l (p := a0 = (0 : Int)) (q := a0 = (1 : Int)) h1)))) (rm Y ?_)))
  refine (Classical.em (a0 = (1 : Int))).elim (fun h2 => ?_) (fun h2 => ?_)
  ·exact rO Y (dT (p := (a0 = (0 : Int)) ∨ (a0 = (1 : Int))) (Or.inr h2)) Y (rO Y (dT (p := (a0 = (0 : Int)) ∨ (a0 = (1 : Int))) (Or.inr h2)) Y (rp Y (p_pkt Y Y (dT (p := (a0 = (0 : Int)) ∨ (a0 = (1 : Int))) (Or.inr h2)) (tb (dT (p := ((a0 = (0 : Int)) ∨ (a0 = (1 : Int))) ∨ (a0 = (2 : Int))) (Or.inl (Or.inr h2))).symm)) (ra Y (rend Y Y))))
  exact rn Y (dF (p := (a0 = (0 : Int)) ∨ (a0 = (1 : Int))) (not_or.2 ⟨h1, h2⟩)) Y (p_move Y Y) (rn Y (dF (p := (a0 = (0 : Int)) ∨ (a0 = (1 : Int))) (not_or.2 ⟨h1, h2⟩)) Y (p_ieq Y Y Y) (rp Y (p_pkf Y Y (dF (p := (a0 = (0 : Int)) ∨ (a0 = (1 : Int))) (not_or.2 ⟨h1, h2⟩)) (tb ((or_l (p := (a0 = (0 : Int)) ∨ (a0 = (1 : Int))) (q := a0 = (2 : Int)) (not_or.2 ⟨h1, h2⟩))))) (ra Y (rend Y Y))))
 refine AW2_ret ?_
 obtain rfl := se H
 exact ⟨⟨rt, trivial⟩, trivial⟩
noncomputable def g_ref_Logic (op0 : Int) (a1 : Int) (b2 : Int) : Option (Int × Int) :=
  ((g_ref_isTruth a1).bind fun r'3 => (if (!r'3) = true then some true else (g_ref_isTruth b2).bind fun r'4 => some (!r'4))).bind fun g'5 => (if g'5 = true then some ((0 : Int), (2 : Int)) else ((if op0 = (2 : Int) then some (2 : Int) else some (0 : Int))).bind fun j'6 => (if (a1 = j'6) ∨ (b2 = j'6) then some (j'6, (0 : Int)) else (if (a1 = (1 : Int)) ∨ (b2 = (1 : Int)) then some ((1 : Int), (0 : Int)) else some (a1, (0 : Int)))))
set_option maxHeartbeats 4000000 in
set_option maxRecDepth 100000 in
theorem g_ref_Logic_ac {op0 : Int} {a1 : Int} {b2 : Int} {r : Int × Int} (H : g_ref_Logic op0 a1 b2 = some r) : ACp Tryd.prog 45 [(AV.int op0), (AV.int a1), (AV.int b2)] (.tup [(AV.int r.1), (AV.int r.2)]) := by
 refine ACp_of (AC2_of_body (vs := [.i r.1, .i r.2]) Tryd.func45 Y Y (lb Y) Y ?_) (fun _ => .same _)
 unfold g_ref_Logic at H
 refine as2 [(0, .i op0), (1, .i a1), (2, .i b2)] [] Y (sg [0,1] Y (ra Y (ra Y (rz [(0, _), (1, _), (2, _)] [] Y (AW2_seq (AW2_seq ?_))))))
 refine bindK H fun g'5 h6 H => AW2_mid (⟨[(0, .i op0), (1, .i a1), (2, .i b2), (16, .b g'5)], [], 37⟩ : TS) ?_ ?_
 ·clear H
  have H := h6
  clear h6
  refine AW2_reg [0,1,2,3,4,5,6,7] Y (rm Y (bindK H fun r'3 h3 H => rp Y (p_callp Y Y Y Tryd.func61 Y Y (g_ref_isTruth_ac h3) ⟨Y, trivial⟩) (rp Y (p_not Y Y) (rm Y (em2 H (fun h4 H => ?_) (fun h4 H => ?_))))))
  ·refine rO Y h4 Y (rO Y h4 Y (rO Y h4 Y (rp Y (p_pkt Y Y h4 (.same _)) (rs [(0, .i op0), (1, .i a1), (2, .i b2), (16, .b true)] [] Y ?_))))
   obtain rfl := se H
   exact RunW_nil rfl
  refine rn Y (bfalse h4) Y (p_move Y Y) (bindK H fun r'4 h5 H => rn Y (bfalse h4) Y (p_callp Y Y Y Tryd.func61 Y Y (g_ref_isTruth_ac h5) ⟨Y, trivial⟩) (rn Y (bfalse h4) Y (p_not Y Y) (rp Y (p_pkf Y Y (bfalse h4) (.same _)) (rs [(0, .i op0), (1, .i a1), (2, .i b2), (16, .b (!r'4))] [] Y ?_))))
  obtain rfl := se H
  exact RunW_nil rfl
 refine AW2_cond Y (fun h7 => ?_) (fun h7 => ?_)
 ·replace H := ite_then h7 H
  refine sg [0,1] Y (ra Y (ra Y (rz [(6, .i (0 : Int)), (7, .i (2 : Int))] [] Y (AW2_ret ?_))))
  obtain rfl := se H
  exact ⟨⟨rt, rt, trivial⟩, trivial⟩
 replace H := ite_else (ne_true h7) H
 refine as2 [(0, .i op0), (1, .i a1), (2, .i b2)] [] Y (AW2_skip (sg [0] Y (ra Y (rz [(0, _), (1, _), (2, _), (8, .i (0 : Int))] [] Y (AW2_seq (bindK H fun j'6 h8 H => ?_))))))
 refine AW2_mid (⟨[(1, .i a1), (2, .i b2), (8, .i j'6)], [], 37⟩ : TS) ?_ ?_
 ·clear H
  have H := h8
  clear h8
  refine sg [0,1] Y (rm Y (rp Y (p_ieq Y Y Y) (rz [(1, .i a1), (2, .i b2), (8, .i (0 : Int)), (18, .b (decide (op0 = (2 : Int))))] [] Y (if2 H Y (fun h9 H => ?_) (fun h9 H => ?_)))))
  ·refine AW2_reg [0] Y (ra Y (rz [(1, _), (2, _), (8, .i (2 : Int))] [] Y ?_))
   obtain rfl := se H
   exact rfl
  refine as2 [(1, _), (2, _), (8, _)] [] Y (AW2_skip ?_)
  obtain rfl := se H
  exact rfl
 refine AW2_seq (AW2_block (AW2_seq (AW2_mid (⟨[(1, .i a1), (2, .i b2), (8, .i j'6), (19, .b (decide ((a1 = j'6) ∨ (b2 = j'6))))], [], 37⟩ : TS) ?_ ?_)))
 ·refine AW2_reg [0,1,2,3,4,5,6,7,8] Y (rm Y (rm Y (rp Y (p_ieq Y Y Y) (rm Y ?_))))
  refine (Classical.em (a1 = j'6)).elim (fun h10 => ?_) (fun h10 => ?_)
  ·exact rO Y (dT h10) Y (rO Y (dT h10) Y (rO Y (dT h10) Y (rp Y (p_pkt Y Y (dT h10) (tb (dT (p := (a1 = j'6) ∨ (b2 = j'6)) (Or.inl h10)).symm)) (ra Y (rend Y Y)))))
  exact rn Y (dF h10) Y (p_move Y Y) (rn Y (dF h10) Y (p_move Y Y) (rn Y (dF h10) Y (p_ieq Y Y Y) (rp Y (p_pkf Y Y (dF h10) (tb ((or_l (p := a1 = j'6) (q := b2 = j'6) h10)))) (ra Y (rend Y Y)))))
 refine if2 H Y (fun h11 H => ?_) (fun h11 H => ?_)
 ·refine sg [0,1,2] Y (rm Y (ra Y (ra Y (rz [(6, .i j'6), (7, .i (0 : Int))] [] Y (AW2_ret ?_)))))
  obtain rfl := se H
  exact ⟨⟨rt, rt, trivial⟩, trivial⟩
 refine AW2_seq (AW2_mid (⟨[(1, .i a1), (29, .b (decide ((a1 = (1 : Int)) ∨ (b2 = (1 : Int)))))], [], 37⟩ : TS) ?_ ?_)
 ·refine AW2_reg [0,1,2,3,4,5,6] Y (rm Y (rp Y (p_ieq Y Y Y) (rm Y ?_)))
  refine (Classical.em (a1 = (1 : Int))).elim (fun h12 => ?_) (fun h12 => ?_)
  ·exact rO Y (dT h12) Y (rO Y (dT h12) Y (rp Y (p_pkt Y Y (dT h12) (tb (dT (p := (a1 = (1 : Int)) ∨ (b2 = (1 : Int))) (Or.inl h12)).symm)) (ra Y (rend Y Y))))
  exact rn Y (dF h12) Y (p_move Y Y) (rn Y (dF h12) Y (p_ieq Y Y Y) (rp Y (p_pkf Y Y (dF h12) (tb ((or_l (p := a1 = (1 : Int)) (q := b2 = (1 : Int)) h12)))) (ra Y (rend Y Y))))
 refine if2 H Y (fun h13 H => ?_) (fun h13 H => ?_)
 ·refine sg [0,1] Y (ra Y (ra Y (rz [(6, .i (1 : Int)), (7, .i (0 : Int))] [] Y (AW2_ret ?_))))
  obtain rfl := se H
  exact ⟨⟨rt, rt, trivial⟩, trivial⟩
 refine as2 [(1, _)] [] Y (AW2_skip (sg [0,1,2] Y (rm Y (ra Y (ra Y (rz [(6, .i a1), (7, .i (0 : Int))] [] Y ?_))))))
 refine AW2_ret ?_
 obtain rfl := se H
 exact ⟨⟨rt, rt, trivial⟩, trivial⟩
noncomputable def g_ref_Opposite (a0 : Int) : Option (Int × Int) :=
  (if a0 = (0 : Int) then some ((2 : Int), (0 : Int)) else (if a0 = (2 : Int) then some ((0 : Int), (0 : Int)) else (if a0 = (1 : Int) then some ((1 : Int), (0 : Int)) else some ((0 : Int), (2 : Int)))))
set_option maxHeartbeats 4000000 in
set_option maxRecDepth 100000 in
theorem g_ref_Opposite_ac {a0 : Int} {r : Int × Int} (H : g_ref_Opposite a0 = some r) : ACp Tryd.prog 47 [(AV.int a0)] (.tup [(AV.int r.1), (AV.int r.2)]) := by
 refine ACp_of (AC2_of_body (vs := [.i r.1, .i r.2]) Tryd.func47 Y Y (lb Y) Y ?_) (fun _ => .same _)
 unfold g_ref_Opposite at H
 refine as2 [(0, .i a0)] [] Y (sg [0,1] Y (ra Y (ra Y (rz [(0, _)] [] Y (AW2_seq (sg [0] Y ?_))))))
 refine rm Y (rz [(4, .i a0)] [] Y (AW2_block (sg [0,1] Y (rp Y (p_ieq Y Y Y) (ra Y (rz [(4, _), (5, .b (decide (a0 = (0 : Int))))] [] Y ?_))))))
 refine if2 H Y (fun h1 H => ?_) (fun h1 H => ?_)
 ·refine sg [0,1] Y (ra Y (ra Y (rz [(2, .i (2 : Int)), (3, .i (0 : Int))] [] Y (AW2_ret ?_))))
  obtain rfl := se H
  exact ⟨⟨rt, rt, trivial⟩, trivial⟩
 refine sg [0,1] Y (rp Y (p_ieq Y Y Y) (ra Y (rz [(4, _), (7, .b (decide (a0 = (2 : Int))))] [] Y (if2 H Y (fun h2 H => ?_) (fun h2 H => ?_)))))
 ·refine sg [0,1] Y (ra Y (ra Y (rz [(2, .i (0 : Int)), (3, .i (0 : Int))] [] Y (AW2_ret ?_))))
  obtain rfl := se H
  exact ⟨⟨rt, rt, trivial⟩, trivial⟩
 refine sg [0,1] Y (rp Y (p_ieq Y Y Y) (ra Y (rz [(9, .b (decide (a0 = (1 : Int))))] [] Y (if2 H Y (fun h3 H => ?_) (fun h3 H => ?_)))))
 ·refine sg [0,1] Y (ra Y (ra Y (rz [(2, .i (1 : Int)), (3, .i (0 : Int))] [] Y (AW2_ret ?_))))
  obtain rfl := se H
  exact ⟨⟨rt, rt, trivial⟩, trivial⟩
 refine as2 [] [] Y (AW2_skip (sg [0,1] Y (ra Y (ra Y (rz [(2, .i (0 : Int)), (3, .i (2 : Int))] [] Y (AW2_ret ?_))))))
 obtain rfl := se H
 exact ⟨⟨rt, rt, trivial⟩, trivial⟩
noncomputable def g_ref_intOf (n0 : Int) : Option (GValue × Int) :=
  some ({ { GValue.zero with Kind := (2 : Int) } with Int_ := n0 }, (0 : Int))
set_option maxHeartbeats 4000000 in
set_option maxRecDepth 100000 in
theorem g_ref_intOf_ac {n0 : Int} {r : GValue × Int} (H : g_ref_intOf n0 = some r) : ACp Tryd.prog 49 [(AV.int n0)] (.tup [(.agg (GValue.cs r.1)), (AV.int r.2)]) := by
 refine ACp_of (AC2_of_body (vs := [.g (GValue.cs r.1), .i r.2]) Tryd.func49 Y Y (lb Y) Y ?_) (fun _ => .same _)
 unfold g_ref_intOf at H
 refine as2 [(0, .i n0)] [] Y (sg [0,1] Y (rq Y (MakeD.opD (u_alloc 2 Y in_24 one_24 zc_24) Y Y Y Y) (ra Y (rz [(0, _), (2, .q 2 (0))] [(2, .pure (GValue.cs GValue.zero))] Y (sg [0,1,2,3] Y (rm Y ?_))))))
 refine rp Y (u_bld Y in_24 one_24 zc_24 pl_24 Y (af_cons Y Y (GValue.upd0 GValue.zero (2 : Int)) (af_cons Y Y (GValue.upd1 ((GValue.w0 GValue.zero (2 : Int))) n0) Y))) (rq Y (u_sw Y Y Y Y Y in_24 (GValue.len ((GValue.w1 (GValue.w0 GValue.zero (2 : Int)) n0))) (GValue.len GValue.zero) Y) (ra Y (rz [(2, _), (3, .i (0 : Int))] [(2, .pure (GValue.cs ((GValue.w1 (GValue.w0 GValue.zero (2 : Int)) n0))))] Y (AW2_ret ?_))))
 obtain rfl := se H
 exact ⟨⟨rcw U24 Y in_24 Y (GValue.len ((GValue.w1 (GValue.w0 GValue.zero (2 : Int)) n0))), rt, trivial⟩, trivial⟩
noncomputable def g_ref_sizeOf (n0 : Int) : Option (UInt64) :=
  (if n0 < (0 : Int) then some (0 - (UInt64.ofInt n0)) else some (UInt64.ofInt n0))
set_option maxHeartbeats 4000000 in
set_option maxRecDepth 100000 in
theorem g_ref_sizeOf_ac {n0 : Int} {r : UInt64} (H : g_ref_sizeOf n0 = some r) : ACp Tryd.prog 65 [(AV.int n0)] (AV.u64 r) := by
 refine ACp_of (AC2_of_body (vs := [.p (AV.u64 r)]) Tryd.func65 Y Y (lb Y) Y ?_) (fun _ => .same _)
 unfold g_ref_sizeOf at H
 refine as2 [(0, .i n0)] [] Y (sg [0] Y (ra Y (rz [(0, _)] [] Y (AW2_seq (sg [0,1] Y (rm Y ?_))))))
 refine rp Y (p_bin Y Y Y Y) (rz [(0, _), (4, .b (decide (n0 < (0 : Int))))] [] Y (if2 H Y (fun h1 H => ?_) (fun h1 H => ?_)))
 ·refine sg [0,1,2,3] Y (rm Y (rp Y (p_i_u64 Y U3 U22 Y) (rp Y (p_u64neg Y Y) (ra Y (rz [(2, .p (AV.u64 (0 - (UInt64.ofInt n0))))] [] Y (AW2_ret ?_))))))
  obtain rfl := se H
  exact ⟨⟨rt, trivial⟩, trivial⟩
 refine as2 [(0, _)] [] Y (AW2_skip (sg [0,1,2] Y (rm Y (rp Y (p_i_u64 Y U3 U22 Y) (ra Y (rz [(2, .p (AV.u64 (UInt64.ofInt n0)))] [] Y ?_))))))
 refine AW2_ret ?_
 obtain rfl := se H
 exact ⟨⟨rt, trivial⟩, trivial⟩
noncomputable def g_bits_Mul64 (x0 : UInt64) (y1 : UInt64) : Option (UInt64 × UInt64) :=
  letO (((shr_u64 x0 32) * (y1 &&& (4294967295 : UInt64))) + (shr_u64 ((x0 &&& (4294967295 : UInt64)) * (y1 &&& (4294967295 : UInt64))) 32)) fun t11'1 => letO ((t11'1 &&& (4294967295 : UInt64)) + ((x0 &&& (4294967295 : UInt64)) * (shr_u64 y1 32))) fun w112'2 => letO ((((shr_u64 x0 32) * (shr_u64 y1 32)) + (shr_u64 t11'1 32)) + (shr_u64 w112'2 32)) fun hi4'3 => some (hi4'3, x0 * y1)
set_option maxHeartbeats 4000000 in
set_option maxRecDepth 100000 in
theorem g_bits_Mul64_ac {x0 : UInt64} {y1 : UInt64} {r : UInt64 × UInt64} (H : g_bits_Mul64 x0 y1 = some r) : ACp Tryd.prog 64 [(AV.u64 x0), (AV.u64 y1)] (.tup [(AV.u64 r.1), (AV.u64 r.2)]) := by
 refine ACp_of (AC2_of_body (vs := [.p (AV.u64 r.1), .p (AV.u64 r.2)]) Tryd.func64 Y Y (lb Y) Y ?_) (fun _ => .same _)
 unfold g_bits_Mul64 at H
 refine as2 [(0, .p (AV.u64 x0)), (1, .p (AV.u64 y1))] [] Y (sg [0,1] Y (ra Y (ra Y (rz [(0, _), (1, _)] [] Y (sg [0,1,2] Y (rm Y ?_))))))
 refine rp Y (p_u64and (a := x0) (b := (4294967295 : UInt64)) Y Y Y) (ra Y (rz [(0, _), (1, _), (6, .p (AV.u64 (x0 &&& (4294967295 : UInt64))))] [] Y (sg [0,1,2] Y (rm Y (rp Y (p_u64shr (n := 32) Y Y Y Y) (ra Y ?_))))))
 refine rz [(0, _), (1, _), (6, _), (7, .p (AV.u64 (shr_u64 x0 32)))] [] Y (sg [0,1,2] Y (rm Y (rp Y (p_u64and (a := y1) (b := (4294967295 : UInt64)) Y Y Y) (ra Y (rz [(0, _), (1, _), (6, _), (7, _), (8, .p (AV.u64 (y1 &&& (4294967295 : UInt64))))] [] Y (sg [0,1,2] Y ?_))))))
 refine rm Y (rp Y (p_u64shr (n := 32) Y Y Y Y) (ra Y (rz [(0, _), (1, _), (6, _), (7, _), (8, _), (9, .p (AV.u64 (shr_u64 y1 32)))] [] Y (sg [0,1,2,3] Y (rm Y (rm Y ?_))))))
 refine rp Y (p_u64mul (a := x0 &&& (4294967295 : UInt64)) (b := y1 &&& (4294967295 : UInt64)) Y Y Y) (ra Y (rz [(0, _), (1, _), (6, _), (7, _), (8, _), (9, _), (10, .p (AV.u64 ((x0 &&& (4294967295 : UInt64)) * (y1 &&& (4294967295 : UInt64)))))] [] Y (sg [0,1,2,3,4,5,6] Y (rm Y (rm Y (rp Y (p_u64mul (a := shr_u64 x0 32) (b := y1 &&& (4294967295 : UInt64)) Y Y Y) ?_))))))
 refine rm Y (rp Y (p_u64shr (n := 32) Y Y Y Y) (rp Y (p_u64add (a := (shr_u64 x0 32) * (y1 &&& (4294967295 : UInt64))) (b := shr_u64 ((x0 &&& (4294967295 : UInt64)) * (y1 &&& (4294967295 : UInt64))) 32) Y Y Y) (ra Y (rz [(0, _), (1, _), (6, _), (7, _), (9, _), (11, .p (AV.u64 (((shr_u64 x0 32) * (y1 &&& (4294967295 : UInt64))) + (shr_u64 ((x0 &&& (4294967295 : UInt64)) * (y1 &&& (4294967295 : UInt64))) 32))))] [] Y (gen1 (fun t11'1 => (⟨[(0, .p (AV.u64 x0)), (1, .p (AV.u64 y1)), (6, .p (AV.u64 (x0 &&& (4294967295 : UInt64)))), (7, .p (AV.u64 (shr_u64 x0 32))), (9, .p (AV.u64 (shr_u64 y1 32))), (11, .p (AV.u64 t11'1))], [], 51⟩ : TS)) H ?_)))))
 intro t11'1 H
 refine sg [0,1,2] Y (rm Y (rp Y (p_u64and (a := t11'1) (b := (4294967295 : UInt64)) Y Y Y) (ra Y (rz [(0, .p (AV.u64 x0)), (1, .p (AV.u64 y1)), (6, .p (AV.u64 (x0 &&& (4294967295 : UInt64)))), (7, .p (AV.u64 (shr_u64 x0 32))), (9, .p (AV.u64 (shr_u64 y1 32))), (11, .p (AV.u64 t11'1)), (12, .p (AV.u64 (t11'1 &&& (4294967295 : UInt64))))] [] Y (sg [0,1,2] Y (rm Y ?_))))))
 refine rp Y (p_u64shr (n := 32) Y Y Y Y) (ra Y (rz [(0, _), (1, _), (6, _), (7, _), (9, _), (12, _), (13, .p (AV.u64 (shr_u64 t11'1 32)))] [] Y (sg [0,1,2,3,4,5] Y (rm Y (rm Y (rm Y ?_))))))
 refine rp Y (p_u64mul (a := x0 &&& (4294967295 : UInt64)) (b := shr_u64 y1 32) Y Y Y) (rp Y (p_u64add (a := t11'1 &&& (4294967295 : UInt64)) (b := (x0 &&& (4294967295 : UInt64)) * (shr_u64 y1 32)) Y Y Y) (ra Y (rz [(0, _), (1, _), (7, _), (9, _), (12, .p (AV.u64 ((t11'1 &&& (4294967295 : UInt64)) + ((x0 &&& (4294967295 : UInt64)) * (shr_u64 y1 32))))), (13, _)] [] Y (gen1 (fun w112'2 => (⟨[(0, .p (AV.u64 x0)), (1, .p (AV.u64 y1)), (7, .p (AV.u64 (shr_u64 x0 32))), (9, .p (AV.u64 (shr_u64 y1 32))), (12, .p (AV.u64 w112'2)), (13, .p (AV.u64 (shr_u64 t11'1 32)))], [], 51⟩ : TS)) H ?_))))
 intro w112'2 H
 refine sg [0,1,2,3,4,5,6,7,8] Y (rm Y (rm Y (rp Y (p_u64mul (a := shr_u64 x0 32) (b := shr_u64 y1 32) Y Y Y) (rm Y (rp Y (p_u64add (a := (shr_u64 x0 32) * (shr_u64 y1 32)) (b := shr_u64 t11'1 32) Y Y Y) (rm Y ?_))))))
 refine rp Y (p_u64shr (n := 32) Y Y Y Y) (rp Y (p_u64add (a := ((shr_u64 x0 32) * (shr_u64 y1 32)) + (shr_u64 t11'1 32)) (b := shr_u64 w112'2 32) Y Y Y) (ra Y (rz [(0, .p (AV.u64 x0)), (1, .p (AV.u64 y1)), (4, .p (AV.u64 ((((shr_u64 x0 32) * (shr_u64 y1 32)) + (shr_u64 t11'1 32)) + (shr_u64 w112'2 32))))] [] Y (gen1 (fun hi4'3 => (⟨[(0, .p (AV.u64 x0)), (1, .p (AV.u64 y1)), (4, .p (AV.u64 hi4'3))], [], 51⟩ : TS)) H ?_))))
 intro hi4'3 H
 refine sg [0,1,2,3] Y (rm Y (rm Y (rp Y (p_u64mul (a := x0) (b := y1) Y Y Y) (ra Y (rz [(4, .p (AV.u64 hi4'3)), (5, .p (AV.u64 (x0 * y1)))] [] Y (AW2_ret ?_))))))
 obtain rfl := se H
 exact ⟨⟨rt, rt, trivial⟩, trivial⟩
noncomputable def g_ref_signed (minus0 : Bool) (n1 : UInt64) : Option (GValue × Int) :=
  (if (minus0 = true) ∧ (n1 ≤ (9223372036854775808 : UInt64)) then (g_ref_intOf (w64 ((0 - n1).toNat : Int))).bind fun r'1 => some (r'1.1, r'1.2) else (if ((!minus0) = true) ∧ (n1 < (9223372036854775808 : UInt64)) then (g_ref_intOf (w64 (n1.toNat : Int))).bind fun r'2 => some (r'2.1, r'2.2) else some (GValue.zero, (6 : Int))))
set_option maxHeartbeats 4000000 in
set_option maxRecDepth 100000 in
theorem g_ref_signed_ac {minus0 : Bool} {n1 : UInt64} {r : GValue × Int} (H : g_ref_signed minus0 n1 = some r) : ACp Tryd.prog 66 [(AV.bool minus0), (AV.u64 n1)] (.tup [(.agg (GValue.cs r.1)), (AV.int r.2)]) := by
 refine ACp_of (AC2_of_body (vs := [.g (GValue.cs r.1), .i r.2]) Tryd.func66 Y Y (lb Y) Y ?_) (fun _ => .same _)
 unfold g_ref_signed at H
 refine as2 [(0, .b minus0), (1, .p (AV.u64 n1))] [] Y (sg [0,1] Y (rq Y (MakeD.opD (u_alloc 4 Y in_24 one_24 zc_24) Y Y Y Y) (ra Y (rz [(0, _), (1, _), (4, .q 4 (0))] [(4, .pure (GValue.cs GValue.zero))] Y (AW2_seq (AW2_seq ?_))))))
 refine AW2_mid (⟨[(0, .b minus0), (1, .p (AV.u64 n1)), (4, .q 4 (0)), (10, .b (decide ((minus0 = true) ∧ (n1 ≤ (9223372036854775808 : UInt64)))))], [(4, .pure (GValue.cs GValue.zero))], 29⟩ : TS) ?_ ?_
 ·refine AW2_reg [0,1,2,3,4] Y (rm Y (rm Y ?_))
  refine (Classical.em (minus0 = true)).elim (fun h1 => ?_) (fun h1 => ?_)
  ·exact rn Y h1 Y (p_move Y Y) (rn Y h1 Y (p_u64le (a := n1) (b := (9223372036854775808 : UInt64)) Y Y Y) (rp Y (p_pkt Y Y h1 (tb ((and_l (p := minus0 = true) (q := n1 ≤ (9223372036854775808 : UInt64)) h1)))) (rend Y Y)))
  exact rO Y (bfalse h1) Y (rO Y (bfalse h1) Y (rp Y (p_pkf Y Y (bfalse h1) (tb (dF (p := (minus0 = true) ∧ (n1 ≤ (9223372036854775808 : UInt64))) (fun x => h1 x.1)).symm)) (rend Y Y)))
 refine if2 H Y (fun h2 H => ?_) (fun h2 H => ?_)
 ·refine sg [0,1,2,3,4,5,6,7] Y (rm Y (rp Y (p_u64neg Y Y) (rp Y (p_u64_i (a := 0 - n1) Y U22 U3 Y) (bindK H fun r'1 h3 H => rp Y (p_callp Y Y Y Tryd.func49 Y Y (g_ref_intOf_ac h3) ⟨Y, trivial⟩) (rp Y (p_ext Y Y Y Y) ?_)))))
  refine rp Y (p_ext Y Y Y Y) (rq Y (u_sw Y Y Y Y Y in_24 (GValue.len r'1.1) (GValue.len GValue.zero) Y) (ra Y (rz [(4, _), (5, .i r'1.2)] [(4, .pure (GValue.cs r'1.1))] Y (AW2_ret ?_))))
  obtain rfl := se H
  exact ⟨⟨rcw U24 Y in_24 Y (GValue.len r'1.1), rt, trivial⟩, trivial⟩
 refine as2 [(0, _), (1, _), (4, _)] [(4, _)] Y (AW2_skip (AW2_seq (AW2_seq (AW2_mid (⟨[(1, .p (AV.u64 n1)), (4, .q 4 (0)), (22, .b (decide (((!minus0) = true) ∧ (n1 < (9223372036854775808 : UInt64)))))], [(4, .pure (GValue.cs GValue.zero))], 29⟩ : TS) ?_ ?_))))
 ·refine AW2_reg [0,1,2,3,4,5] Y (rm Y (rp Y (p_not Y Y) (rm Y ?_)))
  refine (Classical.em ((!minus0) = true)).elim (fun h4 => ?_) (fun h4 => ?_)
  ·exact rn Y h4 Y (p_move Y Y) (rn Y h4 Y (p_u64lt (a := n1) (b := (9223372036854775808 : UInt64)) Y Y Y) (rp Y (p_pkt Y Y h4 (tb ((and_l (p := (!minus0) = true) (q := n1 < (9223372036854775808 : UInt64)) h4)))) (rend Y Y)))
  exact rO Y (bfalse h4) Y (rO Y (bfalse h4) Y (rp Y (p_pkf Y Y (bfalse h4) (tb (dF (p := ((!minus0) = true) ∧ (n1 < (9223372036854775808 : UInt64))) (fun x => h4 x.1)).symm)) (rend Y Y)))
 refine if2 H Y (fun h5 H => ?_) (fun h5 H => ?_)
 ·refine sg [0,1,2,3,4,5,6] Y (rm Y (rp Y (p_u64_i (a := n1) Y U22 U3 Y) (bindK H fun r'2 h6 H => rp Y (p_callp Y Y Y Tryd.func49 Y Y (g_ref_intOf_ac h6) ⟨Y, trivial⟩) (rp Y (p_ext Y Y Y Y) (rp Y (p_ext Y Y Y Y) ?_)))))
  refine rq Y (u_sw Y Y Y Y Y in_24 (GValue.len r'2.1) (GValue.len GValue.zero) Y) (ra Y (rz [(4, _), (5, .i r'2.2)] [(4, .pure (GValue.cs r'2.1))] Y (AW2_ret ?_)))
  obtain rfl := se H
  exact ⟨⟨rcw U24 Y in_24 Y (GValue.len r'2.1), rt, trivial⟩, trivial⟩
 refine as2 [(4, _)] [(4, _)] Y (AW2_skip (sg [0,1,2] Y (rp Y (u_bld Y in_24 one_24 zc_24 pl_24 Y Y) (rq Y (u_sw Y Y Y Y Y in_24 (GValue.len GValue.zero) (GValue.len GValue.zero) Y) (ra Y (rz [(4, _), (5, .i (6 : Int))] [(4, .pure (GValue.cs GValue.zero))] Y ?_))))))
 refine AW2_ret ?_
 obtain rfl := se H
 exact ⟨⟨rcw U24 Y in_24 Y (GValue.len GValue.zero), rt, trivial⟩, trivial⟩
noncomputable def g_ref_reckoned (op0 : Int) (a1 : Int) (b2 : Int) : Option (GValue × Int) :=
  ((if op0 = (6 : Int) then some (decide (op0 = (6 : Int))) else some (decide (op0 = (5 : Int))))).bind fun j'1 => (if j'1 = true then (if op0 = (5 : Int) then letO ((add64 ((UInt64.ofInt a1) + (9223372036854775808 : UInt64)) ((UInt64.ofInt b2) + (9223372036854775808 : UInt64))).1) fun s10'2 => letO ((add64 ((UInt64.ofInt a1) + (9223372036854775808 : UInt64)) ((UInt64.ofInt b2) + (9223372036854775808 : UInt64))).2) fun c11'3 => (if ((c11'3 = (0 : UInt64)) ∧ (s10'2 < (9223372036854775808 : UInt64))) ∨ ((c11'3 = (1 : UInt64)) ∧ ((9223372036854775808 : UInt64) ≤ s10'2)) then some (GValue.zero, (6 : Int)) else (g_ref_intOf (w64 (s10'2.toNat : Int))).bind fun r'4 => some (r'4.1, r'4.2)) else letO ((sub64 ((UInt64.ofInt a1) + (9223372036854775808 : UInt64)) ((UInt64.ofInt b2) + (9223372036854775808 : UInt64))).1) fun d12'5 => letO ((sub64 ((UInt64.ofInt a1) + (9223372036854775808 : UInt64)) ((UInt64.ofInt b2) + (9223372036854775808 : UInt64))).2) fun c13'6 => (if ((c13'6 = (0 : UInt64)) ∧ ((9223372036854775808 : UInt64) ≤ d12'5)) ∨ ((c13'6 = (1 : UInt64)) ∧ (d12'5 < (9223372036854775808 : UInt64))) then some (GValue.zero, (6 : Int)) else (g_ref_intOf (w64 (d12'5.toNat : Int))).bind fun r'7 => some (r'7.1, r'7.2))) else (if op0 = (7 : Int) then (g_ref_sizeOf a1).bind fun r'8 => (g_ref_sizeOf b2).bind fun r'9 => (g_bits_Mul64 r'8 r'9).bind fun r'10 => (if r'10.1 ≠ (0 : UInt64) then some (GValue.zero, (6 : Int)) else (g_ref_signed (decide ((decide (a1 < (0 : Int))) ≠ (decide (b2 < (0 : Int))))) r'10.2).bind fun r'11 => some (r'11.1, r'11.2)) else (if b2 = (0 : Int) then some (GValue.zero, (7 : Int)) else (g_ref_sizeOf a1).bind fun r'12 => (g_ref_sizeOf b2).bind fun r'13 => if r'13 ≠ (0 : UInt64) then (g_ref_signed (decide ((decide (a1 < (0 : Int))) ≠ (decide (b2 < (0 : Int))))) (r'12 / r'13)).bind fun r'14 => some (r'14.1, r'14.2) else none)))
set_option maxHeartbeats 4000000 in
set_option maxRecDepth 100000 in
theorem g_ref_reckoned_ac {op0 : Int} {a1 : Int} {b2 : Int} {r : GValue × Int} (H : g_ref_reckoned op0 a1 b2 = some r) : ACp Tryd.prog 48 [(AV.int op0), (AV.int a1), (AV.int b2)] (.tup [(.agg (GValue.cs r.1)), (AV.int r.2)]) := by
 refine ACp_of (AC2_of_body (vs := [.g (GValue.cs r.1), .i r.2]) Tryd.func48 Y Y (lb Y) Y ?_) (fun _ => .same _)
 unfold g_ref_reckoned at H
 refine as2 [(0, .i op0), (1, .i a1), (2, .i b2)] [] Y (sg [0,1] Y (rq Y (MakeD.opD (u_alloc 6 Y in_24 one_24 zc_24) Y Y Y Y) (ra Y (rz [(0, _), (1, _), (2, _), (6, .q 6 (0))] [(6, .pure (GValue.cs GValue.zero))] Y (AW2_seq (sg [0] Y ?_))))))
 refine rm Y (rz [(0, _), (1, _), (2, _), (6, _), (16, .i op0)] [(6, _)] Y (AW2_block (AW2_seq (bindK H fun j'1 h1 H => AW2_mid (⟨[(0, .i op0), (1, .i a1), (2, .i b2), (6, .q 6 (0)), (16, .i op0), (17, .b j'1)], [(6, .pure (GValue.cs GValue.zero))], 118⟩ : TS) ?_ ?_))))
 ·clear H
  have H := h1
  clear h1
  refine sg [0,1] Y (rp Y (p_ieq Y Y Y) (ra Y (rz [(0, .i op0), (1, .i a1), (2, .i b2), (6, .q 6 (0)), (16, .i op0), (17, .b (decide (op0 = (6 : Int))))] [(6, .pure (GValue.cs GValue.zero))] Y (if2 H Y (fun h2 H => ?_) (fun h2 H => ?_)))))
  ·refine AW2_skip ?_
   obtain rfl := se H
   exact rfl
  refine AW2_reg [0,1] Y (rp Y (p_ieq Y Y Y) (ra Y (rz [(0, _), (1, _), (2, _), (6, _), (16, _), (17, .b (decide (op0 = (5 : Int))))] [(6, _)] Y ?_)))
  obtain rfl := se H
  exact rfl
 refine AW2_cond Y (fun h3 => ?_) (fun h3 => ?_)
 ·replace H := ite_then h3 H
  refine sg [0,1,2,3,4,5,6,7] Y (rm Y (rp Y (p_i_u64 Y U3 U22 Y) (rp Y (p_u64add (a := UInt64.ofInt a1) (b := (9223372036854775808 : UInt64)) Y Y Y) (rm Y (rp Y (p_i_u64 Y U3 U22 Y) (rp Y (p_u64add (a := UInt64.ofInt b2) (b := (9223372036854775808 : UInt64)) Y Y Y) ?_))))))
  refine ra Y (ra Y (rz [(0, .i op0), (6, .q 6 (0)), (8, .p (AV.u64 ((UInt64.ofInt a1) + (9223372036854775808 : UInt64)))), (9, .p (AV.u64 ((UInt64.ofInt b2) + (9223372036854775808 : UInt64))))] [(6, .pure (GValue.cs GValue.zero))] Y (AW2_seq (sg [0,1] Y (rm Y (rp Y (p_ieq Y Y Y) ?_))))))
  refine rz [(6, _), (8, _), (9, _), (27, .b (decide (op0 = (5 : Int))))] [(6, _)] Y (if2 H Y (fun h4 H => ?_) (fun h4 H => ?_))
  ·refine sg [0,1,2,3,4,5,6,7] Y (rm Y (rm Y (rp Y (p_add64 (a := (UInt64.ofInt a1) + (9223372036854775808 : UInt64)) (b := (UInt64.ofInt b2) + (9223372036854775808 : UInt64)) Y Y Y Tryd.func62 Y Y (by kernel_rfl) (by kernel_rfl) Y Y Y) (rm Y (rp Y (p_ext Y Y Y Y) (rp Y (p_ext Y Y Y Y) ?_))))))
   refine ra Y (ra Y (rz [(6, _), (10, .p (AV.u64 ((add64 ((UInt64.ofInt a1) + (9223372036854775808 : UInt64)) ((UInt64.ofInt b2) + (9223372036854775808 : UInt64))).1))), (11, .p (AV.u64 ((add64 ((UInt64.ofInt a1) + (9223372036854775808 : UInt64)) ((UInt64.ofInt b2) + (9223372036854775808 : UInt64))).2)))] [(6, _)] Y (gen1 (fun s10'2 => (⟨[(6, .q 6 (0)), (10, .p (AV.u64 s10'2)), (11, .p (AV.u64 ((add64 ((UInt64.ofInt a1) + (9223372036854775808 : UInt64)) ((UInt64.ofInt b2) + (9223372036854775808 : UInt64))).2)))], [(6, .pure (GValue.cs GValue.zero))], 118⟩ : TS)) H ?_)))
   intro s10'2 H
   refine gen1 (fun c11'3 => (⟨[(6, .q 6 (0)), (10, .p (AV.u64 s10'2)), (11, .p (AV.u64 c11'3))], [(6, .pure (GValue.cs GValue.zero))], 118⟩ : TS)) H ?_
   intro c11'3 H
   refine AW2_seq (AW2_seq (AW2_mid (⟨[(6, .q 6 (0)), (10, .p (AV.u64 s10'2)), (47, .b (decide (((c11'3 = (0 : UInt64)) ∧ (s10'2 < (9223372036854775808 : UInt64))) ∨ ((c11'3 = (1 : UInt64)) ∧ ((9223372036854775808 : UInt64) ≤ s10'2)))))], [(6, .pure (GValue.cs GValue.zero))], 118⟩ : TS) ?_ ?_))
   ·refine AW2_reg [0,1,2,3,4,5,6,7,8,9,10,11,12,13] Y (rm Y (rp Y (p_u64eq (a := c11'3) (b := (0 : UInt64)) Y Y Y) (rm Y ?_)))
    refine (Classical.em (c11'3 = (0 : UInt64))).elim (fun h5 => ?_) (fun h5 => ?_)
    ·refine rn Y (dT h5) Y (p_move Y Y) (rn Y (dT h5) Y (p_u64lt (a := s10'2) (b := (9223372036854775808 : UInt64)) Y Y Y) (rp Y (p_pkt Y Y (dT h5) (tb ((and_l (p := c11'3 = (0 : UInt64)) (q := s10'2 < (9223372036854775808 : UInt64)) h5)))) (rm Y ?_)))
     refine (Classical.em (s10'2 < (9223372036854775808 : UInt64))).elim (fun h6 => ?_) (fun h6 => ?_)
     ·have qq1 := dT (p := (c11'3 = (0 : UInt64)) ∧ (s10'2 < (9223372036854775808 : UInt64))) ⟨h5, h6⟩
      iterate 3 (refine rO Y qq1 Y ?_)
      iterate 2 (refine r_off2 rfl rfl rfl rfl rfl rfl ?_)
      exact rO Y qq1 Y (rp Y (p_pkt Y Y qq1 (tb (dT (p := ((c11'3 = (0 : UInt64)) ∧ (s10'2 < (9223372036854775808 : UInt64))) ∨ ((c11'3 = (1 : UInt64)) ∧ ((9223372036854775808 : UInt64) ≤ s10'2))) (Or.inl ⟨h5, h6⟩)).symm)) (rend Y Y))
     have qq2 := dF (p := (c11'3 = (0 : UInt64)) ∧ (s10'2 < (9223372036854775808 : UInt64))) (fun h => h6 h.2)
     refine rn Y qq2 Y (p_move Y Y) (rn Y qq2 Y (p_u64eq (a := c11'3) (b := (1 : UInt64)) Y Y Y) (rn Y qq2 Y (p_move Y Y) ?_))
     refine (Classical.em (c11'3 = (1 : UInt64))).elim (fun h7 => ?_) (fun h7 => ?_)
     ·exact rn Y (dT h7) Y (p_move Y Y) (rn Y (dT h7) Y (p_u64ge (a := s10'2) (b := (9223372036854775808 : UInt64)) Y Y Y) (rn Y qq2 Y (p_pkt Y Y (dT h7) (tb ((and_l (p := c11'3 = (1 : UInt64)) (q := (9223372036854775808 : UInt64) ≤ s10'2) h7)))) (rp Y (p_pkf Y Y qq2 (tb ((or_l (p := (c11'3 = (0 : UInt64)) ∧ (s10'2 < (9223372036854775808 : UInt64))) (q := (c11'3 = (1 : UInt64)) ∧ ((9223372036854775808 : UInt64) ≤ s10'2)) (fun h => h6 h.2))))) (rend Y Y))))
     iterate 2 (refine rO Y (dF h7) Y ?_)
     exact rn Y qq2 Y (p_pkf Y Y (dF h7) (tb (dF (p := (c11'3 = (1 : UInt64)) ∧ ((9223372036854775808 : UInt64) ≤ s10'2)) (fun x => h7 x.1)).symm)) (rp Y (p_pkf Y Y qq2 (tb ((or_l (p := (c11'3 = (0 : UInt64)) ∧ (s10'2 < (9223372036854775808 : UInt64))) (q := (c11'3 = (1 : UInt64)) ∧ ((9223372036854775808 : UInt64) ≤ s10'2)) (fun h => h6 h.2))))) (rend Y Y))
    iterate 2 (refine rO Y (dF h5) Y ?_)
    refine rp Y (p_pkf Y Y (dF h5) (tb (dF (p := (c11'3 = (0 : UInt64)) ∧ (s10'2 < (9223372036854775808 : UInt64))) (fun x => h5 x.1)).symm)) (rm Y ?_)
    have qq3 := dF (p := (c11'3 = (0 : UInt64)) ∧ (s10'2 < (9223372036854775808 : UInt64))) (fun h => h5 h.1)
    refine rn Y qq3 Y (p_move Y Y) (rn Y qq3 Y (p_u64eq (a := c11'3) (b := (1 : UInt64)) Y Y Y) (rn Y qq3 Y (p_move Y Y) ?_))
    refine (Classical.em (c11'3 = (1 : UInt64))).elim (fun h8 => ?_) (fun h8 => ?_)
    ·exact rn Y (dT h8) Y (p_move Y Y) (rn Y (dT h8) Y (p_u64ge (a := s10'2) (b := (9223372036854775808 : UInt64)) Y Y Y) (rn Y qq3 Y (p_pkt Y Y (dT h8) (tb ((and_l (p := c11'3 = (1 : UInt64)) (q := (9223372036854775808 : UInt64) ≤ s10'2) h8)))) (rp Y (p_pkf Y Y qq3 (tb ((or_l (p := (c11'3 = (0 : UInt64)) ∧ (s10'2 < (9223372036854775808 : UInt64))) (q := (c11'3 = (1 : UInt64)) ∧ ((9223372036854775808 : UInt64) ≤ s10'2)) (fun h => h5 h.1))))) (rend Y Y))))
    iterate 2 (refine rO Y (dF h8) Y ?_)
    exact rn Y qq3 Y (p_pkf Y Y (dF h8) (tb (dF (p := (c11'3 = (1 : UInt64)) ∧ ((9223372036854775808 : UInt64) ≤ s10'2)) (fun x => h8 x.1)).symm)) (rp Y (p_pkf Y Y qq3 (tb ((or_l (p := (c11'3 = (0 : UInt64)) ∧ (s10'2 < (9223372036854775808 : UInt64))) (q := (c11'3 = (1 : UInt64)) ∧ ((9223372036854775808 : UInt64) ≤ s10'2)) (fun h => h5 h.1))))) (rend Y Y))
   refine if2 H Y (fun h9 H => ?_) (fun h9 H => ?_)
   ·refine sg [0,1,2] Y (rp Y (u_bld Y in_24 one_24 zc_24 pl_24 Y Y) (rq Y (u_sw Y Y Y Y Y in_24 (GValue.len GValue.zero) (GValue.len GValue.zero) Y) (ra Y (rz [(6, _), (7, .i (6 : Int))] [(6, .pure (GValue.cs GValue.zero))] Y (AW2_ret ?_)))))
    obtain rfl := se H
    exact ⟨⟨rcw U24 Y in_24 Y (GValue.len GValue.zero), rt, trivial⟩, trivial⟩
   refine as2 [(6, _), (10, _)] [(6, _)] Y (AW2_skip (sg [0,1,2,3,4,5,6] Y (rm Y (rp Y (p_u64_i (a := s10'2) Y U22 U3 Y) (bindK H fun r'4 h10 H => rp Y (p_callp Y Y Y Tryd.func49 Y Y (g_ref_intOf_ac h10) ⟨Y, trivial⟩) ?_)))))
   refine rp Y (p_ext Y Y Y Y) (rp Y (p_ext Y Y Y Y) (rq Y (u_sw Y Y Y Y Y in_24 (GValue.len r'4.1) (GValue.len GValue.zero) Y) (ra Y (rz [(6, _), (7, .i r'4.2)] [(6, .pure (GValue.cs r'4.1))] Y (AW2_ret ?_)))))
   obtain rfl := se H
   exact ⟨⟨rcw U24 Y in_24 Y (GValue.len r'4.1), rt, trivial⟩, trivial⟩
  refine as2 [(6, _), (8, _), (9, _)] [(6, _)] Y (AW2_skip (sg [0,1,2,3,4,5,6,7] Y (rm Y (rm Y (rp Y (p_sub64 (a := (UInt64.ofInt a1) + (9223372036854775808 : UInt64)) (b := (UInt64.ofInt b2) + (9223372036854775808 : UInt64)) Y Y Y Tryd.func63 Y Y (by kernel_rfl) (by kernel_rfl) Y Y Y) (rm Y ?_))))))
  refine rp Y (p_ext Y Y Y Y) (rp Y (p_ext Y Y Y Y) (ra Y (ra Y (rz [(6, _), (12, .p (AV.u64 ((sub64 ((UInt64.ofInt a1) + (9223372036854775808 : UInt64)) ((UInt64.ofInt b2) + (9223372036854775808 : UInt64))).1))), (13, .p (AV.u64 ((sub64 ((UInt64.ofInt a1) + (9223372036854775808 : UInt64)) ((UInt64.ofInt b2) + (9223372036854775808 : UInt64))).2)))] [(6, _)] Y (gen1 (fun d12'5 => (⟨[(6, .q 6 (0)), (12, .p (AV.u64 d12'5)), (13, .p (AV.u64 ((sub64 ((UInt64.ofInt a1) + (9223372036854775808 : UInt64)) ((UInt64.ofInt b2) + (9223372036854775808 : UInt64))).2)))], [(6, .pure (GValue.cs GValue.zero))], 118⟩ : TS)) H ?_)))))
  intro d12'5 H
  refine gen1 (fun c13'6 => (⟨[(6, .q 6 (0)), (12, .p (AV.u64 d12'5)), (13, .p (AV.u64 c13'6))], [(6, .pure (GValue.cs GValue.zero))], 118⟩ : TS)) H ?_
  intro c13'6 H
  refine AW2_seq (AW2_seq (AW2_mid (⟨[(6, .q 6 (0)), (12, .p (AV.u64 d12'5)), (73, .b (decide (((c13'6 = (0 : UInt64)) ∧ ((9223372036854775808 : UInt64) ≤ d12'5)) ∨ ((c13'6 = (1 : UInt64)) ∧ (d12'5 < (9223372036854775808 : UInt64))))))], [(6, .pure (GValue.cs GValue.zero))], 118⟩ : TS) ?_ ?_))
  ·refine AW2_reg [0,1,2,3,4,5,6,7,8,9,10,11,12,13] Y (rm Y (rp Y (p_u64eq (a := c13'6) (b := (0 : UInt64)) Y Y Y) (rm Y ?_)))
   refine (Classical.em (c13'6 = (0 : UInt64))).elim (fun h11 => ?_) (fun h11 => ?_)
   ·refine rn Y (dT h11) Y (p_move Y Y) (rn Y (dT h11) Y (p_u64ge (a := d12'5) (b := (9223372036854775808 : UInt64)) Y Y Y) (rp Y (p_pkt Y Y (dT h11) (tb ((and_l (p := c13'6 = (0 : UInt64)) (q := (9223372036854775808 : UInt64) ≤ d12'5) h11)))) (rm Y ?_)))
    refine (Classical.em ((9223372036854775808 : UInt64) ≤ d12'5)).elim (fun h12 => ?_) (fun h12 => ?_)
    ·have qq4 := dT (p := (c13'6 = (0 : UInt64)) ∧ ((9223372036854775808 : UInt64) ≤ d12'5)) ⟨h11, h12⟩
     iterate 3 (refine rO Y qq4 Y ?_)
     iterate 2 (refine r_off2 rfl rfl rfl rfl rfl rfl ?_)
     exact rO Y qq4 Y (rp Y (p_pkt Y Y qq4 (tb (dT (p := ((c13'6 = (0 : UInt64)) ∧ ((9223372036854775808 : UInt64) ≤ d12'5)) ∨ ((c13'6 = (1 : UInt64)) ∧ (d12'5 < (9223372036854775808 : UInt64)))) (Or.inl ⟨h11, h12⟩)).symm)) (rend Y Y))
    have qq5 := dF (p := (c13'6 = (0 : UInt64)) ∧ ((9223372036854775808 : UInt64) ≤ d12'5)) (fun h => h12 h.2)
    refine rn Y qq5 Y (p_move Y Y) (rn Y qq5 Y (p_u64eq (a := c13'6) (b := (1 : UInt64)) Y Y Y) (rn Y qq5 Y (p_move Y Y) ?_))
    refine (Classical.em (c13'6 = (1 : UInt64))).elim (fun h13 => ?_) (fun h13 => ?_)
    ·exact rn Y (dT h13) Y (p_move Y Y) (rn Y (dT h13) Y (p_u64lt (a := d12'5) (b := (9223372036854775808 : UInt64)) Y Y Y) (rn Y qq5 Y (p_pkt Y Y (dT h13) (tb ((and_l (p := c13'6 = (1 : UInt64)) (q := d12'5 < (9223372036854775808 : UInt64)) h13)))) (rp Y (p_pkf Y Y qq5 (tb ((or_l (p := (c13'6 = (0 : UInt64)) ∧ ((9223372036854775808 : UInt64) ≤ d12'5)) (q := (c13'6 = (1 : UInt64)) ∧ (d12'5 < (9223372036854775808 : UInt64))) (fun h => h12 h.2))))) (rend Y Y))))
    iterate 2 (refine rO Y (dF h13) Y ?_)
    exact rn Y qq5 Y (p_pkf Y Y (dF h13) (tb (dF (p := (c13'6 = (1 : UInt64)) ∧ (d12'5 < (9223372036854775808 : UInt64))) (fun x => h13 x.1)).symm)) (rp Y (p_pkf Y Y qq5 (tb ((or_l (p := (c13'6 = (0 : UInt64)) ∧ ((9223372036854775808 : UInt64) ≤ d12'5)) (q := (c13'6 = (1 : UInt64)) ∧ (d12'5 < (9223372036854775808 : UInt64))) (fun h => h12 h.2))))) (rend Y Y))
   iterate 2 (refine rO Y (dF h11) Y ?_)
   refine rp Y (p_pkf Y Y (dF h11) (tb (dF (p := (c13'6 = (0 : UInt64)) ∧ ((9223372036854775808 : UInt64) ≤ d12'5)) (fun x => h11 x.1)).symm)) (rm Y ?_)
   have qq6 := dF (p := (c13'6 = (0 : UInt64)) ∧ ((9223372036854775808 : UInt64) ≤ d12'5)) (fun h => h11 h.1)
   refine rn Y qq6 Y (p_move Y Y) (rn Y qq6 Y (p_u64eq (a := c13'6) (b := (1 : UInt64)) Y Y Y) (rn Y qq6 Y (p_move Y Y) ?_))
   refine (Classical.em (c13'6 = (1 : UInt64))).elim (fun h14 => ?_) (fun h14 => ?_)
   ·exact rn Y (dT h14) Y (p_move Y Y) (rn Y (dT h14) Y (p_u64lt (a := d12'5) (b := (9223372036854775808 : UInt64)) Y Y Y) (rn Y qq6 Y (p_pkt Y Y (dT h14) (tb ((and_l (p := c13'6 = (1 : UInt64)) (q := d12'5 < (9223372036854775808 : UInt64)) h14)))) (rp Y (p_pkf Y Y qq6 (tb ((or_l (p := (c13'6 = (0 : UInt64)) ∧ ((9223372036854775808 : UInt64) ≤ d12'5)) (q := (c13'6 = (1 : UInt64)) ∧ (d12'5 < (9223372036854775808 : UInt64))) (fun h => h11 h.1))))) (rend Y Y))))
   iterate 2 (refine rO Y (dF h14) Y ?_)
   exact rn Y qq6 Y (p_pkf Y Y (dF h14) (tb (dF (p := (c13'6 = (1 : UInt64)) ∧ (d12'5 < (9223372036854775808 : UInt64))) (fun x => h14 x.1)).symm)) (rp Y (p_pkf Y Y qq6 (tb ((or_l (p := (c13'6 = (0 : UInt64)) ∧ ((9223372036854775808 : UInt64) ≤ d12'5)) (q := (c13'6 = (1 : UInt64)) ∧ (d12'5 < (9223372036854775808 : UInt64))) (fun h => h11 h.1))))) (rend Y Y))
  refine if2 H Y (fun h15 H => ?_) (fun h15 H => ?_)
  ·refine sg [0,1,2] Y (rp Y (u_bld Y in_24 one_24 zc_24 pl_24 Y Y) (rq Y (u_sw Y Y Y Y Y in_24 (GValue.len GValue.zero) (GValue.len GValue.zero) Y) (ra Y (rz [(6, _), (7, .i (6 : Int))] [(6, .pure (GValue.cs GValue.zero))] Y (AW2_ret ?_)))))
   obtain rfl := se H
   exact ⟨⟨rcw U24 Y in_24 Y (GValue.len GValue.zero), rt, trivial⟩, trivial⟩
  refine as2 [(6, _), (12, _)] [(6, _)] Y (AW2_skip (sg [0,1,2,3,4,5,6] Y (rm Y (rp Y (p_u64_i (a := d12'5) Y U22 U3 Y) (bindK H fun r'7 h16 H => rp Y (p_callp Y Y Y Tryd.func49 Y Y (g_ref_intOf_ac h16) ⟨Y, trivial⟩) ?_)))))
  refine rp Y (p_ext Y Y Y Y) (rp Y (p_ext Y Y Y Y) (rq Y (u_sw Y Y Y Y Y in_24 (GValue.len r'7.1) (GValue.len GValue.zero) Y) (ra Y (rz [(6, _), (7, .i r'7.2)] [(6, .pure (GValue.cs r'7.1))] Y (AW2_ret ?_)))))
  obtain rfl := se H
  exact ⟨⟨rcw U24 Y in_24 Y (GValue.len r'7.1), rt, trivial⟩, trivial⟩
 replace H := ite_else (ne_true h3) H
 refine sg [0,1] Y (rp Y (p_ieq Y Y Y) (ra Y (rz [(1, .i a1), (2, .i b2), (6, .q 6 (0)), (80, .b (decide (op0 = (7 : Int))))] [(6, .pure (GValue.cs GValue.zero))] Y (if2 H Y (fun h17 H => ?_) (fun h17 H => ?_)))))
 ·refine sg [0,1,2,3,4,5,6,7,8,9] Y (rm Y (bindK H fun r'8 h18 H => rp Y (p_callp Y Y Y Tryd.func65 Y Y (g_ref_sizeOf_ac h18) ⟨Y, trivial⟩) (rm Y (bindK H fun r'9 h19 H => rp Y (p_callp Y Y Y Tryd.func65 Y Y (g_ref_sizeOf_ac h19) ⟨Y, trivial⟩) ?_))))
  refine bindK H fun r'10 h20 H => rp Y (p_callp Y Y Y Tryd.func64 Y Y (g_bits_Mul64_ac h20) ⟨Y, Y, trivial⟩) (rm Y (rp Y (p_ext Y Y Y Y) (rp Y (p_ext Y Y Y Y) (ra Y (ra Y ?_)))))
  refine rz [(1, _), (2, _), (6, _), (14, .p (AV.u64 r'10.1)), (15, .p (AV.u64 r'10.2))] [(6, _)] Y (AW2_seq (sg [0,1] Y (rm Y (rp Y (p_u64ne (a := r'10.1) (b := (0 : UInt64)) Y Y Y) (rz [(1, _), (2, _), (6, _), (15, _), (91, .b (decide (r'10.1 ≠ (0 : UInt64))))] [(6, _)] Y (if2 H Y (fun h21 H => ?_) (fun h21 H => ?_)))))))
  ·refine sg [0,1,2] Y (rp Y (u_bld Y in_24 one_24 zc_24 pl_24 Y Y) (rq Y (u_sw Y Y Y Y Y in_24 (GValue.len GValue.zero) (GValue.len GValue.zero) Y) (ra Y (rz [(6, _), (7, .i (6 : Int))] [(6, .pure (GValue.cs GValue.zero))] Y (AW2_ret ?_)))))
   obtain rfl := se H
   exact ⟨⟨rcw U24 Y in_24 Y (GValue.len GValue.zero), rt, trivial⟩, trivial⟩
  refine as2 [(1, _), (2, _), (6, _), (15, _)] [(6, _)] Y (AW2_skip (sg [0,1,2,3,4,5,6,7,8,9,10] Y (rm Y (rp Y (p_bin Y Y Y Y) (rm Y (rp Y (p_bin Y Y Y Y) ?_))))))
  refine rp Y (p_bnep Y U4 Y Y) (rm Y (bindK H fun r'11 h22 H => rp Y (p_callp Y Y Y Tryd.func66 Y Y (g_ref_signed_ac h22) ⟨Y, Y, trivial⟩) (rp Y (p_ext Y Y Y Y) (rp Y (p_ext Y Y Y Y) (rq Y (u_sw Y Y Y Y Y in_24 (GValue.len r'11.1) (GValue.len GValue.zero) Y) ?_)))))
  refine ra Y (rz [(6, _), (7, .i r'11.2)] [(6, .pure (GValue.cs r'11.1))] Y (AW2_ret ?_))
  obtain rfl := se H
  exact ⟨⟨rcw U24 Y in_24 Y (GValue.len r'11.1), rt, trivial⟩, trivial⟩
 refine as2 [(1, _), (2, _), (6, _)] [(6, _)] Y (AW2_skip (AW2_seq (sg [0,1] Y (rm Y (rp Y (p_ieq Y Y Y) (rz [(1, _), (2, _), (6, _), (103, .b (decide (b2 = (0 : Int))))] [(6, _)] Y ?_))))))
 refine if2 H Y (fun h23 H => ?_) (fun h23 H => ?_)
 ·refine sg [0,1,2] Y (rp Y (u_bld Y in_24 one_24 zc_24 pl_24 Y Y) (rq Y (u_sw Y Y Y Y Y in_24 (GValue.len GValue.zero) (GValue.len GValue.zero) Y) (ra Y (rz [(6, _), (7, .i (7 : Int))] [(6, .pure (GValue.cs GValue.zero))] Y (AW2_ret ?_)))))
  obtain rfl := se H
  exact ⟨⟨rcw U24 Y in_24 Y (GValue.len GValue.zero), rt, trivial⟩, trivial⟩
 refine as2 [(1, _), (2, _), (6, _)] [(6, _)] Y (AW2_skip (sg [0,1,2,3,4,5,6,7,8,9,10,11,12,13,14] Y (rm Y (rp Y (p_bin Y Y Y Y) (rm Y (rp Y (p_bin Y Y Y Y) ?_))))))
 refine rp Y (p_bnep Y U4 Y Y) (rm Y (bindK H fun r'12 h24 H => rp Y (p_callp Y Y Y Tryd.func65 Y Y (g_ref_sizeOf_ac h24) ⟨Y, trivial⟩) (rm Y (bindK H fun r'13 h25 H => rp Y (p_callp Y Y Y Tryd.func65 Y Y (g_ref_sizeOf_ac h25) ⟨Y, trivial⟩) ?_))))
 refine chkK H fun h26 H => rp Y (p_u64quo (a := r'12) (b := r'13) Y Y Y h26) (bindK H fun r'14 h27 H => rp Y (p_callp Y Y Y Tryd.func66 Y Y (g_ref_signed_ac h27) ⟨Y, Y, trivial⟩) (rp Y (p_ext Y Y Y Y) (rp Y (p_ext Y Y Y Y) (rq Y (u_sw Y Y Y Y Y in_24 (GValue.len r'14.1) (GValue.len GValue.zero) Y) ?_))))
 refine ra Y (rz [(6, _), (7, .i r'14.2)] [(6, .pure (GValue.cs r'14.1))] Y (AW2_ret ?_))
 obtain rfl := se H
 exact ⟨⟨rcw U24 Y in_24 Y (GValue.len r'14.1), rt, trivial⟩, trivial⟩
noncomputable def g_ref_sign (n0 : Int) : Option (Int) :=
  (if n0 > (0 : Int) then some (1 : Int) else (if n0 < (0 : Int) then some (-1 : Int) else some (0 : Int)))
set_option maxHeartbeats 4000000 in
set_option maxRecDepth 100000 in
theorem g_ref_sign_ac {n0 : Int} {r : Int} (H : g_ref_sign n0 = some r) : ACp Tryd.prog 67 [(AV.int n0)] (AV.int r) := by
 refine ACp_of (AC2_of_body (vs := [.i r]) Tryd.func67 Y Y (lb Y) Y ?_) (fun _ => .same _)
 unfold g_ref_sign at H
 refine as2 [(0, .i n0)] [] Y (sg [0] Y (ra Y (rz [(0, _)] [] Y (AW2_seq (sg [0,1] Y (rm Y ?_))))))
 refine rp Y (p_bin Y Y Y Y) (rz [(0, _), (4, .b (decide (n0 > (0 : Int))))] [] Y (if2 H Y (fun h1 H => ?_) (fun h1 H => ?_)))
 ·refine sg [0] Y (ra Y (rz [(2, .i (1 : Int))] [] Y (AW2_ret ?_)))
  obtain rfl := se H
  exact ⟨⟨rt, trivial⟩, trivial⟩
 refine as2 [(0, _)] [] Y (AW2_skip (AW2_seq (sg [0,1] Y (rm Y (rp Y (p_bin Y Y Y Y) (rz [(6, .b (decide (n0 < (0 : Int))))] [] Y ?_))))))
 refine if2 H Y (fun h2 H => ?_) (fun h2 H => ?_)
 ·refine sg [0] Y (ra Y (rz [(2, .i (-1 : Int))] [] Y (AW2_ret ?_)))
  obtain rfl := se H
  exact ⟨⟨rt, trivial⟩, trivial⟩
 refine as2 [] [] Y (AW2_skip (sg [0] Y (ra Y (rz [(2, .i (0 : Int))] [] Y (AW2_ret ?_)))))
 obtain rfl := se H
 exact ⟨⟨rt, trivial⟩, trivial⟩
noncomputable def g_ref_risen (b0 : UInt64) : Option (UInt64) :=
  (if b0 < (9223372036854775808 : UInt64) then some (b0 + (9223372036854775808 : UInt64)) else some (~~~ b0))
set_option maxHeartbeats 4000000 in
set_option maxRecDepth 100000 in
theorem g_ref_risen_ac {b0 : UInt64} {r : UInt64} (H : g_ref_risen b0 = some r) : ACp Tryd.prog 69 [(AV.u64 b0)] (AV.u64 r) := by
 refine ACp_of (AC2_of_body (vs := [.p (AV.u64 r)]) Tryd.func69 Y Y (lb Y) Y ?_) (fun _ => .same _)
 unfold g_ref_risen at H
 refine as2 [(0, .p (AV.u64 b0))] [] Y (sg [0] Y (ra Y (rz [(0, _)] [] Y (AW2_seq (sg [0,1] Y (rm Y ?_))))))
 refine rp Y (p_u64lt (a := b0) (b := (9223372036854775808 : UInt64)) Y Y Y) (rz [(0, _), (4, .b (decide (b0 < (9223372036854775808 : UInt64))))] [] Y (if2 H Y (fun h1 H => ?_) (fun h1 H => ?_)))
 ·refine sg [0,1,2] Y (rm Y (rp Y (p_u64add (a := b0) (b := (9223372036854775808 : UInt64)) Y Y Y) (ra Y (rz [(2, .p (AV.u64 (b0 + (9223372036854775808 : UInt64))))] [] Y (AW2_ret ?_)))))
  obtain rfl := se H
  exact ⟨⟨rt, trivial⟩, trivial⟩
 refine as2 [(0, _)] [] Y (AW2_skip (sg [0,1,2] Y (rm Y (rp Y (p_u64cpl Y Y) (ra Y (rz [(2, .p (AV.u64 (~~~ b0)))] [] Y ?_))))))
 refine AW2_ret ?_
 obtain rfl := se H
 exact ⟨⟨rt, trivial⟩, trivial⟩
noncomputable def g_ref_bitsOrder (a0 : UInt64) (b1 : UInt64) : Option (Int) :=
  (if a0 < b1 then some (-1 : Int) else (if b1 < a0 then some (1 : Int) else some (0 : Int)))
set_option maxHeartbeats 4000000 in
set_option maxRecDepth 100000 in
theorem g_ref_bitsOrder_ac {a0 : UInt64} {b1 : UInt64} {r : Int} (H : g_ref_bitsOrder a0 b1 = some r) : ACp Tryd.prog 68 [(AV.u64 a0), (AV.u64 b1)] (AV.int r) := by
 refine ACp_of (AC2_of_body (vs := [.i r]) Tryd.func68 Y Y (lb Y) Y ?_) (fun _ => .same _)
 unfold g_ref_bitsOrder at H
 refine as2 [(0, .p (AV.u64 a0)), (1, .p (AV.u64 b1))] [] Y (sg [0] Y (ra Y (rz [(0, _), (1, _)] [] Y (AW2_seq (sg [0,1,2] Y (rm Y ?_))))))
 refine rm Y (rp Y (p_u64lt (a := a0) (b := b1) Y Y Y) (rz [(0, _), (1, _), (7, .b (decide (a0 < b1)))] [] Y (if2 H Y (fun h1 H => ?_) (fun h1 H => ?_))))
 ·refine sg [0] Y (ra Y (rz [(4, .i (-1 : Int))] [] Y (AW2_ret ?_)))
  obtain rfl := se H
  exact ⟨⟨rt, trivial⟩, trivial⟩
 refine as2 [(0, _), (1, _)] [] Y (AW2_skip (AW2_seq (sg [0,1,2] Y (rm Y (rm Y (rp Y (p_u64gt (a := a0) (b := b1) Y Y Y) ?_))))))
 refine rz [(10, .b (decide (b1 < a0)))] [] Y (if2 H Y (fun h2 H => ?_) (fun h2 H => ?_))
 ·refine sg [0] Y (ra Y (rz [(4, .i (1 : Int))] [] Y (AW2_ret ?_)))
  obtain rfl := se H
  exact ⟨⟨rt, trivial⟩, trivial⟩
 refine as2 [] [] Y (AW2_skip (sg [0] Y (ra Y (rz [(4, .i (0 : Int))] [] Y (AW2_ret ?_)))))
 obtain rfl := se H
 exact ⟨⟨rt, trivial⟩, trivial⟩
def g_ref_bytesOrder_r4 : List (List (Nat × Option Nat)) := [[(0, none)], [(5, none)], [(18, some 0), (19, some 1)], [(1, none)], [(5, none)], [(21, some 3), (22, some 4)]]
def g_ref_bytesOrder_r4c : List (List Nat) := [[], [], [0, 1], [], [], [3, 4], [0, 1, 2, 3, 4, 5]]
def g_ref_bytesOrder_r5 : List (List (Nat × Option Nat)) := [[(0, none)], [(5, none)], [(25, some 0), (26, some 1)], [(1, none)], [(5, none)], [(28, some 3), (29, some 4)]]
def g_ref_bytesOrder_r5c : List (List Nat) := [[], [], [0, 1], [], [], [3, 4], [0, 1, 2, 3, 4, 5]]
noncomputable def g_ref_bytesOrder_l0 (a0 : List UInt8) (b1 : List UInt8) : Int → Option (Int ⊕ (Int ⊕ Unit))
  | i5_0 => (if (i5_0 < (a0.length : Int)) ∧ (i5_0 < (b1.length : Int)) then if 0 ≤ i5_0 ∧ i5_0 < (a0.length : Int) then if 0 ≤ i5_0 ∧ i5_0 < (b1.length : Int) then (if (lrd a0 i5_0.toNat) ≠ (lrd b1 i5_0.toNat) then if 0 ≤ i5_0 ∧ i5_0 < (a0.length : Int) then if 0 ≤ i5_0 ∧ i5_0 < (b1.length : Int) then (if (lrd a0 i5_0.toNat) < (lrd b1 i5_0.toNat) then some (.inr (.inl (-1 : Int))) else some (.inr (.inl (1 : Int)))) else none else none else some (.inl (w64 (i5_0 + (1 : Int))))) else none else none else some (.inr (.inr ())))
noncomputable def g_ref_bytesOrder (a0 : List UInt8) (b1 : List UInt8) : Option (Int) :=
  (loopO (g_ref_bytesOrder_l0 a0 b1) (0 : Int)).bind fun o'4 => match o'4 with | .inl y'5 => some y'5 | .inr (y'6) => (g_ref_sign (w64 ((a0.length : Int) - (b1.length : Int)))).bind fun r'7 => some r'7
set_option maxHeartbeats 4000000 in
set_option maxRecDepth 100000 in
theorem g_ref_bytesOrder_ac {a0 : List UInt8} {b1 : List UInt8} {r : Int} (H : g_ref_bytesOrder a0 b1 = some r) : ACp Tryd.prog 70 [(AV.txt a0), (AV.txt b1)] (AV.int r) := by
 refine ACp_of (AC2_of_body (vs := [.i r]) Tryd.func70 Y Y (lb Y) Y ?_) (fun _ => .same _)
 unfold g_ref_bytesOrder at H
 refine as2 [(0, .t a0), (1, .t b1)] [] Y (sg [0] Y (ra Y (rz [(0, _), (1, _)] [] Y (AW2_seq (sg [0] Y (ra Y ?_))))))
 refine rz [(0, _), (1, _), (5, .i (0 : Int))] [] Y (AW2_block (as2 [(0, _), (1, _), (5, _)] [] Y (bindK H fun o'4 h9 H => AW2_loopO (fun a'1 : Int => (⟨[(0, .t a0), (1, .t b1), (5, .i a'1)], [], 38⟩ : TS)) (fun (o : Int ⊕ Unit) e s' => match o with | .inl y'2 => e = Go.Exit.ret ∧ ResAll Tryd.prog s' [ResultVar.tmp 4] [.i y'2] ∧ HFits s' [] | .inr (y'3) => e = Go.Exit.exit 0 ∧ s' = (⟨[(0, .t a0), (1, .t b1)], [], 38⟩ : TS)) h9 Y (fun i5_0 x hx => ?_) (fun e s' hs => ?_))))
 ·clear H
  have H := hx
  clear hx
  unfold g_ref_bytesOrder_l0 at H
  refine AW2_seq (AW2_seq (AW2_mid (⟨[(0, .t a0), (1, .t b1), (5, .i i5_0), (15, .b (decide ((i5_0 < (a0.length : Int)) ∧ (i5_0 < (b1.length : Int)))))], [], 38⟩ : TS) ?_ ?_))
  ·refine AW2_reg [0,1,2,3,4,5,6,7,8,9] Y (rm Y (rm Y (rp Y (p_lent Y U9 Y) (rp Y (p_bin Y Y Y Y) (rm Y ?_)))))
   refine (Classical.em (i5_0 < (a0.length : Int))).elim (fun h1 => ?_) (fun h1 => ?_)
   ·exact rn Y (dT h1) Y (p_move Y Y) (rn Y (dT h1) Y (p_move Y Y) (rn Y (dT h1) Y (p_lent Y U9 Y) (rn Y (dT h1) Y (p_bin Y Y Y Y) (rp Y (p_pkt Y Y (dT h1) (tb ((and_l (p := i5_0 < (a0.length : Int)) (q := i5_0 < (b1.length : Int)) h1)))) (rend Y Y)))))
   exact rO Y (dF h1) Y (rO Y (dF h1) Y (rO Y (dF h1) Y (rO Y (dF h1) Y (rp Y (p_pkf Y Y (dF h1) (tb (dF (p := (i5_0 < (a0.length : Int)) ∧ (i5_0 < (b1.length : Int))) (fun x => h1 x.1)).symm)) (rend Y Y)))))
  refine if2 H Y (fun h2 H => ?_) (fun h2 H => ?_)
  ·refine as2 [(0, _), (1, _), (5, _)] [] Y (AW2_skip (AW2_seq (AW2_block (AW2_seq (chkK H fun h3 H => chkK H fun h4 H => ?_)))))
   refine AW2_ghoQ (AW2_draw 6 [6] (fun k => ([.t a0, .i i5_0, .p (AV.b8 (lrd a0 i5_0.toNat)), .t b1, .i i5_0, .p (AV.b8 (lrd b1 i5_0.toNat))] : List TV).getD k TV.any) (fun k => g_ref_bytesOrder_r4.getD k []) [(0, none), (1, none), (5, none), (20, some 2), (23, some 5)] [] (fun k => g_ref_bytesOrder_r4c.getD k []) mixed (by kernel_rfl) Y Y (a_op (g_x Y (x_p Y (p_move Y Y) Y)) (a_op (g_x Y (x_p Y (p_move Y Y) Y)) (a_op (g_x Y (x_p Y (p_ixt Y U9 Y Y (ixe h3) (lrd_get (ixn h3))) Y)) (a_op (g_x Y (x_p Y (p_move Y Y) Y)) (a_op (g_x Y (x_p Y (p_move Y Y) Y)) (a_op (g_x Y (x_p Y (p_ixt Y U9 Y Y (ixe h4) (lrd_get (ixn h4))) Y)) (a_nil))))))) (t_op Y Y (PureD.opD (p_u8ne (a := (lrd a0 i5_0.toNat)) (b := (lrd b1 i5_0.toNat)) Y Y Y)) (t_gho (Gho_st (L := [(0, .t a0), (1, .t b1), (5, .i i5_0), (24, .b (decide ((lrd a0 i5_0.toNat) ≠ (lrd b1 i5_0.toNat))))]) (H := []) (N := 38) Y ⟨TLes.same _, TLes.same _, TLes.same _, TLes.same _, trivial⟩ trivial) (if2 H Y (fun h5 H => ?_) (fun h5 H => ?_)))))
   ·refine AW2_seq (AW2_seq (chkK H fun h6 H => chkK H fun h7 H => AW2_ghoQ (AW2_draw 6 [6] (fun k => ([.t a0, .i i5_0, .p (AV.b8 (lrd a0 i5_0.toNat)), .t b1, .i i5_0, .p (AV.b8 (lrd b1 i5_0.toNat))] : List TV).getD k TV.any) (fun k => g_ref_bytesOrder_r5.getD k []) [(27, some 2), (30, some 5)] [] (fun k => g_ref_bytesOrder_r5c.getD k []) mixed (by kernel_rfl) Y Y (a_op (g_x Y (x_p Y (p_move Y Y) Y)) (a_op (g_x Y (x_p Y (p_move Y Y) Y)) (a_op (g_x Y (x_p Y (p_ixt Y U9 Y Y (ixe h6) (lrd_get (ixn h6))) Y)) (a_op (g_x Y (x_p Y (p_move Y Y) Y)) (a_op (g_x Y (x_p Y (p_move Y Y) Y)) (a_op (g_x Y (x_p Y (p_ixt Y U9 Y Y (ixe h7) (lrd_get (ixn h7))) Y)) (a_nil))))))) (t_op Y Y (PureD.opD (p_u8lt (a := (lrd a0 i5_0.toNat)) (b := (lrd b1 i5_0.toNat)) Y Y Y)) ?_))))
    refine t_gho (Gho_st (L := [(31, .b (decide ((lrd a0 i5_0.toNat) < (lrd b1 i5_0.toNat))))]) (H := []) (N := 38) Y ⟨TLes.same _, trivial⟩ trivial) (if2 H Y (fun h8 H => ?_) (fun h8 H => ?_))
    ·refine sg [0] Y (ra Y (rz [(4, .i (-1 : Int))] [] Y (AW2_ret ?_)))
     obtain rfl := se H
     exact ⟨Y, ⟨rt, trivial⟩, trivial⟩
    refine as2 [] [] Y (AW2_skip (sg [0] Y (ra Y (rz [(4, .i (1 : Int))] [] Y (AW2_ret ?_)))))
    obtain rfl := se H
    exact ⟨Y, ⟨rt, trivial⟩, trivial⟩
   refine as2 [(0, .t a0), (1, .t b1), (5, .i i5_0)] [] Y (AW2_skip (AW2_reg [0,1,2] Y (rm Y (rp Y (p_bin Y Y Y Y) (ra Y (rz [(0, _), (1, _), (5, .i (w64 (i5_0 + (1 : Int))))] [] Y ?_))))))
   obtain rfl := se H
   exact ⟨Y, Y⟩
  refine as2 [(0, _), (1, _)] [] Y (AW2_exit (thenQ2_exit ?_))
  obtain rfl := se H
  exact ⟨Y, Y⟩
 rcases o'4 with y'5 | y'6
 ·obtain ⟨rfl, hs⟩ := hs
  refine ⟨by simp, ?_⟩
  obtain rfl := se H
  exact ⟨hs.1, hs.2⟩
 obtain ⟨rfl, rfl⟩ := hs
 refine ⟨by simp, ?_⟩
 refine blockQ2_exit (sg [0,1,2,3,4,5,6] Y (rm Y (rp Y (p_lent Y U9 Y) (rm Y (rp Y (p_lent Y U9 Y) (rp Y (p_bin Y Y Y Y) ?_))))))
 refine bindK H fun r'7 h10 H => rp Y (p_callp Y Y Y Tryd.func67 Y Y (g_ref_sign_ac h10) ⟨Y, trivial⟩) (ra Y (rz [(4, .i r'7)] [] Y (AW2_ret ?_)))
 obtain rfl := se H
 exact ⟨⟨rt, trivial⟩, trivial⟩
def g_ref_Order_r5 : List (List (Nat × Option Nat)) := [[(2, none)], [(20, some 0)], [(21, some 1)], [(3, none)], [(23, some 3)]]
def g_ref_Order_r5c : List (List Nat) := [[], [0], [0, 1], [], [3], [0, 1, 2, 3, 4], [0, 1, 2, 3, 4, 5], [0, 1, 2, 3, 4, 5, 6]]
noncomputable def g_ref_Order (a0 : GValue) (b1 : GValue) : Option (Int) :=
  (if a0.Kind ≠ b1.Kind then (g_ref_sign (w64 (a0.Kind - b1.Kind))).bind fun r'1 => some r'1 else (if a0.Kind = (3 : Int) then (g_ref_risen a0.Bits).bind fun r'2 => (g_ref_risen b1.Bits).bind fun r'3 => (g_ref_bitsOrder r'2 r'3).bind fun r'4 => some r'4 else (if a0.Kind = (4 : Int) then (g_ref_bytesOrder a0.Text b1.Text).bind fun r'5 => some r'5 else (g_ref_bitsOrder ((UInt64.ofInt a0.Int_) + (9223372036854775808 : UInt64)) ((UInt64.ofInt b1.Int_) + (9223372036854775808 : UInt64))).bind fun r'6 => some r'6)))
set_option maxHeartbeats 4000000 in
set_option maxRecDepth 100000 in
theorem g_ref_Order_ac {a0 : GValue} {b1 : GValue} {r : Int} (H : g_ref_Order a0 b1 = some r) : ACp Tryd.prog 51 [(.agg (GValue.cs a0)), (.agg (GValue.cs b1))] (AV.int r) := by
 refine ACp_of (AC2_of_body (vs := [.i r]) Tryd.func51 Y Y (lb Y) Y ?_) (fun _ => .same _)
 unfold g_ref_Order at H
 refine as2 [(0, .g (GValue.cs a0)), (1, .g (GValue.cs b1))] [] Y (sg [0,1,2] Y (rq Y (MakeD.opD (n_box 2 Y Y) Y Y Y Y) (rq Y (MakeD.opD (n_box 3 Y Y) Y Y Y Y) (ra Y (rz [(2, .q 2 (0)), (3, .q 3 (0))] [(2, .pure (GValue.cs a0)), (3, .pure (GValue.cs b1))] Y (AW2_seq ?_))))))
 refine sg [0,1,2,3,4] Y (rf Y U24 Y in_3 Y Y (GValue.len a0) (rp Y (u_ld Y Y U3 Y Y (GValue.sub0 a0)) (rf Y U24 Y in_3 Y Y (GValue.len b1) (rp Y (u_ld Y Y U3 Y Y (GValue.sub0 b1)) (rp Y (p_ine Y Y Y) (rz [(2, _), (3, _), (9, .b (decide (a0.Kind ≠ b1.Kind)))] [(2, _), (3, _)] Y ?_))))))
 refine if2 H Y (fun h1 H => ?_) (fun h1 H => ?_)
 ·refine sg [0,1,2,3,4,5,6] Y (rf Y U24 Y in_3 Y Y (GValue.len a0) (rp Y (u_ld Y Y U3 Y Y (GValue.sub0 a0)) (rf Y U24 Y in_3 Y Y (GValue.len b1) (rp Y (u_ld Y Y U3 Y Y (GValue.sub0 b1)) (rp Y (p_bin Y Y Y Y) (bindK H fun r'1 h2 H => ?_))))))
  refine rp Y (p_callp Y Y Y Tryd.func67 Y Y (g_ref_sign_ac h2) ⟨Y, trivial⟩) (ra Y (rz [(4, .i r'1)] [] Y (AW2_ret ?_)))
  obtain rfl := se H
  exact ⟨⟨rt, trivial⟩, trivial⟩
 refine as2 [(2, _), (3, _)] [(2, _), (3, _)] Y (AW2_skip (AW2_seq (sg [0,1] Y (rf Y U24 Y in_3 Y Y (GValue.len a0) (rp Y (u_ld Y Y U3 Y Y (GValue.sub0 a0)) (rz [(2, _), (3, _), (17, .i a0.Kind)] [(2, _), (3, _)] Y ?_))))))
 refine AW2_block (sg [0,1] Y (rp Y (p_ieq Y Y Y) (ra Y (rz [(2, _), (3, _), (17, _), (18, .b (decide (a0.Kind = (3 : Int))))] [(2, _), (3, _)] Y (if2 H Y (fun h3 H => ?_) (fun h3 H => ?_))))))
 ·refine AW2_seq (bindK H fun r'2 h4 H => bindK H fun r'3 h5 H => bindK H fun r'4 h6 H => AW2_ghoQ (AW2_draw 5 [5,6,7] (fun k => ([.q 2 (0 + 2), .p (AV.u64 a0.Bits), .p (AV.u64 r'2), .q 3 (0 + 2), .p (AV.u64 b1.Bits)] : List TV).getD k TV.any) (fun k => g_ref_Order_r5.getD k []) [(22, some 2), (24, some 4)] [] (fun k => g_ref_Order_r5c.getD k []) mixed (by kernel_rfl) Y Y (a_op (g_x Y (x_p Y (u_fa Y Y U24 Y in_22 nz Y Y (nl (GValue.len a0))) Y)) (a_op (g_x Y (x_p Y (u_ld Y Y U22 Y Y (GValue.sub2 a0)) Y)) (a_op (g_x Y (x_p Y (p_callp Y Y Y Tryd.func69 Y Y (g_ref_risen_ac h4) ⟨Y, trivial⟩) Y)) (a_op (g_x Y (x_p Y (u_fa Y Y U24 Y in_22 nz Y Y (nl (GValue.len b1))) Y)) (a_op (g_x Y (x_p Y (u_ld Y Y U22 Y Y (GValue.sub2 b1)) Y)) (a_nil)))))) (t_op Y Y (PureD.opD (p_callp Y Y Y Tryd.func69 Y Y (g_ref_risen_ac h5) ⟨Y, trivial⟩)) ?_)))
  refine t_op Y Y (PureD.opD (p_callp Y Y Y Tryd.func68 Y Y (g_ref_bitsOrder_ac h6) ⟨Y, Y, trivial⟩)) (t_op Y Y (PureD.opD (p_asg Y Y)) (t_gho (Gho_st (L := [(4, .i r'4)]) (H := []) (N := 43) Y ⟨TLes.same _, trivial⟩ trivial) (AW2_ret ?_)))
  obtain rfl := se H
  exact ⟨⟨rt, trivial⟩, trivial⟩
 refine sg [0,1] Y (rp Y (p_ieq Y Y Y) (ra Y (rz [(2, _), (3, _), (27, .b (decide (a0.Kind = (4 : Int))))] [(2, _), (3, _)] Y (if2 H Y (fun h7 H => ?_) (fun h7 H => ?_)))))
 ·refine sg [0,1,2,3,4,5] Y (rf Y U24 Y in_9 Y Y (GValue.len a0) (rp Y (u_ld Y Y U9 Y Y (GValue.sub3 a0)) (rf Y U24 Y in_9 Y Y (GValue.len b1) (rp Y (u_ld Y Y U9 Y Y (GValue.sub3 b1)) (bindK H fun r'5 h8 H => rp Y (p_callp Y Y Y Tryd.func70 Y Y (g_ref_bytesOrder_ac h8) ⟨Y, Y, trivial⟩) ?_)))))
  refine ra Y (rz [(4, .i r'5)] [] Y (AW2_ret ?_))
  obtain rfl := se H
  exact ⟨⟨rt, trivial⟩, trivial⟩
 refine as2 [(2, _), (3, _)] [(2, _), (3, _)] Y (AW2_skip (sg [0,1,2,3,4,5,6,7,8,9] Y (rf Y U24 Y in_3 Y Y (GValue.len a0) (rp Y (u_ld Y Y U3 Y Y (GValue.sub1 a0)) (rp Y (p_i_u64 Y U3 U22 Y) (rp Y (p_u64add (a := UInt64.ofInt a0.Int_) (b := (9223372036854775808 : UInt64)) Y Y Y) ?_))))))
 refine rf Y U24 Y in_3 Y Y (GValue.len b1) (rp Y (u_ld Y Y U3 Y Y (GValue.sub1 b1)) (rp Y (p_i_u64 Y U3 U22 Y) (rp Y (p_u64add (a := UInt64.ofInt b1.Int_) (b := (9223372036854775808 : UInt64)) Y Y Y) (bindK H fun r'6 h9 H => rp Y (p_callp Y Y Y Tryd.func68 Y Y (g_ref_bitsOrder_ac h9) ⟨Y, Y, trivial⟩) (ra Y ?_)))))
 refine rz [(4, .i r'6)] [] Y (AW2_ret ?_)
 obtain rfl := se H
 exact ⟨⟨rt, trivial⟩, trivial⟩
def g_ref_did_r15 : List (List (Nat × Option Nat)) := [[(0, none)], [(59, some 0)], [(60, some 1)], [(4, none)], [(62, some 3)], [(5, none)], [(64, some 5)], [(61, some 2), (63, some 4), (65, some 6)], [(66, some 7)], [(58, some 8)], [(58, some 8)], [(67, some 9)]]
def g_ref_did_r15c : List (List Nat) := [[], [0], [0, 1], [], [3], [], [3, 4, 5], [0, 1, 2, 3, 4, 5, 6], [0, 1, 2, 3, 4, 5, 6, 7], [0, 1, 2, 3, 4, 5, 6, 7, 8], [0, 1, 2, 3, 4, 5, 6, 7, 8], [0, 1, 2, 3, 4, 5, 6, 7, 8, 9], [0, 1, 2, 3, 4, 5, 6, 7, 8, 9, 10, 11]]
noncomputable def g_ref_did_l0 (v1 : GValue) (w2 : GValue) (r'1 : Int × Int) : Int → Option (Int ⊕ ((GValue × Int) ⊕ Unit))
  | t28_0 => (if t28_0 < (([v1, w2] : List GValue).length : Int) then if 0 ≤ t28_0 ∧ t28_0 < (([v1, w2] : List GValue).length : Int) then (if ((r'1.1 ≠ (0 : Int)) ∧ ((lrd ([v1, w2] : List GValue) t28_0.toNat).Kind ≠ (0 : Int))) ∧ ((lrd ([v1, w2] : List GValue) t28_0.toNat).Kind ≠ r'1.1) then some (.inr (.inl (GValue.zero, (2 : Int)))) else some (.inl (w64 (t28_0 + (1 : Int))))) else none else some (.inr (.inr ())))
noncomputable def g_ref_did (op0 : Int) (v1 : GValue) (w2 : GValue) : Option (GValue × Int) :=
  (g_ref_asksFor op0).bind fun r'1 => (loopO (g_ref_did_l0 v1 w2 r'1) (0 : Int)).bind fun o'5 => match o'5 with | .inl y'6 => some y'6 | .inr (y'7) => (if op0 = (17 : Int) then (if v1.Kind = (0 : Int) then (g_ref_boolOf (2 : Int)).bind fun r'8 => some (r'8, (0 : Int)) else (g_ref_boolOf (0 : Int)).bind fun r'9 => some (r'9, (0 : Int))) else ((if op0 = (15 : Int) then some (decide (op0 = (15 : Int))) else some (decide (op0 = (16 : Int))))).bind fun j'10 => (if j'10 = true then (g_ref_truthOf v1).bind fun r'11 => (g_ref_truthOf w2).bind fun r'12 => (g_ref_Logic (w64 ((w64 ((1 : Int) + op0)) - (15 : Int))) r'11 r'12).bind fun r'13 => (g_ref_boolOf r'13.1).bind fun r'14 => some (r'14, (0 : Int)) else (if op0 = (4 : Int) then (g_ref_truthOf v1).bind fun r'15 => (g_ref_Opposite r'15).bind fun r'16 => (g_ref_boolOf r'16.1).bind fun r'17 => some (r'17, (0 : Int)) else (if op0 = (20 : Int) then some (w2, (0 : Int)) else (if (v1.Kind = (0 : Int)) ∨ (((w2.Kind = (0 : Int)) ∧ (op0 ≠ (3 : Int))) ∧ (op0 ≠ (18 : Int))) then some (GValue.zero, (0 : Int)) else (if op0 = (3 : Int) then (g_ref_reckoned (6 : Int) (0 : Int) v1.Int_).bind fun r'18 => some (r'18.1, r'18.2) else (if op0 = (18 : Int) then (g_utf8_RuneCountInString v1.Text).bind fun r'19 => (g_ref_intOf r'19).bind fun r'20 => some (r'20.1, r'20.2) else (if op0 = (19 : Int) then if v1.Text.length + w2.Text.length ≤ 9223372036854775807 then (if ((v1.Text ++ w2.Text).length : Int) > (40 : Int) then some (GValue.zero, (1 : Int)) else letO ({ { GValue.zero with Kind := (4 : Int) } with Text := v1.Text ++ w2.Text }) fun t6'21 => some (t6'21, (0 : Int))) else none else ((if op0 = (5 : Int) then some (decide (op0 = (5 : Int))) else (if op0 = (6 : Int) then some (decide (op0 = (6 : Int))) else (if op0 = (7 : Int) then some (decide (op0 = (7 : Int))) else some (decide (op0 = (8 : Int))))))).bind fun j'22 => (if j'22 = true then (g_ref_reckoned op0 v1.Int_ w2.Int_).bind fun r'23 => some (r'23.1, r'23.2) else (if v1.Kind ≠ w2.Kind then some (GValue.zero, (2 : Int)) else (g_ref_Order v1 w2).bind fun r'24 => letO (([(2 : Int), (5 : Int), (1 : Int), (3 : Int), (4 : Int), (6 : Int)] : List Int)) fun which18'25 => if 0 ≤ w64 (op0 - (9 : Int)) ∧ w64 (op0 - (9 : Int)) < (which18'25.length : Int) then if 0 ≤ w64 (r'24 + (1 : Int)) then (if iand (ishr (lrd which18'25 ((w64 (op0 - (9 : Int))).toNat)) ((w64 (r'24 + (1 : Int))).toNat)) (1 : Int) = (1 : Int) then (g_ref_boolOf (2 : Int)).bind fun r'26 => some (r'26, (0 : Int)) else (g_ref_boolOf (0 : Int)).bind fun r'27 => some (r'27, (0 : Int))) else none else none))))))))))
set_option maxHeartbeats 4000000 in
set_option maxRecDepth 100000 in
theorem g_ref_did_ac {op0 : Int} {v1 : GValue} {w2 : GValue} {r : GValue × Int} (H : g_ref_did op0 v1 w2 = some r) : ACp Tryd.prog 34 [(AV.int op0), (.agg (GValue.cs v1)), (.agg (GValue.cs w2))] (.tup [(.agg (GValue.cs r.1)), (AV.int r.2)]) := by
 refine ACp_of (AC2_of_body (vs := [.g (GValue.cs r.1), .i r.2]) Tryd.func34 Y Y (lb Y) Y ?_) (fun _ => .same _)
 unfold g_ref_did at H
 refine as2 [(0, .i op0), (1, .g (GValue.cs v1)), (2, .g (GValue.cs w2))] [] Y (sg [0,1,2,3] Y (rq Y (MakeD.opD (n_box 4 Y Y) Y Y Y Y) (rq Y (MakeD.opD (n_box 5 Y Y) Y Y Y Y) (rq Y (MakeD.opD (u_alloc 6 Y in_24 one_24 zc_24) Y Y Y Y) (ra Y (rz [(0, _), (4, .q 4 (0)), (5, .q 5 (0)), (6, .q 6 (0))] [(4, .pure (GValue.cs v1)), (5, .pure (GValue.cs w2)), (6, .pure (GValue.cs GValue.zero))] Y ?_))))))
 refine sg [0,1,2,3,4,5,6] Y (rm Y (bindK H fun r'1 h1 H => rp Y (p_callp Y Y Y Tryd.func44 Y Y (g_ref_asksFor_ac h1) ⟨Y, trivial⟩) (rm Y (rp Y (p_ext Y Y Y Y) (rp Y (p_ext Y Y Y Y) ?_)))))
 refine ra Y (ra Y (rz [(0, _), (4, _), (5, _), (6, _), (8, .i r'1.1)] [(4, _), (5, _), (6, _)] Y (AW2_seq (sg [0,1,2,3,4] Y (rp Y (u_lda Y Y U24 Y in_24 Y np (Sub.refl _) (GValue.len v1)) (rp Y (u_lda Y Y U24 Y in_24 Y np (Sub.refl _) (GValue.len w2)) ?_))))))
 refine rq Y (MakeD.opD (u_bs 26 Y U29 in_24 Y one_24 (by decide) (by decide) zc_24 Y (af_lit (g := GValue.cs) (fun x => (GValue.len x)) (GValue.len GValue.zero) [v1, w2])) Y Y Y Y) (rp Y (p_leno Y U29 Y Y Y (fm_length (fun x => (GValue.len x)) ([v1, w2] : List GValue)) (by decide)) (rm Y (RunW_st [(0, .i op0), (4, .q 4 (0)), (5, .q 5 (0)), (6, .q 6 (0)), (8, .i r'1.1), (26, .c (.own 26 ([v1, w2] : List GValue).length 4)), (27, .i (([v1, w2] : List GValue).length : Int)), (28, .i (0 : Int))] [(4, .pure (GValue.cs v1)), (5, .pure (GValue.cs w2)), (6, .pure (GValue.cs GValue.zero)), (26, .pure (([v1, w2] : List GValue).flatMap GValue.cs))] Y ⟨TLes.same _, TLes.same _, TLes.same _, TLes.same _, TLes.same _, TLes.own Y, TLes.same _, TLes.same _, trivial⟩ ⟨Y, Y, Y, Y, trivial⟩ (RunW_nil (AW2_block (as2 [(0, .i op0), (4, .q 4 (0)), (5, .q 5 (0)), (6, .q 6 (0)), (8, .i r'1.1), (26, .c (.own 26 ([v1, w2] : List GValue).length 4)), (27, .i (([v1, w2] : List GValue).length : Int)), (28, .i (0 : Int))] [(4, .pure (GValue.cs v1)), (5, .pure (GValue.cs w2)), (6, .pure (GValue.cs GValue.zero)), (26, .pure (([v1, w2] : List GValue).flatMap GValue.cs))] Y ?_))))))
 refine bindK H fun o'5 h7 H => AW2_loopO (fun a'2 : Int => (⟨[(0, .i op0), (4, .q 4 (0)), (5, .q 5 (0)), (6, .q 6 (0)), (8, .i r'1.1), (26, .c (.own 26 ([v1, w2] : List GValue).length 4)), (27, .i (([v1, w2] : List GValue).length : Int)), (28, .i a'2)], [(4, .pure (GValue.cs v1)), (5, .pure (GValue.cs w2)), (6, .pure (GValue.cs GValue.zero)), (26, .pure (([v1, w2] : List GValue).flatMap GValue.cs))], 165⟩ : TS)) (fun (o : (GValue × Int) ⊕ Unit) e s' => match o with | .inl y'3 => e = Go.Exit.ret ∧ ResAll Tryd.prog s' [ResultVar.cell 6 24, ResultVar.tmp 7] [.g (GValue.cs y'3.1), .i y'3.2] ∧ HFits s' [] | .inr (y'4) => e = Go.Exit.exit 0 ∧ s' = (⟨[(0, .i op0), (4, .q 4 (0)), (5, .q 5 (0)), (6, .q 6 (0))], [(4, .pure (GValue.cs v1)), (5, .pure (GValue.cs w2)), (6, .pure (GValue.cs GValue.zero))], 165⟩ : TS)) h7 Y (fun t28_0 x hx => ?_) (fun e s' hs => ?_)
 ·clear H
  have H := hx
  clear hx
  unfold g_ref_did_l0 at H
  refine sg [0] Y (rp Y (p_bin Y Y Y Y) (rz [(0, .i op0), (4, .q 4 (0)), (5, .q 5 (0)), (6, .q 6 (0)), (8, .i r'1.1), (26, .c (.own 26 ([v1, w2] : List GValue).length 4)), (27, .i (([v1, w2] : List GValue).length : Int)), (28, .i t28_0), (29, .b (decide (t28_0 < (([v1, w2] : List GValue).length : Int))))] [(4, .pure (GValue.cs v1)), (5, .pure (GValue.cs w2)), (6, .pure (GValue.cs GValue.zero)), (26, .pure (([v1, w2] : List GValue).flatMap GValue.cs))] Y (AW2_seq (if2 H Y (fun h2 H => ?_) (fun h2 H => ?_)))))
  ·refine as2 [(0, _), (4, _), (5, _), (6, _), (8, _), (26, _), (27, _), (28, _)] [(4, _), (5, _), (6, _), (26, _)] Y (AW2_skip (AW2_seq (AW2_block (sg [0,1,2,3] Y (chkK H fun h3 H => rp Y (u_ixo Y Y U29 in_24 Y Y (fne (fun x => (GValue.len x)) (by decide) (ixn h3)) Y (ixe h3) (ixn h3)) ?_)))))
   refine rp Y (u_lda Y Y U24 Y in_24 Y np ((Sub.refl _).trans (Sub.fm default (fun x => (GValue.len x)) (ixn h3))) (GValue.len (lrd ([v1, w2] : List GValue) t28_0.toNat))) (rq Y (MakeD.opD (u_alloc 11 Y in_24 one_24 zc_24) Y Y Y Y) (rq Y (u_sw Y Y Y Y Y in_24 (GValue.len (lrd ([v1, w2] : List GValue) t28_0.toNat)) (GValue.len GValue.zero) Y) (rz [(0, _), (4, _), (5, _), (6, _), (8, _), (11, .q 11 (0)), (26, _), (27, _), (28, _)] [(4, .pure (GValue.cs v1)), (5, .pure (GValue.cs w2)), (6, .pure (GValue.cs GValue.zero)), (11, .pure (GValue.cs (lrd ([v1, w2] : List GValue) t28_0.toNat))), (26, .pure (([v1, w2] : List GValue).flatMap GValue.cs))] Y (AW2_seq (AW2_mid (⟨[(0, .i op0), (4, .q 4 (0)), (5, .q 5 (0)), (6, .q 6 (0)), (8, .i r'1.1), (26, .c (.own 26 ([v1, w2] : List GValue).length 4)), (27, .i (([v1, w2] : List GValue).length : Int)), (28, .i t28_0), (44, .b (decide (((r'1.1 ≠ (0 : Int)) ∧ ((lrd ([v1, w2] : List GValue) t28_0.toNat).Kind ≠ (0 : Int))) ∧ ((lrd ([v1, w2] : List GValue) t28_0.toNat).Kind ≠ r'1.1))))], [(4, .pure (GValue.cs v1)), (5, .pure (GValue.cs w2)), (6, .pure (GValue.cs GValue.zero)), (26, .pure (([v1, w2] : List GValue).flatMap GValue.cs))], 165⟩ : TS) ?_ ?_)))))
   ·refine AW2_reg [0,1,2,3,4,5,6,7,8,9,10,11,12] Y (rm Y (rp Y (p_ine Y Y Y) (rm Y ?_)))
    refine (Classical.em (r'1.1 ≠ (0 : Int))).elim (fun h4 => ?_) (fun h4 => ?_)
    ·refine rn Y (dT h4) Y (u_fa Y Y U24 Y in_3 nz Y Y (nl (GValue.len (lrd ([v1, w2] : List GValue) t28_0.toNat)))) (rn Y (dT h4) Y (u_ld Y Y U3 Y Y (GValue.sub0 (lrd ([v1, w2] : List GValue) t28_0.toNat))) (rn Y (dT h4) Y (p_ine Y Y Y) (rp Y (p_pkt Y Y (dT h4) (tb ((and_l (p := r'1.1 ≠ (0 : Int)) (q := (lrd ([v1, w2] : List GValue) t28_0.toNat).Kind ≠ (0 : Int)) h4)))) (rm Y ?_))))
     refine (Classical.em ((lrd ([v1, w2] : List GValue) t28_0.toNat).Kind ≠ (0 : Int))).elim (fun h5 => ?_) (fun h5 => ?_)
     ·have qq1 := dT (p := (r'1.1 ≠ (0 : Int)) ∧ ((lrd ([v1, w2] : List GValue) t28_0.toNat).Kind ≠ (0 : Int))) ⟨h4, h5⟩
      exact rn Y qq1 Y (u_fa Y Y U24 Y in_3 nz Y Y (nl (GValue.len (lrd ([v1, w2] : List GValue) t28_0.toNat)))) (rn Y qq1 Y (u_ld Y Y U3 Y Y (GValue.sub0 (lrd ([v1, w2] : List GValue) t28_0.toNat))) (rn Y qq1 Y (p_move Y Y) (rn Y qq1 Y (p_ine Y Y Y) (rp Y (p_pkt Y Y qq1 (tb ((and_l (p := (r'1.1 ≠ (0 : Int)) ∧ ((lrd ([v1, w2] : List GValue) t28_0.toNat).Kind ≠ (0 : Int))) (q := (lrd ([v1, w2] : List GValue) t28_0.toNat).Kind ≠ r'1.1) ⟨h4, h5⟩)))) (rend Y Y)))))
     have qq2 := dF (p := (r'1.1 ≠ (0 : Int)) ∧ ((lrd ([v1, w2] : List GValue) t28_0.toNat).Kind ≠ (0 : Int))) (fun h => h5 h.2)
     iterate 4 (refine rO Y qq2 Y ?_)
     exact rp Y (p_pkf Y Y qq2 (tb (dF (p := ((r'1.1 ≠ (0 : Int)) ∧ ((lrd ([v1, w2] : List GValue) t28_0.toNat).Kind ≠ (0 : Int))) ∧ ((lrd ([v1, w2] : List GValue) t28_0.toNat).Kind ≠ r'1.1)) (fun x => (fun h => h5 h.2) x.1)).symm)) (rend Y Y)
    iterate 3 (refine rO Y (dF h4) Y ?_)
    refine rp Y (p_pkf Y Y (dF h4) (tb (dF (p := (r'1.1 ≠ (0 : Int)) ∧ ((lrd ([v1, w2] : List GValue) t28_0.toNat).Kind ≠ (0 : Int))) (fun x => h4 x.1)).symm)) (rm Y ?_)
    have qq3 := dF (p := (r'1.1 ≠ (0 : Int)) ∧ ((lrd ([v1, w2] : List GValue) t28_0.toNat).Kind ≠ (0 : Int))) (fun h => h4 h.1)
    iterate 4 (refine rO Y qq3 Y ?_)
    exact rp Y (p_pkf Y Y qq3 (tb (dF (p := ((r'1.1 ≠ (0 : Int)) ∧ ((lrd ([v1, w2] : List GValue) t28_0.toNat).Kind ≠ (0 : Int))) ∧ ((lrd ([v1, w2] : List GValue) t28_0.toNat).Kind ≠ r'1.1)) (fun x => (fun h => h4 h.1) x.1)).symm)) (rend Y Y)
   refine if2 H Y (fun h6 H => ?_) (fun h6 H => ?_)
   ·refine sg [0,1,2] Y (rp Y (u_bld Y in_24 one_24 zc_24 pl_24 Y Y) (rq Y (u_sw Y Y Y Y Y in_24 (GValue.len GValue.zero) (GValue.len GValue.zero) Y) (ra Y (rz [(6, _), (7, .i (2 : Int))] [(6, .pure (GValue.cs GValue.zero))] Y (AW2_ret ?_)))))
    obtain rfl := se H
    exact ⟨Y, ⟨rcw U24 Y in_24 Y (GValue.len GValue.zero), rt, trivial⟩, trivial⟩
   refine as2 [(0, _), (4, _), (5, _), (6, _), (8, _), (26, _), (27, _), (28, _)] [(4, _), (5, _), (6, _), (26, _)] Y (AW2_skip (AW2_reg [0,1] Y (rp Y (p_bin Y Y Y Y) (rm Y (rz [(0, _), (4, _), (5, _), (6, _), (8, _), (26, _), (27, _), (28, .i (w64 (t28_0 + (1 : Int))))] [(4, _), (5, _), (6, _), (26, _)] Y ?_)))))
   obtain rfl := se H
   exact ⟨Y, Y⟩
  refine as2 [(0, _), (4, _), (5, _), (6, _)] [(4, _), (5, _), (6, _)] Y (AW2_exit (thenQ2_exit ?_))
  obtain rfl := se H
  exact ⟨Y, Y⟩
 rcases o'5 with y'6 | y'7
 ·obtain ⟨rfl, hs⟩ := hs
  refine ⟨by simp, ?_⟩
  obtain rfl := se H
  exact ⟨hs.1, hs.2⟩
 obtain ⟨rfl, rfl⟩ := hs
 refine ⟨by simp, ?_⟩
 refine blockQ2_exit (AW2_seq (sg [0] Y (rm Y (rz [(0, .i op0), (4, .q 4 (0)), (5, .q 5 (0)), (6, .q 6 (0)), (47, .i op0)] [(4, .pure (GValue.cs v1)), (5, .pure (GValue.cs w2)), (6, .pure (GValue.cs GValue.zero))] Y (AW2_block (sg [0,1] Y ?_))))))
 refine rp Y (p_ieq Y Y Y) (ra Y (rz [(0, _), (4, _), (5, _), (6, _), (47, _), (48, .b (decide (op0 = (17 : Int))))] [(4, _), (5, _), (6, _)] Y (if2 H Y (fun h8 H => ?_) (fun h8 H => ?_))))
 ·refine AW2_seq (sg [0,1,2] Y (rf Y U24 Y in_3 Y Y (GValue.len v1) (rp Y (u_ld Y Y U3 Y Y (GValue.sub0 v1)) (rp Y (p_ieq Y Y Y) (rz [(6, _), (52, .b (decide (v1.Kind = (0 : Int))))] [(6, _)] Y (if2 H Y (fun h9 H => ?_) (fun h9 H => ?_)))))))
  ·refine sg [0,1,2] Y (bindK H fun r'8 h10 H => rp Y (p_callp Y Y Y Tryd.func25 Y Y (g_ref_boolOf_ac h10) ⟨Y, trivial⟩) (rq Y (u_sw Y Y Y Y Y in_24 (GValue.len r'8) (GValue.len GValue.zero) Y) (ra Y (rz [(6, _), (7, .i (0 : Int))] [(6, .pure (GValue.cs r'8))] Y (AW2_ret ?_)))))
   obtain rfl := se H
   exact ⟨⟨rcw U24 Y in_24 Y (GValue.len r'8), rt, trivial⟩, trivial⟩
  refine as2 [(6, _)] [(6, _)] Y (AW2_skip (sg [0,1,2] Y (bindK H fun r'9 h11 H => rp Y (p_callp Y Y Y Tryd.func25 Y Y (g_ref_boolOf_ac h11) ⟨Y, trivial⟩) (rq Y (u_sw Y Y Y Y Y in_24 (GValue.len r'9) (GValue.len GValue.zero) Y) (ra Y ?_)))))
  refine rz [(6, _), (7, .i (0 : Int))] [(6, .pure (GValue.cs r'9))] Y (AW2_ret ?_)
  obtain rfl := se H
  exact ⟨⟨rcw U24 Y in_24 Y (GValue.len r'9), rt, trivial⟩, trivial⟩
 refine AW2_seq (bindK H fun j'10 h12 H => AW2_mid (⟨[(0, .i op0), (4, .q 4 (0)), (5, .q 5 (0)), (6, .q 6 (0)), (47, .i op0), (55, .b j'10)], [(4, .pure (GValue.cs v1)), (5, .pure (GValue.cs w2)), (6, .pure (GValue.cs GValue.zero))], 165⟩ : TS) ?_ ?_)
 ·clear H
  have H := h12
  clear h12
  refine sg [0,1] Y (rp Y (p_ieq Y Y Y) (ra Y (rz [(0, .i op0), (4, .q 4 (0)), (5, .q 5 (0)), (6, .q 6 (0)), (47, .i op0), (55, .b (decide (op0 = (15 : Int))))] [(4, .pure (GValue.cs v1)), (5, .pure (GValue.cs w2)), (6, .pure (GValue.cs GValue.zero))] Y (if2 H Y (fun h13 H => ?_) (fun h13 H => ?_)))))
  ·refine AW2_skip ?_
   obtain rfl := se H
   exact rfl
  refine AW2_reg [0,1] Y (rp Y (p_ieq Y Y Y) (ra Y (rz [(0, _), (4, _), (5, _), (6, _), (47, _), (55, .b (decide (op0 = (16 : Int))))] [(4, _), (5, _), (6, _)] Y ?_)))
  obtain rfl := se H
  exact rfl
 refine AW2_cond Y (fun h14 => ?_) (fun h14 => ?_)
 ·replace H := ite_then h14 H
  refine AW2_seq (bindK H fun r'11 h15 H => bindK H fun r'12 h16 H => bindK H fun r'13 h17 H => AW2_ghoQ (AW2_draw 12 [12] (fun k => ([.i op0, .i (w64 ((1 : Int) + op0)), .i (w64 ((w64 ((1 : Int) + op0)) - (15 : Int))), .g (GValue.cs v1), .i r'11, .g (GValue.cs w2), .i r'12, .p (.tup [(AV.int r'13.1), (AV.int r'13.2)]), .p (.tup [(AV.int r'13.1), (AV.int r'13.2)]), .i r'13.1, .i r'13.2, .i r'13.1] : List TV).getD k TV.any) (fun k => g_ref_did_r15.getD k []) [(6, none), (12, some 11), (68, some 10)] [] (fun k => g_ref_did_r15c.getD k []) mixed (by kernel_rfl) Y Y (a_op (g_x Y (x_p Y (p_move Y Y) Y)) (a_op (g_x Y (x_p Y (p_bin Y Y Y Y) Y)) (a_op (g_x Y (x_p Y (p_bin Y Y Y Y) Y)) (a_op (g_x Y (x_p Y (u_lda Y Y U24 Y in_24 Y np (Sub.refl _) (GValue.len v1)) Y)) (a_op (g_x Y (x_p Y (p_callp Y Y Y Tryd.func46 Y Y (g_ref_truthOf_ac h15) ⟨Y, trivial⟩) Y)) (a_op (g_x Y (x_p Y (u_lda Y Y U24 Y in_24 Y np (Sub.refl _) (GValue.len w2)) Y)) (a_op (g_x Y (x_p Y (p_callp Y Y Y Tryd.func46 Y Y (g_ref_truthOf_ac h16) ⟨Y, trivial⟩) Y)) (a_op (g_x Y (x_p Y (p_callp Y Y Y Tryd.func45 Y Y (g_ref_Logic_ac h17) ⟨Y, Y, Y, trivial⟩) Y)) (a_op (g_x Y (x_p Y (p_move Y Y) Y)) (a_op (g_x Y (x_p Y (p_ext Y Y Y Y) Y)) (a_op (g_x Y (x_p Y (p_ext Y Y Y Y) Y)) (a_op (g_x Y (x_p Y (p_asg Y Y) Y)) (a_nil))))))))))))) (t_op Y Y (PureD.opD (p_asg Y Y)) ?_)))
  refine t_gho (Gho_st (L := [(6, .q 6 (0)), (12, .i r'13.1)]) (H := [(6, .pure (GValue.cs GValue.zero))]) (N := 165) Y ⟨TLes.same _, TLes.same _, trivial⟩ ⟨Y, trivial⟩) (sg [0,1,2,3] Y (rm Y (bindK H fun r'14 h18 H => rp Y (p_callp Y Y Y Tryd.func25 Y Y (g_ref_boolOf_ac h18) ⟨Y, trivial⟩) (rq Y (u_sw Y Y Y Y Y in_24 (GValue.len r'14) (GValue.len GValue.zero) Y) (ra Y ?_)))))
  refine rz [(6, .q 6 (0)), (7, .i (0 : Int))] [(6, .pure (GValue.cs r'14))] Y (AW2_ret ?_)
  obtain rfl := se H
  exact ⟨⟨rcw U24 Y in_24 Y (GValue.len r'14), rt, trivial⟩, trivial⟩
 replace H := ite_else (ne_true h14) H
 refine sg [0,1] Y (rp Y (p_ieq Y Y Y) (ra Y (rz [(0, .i op0), (4, .q 4 (0)), (5, .q 5 (0)), (6, .q 6 (0)), (47, .i op0), (71, .b (decide (op0 = (4 : Int))))] [(4, .pure (GValue.cs v1)), (5, .pure (GValue.cs w2)), (6, .pure (GValue.cs GValue.zero))] Y (if2 H Y (fun h19 H => ?_) (fun h19 H => ?_)))))
 ·refine sg [0,1,2,3,4,5,6,7] Y (rp Y (u_lda Y Y U24 Y in_24 Y np (Sub.refl _) (GValue.len v1)) (bindK H fun r'15 h20 H => rp Y (p_callp Y Y Y Tryd.func46 Y Y (g_ref_truthOf_ac h20) ⟨Y, trivial⟩) (bindK H fun r'16 h21 H => rp Y (p_callp Y Y Y Tryd.func47 Y Y (g_ref_Opposite_ac h21) ⟨Y, trivial⟩) (rm Y ?_))))
  refine rp Y (p_ext Y Y Y Y) (rp Y (p_ext Y Y Y Y) (ra Y (ra Y (rz [(6, _), (14, .i r'16.1)] [(6, _)] Y (sg [0,1,2,3] Y (rm Y ?_))))))
  refine bindK H fun r'17 h22 H => rp Y (p_callp Y Y Y Tryd.func25 Y Y (g_ref_boolOf_ac h22) ⟨Y, trivial⟩) (rq Y (u_sw Y Y Y Y Y in_24 (GValue.len r'17) (GValue.len GValue.zero) Y) (ra Y (rz [(6, _), (7, .i (0 : Int))] [(6, .pure (GValue.cs r'17))] Y (AW2_ret ?_))))
  obtain rfl := se H
  exact ⟨⟨rcw U24 Y in_24 Y (GValue.len r'17), rt, trivial⟩, trivial⟩
 refine sg [0,1] Y (rp Y (p_ieq Y Y Y) (ra Y (rz [(0, _), (4, _), (5, _), (6, _), (81, .b (decide (op0 = (20 : Int))))] [(4, _), (5, _), (6, _)] Y (if2 H Y (fun h23 H => ?_) (fun h23 H => ?_)))))
 ·refine sg [0,1,2] Y (rp Y (u_lda Y Y U24 Y in_24 Y np (Sub.refl _) (GValue.len w2)) (rq Y (u_sw Y Y Y Y Y in_24 (GValue.len w2) (GValue.len GValue.zero) Y) (ra Y (rz [(6, _), (7, .i (0 : Int))] [(6, .pure (GValue.cs w2))] Y (AW2_ret ?_)))))
  obtain rfl := se H
  exact ⟨⟨rcw U24 Y in_24 Y (GValue.len w2), rt, trivial⟩, trivial⟩
 refine as2 [(0, _), (4, _), (5, _), (6, _)] [(4, _), (5, _), (6, _)] Y (AW2_skip (AW2_seq (AW2_seq (AW2_mid (⟨[(0, .i op0), (4, .q 4 (0)), (5, .q 5 (0)), (6, .q 6 (0)), (99, .b (decide ((v1.Kind = (0 : Int)) ∨ (((w2.Kind = (0 : Int)) ∧ (op0 ≠ (3 : Int))) ∧ (op0 ≠ (18 : Int))))))], [(4, .pure (GValue.cs v1)), (5, .pure (GValue.cs w2)), (6, .pure (GValue.cs GValue.zero))], 165⟩ : TS) ?_ ?_))))
 ·refine AW2_reg [0,1,2,3,4,5,6,7,8,9,10,11,12,13,14,15] Y (rf Y U24 Y in_3 Y Y (GValue.len v1) (rp Y (u_ld Y Y U3 Y Y (GValue.sub0 v1)) (rp Y (p_ieq Y Y Y) (rm Y ?_))))
  refine (Classical.em (v1.Kind = (0 : Int))).elim (fun h24 => ?_) (fun h24 => ?_)
  ·iterate 4 (refine rO Y (dT h24) Y ?_)
   iterate 2 (refine r_off2 rfl rfl rfl rfl rfl rfl ?_)
   iterate 2 (refine rO Y (dT h24) Y ?_)
   iterate 2 (refine r_off2 rfl rfl rfl rfl rfl rfl ?_)
   exact rO Y (dT h24) Y (rp Y (p_pkt Y Y (dT h24) (tb (dT (p := (v1.Kind = (0 : Int)) ∨ (((w2.Kind = (0 : Int)) ∧ (op0 ≠ (3 : Int))) ∧ (op0 ≠ (18 : Int)))) (Or.inl h24)).symm)) (rend Y Y))
  refine rn Y (dF h24) Y (u_fa Y Y U24 Y in_3 nz Y Y (nl (GValue.len w2))) (rn Y (dF h24) Y (u_ld Y Y U3 Y Y (GValue.sub0 w2)) (rn Y (dF h24) Y (p_ieq Y Y Y) (rn Y (dF h24) Y (p_move Y Y) ?_)))
  refine (Classical.em (w2.Kind = (0 : Int))).elim (fun h25 => ?_) (fun h25 => ?_)
  ·refine rn Y (dT h25) Y (p_move Y Y) (rn Y (dT h25) Y (p_ine Y Y Y) (rn Y (dF h24) Y (p_pkt Y Y (dT h25) (tb ((and_l (p := w2.Kind = (0 : Int)) (q := op0 ≠ (3 : Int)) h25)))) (rn Y (dF h24) Y (p_move Y Y) ?_)))
   refine (Classical.em (op0 ≠ (3 : Int))).elim (fun h26 => ?_) (fun h26 => ?_)
   ·have qq4 := dT (p := (w2.Kind = (0 : Int)) ∧ (op0 ≠ (3 : Int))) ⟨h25, h26⟩
    exact rn Y qq4 Y (p_move Y Y) (rn Y qq4 Y (p_ine Y Y Y) (rn Y (dF h24) Y (p_pkt Y Y qq4 (tb ((and_l (p := (w2.Kind = (0 : Int)) ∧ (op0 ≠ (3 : Int))) (q := op0 ≠ (18 : Int)) ⟨h25, h26⟩)))) (rp Y (p_pkf Y Y (dF h24) (tb ((or_l (p := v1.Kind = (0 : Int)) (q := ((w2.Kind = (0 : Int)) ∧ (op0 ≠ (3 : Int))) ∧ (op0 ≠ (18 : Int))) h24)))) (rend Y Y))))
   have qq5 := dF (p := (w2.Kind = (0 : Int)) ∧ (op0 ≠ (3 : Int))) (fun h => h26 h.2)
   iterate 2 (refine rO Y qq5 Y ?_)
   exact rn Y (dF h24) Y (p_pkf Y Y qq5 (tb (dF (p := ((w2.Kind = (0 : Int)) ∧ (op0 ≠ (3 : Int))) ∧ (op0 ≠ (18 : Int))) (fun x => (fun h => h26 h.2) x.1)).symm)) (rp Y (p_pkf Y Y (dF h24) (tb ((or_l (p := v1.Kind = (0 : Int)) (q := ((w2.Kind = (0 : Int)) ∧ (op0 ≠ (3 : Int))) ∧ (op0 ≠ (18 : Int))) h24)))) (rend Y Y))
  iterate 2 (refine rO Y (dF h25) Y ?_)
  refine rn Y (dF h24) Y (p_pkf Y Y (dF h25) (tb (dF (p := (w2.Kind = (0 : Int)) ∧ (op0 ≠ (3 : Int))) (fun x => h25 x.1)).symm)) (rn Y (dF h24) Y (p_move Y Y) ?_)
  have qq6 := dF (p := (w2.Kind = (0 : Int)) ∧ (op0 ≠ (3 : Int))) (fun h => h25 h.1)
  iterate 2 (refine rO Y qq6 Y ?_)
  exact rn Y (dF h24) Y (p_pkf Y Y qq6 (tb (dF (p := ((w2.Kind = (0 : Int)) ∧ (op0 ≠ (3 : Int))) ∧ (op0 ≠ (18 : Int))) (fun x => (fun h => h25 h.1) x.1)).symm)) (rp Y (p_pkf Y Y (dF h24) (tb ((or_l (p := v1.Kind = (0 : Int)) (q := ((w2.Kind = (0 : Int)) ∧ (op0 ≠ (3 : Int))) ∧ (op0 ≠ (18 : Int))) h24)))) (rend Y Y))
 refine if2 H Y (fun h27 H => ?_) (fun h27 H => ?_)
 ·refine sg [0,1,2] Y (rp Y (u_bld Y in_24 one_24 zc_24 pl_24 Y Y) (rq Y (u_sw Y Y Y Y Y in_24 (GValue.len GValue.zero) (GValue.len GValue.zero) Y) (ra Y (rz [(6, _), (7, .i (0 : Int))] [(6, .pure (GValue.cs GValue.zero))] Y (AW2_ret ?_)))))
  obtain rfl := se H
  exact ⟨⟨rcw U24 Y in_24 Y (GValue.len GValue.zero), rt, trivial⟩, trivial⟩
 refine as2 [(0, _), (4, _), (5, _), (6, _)] [(4, _), (5, _), (6, _)] Y (AW2_skip (AW2_seq (sg [0] Y (rm Y (rz [(0, _), (4, _), (5, _), (6, _), (101, .i op0)] [(4, _), (5, _), (6, _)] Y (AW2_block ?_))))))
 refine sg [0,1] Y (rp Y (p_ieq Y Y Y) (ra Y (rz [(0, _), (4, _), (5, _), (6, _), (101, _), (102, .b (decide (op0 = (3 : Int))))] [(4, _), (5, _), (6, _)] Y (if2 H Y (fun h28 H => ?_) (fun h28 H => ?_)))))
 ·refine sg [0,1,2,3,4,5,6] Y (rf Y U24 Y in_3 Y Y (GValue.len v1) (rp Y (u_ld Y Y U3 Y Y (GValue.sub1 v1)) (bindK H fun r'18 h29 H => rp Y (p_callp Y Y Y Tryd.func48 Y Y (g_ref_reckoned_ac h29) ⟨Y, Y, Y, trivial⟩) (rp Y (p_ext Y Y Y Y) (rp Y (p_ext Y Y Y Y) ?_)))))
  refine rq Y (u_sw Y Y Y Y Y in_24 (GValue.len r'18.1) (GValue.len GValue.zero) Y) (ra Y (rz [(6, _), (7, .i r'18.2)] [(6, .pure (GValue.cs r'18.1))] Y (AW2_ret ?_)))
  obtain rfl := se H
  exact ⟨⟨rcw U24 Y in_24 Y (GValue.len r'18.1), rt, trivial⟩, trivial⟩
 refine sg [0,1] Y (rp Y (p_ieq Y Y Y) (ra Y (rz [(0, _), (4, _), (5, _), (6, _), (101, _), (109, .b (decide (op0 = (18 : Int))))] [(4, _), (5, _), (6, _)] Y (if2 H Y (fun h30 H => ?_) (fun h30 H => ?_)))))
 ·refine sg [0,1,2,3,4,5,6,7] Y (rf Y U24 Y in_9 Y Y (GValue.len v1) (rp Y (u_ld Y Y U9 Y Y (GValue.sub3 v1)) (bindK H fun r'19 h31 H => rp Y (p_callp Y Y Y Tryd.func50 Y Y (g_utf8_RuneCountInString_ac h31) ⟨Y, trivial⟩) (bindK H fun r'20 h32 H => rp Y (p_callp Y Y Y Tryd.func49 Y Y (g_ref_intOf_ac h32) ⟨Y, trivial⟩) ?_))))
  refine rp Y (p_ext Y Y Y Y) (rp Y (p_ext Y Y Y Y) (rq Y (u_sw Y Y Y Y Y in_24 (GValue.len r'20.1) (GValue.len GValue.zero) Y) (ra Y (rz [(6, _), (7, .i r'20.2)] [(6, .pure (GValue.cs r'20.1))] Y (AW2_ret ?_)))))
  obtain rfl := se H
  exact ⟨⟨rcw U24 Y in_24 Y (GValue.len r'20.1), rt, trivial⟩, trivial⟩
 refine sg [0,1] Y (rp Y (p_ieq Y Y Y) (ra Y (rz [(0, _), (4, _), (5, _), (6, _), (101, _), (117, .b (decide (op0 = (19 : Int))))] [(4, _), (5, _), (6, _)] Y (if2 H Y (fun h33 H => ?_) (fun h33 H => ?_)))))
 ·refine sg [0,1,2,3,4,5] Y (rf Y U24 Y in_9 Y Y (GValue.len v1) (rp Y (u_ld Y Y U9 Y Y (GValue.sub3 v1)) (rf Y U24 Y in_9 Y Y (GValue.len w2) (rp Y (u_ld Y Y U9 Y Y (GValue.sub3 w2)) (chkK H fun h34 H => rp Y (p_cat Y Y Y h34) ?_)))))
  refine ra Y (rz [(6, _), (16, .t (v1.Text ++ w2.Text))] [(6, _)] Y (AW2_seq (sg [0,1,2] Y (rm Y (rp Y (p_lent Y U9 Y) (rp Y (p_bin Y Y Y Y) ?_))))))
  refine rz [(6, _), (16, _), (126, .b (decide (((v1.Text ++ w2.Text).length : Int) > (40 : Int))))] [(6, _)] Y (if2 H Y (fun h35 H => ?_) (fun h35 H => ?_))
  ·refine sg [0,1,2] Y (rp Y (u_bld Y in_24 one_24 zc_24 pl_24 Y Y) (rq Y (u_sw Y Y Y Y Y in_24 (GValue.len GValue.zero) (GValue.len GValue.zero) Y) (ra Y (rz [(6, _), (7, .i (1 : Int))] [(6, .pure (GValue.cs GValue.zero))] Y (AW2_ret ?_)))))
   obtain rfl := se H
   exact ⟨⟨rcw U24 Y in_24 Y (GValue.len GValue.zero), rt, trivial⟩, trivial⟩
  refine as2 [(6, _), (16, _)] [(6, _)] Y (AW2_skip (sg [0,1,2,3] Y (rm Y (rp Y (u_bld Y in_24 one_24 zc_24 pl_24 Y (af_cons Y Y (GValue.upd0 GValue.zero (4 : Int)) (af_cons Y Y (GValue.upd3 ((GValue.w0 GValue.zero (4 : Int))) (v1.Text ++ w2.Text)) Y))) (rq Y (u_sw Y Y Y Y Y in_24 (GValue.len ((GValue.w3 (GValue.w0 GValue.zero (4 : Int)) (v1.Text ++ w2.Text)))) (GValue.len GValue.zero) Y) (ra Y ?_))))))
  refine rz [(6, _), (7, .i (0 : Int))] [(6, .pure (GValue.cs ((GValue.w3 (GValue.w0 GValue.zero (4 : Int)) (v1.Text ++ w2.Text)))))] Y (gen1 (fun t6'21 => (⟨[(6, .q 6 (0)), (7, .i (0 : Int))], [(6, .pure (GValue.cs t6'21))], 165⟩ : TS)) H ?_)
  intro t6'21 H
  refine AW2_ret ?_
  obtain rfl := se H
  exact ⟨⟨rcw U24 Y in_24 Y (GValue.len t6'21), rt, trivial⟩, trivial⟩
 refine AW2_seq (bindK H fun j'22 h36 H => AW2_mid (⟨[(0, .i op0), (4, .q 4 (0)), (5, .q 5 (0)), (6, .q 6 (0)), (130, .b j'22)], [(4, .pure (GValue.cs v1)), (5, .pure (GValue.cs w2)), (6, .pure (GValue.cs GValue.zero))], 165⟩ : TS) ?_ ?_)
 ·clear H
  have H := h36
  clear h36
  refine sg [0,1] Y (rp Y (p_ieq Y Y Y) (ra Y (rz [(0, .i op0), (4, .q 4 (0)), (5, .q 5 (0)), (6, .q 6 (0)), (101, .i op0), (130, .b (decide (op0 = (5 : Int))))] [(4, .pure (GValue.cs v1)), (5, .pure (GValue.cs w2)), (6, .pure (GValue.cs GValue.zero))] Y (if2 H Y (fun h37 H => ?_) (fun h37 H => ?_)))))
  ·refine as2 [(0, _), (4, _), (5, _), (6, _), (130, _)] [(4, _), (5, _), (6, _)] Y (AW2_skip ?_)
   obtain rfl := se H
   exact rfl
  refine sg [0,1] Y (rp Y (p_ieq Y Y Y) (ra Y (rz [(0, _), (4, _), (5, _), (6, _), (101, _), (130, .b (decide (op0 = (6 : Int))))] [(4, _), (5, _), (6, _)] Y (if2 H Y (fun h38 H => ?_) (fun h38 H => ?_)))))
  ·refine as2 [(0, _), (4, _), (5, _), (6, _), (130, _)] [(4, _), (5, _), (6, _)] Y (AW2_skip ?_)
   obtain rfl := se H
   exact rfl
  refine sg [0,1] Y (rp Y (p_ieq Y Y Y) (ra Y (rz [(0, _), (4, _), (5, _), (6, _), (101, _), (130, .b (decide (op0 = (7 : Int))))] [(4, _), (5, _), (6, _)] Y (if2 H Y (fun h39 H => ?_) (fun h39 H => ?_)))))
  ·refine as2 [(0, _), (4, _), (5, _), (6, _), (130, _)] [(4, _), (5, _), (6, _)] Y (AW2_skip ?_)
   obtain rfl := se H
   exact rfl
  refine AW2_reg [0,1] Y (rp Y (p_ieq Y Y Y) (ra Y (rz [(0, _), (4, _), (5, _), (6, _), (130, .b (decide (op0 = (8 : Int))))] [(4, _), (5, _), (6, _)] Y ?_)))
  obtain rfl := se H
  exact rfl
 refine AW2_cond Y (fun h40 => ?_) (fun h40 => ?_)
 ·replace H := ite_then h40 H
  refine sg [0,1,2,3,4,5,6,7,8,9] Y (rm Y (rf Y U24 Y in_3 Y Y (GValue.len v1) (rp Y (u_ld Y Y U3 Y Y (GValue.sub1 v1)) (rf Y U24 Y in_3 Y Y (GValue.len w2) (rp Y (u_ld Y Y U3 Y Y (GValue.sub1 w2)) (bindK H fun r'23 h41 H => ?_))))))
  refine rp Y (p_callp Y Y Y Tryd.func48 Y Y (g_ref_reckoned_ac h41) ⟨Y, Y, Y, trivial⟩) (rp Y (p_ext Y Y Y Y) (rp Y (p_ext Y Y Y Y) (rq Y (u_sw Y Y Y Y Y in_24 (GValue.len r'23.1) (GValue.len GValue.zero) Y) (ra Y (rz [(6, .q 6 (0)), (7, .i r'23.2)] [(6, .pure (GValue.cs r'23.1))] Y (AW2_ret ?_))))))
  obtain rfl := se H
  exact ⟨⟨rcw U24 Y in_24 Y (GValue.len r'23.1), rt, trivial⟩, trivial⟩
 replace H := ite_else (ne_true h40) H
 refine as2 [(0, .i op0), (4, .q 4 (0)), (5, .q 5 (0)), (6, .q 6 (0))] [(4, .pure (GValue.cs v1)), (5, .pure (GValue.cs w2)), (6, .pure (GValue.cs GValue.zero))] Y (AW2_skip (AW2_seq (sg [0,1,2,3,4] Y (rf Y U24 Y in_3 Y Y (GValue.len v1) (rp Y (u_ld Y Y U3 Y Y (GValue.sub0 v1)) (rf Y U24 Y in_3 Y Y (GValue.len w2) ?_))))))
 refine rp Y (u_ld Y Y U3 Y Y (GValue.sub0 w2)) (rp Y (p_ine Y Y Y) (rz [(0, _), (4, _), (5, _), (6, _), (147, .b (decide (v1.Kind ≠ w2.Kind)))] [(4, _), (5, _), (6, _)] Y (if2 H Y (fun h42 H => ?_) (fun h42 H => ?_))))
 ·refine sg [0,1,2] Y (rp Y (u_bld Y in_24 one_24 zc_24 pl_24 Y Y) (rq Y (u_sw Y Y Y Y Y in_24 (GValue.len GValue.zero) (GValue.len GValue.zero) Y) (ra Y (rz [(6, _), (7, .i (2 : Int))] [(6, .pure (GValue.cs GValue.zero))] Y (AW2_ret ?_)))))
  obtain rfl := se H
  exact ⟨⟨rcw U24 Y in_24 Y (GValue.len GValue.zero), rt, trivial⟩, trivial⟩
 refine as2 [(0, _), (4, _), (5, _), (6, _)] [(4, _), (5, _), (6, _)] Y (AW2_skip (sg [0,1,2,3] Y (rp Y (u_lda Y Y U24 Y in_24 Y np (Sub.refl _) (GValue.len v1)) (rp Y (u_lda Y Y U24 Y in_24 Y np (Sub.refl _) (GValue.len w2)) (bindK H fun r'24 h43 H => rp Y (p_callp Y Y Y Tryd.func51 Y Y (g_ref_Order_ac h43) ⟨Y, Y, trivial⟩) ?_)))))
 refine ra Y (rz [(0, _), (6, _), (17, .i r'24)] [(6, _)] Y (sg [0,1] Y (rq Y (MakeD.opD (u_bs 152 Y U70 in_3 Y one_3 (by decide) (by decide) Y Y Y) Y Y Y Y) (ra Y (RunW_st [(0, .i op0), (6, .q 6 (0)), (17, .i r'24), (18, .c (.own 152 ([(2 : Int), (5 : Int), (1 : Int), (3 : Int), (4 : Int), (6 : Int)] : List Int).length 1))] [(6, .pure (GValue.cs GValue.zero)), (152, .pure (([(2 : Int), (5 : Int), (1 : Int), (3 : Int), (4 : Int), (6 : Int)] : List Int).map AV.int))] Y ⟨TLes.same _, TLes.same _, TLes.same _, TLes.own Y, trivial⟩ ⟨Y, Y, trivial⟩ (RunW_gho (Gho_ren 152 18 Y Y Y Y Y) ?_))))))
 refine rz [(0, .i op0), (6, .q 6 (0)), (17, .i r'24), (18, .c (.own 18 ([(2 : Int), (5 : Int), (1 : Int), (3 : Int), (4 : Int), (6 : Int)] : List Int).length 1))] [(6, .pure (GValue.cs GValue.zero)), (18, .pure (([(2 : Int), (5 : Int), (1 : Int), (3 : Int), (4 : Int), (6 : Int)] : List Int).map AV.int))] Y (gen1 (fun which18'25 => (⟨[(0, .i op0), (6, .q 6 (0)), (17, .i r'24), (18, .c (.own 18 which18'25.length 1))], [(6, .pure (GValue.cs GValue.zero)), (18, .pure (which18'25.map AV.int))], 165⟩ : TS)) H ?_)
 intro which18'25 H
 refine AW2_seq (sg [0,1,2,3,4,5,6,7,8,9] Y (rm Y (rm Y (rp Y (p_bin Y Y Y Y) (chkK H fun h44 H => rp Y (u_ixo Y Y U70 in_3 Y Y (lne (ixn h44)) Y (ixe h44) (ixn h44)) ?_)))))
 refine rp Y (u_ld Y Y U3 Y Y ((Sub.refl _).trans (Sub.map default (ixn h44)))) (rm Y (rp Y (p_bin Y Y Y Y) (chkK H fun h45 H => rp Y (p_ishr (n := (w64 (r'24 + (1 : Int))).toNat) Y Y Y (Int.toNat_of_nonneg h45).symm) (rp Y (p_bin Y Y Y Y) (rp Y (p_ieq Y Y Y) ?_)))))
 refine rz [(6, .q 6 (0)), (162, .b (decide (iand (ishr (lrd which18'25 ((w64 (op0 - (9 : Int))).toNat)) ((w64 (r'24 + (1 : Int))).toNat)) (1 : Int) = (1 : Int))))] [(6, .pure (GValue.cs GValue.zero))] Y (if2 H Y (fun h46 H => ?_) (fun h46 H => ?_))
 ·refine sg [0,1,2] Y (bindK H fun r'26 h47 H => rp Y (p_callp Y Y Y Tryd.func25 Y Y (g_ref_boolOf_ac h47) ⟨Y, trivial⟩) (rq Y (u_sw Y Y Y Y Y in_24 (GValue.len r'26) (GValue.len GValue.zero) Y) (ra Y (rz [(6, _), (7, .i (0 : Int))] [(6, .pure (GValue.cs r'26))] Y (AW2_ret ?_)))))
  obtain rfl := se H
  exact ⟨⟨rcw U24 Y in_24 Y (GValue.len r'26), rt, trivial⟩, trivial⟩
 refine as2 [(6, _)] [(6, _)] Y (AW2_skip (sg [0,1,2] Y (bindK H fun r'27 h48 H => rp Y (p_callp Y Y Y Tryd.func25 Y Y (g_ref_boolOf_ac h48) ⟨Y, trivial⟩) (rq Y (u_sw Y Y Y Y Y in_24 (GValue.len r'27) (GValue.len GValue.zero) Y) (ra Y ?_)))))
 refine rz [(6, _), (7, .i (0 : Int))] [(6, .pure (GValue.cs r'27))] Y (AW2_ret ?_)
 obtain rfl := se H
 exact ⟨⟨rcw U24 Y in_24 Y (GValue.len r'27), rt, trivial⟩, trivial⟩
end Go.Proofs.YthnkbagmaljjjaaDoor.VM
