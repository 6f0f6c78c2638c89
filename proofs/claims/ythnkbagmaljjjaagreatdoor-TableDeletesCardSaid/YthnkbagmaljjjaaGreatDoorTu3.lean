/- Words and rules that the proof uses. -/
import Derived.Test.YthnkbagmaljjjaaGreatDoorTu2
namespace Go.Proofs.YthnkbagmaljjjaaGreatDoor.VM
open Go Go.RowKit
abbrev U119:=@Tryz.underlying119
noncomputable def g_ref_badReal (b0:UInt64):Option (Bool) :=
  some (decide ((b0=(9223372036854775808:UInt64))∨((18437736874454810624:UInt64) < shl_u64 b0 1)))
set_option maxHeartbeats 4000000 in
set_option maxRecDepth 100000 in
theorem g_ref_badReal_ac {b0:UInt64} {r:Bool} (H:g_ref_badReal b0=some r):ACp Tryz.prog 72 [(AV.u64 b0)] (AV.bool r):=by
 refine ACp_of (AC2_of_body (vs:=[.b r]) Tryz.func72 Y Y (lb Y) Y ?_) (fun _=>.same _)
 unfold g_ref_badReal at H
 refine as2 [(0,.p (AV.u64 b0))] [] Y (sg [0] Y (ra Y (rz [(0,_)] [] Y (AW2_seq (AW2_mid (⟨[(2,.b (decide ((b0=(9223372036854775808:UInt64))∨((18437736874454810624:UInt64) < shl_u64 b0 1))))],[],10⟩:TS) ?_ ?_)))))
 ·refine AW2_reg [0,1,2,3,4,5,6,7] Y (rm Y (rp Y (p_u64eq (a:=b0) (b:=(9223372036854775808:UInt64)) Y Y Y) (rm Y ?_)))
  refine (Classical.em (b0=(9223372036854775808:UInt64))).elim (fun h1=>?_) (fun h1=>?_)
  ·exact rO Y (dT h1) Y (rO Y (dT h1) Y (rO Y (dT h1) Y (rp Y (p_pkt Y Y (dT h1) (tb (dT (p:=(b0=(9223372036854775808:UInt64))∨((18437736874454810624:UInt64) < shl_u64 b0 1)) (Or.inl h1)).symm)) (ra Y (rend Y Y)))))
  exact rn Y (dF h1) Y (p_move Y Y) (rn Y (dF h1) Y (p_u64shl (n:=1) Y Y Y Y) (rn Y (dF h1) Y (p_u64gt (a:=shl_u64 b0 1) (b:=(18437736874454810624:UInt64)) Y Y Y) (rp Y (p_pkf Y Y (dF h1) (tb ((or_l (p:=b0=(9223372036854775808:UInt64)) (q:=(18437736874454810624:UInt64) < shl_u64 b0 1) h1)))) (ra Y (rend Y Y)))))
 refine AW2_ret ?_
 have z:=se H; subst z
 exact ⟨⟨rt,trivial⟩,trivial⟩
noncomputable def g_ref_ValueFault (v0:GValue):Option (Int) :=
  (show Option (Int⊕GValue) from (if v0.Kind=(0:Int) then some (.inr ({ GValue.zero with Kind:=v0.Kind })) else ((if v0.Kind=(1:Int) then some (decide (v0.Kind=(1:Int))) else some (decide (v0.Kind=(2:Int))))).bind fun j'2=>(if j'2=true then some (.inr ({ { GValue.zero with Kind:=v0.Kind } with Int_:=v0.Int_ })) else (if v0.Kind=(3:Int) then some (.inr ({ { GValue.zero with Kind:=v0.Kind } with Bits:=v0.Bits })) else (if v0.Kind=(4:Int) then some (.inr ({ { GValue.zero with Kind:=v0.Kind } with Text:=v0.Text })) else some (.inl (2:Int))))))).bind fun o'12=>match o'12 with | .inl y'3=>some y'3 | .inr j'1=>(if (v0.Text.length:Int) > (40:Int) then some (1:Int) else ((if v0≠j'1 then some true else (if v0.Kind=(1:Int) then (if (1:UInt64) < UInt64.ofInt v0.Int_ then some true else (if v0.Kind=(3:Int) then (g_ref_badReal v0.Bits).bind fun r'5=>(if r'5=true then some true else (g_utf8_ValidString v0.Text).bind fun r'6=>some (!r'6)) else (g_utf8_ValidString v0.Text).bind fun r'7=>some (!r'7))) else (if v0.Kind=(3:Int) then (g_ref_badReal v0.Bits).bind fun r'8=>(if r'8=true then some true else (g_utf8_ValidString v0.Text).bind fun r'9=>some (!r'9)) else (g_utf8_ValidString v0.Text).bind fun r'10=>some (!r'10))))).bind fun g'11=>(if g'11=true then some (3:Int) else some (0:Int)))
set_option maxHeartbeats 4000000 in
set_option maxRecDepth 100000 in
theorem g_ref_ValueFault_ac {v0:GValue} {r:Int} (H:g_ref_ValueFault v0=some r):ACp Tryz.prog 49 [(.agg (GValue.cs v0))] (AV.int r):=by
 refine ACp_of (AC2_of_body (vs:=[.i r]) Tryz.func49 Y Y (lb Y) Y ?_) (fun _=>.same _)
 unfold g_ref_ValueFault at H
 refine as2 [(0,.g (GValue.cs v0))] [] Y (sg [0,1] Y (rq Y (MakeD.opD (n_box 1 Y Y) Y Y Y Y) (ra Y (rz [(1,.q 1 (0))] [(1,.pure (GValue.cs v0))] Y (sg [0,1,2,3,4] Y (rf Y U32 Y in_3 Y Y (GValue.len v0) ?_))))))
 refine rp Y (u_ld Y Y U3 Y Y (GValue.sub0 v0)) (rp Y (u_bld Y in_32 one_32 zc_32 pl_32 Y (af_cons Y Y (GValue.upd0 GValue.zero v0.Kind) Y)) (rq Y (MakeD.opD (u_alloc 3 Y in_32 one_32 zc_32) Y Y Y Y) (rq Y (u_sw Y Y Y Y Y in_32 (GValue.len ((GValue.w0 GValue.zero v0.Kind))) (GValue.len GValue.zero) Y) (rz [(1,_),(3,.q 3 (0))] [(1,.pure (GValue.cs v0)),(3,.pure (GValue.cs ((GValue.w0 GValue.zero v0.Kind))))] Y (AW2_seq (bindK H fun o'12 h1 H=>?_))))))
 refine AW2_join (fun j'1:GValue=>(⟨[(1,.q 1 (0)),(3,.q 3 (0))],[(1,.pure (GValue.cs v0)),(3,.pure (GValue.cs j'1))],61⟩:TS)) (fun r e s'=>e=Go.Exit.ret∧ResAll Tryz.prog s' [ResultVar.tmp 2] [.i r]∧HFits s' []) (x:=o'12) ?_ (fun j'1 hy=>?_) (fun y'3 e s' hy hs=>?_)
 ·clear H
  have H:=h1
  clear h1
  refine sg [0,1] Y (rf Y U32 Y in_3 Y Y (GValue.len v0) (rp Y (u_ld Y Y U3 Y Y (GValue.sub0 v0)) (rz [(1,.q 1 (0)),(3,.q 3 (0)),(8,.i v0.Kind)] [(1,.pure (GValue.cs v0)),(3,.pure (GValue.cs ((GValue.w0 GValue.zero v0.Kind))))] Y (AW2_block (sg [0,1] Y (rp Y (p_ieq Y Y Y) ?_))))))
  refine ra Y (rz [(1,_),(3,_),(8,_),(9,.b (decide (v0.Kind=(0:Int))))] [(1,_),(3,_)] Y (if2 H Y (fun h2 H=>?_) (fun h2 H=>?_)))
  ·refine as2 [(1,_),(3,_)] [(1,_),(3,_)] Y (AW2_skip ?_)
   have z:=se H; subst z
   exact ⟨Y,Y⟩
  refine AW2_seq (bindK H fun j'2 h3 H=>AW2_mid (⟨[(1,.q 1 (0)),(3,.q 3 (0)),(8,.i v0.Kind),(11,.b j'2)],[(1,.pure (GValue.cs v0)),(3,.pure (GValue.cs ((GValue.w0 GValue.zero v0.Kind))))],61⟩:TS) ?_ ?_)
  ·clear H
   have H:=h3
   clear h3
   refine sg [0,1] Y (rp Y (p_ieq Y Y Y) (ra Y (rz [(1,.q 1 (0)),(3,.q 3 (0)),(8,.i v0.Kind),(11,.b (decide (v0.Kind=(1:Int))))] [(1,.pure (GValue.cs v0)),(3,.pure (GValue.cs ((GValue.w0 GValue.zero v0.Kind))))] Y (if2 H Y (fun h4 H=>?_) (fun h4 H=>?_)))))
   ·refine AW2_skip ?_
    have z:=se H; subst z
    exact rfl
   refine AW2_reg [0,1] Y (rp Y (p_ieq Y Y Y) (ra Y (rz [(1,_),(3,_),(8,_),(11,.b (decide (v0.Kind=(2:Int))))] [(1,_),(3,_)] Y ?_)))
   have z:=se H; subst z
   exact rfl
  refine AW2_cond Y (fun h5=>?_) (fun h5=>?_)
  ·replace H:=ite_then h5 H
   refine AW2_reg [0,1,2,3] Y (rf Y U32 Y in_3 Y Y (GValue.len v0) (rp Y (u_ld Y Y U3 Y Y (GValue.sub1 v0)) (rf Y U32 Y in_3 Y Y (GValue.len ((GValue.w0 GValue.zero v0.Kind))) (rq Y (u_st Y Y Y Y Y in_3 Y (nl (GValue.len ((GValue.w0 GValue.zero v0.Kind)))) (Upd.trans (Sub.refl _) (GValue.upd1 ((GValue.w0 GValue.zero v0.Kind)) v0.Int_) (Upd.refl ((GValue.len ((GValue.w1 (GValue.w0 GValue.zero v0.Kind) v0.Int_))).trans (GValue.len ((GValue.w0 GValue.zero v0.Kind))).symm)))) (rz [(1,.q 1 (0)),(3,.q 3 (0))] [(1,.pure (GValue.cs v0)),(3,.pure (GValue.cs ((GValue.w1 (GValue.w0 GValue.zero v0.Kind) v0.Int_))))] Y ?_)))))
   have z:=se H; subst z
   exact ⟨Y,Y⟩
  replace H:=ite_else (ne_true h5) H
  refine sg [0,1] Y (rp Y (p_ieq Y Y Y) (ra Y (rz [(1,.q 1 (0)),(3,.q 3 (0)),(8,.i v0.Kind),(17,.b (decide (v0.Kind=(3:Int))))] [(1,.pure (GValue.cs v0)),(3,.pure (GValue.cs ((GValue.w0 GValue.zero v0.Kind))))] Y (if2 H Y (fun h6 H=>?_) (fun h6 H=>?_)))))
  ·refine AW2_reg [0,1,2,3] Y (rf Y U32 Y in_30 Y Y (GValue.len v0) (rp Y (u_ld Y Y U30 Y Y (GValue.sub2 v0)) (rf Y U32 Y in_30 Y Y (GValue.len ((GValue.w0 GValue.zero v0.Kind))) (rq Y (u_st Y Y Y Y Y in_30 Y (nl (GValue.len ((GValue.w0 GValue.zero v0.Kind)))) (Upd.trans (Sub.refl _) (GValue.upd2 ((GValue.w0 GValue.zero v0.Kind)) v0.Bits) (Upd.refl ((GValue.len ((GValue.w2 (GValue.w0 GValue.zero v0.Kind) v0.Bits))).trans (GValue.len ((GValue.w0 GValue.zero v0.Kind))).symm)))) (rz [(1,_),(3,_)] [(1,.pure (GValue.cs v0)),(3,.pure (GValue.cs ((GValue.w2 (GValue.w0 GValue.zero v0.Kind) v0.Bits))))] Y ?_)))))
   have z:=se H; subst z
   exact ⟨Y,Y⟩
  refine sg [0,1] Y (rp Y (p_ieq Y Y Y) (ra Y (rz [(1,_),(3,_),(22,.b (decide (v0.Kind=(4:Int))))] [(1,_),(3,_)] Y (if2 H Y (fun h7 H=>?_) (fun h7 H=>?_)))))
  ·refine AW2_reg [0,1,2,3] Y (rf Y U32 Y in_9 Y Y (GValue.len v0) (rp Y (u_ld Y Y U9 Y Y (GValue.sub3 v0)) (rf Y U32 Y in_9 Y Y (GValue.len ((GValue.w0 GValue.zero v0.Kind))) (rq Y (u_st Y Y Y Y Y in_9 Y (nl (GValue.len ((GValue.w0 GValue.zero v0.Kind)))) (Upd.trans (Sub.refl _) (GValue.upd3 ((GValue.w0 GValue.zero v0.Kind)) v0.Text) (Upd.refl ((GValue.len ((GValue.w3 (GValue.w0 GValue.zero v0.Kind) v0.Text))).trans (GValue.len ((GValue.w0 GValue.zero v0.Kind))).symm)))) (rz [(1,_),(3,_)] [(1,.pure (GValue.cs v0)),(3,.pure (GValue.cs ((GValue.w3 (GValue.w0 GValue.zero v0.Kind) v0.Text))))] Y ?_)))))
   have z:=se H; subst z
   exact ⟨Y,Y⟩
  refine sg [0] Y (ra Y (rz [(2,.i (2:Int))] [] Y (AW2_ret ?_)))
  have z:=se H; subst z
  exact ⟨Y,⟨rt,trivial⟩,trivial⟩
 ·subst hy
  refine AW2_seq (sg [0,1,2,3] Y (rf Y U32 Y in_9 Y Y (GValue.len v0) (rp Y (u_ld Y Y U9 Y Y (GValue.sub3 v0)) (rp Y (p_lent Y U9 Y) (rp Y (p_bin Y Y Y Y) (rz [(1,.q 1 (0)),(3,.q 3 (0)),(30,.b (decide ((v0.Text.length:Int) > (40:Int))))] [(1,.pure (GValue.cs v0)),(3,.pure (GValue.cs j'1))] Y ?_))))))
  refine if2 H Y (fun h8 H=>?_) (fun h8 H=>?_)
  ·refine sg [0] Y (ra Y (rz [(2,.i (1:Int))] [] Y (AW2_ret ?_)))
   have z:=se H; subst z
   exact ⟨⟨rt,trivial⟩,trivial⟩
  refine as2 [(1,_),(3,_)] [(1,_),(3,_)] Y (AW2_skip (AW2_seq (AW2_seq (bindK H fun g'11 h23 H=>AW2_mid (⟨[(60,.b g'11)],[],61⟩:TS) ?_ ?_))))
  ·clear H
   have H:=h23
   clear h23
   refine AW2_reg [0,1,2,3,4,5,6,7,8,9,10,11,12,13,14,15,16,17,18,19,20,21,22,23,24,25,26,27,28,29] Y (rp Y (u_lda Y Y U32 Y in_32 Y np (Sub.refl _) (GValue.len v0)) (rp Y (u_lda Y Y U32 Y in_32 Y np (Sub.refl _) (GValue.len j'1)) (rp Y (p_nea (a:=v0) (b:=j'1) Y eq_32 Y (by kernel_rfl) Y Y) (rm Y (em2 H (fun h10 H=>?_) (fun h10 H=>?_))))))
   ·refine rO Y (dT h10) Y (rO Y (dT h10) Y (rO Y (dT h10) Y (rO Y (dT h10) Y (r_off2 Y Y Y Y Y Y (r_off2 Y Y Y Y Y Y (r_off2 Y Y Y Y Y Y ?_))))))
    refine r_off2 Y Y Y Y Y Y (rO Y (dT h10) Y (rp Y (p_pkt Y Y (dT h10) (.same _)) (rm Y (rO Y Y Y (rO Y Y Y (rO Y Y Y ?_))))))
    refine rO Y Y Y (r_off2 Y Y Y Y Y Y (r_off2 Y Y Y Y Y Y (r_off2 Y Y Y Y Y Y (rO Y Y Y (rp Y (p_pkt Y Y Y (.same _)) (rm Y ?_))))))
    refine rO Y Y Y (rO Y Y Y (rO Y Y Y (rO Y Y Y (rp Y (p_pkt Y Y Y (.same _)) (rs [(60,.b true)] [] Y ?_)))))
    have z:=se H; subst z
    exact RunW_nil rfl
   refine rn Y (dF h10) Y (u_fa Y Y U32 Y in_3 nz Y Y (nl (GValue.len v0))) (rn Y (dF h10) Y (u_ld Y Y U3 Y Y (GValue.sub0 v0)) (rn Y (dF h10) Y (p_ieq Y Y Y) (rn Y (dF h10) Y (p_move Y Y) (em2 H (fun h11 H=>?_) (fun h11 H=>?_)))))
   ·refine rn Y (dT h11) Y (u_fa Y Y U32 Y in_3 nz Y Y (nl (GValue.len v0))) (rn Y (dT h11) Y (u_ld Y Y U3 Y Y (GValue.sub1 v0)) (rn Y (dT h11) Y (p_i_u64 Y U3 U119 Y) (rn Y (dT h11) Y (p_u64gt (a:=UInt64.ofInt v0.Int_) (b:=(1:UInt64)) Y Y Y) (rn Y (dF h10) Y (p_pkt Y Y (dT h11) (.same _)) (rp Y (p_pkf Y Y (dF h10) (.same _)) (rm Y ?_))))))
    refine em2 H (fun h12 H=>?_) (fun h12 H=>?_)
    ·refine rO Y (dT h12) Y (rO Y (dT h12) Y (rO Y (dT h12) Y (rO Y (dT h12) Y (r_off2 Y Y Y Y Y Y (r_off2 Y Y Y Y Y Y (r_off2 Y Y Y Y Y Y ?_))))))
     refine rO Y (dT h12) Y (rp Y (p_pkt Y Y (dT h12) (.same _)) (rm Y (rO Y Y Y (rO Y Y Y (rO Y Y Y (rO Y Y Y ?_))))))
     refine rp Y (p_pkt Y Y Y (.same _)) (rs [(60,.b true)] [] Y ?_)
     have z:=se H; subst z
     exact RunW_nil rfl
    refine rn Y (dF h12) Y (u_fa Y Y U32 Y in_3 nz Y Y (nl (GValue.len v0))) (rn Y (dF h12) Y (u_ld Y Y U3 Y Y (GValue.sub0 v0)) (rn Y (dF h12) Y (p_ieq Y Y Y) (rn Y (dF h12) Y (p_move Y Y) (em2 H (fun h13 H=>?_) (fun h13 H=>?_)))))
    ·refine rn Y (dT h13) Y (u_fa Y Y U32 Y in_30 nz Y Y (nl (GValue.len v0))) (rn Y (dT h13) Y (u_ld Y Y U30 Y Y (GValue.sub2 v0)) (bindK H fun r'5 h14 H=>rn Y (dT h13) Y (p_callp Y Y Y Tryz.func72 Y Y (g_ref_badReal_ac h14) ⟨Y,trivial⟩) (rn Y (dF h12) Y (p_pkt Y Y (dT h13) (.same _)) (rp Y (p_pkf Y Y (dF h12) (.same _)) (rm Y ?_)))))
     refine em2 H (fun h15 H=>?_) (fun h15 H=>?_)
     ·refine rO Y h15 Y (rO Y h15 Y (rO Y h15 Y (rO Y h15 Y (rp Y (p_pkt Y Y h15 (.same _)) (rs [(60,.b true)] [] Y ?_)))))
      have z:=se H; subst z
      exact RunW_nil rfl
     refine rn Y (bfalse h15) Y (u_fa Y Y U32 Y in_9 nz Y Y (nl (GValue.len v0))) (rn Y (bfalse h15) Y (u_ld Y Y U9 Y Y (GValue.sub3 v0)) (bindK H fun r'6 h16 H=>rn Y (bfalse h15) Y (p_callp Y Y Y Tryz.func62 Y Y (g_utf8_ValidString_ac h16) ⟨Y,trivial⟩) (rn Y (bfalse h15) Y (p_not Y Y) (rp Y (p_pkf Y Y (bfalse h15) (.same _)) (rs [(60,.b (!r'6))] [] Y ?_)))))
     have z:=se H; subst z
     exact RunW_nil rfl
    refine rO Y (dF h13) Y (rO Y (dF h13) Y (rO Y (dF h13) Y (rn Y (dF h12) Y (p_pkf Y Y (dF h13) (.same _)) (rp Y (p_pkf Y Y (dF h12) (.same _)) (rm Y (rn Y (bfalse (by decide)) Y (u_fa Y Y U32 Y in_9 nz Y Y (nl (GValue.len v0))) ?_))))))
    refine rn Y (bfalse (by decide)) Y (u_ld Y Y U9 Y Y (GValue.sub3 v0)) (bindK H fun r'7 h17 H=>rn Y (bfalse (by decide)) Y (p_callp Y Y Y Tryz.func62 Y Y (g_utf8_ValidString_ac h17) ⟨Y,trivial⟩) (rn Y (bfalse (by decide)) Y (p_not Y Y) (rp Y (p_pkf Y Y (bfalse (by decide)) (.same _)) (rs [(60,.b (!r'7))] [] Y ?_))))
    have z:=se H; subst z
    exact RunW_nil rfl
   refine rO Y (dF h11) Y (rO Y (dF h11) Y (rO Y (dF h11) Y (rO Y (dF h11) Y (rn Y (dF h10) Y (p_pkf Y Y (dF h11) (.same _)) (rp Y (p_pkf Y Y (dF h10) (.same _)) (rm Y ?_))))))
   refine rn Y (bfalse (by decide)) Y (u_fa Y Y U32 Y in_3 nz Y Y (nl (GValue.len v0))) (rn Y (bfalse (by decide)) Y (u_ld Y Y U3 Y Y (GValue.sub0 v0)) (rn Y (bfalse (by decide)) Y (p_ieq Y Y Y) (rn Y (bfalse (by decide)) Y (p_move Y Y) (em2 H (fun h18 H=>?_) (fun h18 H=>?_)))))
   ·refine rn Y (dT h18) Y (u_fa Y Y U32 Y in_30 nz Y Y (nl (GValue.len v0))) (rn Y (dT h18) Y (u_ld Y Y U30 Y Y (GValue.sub2 v0)) (bindK H fun r'8 h19 H=>rn Y (dT h18) Y (p_callp Y Y Y Tryz.func72 Y Y (g_ref_badReal_ac h19) ⟨Y,trivial⟩) (rn Y (bfalse (by decide)) Y (p_pkt Y Y (dT h18) (.same _)) (rp Y (p_pkf Y Y (bfalse (by decide)) (.same _)) (rm Y ?_)))))
    refine em2 H (fun h20 H=>?_) (fun h20 H=>?_)
    ·refine rO Y h20 Y (rO Y h20 Y (rO Y h20 Y (rO Y h20 Y (rp Y (p_pkt Y Y h20 (.same _)) (rs [(60,.b true)] [] Y ?_)))))
     have z:=se H; subst z
     exact RunW_nil rfl
    refine rn Y (bfalse h20) Y (u_fa Y Y U32 Y in_9 nz Y Y (nl (GValue.len v0))) (rn Y (bfalse h20) Y (u_ld Y Y U9 Y Y (GValue.sub3 v0)) (bindK H fun r'9 h21 H=>rn Y (bfalse h20) Y (p_callp Y Y Y Tryz.func62 Y Y (g_utf8_ValidString_ac h21) ⟨Y,trivial⟩) (rn Y (bfalse h20) Y (p_not Y Y) (rp Y (p_pkf Y Y (bfalse h20) (.same _)) (rs [(60,.b (!r'9))] [] Y ?_)))))
    have z:=se H; subst z
    exact RunW_nil rfl
   refine rO Y (dF h18) Y (rO Y (dF h18) Y (rO Y (dF h18) Y (rn Y (bfalse (by decide)) Y (p_pkf Y Y (dF h18) (.same _)) (rp Y (p_pkf Y Y (bfalse (by decide)) (.same _)) (rm Y (rn Y (bfalse (by decide)) Y (u_fa Y Y U32 Y in_9 nz Y Y (nl (GValue.len v0))) ?_))))))
   refine rn Y (bfalse (by decide)) Y (u_ld Y Y U9 Y Y (GValue.sub3 v0)) (bindK H fun r'10 h22 H=>rn Y (bfalse (by decide)) Y (p_callp Y Y Y Tryz.func62 Y Y (g_utf8_ValidString_ac h22) ⟨Y,trivial⟩) (rn Y (bfalse (by decide)) Y (p_not Y Y) (rp Y (p_pkf Y Y (bfalse (by decide)) (.same _)) (rs [(60,.b (!r'10))] [] Y ?_))))
   have z:=se H; subst z
   exact RunW_nil rfl
  refine AW2_cond Y (fun h24=>?_) (fun h24=>?_)
  ·replace H:=ite_then h24 H
   refine sg [0] Y (ra Y (rz [(2,.i (3:Int))] [] Y (AW2_ret ?_)))
   have z:=se H; subst z
   exact ⟨⟨rt,trivial⟩,trivial⟩
  replace H:=ite_else (ne_true h24) H
  refine as2 [] [] Y (AW2_skip (sg [0] Y (ra Y (rz [(2,.i (0:Int))] [] Y (AW2_ret ?_)))))
  have z:=se H; subst z
  exact ⟨⟨rt,trivial⟩,trivial⟩
 subst hy
 obtain ⟨rfl,hs⟩:=hs
 have z:=se H; subst z
 exact ⟨hs.1,hs.2⟩
def g_ref_RowFault_r15:List (List (Nat×Option Nat)):=[[(7,none)],[(40,some 0)],[(1,none)],[(6,none)],[(42,some 2),(43,some 3)],[(44,some 4)],[(45,some 5)]]
def g_ref_RowFault_r15c:List (List Nat):=[[],[0],[],[],[2,3],[2,3,4],[2,3,4,5],[0,1,2,3,4,5,6]]
noncomputable def g_ref_RowFault_l0 (row0:List GValue) (cols1:List GColumn):Int→Option (Int⊕(Int⊕Unit))
  | t21_0=>(if t21_0 < (row0.length:Int) then (show Option (Int⊕Unit) from if 0≤t21_0∧t21_0 < (row0.length:Int) then (g_ref_ValueFault (lrd row0 t21_0.toNat)).bind fun r'3=>(if r'3≠(0:Int) then some (.inl r'3) else (if (lrd row0 t21_0.toNat).Kind=(0:Int) then if 0≤t21_0∧t21_0 < (cols1.length:Int) then (if (!((lrd cols1 t21_0.toNat).Null))=true then some (.inl (12:Int)) else some (.inr ())) else none else if 0≤t21_0∧t21_0 < (cols1.length:Int) then (if (lrd row0 t21_0.toNat).Kind≠(lrd cols1 t21_0.toNat).Kind then some (.inl (2:Int)) else some (.inr ())) else none)) else none).bind fun o'5=>match o'5 with | .inl y'4=>some (.inr (.inl y'4)) | .inr j'2=>some (.inl (w64 (t21_0+(1:Int)))) else some (.inr (.inr ())))
noncomputable def g_ref_RowFault (row0:List GValue) (cols1:List GColumn):Option (Int) :=
  (g_ref_ColumnsFault cols1).bind fun r'1=>(if r'1≠(0:Int) then some r'1 else (if (row0.length:Int)≠(cols1.length:Int) then some (1:Int) else (loopO (g_ref_RowFault_l0 row0 cols1) (0:Int)).bind fun o'9=>match o'9 with | .inl y'10=>some y'10 | .inr (y'11)=>some (0:Int)))
set_option maxHeartbeats 4000000 in
set_option maxRecDepth 100000 in
theorem g_ref_RowFault_ac {row0:List GValue} {cols1:List GColumn} {r:Int} (H:g_ref_RowFault row0 cols1=some r):ACp Tryz.prog 36 [(GValue.ls row0),(GColumn.ls cols1)] (AV.int r):=by
 refine ACp_of (AC2_of_body (vs:=[.i r]) Tryz.func36 Y Y (lb Y) Y ?_) (fun _=>.same _)
 unfold g_ref_RowFault at H
 refine as2 [(0,.p (GValue.ls row0)),(1,.p (GColumn.ls cols1))] [] Y (sg [0] Y (ra Y (rz [(0,_),(1,_)] [] Y (AW2_seq (sg [0,1,2] Y (rm Y ?_))))))
 refine bindK H fun r'1 h1 H=>rp Y (p_callp Y Y Y Tryz.func34 Y Y (g_ref_ColumnsFault_ac h1) ⟨Y,trivial⟩) (ra Y (rz [(0,_),(1,_),(5,.i r'1)] [] Y (sg [0,1] Y (rm Y (rp Y (p_ine Y Y Y) ?_)))))
 refine rz [(0,_),(1,_),(5,_),(12,.b (decide (r'1≠(0:Int))))] [] Y (if2 H Y (fun h2 H=>?_) (fun h2 H=>?_))
 ·refine sg [0,1] Y (rm Y (ra Y (rz [(4,.i r'1)] [] Y (AW2_ret ?_))))
  have z:=se H; subst z
  exact ⟨⟨rt,trivial⟩,trivial⟩
 refine as2 [(0,_),(1,_)] [] Y (AW2_skip (AW2_seq (sg [0,1,2,3,4] Y (rm Y (rp Y (p_lenl Y U23 Y Y) (rm Y ?_))))))
 refine rp Y (p_lenl Y U22 Y Y) (rp Y (p_ine Y Y Y) (rz [(0,_),(1,_),(18,.b (decide ((row0.length:Int)≠(cols1.length:Int))))] [] Y (if2 H Y (fun h3 H=>?_) (fun h3 H=>?_))))
 ·refine sg [0] Y (ra Y (rz [(4,.i (1:Int))] [] Y (AW2_ret ?_)))
  have z:=se H; subst z
  exact ⟨⟨rt,trivial⟩,trivial⟩
 refine as2 [(0,_),(1,_)] [] Y (AW2_skip (AW2_seq (sg [0,1,2] Y (rm Y (rp Y (p_lenl Y U23 Y Y) (rm Y ?_))))))
 refine rz [(1,_),(19,.p (GValue.ls row0)),(20,.i (row0.length:Int)),(21,.i (0:Int))] [] Y (AW2_block (as2 [(1,_),(19,_),(20,_),(21,_)] [] Y (bindK H fun o'9 h14 H=>AW2_loopO (fun a'6:Int=>(⟨[(1,.p (GColumn.ls cols1)),(19,.p (GValue.ls row0)),(20,.i (row0.length:Int)),(21,.i a'6)],[],49⟩:TS)) (fun (o:Int⊕Unit) e s'=>match o with | .inl y'7=>e=Go.Exit.ret∧ResAll Tryz.prog s' [ResultVar.tmp 4] [.i y'7]∧HFits s' [] | .inr (y'8)=>e=Go.Exit.exit 0∧s'=(⟨[],[],49⟩:TS)) h14 Y (fun t21_0 x hx=>?_) (fun e s' hs=>?_))))
 ·clear H
  have H:=hx
  clear hx
  unfold g_ref_RowFault_l0 at H
  refine sg [0] Y (rp Y (p_bin Y Y Y Y) (rz [(1,.p (GColumn.ls cols1)),(19,.p (GValue.ls row0)),(20,.i (row0.length:Int)),(21,.i t21_0),(22,.b (decide (t21_0 < (row0.length:Int))))] [] Y (AW2_seq (if2 H Y (fun h4 H=>?_) (fun h4 H=>?_)))))
  ·refine as2 [(1,_),(19,_),(20,_),(21,_)] [] Y (AW2_skip (AW2_seq (bindK H fun o'5 h5 H=>AW2_join (fun j'2:Unit=>(⟨[(1,.p (GColumn.ls cols1)),(19,.p (GValue.ls row0)),(20,.i (row0.length:Int)),(21,.i t21_0)],[],49⟩:TS)) (fun r e s'=>e=Go.Exit.ret∧ResAll Tryz.prog s' [ResultVar.tmp 4] [.i r]∧HFits s' []) (x:=o'5) ?_ (fun j'2 hy=>?_) (fun y'4 e s' hy hs=>?_))))
   ·clear H
    have H:=h5
    clear h5
    refine AW2_block (sg [0,1,2,3,4,5] Y (rm Y (chkK H fun h6 H=>rp Y (u_ixl Y Y U23 in_32 Y Y (ixe h6) (ixn h6) (fne (fun x=>(GValue.len x)) (by decide) (ixn h6))) (rp Y (u_lda Y Y U32 Y in_32 Y np (Sub.fm default (fun x=>(GValue.len x)) (ixn h6)) (GValue.len (lrd row0 t21_0.toNat))) (rq Y (MakeD.opD (u_alloc 7 Y in_32 one_32 zc_32) Y Y Y Y) ?_)))))
    refine ra Y (rq Y (u_sw Y Y Y Y Y in_32 (GValue.len (lrd row0 t21_0.toNat)) (GValue.len GValue.zero) Y) (rz [(1,.p (GColumn.ls cols1)),(6,.i t21_0),(7,.q 7 (0)),(19,.p (GValue.ls row0)),(20,.i (row0.length:Int)),(21,.i t21_0)] [(7,.pure (GValue.cs (lrd row0 t21_0.toNat)))] Y (AW2_seq (sg [0,1,2] Y (rp Y (u_lda Y Y U32 Y in_32 Y np (Sub.refl _) (GValue.len (lrd row0 t21_0.toNat))) (bindK H fun r'3 h7 H=>?_))))))
    refine rp Y (p_callp Y Y Y Tryz.func49 Y Y (g_ref_ValueFault_ac h7) ⟨Y,trivial⟩) (ra Y (rz [(1,_),(6,_),(7,_),(8,.i r'3),(19,_),(20,_),(21,_)] [(7,_)] Y (sg [0,1] Y (rm Y (rp Y (p_ine Y Y Y) (rz [(1,_),(6,_),(7,_),(8,_),(19,_),(20,_),(21,_),(29,.b (decide (r'3≠(0:Int))))] [(7,_)] Y ?_))))))
    refine if2 H Y (fun h8 H=>?_) (fun h8 H=>?_)
    ·refine sg [0,1] Y (rm Y (ra Y (rz [(4,.i r'3)] [] Y (AW2_ret ?_))))
     have z:=se H; subst z
     exact ⟨Y,⟨rt,trivial⟩,trivial⟩
    refine as2 [(1,_),(6,_),(7,_),(19,_),(20,_),(21,_)] [(7,_)] Y (AW2_skip (sg [0,1,2] Y (rf Y U32 Y in_3 Y Y (GValue.len (lrd row0 t21_0.toNat)) (rp Y (u_ld Y Y U3 Y Y (GValue.sub0 (lrd row0 t21_0.toNat))) (rp Y (p_ieq Y Y Y) (rz [(1,_),(6,_),(7,_),(19,_),(20,_),(21,_),(33,.b (decide ((lrd row0 t21_0.toNat).Kind=(0:Int))))] [(7,_)] Y ?_))))))
    refine if2 H Y (fun h9 H=>?_) (fun h9 H=>?_)
    ·refine sg [0,1,2,3,4,5] Y (rm Y (rm Y (chkK H fun h10 H=>rp Y (u_ixl Y Y U22 in_63 Y Y (ixe h10) (ixn h10) (fne (fun x=>(GColumn.len x)) (by decide) (ixn h10))) (rp Y (u_far Y Y U63 Y in_4 nz Y) (rp Y (u_ld Y Y U4 Y Y ((Sub.fm default (fun x=>(GColumn.len x)) (ixn h10)).trans (GColumn.sub2 (lrd cols1 t21_0.toNat)))) ?_)))))
     refine rp Y (p_not Y Y) (rz [(1,_),(19,_),(20,_),(21,_),(39,.b (!((lrd cols1 t21_0.toNat).Null)))] [] Y (AW2_cond Y (fun h11=>?_) (fun h11=>?_)))
     ·replace H:=ite_then h11 H
      refine sg [0] Y (ra Y (rz [(4,.i (12:Int))] [] Y (AW2_ret ?_)))
      have z:=se H; subst z
      exact ⟨Y,⟨rt,trivial⟩,trivial⟩
     replace H:=ite_else (ne_true h11) H
     refine as2 [(1,.p (GColumn.ls cols1)),(19,.p (GValue.ls row0)),(20,.i (row0.length:Int)),(21,.i t21_0)] [] Y (AW2_skip ?_)
     have z:=se H; subst z
     exact ⟨Y,Y⟩
    refine AW2_seq (chkK H fun h12 H=>AW2_ghoQ (AW2_draw 7 [7] (fun k=>([.q 7 (0+0),.i ((lrd row0 t21_0.toNat).Kind),.p (GColumn.ls cols1),.i t21_0,.p (.rptr (cols1.flatMap GColumn.cs) (t21_0.toNat * 3)),.p (.rptr (cols1.flatMap GColumn.cs) (t21_0.toNat * 3+1)),.i ((lrd cols1 t21_0.toNat).Kind)]:List TV).getD k TV.any) (fun k=>g_ref_RowFault_r15.getD k []) [(1,none),(19,none),(20,none),(21,none),(41,some 1),(46,some 6)] [] (fun k=>g_ref_RowFault_r15c.getD k []) mixed (by kernel_rfl) Y Y (a_op (g_x Y (x_p Y (u_fa Y Y U32 Y in_3 nz Y Y (nl (GValue.len (lrd row0 t21_0.toNat)))) Y)) (a_op (g_x Y (x_p Y (u_ld Y Y U3 Y Y (GValue.sub0 (lrd row0 t21_0.toNat))) Y)) (a_op (g_x Y (x_p Y (p_move Y Y) Y)) (a_op (g_x Y (x_p Y (p_move Y Y) Y)) (a_op (g_x Y (x_p Y (u_ixl Y Y U22 in_63 Y Y (ixe h12) (ixn h12) (fne (fun x=>(GColumn.len x)) (by decide) (ixn h12))) Y)) (a_op (g_x Y (x_p Y (u_far Y Y U63 Y in_3 nz Y) Y)) (a_op (g_x Y (x_p Y (u_ld Y Y U3 Y Y ((Sub.fm default (fun x=>(GColumn.len x)) (ixn h12)).trans (GColumn.sub1 (lrd cols1 t21_0.toNat)))) Y)) (a_nil)))))))) (t_op Y Y (PureD.opD (p_ine Y Y Y)) (t_gho (Gho_st (L:=[(1,.p (GColumn.ls cols1)),(19,.p (GValue.ls row0)),(20,.i (row0.length:Int)),(21,.i t21_0),(47,.b (decide ((lrd row0 t21_0.toNat).Kind≠(lrd cols1 t21_0.toNat).Kind)))]) (H:=[]) (N:=49) Y ⟨TLes.same _,TLes.same _,TLes.same _,TLes.same _,TLes.same _,trivial⟩ trivial) (if2 H Y (fun h13 H=>?_) (fun h13 H=>?_))))))
    ·refine sg [0] Y (ra Y (rz [(4,.i (2:Int))] [] Y (AW2_ret ?_)))
     have z:=se H; subst z
     exact ⟨Y,⟨rt,trivial⟩,trivial⟩
    refine as2 [(1,.p (GColumn.ls cols1)),(19,.p (GValue.ls row0)),(20,.i (row0.length:Int)),(21,.i t21_0)] [] Y (AW2_skip ?_)
    have z:=se H; subst z
    exact ⟨Y,Y⟩
   ·subst hy
    refine AW2_reg [0,1] Y (rp Y (p_bin Y Y Y Y) (rm Y (rz [(1,.p (GColumn.ls cols1)),(19,.p (GValue.ls row0)),(20,.i (row0.length:Int)),(21,.i (w64 (t21_0+(1:Int))))] [] Y ?_)))
    have z:=se H; subst z
    exact ⟨Y,Y⟩
   subst hy
   obtain ⟨rfl,hs⟩:=hs
   have z:=se H; subst z
   exact ⟨Y,hs.1,hs.2⟩
  refine as2 [] [] Y (AW2_exit (thenQ2_exit ?_))
  have z:=se H; subst z
  exact ⟨Y,Y⟩
 rcases o'9 with y'10 | y'11
 ·obtain ⟨rfl,hs⟩:=hs
  refine ⟨by simp,?_⟩
  have z:=se H; subst z
  exact ⟨hs.1,hs.2⟩
 obtain ⟨rfl,rfl⟩:=hs
 refine ⟨by simp,?_⟩
 refine blockQ2_exit (sg [0] Y (ra Y (rz [(4,.i (0:Int))] [] Y (AW2_ret ?_))))
 have z:=se H; subst z
 exact ⟨⟨rt,trivial⟩,trivial⟩
noncomputable def g_ref_keysFault_l1 (d0:Vector GCell 4) (t9_0:Int) (seen3_0:List Int):Int→Option (Int⊕(Int⊕Unit))
  | t17_1=>(if t17_1 < (seen3_0.length:Int) then if 0≤t17_1∧t17_1 < (seen3_0.length:Int) then if 0 < ((vrd d0 t9_0.toNat).Row).length then (if (lrd seen3_0 t17_1.toNat)=(lrd ((vrd d0 t9_0.toNat).Row) 0).Int_ then some (.inr (.inl (8:Int))) else some (.inl (w64 (t17_1+(1:Int))))) else none else none else some (.inr (.inr ())))
noncomputable def g_ref_keysFault_l0 (d0:Vector GCell 4):Int×(List Int)→Option ((Int×(List Int))⊕(Int⊕Unit))
  | (t9_0,seen3_0)=>(if t9_0 < (4:Int) then (show Option (Int⊕((List Int))) from if 0≤t9_0∧t9_0 < (4:Int) then (if (!((vrd d0 t9_0.toNat).Full))=true then some (.inr seen3_0) else (loopO (g_ref_keysFault_l1 d0 t9_0 seen3_0) (0:Int)).bind fun o'5=>match o'5 with | .inl y'6=>some (.inl y'6) | .inr (y'7)=>if 0 < ((vrd d0 t9_0.toNat).Row).length then if room (seen3_0.length+([(lrd ((vrd d0 t9_0.toNat).Row) 0).Int_]:List Int).length) 8 then some (.inr (seen3_0++([(lrd ((vrd d0 t9_0.toNat).Row) 0).Int_]:List Int))) else none else none) else none).bind fun o'9=>match o'9 with | .inl y'8=>some (.inr (.inl y'8)) | .inr j'1=>some (.inl (w64 (t9_0+(1:Int)),j'1)) else some (.inr (.inr ())))
noncomputable def g_ref_keysFault (d0:Vector GCell 4):Option (Int) :=
  (loopO (g_ref_keysFault_l0 d0) ((0:Int),([]:List Int))).bind fun o'13=>match o'13 with | .inl y'14=>some y'14 | .inr (y'15)=>some (0:Int)
set_option maxHeartbeats 4000000 in
set_option maxRecDepth 100000 in
theorem g_ref_keysFault_ac {d0:Vector GCell 4} {r:Int} (H:g_ref_keysFault d0=some r):ACp Tryz.prog 24 [(.agg (d0.toList.flatMap GCell.cs))] (AV.int r):=by
 refine ACp_of (AC2_of_body (vs:=[.i r]) Tryz.func24 Y Y (lb Y) Y ?_) (fun _=>.same _)
 unfold g_ref_keysFault at H
 refine as2 [(0,.g (d0.toList.flatMap GCell.cs))] [] Y (sg [0,1] Y (rq Y (MakeD.opD (n_box 1 Y Y) Y Y Y Y) (ra Y (rz [(1,.q 1 (0))] [(1,.pure (d0.toList.flatMap GCell.cs))] Y (sg [0] Y (rp Y (p_asgn Y) ?_))))))
 refine rz [(1,_),(3,.p .nil)] [(1,_)] Y (AW2_seq (sg [0,1] Y (rp Y (u_lda Y Y U26 Y in_26 Y np (Sub.refl _) (vfm_len (fun x=>(GCell.len x)) d0)) (rm Y (rz [(3,_),(8,.g (d0.toList.flatMap GCell.cs)),(9,.i (0:Int))] [] Y (AW2_block ?_))))))
 refine as2 [(3,_),(8,_),(9,_)] [] Y (AW2_gho (Gho_own (d:=3) (b:=3) (z:=1) Y Y Y Y) (AW2_st [(3,.c (.own 3 ([]:List Int).length 1)),(8,.g (d0.toList.flatMap GCell.cs)),(9,.i (0:Int))] [(3,.pure (([]:List Int).map AV.int))] Y ⟨TLes.own Y,TLes.same _,TLes.same _,trivial⟩ ⟨Y,trivial⟩ (bindK H fun o'13 h12 H=>AW2_loopO (fun a'10:Int×(List Int)=>(⟨[(3,.c (.own 3 a'10.2.length 1)),(8,.g (d0.toList.flatMap GCell.cs)),(9,.i a'10.1)],[(3,.pure (a'10.2.map AV.int))],38⟩:TS)) (fun (o:Int⊕Unit) e s'=>match o with | .inl y'11=>e=Go.Exit.ret∧ResAll Tryz.prog s' [ResultVar.tmp 2] [.i y'11]∧HFits s' [] | .inr (y'12)=>e=Go.Exit.exit 0∧s'=(⟨[],[],38⟩:TS)) h12 Y (fun a x hx=>?_) (fun e s' hs=>?_))))
 ·clear H
  obtain ⟨t9_0,seen3_0⟩:=a
  have H:=hx
  clear hx
  unfold g_ref_keysFault_l0 at H
  refine sg [0] Y (rp Y (p_bin Y Y Y Y) (rz [(3,.c (.own 3 seen3_0.length 1)),(8,.g (d0.toList.flatMap GCell.cs)),(9,.i t9_0),(10,.b (decide (t9_0 < (4:Int))))] [(3,.pure (seen3_0.map AV.int))] Y (AW2_seq (if2 H Y (fun h1 H=>?_) (fun h1 H=>?_)))))
  ·refine as2 [(3,_),(8,_),(9,_)] [(3,_)] Y (AW2_skip (AW2_seq (bindK H fun o'9 h2 H=>AW2_join (fun j'1:(List Int)=>(⟨[(3,.c (.own 3 j'1.length 1)),(8,.g (d0.toList.flatMap GCell.cs)),(9,.i t9_0)],[(3,.pure (j'1.map AV.int))],38⟩:TS)) (fun r e s'=>e=Go.Exit.ret∧ResAll Tryz.prog s' [ResultVar.tmp 2] [.i r]∧HFits s' []) (x:=o'9) ?_ (fun j'1 hy=>?_) (fun y'8 e s' hy hs=>?_))))
   ·clear H
    have H:=h2
    clear h2
    refine AW2_block (sg [0,1,2] Y (chkK H fun h3 H=>rp Y (u_ixaa Y Y U26 in_25 U25 Y Y Y (ixe h3) (ixn h3) (Sub.vfm (fun x=>(GCell.len x)) (ixn h3)) (GCell.len (vrd d0 t9_0.toNat))) (rq Y (MakeD.opD (u_alloc 5 Y in_25 one_25 zc_25) Y Y Y Y) (rq Y (u_sw Y Y Y Y Y in_25 (GCell.len (vrd d0 t9_0.toNat)) (GCell.len GCell.zero) Y) (rz [(3,.c (.own 3 seen3_0.length 1)),(5,.q 5 (0)),(8,.g (d0.toList.flatMap GCell.cs)),(9,.i t9_0)] [(3,.pure (seen3_0.map AV.int)),(5,.pure (GCell.cs (vrd d0 t9_0.toNat)))] Y ?_)))))
    refine AW2_seq (sg [0,1,2] Y (rf Y U25 Y in_4 Y Y (GCell.len (vrd d0 t9_0.toNat)) (rp Y (u_ld Y Y U4 Y Y (GCell.sub0 (vrd d0 t9_0.toNat))) (rp Y (p_not Y Y) (rz [(3,_),(5,_),(8,_),(9,_),(14,.b (!((vrd d0 t9_0.toNat).Full)))] [(3,_),(5,_)] Y (AW2_cond Y (fun h4=>?_) (fun h4=>?_)))))))
    ·replace H:=ite_then h4 H
     refine as2 [(3,.c (.own 3 seen3_0.length 1)),(8,.g (d0.toList.flatMap GCell.cs)),(9,.i t9_0)] [(3,.pure (seen3_0.map AV.int))] Y (AW2_exit (thenQ2_exit (blockQ2_exit ?_)))
     have z:=se H; subst z
     exact ⟨Y,Y⟩
    replace H:=ite_else (ne_true h4) H
    refine as2 [(3,.c (.own 3 seen3_0.length 1)),(5,.q 5 (0)),(8,.g (d0.toList.flatMap GCell.cs)),(9,.i t9_0)] [(3,.pure (seen3_0.map AV.int)),(5,.pure (GCell.cs (vrd d0 t9_0.toNat)))] Y (AW2_skip (AW2_seq (sg [0,1,2] Y (rm Y (rp Y (p_leno Y U76 Y Y Y (ml AV.int seen3_0) (by decide)) (rm Y ?_))))))
    refine rz [(3,_),(5,_),(8,_),(9,_),(15,.c (.own 3 seen3_0.length 1)),(16,.i (seen3_0.length:Int)),(17,.i (0:Int))] [(3,_),(5,_)] Y (AW2_block (as2 [(3,_),(5,_),(8,_),(9,_),(15,_),(16,_),(17,_)] [(3,_),(5,_)] Y (bindK H fun o'5 h9 H=>AW2_loopO (fun a'2:Int=>(⟨[(3,.c (.own 3 seen3_0.length 1)),(5,.q 5 (0)),(8,.g (d0.toList.flatMap GCell.cs)),(9,.i t9_0),(15,.c (.own 3 seen3_0.length 1)),(16,.i (seen3_0.length:Int)),(17,.i a'2)],[(3,.pure (seen3_0.map AV.int)),(5,.pure (GCell.cs (vrd d0 t9_0.toNat)))],38⟩:TS)) (fun (o:Int⊕Unit) e s'=>match o with | .inl y'3=>e=Go.Exit.ret∧ResAll Tryz.prog s' [ResultVar.tmp 2] [.i y'3]∧HFits s' [] | .inr (y'4)=>e=Go.Exit.exit 2∧s'=(⟨[(3,.c (.own 3 seen3_0.length 1)),(5,.q 5 (0)),(8,.g (d0.toList.flatMap GCell.cs)),(9,.i t9_0)],[(3,.pure (seen3_0.map AV.int)),(5,.pure (GCell.cs (vrd d0 t9_0.toNat)))],38⟩:TS)) h9 Y (fun t17_1 x hx=>?_) (fun e s' hs=>?_))))
    ·clear H
     have H:=hx
     clear hx
     unfold g_ref_keysFault_l1 at H
     refine sg [0] Y (rp Y (p_bin Y Y Y Y) (rz [(3,.c (.own 3 seen3_0.length 1)),(5,.q 5 (0)),(8,.g (d0.toList.flatMap GCell.cs)),(9,.i t9_0),(15,.c (.own 3 seen3_0.length 1)),(16,.i (seen3_0.length:Int)),(17,.i t17_1),(18,.b (decide (t17_1 < (seen3_0.length:Int))))] [(3,.pure (seen3_0.map AV.int)),(5,.pure (GCell.cs (vrd d0 t9_0.toNat)))] Y (AW2_seq (if2 H Y (fun h5 H=>?_) (fun h5 H=>?_)))))
     ·refine as2 [(3,_),(5,_),(8,_),(9,_),(15,_),(16,_),(17,_)] [(3,_),(5,_)] Y (AW2_skip (AW2_seq (AW2_block (sg [0,1,2] Y (chkK H fun h6 H=>rp Y (u_ixo Y Y U76 in_3 Y Y (lne (ixn h6)) Y (ixe h6) (ixn h6)) ?_)))))
      refine rp Y (u_ld Y Y U3 Y Y ((Sub.refl _).trans (Sub.map default (ixn h6)))) (ra Y (rz [(3,_),(5,_),(7,.i (lrd seen3_0 t17_1.toNat)),(8,_),(9,_),(15,_),(16,_),(17,_)] [(3,_),(5,_)] Y (sg [0,1,2,3,4,5,6] Y (rm Y (rf Y U25 Y in_23 Y Y (GCell.len (vrd d0 t9_0.toNat)) (rp Y (u_ld Y Y U23 Y Y (GCell.sub1 (vrd d0 t9_0.toNat))) ?_))))))
      refine chkK H fun h7 H=>rp Y (u_ixl Y Y U23 in_32 Y Y Y h7 (fne (fun x=>(GValue.len x)) (by decide) h7)) (rp Y (u_far Y Y U32 Y in_3 nz Y) (rp Y (u_ld Y Y U3 Y Y ((Sub.fm default (fun x=>(GValue.len x)) h7).trans (GValue.sub1 (lrd ((vrd d0 t9_0.toNat).Row) 0)))) (rp Y (p_ieq Y Y Y) (rz [(3,_),(5,_),(8,_),(9,_),(15,_),(16,_),(17,_),(27,.b (decide ((lrd seen3_0 t17_1.toNat)=(lrd ((vrd d0 t9_0.toNat).Row) 0).Int_)))] [(3,_),(5,_)] Y (if2 H Y (fun h8 H=>?_) (fun h8 H=>?_))))))
      ·refine sg [0] Y (ra Y (rz [(2,.i (8:Int))] [] Y (AW2_ret ?_)))
       have z:=se H; subst z
       exact ⟨Y,⟨rt,trivial⟩,trivial⟩
      refine as2 [(3,_),(5,_),(8,_),(9,_),(15,_),(16,_),(17,_)] [(3,_),(5,_)] Y (AW2_skip (AW2_reg [0,1] Y (rp Y (p_bin Y Y Y Y) (rm Y (rz [(3,_),(5,_),(8,_),(9,_),(15,_),(16,_),(17,.i (w64 (t17_1+(1:Int))))] [(3,_),(5,_)] Y ?_)))))
      have z:=se H; subst z
      exact ⟨Y,Y⟩
     refine as2 [(3,_),(5,_),(8,_),(9,_)] [(3,_),(5,_)] Y (AW2_exit (thenQ2_exit ?_))
     have z:=se H; subst z
     exact ⟨Y,Y⟩
    rcases o'5 with y'6 | y'7
    ·obtain ⟨rfl,hs⟩:=hs
     refine ⟨by simp,?_⟩
     have z:=se H; subst z
     exact ⟨Y,hs.1,hs.2⟩
    obtain ⟨rfl,rfl⟩:=hs
    refine ⟨by simp,?_⟩
    refine blockQ2_exit (AW2_reg [0,1,2,3,4,5,6,7,8] Y (rm Y (rf Y U25 Y in_23 Y Y (GCell.len (vrd d0 t9_0.toNat)) (rp Y (u_ld Y Y U23 Y Y (GCell.sub1 (vrd d0 t9_0.toNat))) (chkK H fun h10 H=>rp Y (u_ixl Y Y U23 in_32 Y Y Y h10 (fne (fun x=>(GValue.len x)) (by decide) h10)) ?_)))))
    refine rp Y (u_far Y Y U32 Y in_3 nz Y) (rp Y (u_ld Y Y U3 Y Y ((Sub.fm default (fun x=>(GValue.len x)) h10).trans (GValue.sub1 (lrd ((vrd d0 t9_0.toNat).Row) 0)))) (rq Y (MakeD.opD (u_bs 35 Y U76 in_3 Y one_3 (by decide) (by decide) Y Y Y) Y Y Y Y) (chkK H fun h11 H=>rq Y (u_app [3,29] Y Y Y Y U76 U76 in_3 Y Y Y (ml AV.int seen3_0) (by decide) (srcT_o Y Y (ml AV.int ([(lrd ((vrd d0 t9_0.toNat).Row) 0).Int_]:List Int)) (by decide)) (ml AV.int ([(lrd ((vrd d0 t9_0.toNat).Row) 0).Int_]:List Int)) h11 (by decide) Y Y (mapp AV.int seen3_0 ([(lrd ((vrd d0 t9_0.toNat).Row) 0).Int_]:List Int)) (lapp seen3_0 ([(lrd ((vrd d0 t9_0.toNat).Row) 0).Int_]:List Int))) (ra Y (rz [(3,.c (.own 3 (seen3_0++([(lrd ((vrd d0 t9_0.toNat).Row) 0).Int_]:List Int)).length 1)),(8,.g (d0.toList.flatMap GCell.cs)),(9,.i t9_0)] [(3,.pure ((seen3_0++([(lrd ((vrd d0 t9_0.toNat).Row) 0).Int_]:List Int)).map AV.int))] Y ?_)))))
    have z:=se H; subst z
    exact ⟨Y,Y⟩
   ·subst hy
    refine AW2_reg [0,1] Y (rp Y (p_bin Y Y Y Y) (rm Y (rz [(3,.c (.own 3 j'1.length 1)),(8,.g (d0.toList.flatMap GCell.cs)),(9,.i (w64 (t9_0+(1:Int))))] [(3,.pure (j'1.map AV.int))] Y ?_)))
    have z:=se H; subst z
    exact ⟨Y,Y⟩
   subst hy
   obtain ⟨rfl,hs⟩:=hs
   have z:=se H; subst z
   exact ⟨Y,hs.1,hs.2⟩
  refine as2 [] [] Y (AW2_exit (thenQ2_exit ?_))
  have z:=se H; subst z
  exact ⟨Y,Y⟩
 rcases o'13 with y'14 | y'15
 ·obtain ⟨rfl,hs⟩:=hs
  refine ⟨by simp,?_⟩
  have z:=se H; subst z
  exact ⟨hs.1,hs.2⟩
 obtain ⟨rfl,rfl⟩:=hs
 refine ⟨by simp,?_⟩
 refine blockQ2_exit (sg [0] Y (ra Y (rz [(2,.i (0:Int))] [] Y (AW2_ret ?_))))
 have z:=se H; subst z
 exact ⟨⟨rt,trivial⟩,trivial⟩
noncomputable def g_ref_TableFault_l1 (t0:GTable) (t52_0:Int):Int→Option (Int⊕(Int⊕Unit))
  | t56_1=>(if t56_1 < (4:Int) then (show Option (Int⊕Unit) from if 0≤t56_1∧t56_1 < (4:Int) then (if ((vrd (vrd t0.Drawers t52_0.toNat) t56_1.toNat).Full)=true then (g_ref_RowFault ((vrd (vrd t0.Drawers t52_0.toNat) t56_1.toNat).Row) t0.Cols).bind fun r'5=>(if r'5≠(0:Int) then some (.inl r'5) else some (.inr ())) else (if (((vrd (vrd t0.Drawers t52_0.toNat) t56_1.toNat).Row).length:Int)≠(0:Int) then some (.inl (3:Int)) else some (.inr ()))) else none).bind fun o'7=>match o'7 with | .inl y'6=>some (.inr (.inl y'6)) | .inr j'4=>some (.inl (w64 (t56_1+(1:Int)))) else some (.inr (.inr ())))
noncomputable def g_ref_TableFault_l0 (t0:GTable):Int→Option (Int⊕(Int⊕Unit))
  | t52_0=>(if t52_0 < (2:Int) then if 0≤t52_0∧t52_0 < (2:Int) then (loopO (g_ref_TableFault_l1 t0 t52_0) (0:Int)).bind fun o'11=>match o'11 with | .inl y'12=>some (.inr (.inl y'12)) | .inr (y'13)=>(g_ref_keysFault (vrd t0.Drawers t52_0.toNat)).bind fun r'14=>(if r'14≠(0:Int) then some (.inr (.inl r'14)) else some (.inl (w64 (t52_0+(1:Int))))) else none else some (.inr (.inr ())))
noncomputable def g_ref_TableFault (t0:GTable):Option (Int) :=
  (if (!t0.There)=true then some (5:Int) else (g_ref_isName t0.Name).bind fun r'1=>(if ((!r'1)=true)∨((t0.Name.length:Int) > (8:Int)) then some (3:Int) else (g_ref_ColumnsFault t0.Cols).bind fun r'2=>(if r'2≠(0:Int) then some r'2 else ((if (t0.Cols.length:Int)=(0:Int) then some true else if 0 < t0.Cols.length then (if (lrd t0.Cols 0).Kind≠(2:Int) then some true else if 0 < t0.Cols.length then some ((lrd t0.Cols 0).Null) else none) else none)).bind fun g'3=>(if g'3=true then some (3:Int) else (loopO (g_ref_TableFault_l0 t0) (0:Int)).bind fun o'18=>match o'18 with | .inl y'19=>some y'19 | .inr (y'20)=>some (0:Int)))))
set_option maxHeartbeats 4000000 in
set_option maxRecDepth 100000 in
theorem g_ref_TableFault_ac {t0:GTable} {r:Int} (H:g_ref_TableFault t0=some r):ACp Tryz.prog 32 [(.agg (GTable.cs t0))] (AV.int r):=by
 refine ACp_of (AC2_of_body (vs:=[.i r]) Tryz.func32 Y Y (lb Y) Y ?_) (fun _=>.same _)
 unfold g_ref_TableFault at H
 refine as2 [(0,.g (GTable.cs t0))] [] Y (sg [0,1] Y (rq Y (MakeD.opD (n_box 1 Y Y) Y Y Y Y) (ra Y (rz [(1,.q 1 (0))] [(1,.pure (GTable.cs t0))] Y (AW2_seq (AW2_block ?_))))))
 refine sg [0,1,2,3] Y (rf Y U29 Y in_4 Y Y (GTable.len t0) (rp Y (u_ld Y Y U4 Y Y (GTable.sub0 t0)) (rp Y (p_not Y Y) (ra Y (rz [(1,_),(10,.b (!t0.There))] [(1,_)] Y (AW2_cond Y (fun h1=>?_) (fun h1=>?_)))))))
 ·replace H:=ite_then h1 H
  refine sg [0] Y (ra Y (rz [(2,.i (5:Int))] [] Y (AW2_ret ?_)))
  have z:=se H; subst z
  exact ⟨⟨rt,trivial⟩,trivial⟩
 replace H:=ite_else (ne_true h1) H
 refine AW2_seq (bindK H fun r'1 h2 H=>AW2_mid (⟨[(1,.q 1 (0)),(14,.b (decide (((!r'1)=true)∨((t0.Name.length:Int) > (8:Int)))))],[(1,.pure (GTable.cs t0))],80⟩:TS) ?_ ?_)
 ·refine AW2_reg [0,1,2,3,4,5,6,7,8,9,10] Y (rf Y U29 Y in_9 Y Y (GTable.len t0) (rp Y (u_ld Y Y U9 Y Y (GTable.sub1 t0)) (rp Y (p_callp Y Y Y Tryz.func46 Y Y (g_ref_isName_ac h2) ⟨Y,trivial⟩) (rp Y (p_not Y Y) (rm Y ?_)))))
  refine (Classical.em ((!r'1)=true)).elim (fun h3=>?_) (fun h3=>?_)
  ·exact rO Y h3 Y (rO Y h3 Y (rO Y h3 Y (rO Y h3 Y (rp Y (p_pkt Y Y h3 (tb (dT (p:=((!r'1)=true)∨((t0.Name.length:Int) > (8:Int))) (Or.inl h3)).symm)) (ra Y (rend Y Y))))))
  exact rn Y (bfalse h3) Y (u_fa Y Y U29 Y in_9 nz Y Y (nl (GTable.len t0))) (rn Y (bfalse h3) Y (u_ld Y Y U9 Y Y (GTable.sub1 t0)) (rn Y (bfalse h3) Y (p_lent Y U9 Y) (rn Y (bfalse h3) Y (p_bin Y Y Y Y) (rp Y (p_pkf Y Y (bfalse h3) (tb ((or_l (p:=(!r'1)=true) (q:=(t0.Name.length:Int) > (8:Int)) h3)))) (ra Y (rend Y Y))))))
 refine if2 H Y (fun h4 H=>?_) (fun h4 H=>?_)
 ·refine sg [0] Y (ra Y (rz [(2,.i (3:Int))] [] Y (AW2_ret ?_)))
  have z:=se H; subst z
  exact ⟨⟨rt,trivial⟩,trivial⟩
 refine as2 [(1,_)] [(1,_)] Y (AW2_skip (AW2_seq (sg [0,1,2,3] Y (rf Y U29 Y in_22 Y Y (GTable.len t0) (rp Y (u_ld Y Y U22 Y Y (GTable.sub2 t0)) (bindK H fun r'2 h5 H=>?_))))))
 refine rp Y (p_callp Y Y Y Tryz.func34 Y Y (g_ref_ColumnsFault_ac h5) ⟨Y,trivial⟩) (ra Y (rz [(1,_),(3,.i r'2)] [(1,_)] Y (sg [0,1] Y (rm Y (rp Y (p_ine Y Y Y) (rz [(1,_),(3,_),(29,.b (decide (r'2≠(0:Int))))] [(1,_)] Y ?_))))))
 refine if2 H Y (fun h6 H=>?_) (fun h6 H=>?_)
 ·refine sg [0,1] Y (rm Y (ra Y (rz [(2,.i r'2)] [] Y (AW2_ret ?_))))
  have z:=se H; subst z
  exact ⟨⟨rt,trivial⟩,trivial⟩
 refine as2 [(1,_)] [(1,_)] Y (AW2_skip (AW2_seq (AW2_seq (bindK H fun g'3 h12 H=>AW2_mid (⟨[(1,.q 1 (0)),(49,.b g'3)],[(1,.pure (GTable.cs t0))],80⟩:TS) ?_ ?_))))
 ·clear H
  have H:=h12
  clear h12
  refine AW2_reg [0,1,2,3,4,5,6,7,8,9,10,11,12,13,14,15,16,17,18] Y (rf Y U29 Y in_22 Y Y (GTable.len t0) (rp Y (u_ld Y Y U22 Y Y (GTable.sub2 t0)) (rp Y (p_lenl Y U22 Y Y) (rp Y (p_ieq Y Y Y) (rm Y (em2 H (fun h8 H=>?_) (fun h8 H=>?_)))))))
  ·refine rO Y (dT h8) Y (rO Y (dT h8) Y (rO Y (dT h8) Y (rO Y (dT h8) Y (rO Y (dT h8) Y (rO Y (dT h8) Y (rp Y (p_pkt Y Y (dT h8) (.same _)) ?_))))))
   refine rm Y (rO Y Y Y (rO Y Y Y (rO Y Y Y (rO Y Y Y (rO Y Y Y (rp Y (p_pkt Y Y Y (.same _)) ?_))))))
   refine rs [(1,.q 1 (0)),(49,.b true)] [(1,.pure (GTable.cs t0))] Y ?_
   have z:=se H; subst z
   exact RunW_nil rfl
  refine rn Y (dF h8) Y (u_fa Y Y U29 Y in_22 nz Y Y (nl (GTable.len t0))) (rn Y (dF h8) Y (u_ld Y Y U22 Y Y (GTable.sub2 t0)) (chkK H fun h9 H=>rn Y (dF h8) Y (u_ixl Y Y U22 in_63 Y Y Y h9 (fne (fun x=>(GColumn.len x)) (by decide) h9)) (rn Y (dF h8) Y (u_far Y Y U63 Y in_3 nz Y) (rn Y (dF h8) Y (u_ld Y Y U3 Y Y ((Sub.fm default (fun x=>(GColumn.len x)) h9).trans (GColumn.sub1 (lrd t0.Cols 0)))) (rn Y (dF h8) Y (p_ine Y Y Y) ?_)))))
  refine rp Y (p_pkf Y Y (dF h8) (.same _)) (rm Y (em2 H (fun h10 H=>?_) (fun h10 H=>?_)))
  ·refine rO Y (dT h10) Y (rO Y (dT h10) Y (rO Y (dT h10) Y (rO Y (dT h10) Y (rO Y (dT h10) Y (rp Y (p_pkt Y Y (dT h10) (.same _)) (rs [(1,.q 1 (0)),(49,.b true)] [(1,.pure (GTable.cs t0))] Y ?_))))))
   have z:=se H; subst z
   exact RunW_nil rfl
  refine rn Y (dF h10) Y (u_fa Y Y U29 Y in_22 nz Y Y (nl (GTable.len t0))) (rn Y (dF h10) Y (u_ld Y Y U22 Y Y (GTable.sub2 t0)) (chkK H fun h11 H=>rn Y (dF h10) Y (u_ixl Y Y U22 in_63 Y Y Y h11 (fne (fun x=>(GColumn.len x)) (by decide) h11)) (rn Y (dF h10) Y (u_far Y Y U63 Y in_4 nz Y) (rn Y (dF h10) Y (u_ld Y Y U4 Y Y ((Sub.fm default (fun x=>(GColumn.len x)) h11).trans (GColumn.sub2 (lrd t0.Cols 0)))) (rp Y (p_pkf Y Y (dF h10) (.same _)) ?_)))))
  refine rs [(1,.q 1 (0)),(49,.b ((lrd t0.Cols 0).Null))] [(1,.pure (GTable.cs t0))] Y ?_
  have z:=se H; subst z
  exact RunW_nil rfl
 refine AW2_cond Y (fun h13=>?_) (fun h13=>?_)
 ·replace H:=ite_then h13 H
  refine sg [0] Y (ra Y (rz [(2,.i (3:Int))] [] Y (AW2_ret ?_)))
  have z:=se H; subst z
  exact ⟨⟨rt,trivial⟩,trivial⟩
 replace H:=ite_else (ne_true h13) H
 refine as2 [(1,.q 1 (0))] [(1,.pure (GTable.cs t0))] Y (AW2_skip (AW2_seq (sg [0,1,2] Y (rf Y U29 Y in_27 Y Y (GTable.len t0) (rp Y (u_lda Y Y U27 Y in_27 Y np (GTable.sub3 t0) (vfm_len (fun x=>(vfm_len (fun x=>(GCell.len x)) x)) t0.Drawers)) (rm Y ?_))))))
 refine rz [(1,_),(51,.g (t0.Drawers.toList.flatMap (fun v:Vector GCell 4=>v.toList.flatMap GCell.cs))),(52,.i (0:Int))] [(1,_)] Y (AW2_block (as2 [(1,_),(51,_),(52,_)] [(1,_)] Y (bindK H fun o'18 h26 H=>AW2_loopO (fun a'15:Int=>(⟨[(1,.q 1 (0)),(51,.g (t0.Drawers.toList.flatMap (fun v:Vector GCell 4=>v.toList.flatMap GCell.cs))),(52,.i a'15)],[(1,.pure (GTable.cs t0))],80⟩:TS)) (fun (o:Int⊕Unit) e s'=>match o with | .inl y'16=>e=Go.Exit.ret∧ResAll Tryz.prog s' [ResultVar.tmp 2] [.i y'16]∧HFits s' [] | .inr (y'17)=>e=Go.Exit.exit 1∧s'=(⟨[],[],80⟩:TS)) h26 Y (fun t52_0 x hx=>?_) (fun e s' hs=>?_))))
 ·clear H
  have H:=hx
  clear hx
  unfold g_ref_TableFault_l0 at H
  refine sg [0] Y (rp Y (p_bin Y Y Y Y) (rz [(1,.q 1 (0)),(51,.g (t0.Drawers.toList.flatMap (fun v:Vector GCell 4=>v.toList.flatMap GCell.cs))),(52,.i t52_0),(53,.b (decide (t52_0 < (2:Int))))] [(1,.pure (GTable.cs t0))] Y (AW2_seq (if2 H Y (fun h14 H=>?_) (fun h14 H=>?_)))))
  ·refine as2 [(1,_),(51,_),(52,_)] [(1,_)] Y (AW2_skip (AW2_seq (AW2_block (sg [0,1,2] Y (chkK H fun h15 H=>rp Y (u_ixaa Y Y U27 in_26 U26 Y Y Y (ixe h15) (ixn h15) (Sub.vfm (fun x=>(vfm_len (fun x=>(GCell.len x)) x)) (ixn h15)) (vfm_len (fun x=>(GCell.len x)) (vrd t0.Drawers t52_0.toNat))) ?_)))))
   refine rq Y (MakeD.opD (u_alloc 5 Y in_26 one_26 zc_26) Y Y Y Y) (rq Y (u_sw Y Y Y Y Y in_26 (vfm_len (fun x=>(GCell.len x)) (vrd t0.Drawers t52_0.toNat)) (vfm_len (fun x=>(GCell.len x)) (Vector.replicate 4 GCell.zero)) Y) (rz [(1,_),(5,.q 5 (0)),(51,_),(52,_)] [(1,.pure (GTable.cs t0)),(5,.pure (((vrd t0.Drawers t52_0.toNat).toList).flatMap GCell.cs))] Y (AW2_seq (sg [0,1] Y (rp Y (u_lda Y Y U26 Y in_26 Y np (Sub.refl _) (vfm_len (fun x=>(GCell.len x)) (vrd t0.Drawers t52_0.toNat))) (rm Y ?_))))))
   refine rz [(1,_),(5,_),(51,_),(52,_),(55,.g (((vrd t0.Drawers t52_0.toNat).toList).flatMap GCell.cs)),(56,.i (0:Int))] [(1,_),(5,_)] Y (AW2_block (as2 [(1,_),(5,_),(51,_),(52,_),(55,_),(56,_)] [(1,_),(5,_)] Y (bindK H fun o'11 h23 H=>AW2_loopO (fun a'8:Int=>(⟨[(1,.q 1 (0)),(5,.q 5 (0)),(51,.g (t0.Drawers.toList.flatMap (fun v:Vector GCell 4=>v.toList.flatMap GCell.cs))),(52,.i t52_0),(55,.g (((vrd t0.Drawers t52_0.toNat).toList).flatMap GCell.cs)),(56,.i a'8)],[(1,.pure (GTable.cs t0)),(5,.pure (((vrd t0.Drawers t52_0.toNat).toList).flatMap GCell.cs))],80⟩:TS)) (fun (o:Int⊕Unit) e s'=>match o with | .inl y'9=>e=Go.Exit.ret∧ResAll Tryz.prog s' [ResultVar.tmp 2] [.i y'9]∧HFits s' [] | .inr (y'10)=>e=Go.Exit.exit 3∧s'=(⟨[(1,.q 1 (0)),(5,.q 5 (0)),(51,.g (t0.Drawers.toList.flatMap (fun v:Vector GCell 4=>v.toList.flatMap GCell.cs))),(52,.i t52_0)],[(1,.pure (GTable.cs t0)),(5,.pure (((vrd t0.Drawers t52_0.toNat).toList).flatMap GCell.cs))],80⟩:TS)) h23 Y (fun t56_1 x hx=>?_) (fun e s' hs=>?_))))
   ·clear H
    have H:=hx
    clear hx
    unfold g_ref_TableFault_l1 at H
    refine sg [0] Y (rp Y (p_bin Y Y Y Y) (rz [(1,.q 1 (0)),(5,.q 5 (0)),(51,.g (t0.Drawers.toList.flatMap (fun v:Vector GCell 4=>v.toList.flatMap GCell.cs))),(52,.i t52_0),(55,.g (((vrd t0.Drawers t52_0.toNat).toList).flatMap GCell.cs)),(56,.i t56_1),(57,.b (decide (t56_1 < (4:Int))))] [(1,.pure (GTable.cs t0)),(5,.pure (((vrd t0.Drawers t52_0.toNat).toList).flatMap GCell.cs))] Y (AW2_seq (if2 H Y (fun h16 H=>?_) (fun h16 H=>?_)))))
    ·refine as2 [(1,_),(5,_),(51,_),(52,_),(55,_),(56,_)] [(1,_),(5,_)] Y (AW2_skip (AW2_seq (bindK H fun o'7 h17 H=>AW2_join (fun j'4:Unit=>(⟨[(1,.q 1 (0)),(5,.q 5 (0)),(51,.g (t0.Drawers.toList.flatMap (fun v:Vector GCell 4=>v.toList.flatMap GCell.cs))),(52,.i t52_0),(55,.g (((vrd t0.Drawers t52_0.toNat).toList).flatMap GCell.cs)),(56,.i t56_1)],[(1,.pure (GTable.cs t0)),(5,.pure (((vrd t0.Drawers t52_0.toNat).toList).flatMap GCell.cs))],80⟩:TS)) (fun r e s'=>e=Go.Exit.ret∧ResAll Tryz.prog s' [ResultVar.tmp 2] [.i r]∧HFits s' []) (x:=o'7) ?_ (fun j'4 hy=>?_) (fun y'6 e s' hy hs=>?_))))
     ·clear H
      have H:=h17
      clear h17
      refine AW2_block (sg [0,1,2] Y (chkK H fun h18 H=>rp Y (u_ixaa Y Y U26 in_25 U25 Y Y Y (ixe h18) (ixn h18) (Sub.vfm (fun x=>(GCell.len x)) (ixn h18)) (GCell.len (vrd (vrd t0.Drawers t52_0.toNat) t56_1.toNat))) (rq Y (MakeD.opD (u_alloc 7 Y in_25 one_25 zc_25) Y Y Y Y) (rq Y (u_sw Y Y Y Y Y in_25 (GCell.len (vrd (vrd t0.Drawers t52_0.toNat) t56_1.toNat)) (GCell.len GCell.zero) Y) (rz [(1,.q 1 (0)),(5,.q 5 (0)),(7,.q 7 (0)),(51,.g (t0.Drawers.toList.flatMap (fun v:Vector GCell 4=>v.toList.flatMap GCell.cs))),(52,.i t52_0),(55,.g (((vrd t0.Drawers t52_0.toNat).toList).flatMap GCell.cs)),(56,.i t56_1)] [(1,.pure (GTable.cs t0)),(5,.pure (((vrd t0.Drawers t52_0.toNat).toList).flatMap GCell.cs)),(7,.pure (GCell.cs (vrd (vrd t0.Drawers t52_0.toNat) t56_1.toNat)))] Y ?_)))))
      refine sg [0,1] Y (rf Y U25 Y in_4 Y Y (GCell.len (vrd (vrd t0.Drawers t52_0.toNat) t56_1.toNat)) (rp Y (u_ld Y Y U4 Y Y (GCell.sub0 (vrd (vrd t0.Drawers t52_0.toNat) t56_1.toNat))) (rz [(1,_),(5,_),(7,_),(51,_),(52,_),(55,_),(56,_),(60,.b ((vrd (vrd t0.Drawers t52_0.toNat) t56_1.toNat).Full))] [(1,_),(5,_),(7,_)] Y (AW2_cond Y (fun h19=>?_) (fun h19=>?_)))))
      ·replace H:=ite_then h19 H
       refine sg [0,1,2,3,4,5] Y (rf Y U25 Y in_23 Y Y (GCell.len (vrd (vrd t0.Drawers t52_0.toNat) t56_1.toNat)) (rp Y (u_ld Y Y U23 Y Y (GCell.sub1 (vrd (vrd t0.Drawers t52_0.toNat) t56_1.toNat))) (rf Y U29 Y in_22 Y Y (GTable.len t0) (rp Y (u_ld Y Y U22 Y Y (GTable.sub2 t0)) (bindK H fun r'5 h20 H=>rp Y (p_callp Y Y Y Tryz.func36 Y Y (g_ref_RowFault_ac h20) ⟨Y,Y,trivial⟩) ?_)))))
       refine ra Y (rz [(1,.q 1 (0)),(5,.q 5 (0)),(8,.i r'5),(51,.g (t0.Drawers.toList.flatMap (fun v:Vector GCell 4=>v.toList.flatMap GCell.cs))),(52,.i t52_0),(55,.g (((vrd t0.Drawers t52_0.toNat).toList).flatMap GCell.cs)),(56,.i t56_1)] [(1,.pure (GTable.cs t0)),(5,.pure (((vrd t0.Drawers t52_0.toNat).toList).flatMap GCell.cs))] Y (sg [0,1] Y (rm Y (rp Y (p_ine Y Y Y) (rz [(1,_),(5,_),(8,_),(51,_),(52,_),(55,_),(56,_),(67,.b (decide (r'5≠(0:Int))))] [(1,_),(5,_)] Y (if2 H Y (fun h21 H=>?_) (fun h21 H=>?_)))))))
       ·refine sg [0,1] Y (rm Y (ra Y (rz [(2,.i r'5)] [] Y (AW2_ret ?_))))
        have z:=se H; subst z
        exact ⟨Y,⟨rt,trivial⟩,trivial⟩
       refine as2 [(1,_),(5,_),(51,_),(52,_),(55,_),(56,_)] [(1,_),(5,_)] Y (AW2_skip ?_)
       have z:=se H; subst z
       exact ⟨Y,Y⟩
      replace H:=ite_else (ne_true h19) H
      refine sg [0,1,2,3] Y (rf Y U25 Y in_23 Y Y (GCell.len (vrd (vrd t0.Drawers t52_0.toNat) t56_1.toNat)) (rp Y (u_ld Y Y U23 Y Y (GCell.sub1 (vrd (vrd t0.Drawers t52_0.toNat) t56_1.toNat))) (rp Y (p_lenl Y U23 Y Y) (rp Y (p_ine Y Y Y) (rz [(1,.q 1 (0)),(5,.q 5 (0)),(51,.g (t0.Drawers.toList.flatMap (fun v:Vector GCell 4=>v.toList.flatMap GCell.cs))),(52,.i t52_0),(55,.g (((vrd t0.Drawers t52_0.toNat).toList).flatMap GCell.cs)),(56,.i t56_1),(72,.b (decide ((((vrd (vrd t0.Drawers t52_0.toNat) t56_1.toNat).Row).length:Int)≠(0:Int))))] [(1,.pure (GTable.cs t0)),(5,.pure (((vrd t0.Drawers t52_0.toNat).toList).flatMap GCell.cs))] Y (if2 H Y (fun h22 H=>?_) (fun h22 H=>?_)))))))
      ·refine sg [0] Y (ra Y (rz [(2,.i (3:Int))] [] Y (AW2_ret ?_)))
       have z:=se H; subst z
       exact ⟨Y,⟨rt,trivial⟩,trivial⟩
      refine as2 [(1,_),(5,_),(51,_),(52,_),(55,_),(56,_)] [(1,_),(5,_)] Y (AW2_skip ?_)
      have z:=se H; subst z
      exact ⟨Y,Y⟩
     ·subst hy
      refine AW2_reg [0,1] Y (rp Y (p_bin Y Y Y Y) (rm Y (rz [(1,.q 1 (0)),(5,.q 5 (0)),(51,.g (t0.Drawers.toList.flatMap (fun v:Vector GCell 4=>v.toList.flatMap GCell.cs))),(52,.i t52_0),(55,.g (((vrd t0.Drawers t52_0.toNat).toList).flatMap GCell.cs)),(56,.i (w64 (t56_1+(1:Int))))] [(1,.pure (GTable.cs t0)),(5,.pure (((vrd t0.Drawers t52_0.toNat).toList).flatMap GCell.cs))] Y ?_)))
      have z:=se H; subst z
      exact ⟨Y,Y⟩
     subst hy
     obtain ⟨rfl,hs⟩:=hs
     have z:=se H; subst z
     exact ⟨Y,hs.1,hs.2⟩
    refine as2 [(1,_),(5,_),(51,_),(52,_)] [(1,_),(5,_)] Y (AW2_exit (thenQ2_exit ?_))
    have z:=se H; subst z
    exact ⟨Y,Y⟩
   rcases o'11 with y'12 | y'13
   ·obtain ⟨rfl,hs⟩:=hs
    refine ⟨by simp,?_⟩
    have z:=se H; subst z
    exact ⟨Y,hs.1,hs.2⟩
   obtain ⟨rfl,rfl⟩:=hs
   refine ⟨by simp,?_⟩
   refine blockQ2_exit (sg [0,1,2] Y (rp Y (u_lda Y Y U26 Y in_26 Y np (Sub.refl _) (vfm_len (fun x=>(GCell.len x)) (vrd t0.Drawers t52_0.toNat))) (bindK H fun r'14 h24 H=>rp Y (p_callp Y Y Y Tryz.func24 Y Y (g_ref_keysFault_ac h24) ⟨Y,trivial⟩) (ra Y (rz [(1,.q 1 (0)),(9,.i r'14),(51,.g (t0.Drawers.toList.flatMap (fun v:Vector GCell 4=>v.toList.flatMap GCell.cs))),(52,.i t52_0)] [(1,.pure (GTable.cs t0))] Y ?_)))))
   refine sg [0,1] Y (rm Y (rp Y (p_ine Y Y Y) (rz [(1,_),(9,_),(51,_),(52,_),(77,.b (decide (r'14≠(0:Int))))] [(1,_)] Y (if2 H Y (fun h25 H=>?_) (fun h25 H=>?_)))))
   ·refine sg [0,1] Y (rm Y (ra Y (rz [(2,.i r'14)] [] Y (AW2_ret ?_))))
    have z:=se H; subst z
    exact ⟨Y,⟨rt,trivial⟩,trivial⟩
   refine as2 [(1,_),(51,_),(52,_)] [(1,_)] Y (AW2_skip (AW2_reg [0,1] Y (rp Y (p_bin Y Y Y Y) (rm Y (rz [(1,_),(51,_),(52,.i (w64 (t52_0+(1:Int))))] [(1,_)] Y ?_)))))
   have z:=se H; subst z
   exact ⟨Y,Y⟩
  refine as2 [] [] Y (AW2_exit (thenQ2_exit ?_))
  have z:=se H; subst z
  exact ⟨Y,Y⟩
 rcases o'18 with y'19 | y'20
 ·obtain ⟨rfl,hs⟩:=hs
  refine ⟨by simp,?_⟩
  have z:=se H; subst z
  exact ⟨hs.1,hs.2⟩
 obtain ⟨rfl,rfl⟩:=hs
 refine ⟨by simp,?_⟩
 refine blockQ2_exit (sg [0] Y (ra Y (rz [(2,.i (0:Int))] [] Y (AW2_ret ?_))))
 have z:=se H; subst z
 exact ⟨⟨rt,trivial⟩,trivial⟩
noncomputable def g_ref_ready (t0:GTable) (drawer1:Int):Option (Int) :=
  (g_ref_TableFault t0).bind fun r'1=>(if r'1≠(0:Int) then some r'1 else (if (drawer1≠(0:Int))∧(drawer1≠(1:Int)) then some (6:Int) else some (0:Int)))
set_option maxHeartbeats 4000000 in
set_option maxRecDepth 100000 in
theorem g_ref_ready_ac {t0:GTable} {drawer1:Int} {r:Int} (H:g_ref_ready t0 drawer1=some r):ACp Tryz.prog 13 [(.agg (GTable.cs t0)),(AV.int drawer1)] (AV.int r):=by
 refine ACp_of (AC2_of_body (vs:=[.i r]) Tryz.func13 Y Y (lb Y) Y ?_) (fun _=>.same _)
 unfold g_ref_ready at H
 refine as2 [(0,.g (GTable.cs t0)),(1,.i drawer1)] [] Y (sg [0,1] Y (rq Y (MakeD.opD (n_box 2 Y Y) Y Y Y Y) (ra Y (rz [(1,_),(2,.q 2 (0))] [(2,.pure (GTable.cs t0))] Y (AW2_seq (sg [0,1,2] Y ?_))))))
 refine rp Y (u_lda Y Y U29 Y in_29 Y np (Sub.refl _) (GTable.len t0)) (bindK H fun r'1 h1 H=>rp Y (p_callp Y Y Y Tryz.func32 Y Y (g_ref_TableFault_ac h1) ⟨Y,trivial⟩) (ra Y (rz [(1,_),(5,.i r'1)] [] Y (sg [0,1] Y (rm Y ?_)))))
 refine rp Y (p_ine Y Y Y) (rz [(1,_),(5,_),(9,.b (decide (r'1≠(0:Int))))] [] Y (if2 H Y (fun h2 H=>?_) (fun h2 H=>?_)))
 ·refine sg [0,1] Y (rm Y (ra Y (rz [(4,.i r'1)] [] Y (AW2_ret ?_))))
  have z:=se H; subst z
  exact ⟨⟨rt,trivial⟩,trivial⟩
 refine as2 [(1,_)] [] Y (AW2_skip (AW2_seq (AW2_seq (AW2_mid (⟨[(16,.b (decide ((drawer1≠(0:Int))∧(drawer1≠(1:Int)))))],[],17⟩:TS) ?_ ?_))))
 ·refine AW2_reg [0,1,2,3,4,5] Y (rm Y (rp Y (p_ine Y Y Y) (rm Y ?_)))
  refine (Classical.em (drawer1≠(0:Int))).elim (fun h3=>?_) (fun h3=>?_)
  ·exact rn Y (dT h3) Y (p_move Y Y) (rn Y (dT h3) Y (p_ine Y Y Y) (rp Y (p_pkt Y Y (dT h3) (tb ((and_l (p:=drawer1≠(0:Int)) (q:=drawer1≠(1:Int)) h3)))) (rend Y Y)))
  exact rO Y (dF h3) Y (rO Y (dF h3) Y (rp Y (p_pkf Y Y (dF h3) (tb (dF (p:=(drawer1≠(0:Int))∧(drawer1≠(1:Int))) (fun x=>h3 x.1)).symm)) (rend Y Y)))
 refine if2 H Y (fun h4 H=>?_) (fun h4 H=>?_)
 ·refine sg [0] Y (ra Y (rz [(4,.i (6:Int))] [] Y (AW2_ret ?_)))
  have z:=se H; subst z
  exact ⟨⟨rt,trivial⟩,trivial⟩
 refine as2 [] [] Y (AW2_skip (sg [0] Y (ra Y (rz [(4,.i (0:Int))] [] Y (AW2_ret ?_)))))
 have z:=se H; subst z
 exact ⟨⟨rt,trivial⟩,trivial⟩
noncomputable def g_ref_noExpr (e0:GExpr):Option (Bool) :=
  some (decide ((((e0.Op=(0:Int))∧(e0.Value=GValue.zero))∧(e0.Name=[]))∧((e0.Args.length:Int)=(0:Int))))
set_option maxHeartbeats 4000000 in
set_option maxRecDepth 100000 in
theorem g_ref_noExpr_ac {e0:GExpr} {r:Bool} (H:g_ref_noExpr e0=some r):ACp Tryz.prog 33 [(.agg (GExpr.cs e0))] (AV.bool r):=by
 refine ACp_of (AC2_of_body (vs:=[.b r]) Tryz.func33 Y Y (lb Y) Y ?_) (fun _=>.same _)
 unfold g_ref_noExpr at H
 refine as2 [(0,.g (GExpr.cs e0))] [] Y (sg [0,1] Y (rq Y (MakeD.opD (n_box 1 Y Y) Y Y Y Y) (ra Y (rz [(1,.q 1 (0))] [(1,.pure (GExpr.cs e0))] Y (AW2_seq (AW2_mid (⟨[(2,.b (decide ((((e0.Op=(0:Int))∧(e0.Value=GValue.zero))∧(e0.Name=[]))∧((e0.Args.length:Int)=(0:Int)))))],[],23⟩:TS) ?_ ?_))))))
 ·refine AW2_reg [0,1,2,3,4,5,6,7,8,9,10,11,12,13,14,15,16,17,18,19,20] Y (rf Y U35 Y in_3 Y Y (GExpr.len e0) (rp Y (u_ld Y Y U3 Y Y (GExpr.sub0 e0)) (rp Y (p_ieq Y Y Y) (rm Y ?_))))
  refine (Classical.em (e0.Op=(0:Int))).elim (fun h1=>?_) (fun h1=>?_)
  ·refine rn Y (dT h1) Y (u_fa Y Y U35 Y in_32 nz Y Y (nl (GExpr.len e0))) (rn Y (dT h1) Y (u_lda Y Y U32 Y in_32 Y np (GExpr.sub1 e0) (GValue.len e0.Value)) (rn Y (dT h1) Y (u_bld Y in_32 one_32 zc_32 pl_32 Y Y) (rn Y (dT h1) Y (p_eqa (a:=e0.Value) (b:=GValue.zero) Y eq_32 Y (by kernel_rfl) Y Y) (rp Y (p_pkt Y Y (dT h1) (tb ((and_l (p:=e0.Op=(0:Int)) (q:=e0.Value=GValue.zero) h1)))) (rm Y ?_)))))
   refine (Classical.em (e0.Value=GValue.zero)).elim (fun h2=>?_) (fun h2=>?_)
   ·refine rn Y (dT (p:=(e0.Op=(0:Int))∧(e0.Value=GValue.zero)) ⟨h1,h2⟩) Y (u_fa Y Y U35 Y in_9 nz Y Y (nl (GExpr.len e0))) (rn Y (dT (p:=(e0.Op=(0:Int))∧(e0.Value=GValue.zero)) ⟨h1,h2⟩) Y (u_ld Y Y U9 Y Y (GExpr.sub2 e0)) (rn Y (dT (p:=(e0.Op=(0:Int))∧(e0.Value=GValue.zero)) ⟨h1,h2⟩) Y (p_seq Y Y Y) (rp Y (p_pkt Y Y (dT (p:=(e0.Op=(0:Int))∧(e0.Value=GValue.zero)) ⟨h1,h2⟩) (tb ((and_l (p:=(e0.Op=(0:Int))∧(e0.Value=GValue.zero)) (q:=e0.Name=[]) ⟨h1,h2⟩)))) (rm Y ?_))))
    refine (Classical.em (e0.Name=[])).elim (fun h3=>?_) (fun h3=>?_)
    ·exact rn Y (dT (p:=((e0.Op=(0:Int))∧(e0.Value=GValue.zero))∧(e0.Name=[])) ⟨⟨h1,h2⟩,h3⟩) Y (u_fa Y Y U35 Y in_33 nz Y Y (nl (GExpr.len e0))) (rn Y (dT (p:=((e0.Op=(0:Int))∧(e0.Value=GValue.zero))∧(e0.Name=[])) ⟨⟨h1,h2⟩,h3⟩) Y (u_ld Y Y U33 Y Y (GExpr.sub3 e0)) (rn Y (dT (p:=((e0.Op=(0:Int))∧(e0.Value=GValue.zero))∧(e0.Name=[])) ⟨⟨h1,h2⟩,h3⟩) Y (p_lenl Y U33 Y Y) (rn Y (dT (p:=((e0.Op=(0:Int))∧(e0.Value=GValue.zero))∧(e0.Name=[])) ⟨⟨h1,h2⟩,h3⟩) Y (p_ieq Y Y Y) (rp Y (p_pkt Y Y (dT (p:=((e0.Op=(0:Int))∧(e0.Value=GValue.zero))∧(e0.Name=[])) ⟨⟨h1,h2⟩,h3⟩) (tb ((and_l (p:=((e0.Op=(0:Int))∧(e0.Value=GValue.zero))∧(e0.Name=[])) (q:=(e0.Args.length:Int)=(0:Int)) ⟨⟨h1,h2⟩,h3⟩)))) (ra Y (rend Y Y))))))
    exact rO Y (dF (p:=((e0.Op=(0:Int))∧(e0.Value=GValue.zero))∧(e0.Name=[])) (fun h=>h3 h.2)) Y (rO Y (dF (p:=((e0.Op=(0:Int))∧(e0.Value=GValue.zero))∧(e0.Name=[])) (fun h=>h3 h.2)) Y (rO Y (dF (p:=((e0.Op=(0:Int))∧(e0.Value=GValue.zero))∧(e0.Name=[])) (fun h=>h3 h.2)) Y (rO Y (dF (p:=((e0.Op=(0:Int))∧(e0.Value=GValue.zero))∧(e0.Name=[])) (fun h=>h3 h.2)) Y (rp Y (p_pkf Y Y (dF (p:=((e0.Op=(0:Int))∧(e0.Value=GValue.zero))∧(e0.Name=[])) (fun h=>h3 h.2)) (tb (dF (p:=(((e0.Op=(0:Int))∧(e0.Value=GValue.zero))∧(e0.Name=[]))∧((e0.Args.length:Int)=(0:Int))) (fun x=>(fun h=>h3 h.2) x.1)).symm)) (ra Y (rend Y Y))))))
   refine rO Y (dF (p:=(e0.Op=(0:Int))∧(e0.Value=GValue.zero)) (fun h=>h2 h.2)) Y (rO Y (dF (p:=(e0.Op=(0:Int))∧(e0.Value=GValue.zero)) (fun h=>h2 h.2)) Y (rO Y (dF (p:=(e0.Op=(0:Int))∧(e0.Value=GValue.zero)) (fun h=>h2 h.2)) Y (rp Y (p_pkf Y Y (dF (p:=(e0.Op=(0:Int))∧(e0.Value=GValue.zero)) (fun h=>h2 h.2)) (tb (dF (p:=((e0.Op=(0:Int))∧(e0.Value=GValue.zero))∧(e0.Name=[])) (fun x=>(fun h=>h2 h.2) x.1)).symm)) (rm Y (rO Y (dF (p:=((e0.Op=(0:Int))∧(e0.Value=GValue.zero))∧(e0.Name=[])) (fun h=>(fun h=>h2 h.2) h.1)) Y (rO Y (dF (p:=((e0.Op=(0:Int))∧(e0.Value=GValue.zero))∧(e0.Name=[])) (fun h=>(fun h=>h2 h.2) h.1)) Y ?_))))))
   exact rO Y (dF (p:=((e0.Op=(0:Int))∧(e0.Value=GValue.zero))∧(e0.Name=[])) (fun h=>(fun h=>h2 h.2) h.1)) Y (rO Y (dF (p:=((e0.Op=(0:Int))∧(e0.Value=GValue.zero))∧(e0.Name=[])) (fun h=>(fun h=>h2 h.2) h.1)) Y (rp Y (p_pkf Y Y (dF (p:=((e0.Op=(0:Int))∧(e0.Value=GValue.zero))∧(e0.Name=[])) (fun h=>(fun h=>h2 h.2) h.1)) (tb (dF (p:=(((e0.Op=(0:Int))∧(e0.Value=GValue.zero))∧(e0.Name=[]))∧((e0.Args.length:Int)=(0:Int))) (fun x=>(fun h=>(fun h=>h2 h.2) h.1) x.1)).symm)) (ra Y (rend Y Y))))
  refine rO Y (dF h1) Y (rO Y (dF h1) Y (rO Y (dF h1) Y (rO Y (dF h1) Y (rp Y (p_pkf Y Y (dF h1) (tb (dF (p:=(e0.Op=(0:Int))∧(e0.Value=GValue.zero)) (fun x=>h1 x.1)).symm)) (rm Y (rO Y (dF (p:=(e0.Op=(0:Int))∧(e0.Value=GValue.zero)) (fun h=>h1 h.1)) Y ?_))))))
  refine rO Y (dF (p:=(e0.Op=(0:Int))∧(e0.Value=GValue.zero)) (fun h=>h1 h.1)) Y (rO Y (dF (p:=(e0.Op=(0:Int))∧(e0.Value=GValue.zero)) (fun h=>h1 h.1)) Y (rp Y (p_pkf Y Y (dF (p:=(e0.Op=(0:Int))∧(e0.Value=GValue.zero)) (fun h=>h1 h.1)) (tb (dF (p:=((e0.Op=(0:Int))∧(e0.Value=GValue.zero))∧(e0.Name=[])) (fun x=>(fun h=>h1 h.1) x.1)).symm)) (rm Y (rO Y (dF (p:=((e0.Op=(0:Int))∧(e0.Value=GValue.zero))∧(e0.Name=[])) (fun h=>(fun h=>h1 h.1) h.1)) Y (rO Y (dF (p:=((e0.Op=(0:Int))∧(e0.Value=GValue.zero))∧(e0.Name=[])) (fun h=>(fun h=>h1 h.1) h.1)) Y (rO Y (dF (p:=((e0.Op=(0:Int))∧(e0.Value=GValue.zero))∧(e0.Name=[])) (fun h=>(fun h=>h1 h.1) h.1)) Y ?_))))))
  exact rO Y (dF (p:=((e0.Op=(0:Int))∧(e0.Value=GValue.zero))∧(e0.Name=[])) (fun h=>(fun h=>h1 h.1) h.1)) Y (rp Y (p_pkf Y Y (dF (p:=((e0.Op=(0:Int))∧(e0.Value=GValue.zero))∧(e0.Name=[])) (fun h=>(fun h=>h1 h.1) h.1)) (tb (dF (p:=(((e0.Op=(0:Int))∧(e0.Value=GValue.zero))∧(e0.Name=[]))∧((e0.Args.length:Int)=(0:Int))) (fun x=>(fun h=>(fun h=>h1 h.1) h.1) x.1)).symm)) (ra Y (rend Y Y)))
 refine AW2_ret ?_
 have z:=se H; subst z
 exact ⟨⟨rt,trivial⟩,trivial⟩
noncomputable def g_ref_within_l1 (row3_0:List GExpr):Int×(List GExpr)→Option ((Int×(List GExpr))⊕(Bool⊕((List GExpr))))
  | (t28_1,next6_1)=>(if t28_1 < (row3_0.length:Int) then if 0≤t28_1∧t28_1 < (row3_0.length:Int) then (if (((lrd row3_0 t28_1.toNat).Args).length:Int) > (40:Int) then some (.inr (.inl false)) else if room (next6_1.length+((lrd row3_0 t28_1.toNat).Args).length) 88 then (if ((next6_1++((lrd row3_0 t28_1.toNat).Args)).length:Int) > (40:Int) then some (.inr (.inl false)) else some (.inl (w64 (t28_1+(1:Int)),next6_1++((lrd row3_0 t28_1.toNat).Args)))) else none) else none else some (.inr (.inr next6_1)))
noncomputable def g_ref_within_l0:Int×Int×(List GExpr)→Option ((Int×Int×(List GExpr))⊕(Bool⊕Unit))
  | (all4_0,deep5_0,row3_0)=>(if (row3_0.length:Int) > (0:Int) then (if (deep5_0 > (7:Int))∨(w64 (all4_0+(row3_0.length:Int)) > (40:Int)) then some (.inr (.inl false)) else (loopO (g_ref_within_l1 row3_0) ((0:Int),([]:List GExpr))).bind fun o'4=>match o'4 with | .inl y'5=>some (.inr (.inl y'5)) | .inr (y'6)=>some (.inl (w64 (all4_0+(row3_0.length:Int)),w64 (deep5_0+(1:Int)),y'6))) else some (.inr (.inr ())))
noncomputable def g_ref_within (e0:GExpr):Option (Bool) :=
  (loopO (g_ref_within_l0) ((0:Int),(1:Int),([e0]:List GExpr))).bind fun o'10=>match o'10 with | .inl y'11=>some y'11 | .inr (y'12)=>some true
set_option maxHeartbeats 4000000 in
set_option maxRecDepth 100000 in
theorem g_ref_within_ac {e0:GExpr} {r:Bool} (H:g_ref_within e0=some r):ACp Tryz.prog 70 [(.agg (GExpr.cs e0))] (AV.bool r):=by
 refine ACp_of (AC2_of_body (vs:=[.b r]) Tryz.func70 Y Y (lb Y) Y ?_) (fun _=>.same _)
 unfold g_ref_within at H
 refine as2 [(0,.g (GExpr.cs e0))] [] Y (sg [0,1] Y (rq Y (MakeD.opD (n_box 1 Y Y) Y Y Y Y) (ra Y (rz [(1,.q 1 (0))] [(1,.pure (GExpr.cs e0))] Y (sg [0,1,2] Y (rp Y (u_lda Y Y U35 Y in_35 Y np (Sub.refl _) (GExpr.len e0)) ?_))))))
 refine rq Y (MakeD.opD (u_bs 10 Y U33 in_35 Y one_35 (by decide) (by decide) zc_35 Y (af_lit (g:=GExpr.cs) (fun x=>(GExpr.len x)) (GExpr.len GExpr.zero) [e0])) Y Y Y Y) (ra Y (RunW_st [(3,.c (.own 10 ([e0]:List GExpr).length 7))] [(10,.pure (([e0]:List GExpr).flatMap GExpr.cs))] Y ⟨TLes.own Y,trivial⟩ ⟨Y,trivial⟩ (RunW_gho (Gho_ren 10 3 Y Y Y Y Y) (rz [(3,.c (.own 3 ([e0]:List GExpr).length 7))] [(3,.pure (([e0]:List GExpr).flatMap GExpr.cs))] Y (sg [0] Y (ra Y ?_))))))
 refine rz [(3,_),(4,.i (0:Int))] [(3,_)] Y (AW2_seq (sg [0] Y (ra Y (rz [(3,_),(4,_),(5,.i (1:Int))] [(3,_)] Y (AW2_block (as2 [(3,_),(4,_),(5,_)] [(3,_)] Y ?_))))))
 refine bindK H fun o'10 h10 H=>AW2_loopO (fun a'7:Int×Int×(List GExpr)=>(⟨[(3,.c (.own 3 a'7.2.2.length 7)),(4,.i a'7.1),(5,.i a'7.2.1)],[(3,.pure (a'7.2.2.flatMap GExpr.cs))],45⟩:TS)) (fun (o:Bool⊕Unit) e s'=>match o with | .inl y'8=>e=Go.Exit.ret∧ResAll Tryz.prog s' [ResultVar.tmp 2] [.b y'8]∧HFits s' [] | .inr (y'9)=>e=Go.Exit.exit 0∧s'=(⟨[],[],45⟩:TS)) h10 Y (fun a x hx=>?_) (fun e s' hs=>?_)
 ·clear H
  obtain ⟨all4_0,deep5_0,row3_0⟩:=a
  have H:=hx
  clear hx
  unfold g_ref_within_l0 at H
  refine AW2_seq (sg [0,1,2] Y (rm Y (rp Y (p_leno Y U33 Y Y Y (fm_length (fun x=>(GExpr.len x)) row3_0) (by decide)) (rp Y (p_bin Y Y Y Y) (rz [(3,.c (.own 3 row3_0.length 7)),(4,.i all4_0),(5,.i deep5_0),(13,.b (decide ((row3_0.length:Int) > (0:Int))))] [(3,.pure (row3_0.flatMap GExpr.cs))] Y (if2 H Y (fun h1 H=>?_) (fun h1 H=>?_)))))))
  ·refine as2 [(3,_),(4,_),(5,_)] [(3,_)] Y (AW2_skip (AW2_seq (AW2_block (sg [0,1,2,3,4] Y (rm Y (rm Y ?_))))))
   refine rp Y (p_leno Y U33 Y Y Y (fm_length (fun x=>(GExpr.len x)) row3_0) (by decide)) (rp Y (p_bin Y Y Y Y) (ra Y (rz [(3,_),(4,.i (w64 (all4_0+(row3_0.length:Int)))),(5,_)] [(3,_)] Y (AW2_seq (AW2_seq (AW2_mid (⟨[(3,.c (.own 3 row3_0.length 7)),(4,.i (w64 (all4_0+(row3_0.length:Int)))),(5,.i deep5_0),(25,.b (decide ((deep5_0 > (7:Int))∨(w64 (all4_0+(row3_0.length:Int)) > (40:Int)))))],[(3,.pure (row3_0.flatMap GExpr.cs))],45⟩:TS) ?_ ?_))))))
   ·refine AW2_reg [0,1,2,3,4,5] Y (rm Y (rp Y (p_bin Y Y Y Y) (rm Y ?_)))
    refine (Classical.em (deep5_0 > (7:Int))).elim (fun h2=>?_) (fun h2=>?_)
    ·exact rO Y (dT h2) Y (rO Y (dT h2) Y (rp Y (p_pkt Y Y (dT h2) (tb (dT (p:=(deep5_0 > (7:Int))∨(w64 (all4_0+(row3_0.length:Int)) > (40:Int))) (Or.inl h2)).symm)) (rend Y Y)))
    exact rn Y (dF h2) Y (p_move Y Y) (rn Y (dF h2) Y (p_bin Y Y Y Y) (rp Y (p_pkf Y Y (dF h2) (tb ((or_l (p:=deep5_0 > (7:Int)) (q:=w64 (all4_0+(row3_0.length:Int)) > (40:Int)) h2)))) (rend Y Y)))
   refine if2 H Y (fun h3 H=>?_) (fun h3 H=>?_)
   ·refine sg [0] Y (ra Y (rz [(2,.b false)] [] Y (AW2_ret ?_)))
    have z:=se H; subst z
    exact ⟨Y,⟨rt,trivial⟩,trivial⟩
   refine as2 [(3,_),(4,_),(5,_)] [(3,_)] Y (AW2_skip (sg [0] Y (rp Y (p_asgn Y) (rz [(3,_),(4,_),(5,_),(6,.p .nil)] [(3,_)] Y (AW2_seq (sg [0,1,2] Y ?_))))))
   refine rm Y (rp Y (p_leno Y U33 Y Y Y (fm_length (fun x=>(GExpr.len x)) row3_0) (by decide)) (rm Y (rs [(4,_),(5,_),(6,_),(26,.c (.own 3 row3_0.length 7)),(27,.i (row3_0.length:Int)),(28,.i (0:Int))] [(3,_)] Y (RunW_gho (Gho_ren 3 26 Y Y Y Y Y) (rz [(4,.i (w64 (all4_0+(row3_0.length:Int)))),(5,.i deep5_0),(6,.p .nil),(26,.c (.own 26 row3_0.length 7)),(27,.i (row3_0.length:Int)),(28,.i (0:Int))] [(26,.pure (row3_0.flatMap GExpr.cs))] Y (AW2_block ?_))))))
   refine as2 [(4,_),(5,_),(6,_),(26,_),(27,_),(28,_)] [(26,_)] Y (AW2_gho (Gho_own (d:=6) (b:=6) (z:=7) Y Y Y Y) (AW2_st [(4,.i (w64 (all4_0+(row3_0.length:Int)))),(5,.i deep5_0),(6,.c (.own 6 ([]:List GExpr).length 7)),(26,.c (.own 26 row3_0.length 7)),(27,.i (row3_0.length:Int)),(28,.i (0:Int))] [(6,.pure (([]:List GExpr).flatMap GExpr.cs)),(26,.pure (row3_0.flatMap GExpr.cs))] Y ⟨TLes.same _,TLes.same _,TLes.own Y,TLes.same _,TLes.same _,TLes.same _,trivial⟩ ⟨Y,Y,trivial⟩ (bindK H fun o'4 h9 H=>AW2_loopO (fun a'1:Int×(List GExpr)=>(⟨[(4,.i (w64 (all4_0+(row3_0.length:Int)))),(5,.i deep5_0),(6,.c (.own 6 a'1.2.length 7)),(26,.c (.own 26 row3_0.length 7)),(27,.i (row3_0.length:Int)),(28,.i a'1.1)],[(6,.pure (a'1.2.flatMap GExpr.cs)),(26,.pure (row3_0.flatMap GExpr.cs))],45⟩:TS)) (fun (o:Bool⊕((List GExpr))) e s'=>match o with | .inl y'2=>e=Go.Exit.ret∧ResAll Tryz.prog s' [ResultVar.tmp 2] [.b y'2]∧HFits s' [] | .inr (y'3)=>e=Go.Exit.exit 2∧s'=(⟨[(4,.i (w64 (all4_0+(row3_0.length:Int)))),(5,.i deep5_0),(6,.c (.own 6 y'3.length 7))],[(6,.pure (y'3.flatMap GExpr.cs))],45⟩:TS)) h9 Y (fun a x hx=>?_) (fun e s' hs=>?_))))
   ·clear H
    obtain ⟨t28_1,next6_1⟩:=a
    have H:=hx
    clear hx
    unfold g_ref_within_l1 at H
    refine sg [0] Y (rp Y (p_bin Y Y Y Y) (rz [(4,.i (w64 (all4_0+(row3_0.length:Int)))),(5,.i deep5_0),(6,.c (.own 6 next6_1.length 7)),(26,.c (.own 26 row3_0.length 7)),(27,.i (row3_0.length:Int)),(28,.i t28_1),(29,.b (decide (t28_1 < (row3_0.length:Int))))] [(6,.pure (next6_1.flatMap GExpr.cs)),(26,.pure (row3_0.flatMap GExpr.cs))] Y (AW2_seq (if2 H Y (fun h4 H=>?_) (fun h4 H=>?_)))))
    ·refine as2 [(4,_),(5,_),(6,_),(26,_),(27,_),(28,_)] [(6,_),(26,_)] Y (AW2_skip (AW2_seq (AW2_block (sg [0,1,2,3] Y (chkK H fun h5 H=>rp Y (u_ixo Y Y U33 in_35 Y Y (fne (fun x=>(GExpr.len x)) (by decide) (ixn h5)) Y (ixe h5) (ixn h5)) ?_)))))
     refine rp Y (u_lda Y Y U35 Y in_35 Y np ((Sub.refl _).trans (Sub.fm default (fun x=>(GExpr.len x)) (ixn h5))) (GExpr.len (lrd row3_0 t28_1.toNat))) (rq Y (MakeD.opD (u_alloc 8 Y in_35 one_35 zc_35) Y Y Y Y) (rq Y (u_sw Y Y Y Y Y in_35 (GExpr.len (lrd row3_0 t28_1.toNat)) (GExpr.len GExpr.zero) Y) (rz [(4,_),(5,_),(6,_),(8,.q 8 (0)),(26,_),(27,_),(28,_)] [(6,.pure (next6_1.flatMap GExpr.cs)),(8,.pure (GExpr.cs (lrd row3_0 t28_1.toNat))),(26,.pure (row3_0.flatMap GExpr.cs))] Y (AW2_seq (sg [0,1,2,3] Y (rf Y U35 Y in_33 Y Y (GExpr.len (lrd row3_0 t28_1.toNat)) ?_))))))
     refine rp Y (u_ld Y Y U33 Y Y (GExpr.sub3 (lrd row3_0 t28_1.toNat))) (rp Y (p_lenl Y U33 Y Y) (rp Y (p_bin Y Y Y Y) (rz [(4,_),(5,_),(6,_),(8,_),(26,_),(27,_),(28,_),(35,.b (decide ((((lrd row3_0 t28_1.toNat).Args).length:Int) > (40:Int))))] [(6,_),(8,_),(26,_)] Y (if2 H Y (fun h6 H=>?_) (fun h6 H=>?_)))))
     ·refine sg [0] Y (ra Y (rz [(2,.b false)] [] Y (AW2_ret ?_)))
      have z:=se H; subst z
      exact ⟨Y,⟨rt,trivial⟩,trivial⟩
     refine as2 [(4,_),(5,_),(6,_),(8,_),(26,_),(27,_),(28,_)] [(6,_),(8,_),(26,_)] Y (AW2_skip (sg [0,1,2,3,4] Y (rm Y (rf Y U35 Y in_33 Y Y (GExpr.len (lrd row3_0 t28_1.toNat)) (rp Y (u_ld Y Y U33 Y Y (GExpr.sub3 (lrd row3_0 t28_1.toNat))) (chkK H fun h7 H=>?_))))))
     refine rq Y (u_app [6,36] Y Y Y Y U33 U33 in_35 Y Y Y (fm_length (fun x=>(GExpr.len x)) next6_1) (by decide) Y (fm_length (fun x=>(GExpr.len x)) ((lrd row3_0 t28_1.toNat).Args)) h7 (by decide) Y Y (fapp GExpr.cs next6_1 ((lrd row3_0 t28_1.toNat).Args)) (lapp next6_1 ((lrd row3_0 t28_1.toNat).Args))) (ra Y (rz [(4,_),(5,_),(6,.c (.own 6 (next6_1++((lrd row3_0 t28_1.toNat).Args)).length 7)),(26,_),(27,_),(28,_)] [(6,.pure ((next6_1++((lrd row3_0 t28_1.toNat).Args)).flatMap GExpr.cs)),(26,.pure (row3_0.flatMap GExpr.cs))] Y (sg [0,1,2] Y (rm Y (rp Y (p_leno Y U33 Y Y Y (fm_length (fun x=>(GExpr.len x)) (next6_1++((lrd row3_0 t28_1.toNat).Args))) (by decide)) (rp Y (p_bin Y Y Y Y) ?_))))))
     refine rz [(4,_),(5,_),(6,_),(26,_),(27,_),(28,_),(42,.b (decide (((next6_1++((lrd row3_0 t28_1.toNat).Args)).length:Int) > (40:Int))))] [(6,_),(26,_)] Y (if2 H Y (fun h8 H=>?_) (fun h8 H=>?_))
     ·refine sg [0] Y (ra Y (rz [(2,.b false)] [] Y (AW2_ret ?_)))
      have z:=se H; subst z
      exact ⟨Y,⟨rt,trivial⟩,trivial⟩
     refine as2 [(4,_),(5,_),(6,_),(26,_),(27,_),(28,_)] [(6,_),(26,_)] Y (AW2_skip (AW2_reg [0,1] Y (rp Y (p_bin Y Y Y Y) (rm Y (rz [(4,_),(5,_),(6,_),(26,_),(27,_),(28,.i (w64 (t28_1+(1:Int))))] [(6,_),(26,_)] Y ?_)))))
     have z:=se H; subst z
     exact ⟨Y,Y⟩
    refine as2 [(4,_),(5,_),(6,_)] [(6,_)] Y (AW2_exit (thenQ2_exit ?_))
    have z:=se H; subst z
    exact ⟨Y,Y⟩
   rcases o'4 with y'5 | y'6
   ·obtain ⟨rfl,hs⟩:=hs
    refine ⟨by simp,?_⟩
    have z:=se H; subst z
    exact ⟨Y,hs.1,hs.2⟩
   obtain ⟨rfl,rfl⟩:=hs
   refine ⟨by simp,?_⟩
   refine blockQ2_exit (AW2_reg [0,1] Y (rm Y (ra Y (rs [(3,.c (.own 6 y'6.length 7)),(4,.i (w64 (all4_0+(row3_0.length:Int)))),(5,.i deep5_0)] [(6,.pure (y'6.flatMap GExpr.cs))] Y (RunW_gho (Gho_ren 6 3 Y Y Y Y Y) (rz [(3,.c (.own 3 y'6.length 7)),(4,.i (w64 (all4_0+(row3_0.length:Int)))),(5,.i deep5_0)] [(3,.pure (y'6.flatMap GExpr.cs))] Y ?_))))))
   refine AW2_reg [0,1,2] Y (rm Y (rp Y (p_bin Y Y Y Y) (ra Y (rz [(3,_),(4,_),(5,.i (w64 (deep5_0+(1:Int))))] [(3,_)] Y ?_))))
   have z:=se H; subst z
   exact ⟨Y,Y⟩
  refine as2 [] [] Y (AW2_exit (thenQ2_exit ?_))
  have z:=se H; subst z
  exact ⟨Y,Y⟩
 rcases o'10 with y'11 | y'12
 ·obtain ⟨rfl,hs⟩:=hs
  refine ⟨by simp,?_⟩
  have z:=se H; subst z
  exact ⟨hs.1,hs.2⟩
 obtain ⟨rfl,rfl⟩:=hs
 refine ⟨by simp,?_⟩
 refine blockQ2_exit (sg [0] Y (ra Y (rz [(2,.b true)] [] Y (AW2_ret ?_))))
 have z:=se H; subst z
 exact ⟨⟨rt,trivial⟩,trivial⟩
def g_ref_nodeFault_r4:List (List (Nat×Option Nat)):=[[(1,none)],[(19,some 0)],[(20,some 1)],[(3,none)],[(1,none)],[(23,some 4)],[(22,some 3),(24,some 5)],[(25,some 6)]]
def g_ref_nodeFault_r4c:List (List Nat):=[[],[0],[0,1],[],[],[4],[3,4,5],[3,4,5,6],[0,1,2,3,4,5,6,7],[0,1,2,3,4,5,6,7,8]]
noncomputable def g_ref_nodeFault_l0 (e0:GExpr) (R':GExpr→Option Int):Int→Option (Int⊕(Int⊕Unit))
  | t87_0=>(if t87_0 < (e0.Args.length:Int) then if 0≤t87_0∧t87_0 < (e0.Args.length:Int) then (R' (lrd e0.Args t87_0.toNat)).bind fun r'9=>(if r'9≠(0:Int) then some (.inr (.inl r'9)) else some (.inl (w64 (t87_0+(1:Int))))) else none else some (.inr (.inr ())))
noncomputable def g_ref_nodeFault_b (R':GExpr→Option Int) (e0:GExpr):Option (Int) :=
  letO (([(0:Int),(0:Int),(0:Int),(1:Int),(1:Int),(2:Int),(2:Int),(2:Int),(2:Int),(2:Int),(2:Int),(2:Int),(2:Int),(2:Int),(2:Int),(2:Int),(2:Int),(1:Int),(1:Int),(2:Int),(2:Int)]:List Int)) fun want3'1=>(if (e0.Op < (1:Int))∨(e0.Op≥(want3'1.length:Int)) then some (2:Int) else if 0≤e0.Op∧e0.Op < (want3'1.length:Int) then ((if e0.Op=(1:Int) then ((if (e0.Args.length:Int)=(lrd want3'1 e0.Op.toNat) then (if e0.Name=[] then (g_ref_ValueFault e0.Value).bind fun r'4=>(if r'4=(0:Int) then some (decide (e0.Value.Int_≥(0:Int))) else some false) else some false) else some false)).bind fun g'5=>some g'5 else (if e0.Op=(2:Int) then ((if (e0.Args.length:Int)=(lrd want3'1 e0.Op.toNat) then (if e0.Value=GValue.zero then (g_ref_isName e0.Name).bind fun r'7=>(if r'7=true then some (decide ((e0.Name.length:Int)≤(8:Int))) else some false) else some false) else some false)).bind fun g'8=>some g'8 else some (decide ((((e0.Args.length:Int)=(lrd want3'1 e0.Op.toNat))∧(e0.Name=[]))∧(e0.Value=GValue.zero)))))).bind fun j'2=>(if (!j'2)=true then some (3:Int) else (loopO (g_ref_nodeFault_l0 e0 R') (0:Int)).bind fun o'13=>match o'13 with | .inl y'14=>some y'14 | .inr (y'15)=>some (0:Int)) else none)
noncomputable def g_ref_nodeFault:Nat→GExpr→Option Int
  | 0,_=>none
  | fu+1,e0=>g_ref_nodeFault_b (g_ref_nodeFault fu) e0
set_option maxHeartbeats 4000000 in
set_option maxRecDepth 100000 in
theorem g_ref_nodeFault_ac0 {R':GExpr→Option Int} (hR:∀ {e0:GExpr} {r:Int},R' e0=some r→ACp Tryz.prog 71 [(.agg (GExpr.cs e0))] (AV.int r)) {e0:GExpr} {r:Int} (H:g_ref_nodeFault_b R' e0=some r):ACp Tryz.prog 71 [(.agg (GExpr.cs e0))] (AV.int r):=by
 refine ACp_of (AC2_of_body (vs:=[.i r]) Tryz.func71 Y Y (lb Y) Y ?_) (fun _=>.same _)
 unfold g_ref_nodeFault_b at H
 refine as2 [(0,.g (GExpr.cs e0))] [] Y (sg [0,1] Y (rq Y (MakeD.opD (n_box 1 Y Y) Y Y Y Y) (ra Y (rz [(1,.q 1 (0))] [(1,.pure (GExpr.cs e0))] Y (sg [0,1] Y (rq Y (MakeD.opD (u_bs 8 Y U76 in_3 Y one_3 (by decide) (by decide) Y Y Y) Y Y Y Y) ?_))))))
 refine ra Y (RunW_st [(1,.q 1 (0)),(3,.c (.own 8 ([(0:Int),(0:Int),(0:Int),(1:Int),(1:Int),(2:Int),(2:Int),(2:Int),(2:Int),(2:Int),(2:Int),(2:Int),(2:Int),(2:Int),(2:Int),(2:Int),(2:Int),(1:Int),(1:Int),(2:Int),(2:Int)]:List Int).length 1))] [(1,.pure (GExpr.cs e0)),(8,.pure (([(0:Int),(0:Int),(0:Int),(1:Int),(1:Int),(2:Int),(2:Int),(2:Int),(2:Int),(2:Int),(2:Int),(2:Int),(2:Int),(2:Int),(2:Int),(2:Int),(2:Int),(1:Int),(1:Int),(2:Int),(2:Int)]:List Int).map AV.int))] Y ⟨TLes.same _,TLes.own Y,trivial⟩ ⟨Y,Y,trivial⟩ (RunW_gho (Gho_ren 8 3 Y Y Y Y Y) (rz [(1,.q 1 (0)),(3,.c (.own 3 ([(0:Int),(0:Int),(0:Int),(1:Int),(1:Int),(2:Int),(2:Int),(2:Int),(2:Int),(2:Int),(2:Int),(2:Int),(2:Int),(2:Int),(2:Int),(2:Int),(2:Int),(1:Int),(1:Int),(2:Int),(2:Int)]:List Int).length 1))] [(1,.pure (GExpr.cs e0)),(3,.pure (([(0:Int),(0:Int),(0:Int),(1:Int),(1:Int),(2:Int),(2:Int),(2:Int),(2:Int),(2:Int),(2:Int),(2:Int),(2:Int),(2:Int),(2:Int),(2:Int),(2:Int),(1:Int),(1:Int),(2:Int),(2:Int)]:List Int).map AV.int))] Y (gen1 (fun want3'1=>(⟨[(1,.q 1 (0)),(3,.c (.own 3 want3'1.length 1))],[(1,.pure (GExpr.cs e0)),(3,.pure (want3'1.map AV.int))],97⟩:TS)) H ?_))))
 intro want3'1 H
 refine AW2_seq (AW2_seq (AW2_mid (⟨[(1,.q 1 (0)),(3,.c (.own 3 want3'1.length 1)),(18,.b (decide ((e0.Op < (1:Int))∨(e0.Op≥(want3'1.length:Int)))))],[(1,.pure (GExpr.cs e0)),(3,.pure (want3'1.map AV.int))],97⟩:TS) ?_ ?_))
 ·refine AW2_reg [0,1,2,3,4,5,6,7,8,9] Y (rf Y U35 Y in_3 Y Y (GExpr.len e0) (rp Y (u_ld Y Y U3 Y Y (GExpr.sub0 e0)) (rp Y (p_bin Y Y Y Y) (rm Y ?_))))
  refine (Classical.em (e0.Op < (1:Int))).elim (fun h1=>?_) (fun h1=>?_)
  ·iterate 5 (refine rO Y (dT h1) Y ?_)
   exact rp Y (p_pkt Y Y (dT h1) (tb (dT (p:=(e0.Op < (1:Int))∨(e0.Op≥(want3'1.length:Int))) (Or.inl h1)).symm)) (rend Y Y)
  exact rn Y (dF h1) Y (u_fa Y Y U35 Y in_3 nz Y Y (nl (GExpr.len e0))) (rn Y (dF h1) Y (u_ld Y Y U3 Y Y (GExpr.sub0 e0)) (rn Y (dF h1) Y (p_move Y Y) (rn Y (dF h1) Y (p_leno Y U76 Y Y Y (ml AV.int want3'1) (by decide)) (rn Y (dF h1) Y (p_bin Y Y Y Y) (rp Y (p_pkf Y Y (dF h1) (tb ((or_l (p:=e0.Op < (1:Int)) (q:=e0.Op≥(want3'1.length:Int)) h1)))) (rend Y Y))))))
 refine if2 H Y (fun h2 H=>?_) (fun h2 H=>?_)
 ·refine sg [0] Y (ra Y (rz [(2,.i (2:Int))] [] Y (AW2_ret ?_)))
  have z:=se H; subst z
  exact ⟨⟨rt,trivial⟩,trivial⟩
 refine as2 [(1,_),(3,_)] [(1,_),(3,_)] Y (AW2_skip (AW2_seq (chkK H fun h3 H=>AW2_ghoQ (AW2_draw 8 [8,9] (fun k=>([.q 1 (0+6),.p (GExpr.ls e0.Args),.i (e0.Args.length:Int),.c (.own 3 want3'1.length 1),.q 1 (0+0),.i e0.Op,.q 3 (0+e0.Op.toNat * 1),.i (lrd want3'1 e0.Op.toNat)]:List TV).getD k TV.any) (fun k=>g_ref_nodeFault_r4.getD k []) [(1,none),(21,some 2),(26,some 7)] [] (fun k=>g_ref_nodeFault_r4c.getD k []) mixed (by kernel_rfl) Y Y (a_op (g_x Y (x_p Y (u_fa Y Y U35 Y in_33 nz Y Y (nl (GExpr.len e0))) Y)) (a_op (g_x Y (x_p Y (u_ld Y Y U33 Y Y (GExpr.sub3 e0)) Y)) (a_op (g_x Y (x_p Y (p_lenl Y U33 Y Y) Y)) (a_op (g_x Y (x_p Y (p_move Y Y) Y)) (a_op (g_x Y (x_p Y (u_fa Y Y U35 Y in_3 nz Y Y (nl (GExpr.len e0))) Y)) (a_op (g_x Y (x_p Y (u_ld Y Y U3 Y Y (GExpr.sub0 e0)) Y)) (a_op (g_x Y (x_p Y (u_ixo Y Y U76 in_3 Y Y (lne (ixn h3)) Y (ixe h3) (ixn h3)) Y)) (a_op (g_x Y (x_p Y (u_ld Y Y U3 Y Y ((Sub.refl _).trans (Sub.map default (ixn h3)))) Y)) (a_nil))))))))) (t_op Y Y (PureD.opD (p_ieq Y Y Y)) ?_)))))
 refine t_op Y Y (PureD.opD (p_asg Y Y)) (t_gho (Gho_st (L:=[(1,.q 1 (0)),(4,.b (decide ((e0.Args.length:Int)=(lrd want3'1 e0.Op.toNat))))]) (H:=[(1,.pure (GExpr.cs e0))]) (N:=97) Y ⟨TLes.same _,TLes.same _,trivial⟩ ⟨Y,trivial⟩) (AW2_seq (bindK H fun j'2 h4 H=>AW2_mid (⟨[(1,.q 1 (0)),(4,.b j'2)],[(1,.pure (GExpr.cs e0))],97⟩:TS) ?_ ?_)))
 ·clear H
  have H:=h4
  clear h4
  refine sg [0,1] Y (rf Y U35 Y in_3 Y Y (GExpr.len e0) (rp Y (u_ld Y Y U3 Y Y (GExpr.sub0 e0)) (rz [(1,.q 1 (0)),(4,.b (decide ((e0.Args.length:Int)=(lrd want3'1 e0.Op.toNat)))),(29,.i e0.Op)] [(1,.pure (GExpr.cs e0))] Y (AW2_block (sg [0,1] Y (rp Y (p_ieq Y Y Y) ?_))))))
  refine ra Y (rz [(1,_),(4,_),(29,_),(42,.b (decide (e0.Op=(1:Int))))] [(1,_)] Y (if2 H Y (fun h5 H=>?_) (fun h5 H=>?_)))
  ·refine bindK H fun g'5 h11 H=>AW2_mid (⟨[(1,.q 1 (0)),(4,.b g'5)],[(1,.pure (GExpr.cs e0))],97⟩:TS) ?_ ?_
   ·clear H
    have H:=h11
    clear h11
    refine AW2_reg [0,1,2,3,4,5,6,7,8,9,10,11,12,13,14,15,16,17,18] Y (rm Y (rm Y (em2 H (fun h7 H=>?_) (fun h7 H=>?_))))
    ·refine rn Y (dT h7) Y (u_fa Y Y U35 Y in_9 nz Y Y (nl (GExpr.len e0))) (rn Y (dT h7) Y (u_ld Y Y U9 Y Y (GExpr.sub2 e0)) (rn Y (dT h7) Y (p_seq Y Y Y) (rp Y (p_pkt Y Y (dT h7) (.same _)) (rm Y (em2 H (fun h8 H=>?_) (fun h8 H=>?_))))))
     ·refine rn Y (dT h8) Y (u_fa Y Y U35 Y in_32 nz Y Y (nl (GExpr.len e0))) (rn Y (dT h8) Y (u_lda Y Y U32 Y in_32 Y np (GExpr.sub1 e0) (GValue.len e0.Value)) (bindK H fun r'4 h9 H=>rn Y (dT h8) Y (p_callp Y Y Y Tryz.func49 Y Y (g_ref_ValueFault_ac h9) ⟨Y,trivial⟩) (rn Y (dT h8) Y (p_ieq Y Y Y) (rp Y (p_pkt Y Y (dT h8) (.same _)) (rm Y ?_)))))
      refine em2 H (fun h10 H=>?_) (fun h10 H=>?_)
      ·refine rn Y (dT h10) Y (u_fa Y Y U35 Y in_32 nz Y Y (nl (GExpr.len e0))) (rn Y (dT h10) Y (u_fa Y Y U32 Y in_3 nz Y Y (nl (GExpr.len e0))) (rn Y (dT h10) Y (u_ld Y Y U3 Y Y ((GExpr.sub1 e0).trans (GValue.sub1 e0.Value))) (rn Y (dT h10) Y (p_bin Y Y Y Y) (rp Y (p_pkt Y Y (dT h10) (.same _)) (ra Y (rs [(1,.q 1 (0)),(4,.b (decide (e0.Value.Int_≥(0:Int))))] [(1,.pure (GExpr.cs e0))] Y ?_))))))
       have z:=se H; subst z
       exact RunW_nil rfl
      iterate 4 (refine rO Y (dF h10) Y ?_)
      refine rp Y (p_pkf Y Y (dF h10) (.same _)) (ra Y (rs [(1,.q 1 (0)),(4,.b false)] [(1,.pure (GExpr.cs e0))] Y ?_))
      have z:=se H; subst z
      exact RunW_nil rfl
     iterate 4 (refine rO Y (dF h8) Y ?_)
     refine rp Y (p_pkf Y Y (dF h8) (.same _)) (rm Y ?_)
     iterate 4 (refine rO Y (bfalse (by decide)) Y ?_)
     refine rp Y (p_pkf Y Y (bfalse (by decide)) (.same _)) (ra Y (rs [(1,.q 1 (0)),(4,.b false)] [(1,.pure (GExpr.cs e0))] Y ?_))
     have z:=se H; subst z
     exact RunW_nil rfl
    iterate 3 (refine rO Y (dF h7) Y ?_)
    refine rp Y (p_pkf Y Y (dF h7) (.same _)) (rm Y ?_)
    iterate 4 (refine rO Y (bfalse (by decide)) Y ?_)
    refine rp Y (p_pkf Y Y (bfalse (by decide)) (.same _)) (rm Y ?_)
    iterate 4 (refine rO Y (bfalse (by decide)) Y ?_)
    refine rp Y (p_pkf Y Y (bfalse (by decide)) (.same _)) (ra Y (rs [(1,.q 1 (0)),(4,.b false)] [(1,.pure (GExpr.cs e0))] Y ?_))
    have z:=se H; subst z
    exact RunW_nil rfl
   have z:=se H; subst z
   exact rfl
  refine sg [0,1] Y (rp Y (p_ieq Y Y Y) (ra Y (rz [(1,_),(4,_),(62,.b (decide (e0.Op=(2:Int))))] [(1,_)] Y (if2 H Y (fun h13 H=>?_) (fun h13 H=>?_)))))
  ·refine bindK H fun g'8 h19 H=>AW2_mid (⟨[(1,.q 1 (0)),(4,.b g'8)],[(1,.pure (GExpr.cs e0))],97⟩:TS) ?_ ?_
   ·clear H
    have H:=h19
    clear h19
    refine AW2_reg [0,1,2,3,4,5,6,7,8,9,10,11,12,13,14,15,16,17,18] Y (rm Y (rm Y (em2 H (fun h15 H=>?_) (fun h15 H=>?_))))
    ·refine rn Y (dT h15) Y (u_fa Y Y U35 Y in_32 nz Y Y (nl (GExpr.len e0))) (rn Y (dT h15) Y (u_lda Y Y U32 Y in_32 Y np (GExpr.sub1 e0) (GValue.len e0.Value)) (rn Y (dT h15) Y (u_bld Y in_32 one_32 zc_32 pl_32 Y Y) (rn Y (dT h15) Y (p_eqa (a:=e0.Value) (b:=GValue.zero) Y eq_32 Y (by kernel_rfl) Y Y) (rp Y (p_pkt Y Y (dT h15) (.same _)) (rm Y (em2 H (fun h16 H=>?_) (fun h16 H=>?_)))))))
     ·refine rn Y (dT h16) Y (u_fa Y Y U35 Y in_9 nz Y Y (nl (GExpr.len e0))) (rn Y (dT h16) Y (u_ld Y Y U9 Y Y (GExpr.sub2 e0)) (bindK H fun r'7 h17 H=>rn Y (dT h16) Y (p_callp Y Y Y Tryz.func46 Y Y (g_ref_isName_ac h17) ⟨Y,trivial⟩) (rp Y (p_pkt Y Y (dT h16) (.same _)) (rm Y (em2 H (fun h18 H=>?_) (fun h18 H=>?_))))))
      ·refine rn Y h18 Y (u_fa Y Y U35 Y in_9 nz Y Y (nl (GExpr.len e0))) (rn Y h18 Y (u_ld Y Y U9 Y Y (GExpr.sub2 e0)) (rn Y h18 Y (p_lent Y U9 Y) (rn Y h18 Y (p_bin Y Y Y Y) (rp Y (p_pkt Y Y h18 (.same _)) (ra Y (rs [(1,.q 1 (0)),(4,.b (decide ((e0.Name.length:Int)≤(8:Int))))] [(1,.pure (GExpr.cs e0))] Y ?_))))))
       have z:=se H; subst z
       exact RunW_nil rfl
      iterate 4 (refine rO Y (bfalse h18) Y ?_)
      refine rp Y (p_pkf Y Y (bfalse h18) (.same _)) (ra Y (rs [(1,.q 1 (0)),(4,.b false)] [(1,.pure (GExpr.cs e0))] Y ?_))
      have z:=se H; subst z
      exact RunW_nil rfl
     iterate 3 (refine rO Y (dF h16) Y ?_)
     refine rp Y (p_pkf Y Y (dF h16) (.same _)) (rm Y ?_)
     iterate 4 (refine rO Y (bfalse (by decide)) Y ?_)
     refine rp Y (p_pkf Y Y (bfalse (by decide)) (.same _)) (ra Y (rs [(1,.q 1 (0)),(4,.b false)] [(1,.pure (GExpr.cs e0))] Y ?_))
     have z:=se H; subst z
     exact RunW_nil rfl
    iterate 4 (refine rO Y (dF h15) Y ?_)
    refine rp Y (p_pkf Y Y (dF h15) (.same _)) (rm Y ?_)
    iterate 3 (refine rO Y (bfalse (by decide)) Y ?_)
    refine rp Y (p_pkf Y Y (bfalse (by decide)) (.same _)) (rm Y ?_)
    iterate 4 (refine rO Y (bfalse (by decide)) Y ?_)
    refine rp Y (p_pkf Y Y (bfalse (by decide)) (.same _)) (ra Y (rs [(1,.q 1 (0)),(4,.b false)] [(1,.pure (GExpr.cs e0))] Y ?_))
    have z:=se H; subst z
    exact RunW_nil rfl
   have z:=se H; subst z
   exact rfl
  refine AW2_mid (⟨[(1,.q 1 (0)),(4,.b (decide ((((e0.Args.length:Int)=(lrd want3'1 e0.Op.toNat))∧(e0.Name=[]))∧(e0.Value=GValue.zero))))],[(1,.pure (GExpr.cs e0))],97⟩:TS) ?_ ?_
  ·refine AW2_reg [0,1,2,3,4,5,6,7,8,9,10,11,12] Y (rm Y (rm Y ?_))
   refine (Classical.em ((e0.Args.length:Int)=(lrd want3'1 e0.Op.toNat))).elim (fun h21=>?_) (fun h21=>?_)
   ·refine rn Y (dT h21) Y (u_fa Y Y U35 Y in_9 nz Y Y (nl (GExpr.len e0))) (rn Y (dT h21) Y (u_ld Y Y U9 Y Y (GExpr.sub2 e0)) (rn Y (dT h21) Y (p_seq Y Y Y) (rp Y (p_pkt Y Y (dT h21) (tb ((and_l (p:=(e0.Args.length:Int)=(lrd want3'1 e0.Op.toNat)) (q:=e0.Name=[]) h21)))) (rm Y ?_))))
    refine (Classical.em (e0.Name=[])).elim (fun h22=>?_) (fun h22=>?_)
    ·have qq1:=dT (p:=((e0.Args.length:Int)=(lrd want3'1 e0.Op.toNat))∧(e0.Name=[])) ⟨h21,h22⟩
     exact rn Y qq1 Y (u_fa Y Y U35 Y in_32 nz Y Y (nl (GExpr.len e0))) (rn Y qq1 Y (u_lda Y Y U32 Y in_32 Y np (GExpr.sub1 e0) (GValue.len e0.Value)) (rn Y qq1 Y (u_bld Y in_32 one_32 zc_32 pl_32 Y Y) (rn Y qq1 Y (p_eqa (a:=e0.Value) (b:=GValue.zero) Y eq_32 Y (by kernel_rfl) Y Y) (rp Y (p_pkt Y Y qq1 (tb ((and_l (p:=((e0.Args.length:Int)=(lrd want3'1 e0.Op.toNat))∧(e0.Name=[])) (q:=e0.Value=GValue.zero) ⟨h21,h22⟩)))) (ra Y (rend Y Y))))))
    have qq2:=dF (p:=((e0.Args.length:Int)=(lrd want3'1 e0.Op.toNat))∧(e0.Name=[])) (fun h=>h22 h.2)
    iterate 4 (refine rO Y qq2 Y ?_)
    exact rp Y (p_pkf Y Y qq2 (tb (dF (p:=(((e0.Args.length:Int)=(lrd want3'1 e0.Op.toNat))∧(e0.Name=[]))∧(e0.Value=GValue.zero)) (fun x=>(fun h=>h22 h.2) x.1)).symm)) (ra Y (rend Y Y))
   iterate 3 (refine rO Y (dF h21) Y ?_)
   refine rp Y (p_pkf Y Y (dF h21) (tb (dF (p:=((e0.Args.length:Int)=(lrd want3'1 e0.Op.toNat))∧(e0.Name=[])) (fun x=>h21 x.1)).symm)) (rm Y ?_)
   have qq3:=dF (p:=((e0.Args.length:Int)=(lrd want3'1 e0.Op.toNat))∧(e0.Name=[])) (fun h=>h21 h.1)
   iterate 4 (refine rO Y qq3 Y ?_)
   exact rp Y (p_pkf Y Y qq3 (tb (dF (p:=(((e0.Args.length:Int)=(lrd want3'1 e0.Op.toNat))∧(e0.Name=[]))∧(e0.Value=GValue.zero)) (fun x=>(fun h=>h21 h.1) x.1)).symm)) (ra Y (rend Y Y))
  have z:=se H; subst z
  exact rfl
 refine AW2_seq (sg [0,1] Y (rm Y (rp Y (p_not Y Y) (rz [(1,_),(83,.b (!j'2))] [(1,_)] Y (AW2_cond Y (fun h23=>?_) (fun h23=>?_))))))
 ·replace H:=ite_then h23 H
  refine sg [0] Y (ra Y (rz [(2,.i (3:Int))] [] Y (AW2_ret ?_)))
  have z:=se H; subst z
  exact ⟨⟨rt,trivial⟩,trivial⟩
 replace H:=ite_else (ne_true h23) H
 refine as2 [(1,.q 1 (0))] [(1,.pure (GExpr.cs e0))] Y (AW2_skip (AW2_seq (sg [0,1,2,3] Y (rf Y U35 Y in_33 Y Y (GExpr.len e0) (rp Y (u_ld Y Y U33 Y Y (GExpr.sub3 e0)) (rp Y (p_lenl Y U33 Y Y) ?_))))))
 refine rm Y (rz [(85,.p (GExpr.ls e0.Args)),(86,.i (e0.Args.length:Int)),(87,.i (0:Int))] [] Y (AW2_block (as2 [(85,_),(86,_),(87,_)] [] Y (bindK H fun o'13 h28 H=>AW2_loopO (fun a'10:Int=>(⟨[(85,.p (GExpr.ls e0.Args)),(86,.i (e0.Args.length:Int)),(87,.i a'10)],[],97⟩:TS)) (fun (o:Int⊕Unit) e s'=>match o with | .inl y'11=>e=Go.Exit.ret∧ResAll Tryz.prog s' [ResultVar.tmp 2] [.i y'11]∧HFits s' [] | .inr (y'12)=>e=Go.Exit.exit 1∧s'=(⟨[],[],97⟩:TS)) h28 Y (fun t87_0 x hx=>?_) (fun e s' hs=>?_)))))
 ·clear H
  have H:=hx
  clear hx
  unfold g_ref_nodeFault_l0 at H
  refine sg [0] Y (rp Y (p_bin Y Y Y Y) (rz [(85,.p (GExpr.ls e0.Args)),(86,.i (e0.Args.length:Int)),(87,.i t87_0),(88,.b (decide (t87_0 < (e0.Args.length:Int))))] [] Y (AW2_seq (if2 H Y (fun h24 H=>?_) (fun h24 H=>?_)))))
  ·refine as2 [(85,_),(86,_),(87,_)] [] Y (AW2_skip (AW2_seq (AW2_block (sg [0,1,2,3] Y (chkK H fun h25 H=>rp Y (u_ixl Y Y U33 in_35 Y Y (ixe h25) (ixn h25) (fne (fun x=>(GExpr.len x)) (by decide) (ixn h25))) ?_)))))
   refine rp Y (u_lda Y Y U35 Y in_35 Y np (Sub.fm default (fun x=>(GExpr.len x)) (ixn h25)) (GExpr.len (lrd e0.Args t87_0.toNat))) (rq Y (MakeD.opD (u_alloc 6 Y in_35 one_35 zc_35) Y Y Y Y) (rq Y (u_sw Y Y Y Y Y in_35 (GExpr.len (lrd e0.Args t87_0.toNat)) (GExpr.len GExpr.zero) Y) (rz [(6,.q 6 (0)),(85,_),(86,_),(87,_)] [(6,.pure (GExpr.cs (lrd e0.Args t87_0.toNat)))] Y (sg [0,1,2] Y (rp Y (u_lda Y Y U35 Y in_35 Y np (Sub.refl _) (GExpr.len (lrd e0.Args t87_0.toNat))) (bindK H fun r'9 h26 H=>?_))))))
   refine rp Y (p_callp Y Y Y Tryz.func71 Y Y (hR h26) ⟨Y,trivial⟩) (ra Y (rz [(7,.i r'9),(85,_),(86,_),(87,_)] [] Y (sg [0,1] Y (rm Y (rp Y (p_ine Y Y Y) (rz [(7,_),(85,_),(86,_),(87,_),(94,.b (decide (r'9≠(0:Int))))] [] Y ?_))))))
   refine if2 H Y (fun h27 H=>?_) (fun h27 H=>?_)
   ·refine sg [0,1] Y (rm Y (ra Y (rz [(2,.i r'9)] [] Y (AW2_ret ?_))))
    have z:=se H; subst z
    exact ⟨Y,⟨rt,trivial⟩,trivial⟩
   refine as2 [(85,_),(86,_),(87,_)] [] Y (AW2_skip (AW2_reg [0,1] Y (rp Y (p_bin Y Y Y Y) (rm Y (rz [(85,_),(86,_),(87,.i (w64 (t87_0+(1:Int))))] [] Y ?_)))))
   have z:=se H; subst z
   exact ⟨Y,Y⟩
  refine as2 [] [] Y (AW2_exit (thenQ2_exit ?_))
  have z:=se H; subst z
  exact ⟨Y,Y⟩
 rcases o'13 with y'14 | y'15
 ·obtain ⟨rfl,hs⟩:=hs
  refine ⟨by simp,?_⟩
  have z:=se H; subst z
  exact ⟨hs.1,hs.2⟩
 obtain ⟨rfl,rfl⟩:=hs
 refine ⟨by simp,?_⟩
 refine blockQ2_exit (sg [0] Y (ra Y (rz [(2,.i (0:Int))] [] Y (AW2_ret ?_))))
 have z:=se H; subst z
 exact ⟨⟨rt,trivial⟩,trivial⟩
theorem g_ref_nodeFault_acN:∀ (fu:Nat) {e0:GExpr} {r:Int},g_ref_nodeFault fu e0=some r→ACp Tryz.prog 71 [(.agg (GExpr.cs e0))] (AV.int r)
 | 0,_,_,H=>(by cases H)
 | fu+1,_,_,H=>g_ref_nodeFault_ac0 (g_ref_nodeFault_acN fu) H
theorem g_ref_nodeFault_ac {e0:GExpr} {r:Int} (H:g_ref_nodeFault 100000 e0=some r):ACp Tryz.prog 71 [(.agg (GExpr.cs e0))] (AV.int r):=g_ref_nodeFault_acN 100000 H
noncomputable def g_ref_ExprFault (e0:GExpr):Option (Int) :=
  (g_ref_within e0).bind fun r'1=>(if (!r'1)=true then some (1:Int) else (g_ref_nodeFault 100000 e0).bind fun r'2=>some r'2)
set_option maxHeartbeats 4000000 in
set_option maxRecDepth 100000 in
theorem g_ref_ExprFault_ac {e0:GExpr} {r:Int} (H:g_ref_ExprFault e0=some r):ACp Tryz.prog 47 [(.agg (GExpr.cs e0))] (AV.int r):=by
 refine ACp_of (AC2_of_body (vs:=[.i r]) Tryz.func47 Y Y (lb Y) Y ?_) (fun _=>.same _)
 unfold g_ref_ExprFault at H
 refine as2 [(0,.g (GExpr.cs e0))] [] Y (sg [0,1] Y (rq Y (MakeD.opD (n_box 1 Y Y) Y Y Y Y) (ra Y (rz [(1,.q 1 (0))] [(1,.pure (GExpr.cs e0))] Y (AW2_seq (sg [0,1,2] Y ?_))))))
 refine rp Y (u_lda Y Y U35 Y in_35 Y np (Sub.refl _) (GExpr.len e0)) (bindK H fun r'1 h1 H=>rp Y (p_callp Y Y Y Tryz.func70 Y Y (g_ref_within_ac h1) ⟨Y,trivial⟩) (rp Y (p_not Y Y) (rz [(1,_),(5,.b (!r'1))] [(1,_)] Y (AW2_cond Y (fun h2=>?_) (fun h2=>?_)))))
 ·replace H:=ite_then h2 H
  refine sg [0] Y (ra Y (rz [(2,.i (1:Int))] [] Y (AW2_ret ?_)))
  have z:=se H; subst z
  exact ⟨⟨rt,trivial⟩,trivial⟩
 replace H:=ite_else (ne_true h2) H
 refine as2 [(1,.q 1 (0))] [(1,.pure (GExpr.cs e0))] Y (AW2_skip (sg [0,1,2] Y (rp Y (u_lda Y Y U35 Y in_35 Y np (Sub.refl _) (GExpr.len e0)) (bindK H fun r'2 h3 H=>rp Y (p_callp Y Y Y Tryz.func71 Y Y (g_ref_nodeFault_ac h3) ⟨Y,trivial⟩) (ra Y ?_)))))
 refine rz [(2,.i r'2)] [] Y (AW2_ret ?_)
 have z:=se H; subst z
 exact ⟨⟨rt,trivial⟩,trivial⟩
noncomputable def g_ref_asksFor (op0:Int):Option (Int×Int) :=
  ((if op0=(3:Int) then some (decide (op0=(3:Int))) else (if op0=(5:Int) then some (decide (op0=(5:Int))) else (if op0=(6:Int) then some (decide (op0=(6:Int))) else (if op0=(7:Int) then some (decide (op0=(7:Int))) else some (decide (op0=(8:Int)))))))).bind fun j'1=>(if j'1=true then some ((2:Int),(2:Int)) else ((if op0=(4:Int) then some (decide (op0=(4:Int))) else (if op0=(15:Int) then some (decide (op0=(15:Int))) else some (decide (op0=(16:Int)))))).bind fun j'2=>(if j'2=true then some ((1:Int),(1:Int)) else (if op0=(18:Int) then some ((4:Int),(2:Int)) else (if op0=(19:Int) then some ((4:Int),(4:Int)) else (if op0=(20:Int) then some ((0:Int),(0:Int)) else some ((0:Int),(1:Int)))))))
set_option maxHeartbeats 4000000 in
set_option maxRecDepth 100000 in
theorem g_ref_asksFor_ac {op0:Int} {r:Int×Int} (H:g_ref_asksFor op0=some r):ACp Tryz.prog 50 [(AV.int op0)] (.tup [(AV.int r.1),(AV.int r.2)]):=by
 refine ACp_of (AC2_of_body (vs:=[.i r.1,.i r.2]) Tryz.func50 Y Y (lb Y) Y ?_) (fun _=>.same _)
 unfold g_ref_asksFor at H
 refine as2 [(0,.i op0)] [] Y (sg [0,1] Y (ra Y (ra Y (rz [(0,_)] [] Y (AW2_seq (sg [0] Y ?_))))))
 refine rm Y (rz [(4,.i op0)] [] Y (AW2_block (AW2_seq (bindK H fun j'1 h1 H=>AW2_mid (⟨[(4,.i op0),(5,.b j'1)],[],21⟩:TS) ?_ ?_))))
 ·clear H
  have H:=h1
  clear h1
  refine sg [0,1] Y (rp Y (p_ieq Y Y Y) (ra Y (rz [(4,.i op0),(5,.b (decide (op0=(3:Int))))] [] Y (if2 H Y (fun h2 H=>?_) (fun h2 H=>?_)))))
  ·refine AW2_skip ?_
   have z:=se H; subst z
   exact rfl
  refine sg [0,1] Y (rp Y (p_ieq Y Y Y) (ra Y (rz [(4,_),(5,.b (decide (op0=(5:Int))))] [] Y (if2 H Y (fun h3 H=>?_) (fun h3 H=>?_)))))
  ·refine AW2_skip ?_
   have z:=se H; subst z
   exact rfl
  refine sg [0,1] Y (rp Y (p_ieq Y Y Y) (ra Y (rz [(4,_),(5,.b (decide (op0=(6:Int))))] [] Y (if2 H Y (fun h4 H=>?_) (fun h4 H=>?_)))))
  ·refine AW2_skip ?_
   have z:=se H; subst z
   exact rfl
  refine sg [0,1] Y (rp Y (p_ieq Y Y Y) (ra Y (rz [(4,_),(5,.b (decide (op0=(7:Int))))] [] Y (if2 H Y (fun h5 H=>?_) (fun h5 H=>?_)))))
  ·refine AW2_skip ?_
   have z:=se H; subst z
   exact rfl
  refine AW2_reg [0,1] Y (rp Y (p_ieq Y Y Y) (ra Y (rz [(4,_),(5,.b (decide (op0=(8:Int))))] [] Y ?_)))
  have z:=se H; subst z
  exact rfl
 refine AW2_cond Y (fun h6=>?_) (fun h6=>?_)
 ·replace H:=ite_then h6 H
  refine sg [0,1] Y (ra Y (ra Y (rz [(2,.i (2:Int)),(3,.i (2:Int))] [] Y (AW2_ret ?_))))
  have z:=se H; subst z
  exact ⟨⟨rt,rt,trivial⟩,trivial⟩
 replace H:=ite_else (ne_true h6) H
 refine AW2_seq (bindK H fun j'2 h7 H=>AW2_mid (⟨[(4,.i op0),(11,.b j'2)],[],21⟩:TS) ?_ ?_)
 ·clear H
  have H:=h7
  clear h7
  refine sg [0,1] Y (rp Y (p_ieq Y Y Y) (ra Y (rz [(4,.i op0),(11,.b (decide (op0=(4:Int))))] [] Y (if2 H Y (fun h8 H=>?_) (fun h8 H=>?_)))))
  ·refine AW2_skip ?_
   have z:=se H; subst z
   exact rfl
  refine sg [0,1] Y (rp Y (p_ieq Y Y Y) (ra Y (rz [(4,_),(11,.b (decide (op0=(15:Int))))] [] Y (if2 H Y (fun h9 H=>?_) (fun h9 H=>?_)))))
  ·refine AW2_skip ?_
   have z:=se H; subst z
   exact rfl
  refine AW2_reg [0,1] Y (rp Y (p_ieq Y Y Y) (ra Y (rz [(4,_),(11,.b (decide (op0=(16:Int))))] [] Y ?_)))
  have z:=se H; subst z
  exact rfl
 refine AW2_cond Y (fun h10=>?_) (fun h10=>?_)
 ·replace H:=ite_then h10 H
  refine sg [0,1] Y (ra Y (ra Y (rz [(2,.i (1:Int)),(3,.i (1:Int))] [] Y (AW2_ret ?_))))
  have z:=se H; subst z
  exact ⟨⟨rt,rt,trivial⟩,trivial⟩
 replace H:=ite_else (ne_true h10) H
 refine sg [0,1] Y (rp Y (p_ieq Y Y Y) (ra Y (rz [(4,.i op0),(15,.b (decide (op0=(18:Int))))] [] Y (if2 H Y (fun h11 H=>?_) (fun h11 H=>?_)))))
 ·refine sg [0,1] Y (ra Y (ra Y (rz [(2,.i (4:Int)),(3,.i (2:Int))] [] Y (AW2_ret ?_))))
  have z:=se H; subst z
  exact ⟨⟨rt,rt,trivial⟩,trivial⟩
 refine sg [0,1] Y (rp Y (p_ieq Y Y Y) (ra Y (rz [(4,_),(17,.b (decide (op0=(19:Int))))] [] Y (if2 H Y (fun h12 H=>?_) (fun h12 H=>?_)))))
 ·refine sg [0,1] Y (ra Y (ra Y (rz [(2,.i (4:Int)),(3,.i (4:Int))] [] Y (AW2_ret ?_))))
  have z:=se H; subst z
  exact ⟨⟨rt,rt,trivial⟩,trivial⟩
 refine sg [0,1] Y (rp Y (p_ieq Y Y Y) (ra Y (rz [(19,.b (decide (op0=(20:Int))))] [] Y (if2 H Y (fun h13 H=>?_) (fun h13 H=>?_)))))
 ·refine sg [0,1] Y (ra Y (ra Y (rz [(2,.i (0:Int)),(3,.i (0:Int))] [] Y (AW2_ret ?_))))
  have z:=se H; subst z
  exact ⟨⟨rt,rt,trivial⟩,trivial⟩
 refine as2 [] [] Y (AW2_skip (sg [0,1] Y (ra Y (ra Y (rz [(2,.i (0:Int)),(3,.i (1:Int))] [] Y (AW2_ret ?_))))))
 have z:=se H; subst z
 exact ⟨⟨rt,rt,trivial⟩,trivial⟩
def g_ref_kindOf_r2:List (List (Nat×Option Nat)):=[[(2,none)],[(21,some 0)],[(22,some 1)],[(2,none)],[(24,some 3)],[(25,some 4)],[(26,some 5)],[(23,some 2)]]
def g_ref_kindOf_r2c:List (List Nat):=[[],[0],[0,1],[],[3],[3,4],[3,4,5],[0,1,2],[0,1,2,3,4,5,6,7],[0,1,2,3,4,5,6,7,8]]
def g_ref_kindOf_r7:List (List (Nat×Option Nat)):=[[(1,none)],[(7,none)],[(37,some 0),(38,some 1)],[(39,some 2)],[(40,some 3)],[(1,none)],[(7,none)],[(42,some 5),(43,some 6)],[(44,some 7)],[(45,some 8)],[(41,some 4)]]
def g_ref_kindOf_r7c:List (List Nat):=[[],[],[0,1],[0,1,2],[0,1,2,3],[],[],[5,6],[5,6,7],[5,6,7,8],[0,1,2,3,4],[0,1,2,3,4,5,6,7,8,9,10],[0,1,2,3,4,5,6,7,8,9,10,11]]
noncomputable def g_ref_kindOf_l0 (e0:GExpr) (cols1:List GColumn) (R':GExpr→(List GColumn)→Option (Int×Bool×Int)):Bool×Bool×Int×Bool×Int→Option ((Bool×Bool×Int×Bool×Int)⊕((Int×Bool×Int)⊕(Bool×Bool×Int×Bool)))
  | (some8_0,all9_0,asks10_0,clash12_0,t56_0)=>(if t56_0 < (e0.Args.length:Int) then (show Option ((Int×Bool×Int)⊕(Bool×Bool×Int×Bool)) from if 0≤t56_0∧t56_0 < (e0.Args.length:Int) then (R' (lrd e0.Args t56_0.toNat) cols1).bind fun r'4=>(if r'4.2.2≠(0:Int) then some (.inl ((0:Int),false,r'4.2.2)) else (if (e0.Op=(17:Int))∨(r'4.1=(0:Int)) then some (.inr ((decide ((some8_0=true)∨(r'4.2.1=true))),(decide ((all9_0=true)∧(r'4.2.1=true))),asks10_0,clash12_0)) else ((if asks10_0=(0:Int) then some r'4.1 else some asks10_0)).bind fun j'5=>some (.inr ((decide ((some8_0=true)∨(r'4.2.1=true))),(decide ((all9_0=true)∧(r'4.2.1=true))),j'5,(decide ((clash12_0=true)∨(r'4.1≠j'5))))))) else none).bind fun o'7=>match o'7 with | .inl y'6=>some (.inr (.inl y'6)) | .inr j'3=>some (.inl (j'3.1,j'3.2.1,j'3.2.2.1,j'3.2.2.2,w64 (t56_0+(1:Int)))) else some (.inr (.inr (some8_0,all9_0,asks10_0,clash12_0))))
noncomputable def g_ref_kindOf_b (R':GExpr→(List GColumn)→Option (Int×Bool×Int)) (e0:GExpr) (cols1:List GColumn):Option (Int×Bool×Int) :=
  (if e0.Op=(1:Int) then some (e0.Value.Kind,(decide (e0.Value.Kind=(0:Int))),(0:Int)) else (if e0.Op=(2:Int) then (g_ref_columnAt cols1 e0.Name).bind fun r'1=>(if r'1 < (0:Int) then some ((0:Int),false,(5:Int)) else if 0≤r'1∧r'1 < (cols1.length:Int) then if 0≤r'1∧r'1 < (cols1.length:Int) then some ((lrd cols1 r'1.toNat).Kind,(lrd cols1 r'1.toNat).Null,(0:Int)) else none else none) else (g_ref_asksFor e0.Op).bind fun r'2=>(loopO (g_ref_kindOf_l0 e0 cols1 R') (false,true,r'2.1,false,(0:Int))).bind fun o'11=>match o'11 with | .inl y'12=>some y'12 | .inr (y'13)=>(if y'13.2.2.2=true then some ((0:Int),false,(2:Int)) else (if e0.Op=(17:Int) then some ((1:Int),false,(0:Int)) else (if e0.Op=(20:Int) then some (y'13.2.2.1,y'13.2.1,(0:Int)) else some (r'2.2,y'13.1,(0:Int)))))))
noncomputable def g_ref_kindOf:Nat→GExpr→(List GColumn)→Option (Int×Bool×Int)
  | 0,_,_=>none
  | fu+1,e0,cols1=>g_ref_kindOf_b (g_ref_kindOf fu) e0 cols1
set_option maxHeartbeats 4000000 in
set_option maxRecDepth 100000 in
theorem g_ref_kindOf_ac0 {R':GExpr→(List GColumn)→Option (Int×Bool×Int)} (hR:∀ {e0:GExpr} {cols1:List GColumn} {r:Int×Bool×Int},R' e0 cols1=some r→ACp Tryz.prog 48 [(.agg (GExpr.cs e0)),(GColumn.ls cols1)] (.tup [(AV.int r.1),(AV.bool r.2.1),(AV.int r.2.2)])) {e0:GExpr} {cols1:List GColumn} {r:Int×Bool×Int} (H:g_ref_kindOf_b R' e0 cols1=some r):ACp Tryz.prog 48 [(.agg (GExpr.cs e0)),(GColumn.ls cols1)] (.tup [(AV.int r.1),(AV.bool r.2.1),(AV.int r.2.2)]):=by
 refine ACp_of (AC2_of_body (vs:=[.i r.1,.b r.2.1,.i r.2.2]) Tryz.func48 Y Y (lb Y) Y ?_) (fun _=>.same _)
 unfold g_ref_kindOf_b at H
 refine as2 [(0,.g (GExpr.cs e0)),(1,.p (GColumn.ls cols1))] [] Y (sg [0,1,2,3] Y (rq Y (MakeD.opD (n_box 2 Y Y) Y Y Y Y) (ra Y (ra Y (ra Y (rz [(1,_),(2,.q 2 (0))] [(2,.pure (GExpr.cs e0))] Y ?_))))))
 refine AW2_seq (sg [0,1,2] Y (rf Y U35 Y in_3 Y Y (GExpr.len e0) (rp Y (u_ld Y Y U3 Y Y (GExpr.sub0 e0)) (rp Y (p_ieq Y Y Y) (rz [(1,_),(2,_),(20,.b (decide (e0.Op=(1:Int))))] [(2,_)] Y (if2 H Y (fun h1 H=>?_) (fun h1 H=>?_)))))))
 ·refine AW2_seq (AW2_ghoQ (AW2_draw 8 [8,9] (fun k=>([.q 2 (0+1),.q 2 (0+1+0),.i e0.Value.Kind,.q 2 (0+1),.q 2 (0+1+0),.i e0.Value.Kind,.b (decide (e0.Value.Kind=(0:Int))),.i e0.Value.Kind]:List TV).getD k TV.any) (fun k=>g_ref_kindOf_r2.getD k []) [(4,some 7),(27,some 6)] [] (fun k=>g_ref_kindOf_r2c.getD k []) mixed (by kernel_rfl) Y Y (a_op (g_x Y (x_p Y (u_fa Y Y U35 Y in_32 nz Y Y (nl (GExpr.len e0))) Y)) (a_op (g_x Y (x_p Y (u_fa Y Y U32 Y in_3 nz Y Y (nl (GExpr.len e0))) Y)) (a_op (g_x Y (x_p Y (u_ld Y Y U3 Y Y ((GExpr.sub1 e0).trans (GValue.sub0 e0.Value))) Y)) (a_op (g_x Y (x_p Y (u_fa Y Y U35 Y in_32 nz Y Y (nl (GExpr.len e0))) Y)) (a_op (g_x Y (x_p Y (u_fa Y Y U32 Y in_3 nz Y Y (nl (GExpr.len e0))) Y)) (a_op (g_x Y (x_p Y (u_ld Y Y U3 Y Y ((GExpr.sub1 e0).trans (GValue.sub0 e0.Value))) Y)) (a_op (g_x Y (x_p Y (p_ieq Y Y Y) Y)) (a_op (g_x Y (x_p Y (p_asg Y Y) Y)) (a_nil))))))))) (t_op Y Y (PureD.opD (p_asg Y Y)) (t_op Y Y (PureD.opD (p_asg Y Y)) (t_gho (Gho_st (L:=[(4,.i e0.Value.Kind),(5,.b (decide (e0.Value.Kind=(0:Int)))),(6,.i (0:Int))]) (H:=[]) (N:=109) Y ⟨TLes.same _,TLes.same _,TLes.same _,trivial⟩ trivial) (AW2_ret ?_))))))
  have z:=se H; subst z
  exact ⟨⟨rt,rt,rt,trivial⟩,trivial⟩
 refine as2 [(1,_),(2,_)] [(2,_)] Y (AW2_skip (AW2_seq (sg [0,1,2] Y (rf Y U35 Y in_3 Y Y (GExpr.len e0) (rp Y (u_ld Y Y U3 Y Y (GExpr.sub0 e0)) (rp Y (p_ieq Y Y Y) ?_))))))
 refine rz [(1,_),(2,_),(30,.b (decide (e0.Op=(2:Int))))] [(2,_)] Y (if2 H Y (fun h2 H=>?_) (fun h2 H=>?_))
 ·refine sg [0,1,2,3,4] Y (rm Y (rf Y U35 Y in_9 Y Y (GExpr.len e0) (rp Y (u_ld Y Y U9 Y Y (GExpr.sub2 e0)) (bindK H fun r'1 h3 H=>rp Y (p_callp Y Y Y Tryz.func23 Y Y (g_ref_columnAt_ac h3) ⟨Y,Y,trivial⟩) (ra Y ?_)))))
  refine rz [(1,_),(7,.i r'1)] [] Y (AW2_seq (sg [0,1] Y (rm Y (rp Y (p_bin Y Y Y Y) (rz [(1,_),(7,_),(36,.b (decide (r'1 < (0:Int))))] [] Y (if2 H Y (fun h4 H=>?_) (fun h4 H=>?_)))))))
  ·refine sg [0,1,2] Y (ra Y (ra Y (ra Y (rz [(4,.i (0:Int)),(5,.b false),(6,.i (5:Int))] [] Y (AW2_ret ?_)))))
   have z:=se H; subst z
   exact ⟨⟨rt,rt,rt,trivial⟩,trivial⟩
  refine as2 [(1,_),(7,_)] [] Y (AW2_skip (AW2_seq (chkK H fun h5 H=>chkK H fun h6 H=>AW2_ghoQ (AW2_draw 11 [11,12] (fun k=>([.p (GColumn.ls cols1),.i r'1,.p (.rptr (cols1.flatMap GColumn.cs) (r'1.toNat * 3)),.p (.rptr (cols1.flatMap GColumn.cs) (r'1.toNat * 3+1)),.i ((lrd cols1 r'1.toNat).Kind),.p (GColumn.ls cols1),.i r'1,.p (.rptr (cols1.flatMap GColumn.cs) (r'1.toNat * 3)),.p (.rptr (cols1.flatMap GColumn.cs) (r'1.toNat * 3+2)),.b ((lrd cols1 r'1.toNat).Null),.i ((lrd cols1 r'1.toNat).Kind)]:List TV).getD k TV.any) (fun k=>g_ref_kindOf_r7.getD k []) [(4,some 10),(46,some 9)] [] (fun k=>g_ref_kindOf_r7c.getD k []) mixed (by kernel_rfl) Y Y (a_op (g_x Y (x_p Y (p_move Y Y) Y)) (a_op (g_x Y (x_p Y (p_move Y Y) Y)) (a_op (g_x Y (x_p Y (u_ixl Y Y U22 in_63 Y Y (ixe h5) (ixn h5) (fne (fun x=>(GColumn.len x)) (by decide) (ixn h5))) Y)) (a_op (g_x Y (x_p Y (u_far Y Y U63 Y in_3 nz Y) Y)) (a_op (g_x Y (x_p Y (u_ld Y Y U3 Y Y ((Sub.fm default (fun x=>(GColumn.len x)) (ixn h5)).trans (GColumn.sub1 (lrd cols1 r'1.toNat)))) Y)) (a_op (g_x Y (x_p Y (p_move Y Y) Y)) (a_op (g_x Y (x_p Y (p_move Y Y) Y)) (a_op (g_x Y (x_p Y (u_ixl Y Y U22 in_63 Y Y (ixe h6) (ixn h6) (fne (fun x=>(GColumn.len x)) (by decide) (ixn h6))) Y)) (a_op (g_x Y (x_p Y (u_far Y Y U63 Y in_4 nz Y) Y)) (a_op (g_x Y (x_p Y (u_ld Y Y U4 Y Y ((Sub.fm default (fun x=>(GColumn.len x)) (ixn h6)).trans (GColumn.sub2 (lrd cols1 r'1.toNat)))) Y)) (a_op (g_x Y (x_p Y (p_asg Y Y) Y)) (a_nil)))))))))))) ?_))))
  refine t_op Y Y (PureD.opD (p_asg Y Y)) (t_op Y Y (PureD.opD (p_asg Y Y)) (t_gho (Gho_st (L:=[(4,.i ((lrd cols1 r'1.toNat).Kind)),(5,.b ((lrd cols1 r'1.toNat).Null)),(6,.i (0:Int))]) (H:=[]) (N:=109) Y ⟨TLes.same _,TLes.same _,TLes.same _,trivial⟩ trivial) (AW2_ret ?_)))
  have z:=se H; subst z
  exact ⟨⟨rt,rt,rt,trivial⟩,trivial⟩
 refine as2 [(1,_),(2,_)] [(2,_)] Y (AW2_skip (sg [0,1] Y (ra Y (ra Y (rz [(1,_),(2,_),(8,.b false),(9,.b true)] [(2,_)] Y (sg [0,1,2,3,4,5,6,7] Y ?_))))))
 refine rf Y U35 Y in_3 Y Y (GExpr.len e0) (rp Y (u_ld Y Y U3 Y Y (GExpr.sub0 e0)) (bindK H fun r'2 h7 H=>rp Y (p_callp Y Y Y Tryz.func50 Y Y (g_ref_asksFor_ac h7) ⟨Y,trivial⟩) (rm Y (rp Y (p_ext Y Y Y Y) (rp Y (p_ext Y Y Y Y) ?_)))))
 refine ra Y (ra Y (rz [(1,_),(2,_),(8,_),(9,_),(10,.i r'2.1),(11,.i r'2.2)] [(2,_)] Y (sg [0] Y (ra Y (rz [(1,_),(2,_),(8,_),(9,_),(10,_),(11,_),(12,.b false)] [(2,_)] Y (AW2_seq ?_))))))
 refine sg [0,1,2,3] Y (rf Y U35 Y in_33 Y Y (GExpr.len e0) (rp Y (u_ld Y Y U33 Y Y (GExpr.sub3 e0)) (rp Y (p_lenl Y U33 Y Y) (rm Y (rz [(1,_),(2,_),(8,_),(9,_),(10,_),(11,_),(12,_),(54,.p (GExpr.ls e0.Args)),(55,.i (e0.Args.length:Int)),(56,.i (0:Int))] [(2,_)] Y (AW2_block ?_))))))
 refine as2 [(1,_),(2,_),(8,_),(9,_),(10,_),(11,_),(12,_),(54,_),(55,_),(56,_)] [(2,_)] Y (bindK H fun o'11 h21 H=>AW2_loopO (fun a'8:Bool×Bool×Int×Bool×Int=>(⟨[(1,.p (GColumn.ls cols1)),(2,.q 2 (0)),(8,.b a'8.1),(9,.b a'8.2.1),(10,.i a'8.2.2.1),(11,.i r'2.2),(12,.b a'8.2.2.2.1),(54,.p (GExpr.ls e0.Args)),(55,.i (e0.Args.length:Int)),(56,.i a'8.2.2.2.2)],[(2,.pure (GExpr.cs e0))],109⟩:TS)) (fun (o:(Int×Bool×Int)⊕(Bool×Bool×Int×Bool)) e s'=>match o with | .inl y'9=>e=Go.Exit.ret∧ResAll Tryz.prog s' [ResultVar.tmp 4,ResultVar.tmp 5,ResultVar.tmp 6] [.i y'9.1,.b y'9.2.1,.i y'9.2.2]∧HFits s' [] | .inr (y'10)=>e=Go.Exit.exit 0∧s'=(⟨[(2,.q 2 (0)),(8,.b y'10.1),(9,.b y'10.2.1),(10,.i y'10.2.2.1),(11,.i r'2.2),(12,.b y'10.2.2.2)],[(2,.pure (GExpr.cs e0))],109⟩:TS)) h21 Y (fun a x hx=>?_) (fun e s' hs=>?_))
 ·clear H
  obtain ⟨some8_0,all9_0,asks10_0,clash12_0,t56_0⟩:=a
  have H:=hx
  clear hx
  unfold g_ref_kindOf_l0 at H
  refine sg [0] Y (rp Y (p_bin Y Y Y Y) (rz [(1,.p (GColumn.ls cols1)),(2,.q 2 (0)),(8,.b some8_0),(9,.b all9_0),(10,.i asks10_0),(11,.i r'2.2),(12,.b clash12_0),(54,.p (GExpr.ls e0.Args)),(55,.i (e0.Args.length:Int)),(56,.i t56_0),(57,.b (decide (t56_0 < (e0.Args.length:Int))))] [(2,.pure (GExpr.cs e0))] Y (AW2_seq (if2 H Y (fun h8 H=>?_) (fun h8 H=>?_)))))
  ·refine as2 [(1,_),(2,_),(8,_),(9,_),(10,_),(11,_),(12,_),(54,_),(55,_),(56,_)] [(2,_)] Y (AW2_skip (AW2_seq (bindK H fun o'7 h9 H=>AW2_join (fun j'3:Bool×Bool×Int×Bool=>(⟨[(1,.p (GColumn.ls cols1)),(2,.q 2 (0)),(8,.b j'3.1),(9,.b j'3.2.1),(10,.i j'3.2.2.1),(11,.i r'2.2),(12,.b j'3.2.2.2),(54,.p (GExpr.ls e0.Args)),(55,.i (e0.Args.length:Int)),(56,.i t56_0)],[(2,.pure (GExpr.cs e0))],109⟩:TS)) (fun r e s'=>e=Go.Exit.ret∧ResAll Tryz.prog s' [ResultVar.tmp 4,ResultVar.tmp 5,ResultVar.tmp 6] [.i r.1,.b r.2.1,.i r.2.2]∧HFits s' []) (x:=o'7) ?_ (fun j'3 hy=>?_) (fun y'6 e s' hy hs=>?_))))
   ·clear H
    have H:=h9
    clear h9
    refine AW2_block (sg [0,1,2,3] Y (chkK H fun h10 H=>rp Y (u_ixl Y Y U33 in_35 Y Y (ixe h10) (ixn h10) (fne (fun x=>(GExpr.len x)) (by decide) (ixn h10))) (rp Y (u_lda Y Y U35 Y in_35 Y np (Sub.fm default (fun x=>(GExpr.len x)) (ixn h10)) (GExpr.len (lrd e0.Args t56_0.toNat))) (rq Y (MakeD.opD (u_alloc 14 Y in_35 one_35 zc_35) Y Y Y Y) (rq Y (u_sw Y Y Y Y Y in_35 (GExpr.len (lrd e0.Args t56_0.toNat)) (GExpr.len GExpr.zero) Y) ?_)))))
    refine rz [(1,.p (GColumn.ls cols1)),(2,.q 2 (0)),(8,.b some8_0),(9,.b all9_0),(10,.i asks10_0),(11,.i r'2.2),(12,.b clash12_0),(14,.q 14 (0)),(54,.p (GExpr.ls e0.Args)),(55,.i (e0.Args.length:Int)),(56,.i t56_0)] [(2,.pure (GExpr.cs e0)),(14,.pure (GExpr.cs (lrd e0.Args t56_0.toNat)))] Y (sg [0,1,2,3,4,5,6,7,8,9] Y (rp Y (u_lda Y Y U35 Y in_35 Y np (Sub.refl _) (GExpr.len (lrd e0.Args t56_0.toNat))) (rm Y (bindK H fun r'4 h11 H=>rp Y (p_callp Y Y Y Tryz.func48 Y Y (hR h11) ⟨Y,Y,trivial⟩) (rm Y ?_)))))
    refine rp Y (p_ext Y Y Y Y) (rp Y (p_ext Y Y Y Y) (rp Y (p_ext Y Y Y Y) (ra Y (ra Y (ra Y (rz [(1,_),(2,_),(8,_),(9,_),(10,_),(11,_),(12,_),(15,.i r'4.1),(16,.b r'4.2.1),(17,.i r'4.2.2),(54,_),(55,_),(56,_)] [(2,_)] Y ?_))))))
    refine AW2_seq (sg [0,1] Y (rm Y (rp Y (p_ine Y Y Y) (rz [(1,_),(2,_),(8,_),(9,_),(10,_),(11,_),(12,_),(15,_),(16,_),(17,_),(54,_),(55,_),(56,_),(68,.b (decide (r'4.2.2≠(0:Int))))] [(2,_)] Y (if2 H Y (fun h12 H=>?_) (fun h12 H=>?_))))))
    ·refine sg [0,1,2,3] Y (rm Y (ra Y (ra Y (ra Y (rz [(4,.i (0:Int)),(5,.b false),(6,.i r'4.2.2)] [] Y (AW2_ret ?_))))))
     have z:=se H; subst z
     exact ⟨Y,⟨rt,rt,rt,trivial⟩,trivial⟩
    refine as2 [(1,_),(2,_),(8,_),(9,_),(10,_),(11,_),(12,_),(15,_),(16,_),(54,_),(55,_),(56,_)] [(2,_)] Y (AW2_skip (AW2_seq (AW2_mid (⟨[(1,.p (GColumn.ls cols1)),(2,.q 2 (0)),(8,.b (decide ((some8_0=true)∨(r'4.2.1=true)))),(9,.b (decide ((all9_0=true)∧(r'4.2.1=true)))),(10,.i asks10_0),(11,.i r'2.2),(12,.b clash12_0),(15,.i r'4.1),(54,.p (GExpr.ls e0.Args)),(55,.i (e0.Args.length:Int)),(56,.i t56_0)],[(2,.pure (GExpr.cs e0))],109⟩:TS) ?_ ?_)))
    ·refine AW2_reg [0,1,2,3,4,5,6,7,8,9] Y (rm Y (rm Y ?_))
     refine (Classical.em (some8_0=true)).elim (fun h13=>?_) (fun h13=>?_)
     ·refine rO Y h13 Y (rp Y (p_pkt Y Y h13 (tb (dT (p:=(some8_0=true)∨(r'4.2.1=true)) (Or.inl h13)).symm)) (rm Y (rm Y ?_)))
      refine (Classical.em (all9_0=true)).elim (fun h14=>?_) (fun h14=>?_)
      ·exact rn Y h14 Y (p_move Y Y) (rp Y (p_pkt Y Y h14 (tb ((bdec _).trans (and_l (p:=all9_0=true) (q:=r'4.2.1=true) h14)))) (ra Y (ra Y (rend Y Y))))
      exact rO Y (bfalse h14) Y (rp Y (p_pkf Y Y (bfalse h14) (tb (dF (p:=(all9_0=true)∧(r'4.2.1=true)) (fun x=>h14 x.1)).symm)) (ra Y (ra Y (rend Y Y))))
     refine rn Y (bfalse h13) Y (p_move Y Y) (rp Y (p_pkf Y Y (bfalse h13) (tb ((bdec _).trans (or_l (p:=some8_0=true) (q:=r'4.2.1=true) h13)))) (rm Y (rm Y ?_)))
     refine (Classical.em (all9_0=true)).elim (fun h15=>?_) (fun h15=>?_)
     ·exact rn Y h15 Y (p_move Y Y) (rp Y (p_pkt Y Y h15 (tb ((bdec _).trans (and_l (p:=all9_0=true) (q:=r'4.2.1=true) h15)))) (ra Y (ra Y (rend Y Y))))
     exact rO Y (bfalse h15) Y (rp Y (p_pkf Y Y (bfalse h15) (tb (dF (p:=(all9_0=true)∧(r'4.2.1=true)) (fun x=>h15 x.1)).symm)) (ra Y (ra Y (rend Y Y))))
    refine AW2_seq (AW2_seq (AW2_mid (⟨[(1,.p (GColumn.ls cols1)),(2,.q 2 (0)),(8,.b (decide ((some8_0=true)∨(r'4.2.1=true)))),(9,.b (decide ((all9_0=true)∧(r'4.2.1=true)))),(10,.i asks10_0),(11,.i r'2.2),(12,.b clash12_0),(15,.i r'4.1),(54,.p (GExpr.ls e0.Args)),(55,.i (e0.Args.length:Int)),(56,.i t56_0),(84,.b (decide ((e0.Op=(17:Int))∨(r'4.1=(0:Int)))))],[(2,.pure (GExpr.cs e0))],109⟩:TS) ?_ ?_))
    ·refine AW2_reg [0,1,2,3,4,5,6] Y (rf Y U35 Y in_3 Y Y (GExpr.len e0) (rp Y (u_ld Y Y U3 Y Y (GExpr.sub0 e0)) (rp Y (p_ieq Y Y Y) (rm Y ?_))))
     refine (Classical.em (e0.Op=(17:Int))).elim (fun h16=>?_) (fun h16=>?_)
     ·iterate 2 (refine rO Y (dT h16) Y ?_)
      exact rp Y (p_pkt Y Y (dT h16) (tb (dT (p:=(e0.Op=(17:Int))∨(r'4.1=(0:Int))) (Or.inl h16)).symm)) (rend Y Y)
     exact rn Y (dF h16) Y (p_move Y Y) (rn Y (dF h16) Y (p_ieq Y Y Y) (rp Y (p_pkf Y Y (dF h16) (tb ((or_l (p:=e0.Op=(17:Int)) (q:=r'4.1=(0:Int)) h16)))) (rend Y Y)))
    refine if2 H Y (fun h17 H=>?_) (fun h17 H=>?_)
    ·refine as2 [(1,_),(2,_),(8,_),(9,_),(10,_),(11,_),(12,_),(54,_),(55,_),(56,_)] [(2,_)] Y (AW2_exit (thenQ2_exit (blockQ2_exit ?_)))
     have z:=se H; subst z
     exact ⟨Y,Y⟩
    refine as2 [(1,_),(2,_),(8,_),(9,_),(10,_),(11,_),(12,_),(15,_),(54,_),(55,_),(56,_)] [(2,_)] Y (AW2_skip (AW2_seq (bindK H fun j'5 h18 H=>AW2_mid (⟨[(1,.p (GColumn.ls cols1)),(2,.q 2 (0)),(8,.b (decide ((some8_0=true)∨(r'4.2.1=true)))),(9,.b (decide ((all9_0=true)∧(r'4.2.1=true)))),(10,.i j'5),(11,.i r'2.2),(12,.b clash12_0),(15,.i r'4.1),(54,.p (GExpr.ls e0.Args)),(55,.i (e0.Args.length:Int)),(56,.i t56_0)],[(2,.pure (GExpr.cs e0))],109⟩:TS) ?_ ?_)))
    ·clear H
     have H:=h18
     clear h18
     refine sg [0,1] Y (rm Y (rp Y (p_ieq Y Y Y) (rz [(1,.p (GColumn.ls cols1)),(2,.q 2 (0)),(8,.b (decide ((some8_0=true)∨(r'4.2.1=true)))),(9,.b (decide ((all9_0=true)∧(r'4.2.1=true)))),(10,.i asks10_0),(11,.i r'2.2),(12,.b clash12_0),(15,.i r'4.1),(54,.p (GExpr.ls e0.Args)),(55,.i (e0.Args.length:Int)),(56,.i t56_0),(86,.b (decide (asks10_0=(0:Int))))] [(2,.pure (GExpr.cs e0))] Y (if2 H Y (fun h19 H=>?_) (fun h19 H=>?_)))))
     ·refine AW2_reg [0,1] Y (rm Y (ra Y (rz [(1,_),(2,_),(8,_),(9,_),(10,.i r'4.1),(11,_),(12,_),(15,_),(54,_),(55,_),(56,_)] [(2,_)] Y ?_)))
      have z:=se H; subst z
      exact rfl
     refine as2 [(1,_),(2,_),(8,_),(9,_),(10,_),(11,_),(12,_),(15,_),(54,_),(55,_),(56,_)] [(2,_)] Y (AW2_skip ?_)
     have z:=se H; subst z
     exact rfl
    refine AW2_mid (⟨[(1,.p (GColumn.ls cols1)),(2,.q 2 (0)),(8,.b (decide ((some8_0=true)∨(r'4.2.1=true)))),(9,.b (decide ((all9_0=true)∧(r'4.2.1=true)))),(10,.i j'5),(11,.i r'2.2),(12,.b (decide ((clash12_0=true)∨(r'4.1≠j'5)))),(54,.p (GExpr.ls e0.Args)),(55,.i (e0.Args.length:Int)),(56,.i t56_0)],[(2,.pure (GExpr.cs e0))],109⟩:TS) ?_ ?_
    ·refine AW2_reg [0,1,2,3,4,5,6] Y (rm Y (rm Y ?_))
     refine (Classical.em (clash12_0=true)).elim (fun h20=>?_) (fun h20=>?_)
     ·iterate 3 (refine rO Y h20 Y ?_)
      exact rp Y (p_pkt Y Y h20 (tb (dT (p:=(clash12_0=true)∨(r'4.1≠j'5)) (Or.inl h20)).symm)) (ra Y (rend Y Y))
     exact rn Y (bfalse h20) Y (p_move Y Y) (rn Y (bfalse h20) Y (p_move Y Y) (rn Y (bfalse h20) Y (p_ine Y Y Y) (rp Y (p_pkf Y Y (bfalse h20) (tb ((or_l (p:=clash12_0=true) (q:=r'4.1≠j'5) h20)))) (ra Y (rend Y Y)))))
    have z:=se H; subst z
    exact ⟨Y,Y⟩
   ·subst hy
    refine AW2_reg [0,1] Y (rp Y (p_bin Y Y Y Y) (rm Y (rz [(1,.p (GColumn.ls cols1)),(2,.q 2 (0)),(8,.b j'3.1),(9,.b j'3.2.1),(10,.i j'3.2.2.1),(11,.i r'2.2),(12,.b j'3.2.2.2),(54,.p (GExpr.ls e0.Args)),(55,.i (e0.Args.length:Int)),(56,.i (w64 (t56_0+(1:Int))))] [(2,.pure (GExpr.cs e0))] Y ?_)))
    have z:=se H; subst z
    exact ⟨Y,Y⟩
   subst hy
   obtain ⟨rfl,hs⟩:=hs
   have z:=se H; subst z
   exact ⟨Y,hs.1,hs.2⟩
  refine as2 [(2,_),(8,_),(9,_),(10,_),(11,_),(12,_)] [(2,_)] Y (AW2_exit (thenQ2_exit ?_))
  have z:=se H; subst z
  exact ⟨Y,Y⟩
 rcases o'11 with y'12 | y'13
 ·obtain ⟨rfl,hs⟩:=hs
  refine ⟨by simp,?_⟩
  have z:=se H; subst z
  exact ⟨hs.1,hs.2⟩
 obtain ⟨rfl,rfl⟩:=hs
 refine ⟨by simp,?_⟩
 refine blockQ2_exit (AW2_seq (AW2_block (sg [0,1] Y (rm Y (ra Y (rz [(2,.q 2 (0)),(8,.b y'13.1),(9,.b y'13.2.1),(10,.i y'13.2.2.1),(11,.i r'2.2),(95,.b y'13.2.2.2)] [(2,.pure (GExpr.cs e0))] Y ?_))))))
 refine AW2_cond Y (fun h22=>?_) (fun h22=>?_)
 ·replace H:=ite_then h22 H
  refine sg [0,1,2] Y (ra Y (ra Y (ra Y (rz [(4,.i (0:Int)),(5,.b false),(6,.i (2:Int))] [] Y (AW2_ret ?_)))))
  have z:=se H; subst z
  exact ⟨⟨rt,rt,rt,trivial⟩,trivial⟩
 replace H:=ite_else (ne_true h22) H
 refine sg [0,1,2,3] Y (rf Y U35 Y in_3 Y Y (GExpr.len e0) (rp Y (u_ld Y Y U3 Y Y (GExpr.sub0 e0)) (rp Y (p_ieq Y Y Y) (ra Y (rz [(2,.q 2 (0)),(8,.b y'13.1),(9,.b y'13.2.1),(10,.i y'13.2.2.1),(11,.i r'2.2),(97,.b (decide (e0.Op=(17:Int))))] [(2,.pure (GExpr.cs e0))] Y (if2 H Y (fun h23 H=>?_) (fun h23 H=>?_)))))))
 ·refine sg [0,1,2] Y (ra Y (ra Y (ra Y (rz [(4,.i (1:Int)),(5,.b false),(6,.i (0:Int))] [] Y (AW2_ret ?_)))))
  have z:=se H; subst z
  exact ⟨⟨rt,rt,rt,trivial⟩,trivial⟩
 refine sg [0,1,2,3] Y (rf Y U35 Y in_3 Y Y (GExpr.len e0) (rp Y (u_ld Y Y U3 Y Y (GExpr.sub0 e0)) (rp Y (p_ieq Y Y Y) (ra Y (rz [(8,_),(9,_),(10,_),(11,_),(101,.b (decide (e0.Op=(20:Int))))] [] Y (if2 H Y (fun h24 H=>?_) (fun h24 H=>?_)))))))
 ·refine sg [0,1,2,3,4] Y (rm Y (rm Y (ra Y (ra Y (ra Y (rz [(4,.i y'13.2.2.1),(5,.b y'13.2.1),(6,.i (0:Int))] [] Y ?_))))))
  refine AW2_ret ?_
  have z:=se H; subst z
  exact ⟨⟨rt,rt,rt,trivial⟩,trivial⟩
 refine as2 [(8,_),(11,_)] [] Y (AW2_skip (sg [0,1,2,3,4] Y (rm Y (rm Y (ra Y (ra Y ?_))))))
 refine ra Y (rz [(4,.i r'2.2),(5,.b y'13.1),(6,.i (0:Int))] [] Y (AW2_ret ?_))
 have z:=se H; subst z
 exact ⟨⟨rt,rt,rt,trivial⟩,trivial⟩
theorem g_ref_kindOf_acN:∀ (fu:Nat) {e0:GExpr} {cols1:List GColumn} {r:Int×Bool×Int},g_ref_kindOf fu e0 cols1=some r→ACp Tryz.prog 48 [(.agg (GExpr.cs e0)),(GColumn.ls cols1)] (.tup [(AV.int r.1),(AV.bool r.2.1),(AV.int r.2.2)])
 | 0,_,_,_,H=>(by cases H)
 | fu+1,_,_,_,H=>g_ref_kindOf_ac0 (g_ref_kindOf_acN fu) H
theorem g_ref_kindOf_ac {e0:GExpr} {cols1:List GColumn} {r:Int×Bool×Int} (H:g_ref_kindOf 100000 e0 cols1=some r):ACp Tryz.prog 48 [(.agg (GExpr.cs e0)),(GColumn.ls cols1)] (.tup [(AV.int r.1),(AV.bool r.2.1),(AV.int r.2.2)]):=g_ref_kindOf_acN 100000 H
noncomputable def g_ref_KindOf (e0:GExpr) (cols1:List GColumn):Option (Int×Bool×Int) :=
  (g_ref_ExprFault e0).bind fun r'1=>(if r'1≠(0:Int) then some ((0:Int),false,r'1) else (g_ref_ColumnsFault cols1).bind fun r'2=>(if r'2≠(0:Int) then some ((0:Int),false,r'2) else (g_ref_kindOf 100000 e0 cols1).bind fun r'3=>some (r'3.1,r'3.2.1,r'3.2.2)))
set_option maxHeartbeats 4000000 in
set_option maxRecDepth 100000 in
theorem g_ref_KindOf_ac {e0:GExpr} {cols1:List GColumn} {r:Int×Bool×Int} (H:g_ref_KindOf e0 cols1=some r):ACp Tryz.prog 35 [(.agg (GExpr.cs e0)),(GColumn.ls cols1)] (.tup [(AV.int r.1),(AV.bool r.2.1),(AV.int r.2.2)]):=by
 refine ACp_of (AC2_of_body (vs:=[.i r.1,.b r.2.1,.i r.2.2]) Tryz.func35 Y Y (lb Y) Y ?_) (fun _=>.same _)
 unfold g_ref_KindOf at H
 refine as2 [(0,.g (GExpr.cs e0)),(1,.p (GColumn.ls cols1))] [] Y (sg [0,1,2,3] Y (rq Y (MakeD.opD (n_box 2 Y Y) Y Y Y Y) (ra Y (ra Y (ra Y (rz [(1,_),(2,.q 2 (0))] [(2,.pure (GExpr.cs e0))] Y ?_))))))
 refine AW2_seq (sg [0,1,2] Y (rp Y (u_lda Y Y U35 Y in_35 Y np (Sub.refl _) (GExpr.len e0)) (bindK H fun r'1 h1 H=>rp Y (p_callp Y Y Y Tryz.func47 Y Y (g_ref_ExprFault_ac h1) ⟨Y,trivial⟩) (ra Y (rz [(1,_),(2,_),(7,.i r'1)] [(2,_)] Y ?_)))))
 refine sg [0,1] Y (rm Y (rp Y (p_ine Y Y Y) (rz [(1,_),(2,_),(7,_),(12,.b (decide (r'1≠(0:Int))))] [(2,_)] Y (if2 H Y (fun h2 H=>?_) (fun h2 H=>?_)))))
 ·refine sg [0,1,2,3] Y (rm Y (ra Y (ra Y (ra Y (rz [(4,.i (0:Int)),(5,.b false),(6,.i r'1)] [] Y (AW2_ret ?_))))))
  have z:=se H; subst z
  exact ⟨⟨rt,rt,rt,trivial⟩,trivial⟩
 refine as2 [(1,_),(2,_)] [(2,_)] Y (AW2_skip (AW2_seq (sg [0,1,2] Y (rm Y (bindK H fun r'2 h3 H=>rp Y (p_callp Y Y Y Tryz.func34 Y Y (g_ref_ColumnsFault_ac h3) ⟨Y,trivial⟩) ?_)))))
 refine ra Y (rz [(1,_),(2,_),(8,.i r'2)] [(2,_)] Y (sg [0,1] Y (rm Y (rp Y (p_ine Y Y Y) (rz [(1,_),(2,_),(8,_),(17,.b (decide (r'2≠(0:Int))))] [(2,_)] Y (if2 H Y (fun h4 H=>?_) (fun h4 H=>?_)))))))
 ·refine sg [0,1,2,3] Y (rm Y (ra Y (ra Y (ra Y (rz [(4,.i (0:Int)),(5,.b false),(6,.i r'2)] [] Y (AW2_ret ?_))))))
  have z:=se H; subst z
  exact ⟨⟨rt,rt,rt,trivial⟩,trivial⟩
 refine as2 [(1,_),(2,_)] [(2,_)] Y (AW2_skip (sg [0,1,2,3,4,5,6,7,8] Y (rp Y (u_lda Y Y U35 Y in_35 Y np (Sub.refl _) (GExpr.len e0)) (rm Y (bindK H fun r'3 h5 H=>rp Y (p_callp Y Y Y Tryz.func48 Y Y (g_ref_kindOf_ac h5) ⟨Y,Y,trivial⟩) ?_)))))
 refine rp Y (p_ext Y Y Y Y) (rp Y (p_ext Y Y Y Y) (rp Y (p_ext Y Y Y Y) (ra Y (ra Y (ra Y (rz [(4,.i r'3.1),(5,.b r'3.2.1),(6,.i r'3.2.2)] [] Y ?_))))))
 refine AW2_ret ?_
 have z:=se H; subst z
 exact ⟨⟨rt,rt,rt,trivial⟩,trivial⟩
noncomputable def g_ref_ConditionFault (e0:GExpr) (cols1:List GColumn):Option (Int) :=
  (g_ref_noExpr e0).bind fun r'1=>(if r'1=true then (g_ref_ColumnsFault cols1).bind fun r'2=>some r'2 else (g_ref_KindOf e0 cols1).bind fun r'3=>(if r'3.2.2≠(0:Int) then some r'3.2.2 else (if r'3.1 > (1:Int) then some (2:Int) else some (0:Int))))
set_option maxHeartbeats 4000000 in
set_option maxRecDepth 100000 in
theorem g_ref_ConditionFault_ac {e0:GExpr} {cols1:List GColumn} {r:Int} (H:g_ref_ConditionFault e0 cols1=some r):ACp Tryz.prog 14 [(.agg (GExpr.cs e0)),(GColumn.ls cols1)] (AV.int r):=by
 refine ACp_of (AC2_of_body (vs:=[.i r]) Tryz.func14 Y Y (lb Y) Y ?_) (fun _=>.same _)
 unfold g_ref_ConditionFault at H
 refine as2 [(0,.g (GExpr.cs e0)),(1,.p (GColumn.ls cols1))] [] Y (sg [0,1] Y (rq Y (MakeD.opD (n_box 2 Y Y) Y Y Y Y) (ra Y (rz [(1,_),(2,.q 2 (0))] [(2,.pure (GExpr.cs e0))] Y (AW2_seq (sg [0,1] Y ?_))))))
 refine rp Y (u_lda Y Y U35 Y in_35 Y np (Sub.refl _) (GExpr.len e0)) (bindK H fun r'1 h1 H=>rp Y (p_callp Y Y Y Tryz.func33 Y Y (g_ref_noExpr_ac h1) ⟨Y,trivial⟩) (rz [(1,_),(2,_),(9,.b r'1)] [(2,_)] Y (AW2_cond Y (fun h2=>?_) (fun h2=>?_))))
 ·replace H:=ite_then h2 H
  refine sg [0,1,2] Y (rm Y (bindK H fun r'2 h3 H=>rp Y (p_callp Y Y Y Tryz.func34 Y Y (g_ref_ColumnsFault_ac h3) ⟨Y,trivial⟩) (ra Y (rz [(4,.i r'2)] [] Y (AW2_ret ?_)))))
  have z:=se H; subst z
  exact ⟨⟨rt,trivial⟩,trivial⟩
 replace H:=ite_else (ne_true h2) H
 refine as2 [(1,.p (GColumn.ls cols1)),(2,.q 2 (0))] [(2,.pure (GExpr.cs e0))] Y (AW2_skip (sg [0,1,2,3,4,5,6,7,8,9] Y (rp Y (u_lda Y Y U35 Y in_35 Y np (Sub.refl _) (GExpr.len e0)) (rm Y (bindK H fun r'3 h4 H=>rp Y (p_callp Y Y Y Tryz.func35 Y Y (g_ref_KindOf_ac h4) ⟨Y,Y,trivial⟩) ?_)))))
 refine rm Y (rp Y (p_ext Y Y Y Y) (rp Y (p_ext Y Y Y Y) (rp Y (p_ext Y Y Y Y) (ra Y (ra Y (ra Y ?_))))))
 refine rz [(5,.i r'3.1),(7,.i r'3.2.2)] [] Y (AW2_seq (sg [0,1] Y (rm Y (rp Y (p_ine Y Y Y) (rz [(5,_),(7,_),(20,.b (decide (r'3.2.2≠(0:Int))))] [] Y (if2 H Y (fun h5 H=>?_) (fun h5 H=>?_)))))))
 ·refine sg [0,1] Y (rm Y (ra Y (rz [(4,.i r'3.2.2)] [] Y (AW2_ret ?_))))
  have z:=se H; subst z
  exact ⟨⟨rt,trivial⟩,trivial⟩
 refine as2 [(5,_)] [] Y (AW2_skip (AW2_seq (sg [0,1] Y (rm Y (rp Y (p_bin Y Y Y Y) (rz [(23,.b (decide (r'3.1 > (1:Int))))] [] Y ?_))))))
 refine if2 H Y (fun h6 H=>?_) (fun h6 H=>?_)
 ·refine sg [0] Y (ra Y (rz [(4,.i (2:Int))] [] Y (AW2_ret ?_)))
  have z:=se H; subst z
  exact ⟨⟨rt,trivial⟩,trivial⟩
 refine as2 [] [] Y (AW2_skip (sg [0] Y (ra Y (rz [(4,.i (0:Int))] [] Y (AW2_ret ?_)))))
 have z:=se H; subst z
 exact ⟨⟨rt,trivial⟩,trivial⟩
noncomputable def g_ref_boolOf (t0:Int):Option (GValue) :=
  (if t0=(2:Int) then some ({ { GValue.zero with Kind:=(1:Int) } with Int_:=(1:Int) }) else (if t0=(0:Int) then some ({ GValue.zero with Kind:=(1:Int) }) else some GValue.zero))
set_option maxHeartbeats 4000000 in
set_option maxRecDepth 100000 in
theorem g_ref_boolOf_ac {t0:Int} {r:GValue} (H:g_ref_boolOf t0=some r):ACp Tryz.prog 37 [(AV.int t0)] (.agg (GValue.cs r)):=by
 refine ACp_of (AC2_of_body (vs:=[.g (GValue.cs r)]) Tryz.func37 Y Y (lb Y) Y ?_) (fun _=>.same _)
 unfold g_ref_boolOf at H
 refine as2 [(0,.i t0)] [] Y (sg [0] Y (rq Y (MakeD.opD (u_alloc 2 Y in_32 one_32 zc_32) Y Y Y Y) (rz [(0,_),(2,.q 2 (0))] [(2,.pure (GValue.cs GValue.zero))] Y (AW2_seq (sg [0] Y (rm Y ?_))))))
 refine rz [(2,_),(3,.i t0)] [(2,_)] Y (AW2_block (sg [0,1] Y (rp Y (p_ieq Y Y Y) (ra Y (rz [(2,_),(3,_),(4,.b (decide (t0=(2:Int))))] [(2,_)] Y (if2 H Y (fun h1 H=>?_) (fun h1 H=>?_)))))))
 ·refine sg [0,1] Y (rp Y (u_bld Y in_32 one_32 zc_32 pl_32 Y (af_cons Y Y (GValue.upd0 GValue.zero (1:Int)) (af_cons Y Y (GValue.upd1 ((GValue.w0 GValue.zero (1:Int))) (1:Int)) Y))) (rq Y (u_sw Y Y Y Y Y in_32 (GValue.len ((GValue.w1 (GValue.w0 GValue.zero (1:Int)) (1:Int)))) (GValue.len GValue.zero) Y) (rz [(2,_)] [(2,.pure (GValue.cs ((GValue.w1 (GValue.w0 GValue.zero (1:Int)) (1:Int)))))] Y (AW2_ret ?_))))
  have z:=se H; subst z
  exact ⟨⟨rcw U32 Y in_32 Y (GValue.len ((GValue.w1 (GValue.w0 GValue.zero (1:Int)) (1:Int)))),trivial⟩,trivial⟩
 refine sg [0,1] Y (rp Y (p_ieq Y Y Y) (ra Y (rz [(2,_),(7,.b (decide (t0=(0:Int))))] [(2,_)] Y (if2 H Y (fun h2 H=>?_) (fun h2 H=>?_)))))
 ·refine sg [0,1] Y (rp Y (u_bld Y in_32 one_32 zc_32 pl_32 Y (af_cons Y Y (GValue.upd0 GValue.zero (1:Int)) Y)) (rq Y (u_sw Y Y Y Y Y in_32 (GValue.len ((GValue.w0 GValue.zero (1:Int)))) (GValue.len GValue.zero) Y) (rz [(2,_)] [(2,.pure (GValue.cs ((GValue.w0 GValue.zero (1:Int)))))] Y (AW2_ret ?_))))
  have z:=se H; subst z
  exact ⟨⟨rcw U32 Y in_32 Y (GValue.len ((GValue.w0 GValue.zero (1:Int)))),trivial⟩,trivial⟩
 refine as2 [(2,_)] [(2,_)] Y (AW2_skip (sg [0,1] Y (rp Y (u_bld Y in_32 one_32 zc_32 pl_32 Y Y) (rq Y (u_sw Y Y Y Y Y in_32 (GValue.len GValue.zero) (GValue.len GValue.zero) Y) (rz [(2,_)] [(2,.pure (GValue.cs GValue.zero))] Y (AW2_ret ?_))))))
 have z:=se H; subst z
 exact ⟨⟨rcw U32 Y in_32 Y (GValue.len GValue.zero),trivial⟩,trivial⟩
noncomputable def g_ref_truthOf (v0:GValue):Option (Int) :=
  (if v0.Kind=(0:Int) then some (1:Int) else some (w64 (v0.Int_ * (2:Int))))
set_option maxHeartbeats 4000000 in
set_option maxRecDepth 100000 in
theorem g_ref_truthOf_ac {v0:GValue} {r:Int} (H:g_ref_truthOf v0=some r):ACp Tryz.prog 52 [(.agg (GValue.cs v0))] (AV.int r):=by
 refine ACp_of (AC2_of_body (vs:=[.i r]) Tryz.func52 Y Y (lb Y) Y ?_) (fun _=>.same _)
 unfold g_ref_truthOf at H
 refine as2 [(0,.g (GValue.cs v0))] [] Y (sg [0,1] Y (rq Y (MakeD.opD (n_box 1 Y Y) Y Y Y Y) (ra Y (rz [(1,.q 1 (0))] [(1,.pure (GValue.cs v0))] Y (AW2_seq (sg [0,1,2] Y ?_))))))
 refine rf Y U32 Y in_3 Y Y (GValue.len v0) (rp Y (u_ld Y Y U3 Y Y (GValue.sub0 v0)) (rp Y (p_ieq Y Y Y) (rz [(1,_),(5,.b (decide (v0.Kind=(0:Int))))] [(1,_)] Y (if2 H Y (fun h1 H=>?_) (fun h1 H=>?_)))))
 ·refine sg [0] Y (ra Y (rz [(2,.i (1:Int))] [] Y (AW2_ret ?_)))
  have z:=se H; subst z
  exact ⟨⟨rt,trivial⟩,trivial⟩
 refine as2 [(1,_)] [(1,_)] Y (AW2_skip (sg [0,1,2,3] Y (rf Y U32 Y in_3 Y Y (GValue.len v0) (rp Y (u_ld Y Y U3 Y Y (GValue.sub1 v0)) (rp Y (p_bin Y Y Y Y) (ra Y ?_))))))
 refine rz [(2,.i (w64 (v0.Int_ * (2:Int))))] [] Y (AW2_ret ?_)
 have z:=se H; subst z
 exact ⟨⟨rt,trivial⟩,trivial⟩
noncomputable def g_ref_isTruth (a0:Int):Option (Bool) :=
  some (decide (((a0=(0:Int))∨(a0=(1:Int)))∨(a0=(2:Int))))
set_option maxHeartbeats 4000000 in
set_option maxRecDepth 100000 in
theorem g_ref_isTruth_ac {a0:Int} {r:Bool} (H:g_ref_isTruth a0=some r):ACp Tryz.prog 73 [(AV.int a0)] (AV.bool r):=by
 refine ACp_of (AC2_of_body (vs:=[.b r]) Tryz.func73 Y Y (lb Y) Y ?_) (fun _=>.same _)
 unfold g_ref_isTruth at H
 refine as2 [(0,.i a0)] [] Y (sg [0] Y (ra Y (rz [(0,_)] [] Y (AW2_seq (AW2_mid (⟨[(2,.b (decide (((a0=(0:Int))∨(a0=(1:Int)))∨(a0=(2:Int)))))],[],13⟩:TS) ?_ ?_)))))
 ·refine AW2_reg [0,1,2,3,4,5,6,7,8,9,10] Y (rm Y (rp Y (p_ieq Y Y Y) (rm Y ?_)))
  refine (Classical.em (a0=(0:Int))).elim (fun h1=>?_) (fun h1=>?_)
  ·refine rO Y (dT h1) Y (rO Y (dT h1) Y (rp Y (p_pkt Y Y (dT h1) (tb (dT (p:=(a0=(0:Int))∨(a0=(1:Int))) (Or.inl h1)).symm)) (rm Y (rO Y (dT (p:=(a0=(0:Int))∨(a0=(1:Int))) (Or.inl h1)) Y (rO Y (dT (p:=(a0=(0:Int))∨(a0=(1:Int))) (Or.inl h1)) Y (rp Y (p_pkt Y Y (dT (p:=(a0=(0:Int))∨(a0=(1:Int))) (Or.inl h1)) (tb (dT (p:=((a0=(0:Int))∨(a0=(1:Int)))∨(a0=(2:Int))) (Or.inl (Or.inl h1))).symm)) ?_))))))
   exact ra Y (rend Y Y)
  refine rn Y (dF h1) Y (p_move Y Y) (rn Y (dF h1) Y (p_ieq Y Y Y) (rp Y (p_pkf Y Y (dF h1) (tb ((or_l (p:=a0=(0:Int)) (q:=a0=(1:Int)) h1)))) (rm Y ?_)))
  refine (Classical.em (a0=(1:Int))).elim (fun h2=>?_) (fun h2=>?_)
  ·exact rO Y (dT (p:=(a0=(0:Int))∨(a0=(1:Int))) (Or.inr h2)) Y (rO Y (dT (p:=(a0=(0:Int))∨(a0=(1:Int))) (Or.inr h2)) Y (rp Y (p_pkt Y Y (dT (p:=(a0=(0:Int))∨(a0=(1:Int))) (Or.inr h2)) (tb (dT (p:=((a0=(0:Int))∨(a0=(1:Int)))∨(a0=(2:Int))) (Or.inl (Or.inr h2))).symm)) (ra Y (rend Y Y))))
  exact rn Y (dF (p:=(a0=(0:Int))∨(a0=(1:Int))) (not_or.2 ⟨h1,h2⟩)) Y (p_move Y Y) (rn Y (dF (p:=(a0=(0:Int))∨(a0=(1:Int))) (not_or.2 ⟨h1,h2⟩)) Y (p_ieq Y Y Y) (rp Y (p_pkf Y Y (dF (p:=(a0=(0:Int))∨(a0=(1:Int))) (not_or.2 ⟨h1,h2⟩)) (tb ((or_l (p:=(a0=(0:Int))∨(a0=(1:Int))) (q:=a0=(2:Int)) (not_or.2 ⟨h1,h2⟩))))) (ra Y (rend Y Y))))
 refine AW2_ret ?_
 have z:=se H; subst z
 exact ⟨⟨rt,trivial⟩,trivial⟩
noncomputable def g_ref_Logic (op0:Int) (a1:Int) (b2:Int):Option (Int×Int) :=
  ((g_ref_isTruth a1).bind fun r'3=>(if (!r'3)=true then some true else (g_ref_isTruth b2).bind fun r'4=>some (!r'4))).bind fun g'5=>(if g'5=true then some ((0:Int),(2:Int)) else ((if op0=(2:Int) then some (2:Int) else some (0:Int))).bind fun j'6=>(if (a1=j'6)∨(b2=j'6) then some (j'6,(0:Int)) else (if (a1=(1:Int))∨(b2=(1:Int)) then some ((1:Int),(0:Int)) else some (a1,(0:Int)))))
set_option maxHeartbeats 4000000 in
set_option maxRecDepth 100000 in
theorem g_ref_Logic_ac {op0:Int} {a1:Int} {b2:Int} {r:Int×Int} (H:g_ref_Logic op0 a1 b2=some r):ACp Tryz.prog 51 [(AV.int op0),(AV.int a1),(AV.int b2)] (.tup [(AV.int r.1),(AV.int r.2)]):=by
 refine ACp_of (AC2_of_body (vs:=[.i r.1,.i r.2]) Tryz.func51 Y Y (lb Y) Y ?_) (fun _=>.same _)
 unfold g_ref_Logic at H
 refine as2 [(0,.i op0),(1,.i a1),(2,.i b2)] [] Y (sg [0,1] Y (ra Y (ra Y (rz [(0,_),(1,_),(2,_)] [] Y (AW2_seq (AW2_seq ?_))))))
 refine bindK H fun g'5 h6 H=>AW2_mid (⟨[(0,.i op0),(1,.i a1),(2,.i b2),(16,.b g'5)],[],37⟩:TS) ?_ ?_
 ·clear H
  have H:=h6
  clear h6
  refine AW2_reg [0,1,2,3,4,5,6,7] Y (rm Y (bindK H fun r'3 h3 H=>rp Y (p_callp Y Y Y Tryz.func73 Y Y (g_ref_isTruth_ac h3) ⟨Y,trivial⟩) (rp Y (p_not Y Y) (rm Y (em2 H (fun h4 H=>?_) (fun h4 H=>?_))))))
  ·refine rO Y h4 Y (rO Y h4 Y (rO Y h4 Y (rp Y (p_pkt Y Y h4 (.same _)) (rs [(0,.i op0),(1,.i a1),(2,.i b2),(16,.b true)] [] Y ?_))))
   have z:=se H; subst z
   exact RunW_nil rfl
  refine rn Y (bfalse h4) Y (p_move Y Y) (bindK H fun r'4 h5 H=>rn Y (bfalse h4) Y (p_callp Y Y Y Tryz.func73 Y Y (g_ref_isTruth_ac h5) ⟨Y,trivial⟩) (rn Y (bfalse h4) Y (p_not Y Y) (rp Y (p_pkf Y Y (bfalse h4) (.same _)) (rs [(0,.i op0),(1,.i a1),(2,.i b2),(16,.b (!r'4))] [] Y ?_))))
  have z:=se H; subst z
  exact RunW_nil rfl
 refine AW2_cond Y (fun h7=>?_) (fun h7=>?_)
 ·replace H:=ite_then h7 H
  refine sg [0,1] Y (ra Y (ra Y (rz [(6,.i (0:Int)),(7,.i (2:Int))] [] Y (AW2_ret ?_))))
  have z:=se H; subst z
  exact ⟨⟨rt,rt,trivial⟩,trivial⟩
 replace H:=ite_else (ne_true h7) H
 refine as2 [(0,.i op0),(1,.i a1),(2,.i b2)] [] Y (AW2_skip (sg [0] Y (ra Y (rz [(0,_),(1,_),(2,_),(8,.i (0:Int))] [] Y (AW2_seq (bindK H fun j'6 h8 H=>?_))))))
 refine AW2_mid (⟨[(1,.i a1),(2,.i b2),(8,.i j'6)],[],37⟩:TS) ?_ ?_
 ·clear H
  have H:=h8
  clear h8
  refine sg [0,1] Y (rm Y (rp Y (p_ieq Y Y Y) (rz [(1,.i a1),(2,.i b2),(8,.i (0:Int)),(18,.b (decide (op0=(2:Int))))] [] Y (if2 H Y (fun h9 H=>?_) (fun h9 H=>?_)))))
  ·refine AW2_reg [0] Y (ra Y (rz [(1,_),(2,_),(8,.i (2:Int))] [] Y ?_))
   have z:=se H; subst z
   exact rfl
  refine as2 [(1,_),(2,_),(8,_)] [] Y (AW2_skip ?_)
  have z:=se H; subst z
  exact rfl
 refine AW2_seq (AW2_block (AW2_seq (AW2_mid (⟨[(1,.i a1),(2,.i b2),(8,.i j'6),(19,.b (decide ((a1=j'6)∨(b2=j'6))))],[],37⟩:TS) ?_ ?_)))
 ·refine AW2_reg [0,1,2,3,4,5,6,7,8] Y (rm Y (rm Y (rp Y (p_ieq Y Y Y) (rm Y ?_))))
  refine (Classical.em (a1=j'6)).elim (fun h10=>?_) (fun h10=>?_)
  ·exact rO Y (dT h10) Y (rO Y (dT h10) Y (rO Y (dT h10) Y (rp Y (p_pkt Y Y (dT h10) (tb (dT (p:=(a1=j'6)∨(b2=j'6)) (Or.inl h10)).symm)) (ra Y (rend Y Y)))))
  exact rn Y (dF h10) Y (p_move Y Y) (rn Y (dF h10) Y (p_move Y Y) (rn Y (dF h10) Y (p_ieq Y Y Y) (rp Y (p_pkf Y Y (dF h10) (tb ((or_l (p:=a1=j'6) (q:=b2=j'6) h10)))) (ra Y (rend Y Y)))))
 refine if2 H Y (fun h11 H=>?_) (fun h11 H=>?_)
 ·refine sg [0,1,2] Y (rm Y (ra Y (ra Y (rz [(6,.i j'6),(7,.i (0:Int))] [] Y (AW2_ret ?_)))))
  have z:=se H; subst z
  exact ⟨⟨rt,rt,trivial⟩,trivial⟩
 refine AW2_seq (AW2_mid (⟨[(1,.i a1),(29,.b (decide ((a1=(1:Int))∨(b2=(1:Int)))))],[],37⟩:TS) ?_ ?_)
 ·refine AW2_reg [0,1,2,3,4,5,6] Y (rm Y (rp Y (p_ieq Y Y Y) (rm Y ?_)))
  refine (Classical.em (a1=(1:Int))).elim (fun h12=>?_) (fun h12=>?_)
  ·exact rO Y (dT h12) Y (rO Y (dT h12) Y (rp Y (p_pkt Y Y (dT h12) (tb (dT (p:=(a1=(1:Int))∨(b2=(1:Int))) (Or.inl h12)).symm)) (ra Y (rend Y Y))))
  exact rn Y (dF h12) Y (p_move Y Y) (rn Y (dF h12) Y (p_ieq Y Y Y) (rp Y (p_pkf Y Y (dF h12) (tb ((or_l (p:=a1=(1:Int)) (q:=b2=(1:Int)) h12)))) (ra Y (rend Y Y))))
 refine if2 H Y (fun h13 H=>?_) (fun h13 H=>?_)
 ·refine sg [0,1] Y (ra Y (ra Y (rz [(6,.i (1:Int)),(7,.i (0:Int))] [] Y (AW2_ret ?_))))
  have z:=se H; subst z
  exact ⟨⟨rt,rt,trivial⟩,trivial⟩
 refine as2 [(1,_)] [] Y (AW2_skip (sg [0,1,2] Y (rm Y (ra Y (ra Y (rz [(6,.i a1),(7,.i (0:Int))] [] Y ?_))))))
 refine AW2_ret ?_
 have z:=se H; subst z
 exact ⟨⟨rt,rt,trivial⟩,trivial⟩
noncomputable def g_ref_Opposite (a0:Int):Option (Int×Int) :=
  (if a0=(0:Int) then some ((2:Int),(0:Int)) else (if a0=(2:Int) then some ((0:Int),(0:Int)) else (if a0=(1:Int) then some ((1:Int),(0:Int)) else some ((0:Int),(2:Int)))))
set_option maxHeartbeats 4000000 in
set_option maxRecDepth 100000 in
theorem g_ref_Opposite_ac {a0:Int} {r:Int×Int} (H:g_ref_Opposite a0=some r):ACp Tryz.prog 53 [(AV.int a0)] (.tup [(AV.int r.1),(AV.int r.2)]):=by
 refine ACp_of (AC2_of_body (vs:=[.i r.1,.i r.2]) Tryz.func53 Y Y (lb Y) Y ?_) (fun _=>.same _)
 unfold g_ref_Opposite at H
 refine as2 [(0,.i a0)] [] Y (sg [0,1] Y (ra Y (ra Y (rz [(0,_)] [] Y (AW2_seq (sg [0] Y ?_))))))
 refine rm Y (rz [(4,.i a0)] [] Y (AW2_block (sg [0,1] Y (rp Y (p_ieq Y Y Y) (ra Y (rz [(4,_),(5,.b (decide (a0=(0:Int))))] [] Y ?_))))))
 refine if2 H Y (fun h1 H=>?_) (fun h1 H=>?_)
 ·refine sg [0,1] Y (ra Y (ra Y (rz [(2,.i (2:Int)),(3,.i (0:Int))] [] Y (AW2_ret ?_))))
  have z:=se H; subst z
  exact ⟨⟨rt,rt,trivial⟩,trivial⟩
 refine sg [0,1] Y (rp Y (p_ieq Y Y Y) (ra Y (rz [(4,_),(7,.b (decide (a0=(2:Int))))] [] Y (if2 H Y (fun h2 H=>?_) (fun h2 H=>?_)))))
 ·refine sg [0,1] Y (ra Y (ra Y (rz [(2,.i (0:Int)),(3,.i (0:Int))] [] Y (AW2_ret ?_))))
  have z:=se H; subst z
  exact ⟨⟨rt,rt,trivial⟩,trivial⟩
 refine sg [0,1] Y (rp Y (p_ieq Y Y Y) (ra Y (rz [(9,.b (decide (a0=(1:Int))))] [] Y (if2 H Y (fun h3 H=>?_) (fun h3 H=>?_)))))
 ·refine sg [0,1] Y (ra Y (ra Y (rz [(2,.i (1:Int)),(3,.i (0:Int))] [] Y (AW2_ret ?_))))
  have z:=se H; subst z
  exact ⟨⟨rt,rt,trivial⟩,trivial⟩
 refine as2 [] [] Y (AW2_skip (sg [0,1] Y (ra Y (ra Y (rz [(2,.i (0:Int)),(3,.i (2:Int))] [] Y (AW2_ret ?_))))))
 have z:=se H; subst z
 exact ⟨⟨rt,rt,trivial⟩,trivial⟩
noncomputable def g_ref_intOf (n0:Int):Option (GValue×Int) :=
  some ({ { GValue.zero with Kind:=(2:Int) } with Int_:=n0 },(0:Int))
set_option maxHeartbeats 4000000 in
set_option maxRecDepth 100000 in
theorem g_ref_intOf_ac {n0:Int} {r:GValue×Int} (H:g_ref_intOf n0=some r):ACp Tryz.prog 55 [(AV.int n0)] (.tup [(.agg (GValue.cs r.1)),(AV.int r.2)]):=by
 refine ACp_of (AC2_of_body (vs:=[.g (GValue.cs r.1),.i r.2]) Tryz.func55 Y Y (lb Y) Y ?_) (fun _=>.same _)
 unfold g_ref_intOf at H
 refine as2 [(0,.i n0)] [] Y (sg [0,1] Y (rq Y (MakeD.opD (u_alloc 2 Y in_32 one_32 zc_32) Y Y Y Y) (ra Y (rz [(0,_),(2,.q 2 (0))] [(2,.pure (GValue.cs GValue.zero))] Y (sg [0,1,2,3] Y (rm Y ?_))))))
 refine rp Y (u_bld Y in_32 one_32 zc_32 pl_32 Y (af_cons Y Y (GValue.upd0 GValue.zero (2:Int)) (af_cons Y Y (GValue.upd1 ((GValue.w0 GValue.zero (2:Int))) n0) Y))) (rq Y (u_sw Y Y Y Y Y in_32 (GValue.len ((GValue.w1 (GValue.w0 GValue.zero (2:Int)) n0))) (GValue.len GValue.zero) Y) (ra Y (rz [(2,_),(3,.i (0:Int))] [(2,.pure (GValue.cs ((GValue.w1 (GValue.w0 GValue.zero (2:Int)) n0))))] Y (AW2_ret ?_))))
 have z:=se H; subst z
 exact ⟨⟨rcw U32 Y in_32 Y (GValue.len ((GValue.w1 (GValue.w0 GValue.zero (2:Int)) n0))),rt,trivial⟩,trivial⟩
noncomputable def g_ref_sizeOf (n0:Int):Option (UInt64) :=
  (if n0 < (0:Int) then some (0 - (UInt64.ofInt n0)) else some (UInt64.ofInt n0))
set_option maxHeartbeats 4000000 in
set_option maxRecDepth 100000 in
theorem g_ref_sizeOf_ac {n0:Int} {r:UInt64} (H:g_ref_sizeOf n0=some r):ACp Tryz.prog 77 [(AV.int n0)] (AV.u64 r):=by
 refine ACp_of (AC2_of_body (vs:=[.p (AV.u64 r)]) Tryz.func77 Y Y (lb Y) Y ?_) (fun _=>.same _)
 unfold g_ref_sizeOf at H
 refine as2 [(0,.i n0)] [] Y (sg [0] Y (ra Y (rz [(0,_)] [] Y (AW2_seq (sg [0,1] Y (rm Y ?_))))))
 refine rp Y (p_bin Y Y Y Y) (rz [(0,_),(4,.b (decide (n0 < (0:Int))))] [] Y (if2 H Y (fun h1 H=>?_) (fun h1 H=>?_)))
 ·refine sg [0,1,2,3] Y (rm Y (rp Y (p_i_u64 Y U3 U30 Y) (rp Y (p_u64neg Y Y) (ra Y (rz [(2,.p (AV.u64 (0 - (UInt64.ofInt n0))))] [] Y (AW2_ret ?_))))))
  have z:=se H; subst z
  exact ⟨⟨rt,trivial⟩,trivial⟩
 refine as2 [(0,_)] [] Y (AW2_skip (sg [0,1,2] Y (rm Y (rp Y (p_i_u64 Y U3 U30 Y) (ra Y (rz [(2,.p (AV.u64 (UInt64.ofInt n0)))] [] Y ?_))))))
 refine AW2_ret ?_
 have z:=se H; subst z
 exact ⟨⟨rt,trivial⟩,trivial⟩
noncomputable def g_bits_Mul64 (x0:UInt64) (y1:UInt64):Option (UInt64×UInt64) :=
  letO (((shr_u64 x0 32) * (y1 &&& (4294967295:UInt64)))+(shr_u64 ((x0 &&& (4294967295:UInt64)) * (y1 &&& (4294967295:UInt64))) 32)) fun t11'1=>letO ((t11'1 &&& (4294967295:UInt64))+((x0 &&& (4294967295:UInt64)) * (shr_u64 y1 32))) fun w112'2=>letO ((((shr_u64 x0 32) * (shr_u64 y1 32))+(shr_u64 t11'1 32))+(shr_u64 w112'2 32)) fun hi4'3=>some (hi4'3,x0 * y1)
set_option maxHeartbeats 4000000 in
set_option maxRecDepth 100000 in
theorem g_bits_Mul64_ac {x0:UInt64} {y1:UInt64} {r:UInt64×UInt64} (H:g_bits_Mul64 x0 y1=some r):ACp Tryz.prog 76 [(AV.u64 x0),(AV.u64 y1)] (.tup [(AV.u64 r.1),(AV.u64 r.2)]):=by
 refine ACp_of (AC2_of_body (vs:=[.p (AV.u64 r.1),.p (AV.u64 r.2)]) Tryz.func76 Y Y (lb Y) Y ?_) (fun _=>.same _)
 unfold g_bits_Mul64 at H
 refine as2 [(0,.p (AV.u64 x0)),(1,.p (AV.u64 y1))] [] Y (sg [0,1] Y (ra Y (ra Y (rz [(0,_),(1,_)] [] Y (sg [0,1,2] Y (rm Y ?_))))))
 refine rp Y (p_u64and (a:=x0) (b:=(4294967295:UInt64)) Y Y Y) (ra Y (rz [(0,_),(1,_),(6,.p (AV.u64 (x0 &&& (4294967295:UInt64))))] [] Y (sg [0,1,2] Y (rm Y (rp Y (p_u64shr (n:=32) Y Y Y Y) (ra Y ?_))))))
 refine rz [(0,_),(1,_),(6,_),(7,.p (AV.u64 (shr_u64 x0 32)))] [] Y (sg [0,1,2] Y (rm Y (rp Y (p_u64and (a:=y1) (b:=(4294967295:UInt64)) Y Y Y) (ra Y (rz [(0,_),(1,_),(6,_),(7,_),(8,.p (AV.u64 (y1 &&& (4294967295:UInt64))))] [] Y (sg [0,1,2] Y ?_))))))
 refine rm Y (rp Y (p_u64shr (n:=32) Y Y Y Y) (ra Y (rz [(0,_),(1,_),(6,_),(7,_),(8,_),(9,.p (AV.u64 (shr_u64 y1 32)))] [] Y (sg [0,1,2,3] Y (rm Y (rm Y ?_))))))
 refine rp Y (p_u64mul (a:=x0 &&& (4294967295:UInt64)) (b:=y1 &&& (4294967295:UInt64)) Y Y Y) (ra Y (rz [(0,_),(1,_),(6,_),(7,_),(8,_),(9,_),(10,.p (AV.u64 ((x0 &&& (4294967295:UInt64)) * (y1 &&& (4294967295:UInt64)))))] [] Y (sg [0,1,2,3,4,5,6] Y (rm Y (rm Y (rp Y (p_u64mul (a:=shr_u64 x0 32) (b:=y1 &&& (4294967295:UInt64)) Y Y Y) ?_))))))
 refine rm Y (rp Y (p_u64shr (n:=32) Y Y Y Y) (rp Y (p_u64add (a:=(shr_u64 x0 32) * (y1 &&& (4294967295:UInt64))) (b:=shr_u64 ((x0 &&& (4294967295:UInt64)) * (y1 &&& (4294967295:UInt64))) 32) Y Y Y) (ra Y (rz [(0,_),(1,_),(6,_),(7,_),(9,_),(11,.p (AV.u64 (((shr_u64 x0 32) * (y1 &&& (4294967295:UInt64)))+(shr_u64 ((x0 &&& (4294967295:UInt64)) * (y1 &&& (4294967295:UInt64))) 32))))] [] Y (gen1 (fun t11'1=>(⟨[(0,.p (AV.u64 x0)),(1,.p (AV.u64 y1)),(6,.p (AV.u64 (x0 &&& (4294967295:UInt64)))),(7,.p (AV.u64 (shr_u64 x0 32))),(9,.p (AV.u64 (shr_u64 y1 32))),(11,.p (AV.u64 t11'1))],[],51⟩:TS)) H ?_)))))
 intro t11'1 H
 refine sg [0,1,2] Y (rm Y (rp Y (p_u64and (a:=t11'1) (b:=(4294967295:UInt64)) Y Y Y) (ra Y (rz [(0,.p (AV.u64 x0)),(1,.p (AV.u64 y1)),(6,.p (AV.u64 (x0 &&& (4294967295:UInt64)))),(7,.p (AV.u64 (shr_u64 x0 32))),(9,.p (AV.u64 (shr_u64 y1 32))),(11,.p (AV.u64 t11'1)),(12,.p (AV.u64 (t11'1 &&& (4294967295:UInt64))))] [] Y (sg [0,1,2] Y (rm Y ?_))))))
 refine rp Y (p_u64shr (n:=32) Y Y Y Y) (ra Y (rz [(0,_),(1,_),(6,_),(7,_),(9,_),(12,_),(13,.p (AV.u64 (shr_u64 t11'1 32)))] [] Y (sg [0,1,2,3,4,5] Y (rm Y (rm Y (rm Y ?_))))))
 refine rp Y (p_u64mul (a:=x0 &&& (4294967295:UInt64)) (b:=shr_u64 y1 32) Y Y Y) (rp Y (p_u64add (a:=t11'1 &&& (4294967295:UInt64)) (b:=(x0 &&& (4294967295:UInt64)) * (shr_u64 y1 32)) Y Y Y) (ra Y (rz [(0,_),(1,_),(7,_),(9,_),(12,.p (AV.u64 ((t11'1 &&& (4294967295:UInt64))+((x0 &&& (4294967295:UInt64)) * (shr_u64 y1 32))))),(13,_)] [] Y (gen1 (fun w112'2=>(⟨[(0,.p (AV.u64 x0)),(1,.p (AV.u64 y1)),(7,.p (AV.u64 (shr_u64 x0 32))),(9,.p (AV.u64 (shr_u64 y1 32))),(12,.p (AV.u64 w112'2)),(13,.p (AV.u64 (shr_u64 t11'1 32)))],[],51⟩:TS)) H ?_))))
 intro w112'2 H
 refine sg [0,1,2,3,4,5,6,7,8] Y (rm Y (rm Y (rp Y (p_u64mul (a:=shr_u64 x0 32) (b:=shr_u64 y1 32) Y Y Y) (rm Y (rp Y (p_u64add (a:=(shr_u64 x0 32) * (shr_u64 y1 32)) (b:=shr_u64 t11'1 32) Y Y Y) (rm Y ?_))))))
 refine rp Y (p_u64shr (n:=32) Y Y Y Y) (rp Y (p_u64add (a:=((shr_u64 x0 32) * (shr_u64 y1 32))+(shr_u64 t11'1 32)) (b:=shr_u64 w112'2 32) Y Y Y) (ra Y (rz [(0,.p (AV.u64 x0)),(1,.p (AV.u64 y1)),(4,.p (AV.u64 ((((shr_u64 x0 32) * (shr_u64 y1 32))+(shr_u64 t11'1 32))+(shr_u64 w112'2 32))))] [] Y (gen1 (fun hi4'3=>(⟨[(0,.p (AV.u64 x0)),(1,.p (AV.u64 y1)),(4,.p (AV.u64 hi4'3))],[],51⟩:TS)) H ?_))))
 intro hi4'3 H
 refine sg [0,1,2,3] Y (rm Y (rm Y (rp Y (p_u64mul (a:=x0) (b:=y1) Y Y Y) (ra Y (rz [(4,.p (AV.u64 hi4'3)),(5,.p (AV.u64 (x0 * y1)))] [] Y (AW2_ret ?_))))))
 have z:=se H; subst z
 exact ⟨⟨rt,rt,trivial⟩,trivial⟩
end Go.Proofs.YthnkbagmaljjjaaGreatDoor.VM
