/- Words and rules that the proof uses. -/
import Derived.Test.YthnkbagmaljjjaaGreatDoorTu2
namespace Go.Proofs.YthnkbagmaljjjaaGreatDoor.VM
open Go Go.RowKit
set_option maxHeartbeats 4000000
set_option maxRecDepth 100000
abbrev U74:=@Tryz.underlying74
noncomputable def g_ref_keysFault_l1 (d0:Vector GCell 4) (t9_0:Int) (seen3_0:List Int):Int→Option (Int⊕(Int⊕Unit))
  | t17_1=>(if t17_1 < (seen3_0.length:Int) then if 0≤t17_1∧t17_1 < (seen3_0.length:Int) then if 0 < ((vrd d0 t9_0.toNat).Row).length then (if (lrd seen3_0 t17_1.toNat)=(lrd ((vrd d0 t9_0.toNat).Row) 0).Int_ then some (.inr (.inl (8:Int))) else some (.inl (w64 (t17_1+(1:Int))))) else none else none else some (.inr (.inr ())))
noncomputable def g_ref_keysFault_l0 (d0:Vector GCell 4):Int×(List Int)→Option ((Int×(List Int))⊕(Int⊕Unit))
  | (t9_0,seen3_0)=>(if t9_0 < (4:Int) then (show Option (Int⊕((List Int))) from if 0≤t9_0∧t9_0 < (4:Int) then (if (!((vrd d0 t9_0.toNat).Full))=true then some (.inr seen3_0) else (loopO (g_ref_keysFault_l1 d0 t9_0 seen3_0) (0:Int)).bind fun o'5=>match o'5 with | .inl y'6=>some (.inl y'6) | .inr (y'7)=>if 0 < ((vrd d0 t9_0.toNat).Row).length then if room (seen3_0.length+([(lrd ((vrd d0 t9_0.toNat).Row) 0).Int_]:List Int).length) 8 then some (.inr (seen3_0++([(lrd ((vrd d0 t9_0.toNat).Row) 0).Int_]:List Int))) else none else none) else none).bind fun o'9=>match o'9 with | .inl y'8=>some (.inr (.inl y'8)) | .inr j'1=>some (.inl (w64 (t9_0+(1:Int)),j'1)) else some (.inr (.inr ())))
noncomputable def g_ref_keysFault (d0:Vector GCell 4):Option (Int) :=
  (loopO (g_ref_keysFault_l0 d0) ((0:Int),([]:List Int))).bind fun o'13=>match o'13 with | .inl y'14=>some y'14 | .inr (y'15)=>some (0:Int)
theorem g_ref_keysFault_ac {d0:Vector GCell 4} {r:Int} (H:g_ref_keysFault d0=some r):ACp Tryz.prog 24 [(.agg (d0.toList.flatMap GCell.cs))] (AV.int r):=by
 refine ACp_of (AC2_of_body (vs:=[.i r]) Tryz.func24 Y Y (lb Y) Y ?_) (fun _=>.same _)
 unfold g_ref_keysFault at H
 refine as2 [0] [.g (d0.toList.flatMap GCell.cs)] [] [] Y (sg 2 Y (rq Y (bx 1 Y) (ra Y (rz [1] [.q 1 (0)] [1] [.pure (d0.toList.flatMap GCell.cs)] Y (sg 1 Y (rp Y (p_asgn Y) (rz [1,3] [_,.p .nil] [1] [_] Y (QS (sg 2 Y (rp Y (pL U26 Y in_26 (Sub.refl _) (vfm_len GCell.len d0)) (rm Y (rz [3,8,9] [_,.g (d0.toList.flatMap GCell.cs),.i 0] [] [] Y (QB (as2 [3,8,9] [_,_,_] [] [] Y (AW2_gho (Gho_own (d:=3) (b:=3) (z:=1) Y Y Y Y) (AW2_st [(3,.c (.own 3 ([]:List Int).length 1)),(8,.g (d0.toList.flatMap GCell.cs)),(9,.i 0)] [(3,.pure (([]:List Int).map AV.int))] Y ⟨TLes.own Y,TLes.same _,TLes.same _,trivial⟩ ⟨Y,trivial⟩ (bindK H fun o'13 h12 H=>AW2_loopO (fun a'10:Int×(List Int)=>(⟨[(3,.c (.own 3 a'10.2.length 1)),(8,.g (d0.toList.flatMap GCell.cs)),(9,.i a'10.1)],[(3,.pure (a'10.2.map AV.int))],38⟩:TS)) (fun (o:Int⊕Unit) e s'=>match o with | .inl y'11=>e=Go.Exit.ret∧ResAll Tryz.prog s' [ResultVar.tmp 2] [.i y'11]∧HFits s' [] | .inr (y'12)=>e=Go.Exit.exit 0∧s'=(⟨[],[],38⟩:TS)) h12 Y (fun a x hx=>?_) (fun e s' hs=>?_))))))))))))))))))
 ·clear H
  obtain ⟨t9_0,seen3_0⟩:=a
  have H:=hx
  clear hx
  unfold g_ref_keysFault_l0 at H
  refine sg 1 Y (rp Y (pb Y Y) (rz [3,8,9,10] [.c (.own 3 seen3_0.length 1),.g (d0.toList.flatMap GCell.cs),.i t9_0,.b (decide (t9_0 < 4))] [3] [.pure (seen3_0.map AV.int)] Y (QS (if2 H Y (fun h1 H=>?_) (fun h1 H=>?_)))))
  ·refine as2 [3,8,9] [_,_,_] [3] [_] Y (QK (QS (bindK H fun o'9 h2 H=>AW2_join (fun j'1:(List Int)=>(⟨[(3,.c (.own 3 j'1.length 1)),(8,.g (d0.toList.flatMap GCell.cs)),(9,.i t9_0)],[(3,.pure (j'1.map AV.int))],38⟩:TS)) (fun r e s'=>e=Go.Exit.ret∧ResAll Tryz.prog s' [ResultVar.tmp 2] [.i r]∧HFits s' []) (x:=o'9) ?_ (fun j'1 hy=>?_) (fun y'8 e s' hy hs=>?_))))
   ·clear H
    have H:=h2
    clear h2
    refine QB (sg 3 Y (chkK H fun h3 H=>rp Y (u_ixaa Y Y U26 in_25 U25 Y Y Y (ixe h3) (ixn h3) (Sub.vfm GCell.len (ixn h3)) (GCell.len (vrd d0 t9_0.toNat))) (rq Y (al 5 in_25 one_25 zc_25 Y) (rq Y (u_sw Y Y in_25 (GCell.len (vrd d0 t9_0.toNat)) (GCell.len GCell.zero)) (rz [3,5,8,9] [.c (.own 3 seen3_0.length 1),.q 5 (0),.g (d0.toList.flatMap GCell.cs),.i t9_0] [3,5] [.pure (seen3_0.map AV.int),.pure (GCell.cs (vrd d0 t9_0.toNat))] Y (QS (sg 3 Y (rf Y U25 Y in_4 Y Y (GCell.len (vrd d0 t9_0.toNat)) (rp Y (pl U4 Y (GCell.sub0 (vrd d0 t9_0.toNat))) (rp Y (p_not Y Y) (rz [3,5,8,9,14] [_,_,_,_,.b (!((vrd d0 t9_0.toNat).Full))] [3,5] [_,_] Y (AW2_cond Y (fun h4=>?_) (fun h4=>?_)))))))))))))
    ·replace H:=ite_then h4 H
     refine as2 [3,8,9] [.c (.own 3 seen3_0.length 1),.g (d0.toList.flatMap GCell.cs),.i t9_0] [3] [.pure (seen3_0.map AV.int)] Y (AW2_exit (thenQ2_exit (blockQ2_exit ?_)))
     have z:=se H;subst z
     exact ⟨Y,Y⟩
    replace H:=ite_else (ne_true h4) H
    refine as2 [3,5,8,9] [.c (.own 3 seen3_0.length 1),.q 5 (0),.g (d0.toList.flatMap GCell.cs),.i t9_0] [3,5] [.pure (seen3_0.map AV.int),.pure (GCell.cs (vrd d0 t9_0.toNat))] Y (QK (QS (sg 3 Y (rm Y (rp Y (p_leno Y U76 Y Y Y (ml AV.int seen3_0) (by decide)) (rm Y (rz [3,5,8,9,15,16,17] [_,_,_,_,.c (.own 3 seen3_0.length 1),.i (seen3_0.length:Int),.i 0] [3,5] [_,_] Y (QB (as2 [3,5,8,9,15,16,17] [_,_,_,_,_,_,_] [3,5] [_,_] Y (bindK H fun o'5 h9 H=>AW2_loopO (fun a'2:Int=>(⟨[(3,.c (.own 3 seen3_0.length 1)),(5,.q 5 (0)),(8,.g (d0.toList.flatMap GCell.cs)),(9,.i t9_0),(15,.c (.own 3 seen3_0.length 1)),(16,.i (seen3_0.length:Int)),(17,.i a'2)],[(3,.pure (seen3_0.map AV.int)),(5,.pure (GCell.cs (vrd d0 t9_0.toNat)))],38⟩:TS)) (fun (o:Int⊕Unit) e s'=>match o with | .inl y'3=>e=Go.Exit.ret∧ResAll Tryz.prog s' [ResultVar.tmp 2] [.i y'3]∧HFits s' [] | .inr (y'4)=>e=Go.Exit.exit 2∧s'=(⟨[(3,.c (.own 3 seen3_0.length 1)),(5,.q 5 (0)),(8,.g (d0.toList.flatMap GCell.cs)),(9,.i t9_0)],[(3,.pure (seen3_0.map AV.int)),(5,.pure (GCell.cs (vrd d0 t9_0.toNat)))],38⟩:TS)) h9 Y (fun t17_1 x hx=>?_) (fun e s' hs=>?_)))))))))))
    ·clear H
     have H:=hx
     clear hx
     unfold g_ref_keysFault_l1 at H
     refine sg 1 Y (rp Y (pb Y Y) (rz [3,5,8,9,15,16,17,18] [.c (.own 3 seen3_0.length 1),.q 5 (0),.g (d0.toList.flatMap GCell.cs),.i t9_0,.c (.own 3 seen3_0.length 1),.i (seen3_0.length:Int),.i t17_1,.b (decide (t17_1 < (seen3_0.length:Int)))] [3,5] [.pure (seen3_0.map AV.int),.pure (GCell.cs (vrd d0 t9_0.toNat))] Y (QS (if2 H Y (fun h5 H=>?_) (fun h5 H=>?_)))))
     ·refine as2 [3,5,8,9,15,16,17] [_,_,_,_,_,_,_] [3,5] [_,_] Y (QK (QS (QB (sg 3 Y (chkK H fun h6 H=>rp Y (u_ixo Y Y U76 in_3 Y Y (lne (ixn h6)) Y (ixe h6) (ixn h6)) (rp Y (pl U3 Y ((Sub.refl _).trans (Sub.map default (ixn h6)))) (ra Y (rz [3,5,7,8,9,15,16,17] [_,_,.i (lrd seen3_0 t17_1.toNat),_,_,_,_,_] [3,5] [_,_] Y (sg 7 Y (rm Y (rf Y U25 Y in_23 Y Y (GCell.len (vrd d0 t9_0.toNat)) (rp Y (pl U23 Y (GCell.sub1 (vrd d0 t9_0.toNat))) (chkK H fun h7 H=>rp Y (u_ixl Y Y U23 in_32 Y Y Y h7 (fne GValue.len (by decide) h7)) (rp Y (u_far Y Y U32 Y in_3 nz Y) (rp Y (pl U3 Y ((Sub.fm default GValue.len h7).trans (GValue.sub1 (lrd ((vrd d0 t9_0.toNat).Row) 0)))) (rp Y (pi Y) (rz [3,5,8,9,15,16,17,27] [_,_,_,_,_,_,_,.b (decide ((lrd seen3_0 t17_1.toNat)=(lrd ((vrd d0 t9_0.toNat).Row) 0).Int_))] [3,5] [_,_] Y (if2 H Y (fun h8 H=>?_) (fun h8 H=>?_)))))))))))))))))))
      ·refine sg 1 Y (ra Y (rz [2] [.i 8] [] [] Y (QR ?_)))
       have z:=se H;subst z
       exact ⟨Y,⟨rt,trivial⟩,trivial⟩
      refine as2 [3,5,8,9,15,16,17] [_,_,_,_,_,_,_] [3,5] [_,_] Y (QK (ar 2 Y (rp Y (pb Y Y) (rm Y (rz [3,5,8,9,15,16,17] [_,_,_,_,_,_,.i (w64 (t17_1+1))] [3,5] [_,_] Y ?_)))))
      have z:=se H;subst z
      exact ⟨Y,Y⟩
     refine as2 [3,5,8,9] [_,_,_,_] [3,5] [_,_] Y (AW2_exit (thenQ2_exit ?_))
     have z:=se H;subst z
     exact ⟨Y,Y⟩
    rcases o'5 with y'6 | y'7
    ·obtain ⟨rfl,hs⟩:=hs
     refine ⟨by simp,?_⟩
     have z:=se H;subst z
     exact ⟨Y,hs.1,hs.2⟩
    obtain ⟨rfl,rfl⟩:=hs
    refine ⟨by simp,?_⟩
    refine blockQ2_exit (ar 9 Y (rm Y (rf Y U25 Y in_23 Y Y (GCell.len (vrd d0 t9_0.toNat)) (rp Y (pl U23 Y (GCell.sub1 (vrd d0 t9_0.toNat))) (chkK H fun h10 H=>rp Y (u_ixl Y Y U23 in_32 Y Y Y h10 (fne GValue.len (by decide) h10)) (rp Y (u_far Y Y U32 Y in_3 nz Y) (rp Y (pl U3 Y ((Sub.fm default GValue.len h10).trans (GValue.sub1 (lrd ((vrd d0 t9_0.toNat).Row) 0)))) (rq Y (MakeD.opD (u_bs 35 Y U76 in_3 Y one_3 (by decide) (by decide) Y Y Y) Y Y Y Y) (chkK H fun h11 H=>rq Y (u_app [3,29] Y Y Y Y U76 U76 in_3 Y Y Y (ml AV.int seen3_0) (by decide) (srcT_o Y Y (ml AV.int ([(lrd ((vrd d0 t9_0.toNat).Row) 0).Int_]:List Int)) (by decide)) (ml AV.int ([(lrd ((vrd d0 t9_0.toNat).Row) 0).Int_]:List Int)) h11 (by decide) Y Y (mapp AV.int seen3_0 ([(lrd ((vrd d0 t9_0.toNat).Row) 0).Int_]:List Int)) (lapp seen3_0 ([(lrd ((vrd d0 t9_0.toNat).Row) 0).Int_]:List Int))) (ra Y (rz [3,8,9] [.c (.own 3 (seen3_0++([(lrd ((vrd d0 t9_0.toNat).Row) 0).Int_]:List Int)).length 1),.g (d0.toList.flatMap GCell.cs),.i t9_0] [3] [.pure ((seen3_0++([(lrd ((vrd d0 t9_0.toNat).Row) 0).Int_]:List Int)).map AV.int)] Y ?_)))))))))))
    have z:=se H;subst z
    exact ⟨Y,Y⟩
   ·subst hy
    refine ar 2 Y (rp Y (pb Y Y) (rm Y (rz [3,8,9] [.c (.own 3 j'1.length 1),.g (d0.toList.flatMap GCell.cs),.i (w64 (t9_0+1))] [3] [.pure (j'1.map AV.int)] Y ?_)))
    have z:=se H;subst z
    exact ⟨Y,Y⟩
   subst hy
   obtain ⟨rfl,hs⟩:=hs
   have z:=se H;subst z
   exact ⟨Y,hs.1,hs.2⟩
  refine as2 [] [] [] [] Y (AW2_exit (thenQ2_exit ?_))
  have z:=se H;subst z
  exact ⟨Y,Y⟩
 rcases o'13 with y'14 | y'15
 ·obtain ⟨rfl,hs⟩:=hs
  refine ⟨by simp,?_⟩
  have z:=se H;subst z
  exact ⟨hs.1,hs.2⟩
 obtain ⟨rfl,rfl⟩:=hs
 refine ⟨by simp,?_⟩
 refine blockQ2_exit (sg 1 Y (ra Y (rz [2] [.i 0] [] [] Y (QR ?_))))
 have z:=se H;subst z
 exact ⟨⟨rt,trivial⟩,trivial⟩
noncomputable def g_ref_TableFault_l1 (t0:GTable) (t52_0:Int):Int→Option (Int⊕(Int⊕Unit))
  | t56_1=>(if t56_1 < (4:Int) then (show Option (Int⊕Unit) from if 0≤t56_1∧t56_1 < (4:Int) then (if ((vrd (vrd t0.Drawers t52_0.toNat) t56_1.toNat).Full)=true then (g_ref_RowFault ((vrd (vrd t0.Drawers t52_0.toNat) t56_1.toNat).Row) t0.Cols).bind fun r'5=>(if r'5≠(0:Int) then some (.inl r'5) else some (.inr ())) else (if (((vrd (vrd t0.Drawers t52_0.toNat) t56_1.toNat).Row).length:Int)≠(0:Int) then some (.inl (3:Int)) else some (.inr ()))) else none).bind fun o'7=>match o'7 with | .inl y'6=>some (.inr (.inl y'6)) | .inr j'4=>some (.inl (w64 (t56_1+(1:Int)))) else some (.inr (.inr ())))
noncomputable def g_ref_TableFault_l0 (t0:GTable):Int→Option (Int⊕(Int⊕Unit))
  | t52_0=>(if t52_0 < (2:Int) then if 0≤t52_0∧t52_0 < (2:Int) then (loopO (g_ref_TableFault_l1 t0 t52_0) (0:Int)).bind fun o'11=>match o'11 with | .inl y'12=>some (.inr (.inl y'12)) | .inr (y'13)=>(g_ref_keysFault (vrd t0.Drawers t52_0.toNat)).bind fun r'14=>(if r'14≠(0:Int) then some (.inr (.inl r'14)) else some (.inl (w64 (t52_0+(1:Int))))) else none else some (.inr (.inr ())))
noncomputable def g_ref_TableFault (t0:GTable):Option (Int) :=
  (if (!t0.There)=true then some (5:Int) else (g_ref_isName t0.Name).bind fun r'1=>(if ((!r'1)=true)∨((t0.Name.length:Int) > (8:Int)) then some (3:Int) else (g_ref_ColumnsFault t0.Cols).bind fun r'2=>(if r'2≠(0:Int) then some r'2 else ((if (t0.Cols.length:Int)=(0:Int) then some true else if 0 < t0.Cols.length then (if (lrd t0.Cols 0).Kind≠(2:Int) then some true else if 0 < t0.Cols.length then some ((lrd t0.Cols 0).Null) else none) else none)).bind fun g'3=>(if g'3=true then some (3:Int) else (loopO (g_ref_TableFault_l0 t0) (0:Int)).bind fun o'18=>match o'18 with | .inl y'19=>some y'19 | .inr (y'20)=>some (0:Int)))))
theorem g_ref_TableFault_ac {t0:GTable} {r:Int} (H:g_ref_TableFault t0=some r):ACp Tryz.prog 32 [(.agg (GTable.cs t0))] (AV.int r):=by
 refine ACp_of (AC2_of_body (vs:=[.i r]) Tryz.func32 Y Y (lb Y) Y ?_) (fun _=>.same _)
 unfold g_ref_TableFault at H
 refine as2 [0] [.g (GTable.cs t0)] [] [] Y (sg 2 Y (rq Y (bx 1 Y) (ra Y (rz [1] [.q 1 (0)] [1] [.pure (GTable.cs t0)] Y (QS (QB (sg 4 Y (rf Y U29 Y in_4 Y Y (GTable.len t0) (rp Y (pl U4 Y (GTable.sub0 t0)) (rp Y (p_not Y Y) (ra Y (rz [1,10] [_,.b (!t0.There)] [1] [_] Y (AW2_cond Y (fun h1=>?_) (fun h1=>?_))))))))))))))
 ·replace H:=ite_then h1 H
  refine sg 1 Y (ra Y (rz [2] [.i 5] [] [] Y (QR ?_)))
  have z:=se H;subst z
  exact ⟨⟨rt,trivial⟩,trivial⟩
 replace H:=ite_else (ne_true h1) H
 refine QS (bindK H fun r'1 h2 H=>AW2_mid (⟨[(1,.q 1 (0)),(14,.b (decide (((!r'1)=true)∨((t0.Name.length:Int) > 8))))],[(1,.pure (GTable.cs t0))],80⟩:TS) ?_ ?_)
 ·refine ar 11 Y (rf Y U29 Y in_9 Y Y (GTable.len t0) (rp Y (pl U9 Y (GTable.sub1 t0)) (rp Y (pc Y Tryz.func46 Y (g_ref_isName_ac h2) Y) (rp Y (p_not Y Y) (rm Y ?_)))))
  refine (Classical.em ((!r'1)=true)).elim (fun h3=>?_) (fun h3=>?_)
  ·exact rO Y h3 Y (rO Y h3 Y (rO Y h3 Y (rO Y h3 Y (rp Y (p_pkt Y Y h3 (tb (dT (p:=((!r'1)=true)∨((t0.Name.length:Int) > 8)) (Or.inl h3)).symm)) (ra Y (rend Y Y))))))
  exact rn Y (bfalse h3) Y (uf U29 Y in_9 Y (GTable.len t0)) (rn Y (bfalse h3) Y (pl U9 Y (GTable.sub1 t0)) (rn Y (bfalse h3) Y (p_lent Y U9 Y) (rn Y (bfalse h3) Y (pb Y Y) (rp Y (p_pkf Y Y (bfalse h3) (tb ((or_l (q:=(t0.Name.length:Int) > 8) h3)))) (ra Y (rend Y Y))))))
 refine if2 H Y (fun h4 H=>?_) (fun h4 H=>?_)
 ·refine sg 1 Y (ra Y (rz [2] [.i 3] [] [] Y (QR ?_)))
  have z:=se H;subst z
  exact ⟨⟨rt,trivial⟩,trivial⟩
 refine as2 [1] [_] [1] [_] Y (QK (QS (sg 4 Y (rf Y U29 Y in_22 Y Y (GTable.len t0) (rp Y (pl U22 Y (GTable.sub2 t0)) (bindK H fun r'2 h5 H=>rp Y (pc Y Tryz.func34 Y (g_ref_ColumnsFault_ac h5) Y) (ra Y (rz [1,3] [_,.i r'2] [1] [_] Y (sg 2 Y (rm Y (rp Y (pn Y) (rz [1,3,29] [_,_,.b (decide (r'2≠0))] [1] [_] Y (if2 H Y (fun h6 H=>?_) (fun h6 H=>?_))))))))))))))
 ·refine sg 2 Y (rm Y (ra Y (rz [2] [.i r'2] [] [] Y (QR ?_))))
  have z:=se H;subst z
  exact ⟨⟨rt,trivial⟩,trivial⟩
 refine as2 [1] [_] [1] [_] Y (QK (QS (QS (bindK H fun g'3 h12 H=>AW2_mid (⟨[(1,.q 1 (0)),(49,.b g'3)],[(1,.pure (GTable.cs t0))],80⟩:TS) ?_ ?_))))
 ·clear H
  have H:=h12
  clear h12
  refine ar 19 Y (rf Y U29 Y in_22 Y Y (GTable.len t0) (rp Y (pl U22 Y (GTable.sub2 t0)) (rp Y (p_lenl Y U22 Y Y) (rp Y (pi Y) (rm Y (em2 H (fun h8 H=>?_) (fun h8 H=>?_)))))))
  ·refine rO Y (dT h8) Y (rO Y (dT h8) Y (rO Y (dT h8) Y (rO Y (dT h8) Y (rO Y (dT h8) Y (rO Y (dT h8) Y (rp Y (p_pkt Y Y (dT h8) (.same _)) (rm Y (rO Y Y Y (rO Y Y Y (rO Y Y Y (rO Y Y Y (rO Y Y Y (rp Y (p_pkt Y Y Y (.same _)) (rs [1,49] [.q 1 (0),.b true] [1] [.pure (GTable.cs t0)] Y ?_))))))))))))))
   have z:=se H;subst z
   exact RunW_nil rfl
  refine rn Y (dF h8) Y (uf U29 Y in_22 Y (GTable.len t0)) (rn Y (dF h8) Y (pl U22 Y (GTable.sub2 t0)) (chkK H fun h9 H=>rn Y (dF h8) Y (u_ixl Y Y U22 in_63 Y Y Y h9 (fne GColumn.len (by decide) h9)) (rn Y (dF h8) Y (u_far Y Y U63 Y in_3 nz Y) (rn Y (dF h8) Y (pl U3 Y ((Sub.fm default GColumn.len h9).trans (GColumn.sub1 (lrd t0.Cols 0)))) (rn Y (dF h8) Y (pn Y) (rp Y (p_pkf Y Y (dF h8) (.same _)) (rm Y (em2 H (fun h10 H=>?_) (fun h10 H=>?_)))))))))
  ·refine rO Y (dT h10) Y (rO Y (dT h10) Y (rO Y (dT h10) Y (rO Y (dT h10) Y (rO Y (dT h10) Y (rp Y (p_pkt Y Y (dT h10) (.same _)) (rs [1,49] [.q 1 (0),.b true] [1] [.pure (GTable.cs t0)] Y ?_))))))
   have z:=se H;subst z
   exact RunW_nil rfl
  refine rn Y (dF h10) Y (uf U29 Y in_22 Y (GTable.len t0)) (rn Y (dF h10) Y (pl U22 Y (GTable.sub2 t0)) (chkK H fun h11 H=>rn Y (dF h10) Y (u_ixl Y Y U22 in_63 Y Y Y h11 (fne GColumn.len (by decide) h11)) (rn Y (dF h10) Y (u_far Y Y U63 Y in_4 nz Y) (rn Y (dF h10) Y (pl U4 Y ((Sub.fm default GColumn.len h11).trans (GColumn.sub2 (lrd t0.Cols 0)))) (rp Y (p_pkf Y Y (dF h10) (.same _)) (rs [1,49] [.q 1 (0),.b ((lrd t0.Cols 0).Null)] [1] [.pure (GTable.cs t0)] Y ?_))))))
  have z:=se H;subst z
  exact RunW_nil rfl
 refine AW2_cond Y (fun h13=>?_) (fun h13=>?_)
 ·replace H:=ite_then h13 H
  refine sg 1 Y (ra Y (rz [2] [.i 3] [] [] Y (QR ?_)))
  have z:=se H;subst z
  exact ⟨⟨rt,trivial⟩,trivial⟩
 replace H:=ite_else (ne_true h13) H
 refine as2 [1] [.q 1 (0)] [1] [.pure (GTable.cs t0)] Y (QK (QS (sg 3 Y (rf Y U29 Y in_27 Y Y (GTable.len t0) (rp Y (pL U27 Y in_27 (GTable.sub3 t0) (vfm_len (fun x=>(vfm_len GCell.len x)) t0.Drawers)) (rm Y (rz [1,51,52] [_,.g (t0.Drawers.toList.flatMap (fun v:Vector GCell 4=>v.toList.flatMap GCell.cs)),.i 0] [1] [_] Y (QB (as2 [1,51,52] [_,_,_] [1] [_] Y (bindK H fun o'18 h26 H=>AW2_loopO (fun a'15:Int=>(⟨[(1,.q 1 (0)),(51,.g (t0.Drawers.toList.flatMap (fun v:Vector GCell 4=>v.toList.flatMap GCell.cs))),(52,.i a'15)],[(1,.pure (GTable.cs t0))],80⟩:TS)) (fun (o:Int⊕Unit) e s'=>match o with | .inl y'16=>e=Go.Exit.ret∧ResAll Tryz.prog s' [ResultVar.tmp 2] [.i y'16]∧HFits s' [] | .inr (y'17)=>e=Go.Exit.exit 1∧s'=(⟨[],[],80⟩:TS)) h26 Y (fun t52_0 x hx=>?_) (fun e s' hs=>?_)))))))))))
 ·clear H
  have H:=hx
  clear hx
  unfold g_ref_TableFault_l0 at H
  refine sg 1 Y (rp Y (pb Y Y) (rz [1,51,52,53] [.q 1 (0),.g (t0.Drawers.toList.flatMap (fun v:Vector GCell 4=>v.toList.flatMap GCell.cs)),.i t52_0,.b (decide (t52_0 < 2))] [1] [.pure (GTable.cs t0)] Y (QS (if2 H Y (fun h14 H=>?_) (fun h14 H=>?_)))))
  ·refine as2 [1,51,52] [_,_,_] [1] [_] Y (QK (QS (QB (sg 3 Y (chkK H fun h15 H=>rp Y (u_ixaa Y Y U27 in_26 U26 Y Y Y (ixe h15) (ixn h15) (Sub.vfm (fun x=>(vfm_len GCell.len x)) (ixn h15)) (vfm_len GCell.len (vrd t0.Drawers t52_0.toNat))) (rq Y (al 5 in_26 one_26 zc_26 Y) (rq Y (u_sw Y Y in_26 (vfm_len GCell.len (vrd t0.Drawers t52_0.toNat)) (vfm_len GCell.len (Vector.replicate 4 GCell.zero))) (rz [1,5,51,52] [_,.q 5 (0),_,_] [1,5] [_,.pure (((vrd t0.Drawers t52_0.toNat).toList).flatMap GCell.cs)] Y (QS (sg 2 Y (rp Y (pL U26 Y in_26 (Sub.refl _) (vfm_len GCell.len (vrd t0.Drawers t52_0.toNat))) (rm Y (rz [1,5,51,52,55,56] [_,_,_,_,.g (((vrd t0.Drawers t52_0.toNat).toList).flatMap GCell.cs),.i 0] [1,5] [_,_] Y (QB (as2 [1,5,51,52,55,56] [_,_,_,_,_,_] [1,5] [_,_] Y (bindK H fun o'11 h23 H=>AW2_loopO (fun a'8:Int=>(⟨[(1,.q 1 (0)),(5,.q 5 (0)),(51,.g (t0.Drawers.toList.flatMap (fun v:Vector GCell 4=>v.toList.flatMap GCell.cs))),(52,.i t52_0),(55,.g (((vrd t0.Drawers t52_0.toNat).toList).flatMap GCell.cs)),(56,.i a'8)],[(1,.pure (GTable.cs t0)),(5,.pure (((vrd t0.Drawers t52_0.toNat).toList).flatMap GCell.cs))],80⟩:TS)) (fun (o:Int⊕Unit) e s'=>match o with | .inl y'9=>e=Go.Exit.ret∧ResAll Tryz.prog s' [ResultVar.tmp 2] [.i y'9]∧HFits s' [] | .inr (y'10)=>e=Go.Exit.exit 3∧s'=(⟨[(1,.q 1 (0)),(5,.q 5 (0)),(51,.g (t0.Drawers.toList.flatMap (fun v:Vector GCell 4=>v.toList.flatMap GCell.cs))),(52,.i t52_0)],[(1,.pure (GTable.cs t0)),(5,.pure (((vrd t0.Drawers t52_0.toNat).toList).flatMap GCell.cs))],80⟩:TS)) h23 Y (fun t56_1 x hx=>?_) (fun e s' hs=>?_)))))))))))))))))
   ·clear H
    have H:=hx
    clear hx
    unfold g_ref_TableFault_l1 at H
    refine sg 1 Y (rp Y (pb Y Y) (rz [1,5,51,52,55,56,57] [.q 1 (0),.q 5 (0),.g (t0.Drawers.toList.flatMap (fun v:Vector GCell 4=>v.toList.flatMap GCell.cs)),.i t52_0,.g (((vrd t0.Drawers t52_0.toNat).toList).flatMap GCell.cs),.i t56_1,.b (decide (t56_1 < 4))] [1,5] [.pure (GTable.cs t0),.pure (((vrd t0.Drawers t52_0.toNat).toList).flatMap GCell.cs)] Y (QS (if2 H Y (fun h16 H=>?_) (fun h16 H=>?_)))))
    ·refine as2 [1,5,51,52,55,56] [_,_,_,_,_,_] [1,5] [_,_] Y (QK (QS (bindK H fun o'7 h17 H=>AW2_join (fun j'4:Unit=>(⟨[(1,.q 1 (0)),(5,.q 5 (0)),(51,.g (t0.Drawers.toList.flatMap (fun v:Vector GCell 4=>v.toList.flatMap GCell.cs))),(52,.i t52_0),(55,.g (((vrd t0.Drawers t52_0.toNat).toList).flatMap GCell.cs)),(56,.i t56_1)],[(1,.pure (GTable.cs t0)),(5,.pure (((vrd t0.Drawers t52_0.toNat).toList).flatMap GCell.cs))],80⟩:TS)) (fun r e s'=>e=Go.Exit.ret∧ResAll Tryz.prog s' [ResultVar.tmp 2] [.i r]∧HFits s' []) (x:=o'7) ?_ (fun j'4 hy=>?_) (fun y'6 e s' hy hs=>?_))))
     ·clear H
      have H:=h17
      clear h17
      refine QB (sg 3 Y (chkK H fun h18 H=>rp Y (u_ixaa Y Y U26 in_25 U25 Y Y Y (ixe h18) (ixn h18) (Sub.vfm GCell.len (ixn h18)) (GCell.len (vrd (vrd t0.Drawers t52_0.toNat) t56_1.toNat))) (rq Y (al 7 in_25 one_25 zc_25 Y) (rq Y (u_sw Y Y in_25 (GCell.len (vrd (vrd t0.Drawers t52_0.toNat) t56_1.toNat)) (GCell.len GCell.zero)) (rz [1,5,7,51,52,55,56] [.q 1 (0),.q 5 (0),.q 7 (0),.g (t0.Drawers.toList.flatMap (fun v:Vector GCell 4=>v.toList.flatMap GCell.cs)),.i t52_0,.g (((vrd t0.Drawers t52_0.toNat).toList).flatMap GCell.cs),.i t56_1] [1,5,7] [.pure (GTable.cs t0),.pure (((vrd t0.Drawers t52_0.toNat).toList).flatMap GCell.cs),.pure (GCell.cs (vrd (vrd t0.Drawers t52_0.toNat) t56_1.toNat))] Y (sg 2 Y (rf Y U25 Y in_4 Y Y (GCell.len (vrd (vrd t0.Drawers t52_0.toNat) t56_1.toNat)) (rp Y (pl U4 Y (GCell.sub0 (vrd (vrd t0.Drawers t52_0.toNat) t56_1.toNat))) (rz [1,5,7,51,52,55,56,60] [_,_,_,_,_,_,_,.b ((vrd (vrd t0.Drawers t52_0.toNat) t56_1.toNat).Full)] [1,5,7] [_,_,_] Y (AW2_cond Y (fun h19=>?_) (fun h19=>?_)))))))))))
      ·replace H:=ite_then h19 H
       refine sg 6 Y (rf Y U25 Y in_23 Y Y (GCell.len (vrd (vrd t0.Drawers t52_0.toNat) t56_1.toNat)) (rp Y (pl U23 Y (GCell.sub1 (vrd (vrd t0.Drawers t52_0.toNat) t56_1.toNat))) (rf Y U29 Y in_22 Y Y (GTable.len t0) (rp Y (pl U22 Y (GTable.sub2 t0)) (bindK H fun r'5 h20 H=>rp Y (pc Y Tryz.func36 Y (g_ref_RowFault_ac h20) Y) (ra Y (rz [1,5,8,51,52,55,56] [.q 1 (0),.q 5 (0),.i r'5,.g (t0.Drawers.toList.flatMap (fun v:Vector GCell 4=>v.toList.flatMap GCell.cs)),.i t52_0,.g (((vrd t0.Drawers t52_0.toNat).toList).flatMap GCell.cs),.i t56_1] [1,5] [.pure (GTable.cs t0),.pure (((vrd t0.Drawers t52_0.toNat).toList).flatMap GCell.cs)] Y (sg 2 Y (rm Y (rp Y (pn Y) (rz [1,5,8,51,52,55,56,67] [_,_,_,_,_,_,_,.b (decide (r'5≠0))] [1,5] [_,_] Y (if2 H Y (fun h21 H=>?_) (fun h21 H=>?_)))))))))))))
       ·refine sg 2 Y (rm Y (ra Y (rz [2] [.i r'5] [] [] Y (QR ?_))))
        have z:=se H;subst z
        exact ⟨Y,⟨rt,trivial⟩,trivial⟩
       refine as2 [1,5,51,52,55,56] [_,_,_,_,_,_] [1,5] [_,_] Y (QK ?_)
       have z:=se H;subst z
       exact ⟨Y,Y⟩
      replace H:=ite_else (ne_true h19) H
      refine sg 4 Y (rf Y U25 Y in_23 Y Y (GCell.len (vrd (vrd t0.Drawers t52_0.toNat) t56_1.toNat)) (rp Y (pl U23 Y (GCell.sub1 (vrd (vrd t0.Drawers t52_0.toNat) t56_1.toNat))) (rp Y (p_lenl Y U23 Y Y) (rp Y (pn Y) (rz [1,5,51,52,55,56,72] [.q 1 (0),.q 5 (0),.g (t0.Drawers.toList.flatMap (fun v:Vector GCell 4=>v.toList.flatMap GCell.cs)),.i t52_0,.g (((vrd t0.Drawers t52_0.toNat).toList).flatMap GCell.cs),.i t56_1,.b (decide ((((vrd (vrd t0.Drawers t52_0.toNat) t56_1.toNat).Row).length:Int)≠0))] [1,5] [.pure (GTable.cs t0),.pure (((vrd t0.Drawers t52_0.toNat).toList).flatMap GCell.cs)] Y (if2 H Y (fun h22 H=>?_) (fun h22 H=>?_)))))))
      ·refine sg 1 Y (ra Y (rz [2] [.i 3] [] [] Y (QR ?_)))
       have z:=se H;subst z
       exact ⟨Y,⟨rt,trivial⟩,trivial⟩
      refine as2 [1,5,51,52,55,56] [_,_,_,_,_,_] [1,5] [_,_] Y (QK ?_)
      have z:=se H;subst z
      exact ⟨Y,Y⟩
     ·subst hy
      refine ar 2 Y (rp Y (pb Y Y) (rm Y (rz [1,5,51,52,55,56] [.q 1 (0),.q 5 (0),.g (t0.Drawers.toList.flatMap (fun v:Vector GCell 4=>v.toList.flatMap GCell.cs)),.i t52_0,.g (((vrd t0.Drawers t52_0.toNat).toList).flatMap GCell.cs),.i (w64 (t56_1+1))] [1,5] [.pure (GTable.cs t0),.pure (((vrd t0.Drawers t52_0.toNat).toList).flatMap GCell.cs)] Y ?_)))
      have z:=se H;subst z
      exact ⟨Y,Y⟩
     subst hy
     obtain ⟨rfl,hs⟩:=hs
     have z:=se H;subst z
     exact ⟨Y,hs.1,hs.2⟩
    refine as2 [1,5,51,52] [_,_,_,_] [1,5] [_,_] Y (AW2_exit (thenQ2_exit ?_))
    have z:=se H;subst z
    exact ⟨Y,Y⟩
   rcases o'11 with y'12 | y'13
   ·obtain ⟨rfl,hs⟩:=hs
    refine ⟨by simp,?_⟩
    have z:=se H;subst z
    exact ⟨Y,hs.1,hs.2⟩
   obtain ⟨rfl,rfl⟩:=hs
   refine ⟨by simp,?_⟩
   refine blockQ2_exit (sg 3 Y (rp Y (pL U26 Y in_26 (Sub.refl _) (vfm_len GCell.len (vrd t0.Drawers t52_0.toNat))) (bindK H fun r'14 h24 H=>rp Y (pc Y Tryz.func24 Y (g_ref_keysFault_ac h24) Y) (ra Y (rz [1,9,51,52] [.q 1 (0),.i r'14,.g (t0.Drawers.toList.flatMap (fun v:Vector GCell 4=>v.toList.flatMap GCell.cs)),.i t52_0] [1] [.pure (GTable.cs t0)] Y (sg 2 Y (rm Y (rp Y (pn Y) (rz [1,9,51,52,77] [_,_,_,_,.b (decide (r'14≠0))] [1] [_] Y (if2 H Y (fun h25 H=>?_) (fun h25 H=>?_)))))))))))
   ·refine sg 2 Y (rm Y (ra Y (rz [2] [.i r'14] [] [] Y (QR ?_))))
    have z:=se H;subst z
    exact ⟨Y,⟨rt,trivial⟩,trivial⟩
   refine as2 [1,51,52] [_,_,_] [1] [_] Y (QK (ar 2 Y (rp Y (pb Y Y) (rm Y (rz [1,51,52] [_,_,.i (w64 (t52_0+1))] [1] [_] Y ?_)))))
   have z:=se H;subst z
   exact ⟨Y,Y⟩
  refine as2 [] [] [] [] Y (AW2_exit (thenQ2_exit ?_))
  have z:=se H;subst z
  exact ⟨Y,Y⟩
 rcases o'18 with y'19 | y'20
 ·obtain ⟨rfl,hs⟩:=hs
  refine ⟨by simp,?_⟩
  have z:=se H;subst z
  exact ⟨hs.1,hs.2⟩
 obtain ⟨rfl,rfl⟩:=hs
 refine ⟨by simp,?_⟩
 refine blockQ2_exit (sg 1 Y (ra Y (rz [2] [.i 0] [] [] Y (QR ?_))))
 have z:=se H;subst z
 exact ⟨⟨rt,trivial⟩,trivial⟩
noncomputable def g_ref_ready (t0:GTable) (drawer1:Int):Option (Int) :=
  (g_ref_TableFault t0).bind fun r'1=>(if r'1≠(0:Int) then some r'1 else (if (drawer1≠(0:Int))∧(drawer1≠(1:Int)) then some (6:Int) else some (0:Int)))
theorem g_ref_ready_ac {t0:GTable} {drawer1:Int} {r:Int} (H:g_ref_ready t0 drawer1=some r):ACp Tryz.prog 13 [(.agg (GTable.cs t0)),(AV.int drawer1)] (AV.int r):=by
 refine ACp_of (AC2_of_body (vs:=[.i r]) Tryz.func13 Y Y (lb Y) Y ?_) (fun _=>.same _)
 unfold g_ref_ready at H
 refine as2 [0,1] [.g (GTable.cs t0),.i drawer1] [] [] Y (sg 2 Y (rq Y (bx 2 Y) (ra Y (rz [1,2] [_,.q 2 (0)] [2] [.pure (GTable.cs t0)] Y (QS (sg 3 Y (rp Y (pL U29 Y in_29 (Sub.refl _) (GTable.len t0)) (bindK H fun r'1 h1 H=>rp Y (pc Y Tryz.func32 Y (g_ref_TableFault_ac h1) Y) (ra Y (rz [1,5] [_,.i r'1] [] [] Y (sg 2 Y (rm Y (rp Y (pn Y) (rz [1,5,9] [_,_,.b (decide (r'1≠0))] [] [] Y (if2 H Y (fun h2 H=>?_) (fun h2 H=>?_))))))))))))))))
 ·refine sg 2 Y (rm Y (ra Y (rz [4] [.i r'1] [] [] Y (QR ?_))))
  have z:=se H;subst z
  exact ⟨⟨rt,trivial⟩,trivial⟩
 refine as2 [1] [_] [] [] Y (QK (QS (QS (AW2_mid (⟨[(16,.b (decide ((drawer1≠0)∧(drawer1≠1))))],[],17⟩:TS) ?_ ?_))))
 ·refine ar 6 Y (rm Y (rp Y (pn Y) (rm Y ?_)))
  refine (Classical.em (drawer1≠0)).elim (fun h3=>?_) (fun h3=>?_)
  ·exact rn Y (dT h3) Y (p_move Y Y) (rn Y (dT h3) Y (pn Y) (rp Y (p_pkt Y Y (dT h3) (tb ((and_l (q:=drawer1≠1) h3)))) (rend Y Y)))
  exact rO Y (dF h3) Y (rO Y (dF h3) Y (rp Y (p_pkf Y Y (dF h3) (tb (dF (p:=(drawer1≠0)∧(drawer1≠1)) (fun x=>h3 x.1)).symm)) (rend Y Y)))
 refine if2 H Y (fun h4 H=>?_) (fun h4 H=>?_)
 ·refine sg 1 Y (ra Y (rz [4] [.i 6] [] [] Y (QR ?_)))
  have z:=se H;subst z
  exact ⟨⟨rt,trivial⟩,trivial⟩
 refine as2 [] [] [] [] Y (QK (sg 1 Y (ra Y (rz [4] [.i 0] [] [] Y (QR ?_)))))
 have z:=se H;subst z
 exact ⟨⟨rt,trivial⟩,trivial⟩
noncomputable def g_ref_noExpr (e0:GExpr):Option (Bool) :=
  some (decide ((((e0.Op=(0:Int))∧(e0.Value=GValue.zero))∧(e0.Name=[]))∧((e0.Args.length:Int)=(0:Int))))
theorem g_ref_noExpr_ac {e0:GExpr} {r:Bool} (H:g_ref_noExpr e0=some r):ACp Tryz.prog 33 [(.agg (GExpr.cs e0))] (AV.bool r):=by
 refine ACp_of (AC2_of_body (vs:=[.b r]) Tryz.func33 Y Y (lb Y) Y ?_) (fun _=>.same _)
 unfold g_ref_noExpr at H
 refine as2 [0] [.g (GExpr.cs e0)] [] [] Y (sg 2 Y (rq Y (bx 1 Y) (ra Y (rz [1] [.q 1 (0)] [1] [.pure (GExpr.cs e0)] Y (QS (AW2_mid (⟨[(2,.b (decide ((((e0.Op=0)∧(e0.Value=GValue.zero))∧(e0.Name=[]))∧((e0.Args.length:Int)=0))))],[],23⟩:TS) ?_ ?_))))))
 ·refine ar 21 Y (rf Y U35 Y in_3 Y Y (GExpr.len e0) (rp Y (pl U3 Y (GExpr.sub0 e0)) (rp Y (pi Y) (rm Y ?_))))
  refine (Classical.em (e0.Op=0)).elim (fun h1=>?_) (fun h1=>?_)
  ·refine rn Y (dT h1) Y (uf U35 Y in_32 Y (GExpr.len e0)) (rn Y (dT h1) Y (pL U32 Y in_32 (GExpr.sub1 e0) (GValue.len e0.Value)) (rn Y (dT h1) Y (u_bld Y in_32 one_32 zc_32 pl_32 Y Y) (rn Y (dT h1) Y (p_eqa (a:=e0.Value) (b:=GValue.zero) Y eq_32 Y (by kernel_rfl) Y Y) (rp Y (p_pkt Y Y (dT h1) (tb ((and_l (q:=e0.Value=GValue.zero) h1)))) (rm Y ?_)))))
   refine (Classical.em (e0.Value=GValue.zero)).elim (fun h2=>?_) (fun h2=>?_)
   ·refine rn Y (dT (p:=(e0.Op=0)∧(e0.Value=GValue.zero)) ⟨h1,h2⟩) Y (uf U35 Y in_9 Y (GExpr.len e0)) (rn Y (dT (p:=(e0.Op=0)∧(e0.Value=GValue.zero)) ⟨h1,h2⟩) Y (pl U9 Y (GExpr.sub2 e0)) (rn Y (dT (p:=(e0.Op=0)∧(e0.Value=GValue.zero)) ⟨h1,h2⟩) Y (p_seq Y Y Y) (rp Y (p_pkt Y Y (dT (p:=(e0.Op=0)∧(e0.Value=GValue.zero)) ⟨h1,h2⟩) (tb ((and_l (p:=(e0.Op=0)∧(e0.Value=GValue.zero)) (q:=e0.Name=[]) ⟨h1,h2⟩)))) (rm Y ?_))))
    refine (Classical.em (e0.Name=[])).elim (fun h3=>?_) (fun h3=>?_)
    ·exact rn Y (dT (p:=((e0.Op=0)∧(e0.Value=GValue.zero))∧(e0.Name=[])) ⟨⟨h1,h2⟩,h3⟩) Y (uf U35 Y in_33 Y (GExpr.len e0)) (rn Y (dT (p:=((e0.Op=0)∧(e0.Value=GValue.zero))∧(e0.Name=[])) ⟨⟨h1,h2⟩,h3⟩) Y (pl U33 Y (GExpr.sub3 e0)) (rn Y (dT (p:=((e0.Op=0)∧(e0.Value=GValue.zero))∧(e0.Name=[])) ⟨⟨h1,h2⟩,h3⟩) Y (p_lenl Y U33 Y Y) (rn Y (dT (p:=((e0.Op=0)∧(e0.Value=GValue.zero))∧(e0.Name=[])) ⟨⟨h1,h2⟩,h3⟩) Y (pi Y) (rp Y (p_pkt Y Y (dT (p:=((e0.Op=0)∧(e0.Value=GValue.zero))∧(e0.Name=[])) ⟨⟨h1,h2⟩,h3⟩) (tb ((and_l (p:=((e0.Op=0)∧(e0.Value=GValue.zero))∧(e0.Name=[])) (q:=(e0.Args.length:Int)=0) ⟨⟨h1,h2⟩,h3⟩)))) (ra Y (rend Y Y))))))
    exact rO Y (dF (p:=((e0.Op=0)∧(e0.Value=GValue.zero))∧(e0.Name=[])) (fun h=>h3 h.2)) Y (rO Y (dF (p:=((e0.Op=0)∧(e0.Value=GValue.zero))∧(e0.Name=[])) (fun h=>h3 h.2)) Y (rO Y (dF (p:=((e0.Op=0)∧(e0.Value=GValue.zero))∧(e0.Name=[])) (fun h=>h3 h.2)) Y (rO Y (dF (p:=((e0.Op=0)∧(e0.Value=GValue.zero))∧(e0.Name=[])) (fun h=>h3 h.2)) Y (rp Y (p_pkf Y Y (dF (p:=((e0.Op=0)∧(e0.Value=GValue.zero))∧(e0.Name=[])) (fun h=>h3 h.2)) (tb (dF (p:=(((e0.Op=0)∧(e0.Value=GValue.zero))∧(e0.Name=[]))∧((e0.Args.length:Int)=0)) (fun x=>(fun h=>h3 h.2) x.1)).symm)) (ra Y (rend Y Y))))))
   exact rO Y (dF (p:=(e0.Op=0)∧(e0.Value=GValue.zero)) (fun h=>h2 h.2)) Y (rO Y (dF (p:=(e0.Op=0)∧(e0.Value=GValue.zero)) (fun h=>h2 h.2)) Y (rO Y (dF (p:=(e0.Op=0)∧(e0.Value=GValue.zero)) (fun h=>h2 h.2)) Y (rp Y (p_pkf Y Y (dF (p:=(e0.Op=0)∧(e0.Value=GValue.zero)) (fun h=>h2 h.2)) (tb (dF (p:=((e0.Op=0)∧(e0.Value=GValue.zero))∧(e0.Name=[])) (fun x=>(fun h=>h2 h.2) x.1)).symm)) (rm Y (rO Y (dF (p:=((e0.Op=0)∧(e0.Value=GValue.zero))∧(e0.Name=[])) (fun h=>(fun h=>h2 h.2) h.1)) Y (rO Y (dF (p:=((e0.Op=0)∧(e0.Value=GValue.zero))∧(e0.Name=[])) (fun h=>(fun h=>h2 h.2) h.1)) Y (rO Y (dF (p:=((e0.Op=0)∧(e0.Value=GValue.zero))∧(e0.Name=[])) (fun h=>(fun h=>h2 h.2) h.1)) Y (rO Y (dF (p:=((e0.Op=0)∧(e0.Value=GValue.zero))∧(e0.Name=[])) (fun h=>(fun h=>h2 h.2) h.1)) Y (rp Y (p_pkf Y Y (dF (p:=((e0.Op=0)∧(e0.Value=GValue.zero))∧(e0.Name=[])) (fun h=>(fun h=>h2 h.2) h.1)) (tb (dF (p:=(((e0.Op=0)∧(e0.Value=GValue.zero))∧(e0.Name=[]))∧((e0.Args.length:Int)=0)) (fun x=>(fun h=>(fun h=>h2 h.2) h.1) x.1)).symm)) (ra Y (rend Y Y)))))))))))
  exact rO Y (dF h1) Y (rO Y (dF h1) Y (rO Y (dF h1) Y (rO Y (dF h1) Y (rp Y (p_pkf Y Y (dF h1) (tb (dF (p:=(e0.Op=0)∧(e0.Value=GValue.zero)) (fun x=>h1 x.1)).symm)) (rm Y (rO Y (dF (p:=(e0.Op=0)∧(e0.Value=GValue.zero)) (fun h=>h1 h.1)) Y (rO Y (dF (p:=(e0.Op=0)∧(e0.Value=GValue.zero)) (fun h=>h1 h.1)) Y (rO Y (dF (p:=(e0.Op=0)∧(e0.Value=GValue.zero)) (fun h=>h1 h.1)) Y (rp Y (p_pkf Y Y (dF (p:=(e0.Op=0)∧(e0.Value=GValue.zero)) (fun h=>h1 h.1)) (tb (dF (p:=((e0.Op=0)∧(e0.Value=GValue.zero))∧(e0.Name=[])) (fun x=>(fun h=>h1 h.1) x.1)).symm)) (rm Y (rO Y (dF (p:=((e0.Op=0)∧(e0.Value=GValue.zero))∧(e0.Name=[])) (fun h=>(fun h=>h1 h.1) h.1)) Y (rO Y (dF (p:=((e0.Op=0)∧(e0.Value=GValue.zero))∧(e0.Name=[])) (fun h=>(fun h=>h1 h.1) h.1)) Y (rO Y (dF (p:=((e0.Op=0)∧(e0.Value=GValue.zero))∧(e0.Name=[])) (fun h=>(fun h=>h1 h.1) h.1)) Y (rO Y (dF (p:=((e0.Op=0)∧(e0.Value=GValue.zero))∧(e0.Name=[])) (fun h=>(fun h=>h1 h.1) h.1)) Y (rp Y (p_pkf Y Y (dF (p:=((e0.Op=0)∧(e0.Value=GValue.zero))∧(e0.Name=[])) (fun h=>(fun h=>h1 h.1) h.1)) (tb (dF (p:=(((e0.Op=0)∧(e0.Value=GValue.zero))∧(e0.Name=[]))∧((e0.Args.length:Int)=0)) (fun x=>(fun h=>(fun h=>h1 h.1) h.1) x.1)).symm)) (ra Y (rend Y Y)))))))))))))))))
 refine QR ?_
 have z:=se H;subst z
 exact ⟨⟨rt,trivial⟩,trivial⟩
noncomputable def g_ref_within_l1 (row3_0:List GExpr):Int×(List GExpr)→Option ((Int×(List GExpr))⊕(Bool⊕((List GExpr))))
  | (t28_1,next6_1)=>(if t28_1 < (row3_0.length:Int) then if 0≤t28_1∧t28_1 < (row3_0.length:Int) then (if (((lrd row3_0 t28_1.toNat).Args).length:Int) > (40:Int) then some (.inr (.inl false)) else if room (next6_1.length+((lrd row3_0 t28_1.toNat).Args).length) 88 then (if ((next6_1++((lrd row3_0 t28_1.toNat).Args)).length:Int) > (40:Int) then some (.inr (.inl false)) else some (.inl (w64 (t28_1+(1:Int)),next6_1++((lrd row3_0 t28_1.toNat).Args)))) else none) else none else some (.inr (.inr next6_1)))
noncomputable def g_ref_within_l0:Int×Int×(List GExpr)→Option ((Int×Int×(List GExpr))⊕(Bool⊕Unit))
  | (all4_0,deep5_0,row3_0)=>(if (row3_0.length:Int) > (0:Int) then (if (deep5_0 > (7:Int))∨(w64 (all4_0+(row3_0.length:Int)) > (40:Int)) then some (.inr (.inl false)) else (loopO (g_ref_within_l1 row3_0) ((0:Int),([]:List GExpr))).bind fun o'4=>match o'4 with | .inl y'5=>some (.inr (.inl y'5)) | .inr (y'6)=>some (.inl (w64 (all4_0+(row3_0.length:Int)),w64 (deep5_0+(1:Int)),y'6))) else some (.inr (.inr ())))
noncomputable def g_ref_within (e0:GExpr):Option (Bool) :=
  (loopO (g_ref_within_l0) ((0:Int),(1:Int),([e0]:List GExpr))).bind fun o'10=>match o'10 with | .inl y'11=>some y'11 | .inr (y'12)=>some true
theorem g_ref_within_ac {e0:GExpr} {r:Bool} (H:g_ref_within e0=some r):ACp Tryz.prog 70 [(.agg (GExpr.cs e0))] (AV.bool r):=by
 refine ACp_of (AC2_of_body (vs:=[.b r]) Tryz.func70 Y Y (lb Y) Y ?_) (fun _=>.same _)
 unfold g_ref_within at H
 refine as2 [0] [.g (GExpr.cs e0)] [] [] Y (sg 2 Y (rq Y (bx 1 Y) (ra Y (rz [1] [.q 1 (0)] [1] [.pure (GExpr.cs e0)] Y (sg 3 Y (rp Y (pL U35 Y in_35 (Sub.refl _) (GExpr.len e0)) (rq Y (MakeD.opD (u_bs 10 Y U33 in_35 Y one_35 (by decide) (by decide) zc_35 Y (af_lit (g:=GExpr.cs) GExpr.len (GExpr.len GExpr.zero) [e0])) Y Y Y Y) (ra Y (RunW_st [(3,.c (.own 10 ([e0]:List GExpr).length 7))] [(10,.pure (([e0]:List GExpr).flatMap GExpr.cs))] Y ⟨TLes.own Y,trivial⟩ ⟨Y,trivial⟩ (RunW_gho (Gho_ren 10 3 Y Y Y Y Y) (rz [3] [.c (.own 3 ([e0]:List GExpr).length 7)] [3] [.pure (([e0]:List GExpr).flatMap GExpr.cs)] Y (sg 1 Y (ra Y (rz [3,4] [_,.i 0] [3] [_] Y (QS (sg 1 Y (ra Y (rz [3,4,5] [_,_,.i 1] [3] [_] Y (QB (as2 [3,4,5] [_,_,_] [3] [_] Y (bindK H fun o'10 h10 H=>AW2_loopO (fun a'7:Int×Int×(List GExpr)=>(⟨[(3,.c (.own 3 a'7.2.2.length 7)),(4,.i a'7.1),(5,.i a'7.2.1)],[(3,.pure (a'7.2.2.flatMap GExpr.cs))],45⟩:TS)) (fun (o:Bool⊕Unit) e s'=>match o with | .inl y'8=>e=Go.Exit.ret∧ResAll Tryz.prog s' [ResultVar.tmp 2] [.b y'8]∧HFits s' [] | .inr (y'9)=>e=Go.Exit.exit 0∧s'=(⟨[],[],45⟩:TS)) h10 Y (fun a x hx=>?_) (fun e s' hs=>?_))))))))))))))))))))))
 ·clear H
  obtain ⟨all4_0,deep5_0,row3_0⟩:=a
  have H:=hx
  clear hx
  unfold g_ref_within_l0 at H
  refine QS (sg 3 Y (rm Y (rp Y (p_leno Y U33 Y Y Y (fm_length GExpr.len row3_0) (by decide)) (rp Y (pb Y Y) (rz [3,4,5,13] [.c (.own 3 row3_0.length 7),.i all4_0,.i deep5_0,.b (decide ((row3_0.length:Int) > 0))] [3] [.pure (row3_0.flatMap GExpr.cs)] Y (if2 H Y (fun h1 H=>?_) (fun h1 H=>?_)))))))
  ·refine as2 [3,4,5] [_,_,_] [3] [_] Y (QK (QS (QB (sg 5 Y (rm Y (rm Y (rp Y (p_leno Y U33 Y Y Y (fm_length GExpr.len row3_0) (by decide)) (rp Y (pb Y Y) (ra Y (rz [3,4,5] [_,.i (w64 (all4_0+(row3_0.length:Int))),_] [3] [_] Y (QS (QS (AW2_mid (⟨[(3,.c (.own 3 row3_0.length 7)),(4,.i (w64 (all4_0+(row3_0.length:Int)))),(5,.i deep5_0),(25,.b (decide ((deep5_0 > 7)∨(w64 (all4_0+(row3_0.length:Int)) > 40))))],[(3,.pure (row3_0.flatMap GExpr.cs))],45⟩:TS) ?_ ?_)))))))))))))
   ·refine ar 6 Y (rm Y (rp Y (pb Y Y) (rm Y ?_)))
    refine (Classical.em (deep5_0 > 7)).elim (fun h2=>?_) (fun h2=>?_)
    ·exact rO Y (dT h2) Y (rO Y (dT h2) Y (rp Y (p_pkt Y Y (dT h2) (tb (dT (p:=(deep5_0 > 7)∨(w64 (all4_0+(row3_0.length:Int)) > 40)) (Or.inl h2)).symm)) (rend Y Y)))
    exact rn Y (dF h2) Y (p_move Y Y) (rn Y (dF h2) Y (pb Y Y) (rp Y (p_pkf Y Y (dF h2) (tb ((or_l (q:=w64 (all4_0+(row3_0.length:Int)) > 40) h2)))) (rend Y Y)))
   refine if2 H Y (fun h3 H=>?_) (fun h3 H=>?_)
   ·refine sg 1 Y (ra Y (rz [2] [.b false] [] [] Y (QR ?_)))
    have z:=se H;subst z
    exact ⟨Y,⟨rt,trivial⟩,trivial⟩
   refine as2 [3,4,5] [_,_,_] [3] [_] Y (QK (sg 1 Y (rp Y (p_asgn Y) (rz [3,4,5,6] [_,_,_,.p .nil] [3] [_] Y (QS (sg 3 Y (rm Y (rp Y (p_leno Y U33 Y Y Y (fm_length GExpr.len row3_0) (by decide)) (rm Y (rs [4,5,6,26,27,28] [_,_,_,.c (.own 3 row3_0.length 7),.i (row3_0.length:Int),.i 0] [3] [_] Y (RunW_gho (Gho_ren 3 26 Y Y Y Y Y) (rz [4,5,6,26,27,28] [.i (w64 (all4_0+(row3_0.length:Int))),.i deep5_0,.p .nil,.c (.own 26 row3_0.length 7),.i (row3_0.length:Int),.i 0] [26] [.pure (row3_0.flatMap GExpr.cs)] Y (QB (as2 [4,5,6,26,27,28] [_,_,_,_,_,_] [26] [_] Y (AW2_gho (Gho_own (d:=6) (b:=6) (z:=7) Y Y Y Y) (AW2_st [(4,.i (w64 (all4_0+(row3_0.length:Int)))),(5,.i deep5_0),(6,.c (.own 6 ([]:List GExpr).length 7)),(26,.c (.own 26 row3_0.length 7)),(27,.i (row3_0.length:Int)),(28,.i 0)] [(6,.pure (([]:List GExpr).flatMap GExpr.cs)),(26,.pure (row3_0.flatMap GExpr.cs))] Y ⟨TLes.same _,TLes.same _,TLes.own Y,TLes.same _,TLes.same _,TLes.same _,trivial⟩ ⟨Y,Y,trivial⟩ (bindK H fun o'4 h9 H=>AW2_loopO (fun a'1:Int×(List GExpr)=>(⟨[(4,.i (w64 (all4_0+(row3_0.length:Int)))),(5,.i deep5_0),(6,.c (.own 6 a'1.2.length 7)),(26,.c (.own 26 row3_0.length 7)),(27,.i (row3_0.length:Int)),(28,.i a'1.1)],[(6,.pure (a'1.2.flatMap GExpr.cs)),(26,.pure (row3_0.flatMap GExpr.cs))],45⟩:TS)) (fun (o:Bool⊕((List GExpr))) e s'=>match o with | .inl y'2=>e=Go.Exit.ret∧ResAll Tryz.prog s' [ResultVar.tmp 2] [.b y'2]∧HFits s' [] | .inr (y'3)=>e=Go.Exit.exit 2∧s'=(⟨[(4,.i (w64 (all4_0+(row3_0.length:Int)))),(5,.i deep5_0),(6,.c (.own 6 y'3.length 7))],[(6,.pure (y'3.flatMap GExpr.cs))],45⟩:TS)) h9 Y (fun a x hx=>?_) (fun e s' hs=>?_))))))))))))))))))
   ·clear H
    obtain ⟨t28_1,next6_1⟩:=a
    have H:=hx
    clear hx
    unfold g_ref_within_l1 at H
    refine sg 1 Y (rp Y (pb Y Y) (rz [4,5,6,26,27,28,29] [.i (w64 (all4_0+(row3_0.length:Int))),.i deep5_0,.c (.own 6 next6_1.length 7),.c (.own 26 row3_0.length 7),.i (row3_0.length:Int),.i t28_1,.b (decide (t28_1 < (row3_0.length:Int)))] [6,26] [.pure (next6_1.flatMap GExpr.cs),.pure (row3_0.flatMap GExpr.cs)] Y (QS (if2 H Y (fun h4 H=>?_) (fun h4 H=>?_)))))
    ·refine as2 [4,5,6,26,27,28] [_,_,_,_,_,_] [6,26] [_,_] Y (QK (QS (QB (sg 4 Y (chkK H fun h5 H=>rp Y (u_ixo Y Y U33 in_35 Y Y (fne GExpr.len (by decide) (ixn h5)) Y (ixe h5) (ixn h5)) (rp Y (pL U35 Y in_35 ((Sub.refl _).trans (Sub.fm default GExpr.len (ixn h5))) (GExpr.len (lrd row3_0 t28_1.toNat))) (rq Y (al 8 in_35 one_35 zc_35 Y) (rq Y (u_sw Y Y in_35 (GExpr.len (lrd row3_0 t28_1.toNat)) (GExpr.len GExpr.zero)) (rz [4,5,6,8,26,27,28] [_,_,_,.q 8 (0),_,_,_] [6,8,26] [_,.pure (GExpr.cs (lrd row3_0 t28_1.toNat)),_] Y (QS (sg 4 Y (rf Y U35 Y in_33 Y Y (GExpr.len (lrd row3_0 t28_1.toNat)) (rp Y (pl U33 Y (GExpr.sub3 (lrd row3_0 t28_1.toNat))) (rp Y (p_lenl Y U33 Y Y) (rp Y (pb Y Y) (rz [4,5,6,8,26,27,28,35] [_,_,_,_,_,_,_,.b (decide ((((lrd row3_0 t28_1.toNat).Args).length:Int) > 40))] [6,8,26] [_,_,_] Y (if2 H Y (fun h6 H=>?_) (fun h6 H=>?_))))))))))))))))))
     ·refine sg 1 Y (ra Y (rz [2] [.b false] [] [] Y (QR ?_)))
      have z:=se H;subst z
      exact ⟨Y,⟨rt,trivial⟩,trivial⟩
     refine as2 [4,5,6,8,26,27,28] [_,_,_,_,_,_,_] [6,8,26] [_,_,_] Y (QK (sg 5 Y (rm Y (rf Y U35 Y in_33 Y Y (GExpr.len (lrd row3_0 t28_1.toNat)) (rp Y (pl U33 Y (GExpr.sub3 (lrd row3_0 t28_1.toNat))) (chkK H fun h7 H=>rq Y (u_app [6,36] Y Y Y Y U33 U33 in_35 Y Y Y (fm_length GExpr.len next6_1) (by decide) Y (fm_length GExpr.len ((lrd row3_0 t28_1.toNat).Args)) h7 (by decide) Y Y (fapp GExpr.cs next6_1 ((lrd row3_0 t28_1.toNat).Args)) (lapp next6_1 ((lrd row3_0 t28_1.toNat).Args))) (ra Y (rz [4,5,6,26,27,28] [_,_,.c (.own 6 (next6_1++((lrd row3_0 t28_1.toNat).Args)).length 7),_,_,_] [6,26] [.pure ((next6_1++((lrd row3_0 t28_1.toNat).Args)).flatMap GExpr.cs),_] Y (sg 3 Y (rm Y (rp Y (p_leno Y U33 Y Y Y (fm_length GExpr.len (next6_1++((lrd row3_0 t28_1.toNat).Args))) (by decide)) (rp Y (pb Y Y) (rz [4,5,6,26,27,28,42] [_,_,_,_,_,_,.b (decide (((next6_1++((lrd row3_0 t28_1.toNat).Args)).length:Int) > 40))] [6,26] [_,_] Y (if2 H Y (fun h8 H=>?_) (fun h8 H=>?_)))))))))))))))
     ·refine sg 1 Y (ra Y (rz [2] [.b false] [] [] Y (QR ?_)))
      have z:=se H;subst z
      exact ⟨Y,⟨rt,trivial⟩,trivial⟩
     refine as2 [4,5,6,26,27,28] [_,_,_,_,_,_] [6,26] [_,_] Y (QK (ar 2 Y (rp Y (pb Y Y) (rm Y (rz [4,5,6,26,27,28] [_,_,_,_,_,.i (w64 (t28_1+1))] [6,26] [_,_] Y ?_)))))
     have z:=se H;subst z
     exact ⟨Y,Y⟩
    refine as2 [4,5,6] [_,_,_] [6] [_] Y (AW2_exit (thenQ2_exit ?_))
    have z:=se H;subst z
    exact ⟨Y,Y⟩
   rcases o'4 with y'5 | y'6
   ·obtain ⟨rfl,hs⟩:=hs
    refine ⟨by simp,?_⟩
    have z:=se H;subst z
    exact ⟨Y,hs.1,hs.2⟩
   obtain ⟨rfl,rfl⟩:=hs
   refine ⟨by simp,?_⟩
   refine blockQ2_exit (ar 2 Y (rm Y (ra Y (rs [3,4,5] [.c (.own 6 y'6.length 7),.i (w64 (all4_0+(row3_0.length:Int))),.i deep5_0] [6] [.pure (y'6.flatMap GExpr.cs)] Y (RunW_gho (Gho_ren 6 3 Y Y Y Y Y) (rz [3,4,5] [.c (.own 3 y'6.length 7),.i (w64 (all4_0+(row3_0.length:Int))),.i deep5_0] [3] [.pure (y'6.flatMap GExpr.cs)] Y (ar 3 Y (rm Y (rp Y (pb Y Y) (ra Y (rz [3,4,5] [_,_,.i (w64 (deep5_0+1))] [3] [_] Y ?_)))))))))))
   have z:=se H;subst z
   exact ⟨Y,Y⟩
  refine as2 [] [] [] [] Y (AW2_exit (thenQ2_exit ?_))
  have z:=se H;subst z
  exact ⟨Y,Y⟩
 rcases o'10 with y'11 | y'12
 ·obtain ⟨rfl,hs⟩:=hs
  refine ⟨by simp,?_⟩
  have z:=se H;subst z
  exact ⟨hs.1,hs.2⟩
 obtain ⟨rfl,rfl⟩:=hs
 refine ⟨by simp,?_⟩
 refine blockQ2_exit (sg 1 Y (ra Y (rz [2] [.b true] [] [] Y (QR ?_))))
 have z:=se H;subst z
 exact ⟨⟨rt,trivial⟩,trivial⟩
def g_ref_nodeFault_r4:List (List (Nat×Option Nat)):=[[(1,none)],[(19,some 0)],[(20,some 1)],[(3,none)],[(1,none)],[(23,some 4)],[(22,some 3),(24,some 5)],[(25,some 6)]]
def g_ref_nodeFault_r4c:List (List Nat):=[[],[0],[0,1],[],[],[4],[3,4,5],[3,4,5,6],[0,1,2,3,4,5,6,7],[0,1,2,3,4,5,6,7,8]]
noncomputable def g_ref_nodeFault_l0 (e0:GExpr) (R':GExpr→Option Int):Int→Option (Int⊕(Int⊕Unit))
  | t87_0=>(if t87_0 < (e0.Args.length:Int) then if 0≤t87_0∧t87_0 < (e0.Args.length:Int) then (R' (lrd e0.Args t87_0.toNat)).bind fun r'9=>(if r'9≠(0:Int) then some (.inr (.inl r'9)) else some (.inl (w64 (t87_0+(1:Int))))) else none else some (.inr (.inr ())))
noncomputable def g_ref_nodeFault_b (R':GExpr→Option Int) (e0:GExpr):Option (Int) :=
  letO (([(0:Int),(0:Int),(0:Int),(1:Int),(1:Int),(2:Int),(2:Int),(2:Int),(2:Int),(2:Int),(2:Int),(2:Int),(2:Int),(2:Int),(2:Int),(2:Int),(2:Int),(1:Int),(1:Int),(2:Int),(2:Int)]:List Int)) fun want3'1=>(if (e0.Op < (1:Int))∨(e0.Op≥(want3'1.length:Int)) then some (2:Int) else if 0≤e0.Op∧e0.Op < (want3'1.length:Int) then ((if e0.Op=(1:Int) then ((if (e0.Args.length:Int)=(lrd want3'1 e0.Op.toNat) then (if e0.Name=[] then (g_ref_ValueFault e0.Value).bind fun r'4=>(if r'4=(0:Int) then some (decide (e0.Value.Int_≥(0:Int))) else some false) else some false) else some false)).bind fun g'5=>some g'5 else (if e0.Op=(2:Int) then ((if (e0.Args.length:Int)=(lrd want3'1 e0.Op.toNat) then (if e0.Value=GValue.zero then (g_ref_isName e0.Name).bind fun r'7=>(if r'7=true then some (decide ((e0.Name.length:Int)≤(8:Int))) else some false) else some false) else some false)).bind fun g'8=>some g'8 else some (decide ((((e0.Args.length:Int)=(lrd want3'1 e0.Op.toNat))∧(e0.Name=[]))∧(e0.Value=GValue.zero)))))).bind fun j'2=>(if (!j'2)=true then some (3:Int) else (loopO (g_ref_nodeFault_l0 e0 R') (0:Int)).bind fun o'13=>match o'13 with | .inl y'14=>some y'14 | .inr (y'15)=>some (0:Int)) else none)
noncomputable def g_ref_nodeFault:Nat→GExpr→Option Int
  | 0,_=>none
  | fu+1,e0=>g_ref_nodeFault_b (g_ref_nodeFault fu) e0
theorem g_ref_nodeFault_ac0 {R':GExpr→Option Int} (hR:∀ {e0:GExpr} {r:Int},R' e0=some r→ACp Tryz.prog 71 [(.agg (GExpr.cs e0))] (AV.int r)) {e0:GExpr} {r:Int} (H:g_ref_nodeFault_b R' e0=some r):ACp Tryz.prog 71 [(.agg (GExpr.cs e0))] (AV.int r):=by
 refine ACp_of (AC2_of_body (vs:=[.i r]) Tryz.func71 Y Y (lb Y) Y ?_) (fun _=>.same _)
 unfold g_ref_nodeFault_b at H
 refine as2 [0] [.g (GExpr.cs e0)] [] [] Y (sg 2 Y (rq Y (bx 1 Y) (ra Y (rz [1] [.q 1 (0)] [1] [.pure (GExpr.cs e0)] Y (sg 2 Y (rq Y (MakeD.opD (u_bs 8 Y U76 in_3 Y one_3 (by decide) (by decide) Y Y Y) Y Y Y Y) (ra Y (RunW_st [(1,.q 1 (0)),(3,.c (.own 8 ([0,0,0,1,1,2,2,2,2,2,2,2,2,2,2,2,2,1,1,2,2]:List Int).length 1))] [(1,.pure (GExpr.cs e0)),(8,.pure (([0,0,0,1,1,2,2,2,2,2,2,2,2,2,2,2,2,1,1,2,2]:List Int).map AV.int))] Y ⟨TLes.same _,TLes.own Y,trivial⟩ ⟨Y,Y,trivial⟩ (RunW_gho (Gho_ren 8 3 Y Y Y Y Y) (rz [1,3] [.q 1 (0),.c (.own 3 ([0,0,0,1,1,2,2,2,2,2,2,2,2,2,2,2,2,1,1,2,2]:List Int).length 1)] [1,3] [.pure (GExpr.cs e0),.pure (([0,0,0,1,1,2,2,2,2,2,2,2,2,2,2,2,2,1,1,2,2]:List Int).map AV.int)] Y (gen1 (fun want3'1=>(⟨[(1,.q 1 (0)),(3,.c (.own 3 want3'1.length 1))],[(1,.pure (GExpr.cs e0)),(3,.pure (want3'1.map AV.int))],97⟩:TS)) H ?_)))))))))))
 intro want3'1 H
 refine QS (QS (AW2_mid (⟨[(1,.q 1 (0)),(3,.c (.own 3 want3'1.length 1)),(18,.b (decide ((e0.Op < 1)∨(e0.Op≥(want3'1.length:Int)))))],[(1,.pure (GExpr.cs e0)),(3,.pure (want3'1.map AV.int))],97⟩:TS) ?_ ?_))
 ·refine ar 10 Y (rf Y U35 Y in_3 Y Y (GExpr.len e0) (rp Y (pl U3 Y (GExpr.sub0 e0)) (rp Y (pb Y Y) (rm Y ?_))))
  refine (Classical.em (e0.Op < 1)).elim (fun h1=>?_) (fun h1=>?_)
  ·iterate 5 (refine rO Y (dT h1) Y ?_)
   exact rp Y (p_pkt Y Y (dT h1) (tb (dT (p:=(e0.Op < 1)∨(e0.Op≥(want3'1.length:Int))) (Or.inl h1)).symm)) (rend Y Y)
  exact rn Y (dF h1) Y (uf U35 Y in_3 Y (GExpr.len e0)) (rn Y (dF h1) Y (pl U3 Y (GExpr.sub0 e0)) (rn Y (dF h1) Y (p_move Y Y) (rn Y (dF h1) Y (p_leno Y U76 Y Y Y (ml AV.int want3'1) (by decide)) (rn Y (dF h1) Y (pb Y Y) (rp Y (p_pkf Y Y (dF h1) (tb ((or_l (q:=e0.Op≥(want3'1.length:Int)) h1)))) (rend Y Y))))))
 refine if2 H Y (fun h2 H=>?_) (fun h2 H=>?_)
 ·refine sg 1 Y (ra Y (rz [2] [.i 2] [] [] Y (QR ?_)))
  have z:=se H;subst z
  exact ⟨⟨rt,trivial⟩,trivial⟩
 refine as2 [1,3] [_,_] [1,3] [_,_] Y (QK (QS (chkK H fun h3 H=>AW2_ghoQ (AW2_draw 8 [8,9] (fun k=>([.q 1 (0+6),.p (GExpr.ls e0.Args),.i (e0.Args.length:Int),.c (.own 3 want3'1.length 1),.q 1 (0+0),.i e0.Op,.q 3 (0+e0.Op.toNat * 1),.i (lrd want3'1 e0.Op.toNat)]:List TV).getD k TV.any) (fun k=>g_ref_nodeFault_r4.getD k []) [(1,none),(21,some 2),(26,some 7)] [] (fun k=>g_ref_nodeFault_r4c.getD k []) mixed (by kernel_rfl) Y Y (a_op (g_x Y (x_p Y (uf U35 Y in_33 Y (GExpr.len e0)) Y)) (a_op (g_x Y (x_p Y (pl U33 Y (GExpr.sub3 e0)) Y)) (a_op (g_x Y (x_p Y (p_lenl Y U33 Y Y) Y)) (a_op (g_x Y (x_p Y (p_move Y Y) Y)) (a_op (g_x Y (x_p Y (uf U35 Y in_3 Y (GExpr.len e0)) Y)) (a_op (g_x Y (x_p Y (pl U3 Y (GExpr.sub0 e0)) Y)) (a_op (g_x Y (x_p Y (u_ixo Y Y U76 in_3 Y Y (lne (ixn h3)) Y (ixe h3) (ixn h3)) Y)) (a_op (g_x Y (x_p Y (pl U3 Y ((Sub.refl _).trans (Sub.map default (ixn h3)))) Y)) (a_nil))))))))) (t_op Y Y (PureD.opD (pi Y)) (t_op Y Y (PureD.opD (p_asg Y Y)) (t_gho (Gho_st (L:=[(1,.q 1 (0)),(4,.b (decide ((e0.Args.length:Int)=(lrd want3'1 e0.Op.toNat))))]) (H:=[(1,.pure (GExpr.cs e0))]) (N:=97) Y ⟨TLes.same _,TLes.same _,trivial⟩ ⟨Y,trivial⟩) (QS (bindK H fun j'2 h4 H=>AW2_mid (⟨[(1,.q 1 (0)),(4,.b j'2)],[(1,.pure (GExpr.cs e0))],97⟩:TS) ?_ ?_)))))))))
 ·clear H
  have H:=h4
  clear h4
  refine sg 2 Y (rf Y U35 Y in_3 Y Y (GExpr.len e0) (rp Y (pl U3 Y (GExpr.sub0 e0)) (rz [1,4,29] [.q 1 (0),.b (decide ((e0.Args.length:Int)=(lrd want3'1 e0.Op.toNat))),.i e0.Op] [1] [.pure (GExpr.cs e0)] Y (QB (sg 2 Y (rp Y (pi Y) (ra Y (rz [1,4,29,42] [_,_,_,.b (decide (e0.Op=1))] [1] [_] Y (if2 H Y (fun h5 H=>?_) (fun h5 H=>?_))))))))))
  ·refine bindK H fun g'5 h11 H=>AW2_mid (⟨[(1,.q 1 (0)),(4,.b g'5)],[(1,.pure (GExpr.cs e0))],97⟩:TS) ?_ ?_
   ·clear H
    have H:=h11
    clear h11
    refine ar 19 Y (rm Y (rm Y (em2 H (fun h7 H=>?_) (fun h7 H=>?_))))
    ·refine rn Y (dT h7) Y (uf U35 Y in_9 Y (GExpr.len e0)) (rn Y (dT h7) Y (pl U9 Y (GExpr.sub2 e0)) (rn Y (dT h7) Y (p_seq Y Y Y) (rp Y (p_pkt Y Y (dT h7) (.same _)) (rm Y (em2 H (fun h8 H=>?_) (fun h8 H=>?_))))))
     ·refine rn Y (dT h8) Y (uf U35 Y in_32 Y (GExpr.len e0)) (rn Y (dT h8) Y (pL U32 Y in_32 (GExpr.sub1 e0) (GValue.len e0.Value)) (bindK H fun r'4 h9 H=>rn Y (dT h8) Y (pc Y Tryz.func49 Y (g_ref_ValueFault_ac h9) Y) (rn Y (dT h8) Y (pi Y) (rp Y (p_pkt Y Y (dT h8) (.same _)) (rm Y (em2 H (fun h10 H=>?_) (fun h10 H=>?_)))))))
      ·refine rn Y (dT h10) Y (uf U35 Y in_32 Y (GExpr.len e0)) (rn Y (dT h10) Y (uf U32 Y in_3 Y (GExpr.len e0)) (rn Y (dT h10) Y (pl U3 Y ((GExpr.sub1 e0).trans (GValue.sub1 e0.Value))) (rn Y (dT h10) Y (pb Y Y) (rp Y (p_pkt Y Y (dT h10) (.same _)) (ra Y (rs [1,4] [.q 1 (0),.b (decide (e0.Value.Int_≥0))] [1] [.pure (GExpr.cs e0)] Y ?_))))))
       have z:=se H;subst z
       exact RunW_nil rfl
      iterate 4 (refine rO Y (dF h10) Y ?_)
      refine rp Y (p_pkf Y Y (dF h10) (.same _)) (ra Y (rs [1,4] [.q 1 (0),.b false] [1] [.pure (GExpr.cs e0)] Y ?_))
      have z:=se H;subst z
      exact RunW_nil rfl
     iterate 4 (refine rO Y (dF h8) Y ?_)
     refine rp Y (p_pkf Y Y (dF h8) (.same _)) (rm Y ?_)
     iterate 4 (refine rO Y (bfalse (by decide)) Y ?_)
     refine rp Y (p_pkf Y Y (bfalse (by decide)) (.same _)) (ra Y (rs [1,4] [.q 1 (0),.b false] [1] [.pure (GExpr.cs e0)] Y ?_))
     have z:=se H;subst z
     exact RunW_nil rfl
    iterate 3 (refine rO Y (dF h7) Y ?_)
    refine rp Y (p_pkf Y Y (dF h7) (.same _)) (rm Y ?_)
    iterate 4 (refine rO Y (bfalse (by decide)) Y ?_)
    refine rp Y (p_pkf Y Y (bfalse (by decide)) (.same _)) (rm Y ?_)
    iterate 4 (refine rO Y (bfalse (by decide)) Y ?_)
    refine rp Y (p_pkf Y Y (bfalse (by decide)) (.same _)) (ra Y (rs [1,4] [.q 1 (0),.b false] [1] [.pure (GExpr.cs e0)] Y ?_))
    have z:=se H;subst z
    exact RunW_nil rfl
   have z:=se H;subst z
   exact rfl
  refine sg 2 Y (rp Y (pi Y) (ra Y (rz [1,4,62] [_,_,.b (decide (e0.Op=2))] [1] [_] Y (if2 H Y (fun h13 H=>?_) (fun h13 H=>?_)))))
  ·refine bindK H fun g'8 h19 H=>AW2_mid (⟨[(1,.q 1 (0)),(4,.b g'8)],[(1,.pure (GExpr.cs e0))],97⟩:TS) ?_ ?_
   ·clear H
    have H:=h19
    clear h19
    refine ar 19 Y (rm Y (rm Y (em2 H (fun h15 H=>?_) (fun h15 H=>?_))))
    ·refine rn Y (dT h15) Y (uf U35 Y in_32 Y (GExpr.len e0)) (rn Y (dT h15) Y (pL U32 Y in_32 (GExpr.sub1 e0) (GValue.len e0.Value)) (rn Y (dT h15) Y (u_bld Y in_32 one_32 zc_32 pl_32 Y Y) (rn Y (dT h15) Y (p_eqa (a:=e0.Value) (b:=GValue.zero) Y eq_32 Y (by kernel_rfl) Y Y) (rp Y (p_pkt Y Y (dT h15) (.same _)) (rm Y (em2 H (fun h16 H=>?_) (fun h16 H=>?_)))))))
     ·refine rn Y (dT h16) Y (uf U35 Y in_9 Y (GExpr.len e0)) (rn Y (dT h16) Y (pl U9 Y (GExpr.sub2 e0)) (bindK H fun r'7 h17 H=>rn Y (dT h16) Y (pc Y Tryz.func46 Y (g_ref_isName_ac h17) Y) (rp Y (p_pkt Y Y (dT h16) (.same _)) (rm Y (em2 H (fun h18 H=>?_) (fun h18 H=>?_))))))
      ·refine rn Y h18 Y (uf U35 Y in_9 Y (GExpr.len e0)) (rn Y h18 Y (pl U9 Y (GExpr.sub2 e0)) (rn Y h18 Y (p_lent Y U9 Y) (rn Y h18 Y (pb Y Y) (rp Y (p_pkt Y Y h18 (.same _)) (ra Y (rs [1,4] [.q 1 (0),.b (decide ((e0.Name.length:Int)≤8))] [1] [.pure (GExpr.cs e0)] Y ?_))))))
       have z:=se H;subst z
       exact RunW_nil rfl
      iterate 4 (refine rO Y (bfalse h18) Y ?_)
      refine rp Y (p_pkf Y Y (bfalse h18) (.same _)) (ra Y (rs [1,4] [.q 1 (0),.b false] [1] [.pure (GExpr.cs e0)] Y ?_))
      have z:=se H;subst z
      exact RunW_nil rfl
     iterate 3 (refine rO Y (dF h16) Y ?_)
     refine rp Y (p_pkf Y Y (dF h16) (.same _)) (rm Y ?_)
     iterate 4 (refine rO Y (bfalse (by decide)) Y ?_)
     refine rp Y (p_pkf Y Y (bfalse (by decide)) (.same _)) (ra Y (rs [1,4] [.q 1 (0),.b false] [1] [.pure (GExpr.cs e0)] Y ?_))
     have z:=se H;subst z
     exact RunW_nil rfl
    iterate 4 (refine rO Y (dF h15) Y ?_)
    refine rp Y (p_pkf Y Y (dF h15) (.same _)) (rm Y ?_)
    iterate 3 (refine rO Y (bfalse (by decide)) Y ?_)
    refine rp Y (p_pkf Y Y (bfalse (by decide)) (.same _)) (rm Y ?_)
    iterate 4 (refine rO Y (bfalse (by decide)) Y ?_)
    refine rp Y (p_pkf Y Y (bfalse (by decide)) (.same _)) (ra Y (rs [1,4] [.q 1 (0),.b false] [1] [.pure (GExpr.cs e0)] Y ?_))
    have z:=se H;subst z
    exact RunW_nil rfl
   have z:=se H;subst z
   exact rfl
  refine AW2_mid (⟨[(1,.q 1 (0)),(4,.b (decide ((((e0.Args.length:Int)=(lrd want3'1 e0.Op.toNat))∧(e0.Name=[]))∧(e0.Value=GValue.zero))))],[(1,.pure (GExpr.cs e0))],97⟩:TS) ?_ ?_
  ·refine ar 13 Y (rm Y (rm Y ?_))
   refine (Classical.em ((e0.Args.length:Int)=(lrd want3'1 e0.Op.toNat))).elim (fun h21=>?_) (fun h21=>?_)
   ·refine rn Y (dT h21) Y (uf U35 Y in_9 Y (GExpr.len e0)) (rn Y (dT h21) Y (pl U9 Y (GExpr.sub2 e0)) (rn Y (dT h21) Y (p_seq Y Y Y) (rp Y (p_pkt Y Y (dT h21) (tb ((and_l (q:=e0.Name=[]) h21)))) (rm Y ?_))))
    refine (Classical.em (e0.Name=[])).elim (fun h22=>?_) (fun h22=>?_)
    ·have qq1:=dT (p:=((e0.Args.length:Int)=(lrd want3'1 e0.Op.toNat))∧(e0.Name=[])) ⟨h21,h22⟩
     exact rn Y qq1 Y (uf U35 Y in_32 Y (GExpr.len e0)) (rn Y qq1 Y (pL U32 Y in_32 (GExpr.sub1 e0) (GValue.len e0.Value)) (rn Y qq1 Y (u_bld Y in_32 one_32 zc_32 pl_32 Y Y) (rn Y qq1 Y (p_eqa (a:=e0.Value) (b:=GValue.zero) Y eq_32 Y (by kernel_rfl) Y Y) (rp Y (p_pkt Y Y qq1 (tb ((and_l (p:=((e0.Args.length:Int)=(lrd want3'1 e0.Op.toNat))∧(e0.Name=[])) (q:=e0.Value=GValue.zero) ⟨h21,h22⟩)))) (ra Y (rend Y Y))))))
    have qq2:=dF (p:=((e0.Args.length:Int)=(lrd want3'1 e0.Op.toNat))∧(e0.Name=[])) (fun h=>h22 h.2)
    iterate 4 (refine rO Y qq2 Y ?_)
    exact rp Y (p_pkf Y Y qq2 (tb (dF (p:=(((e0.Args.length:Int)=(lrd want3'1 e0.Op.toNat))∧(e0.Name=[]))∧(e0.Value=GValue.zero)) (fun x=>(fun h=>h22 h.2) x.1)).symm)) (ra Y (rend Y Y))
   iterate 3 (refine rO Y (dF h21) Y ?_)
   refine rp Y (p_pkf Y Y (dF h21) (tb (dF (p:=((e0.Args.length:Int)=(lrd want3'1 e0.Op.toNat))∧(e0.Name=[])) (fun x=>h21 x.1)).symm)) (rm Y ?_)
   have qq3:=dF (p:=((e0.Args.length:Int)=(lrd want3'1 e0.Op.toNat))∧(e0.Name=[])) (fun h=>h21 h.1)
   iterate 4 (refine rO Y qq3 Y ?_)
   exact rp Y (p_pkf Y Y qq3 (tb (dF (p:=(((e0.Args.length:Int)=(lrd want3'1 e0.Op.toNat))∧(e0.Name=[]))∧(e0.Value=GValue.zero)) (fun x=>(fun h=>h21 h.1) x.1)).symm)) (ra Y (rend Y Y))
  have z:=se H;subst z
  exact rfl
 refine QS (sg 2 Y (rm Y (rp Y (p_not Y Y) (rz [1,83] [_,.b (!j'2)] [1] [_] Y (AW2_cond Y (fun h23=>?_) (fun h23=>?_))))))
 ·replace H:=ite_then h23 H
  refine sg 1 Y (ra Y (rz [2] [.i 3] [] [] Y (QR ?_)))
  have z:=se H;subst z
  exact ⟨⟨rt,trivial⟩,trivial⟩
 replace H:=ite_else (ne_true h23) H
 refine as2 [1] [.q 1 (0)] [1] [.pure (GExpr.cs e0)] Y (QK (QS (sg 4 Y (rf Y U35 Y in_33 Y Y (GExpr.len e0) (rp Y (pl U33 Y (GExpr.sub3 e0)) (rp Y (p_lenl Y U33 Y Y) (rm Y (rz [85,86,87] [.p (GExpr.ls e0.Args),.i (e0.Args.length:Int),.i 0] [] [] Y (QB (as2 [85,86,87] [_,_,_] [] [] Y (bindK H fun o'13 h28 H=>AW2_loopO (fun a'10:Int=>(⟨[(85,.p (GExpr.ls e0.Args)),(86,.i (e0.Args.length:Int)),(87,.i a'10)],[],97⟩:TS)) (fun (o:Int⊕Unit) e s'=>match o with | .inl y'11=>e=Go.Exit.ret∧ResAll Tryz.prog s' [ResultVar.tmp 2] [.i y'11]∧HFits s' [] | .inr (y'12)=>e=Go.Exit.exit 1∧s'=(⟨[],[],97⟩:TS)) h28 Y (fun t87_0 x hx=>?_) (fun e s' hs=>?_))))))))))))
 ·clear H
  have H:=hx
  clear hx
  unfold g_ref_nodeFault_l0 at H
  refine sg 1 Y (rp Y (pb Y Y) (rz [85,86,87,88] [.p (GExpr.ls e0.Args),.i (e0.Args.length:Int),.i t87_0,.b (decide (t87_0 < (e0.Args.length:Int)))] [] [] Y (QS (if2 H Y (fun h24 H=>?_) (fun h24 H=>?_)))))
  ·refine as2 [85,86,87] [_,_,_] [] [] Y (QK (QS (QB (sg 4 Y (chkK H fun h25 H=>rp Y (u_ixl Y Y U33 in_35 Y Y (ixe h25) (ixn h25) (fne GExpr.len (by decide) (ixn h25))) (rp Y (pL U35 Y in_35 (Sub.fm default GExpr.len (ixn h25)) (GExpr.len (lrd e0.Args t87_0.toNat))) (rq Y (al 6 in_35 one_35 zc_35 Y) (rq Y (u_sw Y Y in_35 (GExpr.len (lrd e0.Args t87_0.toNat)) (GExpr.len GExpr.zero)) (rz [6,85,86,87] [.q 6 (0),_,_,_] [6] [.pure (GExpr.cs (lrd e0.Args t87_0.toNat))] Y (sg 3 Y (rp Y (pL U35 Y in_35 (Sub.refl _) (GExpr.len (lrd e0.Args t87_0.toNat))) (bindK H fun r'9 h26 H=>rp Y (pc Y Tryz.func71 Y (hR h26) Y) (ra Y (rz [7,85,86,87] [.i r'9,_,_,_] [] [] Y (sg 2 Y (rm Y (rp Y (pn Y) (rz [7,85,86,87,94] [_,_,_,_,.b (decide (r'9≠0))] [] [] Y (if2 H Y (fun h27 H=>?_) (fun h27 H=>?_))))))))))))))))))))
   ·refine sg 2 Y (rm Y (ra Y (rz [2] [.i r'9] [] [] Y (QR ?_))))
    have z:=se H;subst z
    exact ⟨Y,⟨rt,trivial⟩,trivial⟩
   refine as2 [85,86,87] [_,_,_] [] [] Y (QK (ar 2 Y (rp Y (pb Y Y) (rm Y (rz [85,86,87] [_,_,.i (w64 (t87_0+1))] [] [] Y ?_)))))
   have z:=se H;subst z
   exact ⟨Y,Y⟩
  refine as2 [] [] [] [] Y (AW2_exit (thenQ2_exit ?_))
  have z:=se H;subst z
  exact ⟨Y,Y⟩
 rcases o'13 with y'14 | y'15
 ·obtain ⟨rfl,hs⟩:=hs
  refine ⟨by simp,?_⟩
  have z:=se H;subst z
  exact ⟨hs.1,hs.2⟩
 obtain ⟨rfl,rfl⟩:=hs
 refine ⟨by simp,?_⟩
 refine blockQ2_exit (sg 1 Y (ra Y (rz [2] [.i 0] [] [] Y (QR ?_))))
 have z:=se H;subst z
 exact ⟨⟨rt,trivial⟩,trivial⟩
theorem g_ref_nodeFault_acN:∀ (fu:Nat) {e0:GExpr} {r:Int},g_ref_nodeFault fu e0=some r→ACp Tryz.prog 71 [(.agg (GExpr.cs e0))] (AV.int r)
 | 0,_,_,H=>(by cases H)
 | fu+1,_,_,H=>g_ref_nodeFault_ac0 (g_ref_nodeFault_acN fu) H
theorem g_ref_nodeFault_ac {e0:GExpr} {r:Int} (H:g_ref_nodeFault 100000 e0=some r):ACp Tryz.prog 71 [(.agg (GExpr.cs e0))] (AV.int r):=g_ref_nodeFault_acN 100000 H
noncomputable def g_ref_ExprFault (e0:GExpr):Option (Int) :=
  (g_ref_within e0).bind fun r'1=>(if (!r'1)=true then some (1:Int) else (g_ref_nodeFault 100000 e0).bind fun r'2=>some r'2)
theorem g_ref_ExprFault_ac {e0:GExpr} {r:Int} (H:g_ref_ExprFault e0=some r):ACp Tryz.prog 47 [(.agg (GExpr.cs e0))] (AV.int r):=by
 refine ACp_of (AC2_of_body (vs:=[.i r]) Tryz.func47 Y Y (lb Y) Y ?_) (fun _=>.same _)
 unfold g_ref_ExprFault at H
 refine as2 [0] [.g (GExpr.cs e0)] [] [] Y (sg 2 Y (rq Y (bx 1 Y) (ra Y (rz [1] [.q 1 (0)] [1] [.pure (GExpr.cs e0)] Y (QS (sg 3 Y (rp Y (pL U35 Y in_35 (Sub.refl _) (GExpr.len e0)) (bindK H fun r'1 h1 H=>rp Y (pc Y Tryz.func70 Y (g_ref_within_ac h1) Y) (rp Y (p_not Y Y) (rz [1,5] [_,.b (!r'1)] [1] [_] Y (AW2_cond Y (fun h2=>?_) (fun h2=>?_))))))))))))
 ·replace H:=ite_then h2 H
  refine sg 1 Y (ra Y (rz [2] [.i 1] [] [] Y (QR ?_)))
  have z:=se H;subst z
  exact ⟨⟨rt,trivial⟩,trivial⟩
 replace H:=ite_else (ne_true h2) H
 refine as2 [1] [.q 1 (0)] [1] [.pure (GExpr.cs e0)] Y (QK (sg 3 Y (rp Y (pL U35 Y in_35 (Sub.refl _) (GExpr.len e0)) (bindK H fun r'2 h3 H=>rp Y (pc Y Tryz.func71 Y (g_ref_nodeFault_ac h3) Y) (ra Y (rz [2] [.i r'2] [] [] Y (QR ?_)))))))
 have z:=se H;subst z
 exact ⟨⟨rt,trivial⟩,trivial⟩
noncomputable def g_ref_asksFor (op0:Int):Option (Int×Int) :=
  ((if op0=(3:Int) then some (decide (op0=(3:Int))) else (if op0=(5:Int) then some (decide (op0=(5:Int))) else (if op0=(6:Int) then some (decide (op0=(6:Int))) else (if op0=(7:Int) then some (decide (op0=(7:Int))) else some (decide (op0=(8:Int)))))))).bind fun j'1=>(if j'1=true then some ((2:Int),(2:Int)) else ((if op0=(4:Int) then some (decide (op0=(4:Int))) else (if op0=(15:Int) then some (decide (op0=(15:Int))) else some (decide (op0=(16:Int)))))).bind fun j'2=>(if j'2=true then some ((1:Int),(1:Int)) else (if op0=(18:Int) then some ((4:Int),(2:Int)) else (if op0=(19:Int) then some ((4:Int),(4:Int)) else (if op0=(20:Int) then some ((0:Int),(0:Int)) else some ((0:Int),(1:Int)))))))
theorem g_ref_asksFor_ac {op0:Int} {r:Int×Int} (H:g_ref_asksFor op0=some r):ACp Tryz.prog 50 [(AV.int op0)] (.tup [(AV.int r.1),(AV.int r.2)]):=by
 refine ACp_of (AC2_of_body (vs:=[.i r.1,.i r.2]) Tryz.func50 Y Y (lb Y) Y ?_) (fun _=>.same _)
 unfold g_ref_asksFor at H
 refine as2 [0] [.i op0] [] [] Y (sg 2 Y (ra Y (ra Y (rz [0] [_] [] [] Y (QS (sg 1 Y (rm Y (rz [4] [.i op0] [] [] Y (QB (QS (bindK H fun j'1 h1 H=>AW2_mid (⟨[(4,.i op0),(5,.b j'1)],[],21⟩:TS) ?_ ?_)))))))))))
 ·clear H
  have H:=h1
  clear h1
  refine sg 2 Y (rp Y (pi Y) (ra Y (rz [4,5] [.i op0,.b (decide (op0=3))] [] [] Y (if2 H Y (fun h2 H=>?_) (fun h2 H=>?_)))))
  ·refine QK ?_
   have z:=se H;subst z
   exact rfl
  refine sg 2 Y (rp Y (pi Y) (ra Y (rz [4,5] [_,.b (decide (op0=5))] [] [] Y (if2 H Y (fun h3 H=>?_) (fun h3 H=>?_)))))
  ·refine QK ?_
   have z:=se H;subst z
   exact rfl
  refine sg 2 Y (rp Y (pi Y) (ra Y (rz [4,5] [_,.b (decide (op0=6))] [] [] Y (if2 H Y (fun h4 H=>?_) (fun h4 H=>?_)))))
  ·refine QK ?_
   have z:=se H;subst z
   exact rfl
  refine sg 2 Y (rp Y (pi Y) (ra Y (rz [4,5] [_,.b (decide (op0=7))] [] [] Y (if2 H Y (fun h5 H=>?_) (fun h5 H=>?_)))))
  ·refine QK ?_
   have z:=se H;subst z
   exact rfl
  refine ar 2 Y (rp Y (pi Y) (ra Y (rz [4,5] [_,.b (decide (op0=8))] [] [] Y ?_)))
  have z:=se H;subst z
  exact rfl
 refine AW2_cond Y (fun h6=>?_) (fun h6=>?_)
 ·replace H:=ite_then h6 H
  refine sg 2 Y (ra Y (ra Y (rz [2,3] [.i 2,.i 2] [] [] Y (QR ?_))))
  have z:=se H;subst z
  exact ⟨⟨rt,rt,trivial⟩,trivial⟩
 replace H:=ite_else (ne_true h6) H
 refine QS (bindK H fun j'2 h7 H=>AW2_mid (⟨[(4,.i op0),(11,.b j'2)],[],21⟩:TS) ?_ ?_)
 ·clear H
  have H:=h7
  clear h7
  refine sg 2 Y (rp Y (pi Y) (ra Y (rz [4,11] [.i op0,.b (decide (op0=4))] [] [] Y (if2 H Y (fun h8 H=>?_) (fun h8 H=>?_)))))
  ·refine QK ?_
   have z:=se H;subst z
   exact rfl
  refine sg 2 Y (rp Y (pi Y) (ra Y (rz [4,11] [_,.b (decide (op0=15))] [] [] Y (if2 H Y (fun h9 H=>?_) (fun h9 H=>?_)))))
  ·refine QK ?_
   have z:=se H;subst z
   exact rfl
  refine ar 2 Y (rp Y (pi Y) (ra Y (rz [4,11] [_,.b (decide (op0=16))] [] [] Y ?_)))
  have z:=se H;subst z
  exact rfl
 refine AW2_cond Y (fun h10=>?_) (fun h10=>?_)
 ·replace H:=ite_then h10 H
  refine sg 2 Y (ra Y (ra Y (rz [2,3] [.i 1,.i 1] [] [] Y (QR ?_))))
  have z:=se H;subst z
  exact ⟨⟨rt,rt,trivial⟩,trivial⟩
 replace H:=ite_else (ne_true h10) H
 refine sg 2 Y (rp Y (pi Y) (ra Y (rz [4,15] [.i op0,.b (decide (op0=18))] [] [] Y (if2 H Y (fun h11 H=>?_) (fun h11 H=>?_)))))
 ·refine sg 2 Y (ra Y (ra Y (rz [2,3] [.i 4,.i 2] [] [] Y (QR ?_))))
  have z:=se H;subst z
  exact ⟨⟨rt,rt,trivial⟩,trivial⟩
 refine sg 2 Y (rp Y (pi Y) (ra Y (rz [4,17] [_,.b (decide (op0=19))] [] [] Y (if2 H Y (fun h12 H=>?_) (fun h12 H=>?_)))))
 ·refine sg 2 Y (ra Y (ra Y (rz [2,3] [.i 4,.i 4] [] [] Y (QR ?_))))
  have z:=se H;subst z
  exact ⟨⟨rt,rt,trivial⟩,trivial⟩
 refine sg 2 Y (rp Y (pi Y) (ra Y (rz [19] [.b (decide (op0=20))] [] [] Y (if2 H Y (fun h13 H=>?_) (fun h13 H=>?_)))))
 ·refine sg 2 Y (ra Y (ra Y (rz [2,3] [.i 0,.i 0] [] [] Y (QR ?_))))
  have z:=se H;subst z
  exact ⟨⟨rt,rt,trivial⟩,trivial⟩
 refine as2 [] [] [] [] Y (QK (sg 2 Y (ra Y (ra Y (rz [2,3] [.i 0,.i 1] [] [] Y (QR ?_))))))
 have z:=se H;subst z
 exact ⟨⟨rt,rt,trivial⟩,trivial⟩
def g_ref_kindOf_r2:List (List (Nat×Option Nat)):=[[(2,none)],[(21,some 0)],[(22,some 1)],[(2,none)],[(24,some 3)],[(25,some 4)],[(26,some 5)],[(23,some 2)]]
def g_ref_kindOf_r2c:List (List Nat):=[[],[0],[0,1],[],[3],[3,4],[3,4,5],[0,1,2],[0,1,2,3,4,5,6,7],[0,1,2,3,4,5,6,7,8]]
def g_ref_kindOf_r7:List (List (Nat×Option Nat)):=[[(1,none)],[(7,none)],[(37,some 0),(38,some 1)],[(39,some 2)],[(40,some 3)],[(1,none)],[(7,none)],[(42,some 5),(43,some 6)],[(44,some 7)],[(45,some 8)],[(41,some 4)]]
def g_ref_kindOf_r7c:List (List Nat):=[[],[],[0,1],[0,1,2],[0,1,2,3],[],[],[5,6],[5,6,7],[5,6,7,8],[0,1,2,3,4],[0,1,2,3,4,5,6,7,8,9,10],[0,1,2,3,4,5,6,7,8,9,10,11]]
noncomputable def g_ref_kindOf_l0 (e0:GExpr) (cols1:List GColumn) (R':GExpr→(List GColumn)→Option (Int×Bool×Int)):Bool×Bool×Int×Bool×Int→Option ((Bool×Bool×Int×Bool×Int)⊕((Int×Bool×Int)⊕(Bool×Bool×Int×Bool)))
  | (some8_0,all9_0,asks10_0,clash12_0,t56_0)=>(if t56_0 < (e0.Args.length:Int) then (show Option ((Int×Bool×Int)⊕(Bool×Bool×Int×Bool)) from if 0≤t56_0∧t56_0 < (e0.Args.length:Int) then (R' (lrd e0.Args t56_0.toNat) cols1).bind fun r'4=>(if r'4.2.2≠(0:Int) then some (.inl ((0:Int),false,r'4.2.2)) else (if (e0.Op=(17:Int))∨(r'4.1=(0:Int)) then some (.inr ((decide ((some8_0=true)∨(r'4.2.1=true))),(decide ((all9_0=true)∧(r'4.2.1=true))),asks10_0,clash12_0)) else ((if asks10_0=(0:Int) then some r'4.1 else some asks10_0)).bind fun j'5=>some (.inr ((decide ((some8_0=true)∨(r'4.2.1=true))),(decide ((all9_0=true)∧(r'4.2.1=true))),j'5,(decide ((clash12_0=true)∨(r'4.1≠j'5))))))) else none).bind fun o'7=>match o'7 with | .inl y'6=>some (.inr (.inl y'6)) | .inr j'3=>some (.inl (j'3.1,j'3.2.1,j'3.2.2.1,j'3.2.2.2,w64 (t56_0+(1:Int)))) else some (.inr (.inr (some8_0,all9_0,asks10_0,clash12_0))))
noncomputable def g_ref_kindOf_b (R':GExpr→(List GColumn)→Option (Int×Bool×Int)) (e0:GExpr) (cols1:List GColumn):Option (Int×Bool×Int) :=
  (if e0.Op=(1:Int) then some (e0.Value.Kind,(decide (e0.Value.Kind=(0:Int))),(0:Int)) else (if e0.Op=(2:Int) then (g_ref_columnAt cols1 e0.Name).bind fun r'1=>(if r'1 < (0:Int) then some ((0:Int),false,(5:Int)) else if 0≤r'1∧r'1 < (cols1.length:Int) then if 0≤r'1∧r'1 < (cols1.length:Int) then some ((lrd cols1 r'1.toNat).Kind,(lrd cols1 r'1.toNat).Null,(0:Int)) else none else none) else (g_ref_asksFor e0.Op).bind fun r'2=>(loopO (g_ref_kindOf_l0 e0 cols1 R') (false,true,r'2.1,false,(0:Int))).bind fun o'11=>match o'11 with | .inl y'12=>some y'12 | .inr (y'13)=>(if y'13.2.2.2=true then some ((0:Int),false,(2:Int)) else (if e0.Op=(17:Int) then some ((1:Int),false,(0:Int)) else (if e0.Op=(20:Int) then some (y'13.2.2.1,y'13.2.1,(0:Int)) else some (r'2.2,y'13.1,(0:Int)))))))
noncomputable def g_ref_kindOf:Nat→GExpr→(List GColumn)→Option (Int×Bool×Int)
  | 0,_,_=>none
  | fu+1,e0,cols1=>g_ref_kindOf_b (g_ref_kindOf fu) e0 cols1
theorem g_ref_kindOf_ac0 {R':GExpr→(List GColumn)→Option (Int×Bool×Int)} (hR:∀ {e0:GExpr} {cols1:List GColumn} {r:Int×Bool×Int},R' e0 cols1=some r→ACp Tryz.prog 48 [(.agg (GExpr.cs e0)),(GColumn.ls cols1)] (.tup [(AV.int r.1),(AV.bool r.2.1),(AV.int r.2.2)])) {e0:GExpr} {cols1:List GColumn} {r:Int×Bool×Int} (H:g_ref_kindOf_b R' e0 cols1=some r):ACp Tryz.prog 48 [(.agg (GExpr.cs e0)),(GColumn.ls cols1)] (.tup [(AV.int r.1),(AV.bool r.2.1),(AV.int r.2.2)]):=by
 refine ACp_of (AC2_of_body (vs:=[.i r.1,.b r.2.1,.i r.2.2]) Tryz.func48 Y Y (lb Y) Y ?_) (fun _=>.same _)
 unfold g_ref_kindOf_b at H
 refine as2 [0,1] [.g (GExpr.cs e0),.p (GColumn.ls cols1)] [] [] Y (sg 4 Y (rq Y (bx 2 Y) (ra Y (ra Y (ra Y (rz [1,2] [_,.q 2 (0)] [2] [.pure (GExpr.cs e0)] Y (QS (sg 3 Y (rf Y U35 Y in_3 Y Y (GExpr.len e0) (rp Y (pl U3 Y (GExpr.sub0 e0)) (rp Y (pi Y) (rz [1,2,20] [_,_,.b (decide (e0.Op=1))] [2] [_] Y (if2 H Y (fun h1 H=>?_) (fun h1 H=>?_))))))))))))))
 ·refine QS (AW2_ghoQ (AW2_draw 8 [8,9] (fun k=>([.q 2 (0+1),.q 2 (0+1+0),.i e0.Value.Kind,.q 2 (0+1),.q 2 (0+1+0),.i e0.Value.Kind,.b (decide (e0.Value.Kind=0)),.i e0.Value.Kind]:List TV).getD k TV.any) (fun k=>g_ref_kindOf_r2.getD k []) [(4,some 7),(27,some 6)] [] (fun k=>g_ref_kindOf_r2c.getD k []) mixed (by kernel_rfl) Y Y (a_op (g_x Y (x_p Y (uf U35 Y in_32 Y (GExpr.len e0)) Y)) (a_op (g_x Y (x_p Y (uf U32 Y in_3 Y (GExpr.len e0)) Y)) (a_op (g_x Y (x_p Y (pl U3 Y ((GExpr.sub1 e0).trans (GValue.sub0 e0.Value))) Y)) (a_op (g_x Y (x_p Y (uf U35 Y in_32 Y (GExpr.len e0)) Y)) (a_op (g_x Y (x_p Y (uf U32 Y in_3 Y (GExpr.len e0)) Y)) (a_op (g_x Y (x_p Y (pl U3 Y ((GExpr.sub1 e0).trans (GValue.sub0 e0.Value))) Y)) (a_op (g_x Y (x_p Y (pi Y) Y)) (a_op (g_x Y (x_p Y (p_asg Y Y) Y)) (a_nil))))))))) (t_op Y Y (PureD.opD (p_asg Y Y)) (t_op Y Y (PureD.opD (p_asg Y Y)) (t_gho (Gho_st (L:=[(4,.i e0.Value.Kind),(5,.b (decide (e0.Value.Kind=0))),(6,.i 0)]) (H:=[]) (N:=109) Y ⟨TLes.same _,TLes.same _,TLes.same _,trivial⟩ trivial) (QR ?_))))))
  have z:=se H;subst z
  exact ⟨⟨rt,rt,rt,trivial⟩,trivial⟩
 refine as2 [1,2] [_,_] [2] [_] Y (QK (QS (sg 3 Y (rf Y U35 Y in_3 Y Y (GExpr.len e0) (rp Y (pl U3 Y (GExpr.sub0 e0)) (rp Y (pi Y) (rz [1,2,30] [_,_,.b (decide (e0.Op=2))] [2] [_] Y (if2 H Y (fun h2 H=>?_) (fun h2 H=>?_)))))))))
 ·refine sg 5 Y (rm Y (rf Y U35 Y in_9 Y Y (GExpr.len e0) (rp Y (pl U9 Y (GExpr.sub2 e0)) (bindK H fun r'1 h3 H=>rp Y (pc Y Tryz.func23 Y (g_ref_columnAt_ac h3) Y) (ra Y (rz [1,7] [_,.i r'1] [] [] Y (QS (sg 2 Y (rm Y (rp Y (pb Y Y) (rz [1,7,36] [_,_,.b (decide (r'1 < 0))] [] [] Y (if2 H Y (fun h4 H=>?_) (fun h4 H=>?_)))))))))))))
  ·refine sg 3 Y (ra Y (ra Y (ra Y (rz [4,5,6] [.i 0,.b false,.i 5] [] [] Y (QR ?_)))))
   have z:=se H;subst z
   exact ⟨⟨rt,rt,rt,trivial⟩,trivial⟩
  refine as2 [1,7] [_,_] [] [] Y (QK (QS (chkK H fun h5 H=>chkK H fun h6 H=>AW2_ghoQ (AW2_draw 11 [11,12] (fun k=>([.p (GColumn.ls cols1),.i r'1,.p (.rptr (cols1.flatMap GColumn.cs) (r'1.toNat * 3)),.p (.rptr (cols1.flatMap GColumn.cs) (r'1.toNat * 3+1)),.i ((lrd cols1 r'1.toNat).Kind),.p (GColumn.ls cols1),.i r'1,.p (.rptr (cols1.flatMap GColumn.cs) (r'1.toNat * 3)),.p (.rptr (cols1.flatMap GColumn.cs) (r'1.toNat * 3+2)),.b ((lrd cols1 r'1.toNat).Null),.i ((lrd cols1 r'1.toNat).Kind)]:List TV).getD k TV.any) (fun k=>g_ref_kindOf_r7.getD k []) [(4,some 10),(46,some 9)] [] (fun k=>g_ref_kindOf_r7c.getD k []) mixed (by kernel_rfl) Y Y (a_op (g_x Y (x_p Y (p_move Y Y) Y)) (a_op (g_x Y (x_p Y (p_move Y Y) Y)) (a_op (g_x Y (x_p Y (u_ixl Y Y U22 in_63 Y Y (ixe h5) (ixn h5) (fne GColumn.len (by decide) (ixn h5))) Y)) (a_op (g_x Y (x_p Y (u_far Y Y U63 Y in_3 nz Y) Y)) (a_op (g_x Y (x_p Y (pl U3 Y ((Sub.fm default GColumn.len (ixn h5)).trans (GColumn.sub1 (lrd cols1 r'1.toNat)))) Y)) (a_op (g_x Y (x_p Y (p_move Y Y) Y)) (a_op (g_x Y (x_p Y (p_move Y Y) Y)) (a_op (g_x Y (x_p Y (u_ixl Y Y U22 in_63 Y Y (ixe h6) (ixn h6) (fne GColumn.len (by decide) (ixn h6))) Y)) (a_op (g_x Y (x_p Y (u_far Y Y U63 Y in_4 nz Y) Y)) (a_op (g_x Y (x_p Y (pl U4 Y ((Sub.fm default GColumn.len (ixn h6)).trans (GColumn.sub2 (lrd cols1 r'1.toNat)))) Y)) (a_op (g_x Y (x_p Y (p_asg Y Y) Y)) (a_nil)))))))))))) (t_op Y Y (PureD.opD (p_asg Y Y)) (t_op Y Y (PureD.opD (p_asg Y Y)) (t_gho (Gho_st (L:=[(4,.i ((lrd cols1 r'1.toNat).Kind)),(5,.b ((lrd cols1 r'1.toNat).Null)),(6,.i 0)]) (H:=[]) (N:=109) Y ⟨TLes.same _,TLes.same _,TLes.same _,trivial⟩ trivial) (QR ?_))))))))
  have z:=se H;subst z
  exact ⟨⟨rt,rt,rt,trivial⟩,trivial⟩
 refine as2 [1,2] [_,_] [2] [_] Y (QK (sg 2 Y (ra Y (ra Y (rz [1,2,8,9] [_,_,.b false,.b true] [2] [_] Y (sg 8 Y (rf Y U35 Y in_3 Y Y (GExpr.len e0) (rp Y (pl U3 Y (GExpr.sub0 e0)) (bindK H fun r'2 h7 H=>rp Y (pc Y Tryz.func50 Y (g_ref_asksFor_ac h7) Y) (rm Y (rp Y (pe Y) (rp Y (pe Y) (ra Y (ra Y (rz [1,2,8,9,10,11] [_,_,_,_,.i r'2.1,.i r'2.2] [2] [_] Y (sg 1 Y (ra Y (rz [1,2,8,9,10,11,12] [_,_,_,_,_,_,.b false] [2] [_] Y (QS (sg 4 Y (rf Y U35 Y in_33 Y Y (GExpr.len e0) (rp Y (pl U33 Y (GExpr.sub3 e0)) ?_))))))))))))))))))))))
 refine rp Y (p_lenl Y U33 Y Y) (rm Y (rz [1,2,8,9,10,11,12,54,55,56] [_,_,_,_,_,_,_,.p (GExpr.ls e0.Args),.i (e0.Args.length:Int),.i 0] [2] [_] Y (QB (as2 [1,2,8,9,10,11,12,54,55,56] [_,_,_,_,_,_,_,_,_,_] [2] [_] Y (bindK H fun o'11 h21 H=>AW2_loopO (fun a'8:Bool×Bool×Int×Bool×Int=>(⟨[(1,.p (GColumn.ls cols1)),(2,.q 2 (0)),(8,.b a'8.1),(9,.b a'8.2.1),(10,.i a'8.2.2.1),(11,.i r'2.2),(12,.b a'8.2.2.2.1),(54,.p (GExpr.ls e0.Args)),(55,.i (e0.Args.length:Int)),(56,.i a'8.2.2.2.2)],[(2,.pure (GExpr.cs e0))],109⟩:TS)) (fun (o:(Int×Bool×Int)⊕(Bool×Bool×Int×Bool)) e s'=>match o with | .inl y'9=>e=Go.Exit.ret∧ResAll Tryz.prog s' [ResultVar.tmp 4,ResultVar.tmp 5,ResultVar.tmp 6] [.i y'9.1,.b y'9.2.1,.i y'9.2.2]∧HFits s' [] | .inr (y'10)=>e=Go.Exit.exit 0∧s'=(⟨[(2,.q 2 (0)),(8,.b y'10.1),(9,.b y'10.2.1),(10,.i y'10.2.2.1),(11,.i r'2.2),(12,.b y'10.2.2.2)],[(2,.pure (GExpr.cs e0))],109⟩:TS)) h21 Y (fun a x hx=>?_) (fun e s' hs=>?_))))))
 ·clear H
  obtain ⟨some8_0,all9_0,asks10_0,clash12_0,t56_0⟩:=a
  have H:=hx
  clear hx
  unfold g_ref_kindOf_l0 at H
  refine sg 1 Y (rp Y (pb Y Y) (rz [1,2,8,9,10,11,12,54,55,56,57] [.p (GColumn.ls cols1),.q 2 (0),.b some8_0,.b all9_0,.i asks10_0,.i r'2.2,.b clash12_0,.p (GExpr.ls e0.Args),.i (e0.Args.length:Int),.i t56_0,.b (decide (t56_0 < (e0.Args.length:Int)))] [2] [.pure (GExpr.cs e0)] Y (QS (if2 H Y (fun h8 H=>?_) (fun h8 H=>?_)))))
  ·refine as2 [1,2,8,9,10,11,12,54,55,56] [_,_,_,_,_,_,_,_,_,_] [2] [_] Y (QK (QS (bindK H fun o'7 h9 H=>AW2_join (fun j'3:Bool×Bool×Int×Bool=>(⟨[(1,.p (GColumn.ls cols1)),(2,.q 2 (0)),(8,.b j'3.1),(9,.b j'3.2.1),(10,.i j'3.2.2.1),(11,.i r'2.2),(12,.b j'3.2.2.2),(54,.p (GExpr.ls e0.Args)),(55,.i (e0.Args.length:Int)),(56,.i t56_0)],[(2,.pure (GExpr.cs e0))],109⟩:TS)) (fun r e s'=>e=Go.Exit.ret∧ResAll Tryz.prog s' [ResultVar.tmp 4,ResultVar.tmp 5,ResultVar.tmp 6] [.i r.1,.b r.2.1,.i r.2.2]∧HFits s' []) (x:=o'7) ?_ (fun j'3 hy=>?_) (fun y'6 e s' hy hs=>?_))))
   ·clear H
    have H:=h9
    clear h9
    refine QB (sg 4 Y (chkK H fun h10 H=>rp Y (u_ixl Y Y U33 in_35 Y Y (ixe h10) (ixn h10) (fne GExpr.len (by decide) (ixn h10))) (rp Y (pL U35 Y in_35 (Sub.fm default GExpr.len (ixn h10)) (GExpr.len (lrd e0.Args t56_0.toNat))) (rq Y (al 14 in_35 one_35 zc_35 Y) (rq Y (u_sw Y Y in_35 (GExpr.len (lrd e0.Args t56_0.toNat)) (GExpr.len GExpr.zero)) (rz [1,2,8,9,10,11,12,14,54,55,56] [.p (GColumn.ls cols1),.q 2 (0),.b some8_0,.b all9_0,.i asks10_0,.i r'2.2,.b clash12_0,.q 14 (0),.p (GExpr.ls e0.Args),.i (e0.Args.length:Int),.i t56_0] [2,14] [.pure (GExpr.cs e0),.pure (GExpr.cs (lrd e0.Args t56_0.toNat))] Y (sg 10 Y (rp Y (pL U35 Y in_35 (Sub.refl _) (GExpr.len (lrd e0.Args t56_0.toNat))) (rm Y (bindK H fun r'4 h11 H=>rp Y (pc Y Tryz.func48 Y (hR h11) Y) (rm Y (rp Y (pe Y) (rp Y (pe Y) (rp Y (pe Y) (ra Y (ra Y (ra Y (rz [1,2,8,9,10,11,12,15,16,17,54,55,56] [_,_,_,_,_,_,_,.i r'4.1,.b r'4.2.1,.i r'4.2.2,_,_,_] [2] [_] Y (QS (sg 2 Y (rm Y ?_)))))))))))))))))))))
    refine rp Y (pn Y) (rz [1,2,8,9,10,11,12,15,16,17,54,55,56,68] [_,_,_,_,_,_,_,_,_,_,_,_,_,.b (decide (r'4.2.2≠0))] [2] [_] Y (if2 H Y (fun h12 H=>?_) (fun h12 H=>?_)))
    ·refine sg 4 Y (rm Y (ra Y (ra Y (ra Y (rz [4,5,6] [.i 0,.b false,.i r'4.2.2] [] [] Y (QR ?_))))))
     have z:=se H;subst z
     exact ⟨Y,⟨rt,rt,rt,trivial⟩,trivial⟩
    refine as2 [1,2,8,9,10,11,12,15,16,54,55,56] [_,_,_,_,_,_,_,_,_,_,_,_] [2] [_] Y (QK (QS (AW2_mid (⟨[(1,.p (GColumn.ls cols1)),(2,.q 2 (0)),(8,.b (decide ((some8_0=true)∨(r'4.2.1=true)))),(9,.b (decide ((all9_0=true)∧(r'4.2.1=true)))),(10,.i asks10_0),(11,.i r'2.2),(12,.b clash12_0),(15,.i r'4.1),(54,.p (GExpr.ls e0.Args)),(55,.i (e0.Args.length:Int)),(56,.i t56_0)],[(2,.pure (GExpr.cs e0))],109⟩:TS) ?_ ?_)))
    ·refine ar 10 Y (rm Y (rm Y ?_))
     refine (Classical.em (some8_0=true)).elim (fun h13=>?_) (fun h13=>?_)
     ·refine rO Y h13 Y (rp Y (p_pkt Y Y h13 (tb (dT (p:=(some8_0=true)∨(r'4.2.1=true)) (Or.inl h13)).symm)) (rm Y (rm Y ?_)))
      refine (Classical.em (all9_0=true)).elim (fun h14=>?_) (fun h14=>?_)
      ·exact rn Y h14 Y (p_move Y Y) (rp Y (p_pkt Y Y h14 (tb ((bdec _).trans (and_l (q:=r'4.2.1=true) h14)))) (ra Y (ra Y (rend Y Y))))
      exact rO Y (bfalse h14) Y (rp Y (p_pkf Y Y (bfalse h14) (tb (dF (p:=(all9_0=true)∧(r'4.2.1=true)) (fun x=>h14 x.1)).symm)) (ra Y (ra Y (rend Y Y))))
     refine rn Y (bfalse h13) Y (p_move Y Y) (rp Y (p_pkf Y Y (bfalse h13) (tb ((bdec _).trans (or_l (q:=r'4.2.1=true) h13)))) (rm Y (rm Y ?_)))
     refine (Classical.em (all9_0=true)).elim (fun h15=>?_) (fun h15=>?_)
     ·exact rn Y h15 Y (p_move Y Y) (rp Y (p_pkt Y Y h15 (tb ((bdec _).trans (and_l (q:=r'4.2.1=true) h15)))) (ra Y (ra Y (rend Y Y))))
     exact rO Y (bfalse h15) Y (rp Y (p_pkf Y Y (bfalse h15) (tb (dF (p:=(all9_0=true)∧(r'4.2.1=true)) (fun x=>h15 x.1)).symm)) (ra Y (ra Y (rend Y Y))))
    refine QS (QS (AW2_mid (⟨[(1,.p (GColumn.ls cols1)),(2,.q 2 (0)),(8,.b (decide ((some8_0=true)∨(r'4.2.1=true)))),(9,.b (decide ((all9_0=true)∧(r'4.2.1=true)))),(10,.i asks10_0),(11,.i r'2.2),(12,.b clash12_0),(15,.i r'4.1),(54,.p (GExpr.ls e0.Args)),(55,.i (e0.Args.length:Int)),(56,.i t56_0),(84,.b (decide ((e0.Op=17)∨(r'4.1=0))))],[(2,.pure (GExpr.cs e0))],109⟩:TS) ?_ ?_))
    ·refine ar 7 Y (rf Y U35 Y in_3 Y Y (GExpr.len e0) (rp Y (pl U3 Y (GExpr.sub0 e0)) (rp Y (pi Y) (rm Y ?_))))
     refine (Classical.em (e0.Op=17)).elim (fun h16=>?_) (fun h16=>?_)
     ·iterate 2 (refine rO Y (dT h16) Y ?_)
      exact rp Y (p_pkt Y Y (dT h16) (tb (dT (p:=(e0.Op=17)∨(r'4.1=0)) (Or.inl h16)).symm)) (rend Y Y)
     exact rn Y (dF h16) Y (p_move Y Y) (rn Y (dF h16) Y (pi Y) (rp Y (p_pkf Y Y (dF h16) (tb ((or_l (q:=r'4.1=0) h16)))) (rend Y Y)))
    refine if2 H Y (fun h17 H=>?_) (fun h17 H=>?_)
    ·refine as2 [1,2,8,9,10,11,12,54,55,56] [_,_,_,_,_,_,_,_,_,_] [2] [_] Y (AW2_exit (thenQ2_exit (blockQ2_exit ?_)))
     have z:=se H;subst z
     exact ⟨Y,Y⟩
    refine as2 [1,2,8,9,10,11,12,15,54,55,56] [_,_,_,_,_,_,_,_,_,_,_] [2] [_] Y (QK (QS (bindK H fun j'5 h18 H=>AW2_mid (⟨[(1,.p (GColumn.ls cols1)),(2,.q 2 (0)),(8,.b (decide ((some8_0=true)∨(r'4.2.1=true)))),(9,.b (decide ((all9_0=true)∧(r'4.2.1=true)))),(10,.i j'5),(11,.i r'2.2),(12,.b clash12_0),(15,.i r'4.1),(54,.p (GExpr.ls e0.Args)),(55,.i (e0.Args.length:Int)),(56,.i t56_0)],[(2,.pure (GExpr.cs e0))],109⟩:TS) ?_ ?_)))
    ·clear H
     have H:=h18
     clear h18
     refine sg 2 Y (rm Y (rp Y (pi Y) (rz [1,2,8,9,10,11,12,15,54,55,56,86] [.p (GColumn.ls cols1),.q 2 (0),.b (decide ((some8_0=true)∨(r'4.2.1=true))),.b (decide ((all9_0=true)∧(r'4.2.1=true))),.i asks10_0,.i r'2.2,.b clash12_0,.i r'4.1,.p (GExpr.ls e0.Args),.i (e0.Args.length:Int),.i t56_0,.b (decide (asks10_0=0))] [2] [.pure (GExpr.cs e0)] Y (if2 H Y (fun h19 H=>?_) (fun h19 H=>?_)))))
     ·refine ar 2 Y (rm Y (ra Y (rz [1,2,8,9,10,11,12,15,54,55,56] [_,_,_,_,.i r'4.1,_,_,_,_,_,_] [2] [_] Y ?_)))
      have z:=se H;subst z
      exact rfl
     refine as2 [1,2,8,9,10,11,12,15,54,55,56] [_,_,_,_,_,_,_,_,_,_,_] [2] [_] Y (QK ?_)
     have z:=se H;subst z
     exact rfl
    refine AW2_mid (⟨[(1,.p (GColumn.ls cols1)),(2,.q 2 (0)),(8,.b (decide ((some8_0=true)∨(r'4.2.1=true)))),(9,.b (decide ((all9_0=true)∧(r'4.2.1=true)))),(10,.i j'5),(11,.i r'2.2),(12,.b (decide ((clash12_0=true)∨(r'4.1≠j'5)))),(54,.p (GExpr.ls e0.Args)),(55,.i (e0.Args.length:Int)),(56,.i t56_0)],[(2,.pure (GExpr.cs e0))],109⟩:TS) ?_ ?_
    ·refine ar 7 Y (rm Y (rm Y ?_))
     refine (Classical.em (clash12_0=true)).elim (fun h20=>?_) (fun h20=>?_)
     ·iterate 3 (refine rO Y h20 Y ?_)
      exact rp Y (p_pkt Y Y h20 (tb (dT (p:=(clash12_0=true)∨(r'4.1≠j'5)) (Or.inl h20)).symm)) (ra Y (rend Y Y))
     exact rn Y (bfalse h20) Y (p_move Y Y) (rn Y (bfalse h20) Y (p_move Y Y) (rn Y (bfalse h20) Y (pn Y) (rp Y (p_pkf Y Y (bfalse h20) (tb ((or_l (q:=r'4.1≠j'5) h20)))) (ra Y (rend Y Y)))))
    have z:=se H;subst z
    exact ⟨Y,Y⟩
   ·subst hy
    refine ar 2 Y (rp Y (pb Y Y) (rm Y (rz [1,2,8,9,10,11,12,54,55,56] [.p (GColumn.ls cols1),.q 2 (0),.b j'3.1,.b j'3.2.1,.i j'3.2.2.1,.i r'2.2,.b j'3.2.2.2,.p (GExpr.ls e0.Args),.i (e0.Args.length:Int),.i (w64 (t56_0+1))] [2] [.pure (GExpr.cs e0)] Y ?_)))
    have z:=se H;subst z
    exact ⟨Y,Y⟩
   subst hy
   obtain ⟨rfl,hs⟩:=hs
   have z:=se H;subst z
   exact ⟨Y,hs.1,hs.2⟩
  refine as2 [2,8,9,10,11,12] [_,_,_,_,_,_] [2] [_] Y (AW2_exit (thenQ2_exit ?_))
  have z:=se H;subst z
  exact ⟨Y,Y⟩
 rcases o'11 with y'12 | y'13
 ·obtain ⟨rfl,hs⟩:=hs
  refine ⟨by simp,?_⟩
  have z:=se H;subst z
  exact ⟨hs.1,hs.2⟩
 obtain ⟨rfl,rfl⟩:=hs
 refine ⟨by simp,?_⟩
 refine blockQ2_exit (QS (QB (sg 2 Y (rm Y (ra Y (rz [2,8,9,10,11,95] [.q 2 (0),.b y'13.1,.b y'13.2.1,.i y'13.2.2.1,.i r'2.2,.b y'13.2.2.2] [2] [.pure (GExpr.cs e0)] Y (AW2_cond Y (fun h22=>?_) (fun h22=>?_))))))))
 ·replace H:=ite_then h22 H
  refine sg 3 Y (ra Y (ra Y (ra Y (rz [4,5,6] [.i 0,.b false,.i 2] [] [] Y (QR ?_)))))
  have z:=se H;subst z
  exact ⟨⟨rt,rt,rt,trivial⟩,trivial⟩
 replace H:=ite_else (ne_true h22) H
 refine sg 4 Y (rf Y U35 Y in_3 Y Y (GExpr.len e0) (rp Y (pl U3 Y (GExpr.sub0 e0)) (rp Y (pi Y) (ra Y (rz [2,8,9,10,11,97] [.q 2 (0),.b y'13.1,.b y'13.2.1,.i y'13.2.2.1,.i r'2.2,.b (decide (e0.Op=17))] [2] [.pure (GExpr.cs e0)] Y (if2 H Y (fun h23 H=>?_) (fun h23 H=>?_)))))))
 ·refine sg 3 Y (ra Y (ra Y (ra Y (rz [4,5,6] [.i 1,.b false,.i 0] [] [] Y (QR ?_)))))
  have z:=se H;subst z
  exact ⟨⟨rt,rt,rt,trivial⟩,trivial⟩
 refine sg 4 Y (rf Y U35 Y in_3 Y Y (GExpr.len e0) (rp Y (pl U3 Y (GExpr.sub0 e0)) (rp Y (pi Y) (ra Y (rz [8,9,10,11,101] [_,_,_,_,.b (decide (e0.Op=20))] [] [] Y (if2 H Y (fun h24 H=>?_) (fun h24 H=>?_)))))))
 ·refine sg 5 Y (rm Y (rm Y (ra Y (ra Y (ra Y (rz [4,5,6] [.i y'13.2.2.1,.b y'13.2.1,.i 0] [] [] Y (QR ?_)))))))
  have z:=se H;subst z
  exact ⟨⟨rt,rt,rt,trivial⟩,trivial⟩
 refine as2 [8,11] [_,_] [] [] Y (QK (sg 5 Y (rm Y (rm Y (ra Y (ra Y (ra Y (rz [4,5,6] [.i r'2.2,.b y'13.1,.i 0] [] [] Y (QR ?_)))))))))
 have z:=se H;subst z
 exact ⟨⟨rt,rt,rt,trivial⟩,trivial⟩
theorem g_ref_kindOf_acN:∀ (fu:Nat) {e0:GExpr} {cols1:List GColumn} {r:Int×Bool×Int},g_ref_kindOf fu e0 cols1=some r→ACp Tryz.prog 48 [(.agg (GExpr.cs e0)),(GColumn.ls cols1)] (.tup [(AV.int r.1),(AV.bool r.2.1),(AV.int r.2.2)])
 | 0,_,_,_,H=>(by cases H)
 | fu+1,_,_,_,H=>g_ref_kindOf_ac0 (g_ref_kindOf_acN fu) H
theorem g_ref_kindOf_ac {e0:GExpr} {cols1:List GColumn} {r:Int×Bool×Int} (H:g_ref_kindOf 100000 e0 cols1=some r):ACp Tryz.prog 48 [(.agg (GExpr.cs e0)),(GColumn.ls cols1)] (.tup [(AV.int r.1),(AV.bool r.2.1),(AV.int r.2.2)]):=g_ref_kindOf_acN 100000 H
noncomputable def g_ref_KindOf (e0:GExpr) (cols1:List GColumn):Option (Int×Bool×Int) :=
  (g_ref_ExprFault e0).bind fun r'1=>(if r'1≠(0:Int) then some ((0:Int),false,r'1) else (g_ref_ColumnsFault cols1).bind fun r'2=>(if r'2≠(0:Int) then some ((0:Int),false,r'2) else (g_ref_kindOf 100000 e0 cols1).bind fun r'3=>some (r'3.1,r'3.2.1,r'3.2.2)))
theorem g_ref_KindOf_ac {e0:GExpr} {cols1:List GColumn} {r:Int×Bool×Int} (H:g_ref_KindOf e0 cols1=some r):ACp Tryz.prog 35 [(.agg (GExpr.cs e0)),(GColumn.ls cols1)] (.tup [(AV.int r.1),(AV.bool r.2.1),(AV.int r.2.2)]):=by
 refine ACp_of (AC2_of_body (vs:=[.i r.1,.b r.2.1,.i r.2.2]) Tryz.func35 Y Y (lb Y) Y ?_) (fun _=>.same _)
 unfold g_ref_KindOf at H
 refine as2 [0,1] [.g (GExpr.cs e0),.p (GColumn.ls cols1)] [] [] Y (sg 4 Y (rq Y (bx 2 Y) (ra Y (ra Y (ra Y (rz [1,2] [_,.q 2 (0)] [2] [.pure (GExpr.cs e0)] Y (QS (sg 3 Y (rp Y (pL U35 Y in_35 (Sub.refl _) (GExpr.len e0)) (bindK H fun r'1 h1 H=>rp Y (pc Y Tryz.func47 Y (g_ref_ExprFault_ac h1) Y) (ra Y (rz [1,2,7] [_,_,.i r'1] [2] [_] Y (sg 2 Y (rm Y (rp Y (pn Y) (rz [1,2,7,12] [_,_,_,.b (decide (r'1≠0))] [2] [_] Y (if2 H Y (fun h2 H=>?_) (fun h2 H=>?_))))))))))))))))))
 ·refine sg 4 Y (rm Y (ra Y (ra Y (ra Y (rz [4,5,6] [.i 0,.b false,.i r'1] [] [] Y (QR ?_))))))
  have z:=se H;subst z
  exact ⟨⟨rt,rt,rt,trivial⟩,trivial⟩
 refine as2 [1,2] [_,_] [2] [_] Y (QK (QS (sg 3 Y (rm Y (bindK H fun r'2 h3 H=>rp Y (pc Y Tryz.func34 Y (g_ref_ColumnsFault_ac h3) Y) (ra Y (rz [1,2,8] [_,_,.i r'2] [2] [_] Y (sg 2 Y (rm Y (rp Y (pn Y) (rz [1,2,8,17] [_,_,_,.b (decide (r'2≠0))] [2] [_] Y (if2 H Y (fun h4 H=>?_) (fun h4 H=>?_)))))))))))))
 ·refine sg 4 Y (rm Y (ra Y (ra Y (ra Y (rz [4,5,6] [.i 0,.b false,.i r'2] [] [] Y (QR ?_))))))
  have z:=se H;subst z
  exact ⟨⟨rt,rt,rt,trivial⟩,trivial⟩
 refine as2 [1,2] [_,_] [2] [_] Y (QK (sg 9 Y (rp Y (pL U35 Y in_35 (Sub.refl _) (GExpr.len e0)) (rm Y (bindK H fun r'3 h5 H=>rp Y (pc Y Tryz.func48 Y (g_ref_kindOf_ac h5) Y) (rp Y (pe Y) (rp Y (pe Y) (rp Y (pe Y) (ra Y (ra Y (ra Y (rz [4,5,6] [.i r'3.1,.b r'3.2.1,.i r'3.2.2] [] [] Y (QR ?_)))))))))))))
 have z:=se H;subst z
 exact ⟨⟨rt,rt,rt,trivial⟩,trivial⟩
noncomputable def g_ref_ConditionFault (e0:GExpr) (cols1:List GColumn):Option (Int) :=
  (g_ref_noExpr e0).bind fun r'1=>(if r'1=true then (g_ref_ColumnsFault cols1).bind fun r'2=>some r'2 else (g_ref_KindOf e0 cols1).bind fun r'3=>(if r'3.2.2≠(0:Int) then some r'3.2.2 else (if r'3.1 > (1:Int) then some (2:Int) else some (0:Int))))
theorem g_ref_ConditionFault_ac {e0:GExpr} {cols1:List GColumn} {r:Int} (H:g_ref_ConditionFault e0 cols1=some r):ACp Tryz.prog 14 [(.agg (GExpr.cs e0)),(GColumn.ls cols1)] (AV.int r):=by
 refine ACp_of (AC2_of_body (vs:=[.i r]) Tryz.func14 Y Y (lb Y) Y ?_) (fun _=>.same _)
 unfold g_ref_ConditionFault at H
 refine as2 [0,1] [.g (GExpr.cs e0),.p (GColumn.ls cols1)] [] [] Y (sg 2 Y (rq Y (bx 2 Y) (ra Y (rz [1,2] [_,.q 2 (0)] [2] [.pure (GExpr.cs e0)] Y (QS (sg 2 Y (rp Y (pL U35 Y in_35 (Sub.refl _) (GExpr.len e0)) (bindK H fun r'1 h1 H=>rp Y (pc Y Tryz.func33 Y (g_ref_noExpr_ac h1) Y) (rz [1,2,9] [_,_,.b r'1] [2] [_] Y (AW2_cond Y (fun h2=>?_) (fun h2=>?_)))))))))))
 ·replace H:=ite_then h2 H
  refine sg 3 Y (rm Y (bindK H fun r'2 h3 H=>rp Y (pc Y Tryz.func34 Y (g_ref_ColumnsFault_ac h3) Y) (ra Y (rz [4] [.i r'2] [] [] Y (QR ?_)))))
  have z:=se H;subst z
  exact ⟨⟨rt,trivial⟩,trivial⟩
 replace H:=ite_else (ne_true h2) H
 refine as2 [1,2] [.p (GColumn.ls cols1),.q 2 (0)] [2] [.pure (GExpr.cs e0)] Y (QK (sg 10 Y (rp Y (pL U35 Y in_35 (Sub.refl _) (GExpr.len e0)) (rm Y (bindK H fun r'3 h4 H=>rp Y (pc Y Tryz.func35 Y (g_ref_KindOf_ac h4) Y) (rm Y (rp Y (pe Y) (rp Y (pe Y) (rp Y (pe Y) (ra Y (ra Y (ra Y (rz [5,7] [.i r'3.1,.i r'3.2.2] [] [] Y (QS (sg 2 Y (rm Y (rp Y (pn Y) (rz [5,7,20] [_,_,.b (decide (r'3.2.2≠0))] [] [] Y (if2 H Y (fun h5 H=>?_) (fun h5 H=>?_))))))))))))))))))))
 ·refine sg 2 Y (rm Y (ra Y (rz [4] [.i r'3.2.2] [] [] Y (QR ?_))))
  have z:=se H;subst z
  exact ⟨⟨rt,trivial⟩,trivial⟩
 refine as2 [5] [_] [] [] Y (QK (QS (sg 2 Y (rm Y (rp Y (pb Y Y) (rz [23] [.b (decide (r'3.1 > 1))] [] [] Y (if2 H Y (fun h6 H=>?_) (fun h6 H=>?_))))))))
 ·refine sg 1 Y (ra Y (rz [4] [.i 2] [] [] Y (QR ?_)))
  have z:=se H;subst z
  exact ⟨⟨rt,trivial⟩,trivial⟩
 refine as2 [] [] [] [] Y (QK (sg 1 Y (ra Y (rz [4] [.i 0] [] [] Y (QR ?_)))))
 have z:=se H;subst z
 exact ⟨⟨rt,trivial⟩,trivial⟩
noncomputable def g_ref_setsFault_l1 (l0:List GSet) (t24_0:Int) (done5_0:List (List UInt8)):Int→Option (Int⊕(Int⊕Unit))
  | t36_1=>(if t36_1 < (done5_0.length:Int) then if 0≤t36_1∧t36_1 < (done5_0.length:Int) then (if (lrd done5_0 t36_1.toNat)=(lrd l0 t24_0.toNat).Col then some (.inr (.inl (8:Int))) else some (.inl (w64 (t36_1+(1:Int))))) else none else some (.inr (.inr ())))
noncomputable def g_ref_setsFault_l0 (l0:List GSet) (cols1:List GColumn):Int×(List (List UInt8))→Option ((Int×(List (List UInt8)))⊕(Int⊕Unit))
  | (t24_0,done5_0)=>(if t24_0 < (l0.length:Int) then if 0≤t24_0∧t24_0 < (l0.length:Int) then (g_ref_columnAt cols1 ((lrd l0 t24_0.toNat).Col)).bind fun r'1=>(if r'1 < (0:Int) then some (.inr (.inl (5:Int))) else (loopO (g_ref_setsFault_l1 l0 t24_0 done5_0) (0:Int)).bind fun o'5=>match o'5 with | .inl y'6=>some (.inr (.inl y'6)) | .inr (y'7)=>if room (done5_0.length+([(lrd l0 t24_0.toNat).Col]:List (List UInt8)).length) 16 then (g_ref_KindOf ((lrd l0 t24_0.toNat).Expr) cols1).bind fun r'8=>(if r'8.2.2≠(0:Int) then some (.inr (.inl r'8.2.2)) else ((if r'8.1≠(0:Int) then if 0≤r'1∧r'1 < (cols1.length:Int) then some (decide (r'8.1≠(lrd cols1 r'1.toNat).Kind)) else none else some false)).bind fun g'9=>(if g'9=true then some (.inr (.inl (2:Int))) else some (.inl (w64 (t24_0+(1:Int)),done5_0++([(lrd l0 t24_0.toNat).Col]:List (List UInt8)))))) else none) else none else some (.inr (.inr ())))
noncomputable def g_ref_setsFault (l0:List GSet) (cols1:List GColumn):Option (Int) :=
  (if ((l0.length:Int)=(0:Int))∨((l0.length:Int) > (4:Int)) then some (1:Int) else (loopO (g_ref_setsFault_l0 l0 cols1) ((0:Int),([]:List (List UInt8)))).bind fun o'13=>match o'13 with | .inl y'14=>some y'14 | .inr (y'15)=>some (0:Int))
theorem g_ref_setsFault_ac {l0:List GSet} {cols1:List GColumn} {r:Int} (H:g_ref_setsFault l0 cols1=some r):ACp Tryz.prog 21 [(GSet.ls l0),(GColumn.ls cols1)] (AV.int r):=by
 refine ACp_of (AC2_of_body (vs:=[.i r]) Tryz.func21 Y Y (lb Y) Y ?_) (fun _=>.same _)
 unfold g_ref_setsFault at H
 refine as2 [0,1] [.p (GSet.ls l0),.p (GColumn.ls cols1)] [] [] Y (sg 1 Y (ra Y (rz [0,1] [_,_] [] [] Y (QS (QS (AW2_mid (⟨[(0,.p (GSet.ls l0)),(1,.p (GColumn.ls cols1)),(21,.b (decide (((l0.length:Int)=0)∨((l0.length:Int) > 4))))],[],73⟩:TS) ?_ ?_))))))
 ·refine ar 8 Y (rm Y (rp Y (p_lenl Y U41 Y Y) (rp Y (pi Y) (rm Y ?_))))
  refine (Classical.em ((l0.length:Int)=0)).elim (fun h1=>?_) (fun h1=>?_)
  ·exact rO Y (dT h1) Y (rO Y (dT h1) Y (rO Y (dT h1) Y (rp Y (p_pkt Y Y (dT h1) (tb (dT (p:=((l0.length:Int)=0)∨((l0.length:Int) > 4)) (Or.inl h1)).symm)) (rend Y Y))))
  exact rn Y (dF h1) Y (p_move Y Y) (rn Y (dF h1) Y (p_lenl Y U41 Y Y) (rn Y (dF h1) Y (pb Y Y) (rp Y (p_pkf Y Y (dF h1) (tb ((or_l (q:=(l0.length:Int) > 4) h1)))) (rend Y Y))))
 refine if2 H Y (fun h2 H=>?_) (fun h2 H=>?_)
 ·refine sg 1 Y (ra Y (rz [4] [.i 1] [] [] Y (QR ?_)))
  have z:=se H;subst z
  exact ⟨⟨rt,trivial⟩,trivial⟩
 refine as2 [0,1] [_,_] [] [] Y (QK (sg 1 Y (rp Y (p_asgn Y) (rz [0,1,5] [_,_,.p .nil] [] [] Y (QS (sg 3 Y (rm Y (rp Y (p_lenl Y U41 Y Y) (rm Y (rz [1,5,22,23,24] [_,_,.p (GSet.ls l0),.i (l0.length:Int),.i 0] [] [] Y (QB (as2 [1,5,22,23,24] [_,_,_,_,_] [] [] Y (AW2_gho (Gho_own (d:=5) (b:=5) (z:=1) Y Y Y Y) (AW2_st [(1,.p (GColumn.ls cols1)),(5,.c (.own 5 ([]:List (List UInt8)).length 1)),(22,.p (GSet.ls l0)),(23,.i (l0.length:Int)),(24,.i 0)] [(5,.pure (([]:List (List UInt8)).map AV.txt))] Y ⟨TLes.same _,TLes.own Y,TLes.same _,TLes.same _,TLes.same _,trivial⟩ ⟨Y,trivial⟩ (bindK H fun o'13 h20 H=>AW2_loopO (fun a'10:Int×(List (List UInt8))=>(⟨[(1,.p (GColumn.ls cols1)),(5,.c (.own 5 a'10.2.length 1)),(22,.p (GSet.ls l0)),(23,.i (l0.length:Int)),(24,.i a'10.1)],[(5,.pure (a'10.2.map AV.txt))],73⟩:TS)) (fun (o:Int⊕Unit) e s'=>match o with | .inl y'11=>e=Go.Exit.ret∧ResAll Tryz.prog s' [ResultVar.tmp 4] [.i y'11]∧HFits s' [] | .inr (y'12)=>e=Go.Exit.exit 0∧s'=(⟨[],[],73⟩:TS)) h20 Y (fun a x hx=>?_) (fun e s' hs=>?_))))))))))))))))
 ·clear H
  obtain ⟨t24_0,done5_0⟩:=a
  have H:=hx
  clear hx
  unfold g_ref_setsFault_l0 at H
  refine sg 1 Y (rp Y (pb Y Y) (rz [1,5,22,23,24,25] [.p (GColumn.ls cols1),.c (.own 5 done5_0.length 1),.p (GSet.ls l0),.i (l0.length:Int),.i t24_0,.b (decide (t24_0 < (l0.length:Int)))] [5] [.pure (done5_0.map AV.txt)] Y (QS (if2 H Y (fun h3 H=>?_) (fun h3 H=>?_)))))
  ·refine as2 [1,5,22,23,24] [_,_,_,_,_] [5] [_] Y (QK (QS (QB (sg 4 Y (chkK H fun h4 H=>rp Y (u_ixl Y Y U41 in_58 Y Y (ixe h4) (ixn h4) (fne GSet.len (by decide) (ixn h4))) (rp Y (pL U58 Y in_58 (Sub.fm default GSet.len (ixn h4)) (GSet.len (lrd l0 t24_0.toNat))) (rq Y (al 7 in_58 one_58 zc_58 Y) (rq Y (u_sw Y Y in_58 (GSet.len (lrd l0 t24_0.toNat)) (GSet.len GSet.zero)) (rz [1,5,7,22,23,24] [_,_,.q 7 (0),_,_,_] [5,7] [_,.pure (GSet.cs (lrd l0 t24_0.toNat))] Y (sg 5 Y (rm Y (rf Y U58 Y in_9 Y Y (GSet.len (lrd l0 t24_0.toNat)) (rp Y (pl U9 Y (GSet.sub0 (lrd l0 t24_0.toNat))) (bindK H fun r'1 h5 H=>rp Y (pc Y Tryz.func23 Y (g_ref_columnAt_ac h5) Y) (ra Y (rz [1,5,7,8,22,23,24] [_,_,_,.i r'1,_,_,_] [5,7] [_,_] Y (QS (sg 2 Y (rm Y (rp Y (pb Y Y) (rz [1,5,7,8,22,23,24,33] [_,_,_,_,_,_,_,.b (decide (r'1 < 0))] [5,7] [_,_] Y ?_)))))))))))))))))))))
   refine if2 H Y (fun h6 H=>?_) (fun h6 H=>?_)
   ·refine sg 1 Y (ra Y (rz [4] [.i 5] [] [] Y (QR ?_)))
    have z:=se H;subst z
    exact ⟨Y,⟨rt,trivial⟩,trivial⟩
   refine as2 [1,5,7,8,22,23,24] [_,_,_,_,_,_,_] [5,7] [_,_] Y (QK (QS (sg 3 Y (rm Y (rp Y (p_leno Y U74 Y Y Y (ml AV.txt done5_0) (by decide)) (rm Y (rz [1,5,7,8,22,23,24,34,35,36] [_,_,_,_,_,_,_,.c (.own 5 done5_0.length 1),.i (done5_0.length:Int),.i 0] [5,7] [_,_] Y (QB (as2 [1,5,7,8,22,23,24,34,35,36] [_,_,_,_,_,_,_,_,_,_] [5,7] [_,_] Y (bindK H fun o'5 h10 H=>AW2_loopO (fun a'2:Int=>(⟨[(1,.p (GColumn.ls cols1)),(5,.c (.own 5 done5_0.length 1)),(7,.q 7 (0)),(8,.i r'1),(22,.p (GSet.ls l0)),(23,.i (l0.length:Int)),(24,.i t24_0),(34,.c (.own 5 done5_0.length 1)),(35,.i (done5_0.length:Int)),(36,.i a'2)],[(5,.pure (done5_0.map AV.txt)),(7,.pure (GSet.cs (lrd l0 t24_0.toNat)))],73⟩:TS)) (fun (o:Int⊕Unit) e s'=>match o with | .inl y'3=>e=Go.Exit.ret∧ResAll Tryz.prog s' [ResultVar.tmp 4] [.i y'3]∧HFits s' [] | .inr (y'4)=>e=Go.Exit.exit 2∧s'=(⟨[(1,.p (GColumn.ls cols1)),(5,.c (.own 5 done5_0.length 1)),(7,.q 7 (0)),(8,.i r'1),(22,.p (GSet.ls l0)),(23,.i (l0.length:Int)),(24,.i t24_0)],[(5,.pure (done5_0.map AV.txt)),(7,.pure (GSet.cs (lrd l0 t24_0.toNat)))],73⟩:TS)) h10 Y (fun t36_1 x hx=>?_) (fun e s' hs=>?_)))))))))))
   ·clear H
    have H:=hx
    clear hx
    unfold g_ref_setsFault_l1 at H
    refine sg 1 Y (rp Y (pb Y Y) (rz [1,5,7,8,22,23,24,34,35,36,37] [.p (GColumn.ls cols1),.c (.own 5 done5_0.length 1),.q 7 (0),.i r'1,.p (GSet.ls l0),.i (l0.length:Int),.i t24_0,.c (.own 5 done5_0.length 1),.i (done5_0.length:Int),.i t36_1,.b (decide (t36_1 < (done5_0.length:Int)))] [5,7] [.pure (done5_0.map AV.txt),.pure (GSet.cs (lrd l0 t24_0.toNat))] Y (QS (if2 H Y (fun h7 H=>?_) (fun h7 H=>?_)))))
    ·refine as2 [1,5,7,8,22,23,24,34,35,36] [_,_,_,_,_,_,_,_,_,_] [5,7] [_,_] Y (QK (QS (QB (sg 3 Y (chkK H fun h8 H=>rp Y (u_ixo Y Y U74 in_9 Y Y (lne (ixn h8)) Y (ixe h8) (ixn h8)) (rp Y (pl U9 Y ((Sub.refl _).trans (Sub.map default (ixn h8)))) (ra Y (rz [1,5,7,8,10,22,23,24,34,35,36] [_,_,_,_,.t (lrd done5_0 t36_1.toNat),_,_,_,_,_,_] [5,7] [_,_] Y (sg 4 Y (rm Y (rf Y U58 Y in_9 Y Y (GSet.len (lrd l0 t24_0.toNat)) (rp Y (pl U9 Y (GSet.sub0 (lrd l0 t24_0.toNat))) (rp Y (p_seq Y Y Y) (rz [1,5,7,8,22,23,24,34,35,36,43] [_,_,_,_,_,_,_,_,_,_,.b (decide ((lrd done5_0 t36_1.toNat)=(lrd l0 t24_0.toNat).Col))] [5,7] [_,_] Y (if2 H Y (fun h9 H=>?_) (fun h9 H=>?_))))))))))))))))
     ·refine sg 1 Y (ra Y (rz [4] [.i 8] [] [] Y (QR ?_)))
      have z:=se H;subst z
      exact ⟨Y,⟨rt,trivial⟩,trivial⟩
     refine as2 [1,5,7,8,22,23,24,34,35,36] [_,_,_,_,_,_,_,_,_,_] [5,7] [_,_] Y (QK (ar 2 Y (rp Y (pb Y Y) (rm Y (rz [1,5,7,8,22,23,24,34,35,36] [_,_,_,_,_,_,_,_,_,.i (w64 (t36_1+1))] [5,7] [_,_] Y ?_)))))
     have z:=se H;subst z
     exact ⟨Y,Y⟩
    refine as2 [1,5,7,8,22,23,24] [_,_,_,_,_,_,_] [5,7] [_,_] Y (AW2_exit (thenQ2_exit ?_))
    have z:=se H;subst z
    exact ⟨Y,Y⟩
   rcases o'5 with y'6 | y'7
   ·obtain ⟨rfl,hs⟩:=hs
    refine ⟨by simp,?_⟩
    have z:=se H;subst z
    exact ⟨Y,hs.1,hs.2⟩
   obtain ⟨rfl,rfl⟩:=hs
   refine ⟨by simp,?_⟩
   refine blockQ2_exit (sg 6 Y (rm Y (rf Y U58 Y in_9 Y Y (GSet.len (lrd l0 t24_0.toNat)) (rp Y (pl U9 Y (GSet.sub0 (lrd l0 t24_0.toNat))) (rq Y (MakeD.opD (u_bs 48 Y U74 in_9 Y one_9 (by decide) (by decide) Y Y Y) Y Y Y Y) (chkK H fun h11 H=>rq Y (u_app [5,45] Y Y Y Y U74 U74 in_9 Y Y Y (ml AV.txt done5_0) (by decide) (srcT_o Y Y (ml AV.txt ([(lrd l0 t24_0.toNat).Col]:List (List UInt8))) (by decide)) (ml AV.txt ([(lrd l0 t24_0.toNat).Col]:List (List UInt8))) h11 (by decide) Y Y (mapp AV.txt done5_0 ([(lrd l0 t24_0.toNat).Col]:List (List UInt8))) (lapp done5_0 ([(lrd l0 t24_0.toNat).Col]:List (List UInt8)))) (ra Y (rz [1,5,7,8,22,23,24] [.p (GColumn.ls cols1),.c (.own 5 (done5_0++([(lrd l0 t24_0.toNat).Col]:List (List UInt8))).length 1),.q 7 (0),.i r'1,.p (GSet.ls l0),.i (l0.length:Int),.i t24_0] [5,7] [.pure ((done5_0++([(lrd l0 t24_0.toNat).Col]:List (List UInt8))).map AV.txt),.pure (GSet.cs (lrd l0 t24_0.toNat))] Y (sg 11 Y (rf Y U58 Y in_35 Y Y (GSet.len (lrd l0 t24_0.toNat)) (rp Y (pL U35 Y in_35 (GSet.sub1 (lrd l0 t24_0.toNat)) (GExpr.len ((lrd l0 t24_0.toNat).Expr))) (rm Y (bindK H fun r'8 h12 H=>rp Y (pc Y Tryz.func35 Y (g_ref_KindOf_ac h12) Y) (rm Y (rp Y (pe Y) (rp Y (pe Y) (rp Y (pe Y) (ra Y (ra Y (ra Y (rz [1,5,8,11,13,22,23,24] [_,_,_,.i r'8.1,.i r'8.2.2,_,_,_] [5] [_] Y ?_)))))))))))))))))))))
   refine QS (sg 2 Y (rm Y (rp Y (pn Y) (rz [1,5,8,11,13,22,23,24,59] [_,_,_,_,_,_,_,_,.b (decide (r'8.2.2≠0))] [5] [_] Y (if2 H Y (fun h13 H=>?_) (fun h13 H=>?_))))))
   ·refine sg 2 Y (rm Y (ra Y (rz [4] [.i r'8.2.2] [] [] Y (QR ?_))))
    have z:=se H;subst z
    exact ⟨Y,⟨rt,trivial⟩,trivial⟩
   refine as2 [1,5,8,11,22,23,24] [_,_,_,_,_,_,_] [5] [_] Y (QK (QS (bindK H fun g'9 h17 H=>AW2_mid (⟨[(1,.p (GColumn.ls cols1)),(5,.c (.own 5 (done5_0++([(lrd l0 t24_0.toNat).Col]:List (List UInt8))).length 1)),(22,.p (GSet.ls l0)),(23,.i (l0.length:Int)),(24,.i t24_0),(71,.b g'9)],[(5,.pure ((done5_0++([(lrd l0 t24_0.toNat).Col]:List (List UInt8))).map AV.txt))],73⟩:TS) ?_ ?_)))
   ·clear H
    have H:=h17
    clear h17
    refine ar 11 Y (rm Y (rp Y (pn Y) (rm Y (em2 H (fun h15 H=>?_) (fun h15 H=>?_)))))
    ·refine rn Y (dT h15) Y (p_move Y Y) (rn Y (dT h15) Y (p_move Y Y) (rn Y (dT h15) Y (p_move Y Y) (chkK H fun h16 H=>rn Y (dT h15) Y (u_ixl Y Y U22 in_63 Y Y (ixe h16) (ixn h16) (fne GColumn.len (by decide) (ixn h16))) (rn Y (dT h15) Y (u_far Y Y U63 Y in_3 nz Y) (rn Y (dT h15) Y (pl U3 Y ((Sub.fm default GColumn.len (ixn h16)).trans (GColumn.sub1 (lrd cols1 r'1.toNat)))) (rn Y (dT h15) Y (pn Y) (rp Y (p_pkt Y Y (dT h15) (.same _)) (rs [1,5,22,23,24,71] [.p (GColumn.ls cols1),.c (.own 5 (done5_0++([(lrd l0 t24_0.toNat).Col]:List (List UInt8))).length 1),.p (GSet.ls l0),.i (l0.length:Int),.i t24_0,.b (decide (r'8.1≠(lrd cols1 r'1.toNat).Kind))] [5] [.pure ((done5_0++([(lrd l0 t24_0.toNat).Col]:List (List UInt8))).map AV.txt)] Y ?_))))))))
     have z:=se H;subst z
     exact RunW_nil rfl
    refine rO Y (dF h15) Y (rO Y (dF h15) Y (rO Y (dF h15) Y (rO Y (dF h15) Y (rO Y (dF h15) Y (rO Y (dF h15) Y (rO Y (dF h15) Y (rp Y (p_pkf Y Y (dF h15) (.same _)) (rs [1,5,22,23,24,71] [.p (GColumn.ls cols1),.c (.own 5 (done5_0++([(lrd l0 t24_0.toNat).Col]:List (List UInt8))).length 1),.p (GSet.ls l0),.i (l0.length:Int),.i t24_0,.b false] [5] [.pure ((done5_0++([(lrd l0 t24_0.toNat).Col]:List (List UInt8))).map AV.txt)] Y ?_))))))))
    have z:=se H;subst z
    exact RunW_nil rfl
   refine AW2_cond Y (fun h18=>?_) (fun h18=>?_)
   ·replace H:=ite_then h18 H
    refine sg 1 Y (ra Y (rz [4] [.i 2] [] [] Y (QR ?_)))
    have z:=se H;subst z
    exact ⟨Y,⟨rt,trivial⟩,trivial⟩
   replace H:=ite_else (ne_true h18) H
   refine as2 [1,5,22,23,24] [.p (GColumn.ls cols1),.c (.own 5 (done5_0++([(lrd l0 t24_0.toNat).Col]:List (List UInt8))).length 1),.p (GSet.ls l0),.i (l0.length:Int),.i t24_0] [5] [.pure ((done5_0++([(lrd l0 t24_0.toNat).Col]:List (List UInt8))).map AV.txt)] Y (QK (ar 2 Y (rp Y (pb Y Y) (rm Y (rz [1,5,22,23,24] [_,_,_,_,.i (w64 (t24_0+1))] [5] [_] Y ?_)))))
   have z:=se H;subst z
   exact ⟨Y,Y⟩
  refine as2 [] [] [] [] Y (AW2_exit (thenQ2_exit ?_))
  have z:=se H;subst z
  exact ⟨Y,Y⟩
 rcases o'13 with y'14 | y'15
 ·obtain ⟨rfl,hs⟩:=hs
  refine ⟨by simp,?_⟩
  have z:=se H;subst z
  exact ⟨hs.1,hs.2⟩
 obtain ⟨rfl,rfl⟩:=hs
 refine ⟨by simp,?_⟩
 refine blockQ2_exit (sg 1 Y (ra Y (rz [4] [.i 0] [] [] Y (QR ?_))))
 have z:=se H;subst z
 exact ⟨⟨rt,trivial⟩,trivial⟩
noncomputable def g_ref_boolOf (t0:Int):Option (GValue) :=
  (if t0=(2:Int) then some ({ { GValue.zero with Kind:=(1:Int) } with Int_:=(1:Int) }) else (if t0=(0:Int) then some ({ GValue.zero with Kind:=(1:Int) }) else some GValue.zero))
theorem g_ref_boolOf_ac {t0:Int} {r:GValue} (H:g_ref_boolOf t0=some r):ACp Tryz.prog 37 [(AV.int t0)] (.agg (GValue.cs r)):=by
 refine ACp_of (AC2_of_body (vs:=[.g (GValue.cs r)]) Tryz.func37 Y Y (lb Y) Y ?_) (fun _=>.same _)
 unfold g_ref_boolOf at H
 refine as2 [0] [.i t0] [] [] Y (sg 1 Y (rq Y (al 2 in_32 one_32 zc_32 Y) (rz [0,2] [_,.q 2 (0)] [2] [.pure (GValue.cs GValue.zero)] Y (QS (sg 1 Y (rm Y (rz [2,3] [_,.i t0] [2] [_] Y (QB (sg 2 Y (rp Y (pi Y) (ra Y (rz [2,3,4] [_,_,.b (decide (t0=2))] [2] [_] Y (if2 H Y (fun h1 H=>?_) (fun h1 H=>?_))))))))))))))
 ·refine sg 2 Y (rp Y (u_bld Y in_32 one_32 zc_32 pl_32 Y (af_cons Y Y (GValue.upd0 GValue.zero 1) (af_cons Y Y (GValue.upd1 ((GValue.w0 GValue.zero 1)) 1) Y))) (rq Y (u_sw Y Y in_32 (GValue.len ((GValue.w1 (GValue.w0 GValue.zero 1) 1))) (GValue.len GValue.zero)) (rz [2] [_] [2] [.pure (GValue.cs ((GValue.w1 (GValue.w0 GValue.zero 1) 1)))] Y (QR ?_))))
  have z:=se H;subst z
  exact ⟨⟨rcw U32 Y in_32 Y (GValue.len ((GValue.w1 (GValue.w0 GValue.zero 1) 1))),trivial⟩,trivial⟩
 refine sg 2 Y (rp Y (pi Y) (ra Y (rz [2,7] [_,.b (decide (t0=0))] [2] [_] Y (if2 H Y (fun h2 H=>?_) (fun h2 H=>?_)))))
 ·refine sg 2 Y (rp Y (u_bld Y in_32 one_32 zc_32 pl_32 Y (af_cons Y Y (GValue.upd0 GValue.zero 1) Y)) (rq Y (u_sw Y Y in_32 (GValue.len ((GValue.w0 GValue.zero 1))) (GValue.len GValue.zero)) (rz [2] [_] [2] [.pure (GValue.cs ((GValue.w0 GValue.zero 1)))] Y (QR ?_))))
  have z:=se H;subst z
  exact ⟨⟨rcw U32 Y in_32 Y (GValue.len ((GValue.w0 GValue.zero 1))),trivial⟩,trivial⟩
 refine as2 [2] [_] [2] [_] Y (QK (sg 2 Y (rp Y (u_bld Y in_32 one_32 zc_32 pl_32 Y Y) (rq Y (u_sw Y Y in_32 (GValue.len GValue.zero) (GValue.len GValue.zero)) (rz [2] [_] [2] [_] Y (QR ?_))))))
 have z:=se H;subst z
 exact ⟨⟨rcw U32 Y in_32 Y (GValue.len GValue.zero),trivial⟩,trivial⟩
noncomputable def g_ref_truthOf (v0:GValue):Option (Int) :=
  (if v0.Kind=(0:Int) then some (1:Int) else some (w64 (v0.Int_ * (2:Int))))
theorem g_ref_truthOf_ac {v0:GValue} {r:Int} (H:g_ref_truthOf v0=some r):ACp Tryz.prog 52 [(.agg (GValue.cs v0))] (AV.int r):=by
 refine ACp_of (AC2_of_body (vs:=[.i r]) Tryz.func52 Y Y (lb Y) Y ?_) (fun _=>.same _)
 unfold g_ref_truthOf at H
 refine as2 [0] [.g (GValue.cs v0)] [] [] Y (sg 2 Y (rq Y (bx 1 Y) (ra Y (rz [1] [.q 1 (0)] [1] [.pure (GValue.cs v0)] Y (QS (sg 3 Y (rf Y U32 Y in_3 Y Y (GValue.len v0) (rp Y (pl U3 Y (GValue.sub0 v0)) (rp Y (pi Y) (rz [1,5] [_,.b (decide (v0.Kind=0))] [1] [_] Y (if2 H Y (fun h1 H=>?_) (fun h1 H=>?_))))))))))))
 ·refine sg 1 Y (ra Y (rz [2] [.i 1] [] [] Y (QR ?_)))
  have z:=se H;subst z
  exact ⟨⟨rt,trivial⟩,trivial⟩
 refine as2 [1] [_] [1] [_] Y (QK (sg 4 Y (rf Y U32 Y in_3 Y Y (GValue.len v0) (rp Y (pl U3 Y (GValue.sub1 v0)) (rp Y (pb Y Y) (ra Y (rz [2] [.i (w64 (v0.Int_ * 2))] [] [] Y (QR ?_))))))))
 have z:=se H;subst z
 exact ⟨⟨rt,trivial⟩,trivial⟩
noncomputable def g_ref_isTruth (a0:Int):Option (Bool) :=
  some (decide (((a0=(0:Int))∨(a0=(1:Int)))∨(a0=(2:Int))))
theorem g_ref_isTruth_ac {a0:Int} {r:Bool} (H:g_ref_isTruth a0=some r):ACp Tryz.prog 73 [(AV.int a0)] (AV.bool r):=by
 refine ACp_of (AC2_of_body (vs:=[.b r]) Tryz.func73 Y Y (lb Y) Y ?_) (fun _=>.same _)
 unfold g_ref_isTruth at H
 refine as2 [0] [.i a0] [] [] Y (sg 1 Y (ra Y (rz [0] [_] [] [] Y (QS (AW2_mid (⟨[(2,.b (decide (((a0=0)∨(a0=1))∨(a0=2))))],[],13⟩:TS) ?_ ?_)))))
 ·refine ar 11 Y (rm Y (rp Y (pi Y) (rm Y ?_)))
  refine (Classical.em (a0=0)).elim (fun h1=>?_) (fun h1=>?_)
  ·exact rO Y (dT h1) Y (rO Y (dT h1) Y (rp Y (p_pkt Y Y (dT h1) (tb (dT (p:=(a0=0)∨(a0=1)) (Or.inl h1)).symm)) (rm Y (rO Y (dT (p:=(a0=0)∨(a0=1)) (Or.inl h1)) Y (rO Y (dT (p:=(a0=0)∨(a0=1)) (Or.inl h1)) Y (rp Y (p_pkt Y Y (dT (p:=(a0=0)∨(a0=1)) (Or.inl h1)) (tb (dT (p:=((a0=0)∨(a0=1))∨(a0=2)) (Or.inl (Or.inl h1))).symm)) (ra Y (rend Y Y))))))))
  refine rn Y (dF h1) Y (p_move Y Y) (rn Y (dF h1) Y (pi Y) (rp Y (p_pkf Y Y (dF h1) (tb ((or_l (q:=a0=1) h1)))) (rm Y ?_)))
  refine (Classical.em (a0=1)).elim (fun h2=>?_) (fun h2=>?_)
  ·exact rO Y (dT (p:=(a0=0)∨(a0=1)) (Or.inr h2)) Y (rO Y (dT (p:=(a0=0)∨(a0=1)) (Or.inr h2)) Y (rp Y (p_pkt Y Y (dT (p:=(a0=0)∨(a0=1)) (Or.inr h2)) (tb (dT (p:=((a0=0)∨(a0=1))∨(a0=2)) (Or.inl (Or.inr h2))).symm)) (ra Y (rend Y Y))))
  exact rn Y (dF (p:=(a0=0)∨(a0=1)) (not_or.2 ⟨h1,h2⟩)) Y (p_move Y Y) (rn Y (dF (p:=(a0=0)∨(a0=1)) (not_or.2 ⟨h1,h2⟩)) Y (pi Y) (rp Y (p_pkf Y Y (dF (p:=(a0=0)∨(a0=1)) (not_or.2 ⟨h1,h2⟩)) (tb ((or_l (p:=(a0=0)∨(a0=1)) (q:=a0=2) (not_or.2 ⟨h1,h2⟩))))) (ra Y (rend Y Y))))
 refine QR ?_
 have z:=se H;subst z
 exact ⟨⟨rt,trivial⟩,trivial⟩
noncomputable def g_ref_Logic (op0:Int) (a1:Int) (b2:Int):Option (Int×Int) :=
  ((g_ref_isTruth a1).bind fun r'3=>(if (!r'3)=true then some true else (g_ref_isTruth b2).bind fun r'4=>some (!r'4))).bind fun g'5=>(if g'5=true then some ((0:Int),(2:Int)) else ((if op0=(2:Int) then some (2:Int) else some (0:Int))).bind fun j'6=>(if (a1=j'6)∨(b2=j'6) then some (j'6,(0:Int)) else (if (a1=(1:Int))∨(b2=(1:Int)) then some ((1:Int),(0:Int)) else some (a1,(0:Int)))))
theorem g_ref_Logic_ac {op0:Int} {a1:Int} {b2:Int} {r:Int×Int} (H:g_ref_Logic op0 a1 b2=some r):ACp Tryz.prog 51 [(AV.int op0),(AV.int a1),(AV.int b2)] (.tup [(AV.int r.1),(AV.int r.2)]):=by
 refine ACp_of (AC2_of_body (vs:=[.i r.1,.i r.2]) Tryz.func51 Y Y (lb Y) Y ?_) (fun _=>.same _)
 unfold g_ref_Logic at H
 refine as2 [0,1,2] [.i op0,.i a1,.i b2] [] [] Y (sg 2 Y (ra Y (ra Y (rz [0,1,2] [_,_,_] [] [] Y (QS (QS (bindK H fun g'5 h6 H=>AW2_mid (⟨[(0,.i op0),(1,.i a1),(2,.i b2),(16,.b g'5)],[],37⟩:TS) ?_ ?_)))))))
 ·clear H
  have H:=h6
  clear h6
  refine ar 8 Y (rm Y (bindK H fun r'3 h3 H=>rp Y (pc Y Tryz.func73 Y (g_ref_isTruth_ac h3) Y) (rp Y (p_not Y Y) (rm Y (em2 H (fun h4 H=>?_) (fun h4 H=>?_))))))
  ·refine rO Y h4 Y (rO Y h4 Y (rO Y h4 Y (rp Y (p_pkt Y Y h4 (.same _)) (rs [0,1,2,16] [.i op0,.i a1,.i b2,.b true] [] [] Y ?_))))
   have z:=se H;subst z
   exact RunW_nil rfl
  refine rn Y (bfalse h4) Y (p_move Y Y) (bindK H fun r'4 h5 H=>rn Y (bfalse h4) Y (pc Y Tryz.func73 Y (g_ref_isTruth_ac h5) Y) (rn Y (bfalse h4) Y (p_not Y Y) (rp Y (p_pkf Y Y (bfalse h4) (.same _)) (rs [0,1,2,16] [.i op0,.i a1,.i b2,.b (!r'4)] [] [] Y ?_))))
  have z:=se H;subst z
  exact RunW_nil rfl
 refine AW2_cond Y (fun h7=>?_) (fun h7=>?_)
 ·replace H:=ite_then h7 H
  refine sg 2 Y (ra Y (ra Y (rz [6,7] [.i 0,.i 2] [] [] Y (QR ?_))))
  have z:=se H;subst z
  exact ⟨⟨rt,rt,trivial⟩,trivial⟩
 replace H:=ite_else (ne_true h7) H
 refine as2 [0,1,2] [.i op0,.i a1,.i b2] [] [] Y (QK (sg 1 Y (ra Y (rz [0,1,2,8] [_,_,_,.i 0] [] [] Y (QS (bindK H fun j'6 h8 H=>AW2_mid (⟨[(1,.i a1),(2,.i b2),(8,.i j'6)],[],37⟩:TS) ?_ ?_))))))
 ·clear H
  have H:=h8
  clear h8
  refine sg 2 Y (rm Y (rp Y (pi Y) (rz [1,2,8,18] [.i a1,.i b2,.i 0,.b (decide (op0=2))] [] [] Y (if2 H Y (fun h9 H=>?_) (fun h9 H=>?_)))))
  ·refine ar 1 Y (ra Y (rz [1,2,8] [_,_,.i 2] [] [] Y ?_))
   have z:=se H;subst z
   exact rfl
  refine as2 [1,2,8] [_,_,_] [] [] Y (QK ?_)
  have z:=se H;subst z
  exact rfl
 refine QS (QB (QS (AW2_mid (⟨[(1,.i a1),(2,.i b2),(8,.i j'6),(19,.b (decide ((a1=j'6)∨(b2=j'6))))],[],37⟩:TS) ?_ ?_)))
 ·refine ar 9 Y (rm Y (rm Y (rp Y (pi Y) (rm Y ?_))))
  refine (Classical.em (a1=j'6)).elim (fun h10=>?_) (fun h10=>?_)
  ·exact rO Y (dT h10) Y (rO Y (dT h10) Y (rO Y (dT h10) Y (rp Y (p_pkt Y Y (dT h10) (tb (dT (p:=(a1=j'6)∨(b2=j'6)) (Or.inl h10)).symm)) (ra Y (rend Y Y)))))
  exact rn Y (dF h10) Y (p_move Y Y) (rn Y (dF h10) Y (p_move Y Y) (rn Y (dF h10) Y (pi Y) (rp Y (p_pkf Y Y (dF h10) (tb ((or_l (q:=b2=j'6) h10)))) (ra Y (rend Y Y)))))
 refine if2 H Y (fun h11 H=>?_) (fun h11 H=>?_)
 ·refine sg 3 Y (rm Y (ra Y (ra Y (rz [6,7] [.i j'6,.i 0] [] [] Y (QR ?_)))))
  have z:=se H;subst z
  exact ⟨⟨rt,rt,trivial⟩,trivial⟩
 refine QS (AW2_mid (⟨[(1,.i a1),(29,.b (decide ((a1=1)∨(b2=1))))],[],37⟩:TS) ?_ ?_)
 ·refine ar 7 Y (rm Y (rp Y (pi Y) (rm Y ?_)))
  refine (Classical.em (a1=1)).elim (fun h12=>?_) (fun h12=>?_)
  ·exact rO Y (dT h12) Y (rO Y (dT h12) Y (rp Y (p_pkt Y Y (dT h12) (tb (dT (p:=(a1=1)∨(b2=1)) (Or.inl h12)).symm)) (ra Y (rend Y Y))))
  exact rn Y (dF h12) Y (p_move Y Y) (rn Y (dF h12) Y (pi Y) (rp Y (p_pkf Y Y (dF h12) (tb ((or_l (q:=b2=1) h12)))) (ra Y (rend Y Y))))
 refine if2 H Y (fun h13 H=>?_) (fun h13 H=>?_)
 ·refine sg 2 Y (ra Y (ra Y (rz [6,7] [.i 1,.i 0] [] [] Y (QR ?_))))
  have z:=se H;subst z
  exact ⟨⟨rt,rt,trivial⟩,trivial⟩
 refine as2 [1] [_] [] [] Y (QK (sg 3 Y (rm Y (ra Y (ra Y (rz [6,7] [.i a1,.i 0] [] [] Y (QR ?_)))))))
 have z:=se H;subst z
 exact ⟨⟨rt,rt,trivial⟩,trivial⟩
noncomputable def g_ref_Opposite (a0:Int):Option (Int×Int) :=
  (if a0=(0:Int) then some ((2:Int),(0:Int)) else (if a0=(2:Int) then some ((0:Int),(0:Int)) else (if a0=(1:Int) then some ((1:Int),(0:Int)) else some ((0:Int),(2:Int)))))
theorem g_ref_Opposite_ac {a0:Int} {r:Int×Int} (H:g_ref_Opposite a0=some r):ACp Tryz.prog 53 [(AV.int a0)] (.tup [(AV.int r.1),(AV.int r.2)]):=by
 refine ACp_of (AC2_of_body (vs:=[.i r.1,.i r.2]) Tryz.func53 Y Y (lb Y) Y ?_) (fun _=>.same _)
 unfold g_ref_Opposite at H
 refine as2 [0] [.i a0] [] [] Y (sg 2 Y (ra Y (ra Y (rz [0] [_] [] [] Y (QS (sg 1 Y (rm Y (rz [4] [.i a0] [] [] Y (QB (sg 2 Y (rp Y (pi Y) (ra Y (rz [4,5] [_,.b (decide (a0=0))] [] [] Y (if2 H Y (fun h1 H=>?_) (fun h1 H=>?_)))))))))))))))
 ·refine sg 2 Y (ra Y (ra Y (rz [2,3] [.i 2,.i 0] [] [] Y (QR ?_))))
  have z:=se H;subst z
  exact ⟨⟨rt,rt,trivial⟩,trivial⟩
 refine sg 2 Y (rp Y (pi Y) (ra Y (rz [4,7] [_,.b (decide (a0=2))] [] [] Y (if2 H Y (fun h2 H=>?_) (fun h2 H=>?_)))))
 ·refine sg 2 Y (ra Y (ra Y (rz [2,3] [.i 0,.i 0] [] [] Y (QR ?_))))
  have z:=se H;subst z
  exact ⟨⟨rt,rt,trivial⟩,trivial⟩
 refine sg 2 Y (rp Y (pi Y) (ra Y (rz [9] [.b (decide (a0=1))] [] [] Y (if2 H Y (fun h3 H=>?_) (fun h3 H=>?_)))))
 ·refine sg 2 Y (ra Y (ra Y (rz [2,3] [.i 1,.i 0] [] [] Y (QR ?_))))
  have z:=se H;subst z
  exact ⟨⟨rt,rt,trivial⟩,trivial⟩
 refine as2 [] [] [] [] Y (QK (sg 2 Y (ra Y (ra Y (rz [2,3] [.i 0,.i 2] [] [] Y (QR ?_))))))
 have z:=se H;subst z
 exact ⟨⟨rt,rt,trivial⟩,trivial⟩
noncomputable def g_ref_intOf (n0:Int):Option (GValue×Int) :=
  some ({ { GValue.zero with Kind:=(2:Int) } with Int_:=n0 },(0:Int))
theorem g_ref_intOf_ac {n0:Int} {r:GValue×Int} (H:g_ref_intOf n0=some r):ACp Tryz.prog 55 [(AV.int n0)] (.tup [(.agg (GValue.cs r.1)),(AV.int r.2)]):=by
 refine ACp_of (AC2_of_body (vs:=[.g (GValue.cs r.1),.i r.2]) Tryz.func55 Y Y (lb Y) Y ?_) (fun _=>.same _)
 unfold g_ref_intOf at H
 refine as2 [0] [.i n0] [] [] Y (sg 2 Y (rq Y (al 2 in_32 one_32 zc_32 Y) (ra Y (rz [0,2] [_,.q 2 (0)] [2] [.pure (GValue.cs GValue.zero)] Y (sg 4 Y (rm Y (rp Y (u_bld Y in_32 one_32 zc_32 pl_32 Y (af_cons Y Y (GValue.upd0 GValue.zero 2) (af_cons Y Y (GValue.upd1 ((GValue.w0 GValue.zero 2)) n0) Y))) (rq Y (u_sw Y Y in_32 (GValue.len ((GValue.w1 (GValue.w0 GValue.zero 2) n0))) (GValue.len GValue.zero)) (ra Y (rz [2,3] [_,.i 0] [2] [.pure (GValue.cs ((GValue.w1 (GValue.w0 GValue.zero 2) n0)))] Y (QR ?_)))))))))))
 have z:=se H;subst z
 exact ⟨⟨rcw U32 Y in_32 Y (GValue.len ((GValue.w1 (GValue.w0 GValue.zero 2) n0))),rt,trivial⟩,trivial⟩
noncomputable def g_ref_sizeOf (n0:Int):Option (UInt64) :=
  (if n0 < (0:Int) then some (0 - (UInt64.ofInt n0)) else some (UInt64.ofInt n0))
theorem g_ref_sizeOf_ac {n0:Int} {r:UInt64} (H:g_ref_sizeOf n0=some r):ACp Tryz.prog 77 [(AV.int n0)] (AV.u64 r):=by
 refine ACp_of (AC2_of_body (vs:=[.p (AV.u64 r)]) Tryz.func77 Y Y (lb Y) Y ?_) (fun _=>.same _)
 unfold g_ref_sizeOf at H
 refine as2 [0] [.i n0] [] [] Y (sg 1 Y (ra Y (rz [0] [_] [] [] Y (QS (sg 2 Y (rm Y (rp Y (pb Y Y) (rz [0,4] [_,.b (decide (n0 < 0))] [] [] Y (if2 H Y (fun h1 H=>?_) (fun h1 H=>?_))))))))))
 ·refine sg 4 Y (rm Y (rp Y (p_i_u64 Y U3 U30 Y) (rp Y (p_u64neg Y Y) (ra Y (rz [2] [.p (AV.u64 (0 - (UInt64.ofInt n0)))] [] [] Y (QR ?_))))))
  have z:=se H;subst z
  exact ⟨⟨rt,trivial⟩,trivial⟩
 refine as2 [0] [_] [] [] Y (QK (sg 3 Y (rm Y (rp Y (p_i_u64 Y U3 U30 Y) (ra Y (rz [2] [.p (AV.u64 (UInt64.ofInt n0))] [] [] Y (QR ?_)))))))
 have z:=se H;subst z
 exact ⟨⟨rt,trivial⟩,trivial⟩
noncomputable def g_bits_Mul64 (x0:UInt64) (y1:UInt64):Option (UInt64×UInt64) :=
  letO (((shr_u64 x0 32) * (y1 &&& (4294967295:UInt64)))+(shr_u64 ((x0 &&& (4294967295:UInt64)) * (y1 &&& (4294967295:UInt64))) 32)) fun t11'1=>letO ((t11'1 &&& (4294967295:UInt64))+((x0 &&& (4294967295:UInt64)) * (shr_u64 y1 32))) fun w112'2=>letO ((((shr_u64 x0 32) * (shr_u64 y1 32))+(shr_u64 t11'1 32))+(shr_u64 w112'2 32)) fun hi4'3=>some (hi4'3,x0 * y1)
theorem g_bits_Mul64_ac {x0:UInt64} {y1:UInt64} {r:UInt64×UInt64} (H:g_bits_Mul64 x0 y1=some r):ACp Tryz.prog 76 [(AV.u64 x0),(AV.u64 y1)] (.tup [(AV.u64 r.1),(AV.u64 r.2)]):=by
 refine ACp_of (AC2_of_body (vs:=[.p (AV.u64 r.1),.p (AV.u64 r.2)]) Tryz.func76 Y Y (lb Y) Y ?_) (fun _=>.same _)
 unfold g_bits_Mul64 at H
 refine as2 [0,1] [.p (AV.u64 x0),.p (AV.u64 y1)] [] [] Y (sg 2 Y (ra Y (ra Y (rz [0,1] [_,_] [] [] Y (sg 3 Y (rm Y (rp Y (p_u64and (a:=x0) (b:=(4294967295:UInt64)) Y Y Y) (ra Y (rz [0,1,6] [_,_,.p (AV.u64 (x0 &&& (4294967295:UInt64)))] [] [] Y (sg 3 Y (rm Y (rp Y (p_u64shr (n:=32) Y Y Y Y) (ra Y (rz [0,1,6,7] [_,_,_,.p (AV.u64 (shr_u64 x0 32))] [] [] Y (sg 3 Y (rm Y (rp Y (p_u64and (a:=y1) (b:=(4294967295:UInt64)) Y Y Y) (ra Y (rz [0,1,6,7,8] [_,_,_,_,.p (AV.u64 (y1 &&& (4294967295:UInt64)))] [] [] Y (sg 3 Y (rm Y (rp Y (p_u64shr (n:=32) Y Y Y Y) (ra Y ?_)))))))))))))))))))))))
 refine rz [0,1,6,7,8,9] [_,_,_,_,_,.p (AV.u64 (shr_u64 y1 32))] [] [] Y (sg 4 Y (rm Y (rm Y (rp Y (p_u64mul (a:=x0 &&& (4294967295:UInt64)) (b:=y1 &&& (4294967295:UInt64)) Y Y Y) (ra Y (rz [0,1,6,7,8,9,10] [_,_,_,_,_,_,.p (AV.u64 ((x0 &&& (4294967295:UInt64)) * (y1 &&& (4294967295:UInt64))))] [] [] Y (sg 7 Y (rm Y (rm Y (rp Y (p_u64mul (a:=shr_u64 x0 32) (b:=y1 &&& (4294967295:UInt64)) Y Y Y) (rm Y (rp Y (p_u64shr (n:=32) Y Y Y Y) (rp Y (p_u64add (a:=(shr_u64 x0 32) * (y1 &&& (4294967295:UInt64))) (b:=shr_u64 ((x0 &&& (4294967295:UInt64)) * (y1 &&& (4294967295:UInt64))) 32) Y Y Y) (ra Y (rz [0,1,6,7,9,11] [_,_,_,_,_,.p (AV.u64 (((shr_u64 x0 32) * (y1 &&& (4294967295:UInt64)))+(shr_u64 ((x0 &&& (4294967295:UInt64)) * (y1 &&& (4294967295:UInt64))) 32)))] [] [] Y (gen1 (fun t11'1=>(⟨[(0,.p (AV.u64 x0)),(1,.p (AV.u64 y1)),(6,.p (AV.u64 (x0 &&& (4294967295:UInt64)))),(7,.p (AV.u64 (shr_u64 x0 32))),(9,.p (AV.u64 (shr_u64 y1 32))),(11,.p (AV.u64 t11'1))],[],51⟩:TS)) H ?_))))))))))))))))
 intro t11'1 H
 refine sg 3 Y (rm Y (rp Y (p_u64and (a:=t11'1) (b:=(4294967295:UInt64)) Y Y Y) (ra Y (rz [0,1,6,7,9,11,12] [.p (AV.u64 x0),.p (AV.u64 y1),.p (AV.u64 (x0 &&& (4294967295:UInt64))),.p (AV.u64 (shr_u64 x0 32)),.p (AV.u64 (shr_u64 y1 32)),.p (AV.u64 t11'1),.p (AV.u64 (t11'1 &&& (4294967295:UInt64)))] [] [] Y (sg 3 Y (rm Y (rp Y (p_u64shr (n:=32) Y Y Y Y) (ra Y (rz [0,1,6,7,9,12,13] [_,_,_,_,_,_,.p (AV.u64 (shr_u64 t11'1 32))] [] [] Y (sg 6 Y (rm Y (rm Y (rm Y (rp Y (p_u64mul (a:=x0 &&& (4294967295:UInt64)) (b:=shr_u64 y1 32) Y Y Y) (rp Y (p_u64add (a:=t11'1 &&& (4294967295:UInt64)) (b:=(x0 &&& (4294967295:UInt64)) * (shr_u64 y1 32)) Y Y Y) (ra Y (rz [0,1,7,9,12,13] [_,_,_,_,.p (AV.u64 ((t11'1 &&& (4294967295:UInt64))+((x0 &&& (4294967295:UInt64)) * (shr_u64 y1 32)))),_] [] [] Y (gen1 (fun w112'2=>(⟨[(0,.p (AV.u64 x0)),(1,.p (AV.u64 y1)),(7,.p (AV.u64 (shr_u64 x0 32))),(9,.p (AV.u64 (shr_u64 y1 32))),(12,.p (AV.u64 w112'2)),(13,.p (AV.u64 (shr_u64 t11'1 32)))],[],51⟩:TS)) H ?_))))))))))))))))))
 intro w112'2 H
 refine sg 9 Y (rm Y (rm Y (rp Y (p_u64mul (a:=shr_u64 x0 32) (b:=shr_u64 y1 32) Y Y Y) (rm Y (rp Y (p_u64add (a:=(shr_u64 x0 32) * (shr_u64 y1 32)) (b:=shr_u64 t11'1 32) Y Y Y) (rm Y (rp Y (p_u64shr (n:=32) Y Y Y Y) (rp Y (p_u64add (a:=((shr_u64 x0 32) * (shr_u64 y1 32))+(shr_u64 t11'1 32)) (b:=shr_u64 w112'2 32) Y Y Y) (ra Y (rz [0,1,4] [.p (AV.u64 x0),.p (AV.u64 y1),.p (AV.u64 ((((shr_u64 x0 32) * (shr_u64 y1 32))+(shr_u64 t11'1 32))+(shr_u64 w112'2 32)))] [] [] Y (gen1 (fun hi4'3=>(⟨[(0,.p (AV.u64 x0)),(1,.p (AV.u64 y1)),(4,.p (AV.u64 hi4'3))],[],51⟩:TS)) H ?_)))))))))))
 intro hi4'3 H
 refine sg 4 Y (rm Y (rm Y (rp Y (p_u64mul (a:=x0) (b:=y1) Y Y Y) (ra Y (rz [4,5] [.p (AV.u64 hi4'3),.p (AV.u64 (x0 * y1))] [] [] Y (QR ?_))))))
 have z:=se H;subst z
 exact ⟨⟨rt,rt,trivial⟩,trivial⟩
noncomputable def g_ref_signed (minus0:Bool) (n1:UInt64):Option (GValue×Int) :=
  (if (minus0=true)∧(n1≤(9223372036854775808:UInt64)) then (g_ref_intOf (w64 ((0 - n1).toNat:Int))).bind fun r'1=>some (r'1.1,r'1.2) else (if ((!minus0)=true)∧(n1 < (9223372036854775808:UInt64)) then (g_ref_intOf (w64 (n1.toNat:Int))).bind fun r'2=>some (r'2.1,r'2.2) else some (GValue.zero,(6:Int))))
theorem g_ref_signed_ac {minus0:Bool} {n1:UInt64} {r:GValue×Int} (H:g_ref_signed minus0 n1=some r):ACp Tryz.prog 78 [(AV.bool minus0),(AV.u64 n1)] (.tup [(.agg (GValue.cs r.1)),(AV.int r.2)]):=by
 refine ACp_of (AC2_of_body (vs:=[.g (GValue.cs r.1),.i r.2]) Tryz.func78 Y Y (lb Y) Y ?_) (fun _=>.same _)
 unfold g_ref_signed at H
 refine as2 [0,1] [.b minus0,.p (AV.u64 n1)] [] [] Y (sg 2 Y (rq Y (al 4 in_32 one_32 zc_32 Y) (ra Y (rz [0,1,4] [_,_,.q 4 (0)] [4] [.pure (GValue.cs GValue.zero)] Y (QS (QS (AW2_mid (⟨[(0,.b minus0),(1,.p (AV.u64 n1)),(4,.q 4 (0)),(10,.b (decide ((minus0=true)∧(n1≤(9223372036854775808:UInt64)))))],[(4,.pure (GValue.cs GValue.zero))],29⟩:TS) ?_ ?_)))))))
 ·refine ar 5 Y (rm Y (rm Y ?_))
  refine (Classical.em (minus0=true)).elim (fun h1=>?_) (fun h1=>?_)
  ·exact rn Y h1 Y (p_move Y Y) (rn Y h1 Y (p_u64le (a:=n1) (b:=(9223372036854775808:UInt64)) Y Y Y) (rp Y (p_pkt Y Y h1 (tb ((and_l (q:=n1≤(9223372036854775808:UInt64)) h1)))) (rend Y Y)))
  exact rO Y (bfalse h1) Y (rO Y (bfalse h1) Y (rp Y (p_pkf Y Y (bfalse h1) (tb (dF (p:=(minus0=true)∧(n1≤(9223372036854775808:UInt64))) (fun x=>h1 x.1)).symm)) (rend Y Y)))
 refine if2 H Y (fun h2 H=>?_) (fun h2 H=>?_)
 ·refine sg 8 Y (rm Y (rp Y (p_u64neg Y Y) (rp Y (p_u64_i (a:=0 - n1) Y U30 U3 Y) (bindK H fun r'1 h3 H=>rp Y (pc Y Tryz.func55 Y (g_ref_intOf_ac h3) Y) (rp Y (pe Y) (rp Y (pe Y) (rq Y (u_sw Y Y in_32 (GValue.len r'1.1) (GValue.len GValue.zero)) (ra Y (rz [4,5] [_,.i r'1.2] [4] [.pure (GValue.cs r'1.1)] Y (QR ?_))))))))))
  have z:=se H;subst z
  exact ⟨⟨rcw U32 Y in_32 Y (GValue.len r'1.1),rt,trivial⟩,trivial⟩
 refine as2 [0,1,4] [_,_,_] [4] [_] Y (QK (QS (QS (AW2_mid (⟨[(1,.p (AV.u64 n1)),(4,.q 4 (0)),(22,.b (decide (((!minus0)=true)∧(n1 < (9223372036854775808:UInt64)))))],[(4,.pure (GValue.cs GValue.zero))],29⟩:TS) ?_ ?_))))
 ·refine ar 6 Y (rm Y (rp Y (p_not Y Y) (rm Y ?_)))
  refine (Classical.em ((!minus0)=true)).elim (fun h4=>?_) (fun h4=>?_)
  ·exact rn Y h4 Y (p_move Y Y) (rn Y h4 Y (p_u64lt (a:=n1) (b:=(9223372036854775808:UInt64)) Y Y Y) (rp Y (p_pkt Y Y h4 (tb ((and_l (q:=n1 < (9223372036854775808:UInt64)) h4)))) (rend Y Y)))
  exact rO Y (bfalse h4) Y (rO Y (bfalse h4) Y (rp Y (p_pkf Y Y (bfalse h4) (tb (dF (p:=((!minus0)=true)∧(n1 < (9223372036854775808:UInt64))) (fun x=>h4 x.1)).symm)) (rend Y Y)))
 refine if2 H Y (fun h5 H=>?_) (fun h5 H=>?_)
 ·refine sg 7 Y (rm Y (rp Y (p_u64_i (a:=n1) Y U30 U3 Y) (bindK H fun r'2 h6 H=>rp Y (pc Y Tryz.func55 Y (g_ref_intOf_ac h6) Y) (rp Y (pe Y) (rp Y (pe Y) (rq Y (u_sw Y Y in_32 (GValue.len r'2.1) (GValue.len GValue.zero)) (ra Y (rz [4,5] [_,.i r'2.2] [4] [.pure (GValue.cs r'2.1)] Y (QR ?_)))))))))
  have z:=se H;subst z
  exact ⟨⟨rcw U32 Y in_32 Y (GValue.len r'2.1),rt,trivial⟩,trivial⟩
 refine as2 [4] [_] [4] [_] Y (QK (sg 3 Y (rp Y (u_bld Y in_32 one_32 zc_32 pl_32 Y Y) (rq Y (u_sw Y Y in_32 (GValue.len GValue.zero) (GValue.len GValue.zero)) (ra Y (rz [4,5] [_,.i 6] [4] [_] Y (QR ?_)))))))
 have z:=se H;subst z
 exact ⟨⟨rcw U32 Y in_32 Y (GValue.len GValue.zero),rt,trivial⟩,trivial⟩
noncomputable def g_ref_reckoned (op0:Int) (a1:Int) (b2:Int):Option (GValue×Int) :=
  ((if op0=(6:Int) then some (decide (op0=(6:Int))) else some (decide (op0=(5:Int))))).bind fun j'1=>(if j'1=true then (if op0=(5:Int) then letO ((add64 ((UInt64.ofInt a1)+(9223372036854775808:UInt64)) ((UInt64.ofInt b2)+(9223372036854775808:UInt64))).1) fun s10'2=>letO ((add64 ((UInt64.ofInt a1)+(9223372036854775808:UInt64)) ((UInt64.ofInt b2)+(9223372036854775808:UInt64))).2) fun c11'3=>(if ((c11'3=(0:UInt64))∧(s10'2 < (9223372036854775808:UInt64)))∨((c11'3=(1:UInt64))∧((9223372036854775808:UInt64)≤s10'2)) then some (GValue.zero,(6:Int)) else (g_ref_intOf (w64 (s10'2.toNat:Int))).bind fun r'4=>some (r'4.1,r'4.2)) else letO ((sub64 ((UInt64.ofInt a1)+(9223372036854775808:UInt64)) ((UInt64.ofInt b2)+(9223372036854775808:UInt64))).1) fun d12'5=>letO ((sub64 ((UInt64.ofInt a1)+(9223372036854775808:UInt64)) ((UInt64.ofInt b2)+(9223372036854775808:UInt64))).2) fun c13'6=>(if ((c13'6=(0:UInt64))∧((9223372036854775808:UInt64)≤d12'5))∨((c13'6=(1:UInt64))∧(d12'5 < (9223372036854775808:UInt64))) then some (GValue.zero,(6:Int)) else (g_ref_intOf (w64 (d12'5.toNat:Int))).bind fun r'7=>some (r'7.1,r'7.2))) else (if op0=(7:Int) then (g_ref_sizeOf a1).bind fun r'8=>(g_ref_sizeOf b2).bind fun r'9=>(g_bits_Mul64 r'8 r'9).bind fun r'10=>(if r'10.1≠(0:UInt64) then some (GValue.zero,(6:Int)) else (g_ref_signed (decide ((decide (a1 < (0:Int)))≠(decide (b2 < (0:Int))))) r'10.2).bind fun r'11=>some (r'11.1,r'11.2)) else (if b2=(0:Int) then some (GValue.zero,(7:Int)) else (g_ref_sizeOf a1).bind fun r'12=>(g_ref_sizeOf b2).bind fun r'13=>if r'13≠(0:UInt64) then (g_ref_signed (decide ((decide (a1 < (0:Int)))≠(decide (b2 < (0:Int))))) (r'12 / r'13)).bind fun r'14=>some (r'14.1,r'14.2) else none)))
theorem g_ref_reckoned_ac {op0:Int} {a1:Int} {b2:Int} {r:GValue×Int} (H:g_ref_reckoned op0 a1 b2=some r):ACp Tryz.prog 54 [(AV.int op0),(AV.int a1),(AV.int b2)] (.tup [(.agg (GValue.cs r.1)),(AV.int r.2)]):=by
 refine ACp_of (AC2_of_body (vs:=[.g (GValue.cs r.1),.i r.2]) Tryz.func54 Y Y (lb Y) Y ?_) (fun _=>.same _)
 unfold g_ref_reckoned at H
 refine as2 [0,1,2] [.i op0,.i a1,.i b2] [] [] Y (sg 2 Y (rq Y (al 6 in_32 one_32 zc_32 Y) (ra Y (rz [0,1,2,6] [_,_,_,.q 6 (0)] [6] [.pure (GValue.cs GValue.zero)] Y (QS (sg 1 Y (rm Y (rz [0,1,2,6,16] [_,_,_,_,.i op0] [6] [_] Y (QB (QS (bindK H fun j'1 h1 H=>AW2_mid (⟨[(0,.i op0),(1,.i a1),(2,.i b2),(6,.q 6 (0)),(16,.i op0),(17,.b j'1)],[(6,.pure (GValue.cs GValue.zero))],118⟩:TS) ?_ ?_)))))))))))
 ·clear H
  have H:=h1
  clear h1
  refine sg 2 Y (rp Y (pi Y) (ra Y (rz [0,1,2,6,16,17] [.i op0,.i a1,.i b2,.q 6 (0),.i op0,.b (decide (op0=6))] [6] [.pure (GValue.cs GValue.zero)] Y (if2 H Y (fun h2 H=>?_) (fun h2 H=>?_)))))
  ·refine QK ?_
   have z:=se H;subst z
   exact rfl
  refine ar 2 Y (rp Y (pi Y) (ra Y (rz [0,1,2,6,16,17] [_,_,_,_,_,.b (decide (op0=5))] [6] [_] Y ?_)))
  have z:=se H;subst z
  exact rfl
 refine AW2_cond Y (fun h3=>?_) (fun h3=>?_)
 ·replace H:=ite_then h3 H
  refine sg 8 Y (rm Y (rp Y (p_i_u64 Y U3 U30 Y) (rp Y (p_u64add (a:=UInt64.ofInt a1) (b:=(9223372036854775808:UInt64)) Y Y Y) (rm Y (rp Y (p_i_u64 Y U3 U30 Y) (rp Y (p_u64add (a:=UInt64.ofInt b2) (b:=(9223372036854775808:UInt64)) Y Y Y) (ra Y (ra Y (rz [0,6,8,9] [.i op0,.q 6 (0),.p (AV.u64 ((UInt64.ofInt a1)+(9223372036854775808:UInt64))),.p (AV.u64 ((UInt64.ofInt b2)+(9223372036854775808:UInt64)))] [6] [.pure (GValue.cs GValue.zero)] Y (QS (sg 2 Y (rm Y (rp Y (pi Y) (rz [6,8,9,27] [_,_,_,.b (decide (op0=5))] [6] [_] Y (if2 H Y (fun h4 H=>?_) (fun h4 H=>?_))))))))))))))))
  ·refine sg 8 Y (rm Y (rm Y (rp Y (p_add64 (a:=(UInt64.ofInt a1)+(9223372036854775808:UInt64)) (b:=(UInt64.ofInt b2)+(9223372036854775808:UInt64)) Y Y Y Tryz.func74 Y Y (by kernel_rfl) (by kernel_rfl) Y Y Y) (rm Y (rp Y (pe Y) (rp Y (pe Y) (ra Y (ra Y (rz [6,10,11] [_,.p (AV.u64 ((add64 ((UInt64.ofInt a1)+(9223372036854775808:UInt64)) ((UInt64.ofInt b2)+(9223372036854775808:UInt64))).1)),.p (AV.u64 ((add64 ((UInt64.ofInt a1)+(9223372036854775808:UInt64)) ((UInt64.ofInt b2)+(9223372036854775808:UInt64))).2))] [6] [_] Y (gen1 (fun s10'2=>(⟨[(6,.q 6 (0)),(10,.p (AV.u64 s10'2)),(11,.p (AV.u64 ((add64 ((UInt64.ofInt a1)+(9223372036854775808:UInt64)) ((UInt64.ofInt b2)+(9223372036854775808:UInt64))).2)))],[(6,.pure (GValue.cs GValue.zero))],118⟩:TS)) H ?_))))))))))
   intro s10'2 H
   refine gen1 (fun c11'3=>(⟨[(6,.q 6 (0)),(10,.p (AV.u64 s10'2)),(11,.p (AV.u64 c11'3))],[(6,.pure (GValue.cs GValue.zero))],118⟩:TS)) H ?_
   intro c11'3 H
   refine QS (QS (AW2_mid (⟨[(6,.q 6 (0)),(10,.p (AV.u64 s10'2)),(47,.b (decide (((c11'3=(0:UInt64))∧(s10'2 < (9223372036854775808:UInt64)))∨((c11'3=(1:UInt64))∧((9223372036854775808:UInt64)≤s10'2)))))],[(6,.pure (GValue.cs GValue.zero))],118⟩:TS) ?_ ?_))
   ·refine ar 14 Y (rm Y (rp Y (p_u64eq (a:=c11'3) (b:=(0:UInt64)) Y Y Y) (rm Y ?_)))
    refine (Classical.em (c11'3=(0:UInt64))).elim (fun h5=>?_) (fun h5=>?_)
    ·refine rn Y (dT h5) Y (p_move Y Y) (rn Y (dT h5) Y (p_u64lt (a:=s10'2) (b:=(9223372036854775808:UInt64)) Y Y Y) (rp Y (p_pkt Y Y (dT h5) (tb ((and_l (q:=s10'2 < (9223372036854775808:UInt64)) h5)))) (rm Y ?_)))
     refine (Classical.em (s10'2 < (9223372036854775808:UInt64))).elim (fun h6=>?_) (fun h6=>?_)
     ·have qq1:=dT (p:=(c11'3=(0:UInt64))∧(s10'2 < (9223372036854775808:UInt64))) ⟨h5,h6⟩
      iterate 3 (refine rO Y qq1 Y ?_)
      iterate 2 (refine r_off2 rfl rfl rfl rfl rfl rfl ?_)
      exact rO Y qq1 Y (rp Y (p_pkt Y Y qq1 (tb (dT (p:=((c11'3=(0:UInt64))∧(s10'2 < (9223372036854775808:UInt64)))∨((c11'3=(1:UInt64))∧((9223372036854775808:UInt64)≤s10'2))) (Or.inl ⟨h5,h6⟩)).symm)) (rend Y Y))
     have qq2:=dF (p:=(c11'3=(0:UInt64))∧(s10'2 < (9223372036854775808:UInt64))) (fun h=>h6 h.2)
     refine rn Y qq2 Y (p_move Y Y) (rn Y qq2 Y (p_u64eq (a:=c11'3) (b:=(1:UInt64)) Y Y Y) (rn Y qq2 Y (p_move Y Y) ?_))
     refine (Classical.em (c11'3=(1:UInt64))).elim (fun h7=>?_) (fun h7=>?_)
     ·exact rn Y (dT h7) Y (p_move Y Y) (rn Y (dT h7) Y (p_u64ge (a:=s10'2) (b:=(9223372036854775808:UInt64)) Y Y Y) (rn Y qq2 Y (p_pkt Y Y (dT h7) (tb ((and_l (q:=(9223372036854775808:UInt64)≤s10'2) h7)))) (rp Y (p_pkf Y Y qq2 (tb ((or_l (p:=(c11'3=(0:UInt64))∧(s10'2 < (9223372036854775808:UInt64))) (q:=(c11'3=(1:UInt64))∧((9223372036854775808:UInt64)≤s10'2)) (fun h=>h6 h.2))))) (rend Y Y))))
     iterate 2 (refine rO Y (dF h7) Y ?_)
     exact rn Y qq2 Y (p_pkf Y Y (dF h7) (tb (dF (p:=(c11'3=(1:UInt64))∧((9223372036854775808:UInt64)≤s10'2)) (fun x=>h7 x.1)).symm)) (rp Y (p_pkf Y Y qq2 (tb ((or_l (p:=(c11'3=(0:UInt64))∧(s10'2 < (9223372036854775808:UInt64))) (q:=(c11'3=(1:UInt64))∧((9223372036854775808:UInt64)≤s10'2)) (fun h=>h6 h.2))))) (rend Y Y))
    iterate 2 (refine rO Y (dF h5) Y ?_)
    refine rp Y (p_pkf Y Y (dF h5) (tb (dF (p:=(c11'3=(0:UInt64))∧(s10'2 < (9223372036854775808:UInt64))) (fun x=>h5 x.1)).symm)) (rm Y ?_)
    have qq3:=dF (p:=(c11'3=(0:UInt64))∧(s10'2 < (9223372036854775808:UInt64))) (fun h=>h5 h.1)
    refine rn Y qq3 Y (p_move Y Y) (rn Y qq3 Y (p_u64eq (a:=c11'3) (b:=(1:UInt64)) Y Y Y) (rn Y qq3 Y (p_move Y Y) ?_))
    refine (Classical.em (c11'3=(1:UInt64))).elim (fun h8=>?_) (fun h8=>?_)
    ·exact rn Y (dT h8) Y (p_move Y Y) (rn Y (dT h8) Y (p_u64ge (a:=s10'2) (b:=(9223372036854775808:UInt64)) Y Y Y) (rn Y qq3 Y (p_pkt Y Y (dT h8) (tb ((and_l (q:=(9223372036854775808:UInt64)≤s10'2) h8)))) (rp Y (p_pkf Y Y qq3 (tb ((or_l (p:=(c11'3=(0:UInt64))∧(s10'2 < (9223372036854775808:UInt64))) (q:=(c11'3=(1:UInt64))∧((9223372036854775808:UInt64)≤s10'2)) (fun h=>h5 h.1))))) (rend Y Y))))
    iterate 2 (refine rO Y (dF h8) Y ?_)
    exact rn Y qq3 Y (p_pkf Y Y (dF h8) (tb (dF (p:=(c11'3=(1:UInt64))∧((9223372036854775808:UInt64)≤s10'2)) (fun x=>h8 x.1)).symm)) (rp Y (p_pkf Y Y qq3 (tb ((or_l (p:=(c11'3=(0:UInt64))∧(s10'2 < (9223372036854775808:UInt64))) (q:=(c11'3=(1:UInt64))∧((9223372036854775808:UInt64)≤s10'2)) (fun h=>h5 h.1))))) (rend Y Y))
   refine if2 H Y (fun h9 H=>?_) (fun h9 H=>?_)
   ·refine sg 3 Y (rp Y (u_bld Y in_32 one_32 zc_32 pl_32 Y Y) (rq Y (u_sw Y Y in_32 (GValue.len GValue.zero) (GValue.len GValue.zero)) (ra Y (rz [6,7] [_,.i 6] [6] [_] Y (QR ?_)))))
    have z:=se H;subst z
    exact ⟨⟨rcw U32 Y in_32 Y (GValue.len GValue.zero),rt,trivial⟩,trivial⟩
   refine as2 [6,10] [_,_] [6] [_] Y (QK (sg 7 Y (rm Y (rp Y (p_u64_i (a:=s10'2) Y U30 U3 Y) (bindK H fun r'4 h10 H=>rp Y (pc Y Tryz.func55 Y (g_ref_intOf_ac h10) Y) (rp Y (pe Y) (rp Y (pe Y) (rq Y (u_sw Y Y in_32 (GValue.len r'4.1) (GValue.len GValue.zero)) (ra Y (rz [6,7] [_,.i r'4.2] [6] [.pure (GValue.cs r'4.1)] Y (QR ?_)))))))))))
   have z:=se H;subst z
   exact ⟨⟨rcw U32 Y in_32 Y (GValue.len r'4.1),rt,trivial⟩,trivial⟩
  refine as2 [6,8,9] [_,_,_] [6] [_] Y (QK (sg 8 Y (rm Y (rm Y (rp Y (p_sub64 (a:=(UInt64.ofInt a1)+(9223372036854775808:UInt64)) (b:=(UInt64.ofInt b2)+(9223372036854775808:UInt64)) Y Y Y Tryz.func75 Y Y (by kernel_rfl) (by kernel_rfl) Y Y Y) (rm Y (rp Y (pe Y) (rp Y (pe Y) (ra Y (ra Y (rz [6,12,13] [_,.p (AV.u64 ((sub64 ((UInt64.ofInt a1)+(9223372036854775808:UInt64)) ((UInt64.ofInt b2)+(9223372036854775808:UInt64))).1)),.p (AV.u64 ((sub64 ((UInt64.ofInt a1)+(9223372036854775808:UInt64)) ((UInt64.ofInt b2)+(9223372036854775808:UInt64))).2))] [6] [_] Y (gen1 (fun d12'5=>(⟨[(6,.q 6 (0)),(12,.p (AV.u64 d12'5)),(13,.p (AV.u64 ((sub64 ((UInt64.ofInt a1)+(9223372036854775808:UInt64)) ((UInt64.ofInt b2)+(9223372036854775808:UInt64))).2)))],[(6,.pure (GValue.cs GValue.zero))],118⟩:TS)) H ?_))))))))))))
  intro d12'5 H
  refine gen1 (fun c13'6=>(⟨[(6,.q 6 (0)),(12,.p (AV.u64 d12'5)),(13,.p (AV.u64 c13'6))],[(6,.pure (GValue.cs GValue.zero))],118⟩:TS)) H ?_
  intro c13'6 H
  refine QS (QS (AW2_mid (⟨[(6,.q 6 (0)),(12,.p (AV.u64 d12'5)),(73,.b (decide (((c13'6=(0:UInt64))∧((9223372036854775808:UInt64)≤d12'5))∨((c13'6=(1:UInt64))∧(d12'5 < (9223372036854775808:UInt64))))))],[(6,.pure (GValue.cs GValue.zero))],118⟩:TS) ?_ ?_))
  ·refine ar 14 Y (rm Y (rp Y (p_u64eq (a:=c13'6) (b:=(0:UInt64)) Y Y Y) (rm Y ?_)))
   refine (Classical.em (c13'6=(0:UInt64))).elim (fun h11=>?_) (fun h11=>?_)
   ·refine rn Y (dT h11) Y (p_move Y Y) (rn Y (dT h11) Y (p_u64ge (a:=d12'5) (b:=(9223372036854775808:UInt64)) Y Y Y) (rp Y (p_pkt Y Y (dT h11) (tb ((and_l (q:=(9223372036854775808:UInt64)≤d12'5) h11)))) (rm Y ?_)))
    refine (Classical.em ((9223372036854775808:UInt64)≤d12'5)).elim (fun h12=>?_) (fun h12=>?_)
    ·have qq4:=dT (p:=(c13'6=(0:UInt64))∧((9223372036854775808:UInt64)≤d12'5)) ⟨h11,h12⟩
     iterate 3 (refine rO Y qq4 Y ?_)
     iterate 2 (refine r_off2 rfl rfl rfl rfl rfl rfl ?_)
     exact rO Y qq4 Y (rp Y (p_pkt Y Y qq4 (tb (dT (p:=((c13'6=(0:UInt64))∧((9223372036854775808:UInt64)≤d12'5))∨((c13'6=(1:UInt64))∧(d12'5 < (9223372036854775808:UInt64)))) (Or.inl ⟨h11,h12⟩)).symm)) (rend Y Y))
    have qq5:=dF (p:=(c13'6=(0:UInt64))∧((9223372036854775808:UInt64)≤d12'5)) (fun h=>h12 h.2)
    refine rn Y qq5 Y (p_move Y Y) (rn Y qq5 Y (p_u64eq (a:=c13'6) (b:=(1:UInt64)) Y Y Y) (rn Y qq5 Y (p_move Y Y) ?_))
    refine (Classical.em (c13'6=(1:UInt64))).elim (fun h13=>?_) (fun h13=>?_)
    ·exact rn Y (dT h13) Y (p_move Y Y) (rn Y (dT h13) Y (p_u64lt (a:=d12'5) (b:=(9223372036854775808:UInt64)) Y Y Y) (rn Y qq5 Y (p_pkt Y Y (dT h13) (tb ((and_l (q:=d12'5 < (9223372036854775808:UInt64)) h13)))) (rp Y (p_pkf Y Y qq5 (tb ((or_l (p:=(c13'6=(0:UInt64))∧((9223372036854775808:UInt64)≤d12'5)) (q:=(c13'6=(1:UInt64))∧(d12'5 < (9223372036854775808:UInt64))) (fun h=>h12 h.2))))) (rend Y Y))))
    iterate 2 (refine rO Y (dF h13) Y ?_)
    exact rn Y qq5 Y (p_pkf Y Y (dF h13) (tb (dF (p:=(c13'6=(1:UInt64))∧(d12'5 < (9223372036854775808:UInt64))) (fun x=>h13 x.1)).symm)) (rp Y (p_pkf Y Y qq5 (tb ((or_l (p:=(c13'6=(0:UInt64))∧((9223372036854775808:UInt64)≤d12'5)) (q:=(c13'6=(1:UInt64))∧(d12'5 < (9223372036854775808:UInt64))) (fun h=>h12 h.2))))) (rend Y Y))
   iterate 2 (refine rO Y (dF h11) Y ?_)
   refine rp Y (p_pkf Y Y (dF h11) (tb (dF (p:=(c13'6=(0:UInt64))∧((9223372036854775808:UInt64)≤d12'5)) (fun x=>h11 x.1)).symm)) (rm Y ?_)
   have qq6:=dF (p:=(c13'6=(0:UInt64))∧((9223372036854775808:UInt64)≤d12'5)) (fun h=>h11 h.1)
   refine rn Y qq6 Y (p_move Y Y) (rn Y qq6 Y (p_u64eq (a:=c13'6) (b:=(1:UInt64)) Y Y Y) (rn Y qq6 Y (p_move Y Y) ?_))
   refine (Classical.em (c13'6=(1:UInt64))).elim (fun h14=>?_) (fun h14=>?_)
   ·exact rn Y (dT h14) Y (p_move Y Y) (rn Y (dT h14) Y (p_u64lt (a:=d12'5) (b:=(9223372036854775808:UInt64)) Y Y Y) (rn Y qq6 Y (p_pkt Y Y (dT h14) (tb ((and_l (q:=d12'5 < (9223372036854775808:UInt64)) h14)))) (rp Y (p_pkf Y Y qq6 (tb ((or_l (p:=(c13'6=(0:UInt64))∧((9223372036854775808:UInt64)≤d12'5)) (q:=(c13'6=(1:UInt64))∧(d12'5 < (9223372036854775808:UInt64))) (fun h=>h11 h.1))))) (rend Y Y))))
   iterate 2 (refine rO Y (dF h14) Y ?_)
   exact rn Y qq6 Y (p_pkf Y Y (dF h14) (tb (dF (p:=(c13'6=(1:UInt64))∧(d12'5 < (9223372036854775808:UInt64))) (fun x=>h14 x.1)).symm)) (rp Y (p_pkf Y Y qq6 (tb ((or_l (p:=(c13'6=(0:UInt64))∧((9223372036854775808:UInt64)≤d12'5)) (q:=(c13'6=(1:UInt64))∧(d12'5 < (9223372036854775808:UInt64))) (fun h=>h11 h.1))))) (rend Y Y))
  refine if2 H Y (fun h15 H=>?_) (fun h15 H=>?_)
  ·refine sg 3 Y (rp Y (u_bld Y in_32 one_32 zc_32 pl_32 Y Y) (rq Y (u_sw Y Y in_32 (GValue.len GValue.zero) (GValue.len GValue.zero)) (ra Y (rz [6,7] [_,.i 6] [6] [_] Y (QR ?_)))))
   have z:=se H;subst z
   exact ⟨⟨rcw U32 Y in_32 Y (GValue.len GValue.zero),rt,trivial⟩,trivial⟩
  refine as2 [6,12] [_,_] [6] [_] Y (QK (sg 7 Y (rm Y (rp Y (p_u64_i (a:=d12'5) Y U30 U3 Y) (bindK H fun r'7 h16 H=>rp Y (pc Y Tryz.func55 Y (g_ref_intOf_ac h16) Y) (rp Y (pe Y) (rp Y (pe Y) (rq Y (u_sw Y Y in_32 (GValue.len r'7.1) (GValue.len GValue.zero)) (ra Y (rz [6,7] [_,.i r'7.2] [6] [.pure (GValue.cs r'7.1)] Y (QR ?_)))))))))))
  have z:=se H;subst z
  exact ⟨⟨rcw U32 Y in_32 Y (GValue.len r'7.1),rt,trivial⟩,trivial⟩
 replace H:=ite_else (ne_true h3) H
 refine sg 2 Y (rp Y (pi Y) (ra Y (rz [1,2,6,80] [.i a1,.i b2,.q 6 (0),.b (decide (op0=7))] [6] [.pure (GValue.cs GValue.zero)] Y (if2 H Y (fun h17 H=>?_) (fun h17 H=>?_)))))
 ·refine sg 10 Y (rm Y (bindK H fun r'8 h18 H=>rp Y (pc Y Tryz.func77 Y (g_ref_sizeOf_ac h18) Y) (rm Y (bindK H fun r'9 h19 H=>rp Y (pc Y Tryz.func77 Y (g_ref_sizeOf_ac h19) Y) (bindK H fun r'10 h20 H=>rp Y (pc Y Tryz.func76 Y (g_bits_Mul64_ac h20) Y) (rm Y (rp Y (pe Y) (rp Y (pe Y) (ra Y (ra Y (rz [1,2,6,14,15] [_,_,_,.p (AV.u64 r'10.1),.p (AV.u64 r'10.2)] [6] [_] Y (QS (sg 2 Y (rm Y (rp Y (p_u64ne (a:=r'10.1) (b:=(0:UInt64)) Y Y Y) (rz [1,2,6,15,91] [_,_,_,_,.b (decide (r'10.1≠(0:UInt64)))] [6] [_] Y (if2 H Y (fun h21 H=>?_) (fun h21 H=>?_))))))))))))))))))
  ·refine sg 3 Y (rp Y (u_bld Y in_32 one_32 zc_32 pl_32 Y Y) (rq Y (u_sw Y Y in_32 (GValue.len GValue.zero) (GValue.len GValue.zero)) (ra Y (rz [6,7] [_,.i 6] [6] [_] Y (QR ?_)))))
   have z:=se H;subst z
   exact ⟨⟨rcw U32 Y in_32 Y (GValue.len GValue.zero),rt,trivial⟩,trivial⟩
  refine as2 [1,2,6,15] [_,_,_,_] [6] [_] Y (QK (sg 11 Y (rm Y (rp Y (pb Y Y) (rm Y (rp Y (pb Y Y) (rp Y (p_bnep Y U4 Y Y) (rm Y (bindK H fun r'11 h22 H=>rp Y (pc Y Tryz.func78 Y (g_ref_signed_ac h22) Y) (rp Y (pe Y) (rp Y (pe Y) (rq Y (u_sw Y Y in_32 (GValue.len r'11.1) (GValue.len GValue.zero)) (ra Y (rz [6,7] [_,.i r'11.2] [6] [.pure (GValue.cs r'11.1)] Y (QR ?_)))))))))))))))
  have z:=se H;subst z
  exact ⟨⟨rcw U32 Y in_32 Y (GValue.len r'11.1),rt,trivial⟩,trivial⟩
 refine as2 [1,2,6] [_,_,_] [6] [_] Y (QK (QS (sg 2 Y (rm Y (rp Y (pi Y) (rz [1,2,6,103] [_,_,_,.b (decide (b2=0))] [6] [_] Y (if2 H Y (fun h23 H=>?_) (fun h23 H=>?_))))))))
 ·refine sg 3 Y (rp Y (u_bld Y in_32 one_32 zc_32 pl_32 Y Y) (rq Y (u_sw Y Y in_32 (GValue.len GValue.zero) (GValue.len GValue.zero)) (ra Y (rz [6,7] [_,.i 7] [6] [_] Y (QR ?_)))))
  have z:=se H;subst z
  exact ⟨⟨rcw U32 Y in_32 Y (GValue.len GValue.zero),rt,trivial⟩,trivial⟩
 refine as2 [1,2,6] [_,_,_] [6] [_] Y (QK (sg 15 Y (rm Y (rp Y (pb Y Y) (rm Y (rp Y (pb Y Y) (rp Y (p_bnep Y U4 Y Y) (rm Y (bindK H fun r'12 h24 H=>rp Y (pc Y Tryz.func77 Y (g_ref_sizeOf_ac h24) Y) (rm Y (bindK H fun r'13 h25 H=>rp Y (pc Y Tryz.func77 Y (g_ref_sizeOf_ac h25) Y) (chkK H fun h26 H=>rp Y (p_u64quo (a:=r'12) (b:=r'13) Y Y Y h26) (bindK H fun r'14 h27 H=>rp Y (pc Y Tryz.func78 Y (g_ref_signed_ac h27) Y) (rp Y (pe Y) (rp Y (pe Y) (rq Y (u_sw Y Y in_32 (GValue.len r'14.1) (GValue.len GValue.zero)) (ra Y (rz [6,7] [_,.i r'14.2] [6] [.pure (GValue.cs r'14.1)] Y (QR ?_)))))))))))))))))))
 have z:=se H;subst z
 exact ⟨⟨rcw U32 Y in_32 Y (GValue.len r'14.1),rt,trivial⟩,trivial⟩
noncomputable def g_ref_sign (n0:Int):Option (Int) :=
  (if n0 > (0:Int) then some (1:Int) else (if n0 < (0:Int) then some (-1:Int) else some (0:Int)))
theorem g_ref_sign_ac {n0:Int} {r:Int} (H:g_ref_sign n0=some r):ACp Tryz.prog 79 [(AV.int n0)] (AV.int r):=by
 refine ACp_of (AC2_of_body (vs:=[.i r]) Tryz.func79 Y Y (lb Y) Y ?_) (fun _=>.same _)
 unfold g_ref_sign at H
 refine as2 [0] [.i n0] [] [] Y (sg 1 Y (ra Y (rz [0] [_] [] [] Y (QS (sg 2 Y (rm Y (rp Y (pb Y Y) (rz [0,4] [_,.b (decide (n0 > 0))] [] [] Y (if2 H Y (fun h1 H=>?_) (fun h1 H=>?_))))))))))
 ·refine sg 1 Y (ra Y (rz [2] [.i 1] [] [] Y (QR ?_)))
  have z:=se H;subst z
  exact ⟨⟨rt,trivial⟩,trivial⟩
 refine as2 [0] [_] [] [] Y (QK (QS (sg 2 Y (rm Y (rp Y (pb Y Y) (rz [6] [.b (decide (n0 < 0))] [] [] Y (if2 H Y (fun h2 H=>?_) (fun h2 H=>?_))))))))
 ·refine sg 1 Y (ra Y (rz [2] [.i (-1:Int)] [] [] Y (QR ?_)))
  have z:=se H;subst z
  exact ⟨⟨rt,trivial⟩,trivial⟩
 refine as2 [] [] [] [] Y (QK (sg 1 Y (ra Y (rz [2] [.i 0] [] [] Y (QR ?_)))))
 have z:=se H;subst z
 exact ⟨⟨rt,trivial⟩,trivial⟩
noncomputable def g_ref_risen (b0:UInt64):Option (UInt64) :=
  (if b0 < (9223372036854775808:UInt64) then some (b0+(9223372036854775808:UInt64)) else some (~~~ b0))
theorem g_ref_risen_ac {b0:UInt64} {r:UInt64} (H:g_ref_risen b0=some r):ACp Tryz.prog 81 [(AV.u64 b0)] (AV.u64 r):=by
 refine ACp_of (AC2_of_body (vs:=[.p (AV.u64 r)]) Tryz.func81 Y Y (lb Y) Y ?_) (fun _=>.same _)
 unfold g_ref_risen at H
 refine as2 [0] [.p (AV.u64 b0)] [] [] Y (sg 1 Y (ra Y (rz [0] [_] [] [] Y (QS (sg 2 Y (rm Y (rp Y (p_u64lt (a:=b0) (b:=(9223372036854775808:UInt64)) Y Y Y) (rz [0,4] [_,.b (decide (b0 < (9223372036854775808:UInt64)))] [] [] Y (if2 H Y (fun h1 H=>?_) (fun h1 H=>?_))))))))))
 ·refine sg 3 Y (rm Y (rp Y (p_u64add (a:=b0) (b:=(9223372036854775808:UInt64)) Y Y Y) (ra Y (rz [2] [.p (AV.u64 (b0+(9223372036854775808:UInt64)))] [] [] Y (QR ?_)))))
  have z:=se H;subst z
  exact ⟨⟨rt,trivial⟩,trivial⟩
 refine as2 [0] [_] [] [] Y (QK (sg 3 Y (rm Y (rp Y (p_u64cpl Y Y) (ra Y (rz [2] [.p (AV.u64 (~~~ b0))] [] [] Y (QR ?_)))))))
 have z:=se H;subst z
 exact ⟨⟨rt,trivial⟩,trivial⟩
end Go.Proofs.YthnkbagmaljjjaaGreatDoor.VM
