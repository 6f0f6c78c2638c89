/- Words and rules that the proof uses. -/
import Derived.Test.YthnkbagmaljjjaaGreatDoorTu1
namespace Go.Proofs.YthnkbagmaljjjaaGreatDoor.VM
open Go Go.RowKit
noncomputable def g_eval_join (v0:GValue) (w1:GValue):Option (GValue×Int) :=
  (g_eval_asked (4:Int) v0 w1).bind fun r'1=>(if (!r'1)=true then some (GValue.zero,(2:Int)) else (if (v0.Kind=(0:Int))∨(w1.Kind=(0:Int)) then some (GValue.zero,(0:Int)) else (if w64 ((v0.Text.length:Int)+(w1.Text.length:Int)) > (40:Int) then some (GValue.zero,(1:Int)) else if v0.Text.length+w1.Text.length≤9223372036854775807 then letO ({ { GValue.zero with Kind:=(4:Int) } with Text:=v0.Text++w1.Text }) fun t4'2=>some (t4'2,(0:Int)) else none)))
set_option maxHeartbeats 4000000 in
set_option maxRecDepth 100000 in
theorem g_eval_join_ac {v0:GValue} {w1:GValue} {r:GValue×Int} (H:g_eval_join v0 w1=some r):ACp Tryz.prog 116 [(.agg (GValue.cs v0)),(.agg (GValue.cs w1))] (.tup [(.agg (GValue.cs r.1)),(AV.int r.2)]):=by
 refine ACp_of (AC2_of_body (vs:=[.g (GValue.cs r.1),.i r.2]) Tryz.func116 Y Y (lb Y) Y ?_) (fun _=>.same _)
 unfold g_eval_join at H
 refine as2 [(0,.g (GValue.cs v0)),(1,.g (GValue.cs w1))] [] Y (sg [0,1,2,3] Y (rq Y (MakeD.opD (n_box 2 Y Y) Y Y Y Y) (rq Y (MakeD.opD (n_box 3 Y Y) Y Y Y Y) (rq Y (MakeD.opD (u_alloc 4 Y in_32 one_32 zc_32) Y Y Y Y) (ra Y (rz [(2,.q 2 (0)),(3,.q 3 (0)),(4,.q 4 (0))] [(2,.pure (GValue.cs v0)),(3,.pure (GValue.cs w1)),(4,.pure (GValue.cs GValue.zero))] Y ?_))))))
 refine AW2_seq (sg [0,1,2,3] Y (rp Y (u_lda Y Y U32 Y in_32 Y np (Sub.refl _) (GValue.len v0)) (rp Y (u_lda Y Y U32 Y in_32 Y np (Sub.refl _) (GValue.len w1)) (bindK H fun r'1 h1 H=>rp Y (p_callp Y Y Y Tryz.func122 Y Y (g_eval_asked_ac h1) ⟨Y,Y,Y,trivial⟩) (rp Y (p_not Y Y) ?_)))))
 refine rz [(2,_),(3,_),(4,_),(9,.b (!r'1))] [(2,_),(3,_),(4,_)] Y (AW2_cond Y (fun h2=>?_) (fun h2=>?_))
 ·replace H:=ite_then h2 H
  refine sg [0,1,2] Y (rp Y (u_bld Y in_32 one_32 zc_32 pl_32 Y Y) (rq Y (u_sw Y Y Y Y Y in_32 (GValue.len GValue.zero) (GValue.len GValue.zero) Y) (ra Y (rz [(4,.q 4 (0)),(5,.i (2:Int))] [(4,.pure (GValue.cs GValue.zero))] Y (AW2_ret ?_)))))
  have z:=se H; subst z
  exact ⟨⟨rcw U32 Y in_32 Y (GValue.len GValue.zero),rt,trivial⟩,trivial⟩
 replace H:=ite_else (ne_true h2) H
 refine as2 [(2,.q 2 (0)),(3,.q 3 (0)),(4,.q 4 (0))] [(2,.pure (GValue.cs v0)),(3,.pure (GValue.cs w1)),(4,.pure (GValue.cs GValue.zero))] Y (AW2_skip (AW2_seq (AW2_seq (AW2_mid (⟨[(2,.q 2 (0)),(3,.q 3 (0)),(4,.q 4 (0)),(18,.b (decide ((v0.Kind=(0:Int))∨(w1.Kind=(0:Int)))))],[(2,.pure (GValue.cs v0)),(3,.pure (GValue.cs w1)),(4,.pure (GValue.cs GValue.zero))],35⟩:TS) ?_ ?_))))
 ·refine AW2_reg [0,1,2,3,4,5,6,7] Y (rf Y U32 Y in_3 Y Y (GValue.len v0) (rp Y (u_ld Y Y U3 Y Y (GValue.sub0 v0)) (rp Y (p_ieq Y Y Y) (rm Y ?_))))
  refine (Classical.em (v0.Kind=(0:Int))).elim (fun h3=>?_) (fun h3=>?_)
  ·exact rO Y (dT h3) Y (rO Y (dT h3) Y (rO Y (dT h3) Y (rp Y (p_pkt Y Y (dT h3) (tb (dT (p:=(v0.Kind=(0:Int))∨(w1.Kind=(0:Int))) (Or.inl h3)).symm)) (rend Y Y))))
  exact rn Y (dF h3) Y (u_fa Y Y U32 Y in_3 nz Y Y (nl (GValue.len w1))) (rn Y (dF h3) Y (u_ld Y Y U3 Y Y (GValue.sub0 w1)) (rn Y (dF h3) Y (p_ieq Y Y Y) (rp Y (p_pkf Y Y (dF h3) (tb ((or_l (p:=v0.Kind=(0:Int)) (q:=w1.Kind=(0:Int)) h3)))) (rend Y Y))))
 refine if2 H Y (fun h4 H=>?_) (fun h4 H=>?_)
 ·refine sg [0,1,2] Y (rp Y (u_bld Y in_32 one_32 zc_32 pl_32 Y Y) (rq Y (u_sw Y Y Y Y Y in_32 (GValue.len GValue.zero) (GValue.len GValue.zero) Y) (ra Y (rz [(4,_),(5,.i (0:Int))] [(4,.pure (GValue.cs GValue.zero))] Y (AW2_ret ?_)))))
  have z:=se H; subst z
  exact ⟨⟨rcw U32 Y in_32 Y (GValue.len GValue.zero),rt,trivial⟩,trivial⟩
 refine as2 [(2,_),(3,_),(4,_)] [(2,_),(3,_),(4,_)] Y (AW2_skip (AW2_seq (sg [0,1,2,3,4,5,6,7] Y (rf Y U32 Y in_9 Y Y (GValue.len v0) (rp Y (u_ld Y Y U9 Y Y (GValue.sub3 v0)) (rp Y (p_lent Y U9 Y) ?_))))))
 refine rf Y U32 Y in_9 Y Y (GValue.len w1) (rp Y (u_ld Y Y U9 Y Y (GValue.sub3 w1)) (rp Y (p_lent Y U9 Y) (rp Y (p_bin Y Y Y Y) (rp Y (p_bin Y Y Y Y) (rz [(2,_),(3,_),(4,_),(27,.b (decide (w64 ((v0.Text.length:Int)+(w1.Text.length:Int)) > (40:Int))))] [(2,_),(3,_),(4,_)] Y (if2 H Y (fun h5 H=>?_) (fun h5 H=>?_)))))))
 ·refine sg [0,1,2] Y (rp Y (u_bld Y in_32 one_32 zc_32 pl_32 Y Y) (rq Y (u_sw Y Y Y Y Y in_32 (GValue.len GValue.zero) (GValue.len GValue.zero) Y) (ra Y (rz [(4,_),(5,.i (1:Int))] [(4,.pure (GValue.cs GValue.zero))] Y (AW2_ret ?_)))))
  have z:=se H; subst z
  exact ⟨⟨rcw U32 Y in_32 Y (GValue.len GValue.zero),rt,trivial⟩,trivial⟩
 refine as2 [(2,_),(3,_),(4,_)] [(2,_),(3,_),(4,_)] Y (AW2_skip (sg [0,1,2,3,4,5,6,7] Y (rf Y U32 Y in_9 Y Y (GValue.len v0) (rp Y (u_ld Y Y U9 Y Y (GValue.sub3 v0)) (rf Y U32 Y in_9 Y Y (GValue.len w1) (rp Y (u_ld Y Y U9 Y Y (GValue.sub3 w1)) ?_))))))
 refine chkK H fun h6 H=>rp Y (p_cat Y Y Y h6) (rp Y (u_bld Y in_32 one_32 zc_32 pl_32 Y (af_cons Y Y (GValue.upd0 GValue.zero (4:Int)) (af_cons Y Y (GValue.upd3 ((GValue.w0 GValue.zero (4:Int))) (v0.Text++w1.Text)) Y))) (rq Y (u_sw Y Y Y Y Y in_32 (GValue.len ((GValue.w3 (GValue.w0 GValue.zero (4:Int)) (v0.Text++w1.Text)))) (GValue.len GValue.zero) Y) (ra Y (rz [(4,_),(5,.i (0:Int))] [(4,.pure (GValue.cs ((GValue.w3 (GValue.w0 GValue.zero (4:Int)) (v0.Text++w1.Text)))))] Y (gen1 (fun t4'2=>(⟨[(4,.q 4 (0)),(5,.i (0:Int))],[(4,.pure (GValue.cs t4'2))],35⟩:TS)) H ?_)))))
 intro t4'2 H
 refine AW2_ret ?_
 have z:=se H; subst z
 exact ⟨⟨rcw U32 Y in_32 Y (GValue.len t4'2),rt,trivial⟩,trivial⟩
def g_eval_reckon_r5:List (List (Nat×Option Nat)):=[[(4,none)],[(27,some 0)],[(5,none)],[(29,some 2)],[(28,some 1)]]
def g_eval_reckon_r5c:List (List Nat):=[[],[0],[],[2],[0,1],[0,1,2,3,4]]
noncomputable def g_eval_reckon (op0:Int) (v1:GValue) (w2:GValue):Option (GValue×Int) :=
  (g_eval_asked (2:Int) v1 w2).bind fun r'1=>(if (!r'1)=true then some (GValue.zero,(2:Int)) else (if (v1.Kind=(0:Int))∨(w2.Kind=(0:Int)) then some (GValue.zero,(0:Int)) else (show Option ((GValue×Int)⊕Unit) from (if op0=(5:Int) then (if ((decide (w64 (v1.Int_+w2.Int_) > v1.Int_))=(decide (w2.Int_ > (0:Int))))∨(w2.Int_=(0:Int)) then (g_eval_number (w64 (v1.Int_+w2.Int_))).bind fun r'3=>some (.inl (r'3,(0:Int))) else some (.inr ())) else (if op0=(6:Int) then (if ((decide (w64 (v1.Int_ - w2.Int_) < v1.Int_))=(decide (w2.Int_ > (0:Int))))∨(w2.Int_=(0:Int)) then (g_eval_number (w64 (v1.Int_ - w2.Int_))).bind fun r'4=>some (.inl (r'4,(0:Int))) else some (.inr ())) else (if op0=(7:Int) then (if (v1.Int_=(0:Int))∨(w2.Int_=(0:Int)) then (g_eval_number (0:Int)).bind fun r'5=>some (.inl (r'5,(0:Int))) else ((if v1.Int_=(-1:Int) then (if w2.Int_=(-9223372036854775808:Int) then some false else (if w2.Int_=(-1:Int) then (if v1.Int_=(-9223372036854775808:Int) then some false else if w2.Int_≠0 then some (decide (w64 ((w64 (v1.Int_ * w2.Int_)).tdiv w2.Int_)=v1.Int_)) else none) else (if (!false)=true then if w2.Int_≠0 then some (decide (w64 ((w64 (v1.Int_ * w2.Int_)).tdiv w2.Int_)=v1.Int_)) else none else some false))) else (if (!false)=true then (if w2.Int_=(-1:Int) then (if v1.Int_=(-9223372036854775808:Int) then some false else if w2.Int_≠0 then some (decide (w64 ((w64 (v1.Int_ * w2.Int_)).tdiv w2.Int_)=v1.Int_)) else none) else if w2.Int_≠0 then some (decide (w64 ((w64 (v1.Int_ * w2.Int_)).tdiv w2.Int_)=v1.Int_)) else none) else some false))).bind fun g'6=>(if g'6=true then (g_eval_number (w64 (v1.Int_ * w2.Int_))).bind fun r'7=>some (.inl (r'7,(0:Int))) else some (.inr ()))) else (if w2.Int_=(0:Int) then some (.inl (GValue.zero,(7:Int))) else (if ¬ ((v1.Int_=(-9223372036854775808:Int))∧(w2.Int_=(-1:Int))) then if w2.Int_≠0 then (g_eval_number (w64 (v1.Int_.tdiv w2.Int_))).bind fun r'8=>some (.inl (r'8,(0:Int))) else none else some (.inr ()))))))).bind fun o'10=>match o'10 with | .inl y'9=>some y'9 | .inr j'2=>some (GValue.zero,(6:Int))))
set_option maxHeartbeats 4000000 in
set_option maxRecDepth 100000 in
theorem g_eval_reckon_ac {op0:Int} {v1:GValue} {w2:GValue} {r:GValue×Int} (H:g_eval_reckon op0 v1 w2=some r):ACp Tryz.prog 117 [(AV.int op0),(.agg (GValue.cs v1)),(.agg (GValue.cs w2))] (.tup [(.agg (GValue.cs r.1)),(AV.int r.2)]):=by
 refine ACp_of (AC2_of_body (vs:=[.g (GValue.cs r.1),.i r.2]) Tryz.func117 Y Y (lb Y) Y ?_) (fun _=>.same _)
 unfold g_eval_reckon at H
 refine as2 [(0,.i op0),(1,.g (GValue.cs v1)),(2,.g (GValue.cs w2))] [] Y (sg [0,1,2,3] Y (rq Y (MakeD.opD (n_box 4 Y Y) Y Y Y Y) (rq Y (MakeD.opD (n_box 5 Y Y) Y Y Y Y) (rq Y (MakeD.opD (u_alloc 6 Y in_32 one_32 zc_32) Y Y Y Y) (ra Y (rz [(0,_),(4,.q 4 (0)),(5,.q 5 (0)),(6,.q 6 (0))] [(4,.pure (GValue.cs v1)),(5,.pure (GValue.cs w2)),(6,.pure (GValue.cs GValue.zero))] Y ?_))))))
 refine AW2_seq (sg [0,1,2,3] Y (rp Y (u_lda Y Y U32 Y in_32 Y np (Sub.refl _) (GValue.len v1)) (rp Y (u_lda Y Y U32 Y in_32 Y np (Sub.refl _) (GValue.len w2)) (bindK H fun r'1 h1 H=>rp Y (p_callp Y Y Y Tryz.func122 Y Y (g_eval_asked_ac h1) ⟨Y,Y,Y,trivial⟩) (rp Y (p_not Y Y) ?_)))))
 refine rz [(0,_),(4,_),(5,_),(6,_),(16,.b (!r'1))] [(4,_),(5,_),(6,_)] Y (AW2_cond Y (fun h2=>?_) (fun h2=>?_))
 ·replace H:=ite_then h2 H
  refine sg [0,1,2] Y (rp Y (u_bld Y in_32 one_32 zc_32 pl_32 Y Y) (rq Y (u_sw Y Y Y Y Y in_32 (GValue.len GValue.zero) (GValue.len GValue.zero) Y) (ra Y (rz [(6,.q 6 (0)),(7,.i (2:Int))] [(6,.pure (GValue.cs GValue.zero))] Y (AW2_ret ?_)))))
  have z:=se H; subst z
  exact ⟨⟨rcw U32 Y in_32 Y (GValue.len GValue.zero),rt,trivial⟩,trivial⟩
 replace H:=ite_else (ne_true h2) H
 refine as2 [(0,.i op0),(4,.q 4 (0)),(5,.q 5 (0)),(6,.q 6 (0))] [(4,.pure (GValue.cs v1)),(5,.pure (GValue.cs w2)),(6,.pure (GValue.cs GValue.zero))] Y (AW2_skip (AW2_seq (AW2_seq (AW2_mid (⟨[(0,.i op0),(4,.q 4 (0)),(5,.q 5 (0)),(6,.q 6 (0)),(25,.b (decide ((v1.Kind=(0:Int))∨(w2.Kind=(0:Int)))))],[(4,.pure (GValue.cs v1)),(5,.pure (GValue.cs w2)),(6,.pure (GValue.cs GValue.zero))],118⟩:TS) ?_ ?_))))
 ·refine AW2_reg [0,1,2,3,4,5,6,7] Y (rf Y U32 Y in_3 Y Y (GValue.len v1) (rp Y (u_ld Y Y U3 Y Y (GValue.sub0 v1)) (rp Y (p_ieq Y Y Y) (rm Y ?_))))
  refine (Classical.em (v1.Kind=(0:Int))).elim (fun h3=>?_) (fun h3=>?_)
  ·iterate 3 (refine rO Y (dT h3) Y ?_)
   exact rp Y (p_pkt Y Y (dT h3) (tb (dT (p:=(v1.Kind=(0:Int))∨(w2.Kind=(0:Int))) (Or.inl h3)).symm)) (rend Y Y)
  exact rn Y (dF h3) Y (u_fa Y Y U32 Y in_3 nz Y Y (nl (GValue.len w2))) (rn Y (dF h3) Y (u_ld Y Y U3 Y Y (GValue.sub0 w2)) (rn Y (dF h3) Y (p_ieq Y Y Y) (rp Y (p_pkf Y Y (dF h3) (tb ((or_l (p:=v1.Kind=(0:Int)) (q:=w2.Kind=(0:Int)) h3)))) (rend Y Y))))
 refine if2 H Y (fun h4 H=>?_) (fun h4 H=>?_)
 ·refine sg [0,1,2] Y (rp Y (u_bld Y in_32 one_32 zc_32 pl_32 Y Y) (rq Y (u_sw Y Y Y Y Y in_32 (GValue.len GValue.zero) (GValue.len GValue.zero) Y) (ra Y (rz [(6,_),(7,.i (0:Int))] [(6,.pure (GValue.cs GValue.zero))] Y (AW2_ret ?_)))))
  have z:=se H; subst z
  exact ⟨⟨rcw U32 Y in_32 Y (GValue.len GValue.zero),rt,trivial⟩,trivial⟩
 refine as2 [(0,_),(4,_),(5,_),(6,_)] [(4,_),(5,_),(6,_)] Y (AW2_skip (AW2_seq (AW2_ghoQ (AW2_draw 5 [5] (fun k=>([.q 4 (0+1),.i v1.Int_,.q 5 (0+1),.i w2.Int_,.i v1.Int_]:List TV).getD k TV.any) (fun k=>g_eval_reckon_r5.getD k []) [(0,none),(6,none),(8,some 4),(30,some 3)] [] (fun k=>g_eval_reckon_r5c.getD k []) mixed (by kernel_rfl) Y Y (a_op (g_x Y (x_p Y (u_fa Y Y U32 Y in_3 nz Y Y (nl (GValue.len v1))) Y)) (a_op (g_x Y (x_p Y (u_ld Y Y U3 Y Y (GValue.sub1 v1)) Y)) (a_op (g_x Y (x_p Y (u_fa Y Y U32 Y in_3 nz Y Y (nl (GValue.len w2))) Y)) (a_op (g_x Y (x_p Y (u_ld Y Y U3 Y Y (GValue.sub1 w2)) Y)) (a_op (g_x Y (x_p Y (p_asg Y Y) Y)) (a_nil)))))) (t_op Y Y (PureD.opD (p_asg Y Y)) (t_gho (Gho_st (L:=[(0,.i op0),(6,.q 6 (0)),(8,.i v1.Int_),(9,.i w2.Int_)]) (H:=[(6,.pure (GValue.cs GValue.zero))]) (N:=118) Y ⟨TLes.same _,TLes.same _,TLes.same _,TLes.same _,trivial⟩ ⟨Y,trivial⟩) ?_))))))
 refine AW2_seq (bindK H fun o'10 h5 H=>AW2_join (fun j'2:Unit=>(⟨[(6,.q 6 (0))],[(6,.pure (GValue.cs GValue.zero))],118⟩:TS)) (fun r e s'=>e=Go.Exit.ret∧ResAll Tryz.prog s' [ResultVar.cell 6 32,ResultVar.tmp 7] [.g (GValue.cs r.1),.i r.2]∧HFits s' []) (x:=o'10) ?_ (fun j'2 hy=>?_) (fun y'9 e s' hy hs=>?_))
 ·clear H
  have H:=h5
  clear h5
  refine sg [0] Y (rm Y (rz [(6,.q 6 (0)),(8,.i v1.Int_),(9,.i w2.Int_),(31,.i op0)] [(6,.pure (GValue.cs GValue.zero))] Y (AW2_block (sg [0,1] Y (rp Y (p_ieq Y Y Y) (ra Y ?_))))))
  refine rz [(6,_),(8,_),(9,_),(31,_),(46,.b (decide (op0=(5:Int))))] [(6,_)] Y (if2 H Y (fun h6 H=>?_) (fun h6 H=>?_))
  ·refine sg [0,1,2,3] Y (rm Y (rm Y (rp Y (p_bin Y Y Y Y) (ra Y (rz [(6,_),(8,_),(9,_),(10,.i (w64 (v1.Int_+w2.Int_)))] [(6,_)] Y (AW2_seq ?_))))))
   refine AW2_mid (⟨[(6,.q 6 (0)),(10,.i (w64 (v1.Int_+w2.Int_))),(60,.b (decide (((decide (w64 (v1.Int_+w2.Int_) > v1.Int_))=(decide (w2.Int_ > (0:Int))))∨(w2.Int_=(0:Int)))))],[(6,.pure (GValue.cs GValue.zero))],118⟩:TS) ?_ ?_
   ·refine AW2_reg [0,1,2,3,4,5,6,7,8,9] Y (rm Y (rm Y (rp Y (p_bin Y Y Y Y) (rm Y (rp Y (p_bin Y Y Y Y) (rp Y (p_beqp Y U4 Y Y) ?_))))))
    refine rm Y ?_
    refine (Classical.em ((decide (w64 (v1.Int_+w2.Int_) > v1.Int_))=(decide (w2.Int_ > (0:Int))))).elim (fun h7=>?_) (fun h7=>?_)
    ·iterate 2 (refine rO Y (dT h7) Y ?_)
     exact rp Y (p_pkt Y Y (dT h7) (tb (dT (p:=((decide (w64 (v1.Int_+w2.Int_) > v1.Int_))=(decide (w2.Int_ > (0:Int))))∨(w2.Int_=(0:Int))) (Or.inl h7)).symm)) (rend Y Y)
    exact rn Y (dF h7) Y (p_move Y Y) (rn Y (dF h7) Y (p_ieq Y Y Y) (rp Y (p_pkf Y Y (dF h7) (tb ((or_l (p:=(decide (w64 (v1.Int_+w2.Int_) > v1.Int_))=(decide (w2.Int_ > (0:Int)))) (q:=w2.Int_=(0:Int)) h7)))) (rend Y Y)))
   refine if2 H Y (fun h8 H=>?_) (fun h8 H=>?_)
   ·refine sg [0,1,2,3] Y (rm Y (bindK H fun r'3 h9 H=>rp Y (p_callp Y Y Y Tryz.func112 Y Y (g_eval_number_ac h9) ⟨Y,trivial⟩) (rq Y (u_sw Y Y Y Y Y in_32 (GValue.len r'3) (GValue.len GValue.zero) Y) (ra Y (rz [(6,_),(7,.i (0:Int))] [(6,.pure (GValue.cs r'3))] Y ?_)))))
    refine AW2_ret ?_
    have z:=se H; subst z
    exact ⟨Y,⟨rcw U32 Y in_32 Y (GValue.len r'3),rt,trivial⟩,trivial⟩
   refine as2 [(6,_)] [(6,_)] Y (AW2_skip ?_)
   have z:=se H; subst z
   exact ⟨Y,Y⟩
  refine sg [0,1] Y (rp Y (p_ieq Y Y Y) (ra Y (rz [(6,_),(8,_),(9,_),(31,_),(63,.b (decide (op0=(6:Int))))] [(6,_)] Y (if2 H Y (fun h10 H=>?_) (fun h10 H=>?_)))))
  ·refine sg [0,1,2,3] Y (rm Y (rm Y (rp Y (p_bin Y Y Y Y) (ra Y (rz [(6,_),(8,_),(9,_),(11,.i (w64 (v1.Int_ - w2.Int_)))] [(6,_)] Y (AW2_seq ?_))))))
   refine AW2_mid (⟨[(6,.q 6 (0)),(11,.i (w64 (v1.Int_ - w2.Int_))),(77,.b (decide (((decide (w64 (v1.Int_ - w2.Int_) < v1.Int_))=(decide (w2.Int_ > (0:Int))))∨(w2.Int_=(0:Int)))))],[(6,.pure (GValue.cs GValue.zero))],118⟩:TS) ?_ ?_
   ·refine AW2_reg [0,1,2,3,4,5,6,7,8,9] Y (rm Y (rm Y (rp Y (p_bin Y Y Y Y) (rm Y (rp Y (p_bin Y Y Y Y) (rp Y (p_beqp Y U4 Y Y) ?_))))))
    refine rm Y ?_
    refine (Classical.em ((decide (w64 (v1.Int_ - w2.Int_) < v1.Int_))=(decide (w2.Int_ > (0:Int))))).elim (fun h11=>?_) (fun h11=>?_)
    ·iterate 2 (refine rO Y (dT h11) Y ?_)
     exact rp Y (p_pkt Y Y (dT h11) (tb (dT (p:=((decide (w64 (v1.Int_ - w2.Int_) < v1.Int_))=(decide (w2.Int_ > (0:Int))))∨(w2.Int_=(0:Int))) (Or.inl h11)).symm)) (rend Y Y)
    exact rn Y (dF h11) Y (p_move Y Y) (rn Y (dF h11) Y (p_ieq Y Y Y) (rp Y (p_pkf Y Y (dF h11) (tb ((or_l (p:=(decide (w64 (v1.Int_ - w2.Int_) < v1.Int_))=(decide (w2.Int_ > (0:Int)))) (q:=w2.Int_=(0:Int)) h11)))) (rend Y Y)))
   refine if2 H Y (fun h12 H=>?_) (fun h12 H=>?_)
   ·refine sg [0,1,2,3] Y (rm Y (bindK H fun r'4 h13 H=>rp Y (p_callp Y Y Y Tryz.func112 Y Y (g_eval_number_ac h13) ⟨Y,trivial⟩) (rq Y (u_sw Y Y Y Y Y in_32 (GValue.len r'4) (GValue.len GValue.zero) Y) (ra Y (rz [(6,_),(7,.i (0:Int))] [(6,.pure (GValue.cs r'4))] Y ?_)))))
    refine AW2_ret ?_
    have z:=se H; subst z
    exact ⟨Y,⟨rcw U32 Y in_32 Y (GValue.len r'4),rt,trivial⟩,trivial⟩
   refine as2 [(6,_)] [(6,_)] Y (AW2_skip ?_)
   have z:=se H; subst z
   exact ⟨Y,Y⟩
  refine sg [0,1] Y (rp Y (p_ieq Y Y Y) (ra Y (rz [(6,_),(8,_),(9,_),(80,.b (decide (op0=(7:Int))))] [(6,_)] Y (if2 H Y (fun h14 H=>?_) (fun h14 H=>?_)))))
  ·refine AW2_seq (AW2_seq (AW2_mid (⟨[(6,.q 6 (0)),(8,.i v1.Int_),(9,.i w2.Int_),(87,.b (decide ((v1.Int_=(0:Int))∨(w2.Int_=(0:Int)))))],[(6,.pure (GValue.cs GValue.zero))],118⟩:TS) ?_ ?_))
   ·refine AW2_reg [0,1,2,3,4,5] Y (rm Y (rp Y (p_ieq Y Y Y) (rm Y ?_)))
    refine (Classical.em (v1.Int_=(0:Int))).elim (fun h15=>?_) (fun h15=>?_)
    ·iterate 2 (refine rO Y (dT h15) Y ?_)
     exact rp Y (p_pkt Y Y (dT h15) (tb (dT (p:=(v1.Int_=(0:Int))∨(w2.Int_=(0:Int))) (Or.inl h15)).symm)) (rend Y Y)
    exact rn Y (dF h15) Y (p_move Y Y) (rn Y (dF h15) Y (p_ieq Y Y Y) (rp Y (p_pkf Y Y (dF h15) (tb ((or_l (p:=v1.Int_=(0:Int)) (q:=w2.Int_=(0:Int)) h15)))) (rend Y Y)))
   refine if2 H Y (fun h16 H=>?_) (fun h16 H=>?_)
   ·refine sg [0,1,2] Y (bindK H fun r'5 h17 H=>rp Y (p_callp Y Y Y Tryz.func112 Y Y (g_eval_number_ac h17) ⟨Y,trivial⟩) (rq Y (u_sw Y Y Y Y Y in_32 (GValue.len r'5) (GValue.len GValue.zero) Y) (ra Y (rz [(6,_),(7,.i (0:Int))] [(6,.pure (GValue.cs r'5))] Y (AW2_ret ?_)))))
    have z:=se H; subst z
    exact ⟨Y,⟨rcw U32 Y in_32 Y (GValue.len r'5),rt,trivial⟩,trivial⟩
   refine as2 [(6,_),(8,_),(9,_)] [(6,_)] Y (AW2_skip (sg [0,1,2,3] Y (rm Y (rm Y (rp Y (p_bin Y Y Y Y) (ra Y ?_))))))
   refine rz [(6,_),(8,_),(9,_),(12,.i (w64 (v1.Int_ * w2.Int_)))] [(6,_)] Y (AW2_seq (bindK H fun g'6 h31 H=>AW2_mid (⟨[(6,.q 6 (0)),(12,.i (w64 (v1.Int_ * w2.Int_))),(114,.b g'6)],[(6,.pure (GValue.cs GValue.zero))],118⟩:TS) ?_ ?_))
   ·clear H
    have H:=h31
    clear h31
    refine AW2_reg [0,1,2,3,4,5,6,7,8,9,10,11,12,13,14,15,16,17,18,19,20,21,22] Y (rm Y (rp Y (p_ieq Y Y Y) (rm Y (em2 H (fun h19 H=>?_) (fun h19 H=>?_)))))
    ·refine rn Y (dT h19) Y (p_move Y Y) (rn Y (dT h19) Y (p_ieq Y Y Y) (rp Y (p_pkt Y Y (dT h19) (.same _)) (rp Y (p_notp Y Y) (rm Y (em2 H (fun h20 H=>?_) (fun h20 H=>?_))))))
     ·have qq1:=dF (p:=¬ (w2.Int_=(-9223372036854775808:Int))) (fun h=>h h20)
      iterate 3 (refine rO Y qq1 Y ?_)
      iterate 2 (refine r_off2 rfl rfl rfl rfl rfl rfl ?_)
      iterate 2 (refine rO Y qq1 Y ?_)
      refine rp Y (p_pkf Y Y qq1 (.same _)) (rm Y ?_)
      iterate 5 (refine rO Y (bfalse (by decide)) Y ?_)
      refine rp Y (p_pkf Y Y (bfalse (by decide)) (.same _)) (rs [(6,.q 6 (0)),(12,.i (w64 (v1.Int_ * w2.Int_))),(114,.b false)] [(6,.pure (GValue.cs GValue.zero))] Y ?_)
      have z:=se H; subst z
      exact RunW_nil rfl
     have qq2:=dT (p:=¬ (w2.Int_=(-9223372036854775808:Int))) h20
     refine rn Y qq2 Y (p_move Y Y) (rn Y qq2 Y (p_ieq Y Y Y) (rn Y qq2 Y (p_move Y Y) (em2 H (fun h21 H=>?_) (fun h21 H=>?_))))
     ·refine rn Y (dT h21) Y (p_move Y Y) (rn Y (dT h21) Y (p_ieq Y Y Y) (rn Y qq2 Y (p_pkt Y Y (dT h21) (.same _)) (rn Y qq2 Y (p_notp Y Y) (rp Y (p_pkt Y Y qq2 (.same _)) (rm Y (em2 H (fun h22 H=>?_) (fun h22 H=>?_)))))))
      ·have qq3:=dF (p:=¬ (v1.Int_=(-9223372036854775808:Int))) (fun h=>h h22)
       iterate 5 (refine rO Y qq3 Y ?_)
       refine rp Y (p_pkf Y Y qq3 (.same _)) (rs [(6,.q 6 (0)),(12,.i (w64 (v1.Int_ * w2.Int_))),(114,.b false)] [(6,.pure (GValue.cs GValue.zero))] Y ?_)
       have z:=se H; subst z
       exact RunW_nil rfl
      have qq4:=dT (p:=¬ (v1.Int_=(-9223372036854775808:Int))) h22
      refine rn Y qq4 Y (p_move Y Y) (rn Y qq4 Y (p_move Y Y) (chkK H fun h23 H=>rn Y qq4 Y (p_iquo Y Y Y h23) (rn Y qq4 Y (p_move Y Y) (rn Y qq4 Y (p_ieq Y Y Y) (rp Y (p_pkt Y Y qq4 (.same _)) ?_)))))
      refine rs [(6,.q 6 (0)),(12,.i (w64 (v1.Int_ * w2.Int_))),(114,.b (decide (w64 ((w64 (v1.Int_ * w2.Int_)).tdiv w2.Int_)=v1.Int_)))] [(6,.pure (GValue.cs GValue.zero))] Y ?_
      have z:=se H; subst z
      exact RunW_nil rfl
     iterate 2 (refine rO Y (dF h21) Y ?_)
     refine rn Y qq2 Y (p_pkf Y Y (dF h21) (.same _)) (rn Y qq2 Y (p_not Y Y) (rp Y (p_pkt Y Y qq2 (.same _)) (rm Y (em2 H (fun h24 H=>?_) (fun h24 H=>?_)))))
     ·refine rn Y h24 Y (p_move Y Y) (rn Y h24 Y (p_move Y Y) (chkK H fun h25 H=>rn Y h24 Y (p_iquo Y Y Y h25) (rn Y h24 Y (p_move Y Y) (rn Y h24 Y (p_ieq Y Y Y) (rp Y (p_pkt Y Y h24 (.same _)) ?_)))))
      refine rs [(6,.q 6 (0)),(12,.i (w64 (v1.Int_ * w2.Int_))),(114,.b (decide (w64 ((w64 (v1.Int_ * w2.Int_)).tdiv w2.Int_)=v1.Int_)))] [(6,.pure (GValue.cs GValue.zero))] Y ?_
      have z:=se H; subst z
      exact RunW_nil rfl
     iterate 5 (refine rO Y (bfalse h24) Y ?_)
     refine rp Y (p_pkf Y Y (bfalse h24) (.same _)) (rs [(6,.q 6 (0)),(12,.i (w64 (v1.Int_ * w2.Int_))),(114,.b false)] [(6,.pure (GValue.cs GValue.zero))] Y ?_)
     have z:=se H; subst z
     exact RunW_nil rfl
    iterate 2 (refine rO Y (dF h19) Y ?_)
    refine rp Y (p_pkf Y Y (dF h19) (.same _)) (rp Y (p_not Y Y) (rm Y (em2 H (fun h26 H=>?_) (fun h26 H=>?_))))
    ·refine rn Y h26 Y (p_move Y Y) (rn Y h26 Y (p_ieq Y Y Y) (rn Y h26 Y (p_move Y Y) (em2 H (fun h27 H=>?_) (fun h27 H=>?_))))
     ·refine rn Y (dT h27) Y (p_move Y Y) (rn Y (dT h27) Y (p_ieq Y Y Y) (rn Y h26 Y (p_pkt Y Y (dT h27) (.same _)) (rn Y h26 Y (p_notp Y Y) (rp Y (p_pkt Y Y h26 (.same _)) (rm Y (em2 H (fun h28 H=>?_) (fun h28 H=>?_)))))))
      ·have qq5:=dF (p:=¬ (v1.Int_=(-9223372036854775808:Int))) (fun h=>h h28)
       iterate 5 (refine rO Y qq5 Y ?_)
       refine rp Y (p_pkf Y Y qq5 (.same _)) (rs [(6,.q 6 (0)),(12,.i (w64 (v1.Int_ * w2.Int_))),(114,.b false)] [(6,.pure (GValue.cs GValue.zero))] Y ?_)
       have z:=se H; subst z
       exact RunW_nil rfl
      have qq6:=dT (p:=¬ (v1.Int_=(-9223372036854775808:Int))) h28
      refine rn Y qq6 Y (p_move Y Y) (rn Y qq6 Y (p_move Y Y) (chkK H fun h29 H=>rn Y qq6 Y (p_iquo Y Y Y h29) (rn Y qq6 Y (p_move Y Y) (rn Y qq6 Y (p_ieq Y Y Y) (rp Y (p_pkt Y Y qq6 (.same _)) ?_)))))
      refine rs [(6,.q 6 (0)),(12,.i (w64 (v1.Int_ * w2.Int_))),(114,.b (decide (w64 ((w64 (v1.Int_ * w2.Int_)).tdiv w2.Int_)=v1.Int_)))] [(6,.pure (GValue.cs GValue.zero))] Y ?_
      have z:=se H; subst z
      exact RunW_nil rfl
     iterate 2 (refine rO Y (dF h27) Y ?_)
     refine rn Y h26 Y (p_pkf Y Y (dF h27) (.same _)) (rn Y h26 Y (p_not Y Y) (rp Y (p_pkt Y Y h26 (.same _)) (rm Y (rn Y h26 Y (p_move Y Y) (rn Y h26 Y (p_move Y Y) (chkK H fun h30 H=>?_))))))
     refine rn Y h26 Y (p_iquo Y Y Y h30) (rn Y h26 Y (p_move Y Y) (rn Y h26 Y (p_ieq Y Y Y) (rp Y (p_pkt Y Y h26 (.same _)) (rs [(6,.q 6 (0)),(12,.i (w64 (v1.Int_ * w2.Int_))),(114,.b (decide (w64 ((w64 (v1.Int_ * w2.Int_)).tdiv w2.Int_)=v1.Int_)))] [(6,.pure (GValue.cs GValue.zero))] Y ?_))))
     have z:=se H; subst z
     exact RunW_nil rfl
    iterate 3 (refine rO Y (bfalse h26) Y ?_)
    iterate 2 (refine r_off2 rfl rfl rfl rfl rfl rfl ?_)
    iterate 2 (refine rO Y (bfalse h26) Y ?_)
    refine rp Y (p_pkf Y Y (bfalse h26) (.same _)) (rm Y ?_)
    iterate 5 (refine rO Y (bfalse (by decide)) Y ?_)
    refine rp Y (p_pkf Y Y (bfalse (by decide)) (.same _)) (rs [(6,.q 6 (0)),(12,.i (w64 (v1.Int_ * w2.Int_))),(114,.b false)] [(6,.pure (GValue.cs GValue.zero))] Y ?_)
    have z:=se H; subst z
    exact RunW_nil rfl
   refine AW2_cond Y (fun h32=>?_) (fun h32=>?_)
   ·replace H:=ite_then h32 H
    refine sg [0,1,2,3] Y (rm Y (bindK H fun r'7 h33 H=>rp Y (p_callp Y Y Y Tryz.func112 Y Y (g_eval_number_ac h33) ⟨Y,trivial⟩) (rq Y (u_sw Y Y Y Y Y in_32 (GValue.len r'7) (GValue.len GValue.zero) Y) (ra Y (rz [(6,.q 6 (0)),(7,.i (0:Int))] [(6,.pure (GValue.cs r'7))] Y ?_)))))
    refine AW2_ret ?_
    have z:=se H; subst z
    exact ⟨Y,⟨rcw U32 Y in_32 Y (GValue.len r'7),rt,trivial⟩,trivial⟩
   replace H:=ite_else (ne_true h32) H
   refine as2 [(6,.q 6 (0))] [(6,.pure (GValue.cs GValue.zero))] Y (AW2_skip ?_)
   have z:=se H; subst z
   exact ⟨Y,Y⟩
  refine AW2_seq (sg [0,1] Y (rm Y (rp Y (p_ieq Y Y Y) (rz [(6,_),(8,_),(9,_),(33,.b (decide (w2.Int_=(0:Int))))] [(6,_)] Y (if2 H Y (fun h35 H=>?_) (fun h35 H=>?_))))))
  ·refine sg [0,1,2] Y (rp Y (u_bld Y in_32 one_32 zc_32 pl_32 Y Y) (rq Y (u_sw Y Y Y Y Y in_32 (GValue.len GValue.zero) (GValue.len GValue.zero) Y) (ra Y (rz [(6,_),(7,.i (7:Int))] [(6,.pure (GValue.cs GValue.zero))] Y (AW2_ret ?_)))))
   have z:=se H; subst z
   exact ⟨Y,⟨rcw U32 Y in_32 Y (GValue.len GValue.zero),rt,trivial⟩,trivial⟩
  refine as2 [(6,_),(8,_),(9,_)] [(6,_)] Y (AW2_skip (AW2_seq (AW2_mid (⟨[(6,.q 6 (0)),(8,.i v1.Int_),(9,.i w2.Int_),(41,.b (decide (¬ ((v1.Int_=(-9223372036854775808:Int))∧(w2.Int_=(-1:Int))))))],[(6,.pure (GValue.cs GValue.zero))],118⟩:TS) ?_ ?_)))
  ·refine AW2_reg [0,1,2,3,4,5,6] Y (rm Y (rp Y (p_ieq Y Y Y) (rm Y ?_)))
   refine (Classical.em (v1.Int_=(-9223372036854775808:Int))).elim (fun h36=>?_) (fun h36=>?_)
   ·exact rn Y (dT h36) Y (p_move Y Y) (rn Y (dT h36) Y (p_ieq Y Y Y) (rp Y (p_pkt Y Y (dT h36) (tb ((and_l (p:=v1.Int_=(-9223372036854775808:Int)) (q:=w2.Int_=(-1:Int)) h36)))) (rp Y (p_notp Y Y) (rend Y Y))))
   iterate 2 (refine rO Y (dF h36) Y ?_)
   exact rp Y (p_pkf Y Y (dF h36) (tb (dF (p:=(v1.Int_=(-9223372036854775808:Int))∧(w2.Int_=(-1:Int))) (fun x=>h36 x.1)).symm)) (rp Y (p_notp Y Y) (rend Y Y))
  refine if2 H Y (fun h37 H=>?_) (fun h37 H=>?_)
  ·refine sg [0,1,2,3,4,5] Y (rm Y (rm Y (chkK H fun h38 H=>rp Y (p_iquo Y Y Y h38) (bindK H fun r'8 h39 H=>rp Y (p_callp Y Y Y Tryz.func112 Y Y (g_eval_number_ac h39) ⟨Y,trivial⟩) ?_))))
   refine rq Y (u_sw Y Y Y Y Y in_32 (GValue.len r'8) (GValue.len GValue.zero) Y) (ra Y (rz [(6,_),(7,.i (0:Int))] [(6,.pure (GValue.cs r'8))] Y (AW2_ret ?_)))
   have z:=se H; subst z
   exact ⟨Y,⟨rcw U32 Y in_32 Y (GValue.len r'8),rt,trivial⟩,trivial⟩
  refine as2 [(6,_)] [(6,_)] Y (AW2_skip ?_)
  have z:=se H; subst z
  exact ⟨Y,Y⟩
 ·subst hy
  refine sg [0,1,2] Y (rp Y (u_bld Y in_32 one_32 zc_32 pl_32 Y Y) (rq Y (u_sw Y Y Y Y Y in_32 (GValue.len GValue.zero) (GValue.len GValue.zero) Y) (ra Y (rz [(6,.q 6 (0)),(7,.i (6:Int))] [(6,.pure (GValue.cs GValue.zero))] Y (AW2_ret ?_)))))
  have z:=se H; subst z
  exact ⟨⟨rcw U32 Y in_32 Y (GValue.len GValue.zero),rt,trivial⟩,trivial⟩
 subst hy
 obtain ⟨rfl,hs⟩:=hs
 have z:=se H; subst z
 exact ⟨hs.1,hs.2⟩
noncomputable def g_value_both (a0:GValue) (b1:GValue):Option (Int) :=
  (g_value_Check a0).bind fun r'1=>(if r'1≠(0:Int) then some r'1 else (g_value_Check b1).bind fun r'2=>some r'2)
set_option maxHeartbeats 4000000 in
set_option maxRecDepth 100000 in
theorem g_value_both_ac {a0:GValue} {b1:GValue} {r:Int} (H:g_value_both a0 b1=some r):ACp Tryz.prog 130 [(.agg (GValue.cs a0)),(.agg (GValue.cs b1))] (AV.int r):=by
 refine ACp_of (AC2_of_body (vs:=[.i r]) Tryz.func130 Y Y (lb Y) Y ?_) (fun _=>.same _)
 unfold g_value_both at H
 refine as2 [(0,.g (GValue.cs a0)),(1,.g (GValue.cs b1))] [] Y (sg [0,1,2] Y (rq Y (MakeD.opD (n_box 2 Y Y) Y Y Y Y) (rq Y (MakeD.opD (n_box 3 Y Y) Y Y Y Y) (ra Y (rz [(2,.q 2 (0)),(3,.q 3 (0))] [(2,.pure (GValue.cs a0)),(3,.pure (GValue.cs b1))] Y (AW2_seq ?_))))))
 refine sg [0,1,2] Y (rp Y (u_lda Y Y U32 Y in_32 Y np (Sub.refl _) (GValue.len a0)) (bindK H fun r'1 h1 H=>rp Y (p_callp Y Y Y Tryz.func63 Y Y (g_value_Check_ac h1) ⟨Y,trivial⟩) (ra Y (rz [(3,_),(5,.i r'1)] [(3,_)] Y (sg [0,1] Y ?_)))))
 refine rm Y (rp Y (p_ine Y Y Y) (rz [(3,_),(5,_),(9,.b (decide (r'1≠(0:Int))))] [(3,_)] Y (if2 H Y (fun h2 H=>?_) (fun h2 H=>?_))))
 ·refine sg [0,1] Y (rm Y (ra Y (rz [(4,.i r'1)] [] Y (AW2_ret ?_))))
  have z:=se H; subst z
  exact ⟨⟨rt,trivial⟩,trivial⟩
 refine as2 [(3,_)] [(3,_)] Y (AW2_skip (sg [0,1,2] Y (rp Y (u_lda Y Y U32 Y in_32 Y np (Sub.refl _) (GValue.len b1)) (bindK H fun r'2 h3 H=>rp Y (p_callp Y Y Y Tryz.func63 Y Y (g_value_Check_ac h3) ⟨Y,trivial⟩) (ra Y ?_)))))
 refine rz [(4,.i r'2)] [] Y (AW2_ret ?_)
 have z:=se H; subst z
 exact ⟨⟨rt,trivial⟩,trivial⟩
def g_value_order_r4:List (List (Nat×Option Nat)):=[[(2,none)],[(25,some 0)],[(3,none)],[(27,some 2)],[(26,some 1),(28,some 3)],[(2,none)],[(30,some 5)],[(3,none)],[(32,some 7)],[(31,some 6),(33,some 8)],[(29,some 4)]]
def g_value_order_r4c:List (List Nat):=[[],[0],[],[2],[0,1,2,3],[],[5],[],[7],[5,6,7,8],[0,1,2,3,4],[0,1,2,3,4,5,6,7,8,9,10]]
def g_value_order_r6:List (List (Nat×Option Nat)):=[[(2,none)],[(39,some 0)],[(40,some 1)],[(3,none)],[(42,some 3)]]
def g_value_order_r6c:List (List Nat):=[[],[0],[0,1],[],[3],[0,1,2,3,4],[0,1,2,3,4,5],[0,1,2,3,4,5,6]]
def g_value_order_r9:List (List (Nat×Option Nat)):=[[(2,none)],[(55,some 0)],[(3,none)],[(57,some 2)],[(56,some 1),(58,some 3)],[(2,none)],[(60,some 5)],[(3,none)],[(62,some 7)],[(61,some 6),(63,some 8)],[(59,some 4)]]
def g_value_order_r9c:List (List Nat):=[[],[0],[],[2],[0,1,2,3],[],[5],[],[7],[5,6,7,8],[0,1,2,3,4],[0,1,2,3,4,5,6,7,8,9,10]]
def g_value_order_r2:List (List (Nat×Option Nat)):=[[(2,none)],[(9,some 0)],[(3,none)],[(11,some 2)],[(10,some 1),(12,some 3)],[(2,none)],[(14,some 5)],[(3,none)],[(16,some 7)],[(15,some 6),(17,some 8)],[(13,some 4)]]
def g_value_order_r2c:List (List Nat):=[[],[0],[],[2],[0,1,2,3],[],[5],[],[7],[5,6,7,8],[0,1,2,3,4],[0,1,2,3,4,5,6,7,8,9,10]]
noncomputable def g_value_order (a0:GValue) (b1:GValue):Option (Int) :=
  ((if a0.Kind≠b1.Kind then some ((decide (a0.Kind < b1.Kind)),(decide (a0.Kind > b1.Kind))) else (if a0.Kind=(3:Int) then some (flt a0.Bits b1.Bits,fgt a0.Bits b1.Bits) else (if a0.Kind=(4:Int) then some (Op.bytesLess a0.Text b1.Text,!(Op.bytesLess a0.Text b1.Text || a0.Text == b1.Text)) else some ((decide (a0.Int_ < b1.Int_)),(decide (a0.Int_ > b1.Int_))))))).bind fun j'1=>(if j'1.1=true then some (-1:Int) else (if j'1.2=true then some (1:Int) else some (0:Int)))
set_option maxHeartbeats 4000000 in
set_option maxRecDepth 100000 in
theorem g_value_order_ac {a0:GValue} {b1:GValue} {r:Int} (H:g_value_order a0 b1=some r):ACp Tryz.prog 131 [(.agg (GValue.cs a0)),(.agg (GValue.cs b1))] (AV.int r):=by
 refine ACp_of (AC2_of_body (vs:=[.i r]) Tryz.func131 Y Y (lb Y) Y ?_) (fun _=>.same _)
 unfold g_value_order at H
 refine as2 [(0,.g (GValue.cs a0)),(1,.g (GValue.cs b1))] [] Y (sg [0,1,2] Y (rq Y (MakeD.opD (n_box 2 Y Y) Y Y Y Y) (rq Y (MakeD.opD (n_box 3 Y Y) Y Y Y Y) (ra Y (rz [(2,.q 2 (0)),(3,.q 3 (0))] [(2,.pure (GValue.cs a0)),(3,.pure (GValue.cs b1))] Y (sg [0,1] Y ?_))))))
 refine ra Y (ra Y (rz [(2,_),(3,_)] [(2,_),(3,_)] Y (AW2_seq (bindK H fun j'1 h1 H=>AW2_mid (⟨[(5,.b j'1.1),(6,.b j'1.2)],[],67⟩:TS) ?_ ?_))))
 ·clear H
  have H:=h1
  clear h1
  refine AW2_block (sg [0,1,2,3,4,5] Y (rf Y U32 Y in_3 Y Y (GValue.len a0) (rp Y (u_ld Y Y U3 Y Y (GValue.sub0 a0)) (rf Y U32 Y in_3 Y Y (GValue.len b1) (rp Y (u_ld Y Y U3 Y Y (GValue.sub0 b1)) (rp Y (p_ine Y Y Y) ?_))))))
  refine ra Y (rz [(2,.q 2 (0)),(3,.q 3 (0)),(19,.b (decide (a0.Kind≠b1.Kind)))] [(2,.pure (GValue.cs a0)),(3,.pure (GValue.cs b1))] Y (if2 H Y (fun h2 H=>?_) (fun h2 H=>?_)))
  ·refine AW2_ghoQ (AW2_draw 11 [11] (fun k=>([.q 2 (0+0),.i a0.Kind,.q 3 (0+0),.i b1.Kind,.b (decide (a0.Kind < b1.Kind)),.q 2 (0+0),.i a0.Kind,.q 3 (0+0),.i b1.Kind,.b (decide (a0.Kind > b1.Kind)),.b (decide (a0.Kind < b1.Kind))]:List TV).getD k TV.any) (fun k=>g_value_order_r4.getD k []) [(5,some 10),(34,some 9)] [] (fun k=>g_value_order_r4c.getD k []) mixed (by kernel_rfl) Y Y (a_op (g_x Y (x_p Y (u_fa Y Y U32 Y in_3 nz Y Y (nl (GValue.len a0))) Y)) (a_op (g_x Y (x_p Y (u_ld Y Y U3 Y Y (GValue.sub0 a0)) Y)) (a_op (g_x Y (x_p Y (u_fa Y Y U32 Y in_3 nz Y Y (nl (GValue.len b1))) Y)) (a_op (g_x Y (x_p Y (u_ld Y Y U3 Y Y (GValue.sub0 b1)) Y)) (a_op (g_x Y (x_p Y (p_bin Y Y Y Y) Y)) (a_op (g_x Y (x_p Y (u_fa Y Y U32 Y in_3 nz Y Y (nl (GValue.len a0))) Y)) (a_op (g_x Y (x_p Y (u_ld Y Y U3 Y Y (GValue.sub0 a0)) Y)) (a_op (g_x Y (x_p Y (u_fa Y Y U32 Y in_3 nz Y Y (nl (GValue.len b1))) Y)) (a_op (g_x Y (x_p Y (u_ld Y Y U3 Y Y (GValue.sub0 b1)) Y)) (a_op (g_x Y (x_p Y (p_bin Y Y Y Y) Y)) (a_op (g_x Y (x_p Y (p_asg Y Y) Y)) (a_nil)))))))))))) (t_op Y Y (PureD.opD (p_asg Y Y)) (t_gho (Gho_st (L:=[(5,.b (decide (a0.Kind < b1.Kind))),(6,.b (decide (a0.Kind > b1.Kind)))]) (H:=[]) (N:=67) Y ⟨TLes.same _,TLes.same _,trivial⟩ trivial) ?_)))
   have z:=se H; subst z
   exact rfl
  refine sg [0,1,2,3] Y (rf Y U32 Y in_3 Y Y (GValue.len a0) (rp Y (u_ld Y Y U3 Y Y (GValue.sub0 a0)) (rp Y (p_ieq Y Y Y) (ra Y (rz [(2,_),(3,_),(35,.b (decide (a0.Kind=(3:Int))))] [(2,_),(3,_)] Y (if2 H Y (fun h3 H=>?_) (fun h3 H=>?_)))))))
  ·refine AW2_seq (AW2_ghoQ (AW2_draw 5 [5,6,7] (fun k=>([.q 2 (0+2),.p (AV.u64 a0.Bits),.p (AV.f64 a0.Bits),.q 3 (0+2),.p (AV.u64 b1.Bits)]:List TV).getD k TV.any) (fun k=>g_value_order_r6.getD k []) [(41,some 2),(43,some 4)] [] (fun k=>g_value_order_r6c.getD k []) mixed (by kernel_rfl) Y Y (a_op (g_x Y (x_p Y (u_fa Y Y U32 Y in_30 nz Y Y (nl (GValue.len a0))) Y)) (a_op (g_x Y (x_p Y (u_ld Y Y U30 Y Y (GValue.sub2 a0)) Y)) (a_op (g_x Y (x_p Y (p_frombits (a:=a0.Bits) Y Y Y Tryz.func85 Y Y (by kernel_rfl) (by kernel_rfl) Y) Y)) (a_op (g_x Y (x_p Y (u_fa Y Y U32 Y in_30 nz Y Y (nl (GValue.len b1))) Y)) (a_op (g_x Y (x_p Y (u_ld Y Y U30 Y Y (GValue.sub2 b1)) Y)) (a_nil)))))) (t_op Y Y (PureD.opD (p_frombits (a:=b1.Bits) Y Y Y Tryz.func85 Y Y (by kernel_rfl) (by kernel_rfl) Y)) (t_op Y Y (PureD.opD (p_asg Y Y)) (t_op Y Y (PureD.opD (p_asg Y Y)) (t_gho (Gho_st (L:=[(7,.p (AV.f64 a0.Bits)),(8,.p (AV.f64 b1.Bits))]) (H:=[]) (N:=67) Y ⟨TLes.same _,TLes.same _,trivial⟩ trivial) ?_))))))
   refine AW2_reg [0,1,2,3,4,5,6,7] Y (rm Y (rm Y (rp Y (p_fbin (a:=a0.Bits) (b:=b1.Bits) (v:=flt a0.Bits b1.Bits) Y Y Y Y) (rm Y (rm Y (rp Y (p_fbin (a:=a0.Bits) (b:=b1.Bits) (v:=fgt a0.Bits b1.Bits) Y Y Y Y) ?_))))))
   refine ra Y (ra Y (rz [(5,.b (flt a0.Bits b1.Bits)),(6,.b (fgt a0.Bits b1.Bits))] [] Y ?_))
   have z:=se H; subst z
   exact rfl
  refine sg [0,1,2,3] Y (rf Y U32 Y in_3 Y Y (GValue.len a0) (rp Y (u_ld Y Y U3 Y Y (GValue.sub0 a0)) (rp Y (p_ieq Y Y Y) (ra Y (rz [(2,_),(3,_),(51,.b (decide (a0.Kind=(4:Int))))] [(2,_),(3,_)] Y (if2 H Y (fun h4 H=>?_) (fun h4 H=>?_)))))))
  ·refine AW2_ghoQ (AW2_draw 11 [11] (fun k=>([.q 2 (0+3),.t a0.Text,.q 3 (0+3),.t b1.Text,.b (Op.bytesLess a0.Text b1.Text),.q 2 (0+3),.t a0.Text,.q 3 (0+3),.t b1.Text,.b (!(Op.bytesLess a0.Text b1.Text || a0.Text == b1.Text)),.b (Op.bytesLess a0.Text b1.Text)]:List TV).getD k TV.any) (fun k=>g_value_order_r9.getD k []) [(5,some 10),(64,some 9)] [] (fun k=>g_value_order_r9c.getD k []) mixed (by kernel_rfl) Y Y (a_op (g_x Y (x_p Y (u_fa Y Y U32 Y in_9 nz Y Y (nl (GValue.len a0))) Y)) (a_op (g_x Y (x_p Y (u_ld Y Y U9 Y Y (GValue.sub3 a0)) Y)) (a_op (g_x Y (x_p Y (u_fa Y Y U32 Y in_9 nz Y Y (nl (GValue.len b1))) Y)) (a_op (g_x Y (x_p Y (u_ld Y Y U9 Y Y (GValue.sub3 b1)) Y)) (a_op (g_x Y (x_p Y (p_slt Y Y Y) Y)) (a_op (g_x Y (x_p Y (u_fa Y Y U32 Y in_9 nz Y Y (nl (GValue.len a0))) Y)) (a_op (g_x Y (x_p Y (u_ld Y Y U9 Y Y (GValue.sub3 a0)) Y)) (a_op (g_x Y (x_p Y (u_fa Y Y U32 Y in_9 nz Y Y (nl (GValue.len b1))) Y)) (a_op (g_x Y (x_p Y (u_ld Y Y U9 Y Y (GValue.sub3 b1)) Y)) (a_op (g_x Y (x_p Y (p_sgt Y Y Y) Y)) (a_op (g_x Y (x_p Y (p_asg Y Y) Y)) (a_nil)))))))))))) (t_op Y Y (PureD.opD (p_asg Y Y)) (t_gho (Gho_st (L:=[(5,.b (Op.bytesLess a0.Text b1.Text)),(6,.b (!(Op.bytesLess a0.Text b1.Text || a0.Text == b1.Text)))]) (H:=[]) (N:=67) Y ⟨TLes.same _,TLes.same _,trivial⟩ trivial) ?_)))
   have z:=se H; subst z
   exact rfl
  refine AW2_ghoQ (AW2_draw 11 [11] (fun k=>([.q 2 (0+1),.i a0.Int_,.q 3 (0+1),.i b1.Int_,.b (decide (a0.Int_ < b1.Int_)),.q 2 (0+1),.i a0.Int_,.q 3 (0+1),.i b1.Int_,.b (decide (a0.Int_ > b1.Int_)),.b (decide (a0.Int_ < b1.Int_))]:List TV).getD k TV.any) (fun k=>g_value_order_r2.getD k []) [(5,some 10),(18,some 9)] [] (fun k=>g_value_order_r2c.getD k []) mixed (by kernel_rfl) Y Y (a_op (g_x Y (x_p Y (u_fa Y Y U32 Y in_3 nz Y Y (nl (GValue.len a0))) Y)) (a_op (g_x Y (x_p Y (u_ld Y Y U3 Y Y (GValue.sub1 a0)) Y)) (a_op (g_x Y (x_p Y (u_fa Y Y U32 Y in_3 nz Y Y (nl (GValue.len b1))) Y)) (a_op (g_x Y (x_p Y (u_ld Y Y U3 Y Y (GValue.sub1 b1)) Y)) (a_op (g_x Y (x_p Y (p_bin Y Y Y Y) Y)) (a_op (g_x Y (x_p Y (u_fa Y Y U32 Y in_3 nz Y Y (nl (GValue.len a0))) Y)) (a_op (g_x Y (x_p Y (u_ld Y Y U3 Y Y (GValue.sub1 a0)) Y)) (a_op (g_x Y (x_p Y (u_fa Y Y U32 Y in_3 nz Y Y (nl (GValue.len b1))) Y)) (a_op (g_x Y (x_p Y (u_ld Y Y U3 Y Y (GValue.sub1 b1)) Y)) (a_op (g_x Y (x_p Y (p_bin Y Y Y Y) Y)) (a_op (g_x Y (x_p Y (p_asg Y Y) Y)) (a_nil)))))))))))) (t_op Y Y (PureD.opD (p_asg Y Y)) (t_gho (Gho_st (L:=[(5,.b (decide (a0.Int_ < b1.Int_))),(6,.b (decide (a0.Int_ > b1.Int_)))]) (H:=[]) (N:=67) Y ⟨TLes.same _,TLes.same _,trivial⟩ trivial) ?_)))
  have z:=se H; subst z
  exact rfl
 refine AW2_seq (sg [0] Y (rm Y (rz [(6,_),(65,.b j'1.1)] [] Y (AW2_cond Y (fun h5=>?_) (fun h5=>?_)))))
 ·replace H:=ite_then h5 H
  refine sg [0] Y (ra Y (rz [(4,.i (-1:Int))] [] Y (AW2_ret ?_)))
  have z:=se H; subst z
  exact ⟨⟨rt,trivial⟩,trivial⟩
 replace H:=ite_else (ne_true h5) H
 refine as2 [(6,.b j'1.2)] [] Y (AW2_skip (AW2_seq (sg [0] Y (rm Y (rz [(66,.b j'1.2)] [] Y (AW2_cond Y (fun h6=>?_) (fun h6=>?_)))))))
 ·replace H:=ite_then h6 H
  refine sg [0] Y (ra Y (rz [(4,.i (1:Int))] [] Y (AW2_ret ?_)))
  have z:=se H; subst z
  exact ⟨⟨rt,trivial⟩,trivial⟩
 replace H:=ite_else (ne_true h6) H
 refine as2 [] [] Y (AW2_skip (sg [0] Y (ra Y (rz [(4,.i (0:Int))] [] Y (AW2_ret ?_)))))
 have z:=se H; subst z
 exact ⟨⟨rt,trivial⟩,trivial⟩
noncomputable def g_value_Less_1 (c0:Int):Option (Bool) :=
  some (decide (c0 < (0:Int)))
set_option maxHeartbeats 4000000 in
set_option maxRecDepth 100000 in
theorem g_value_Less_1_ac {c0:Int} {r:Bool} (H:g_value_Less_1 c0=some r):ACp Tryz.prog 128 [(AV.int c0)] (AV.bool r):=by
 refine ACp_of (AC2_of_body (vs:=[.b r]) Tryz.func128 Y Y (lb Y) Y ?_) (fun _=>.same _)
 unfold g_value_Less_1 at H
 refine as2 [(0,.i c0)] [] Y (sg [0] Y (ra Y (rz [(0,_)] [] Y (sg [0,1,2] Y (rm Y (rp Y (p_bin Y Y Y Y) ?_))))))
 refine ra Y (rz [(2,.b (decide (c0 < (0:Int))))] [] Y (AW2_ret ?_))
 have z:=se H; subst z
 exact ⟨⟨rt,trivial⟩,trivial⟩
noncomputable def g_value_asked_i0 (a0:GValue) (b1:GValue):Option (Int×Int) :=
  (g_value_both a0 b1).bind fun r'1=>(if r'1≠(0:Int) then some ((0:Int),r'1) else (if (a0.Kind=(0:Int))∨(b1.Kind=(0:Int)) then some ((1:Int),(0:Int)) else (if a0.Kind≠b1.Kind then some ((0:Int),(2:Int)) else (g_value_order a0 b1).bind fun r'2=>(g_value_Less_1 r'2).bind fun r'3=>(if r'3=true then some ((2:Int),(0:Int)) else some ((0:Int),(0:Int))))))
set_option maxHeartbeats 4000000 in
set_option maxRecDepth 100000 in
theorem g_value_asked_i0_ac {a0:GValue} {b1:GValue} {r:Int×Int} (H:g_value_asked_i0 a0 b1=some r):ACp Tryz.prog 127 [(.agg (GValue.cs a0)),(.agg (GValue.cs b1)),.clo 128 []] (.tup [(AV.int r.1),(AV.int r.2)]):=by
 refine ACp_of (AC2_of_body (vs:=[.i r.1,.i r.2]) Tryz.func127 Y Y (lb Y) Y ?_) (fun _=>.same _)
 unfold g_value_asked_i0 at H
 refine AW2_st [(0,.g (GValue.cs a0)),(1,.g (GValue.cs b1)),(2,.clo 128 [])] [] Y ⟨TLes.same _,TLes.same _,(fun _=>.same _),trivial⟩ trivial (sg [0,1,2,3] Y (rq Y (MakeD.opD (n_box 3 Y Y) Y Y Y Y) (rq Y (MakeD.opD (n_box 4 Y Y) Y Y Y Y) (ra Y (ra Y (RunW_st [(2,.clo 128 []),(3,.q 3 (0)),(4,.q 4 (0))] [(3,.pure (GValue.cs a0)),(4,.pure (GValue.cs b1))] Y ⟨(fun _=>.same _),TLes.same _,TLes.same _,trivial⟩ ⟨Y,Y,trivial⟩ ?_))))))
 refine RunW_nil (AW2_seq (sg [0,1,2,3] Y (rp Y (u_lda Y Y U32 Y in_32 Y np (Sub.refl _) (GValue.len a0)) (rp Y (u_lda Y Y U32 Y in_32 Y np (Sub.refl _) (GValue.len b1)) (bindK H fun r'1 h1 H=>rp Y (p_callp Y Y Y Tryz.func130 Y Y (g_value_both_ac h1) ⟨Y,Y,trivial⟩) ?_)))))
 refine ra Y (RunW_st [(2,.clo 128 []),(3,.q 3 (0)),(4,.q 4 (0)),(8,.i r'1)] [(3,.pure (GValue.cs a0)),(4,.pure (GValue.cs b1))] Y ⟨(fun _=>.same _),TLes.same _,TLes.same _,TLes.same _,trivial⟩ ⟨Y,Y,trivial⟩ (RunW_nil (sg [0,1] Y (rm Y (rp Y (p_ine Y Y Y) (RunW_st [(2,.clo 128 []),(3,.q 3 (0)),(4,.q 4 (0)),(8,.i r'1),(13,.b (decide (r'1≠(0:Int))))] [(3,.pure (GValue.cs a0)),(4,.pure (GValue.cs b1))] Y ⟨(fun _=>.same _),TLes.same _,TLes.same _,TLes.same _,TLes.same _,trivial⟩ ⟨Y,Y,trivial⟩ ?_))))))
 refine RunW_nil (if2 H Y (fun h2 H=>?_) (fun h2 H=>?_))
 ·refine sg [0,1,2] Y (rm Y (ra Y (ra Y (rz [(6,.i (0:Int)),(7,.i r'1)] [] Y (AW2_ret ?_)))))
  have z:=se H; subst z
  exact ⟨⟨rt,rt,trivial⟩,trivial⟩
 refine AW2_st [(2,.clo 128 []),(3,.q 3 (0)),(4,.q 4 (0))] [(3,.pure (GValue.cs a0)),(4,.pure (GValue.cs b1))] Y ⟨(fun _=>.same _),TLes.same _,TLes.same _,trivial⟩ ⟨Y,Y,trivial⟩ (AW2_skip (AW2_seq (AW2_seq (AW2_mid (⟨[(2,.clo 128 []),(3,.q 3 (0)),(4,.q 4 (0)),(22,.b (decide ((a0.Kind=(0:Int))∨(b1.Kind=(0:Int)))))],[(3,.pure (GValue.cs a0)),(4,.pure (GValue.cs b1))],33⟩:TS) ?_ ?_))))
 ·refine AW2_reg [0,1,2,3,4,5,6,7] Y (rf Y U32 Y in_3 Y Y (GValue.len a0) (rp Y (u_ld Y Y U3 Y Y (GValue.sub0 a0)) (rp Y (p_ieq Y Y Y) (rm Y ?_))))
  refine (Classical.em (a0.Kind=(0:Int))).elim (fun h3=>?_) (fun h3=>?_)
  ·refine rO Y (dT h3) Y (rO Y (dT h3) Y (rO Y (dT h3) Y (rp Y (p_pkt Y Y (dT h3) (tb (dT (p:=(a0.Kind=(0:Int))∨(b1.Kind=(0:Int))) (Or.inl h3)).symm)) (RunW_st [(2,.clo 128 []),(3,.q 3 (0)),(4,.q 4 (0)),(22,.b (decide ((a0.Kind=(0:Int))∨(b1.Kind=(0:Int)))))] [(3,.pure (GValue.cs a0)),(4,.pure (GValue.cs b1))] Y ⟨(fun _=>.same _),TLes.same _,TLes.same _,TLes.same _,trivial⟩ ⟨Y,Y,trivial⟩ ?_))))
   exact RunW_nil rfl
  refine rn Y (dF h3) Y (u_fa Y Y U32 Y in_3 nz Y Y (nl (GValue.len b1))) (rn Y (dF h3) Y (u_ld Y Y U3 Y Y (GValue.sub0 b1)) (rn Y (dF h3) Y (p_ieq Y Y Y) (rp Y (p_pkf Y Y (dF h3) (tb ((or_l (p:=a0.Kind=(0:Int)) (q:=b1.Kind=(0:Int)) h3)))) (RunW_st [(2,.clo 128 []),(3,.q 3 (0)),(4,.q 4 (0)),(22,.b (decide ((a0.Kind=(0:Int))∨(b1.Kind=(0:Int)))))] [(3,.pure (GValue.cs a0)),(4,.pure (GValue.cs b1))] Y ⟨(fun _=>.same _),TLes.same _,TLes.same _,TLes.same _,trivial⟩ ⟨Y,Y,trivial⟩ ?_))))
  exact RunW_nil rfl
 refine if2 H Y (fun h4 H=>?_) (fun h4 H=>?_)
 ·refine sg [0,1] Y (ra Y (ra Y (rz [(6,.i (1:Int)),(7,.i (0:Int))] [] Y (AW2_ret ?_))))
  have z:=se H; subst z
  exact ⟨⟨rt,rt,trivial⟩,trivial⟩
 refine AW2_st [(2,.clo 128 []),(3,.q 3 (0)),(4,.q 4 (0))] [(3,.pure (GValue.cs a0)),(4,.pure (GValue.cs b1))] Y ⟨(fun _=>.same _),TLes.same _,TLes.same _,trivial⟩ ⟨Y,Y,trivial⟩ (AW2_skip (AW2_seq (sg [0,1,2,3,4] Y (rf Y U32 Y in_3 Y Y (GValue.len a0) (rp Y (u_ld Y Y U3 Y Y (GValue.sub0 a0)) (rf Y U32 Y in_3 Y Y (GValue.len b1) ?_))))))
 refine rp Y (u_ld Y Y U3 Y Y (GValue.sub0 b1)) (rp Y (p_ine Y Y Y) (RunW_st [(2,.clo 128 []),(3,.q 3 (0)),(4,.q 4 (0)),(27,.b (decide (a0.Kind≠b1.Kind)))] [(3,.pure (GValue.cs a0)),(4,.pure (GValue.cs b1))] Y ⟨(fun _=>.same _),TLes.same _,TLes.same _,TLes.same _,trivial⟩ ⟨Y,Y,trivial⟩ (RunW_nil (if2 H Y (fun h5 H=>?_) (fun h5 H=>?_)))))
 ·refine sg [0,1] Y (ra Y (ra Y (rz [(6,.i (0:Int)),(7,.i (2:Int))] [] Y (AW2_ret ?_))))
  have z:=se H; subst z
  exact ⟨⟨rt,rt,trivial⟩,trivial⟩
 refine AW2_st [(2,.clo 128 []),(3,.q 3 (0)),(4,.q 4 (0))] [(3,.pure (GValue.cs a0)),(4,.pure (GValue.cs b1))] Y ⟨(fun _=>.same _),TLes.same _,TLes.same _,trivial⟩ ⟨Y,Y,trivial⟩ (AW2_skip (AW2_seq (sg [0,1,2,3,4] Y (rm Y (rp Y (u_lda Y Y U32 Y in_32 Y np (Sub.refl _) (GValue.len a0)) (rp Y (u_lda Y Y U32 Y in_32 Y np (Sub.refl _) (GValue.len b1)) ?_))))))
 refine bindK H fun r'2 h6 H=>rp Y (p_callp Y Y Y Tryz.func131 Y Y (g_value_order_ac h6) ⟨Y,Y,trivial⟩) (bindK H fun r'3 h7 H=>rp Y (p_callp Y Y Y Tryz.func128 Y Y (g_value_Less_1_ac h7) ⟨Y,trivial⟩) (rz [(32,.b r'3)] [] Y (AW2_cond Y (fun h8=>?_) (fun h8=>?_))))
 ·replace H:=ite_then h8 H
  refine sg [0,1] Y (ra Y (ra Y (rz [(6,.i (2:Int)),(7,.i (0:Int))] [] Y (AW2_ret ?_))))
  have z:=se H; subst z
  exact ⟨⟨rt,rt,trivial⟩,trivial⟩
 replace H:=ite_else (ne_true h8) H
 refine as2 [] [] Y (AW2_skip (sg [0,1] Y (ra Y (ra Y (rz [(6,.i (0:Int)),(7,.i (0:Int))] [] Y (AW2_ret ?_))))))
 have z:=se H; subst z
 exact ⟨⟨rt,rt,trivial⟩,trivial⟩
noncomputable def g_value_Less (a0:GValue) (b1:GValue):Option (Int×Int) :=
  (g_value_asked_i0 a0 b1).bind fun r'1=>some (r'1.1,r'1.2)
set_option maxHeartbeats 4000000 in
set_option maxRecDepth 100000 in
theorem g_value_Less_ac {a0:GValue} {b1:GValue} {r:Int×Int} (H:g_value_Less a0 b1=some r):ACp Tryz.prog 123 [(.agg (GValue.cs a0)),(.agg (GValue.cs b1))] (.tup [(AV.int r.1),(AV.int r.2)]):=by
 refine ACp_of (AC2_of_body (vs:=[.i r.1,.i r.2]) Tryz.func123 Y Y (lb Y) Y ?_) (fun _=>.same _)
 unfold g_value_Less at H
 refine as2 [(0,.g (GValue.cs a0)),(1,.g (GValue.cs b1))] [] Y (sg [0,1,2,3] Y (rq Y (MakeD.opD (n_box 2 Y Y) Y Y Y Y) (rq Y (MakeD.opD (n_box 3 Y Y) Y Y Y Y) (ra Y (ra Y (rz [(2,.q 2 (0)),(3,.q 3 (0))] [(2,.pure (GValue.cs a0)),(3,.pure (GValue.cs b1))] Y ?_))))))
 refine sg [0,1,2,3,4,5,6] Y (rp Y (u_lda Y Y U32 Y in_32 Y np (Sub.refl _) (GValue.len a0)) (rp Y (u_lda Y Y U32 Y in_32 Y np (Sub.refl _) (GValue.len b1)) (bindK H fun r'1 h1 H=>rp Y (p_calll Y Y Y Tryz.func127 Y Y (g_value_asked_i0_ac h1) (nlT Y (nlT Y Y)) ⟨lend_p Y,lend_p Y,lend_clo Y Y trivial,trivial⟩) (rp Y (p_ext Y Y Y Y) (rp Y (p_ext Y Y Y Y) ?_)))))
 refine ra Y (ra Y (rz [(4,.i r'1.1),(5,.i r'1.2)] [] Y (AW2_ret ?_)))
 have z:=se H; subst z
 exact ⟨⟨rt,rt,trivial⟩,trivial⟩
noncomputable def g_value_Equal_1 (c0:Int):Option (Bool) :=
  some (decide (c0=(0:Int)))
set_option maxHeartbeats 4000000 in
set_option maxRecDepth 100000 in
theorem g_value_Equal_1_ac {c0:Int} {r:Bool} (H:g_value_Equal_1 c0=some r):ACp Tryz.prog 129 [(AV.int c0)] (AV.bool r):=by
 refine ACp_of (AC2_of_body (vs:=[.b r]) Tryz.func129 Y Y (lb Y) Y ?_) (fun _=>.same _)
 unfold g_value_Equal_1 at H
 refine as2 [(0,.i c0)] [] Y (sg [0] Y (ra Y (rz [(0,_)] [] Y (sg [0,1,2] Y (rm Y (rp Y (p_ieq Y Y Y) ?_))))))
 refine ra Y (rz [(2,.b (decide (c0=(0:Int))))] [] Y (AW2_ret ?_))
 have z:=se H; subst z
 exact ⟨⟨rt,trivial⟩,trivial⟩
noncomputable def g_value_asked_i1 (a0:GValue) (b1:GValue):Option (Int×Int) :=
  (g_value_both a0 b1).bind fun r'1=>(if r'1≠(0:Int) then some ((0:Int),r'1) else (if (a0.Kind=(0:Int))∨(b1.Kind=(0:Int)) then some ((1:Int),(0:Int)) else (if a0.Kind≠b1.Kind then some ((0:Int),(2:Int)) else (g_value_order a0 b1).bind fun r'2=>(g_value_Equal_1 r'2).bind fun r'3=>(if r'3=true then some ((2:Int),(0:Int)) else some ((0:Int),(0:Int))))))
set_option maxHeartbeats 4000000 in
set_option maxRecDepth 100000 in
theorem g_value_asked_i1_ac {a0:GValue} {b1:GValue} {r:Int×Int} (H:g_value_asked_i1 a0 b1=some r):ACp Tryz.prog 127 [(.agg (GValue.cs a0)),(.agg (GValue.cs b1)),.clo 129 []] (.tup [(AV.int r.1),(AV.int r.2)]):=by
 refine ACp_of (AC2_of_body (vs:=[.i r.1,.i r.2]) Tryz.func127 Y Y (lb Y) Y ?_) (fun _=>.same _)
 unfold g_value_asked_i1 at H
 refine AW2_st [(0,.g (GValue.cs a0)),(1,.g (GValue.cs b1)),(2,.clo 129 [])] [] Y ⟨TLes.same _,TLes.same _,(fun _=>.same _),trivial⟩ trivial (sg [0,1,2,3] Y (rq Y (MakeD.opD (n_box 3 Y Y) Y Y Y Y) (rq Y (MakeD.opD (n_box 4 Y Y) Y Y Y Y) (ra Y (ra Y (RunW_st [(2,.clo 129 []),(3,.q 3 (0)),(4,.q 4 (0))] [(3,.pure (GValue.cs a0)),(4,.pure (GValue.cs b1))] Y ⟨(fun _=>.same _),TLes.same _,TLes.same _,trivial⟩ ⟨Y,Y,trivial⟩ ?_))))))
 refine RunW_nil (AW2_seq (sg [0,1,2,3] Y (rp Y (u_lda Y Y U32 Y in_32 Y np (Sub.refl _) (GValue.len a0)) (rp Y (u_lda Y Y U32 Y in_32 Y np (Sub.refl _) (GValue.len b1)) (bindK H fun r'1 h1 H=>rp Y (p_callp Y Y Y Tryz.func130 Y Y (g_value_both_ac h1) ⟨Y,Y,trivial⟩) ?_)))))
 refine ra Y (RunW_st [(2,.clo 129 []),(3,.q 3 (0)),(4,.q 4 (0)),(8,.i r'1)] [(3,.pure (GValue.cs a0)),(4,.pure (GValue.cs b1))] Y ⟨(fun _=>.same _),TLes.same _,TLes.same _,TLes.same _,trivial⟩ ⟨Y,Y,trivial⟩ (RunW_nil (sg [0,1] Y (rm Y (rp Y (p_ine Y Y Y) (RunW_st [(2,.clo 129 []),(3,.q 3 (0)),(4,.q 4 (0)),(8,.i r'1),(13,.b (decide (r'1≠(0:Int))))] [(3,.pure (GValue.cs a0)),(4,.pure (GValue.cs b1))] Y ⟨(fun _=>.same _),TLes.same _,TLes.same _,TLes.same _,TLes.same _,trivial⟩ ⟨Y,Y,trivial⟩ ?_))))))
 refine RunW_nil (if2 H Y (fun h2 H=>?_) (fun h2 H=>?_))
 ·refine sg [0,1,2] Y (rm Y (ra Y (ra Y (rz [(6,.i (0:Int)),(7,.i r'1)] [] Y (AW2_ret ?_)))))
  have z:=se H; subst z
  exact ⟨⟨rt,rt,trivial⟩,trivial⟩
 refine AW2_st [(2,.clo 129 []),(3,.q 3 (0)),(4,.q 4 (0))] [(3,.pure (GValue.cs a0)),(4,.pure (GValue.cs b1))] Y ⟨(fun _=>.same _),TLes.same _,TLes.same _,trivial⟩ ⟨Y,Y,trivial⟩ (AW2_skip (AW2_seq (AW2_seq (AW2_mid (⟨[(2,.clo 129 []),(3,.q 3 (0)),(4,.q 4 (0)),(22,.b (decide ((a0.Kind=(0:Int))∨(b1.Kind=(0:Int)))))],[(3,.pure (GValue.cs a0)),(4,.pure (GValue.cs b1))],33⟩:TS) ?_ ?_))))
 ·refine AW2_reg [0,1,2,3,4,5,6,7] Y (rf Y U32 Y in_3 Y Y (GValue.len a0) (rp Y (u_ld Y Y U3 Y Y (GValue.sub0 a0)) (rp Y (p_ieq Y Y Y) (rm Y ?_))))
  refine (Classical.em (a0.Kind=(0:Int))).elim (fun h3=>?_) (fun h3=>?_)
  ·refine rO Y (dT h3) Y (rO Y (dT h3) Y (rO Y (dT h3) Y (rp Y (p_pkt Y Y (dT h3) (tb (dT (p:=(a0.Kind=(0:Int))∨(b1.Kind=(0:Int))) (Or.inl h3)).symm)) (RunW_st [(2,.clo 129 []),(3,.q 3 (0)),(4,.q 4 (0)),(22,.b (decide ((a0.Kind=(0:Int))∨(b1.Kind=(0:Int)))))] [(3,.pure (GValue.cs a0)),(4,.pure (GValue.cs b1))] Y ⟨(fun _=>.same _),TLes.same _,TLes.same _,TLes.same _,trivial⟩ ⟨Y,Y,trivial⟩ ?_))))
   exact RunW_nil rfl
  refine rn Y (dF h3) Y (u_fa Y Y U32 Y in_3 nz Y Y (nl (GValue.len b1))) (rn Y (dF h3) Y (u_ld Y Y U3 Y Y (GValue.sub0 b1)) (rn Y (dF h3) Y (p_ieq Y Y Y) (rp Y (p_pkf Y Y (dF h3) (tb ((or_l (p:=a0.Kind=(0:Int)) (q:=b1.Kind=(0:Int)) h3)))) (RunW_st [(2,.clo 129 []),(3,.q 3 (0)),(4,.q 4 (0)),(22,.b (decide ((a0.Kind=(0:Int))∨(b1.Kind=(0:Int)))))] [(3,.pure (GValue.cs a0)),(4,.pure (GValue.cs b1))] Y ⟨(fun _=>.same _),TLes.same _,TLes.same _,TLes.same _,trivial⟩ ⟨Y,Y,trivial⟩ ?_))))
  exact RunW_nil rfl
 refine if2 H Y (fun h4 H=>?_) (fun h4 H=>?_)
 ·refine sg [0,1] Y (ra Y (ra Y (rz [(6,.i (1:Int)),(7,.i (0:Int))] [] Y (AW2_ret ?_))))
  have z:=se H; subst z
  exact ⟨⟨rt,rt,trivial⟩,trivial⟩
 refine AW2_st [(2,.clo 129 []),(3,.q 3 (0)),(4,.q 4 (0))] [(3,.pure (GValue.cs a0)),(4,.pure (GValue.cs b1))] Y ⟨(fun _=>.same _),TLes.same _,TLes.same _,trivial⟩ ⟨Y,Y,trivial⟩ (AW2_skip (AW2_seq (sg [0,1,2,3,4] Y (rf Y U32 Y in_3 Y Y (GValue.len a0) (rp Y (u_ld Y Y U3 Y Y (GValue.sub0 a0)) (rf Y U32 Y in_3 Y Y (GValue.len b1) ?_))))))
 refine rp Y (u_ld Y Y U3 Y Y (GValue.sub0 b1)) (rp Y (p_ine Y Y Y) (RunW_st [(2,.clo 129 []),(3,.q 3 (0)),(4,.q 4 (0)),(27,.b (decide (a0.Kind≠b1.Kind)))] [(3,.pure (GValue.cs a0)),(4,.pure (GValue.cs b1))] Y ⟨(fun _=>.same _),TLes.same _,TLes.same _,TLes.same _,trivial⟩ ⟨Y,Y,trivial⟩ (RunW_nil (if2 H Y (fun h5 H=>?_) (fun h5 H=>?_)))))
 ·refine sg [0,1] Y (ra Y (ra Y (rz [(6,.i (0:Int)),(7,.i (2:Int))] [] Y (AW2_ret ?_))))
  have z:=se H; subst z
  exact ⟨⟨rt,rt,trivial⟩,trivial⟩
 refine AW2_st [(2,.clo 129 []),(3,.q 3 (0)),(4,.q 4 (0))] [(3,.pure (GValue.cs a0)),(4,.pure (GValue.cs b1))] Y ⟨(fun _=>.same _),TLes.same _,TLes.same _,trivial⟩ ⟨Y,Y,trivial⟩ (AW2_skip (AW2_seq (sg [0,1,2,3,4] Y (rm Y (rp Y (u_lda Y Y U32 Y in_32 Y np (Sub.refl _) (GValue.len a0)) (rp Y (u_lda Y Y U32 Y in_32 Y np (Sub.refl _) (GValue.len b1)) ?_))))))
 refine bindK H fun r'2 h6 H=>rp Y (p_callp Y Y Y Tryz.func131 Y Y (g_value_order_ac h6) ⟨Y,Y,trivial⟩) (bindK H fun r'3 h7 H=>rp Y (p_callp Y Y Y Tryz.func129 Y Y (g_value_Equal_1_ac h7) ⟨Y,trivial⟩) (rz [(32,.b r'3)] [] Y (AW2_cond Y (fun h8=>?_) (fun h8=>?_))))
 ·replace H:=ite_then h8 H
  refine sg [0,1] Y (ra Y (ra Y (rz [(6,.i (2:Int)),(7,.i (0:Int))] [] Y (AW2_ret ?_))))
  have z:=se H; subst z
  exact ⟨⟨rt,rt,trivial⟩,trivial⟩
 replace H:=ite_else (ne_true h8) H
 refine as2 [] [] Y (AW2_skip (sg [0,1] Y (ra Y (ra Y (rz [(6,.i (0:Int)),(7,.i (0:Int))] [] Y (AW2_ret ?_))))))
 have z:=se H; subst z
 exact ⟨⟨rt,rt,trivial⟩,trivial⟩
noncomputable def g_value_Equal (a0:GValue) (b1:GValue):Option (Int×Int) :=
  (g_value_asked_i1 a0 b1).bind fun r'1=>some (r'1.1,r'1.2)
set_option maxHeartbeats 4000000 in
set_option maxRecDepth 100000 in
theorem g_value_Equal_ac {a0:GValue} {b1:GValue} {r:Int×Int} (H:g_value_Equal a0 b1=some r):ACp Tryz.prog 124 [(.agg (GValue.cs a0)),(.agg (GValue.cs b1))] (.tup [(AV.int r.1),(AV.int r.2)]):=by
 refine ACp_of (AC2_of_body (vs:=[.i r.1,.i r.2]) Tryz.func124 Y Y (lb Y) Y ?_) (fun _=>.same _)
 unfold g_value_Equal at H
 refine as2 [(0,.g (GValue.cs a0)),(1,.g (GValue.cs b1))] [] Y (sg [0,1,2,3] Y (rq Y (MakeD.opD (n_box 2 Y Y) Y Y Y Y) (rq Y (MakeD.opD (n_box 3 Y Y) Y Y Y Y) (ra Y (ra Y (rz [(2,.q 2 (0)),(3,.q 3 (0))] [(2,.pure (GValue.cs a0)),(3,.pure (GValue.cs b1))] Y ?_))))))
 refine sg [0,1,2,3,4,5,6] Y (rp Y (u_lda Y Y U32 Y in_32 Y np (Sub.refl _) (GValue.len a0)) (rp Y (u_lda Y Y U32 Y in_32 Y np (Sub.refl _) (GValue.len b1)) (bindK H fun r'1 h1 H=>rp Y (p_calll Y Y Y Tryz.func127 Y Y (g_value_asked_i1_ac h1) (nlT Y (nlT Y Y)) ⟨lend_p Y,lend_p Y,lend_clo Y Y trivial,trivial⟩) (rp Y (p_ext Y Y Y Y) (rp Y (p_ext Y Y Y Y) ?_)))))
 refine ra Y (ra Y (rz [(4,.i r'1.1),(5,.i r'1.2)] [] Y (AW2_ret ?_)))
 have z:=se H; subst z
 exact ⟨⟨rt,rt,trivial⟩,trivial⟩
noncomputable def g_value_Not (a0:Int):Option (Int×Int) :=
  (g_value_truth ([a0]:List Int)).bind fun r'1=>(if r'1≠(0:Int) then some ((0:Int),r'1) else some (w64 ((2:Int) - a0),(0:Int)))
set_option maxHeartbeats 4000000 in
set_option maxRecDepth 100000 in
theorem g_value_Not_ac {a0:Int} {r:Int×Int} (H:g_value_Not a0=some r):ACp Tryz.prog 125 [(AV.int a0)] (.tup [(AV.int r.1),(AV.int r.2)]):=by
 refine ACp_of (AC2_of_body (vs:=[.i r.1,.i r.2]) Tryz.func125 Y Y (lb Y) Y ?_) (fun _=>.same _)
 unfold g_value_Not at H
 refine as2 [(0,.i a0)] [] Y (sg [0,1] Y (ra Y (ra Y (rz [(0,_)] [] Y (AW2_seq (sg [0,1,2,3] Y ?_))))))
 refine rm Y (rq Y (MakeD.opD (u_bs 6 Y U76 in_3 Y one_3 (by decide) (by decide) Y Y Y) Y Y Y Y) (bindK H fun r'1 h1 H=>rp Y (p_calll Y Y Y Tryz.func126 Y Y (g_value_truth_ac h1) Y ⟨lend_o Y Y Y (ml AV.int ([a0]:List Int)) (by decide),trivial⟩) (ra Y (rz [(0,_),(4,.i r'1)] [] Y (sg [0,1] Y ?_)))))
 refine rm Y (rp Y (p_ine Y Y Y) (rz [(0,_),(4,_),(9,.b (decide (r'1≠(0:Int))))] [] Y (if2 H Y (fun h2 H=>?_) (fun h2 H=>?_))))
 ·refine sg [0,1,2] Y (rm Y (ra Y (ra Y (rz [(2,.i (0:Int)),(3,.i r'1)] [] Y (AW2_ret ?_)))))
  have z:=se H; subst z
  exact ⟨⟨rt,rt,trivial⟩,trivial⟩
 refine as2 [(0,_)] [] Y (AW2_skip (sg [0,1,2,3] Y (rm Y (rp Y (p_bin Y Y Y Y) (ra Y (ra Y ?_))))))
 refine rz [(2,.i (w64 ((2:Int) - a0))),(3,.i (0:Int))] [] Y (AW2_ret ?_)
 have z:=se H; subst z
 exact ⟨⟨rt,rt,trivial⟩,trivial⟩
noncomputable def g_eval_compare (op0:Int) (v1:GValue) (w2:GValue):Option (GValue×Int) :=
  (g_value_Less v1 w2).bind fun r'1=>((if op0=(9:Int) then some (decide (op0=(9:Int))) else some (decide (op0=(10:Int))))).bind fun j'2=>(if j'2=true then (g_value_Equal v1 w2).bind fun r'3=>(if r'3.2≠(0:Int) then some (GValue.zero,r'3.2) else ((if ((op0=(10:Int))∨(op0=(12:Int)))∨(op0=(14:Int)) then (g_value_Not r'3.1).bind fun r'5=>some r'5.1 else some r'3.1)).bind fun j'4=>(g_eval_truth j'4).bind fun r'6=>some (r'6,(0:Int))) else ((if op0=(13:Int) then some (decide (op0=(13:Int))) else some (decide (op0=(12:Int))))).bind fun j'7=>(if j'7=true then (g_value_Less w2 v1).bind fun r'8=>(if r'8.2≠(0:Int) then some (GValue.zero,r'8.2) else ((if ((op0=(10:Int))∨(op0=(12:Int)))∨(op0=(14:Int)) then (g_value_Not r'8.1).bind fun r'10=>some r'10.1 else some r'8.1)).bind fun j'9=>(g_eval_truth j'9).bind fun r'11=>some (r'11,(0:Int))) else (if r'1.2≠(0:Int) then some (GValue.zero,r'1.2) else ((if ((op0=(10:Int))∨(op0=(12:Int)))∨(op0=(14:Int)) then (g_value_Not r'1.1).bind fun r'13=>some r'13.1 else some r'1.1)).bind fun j'12=>(g_eval_truth j'12).bind fun r'14=>some (r'14,(0:Int)))))
set_option maxHeartbeats 4000000 in
set_option maxRecDepth 100000 in
theorem g_eval_compare_ac {op0:Int} {v1:GValue} {w2:GValue} {r:GValue×Int} (H:g_eval_compare op0 v1 w2=some r):ACp Tryz.prog 118 [(AV.int op0),(.agg (GValue.cs v1)),(.agg (GValue.cs w2))] (.tup [(.agg (GValue.cs r.1)),(AV.int r.2)]):=by
 refine ACp_of (AC2_of_body (vs:=[.g (GValue.cs r.1),.i r.2]) Tryz.func118 Y Y (lb Y) Y ?_) (fun _=>.same _)
 unfold g_eval_compare at H
 refine as2 [(0,.i op0),(1,.g (GValue.cs v1)),(2,.g (GValue.cs w2))] [] Y (sg [0,1,2,3] Y (rq Y (MakeD.opD (n_box 4 Y Y) Y Y Y Y) (rq Y (MakeD.opD (n_box 5 Y Y) Y Y Y Y) (rq Y (MakeD.opD (u_alloc 6 Y in_32 one_32 zc_32) Y Y Y Y) (ra Y (rz [(0,_),(4,.q 4 (0)),(5,.q 5 (0)),(6,.q 6 (0))] [(4,.pure (GValue.cs v1)),(5,.pure (GValue.cs w2)),(6,.pure (GValue.cs GValue.zero))] Y ?_))))))
 refine sg [0,1,2,3,4,5,6,7] Y (rp Y (u_lda Y Y U32 Y in_32 Y np (Sub.refl _) (GValue.len v1)) (rp Y (u_lda Y Y U32 Y in_32 Y np (Sub.refl _) (GValue.len w2)) (bindK H fun r'1 h1 H=>rp Y (p_callp Y Y Y Tryz.func123 Y Y (g_value_Less_ac h1) ⟨Y,Y,trivial⟩) (rm Y (rp Y (p_ext Y Y Y Y) ?_)))))
 refine rp Y (p_ext Y Y Y Y) (ra Y (ra Y (rz [(0,_),(4,_),(5,_),(6,_),(8,.i r'1.1),(9,.i r'1.2)] [(4,_),(5,_),(6,_)] Y (AW2_seq (sg [0] Y (rm Y ?_))))))
 refine rz [(0,_),(4,_),(5,_),(6,_),(8,_),(9,_),(16,.i op0)] [(4,_),(5,_),(6,_)] Y (AW2_block (AW2_seq (bindK H fun j'2 h2 H=>AW2_mid (⟨[(0,.i op0),(4,.q 4 (0)),(5,.q 5 (0)),(6,.q 6 (0)),(8,.i r'1.1),(9,.i r'1.2),(16,.i op0),(17,.b j'2)],[(4,.pure (GValue.cs v1)),(5,.pure (GValue.cs w2)),(6,.pure (GValue.cs GValue.zero))],56⟩:TS) ?_ ?_)))
 ·clear H
  have H:=h2
  clear h2
  refine sg [0,1] Y (rp Y (p_ieq Y Y Y) (ra Y (rz [(0,.i op0),(4,.q 4 (0)),(5,.q 5 (0)),(6,.q 6 (0)),(8,.i r'1.1),(9,.i r'1.2),(16,.i op0),(17,.b (decide (op0=(9:Int))))] [(4,.pure (GValue.cs v1)),(5,.pure (GValue.cs w2)),(6,.pure (GValue.cs GValue.zero))] Y (if2 H Y (fun h3 H=>?_) (fun h3 H=>?_)))))
  ·refine AW2_skip ?_
   have z:=se H; subst z
   exact rfl
  refine AW2_reg [0,1] Y (rp Y (p_ieq Y Y Y) (ra Y (rz [(0,_),(4,_),(5,_),(6,_),(8,_),(9,_),(16,_),(17,.b (decide (op0=(10:Int))))] [(4,_),(5,_),(6,_)] Y ?_)))
  have z:=se H; subst z
  exact rfl
 refine AW2_cond Y (fun h4=>?_) (fun h4=>?_)
 ·replace H:=ite_then h4 H
  refine AW2_reg [0,1,2,3,4,5,6,7] Y (rp Y (u_lda Y Y U32 Y in_32 Y np (Sub.refl _) (GValue.len v1)) (rp Y (u_lda Y Y U32 Y in_32 Y np (Sub.refl _) (GValue.len w2)) (bindK H fun r'3 h5 H=>rp Y (p_callp Y Y Y Tryz.func124 Y Y (g_value_Equal_ac h5) ⟨Y,Y,trivial⟩) (rm Y (rp Y (p_ext Y Y Y Y) ?_)))))
  refine rp Y (p_ext Y Y Y Y) (ra Y (ra Y (rz [(0,.i op0),(6,.q 6 (0)),(8,.i r'3.1),(9,.i r'3.2)] [(6,.pure (GValue.cs GValue.zero))] Y (AW2_seq (sg [0,1] Y (rm Y ?_))))))
  refine rp Y (p_ine Y Y Y) (rz [(0,_),(6,_),(8,_),(9,_),(36,.b (decide (r'3.2≠(0:Int))))] [(6,_)] Y (if2 H Y (fun h6 H=>?_) (fun h6 H=>?_)))
  ·refine sg [0,1,2,3] Y (rp Y (u_bld Y in_32 one_32 zc_32 pl_32 Y Y) (rm Y (rq Y (u_sw Y Y Y Y Y in_32 (GValue.len GValue.zero) (GValue.len GValue.zero) Y) (ra Y (rz [(6,_),(7,.i r'3.2)] [(6,.pure (GValue.cs GValue.zero))] Y (AW2_ret ?_))))))
   have z:=se H; subst z
   exact ⟨⟨rcw U32 Y in_32 Y (GValue.len GValue.zero),rt,trivial⟩,trivial⟩
  refine as2 [(0,_),(6,_),(8,_)] [(6,_)] Y (AW2_skip (AW2_seq (bindK H fun j'4 h7 H=>AW2_mid (⟨[(6,.q 6 (0)),(8,.i j'4)],[(6,.pure (GValue.cs GValue.zero))],56⟩:TS) ?_ ?_)))
  ·clear H
   have H:=h7
   clear h7
   refine AW2_seq (AW2_mid (⟨[(6,.q 6 (0)),(8,.i r'3.1),(48,.b (decide (((op0=(10:Int))∨(op0=(12:Int)))∨(op0=(14:Int)))))],[(6,.pure (GValue.cs GValue.zero))],56⟩:TS) ?_ ?_)
   ·refine AW2_reg [0,1,2,3,4,5,6,7,8,9] Y (rm Y (rp Y (p_ieq Y Y Y) (rm Y ?_)))
    refine (Classical.em (op0=(10:Int))).elim (fun h8=>?_) (fun h8=>?_)
    ·refine rO Y (dT h8) Y (rO Y (dT h8) Y (rp Y (p_pkt Y Y (dT h8) (tb (dT (p:=(op0=(10:Int))∨(op0=(12:Int))) (Or.inl h8)).symm)) (rm Y (rO Y (dT (p:=(op0=(10:Int))∨(op0=(12:Int))) (Or.inl h8)) Y (rO Y (dT (p:=(op0=(10:Int))∨(op0=(12:Int))) (Or.inl h8)) Y (rp Y (p_pkt Y Y (dT (p:=(op0=(10:Int))∨(op0=(12:Int))) (Or.inl h8)) (tb (dT (p:=((op0=(10:Int))∨(op0=(12:Int)))∨(op0=(14:Int))) (Or.inl (Or.inl h8))).symm)) ?_))))))
     exact rend Y Y
    refine rn Y (dF h8) Y (p_move Y Y) (rn Y (dF h8) Y (p_ieq Y Y Y) (rp Y (p_pkf Y Y (dF h8) (tb ((or_l (p:=op0=(10:Int)) (q:=op0=(12:Int)) h8)))) (rm Y ?_)))
    refine (Classical.em (op0=(12:Int))).elim (fun h9=>?_) (fun h9=>?_)
    ·exact rO Y (dT (p:=(op0=(10:Int))∨(op0=(12:Int))) (Or.inr h9)) Y (rO Y (dT (p:=(op0=(10:Int))∨(op0=(12:Int))) (Or.inr h9)) Y (rp Y (p_pkt Y Y (dT (p:=(op0=(10:Int))∨(op0=(12:Int))) (Or.inr h9)) (tb (dT (p:=((op0=(10:Int))∨(op0=(12:Int)))∨(op0=(14:Int))) (Or.inl (Or.inr h9))).symm)) (rend Y Y)))
    exact rn Y (dF (p:=(op0=(10:Int))∨(op0=(12:Int))) (not_or.2 ⟨h8,h9⟩)) Y (p_move Y Y) (rn Y (dF (p:=(op0=(10:Int))∨(op0=(12:Int))) (not_or.2 ⟨h8,h9⟩)) Y (p_ieq Y Y Y) (rp Y (p_pkf Y Y (dF (p:=(op0=(10:Int))∨(op0=(12:Int))) (not_or.2 ⟨h8,h9⟩)) (tb ((or_l (p:=(op0=(10:Int))∨(op0=(12:Int))) (q:=op0=(14:Int)) (not_or.2 ⟨h8,h9⟩))))) (rend Y Y)))
   refine if2 H Y (fun h10 H=>?_) (fun h10 H=>?_)
   ·refine AW2_reg [0,1,2,3,4,5] Y (rm Y (bindK H fun r'5 h11 H=>rp Y (p_callp Y Y Y Tryz.func125 Y Y (g_value_Not_ac h11) ⟨Y,trivial⟩) (rm Y (rp Y (p_ext Y Y Y Y) (rp Y (p_ext Y Y Y Y) ?_)))))
    refine ra Y (rz [(6,_),(8,.i r'5.1)] [(6,_)] Y ?_)
    have z:=se H; subst z
    exact rfl
   refine as2 [(6,_),(8,_)] [(6,_)] Y (AW2_skip ?_)
   have z:=se H; subst z
   exact rfl
  refine sg [0,1,2,3] Y (rm Y (bindK H fun r'6 h12 H=>rp Y (p_callp Y Y Y Tryz.func111 Y Y (g_eval_truth_ac h12) ⟨Y,trivial⟩) (rq Y (u_sw Y Y Y Y Y in_32 (GValue.len r'6) (GValue.len GValue.zero) Y) (ra Y (rz [(6,_),(7,.i (0:Int))] [(6,.pure (GValue.cs r'6))] Y ?_)))))
  refine AW2_ret ?_
  have z:=se H; subst z
  exact ⟨⟨rcw U32 Y in_32 Y (GValue.len r'6),rt,trivial⟩,trivial⟩
 replace H:=ite_else (ne_true h4) H
 refine AW2_seq (bindK H fun j'7 h13 H=>AW2_mid (⟨[(0,.i op0),(4,.q 4 (0)),(5,.q 5 (0)),(6,.q 6 (0)),(8,.i r'1.1),(9,.i r'1.2),(26,.b j'7)],[(4,.pure (GValue.cs v1)),(5,.pure (GValue.cs w2)),(6,.pure (GValue.cs GValue.zero))],56⟩:TS) ?_ ?_)
 ·clear H
  have H:=h13
  clear h13
  refine sg [0,1] Y (rp Y (p_ieq Y Y Y) (ra Y (rz [(0,.i op0),(4,.q 4 (0)),(5,.q 5 (0)),(6,.q 6 (0)),(8,.i r'1.1),(9,.i r'1.2),(16,.i op0),(26,.b (decide (op0=(13:Int))))] [(4,.pure (GValue.cs v1)),(5,.pure (GValue.cs w2)),(6,.pure (GValue.cs GValue.zero))] Y (if2 H Y (fun h14 H=>?_) (fun h14 H=>?_)))))
  ·refine as2 [(0,_),(4,_),(5,_),(6,_),(8,_),(9,_),(26,_)] [(4,_),(5,_),(6,_)] Y (AW2_skip ?_)
   have z:=se H; subst z
   exact rfl
  refine AW2_reg [0,1] Y (rp Y (p_ieq Y Y Y) (ra Y (rz [(0,_),(4,_),(5,_),(6,_),(8,_),(9,_),(26,.b (decide (op0=(12:Int))))] [(4,_),(5,_),(6,_)] Y ?_)))
  have z:=se H; subst z
  exact rfl
 refine AW2_cond Y (fun h15=>?_) (fun h15=>?_)
 ·replace H:=ite_then h15 H
  refine AW2_reg [0,1,2,3,4,5,6,7] Y (rp Y (u_lda Y Y U32 Y in_32 Y np (Sub.refl _) (GValue.len w2)) (rp Y (u_lda Y Y U32 Y in_32 Y np (Sub.refl _) (GValue.len v1)) (bindK H fun r'8 h16 H=>rp Y (p_callp Y Y Y Tryz.func123 Y Y (g_value_Less_ac h16) ⟨Y,Y,trivial⟩) (rm Y (rp Y (p_ext Y Y Y Y) ?_)))))
  refine rp Y (p_ext Y Y Y Y) (ra Y (ra Y (rz [(0,.i op0),(6,.q 6 (0)),(8,.i r'8.1),(9,.i r'8.2)] [(6,.pure (GValue.cs GValue.zero))] Y (AW2_seq (sg [0,1] Y (rm Y ?_))))))
  refine rp Y (p_ine Y Y Y) (rz [(0,_),(6,_),(8,_),(9,_),(36,.b (decide (r'8.2≠(0:Int))))] [(6,_)] Y (if2 H Y (fun h17 H=>?_) (fun h17 H=>?_)))
  ·refine sg [0,1,2,3] Y (rp Y (u_bld Y in_32 one_32 zc_32 pl_32 Y Y) (rm Y (rq Y (u_sw Y Y Y Y Y in_32 (GValue.len GValue.zero) (GValue.len GValue.zero) Y) (ra Y (rz [(6,_),(7,.i r'8.2)] [(6,.pure (GValue.cs GValue.zero))] Y (AW2_ret ?_))))))
   have z:=se H; subst z
   exact ⟨⟨rcw U32 Y in_32 Y (GValue.len GValue.zero),rt,trivial⟩,trivial⟩
  refine as2 [(0,_),(6,_),(8,_)] [(6,_)] Y (AW2_skip (AW2_seq (bindK H fun j'9 h18 H=>AW2_mid (⟨[(6,.q 6 (0)),(8,.i j'9)],[(6,.pure (GValue.cs GValue.zero))],56⟩:TS) ?_ ?_)))
  ·clear H
   have H:=h18
   clear h18
   refine AW2_seq (AW2_mid (⟨[(6,.q 6 (0)),(8,.i r'8.1),(48,.b (decide (((op0=(10:Int))∨(op0=(12:Int)))∨(op0=(14:Int)))))],[(6,.pure (GValue.cs GValue.zero))],56⟩:TS) ?_ ?_)
   ·refine AW2_reg [0,1,2,3,4,5,6,7,8,9] Y (rm Y (rp Y (p_ieq Y Y Y) (rm Y ?_)))
    refine (Classical.em (op0=(10:Int))).elim (fun h19=>?_) (fun h19=>?_)
    ·refine rO Y (dT h19) Y (rO Y (dT h19) Y (rp Y (p_pkt Y Y (dT h19) (tb (dT (p:=(op0=(10:Int))∨(op0=(12:Int))) (Or.inl h19)).symm)) (rm Y (rO Y (dT (p:=(op0=(10:Int))∨(op0=(12:Int))) (Or.inl h19)) Y (rO Y (dT (p:=(op0=(10:Int))∨(op0=(12:Int))) (Or.inl h19)) Y (rp Y (p_pkt Y Y (dT (p:=(op0=(10:Int))∨(op0=(12:Int))) (Or.inl h19)) (tb (dT (p:=((op0=(10:Int))∨(op0=(12:Int)))∨(op0=(14:Int))) (Or.inl (Or.inl h19))).symm)) ?_))))))
     exact rend Y Y
    refine rn Y (dF h19) Y (p_move Y Y) (rn Y (dF h19) Y (p_ieq Y Y Y) (rp Y (p_pkf Y Y (dF h19) (tb ((or_l (p:=op0=(10:Int)) (q:=op0=(12:Int)) h19)))) (rm Y ?_)))
    refine (Classical.em (op0=(12:Int))).elim (fun h20=>?_) (fun h20=>?_)
    ·exact rO Y (dT (p:=(op0=(10:Int))∨(op0=(12:Int))) (Or.inr h20)) Y (rO Y (dT (p:=(op0=(10:Int))∨(op0=(12:Int))) (Or.inr h20)) Y (rp Y (p_pkt Y Y (dT (p:=(op0=(10:Int))∨(op0=(12:Int))) (Or.inr h20)) (tb (dT (p:=((op0=(10:Int))∨(op0=(12:Int)))∨(op0=(14:Int))) (Or.inl (Or.inr h20))).symm)) (rend Y Y)))
    exact rn Y (dF (p:=(op0=(10:Int))∨(op0=(12:Int))) (not_or.2 ⟨h19,h20⟩)) Y (p_move Y Y) (rn Y (dF (p:=(op0=(10:Int))∨(op0=(12:Int))) (not_or.2 ⟨h19,h20⟩)) Y (p_ieq Y Y Y) (rp Y (p_pkf Y Y (dF (p:=(op0=(10:Int))∨(op0=(12:Int))) (not_or.2 ⟨h19,h20⟩)) (tb ((or_l (p:=(op0=(10:Int))∨(op0=(12:Int))) (q:=op0=(14:Int)) (not_or.2 ⟨h19,h20⟩))))) (rend Y Y)))
   refine if2 H Y (fun h21 H=>?_) (fun h21 H=>?_)
   ·refine AW2_reg [0,1,2,3,4,5] Y (rm Y (bindK H fun r'10 h22 H=>rp Y (p_callp Y Y Y Tryz.func125 Y Y (g_value_Not_ac h22) ⟨Y,trivial⟩) (rm Y (rp Y (p_ext Y Y Y Y) (rp Y (p_ext Y Y Y Y) ?_)))))
    refine ra Y (rz [(6,_),(8,.i r'10.1)] [(6,_)] Y ?_)
    have z:=se H; subst z
    exact rfl
   refine as2 [(6,_),(8,_)] [(6,_)] Y (AW2_skip ?_)
   have z:=se H; subst z
   exact rfl
  refine sg [0,1,2,3] Y (rm Y (bindK H fun r'11 h23 H=>rp Y (p_callp Y Y Y Tryz.func111 Y Y (g_eval_truth_ac h23) ⟨Y,trivial⟩) (rq Y (u_sw Y Y Y Y Y in_32 (GValue.len r'11) (GValue.len GValue.zero) Y) (ra Y (rz [(6,_),(7,.i (0:Int))] [(6,.pure (GValue.cs r'11))] Y ?_)))))
  refine AW2_ret ?_
  have z:=se H; subst z
  exact ⟨⟨rcw U32 Y in_32 Y (GValue.len r'11),rt,trivial⟩,trivial⟩
 replace H:=ite_else (ne_true h15) H
 refine as2 [(0,.i op0),(6,.q 6 (0)),(8,.i r'1.1),(9,.i r'1.2)] [(6,.pure (GValue.cs GValue.zero))] Y (AW2_skip (AW2_seq (sg [0,1] Y (rm Y (rp Y (p_ine Y Y Y) (rz [(0,_),(6,_),(8,_),(9,_),(36,.b (decide (r'1.2≠(0:Int))))] [(6,_)] Y ?_))))))
 refine if2 H Y (fun h24 H=>?_) (fun h24 H=>?_)
 ·refine sg [0,1,2,3] Y (rp Y (u_bld Y in_32 one_32 zc_32 pl_32 Y Y) (rm Y (rq Y (u_sw Y Y Y Y Y in_32 (GValue.len GValue.zero) (GValue.len GValue.zero) Y) (ra Y (rz [(6,_),(7,.i r'1.2)] [(6,.pure (GValue.cs GValue.zero))] Y (AW2_ret ?_))))))
  have z:=se H; subst z
  exact ⟨⟨rcw U32 Y in_32 Y (GValue.len GValue.zero),rt,trivial⟩,trivial⟩
 refine as2 [(0,_),(6,_),(8,_)] [(6,_)] Y (AW2_skip (AW2_seq (bindK H fun j'12 h25 H=>AW2_mid (⟨[(6,.q 6 (0)),(8,.i j'12)],[(6,.pure (GValue.cs GValue.zero))],56⟩:TS) ?_ ?_)))
 ·clear H
  have H:=h25
  clear h25
  refine AW2_seq (AW2_mid (⟨[(6,.q 6 (0)),(8,.i r'1.1),(48,.b (decide (((op0=(10:Int))∨(op0=(12:Int)))∨(op0=(14:Int)))))],[(6,.pure (GValue.cs GValue.zero))],56⟩:TS) ?_ ?_)
  ·refine AW2_reg [0,1,2,3,4,5,6,7,8,9] Y (rm Y (rp Y (p_ieq Y Y Y) (rm Y ?_)))
   refine (Classical.em (op0=(10:Int))).elim (fun h26=>?_) (fun h26=>?_)
   ·refine rO Y (dT h26) Y (rO Y (dT h26) Y (rp Y (p_pkt Y Y (dT h26) (tb (dT (p:=(op0=(10:Int))∨(op0=(12:Int))) (Or.inl h26)).symm)) (rm Y (rO Y (dT (p:=(op0=(10:Int))∨(op0=(12:Int))) (Or.inl h26)) Y (rO Y (dT (p:=(op0=(10:Int))∨(op0=(12:Int))) (Or.inl h26)) Y (rp Y (p_pkt Y Y (dT (p:=(op0=(10:Int))∨(op0=(12:Int))) (Or.inl h26)) (tb (dT (p:=((op0=(10:Int))∨(op0=(12:Int)))∨(op0=(14:Int))) (Or.inl (Or.inl h26))).symm)) ?_))))))
    exact rend Y Y
   refine rn Y (dF h26) Y (p_move Y Y) (rn Y (dF h26) Y (p_ieq Y Y Y) (rp Y (p_pkf Y Y (dF h26) (tb ((or_l (p:=op0=(10:Int)) (q:=op0=(12:Int)) h26)))) (rm Y ?_)))
   refine (Classical.em (op0=(12:Int))).elim (fun h27=>?_) (fun h27=>?_)
   ·exact rO Y (dT (p:=(op0=(10:Int))∨(op0=(12:Int))) (Or.inr h27)) Y (rO Y (dT (p:=(op0=(10:Int))∨(op0=(12:Int))) (Or.inr h27)) Y (rp Y (p_pkt Y Y (dT (p:=(op0=(10:Int))∨(op0=(12:Int))) (Or.inr h27)) (tb (dT (p:=((op0=(10:Int))∨(op0=(12:Int)))∨(op0=(14:Int))) (Or.inl (Or.inr h27))).symm)) (rend Y Y)))
   exact rn Y (dF (p:=(op0=(10:Int))∨(op0=(12:Int))) (not_or.2 ⟨h26,h27⟩)) Y (p_move Y Y) (rn Y (dF (p:=(op0=(10:Int))∨(op0=(12:Int))) (not_or.2 ⟨h26,h27⟩)) Y (p_ieq Y Y Y) (rp Y (p_pkf Y Y (dF (p:=(op0=(10:Int))∨(op0=(12:Int))) (not_or.2 ⟨h26,h27⟩)) (tb ((or_l (p:=(op0=(10:Int))∨(op0=(12:Int))) (q:=op0=(14:Int)) (not_or.2 ⟨h26,h27⟩))))) (rend Y Y)))
  refine if2 H Y (fun h28 H=>?_) (fun h28 H=>?_)
  ·refine AW2_reg [0,1,2,3,4,5] Y (rm Y (bindK H fun r'13 h29 H=>rp Y (p_callp Y Y Y Tryz.func125 Y Y (g_value_Not_ac h29) ⟨Y,trivial⟩) (rm Y (rp Y (p_ext Y Y Y Y) (rp Y (p_ext Y Y Y Y) ?_)))))
   refine ra Y (rz [(6,_),(8,.i r'13.1)] [(6,_)] Y ?_)
   have z:=se H; subst z
   exact rfl
  refine as2 [(6,_),(8,_)] [(6,_)] Y (AW2_skip ?_)
  have z:=se H; subst z
  exact rfl
 refine sg [0,1,2,3] Y (rm Y (bindK H fun r'14 h30 H=>rp Y (p_callp Y Y Y Tryz.func111 Y Y (g_eval_truth_ac h30) ⟨Y,trivial⟩) (rq Y (u_sw Y Y Y Y Y in_32 (GValue.len r'14) (GValue.len GValue.zero) Y) (ra Y (rz [(6,_),(7,.i (0:Int))] [(6,.pure (GValue.cs r'14))] Y ?_)))))
 refine AW2_ret ?_
 have z:=se H; subst z
 exact ⟨⟨rcw U32 Y in_32 Y (GValue.len r'14),rt,trivial⟩,trivial⟩
noncomputable def g_eval_two (op0:Int) (v1:GValue) (w2:GValue):Option (GValue×Int) :=
  ((if op0=(15:Int) then some (decide (op0=(15:Int))) else some (decide (op0=(16:Int))))).bind fun j'1=>(if j'1=true then (g_eval_logic op0 v1 w2).bind fun r'2=>some (r'2.1,r'2.2) else (if op0=(20:Int) then some (w2,(0:Int)) else (if op0=(19:Int) then (g_eval_join v1 w2).bind fun r'3=>some (r'3.1,r'3.2) else ((if op0=(5:Int) then some (decide (op0=(5:Int))) else (if op0=(6:Int) then some (decide (op0=(6:Int))) else (if op0=(7:Int) then some (decide (op0=(7:Int))) else some (decide (op0=(8:Int))))))).bind fun j'4=>(if j'4=true then (g_eval_reckon op0 v1 w2).bind fun r'5=>some (r'5.1,r'5.2) else (g_eval_compare op0 v1 w2).bind fun r'6=>some (r'6.1,r'6.2)))))
set_option maxHeartbeats 4000000 in
set_option maxRecDepth 100000 in
theorem g_eval_two_ac {op0:Int} {v1:GValue} {w2:GValue} {r:GValue×Int} (H:g_eval_two op0 v1 w2=some r):ACp Tryz.prog 114 [(AV.int op0),(.agg (GValue.cs v1)),(.agg (GValue.cs w2))] (.tup [(.agg (GValue.cs r.1)),(AV.int r.2)]):=by
 refine ACp_of (AC2_of_body (vs:=[.g (GValue.cs r.1),.i r.2]) Tryz.func114 Y Y (lb Y) Y ?_) (fun _=>.same _)
 unfold g_eval_two at H
 refine as2 [(0,.i op0),(1,.g (GValue.cs v1)),(2,.g (GValue.cs w2))] [] Y (sg [0,1,2,3] Y (rq Y (MakeD.opD (n_box 4 Y Y) Y Y Y Y) (rq Y (MakeD.opD (n_box 5 Y Y) Y Y Y Y) (rq Y (MakeD.opD (u_alloc 6 Y in_32 one_32 zc_32) Y Y Y Y) (ra Y (rz [(0,_),(4,.q 4 (0)),(5,.q 5 (0)),(6,.q 6 (0))] [(4,.pure (GValue.cs v1)),(5,.pure (GValue.cs w2)),(6,.pure (GValue.cs GValue.zero))] Y ?_))))))
 refine AW2_seq (sg [0] Y (rm Y (rz [(0,_),(4,_),(5,_),(6,_),(8,.i op0)] [(4,_),(5,_),(6,_)] Y (AW2_block (AW2_seq (bindK H fun j'1 h1 H=>?_))))))
 refine AW2_mid (⟨[(0,.i op0),(4,.q 4 (0)),(5,.q 5 (0)),(6,.q 6 (0)),(8,.i op0),(9,.b j'1)],[(4,.pure (GValue.cs v1)),(5,.pure (GValue.cs w2)),(6,.pure (GValue.cs GValue.zero))],45⟩:TS) ?_ ?_
 ·clear H
  have H:=h1
  clear h1
  refine sg [0,1] Y (rp Y (p_ieq Y Y Y) (ra Y (rz [(0,.i op0),(4,.q 4 (0)),(5,.q 5 (0)),(6,.q 6 (0)),(8,.i op0),(9,.b (decide (op0=(15:Int))))] [(4,.pure (GValue.cs v1)),(5,.pure (GValue.cs w2)),(6,.pure (GValue.cs GValue.zero))] Y (if2 H Y (fun h2 H=>?_) (fun h2 H=>?_)))))
  ·refine AW2_skip ?_
   have z:=se H; subst z
   exact rfl
  refine AW2_reg [0,1] Y (rp Y (p_ieq Y Y Y) (ra Y (rz [(0,_),(4,_),(5,_),(6,_),(8,_),(9,.b (decide (op0=(16:Int))))] [(4,_),(5,_),(6,_)] Y ?_)))
  have z:=se H; subst z
  exact rfl
 refine AW2_cond Y (fun h3=>?_) (fun h3=>?_)
 ·replace H:=ite_then h3 H
  refine sg [0,1,2,3,4,5,6,7] Y (rm Y (rp Y (u_lda Y Y U32 Y in_32 Y np (Sub.refl _) (GValue.len v1)) (rp Y (u_lda Y Y U32 Y in_32 Y np (Sub.refl _) (GValue.len w2)) (bindK H fun r'2 h4 H=>rp Y (p_callp Y Y Y Tryz.func115 Y Y (g_eval_logic_ac h4) ⟨Y,Y,Y,trivial⟩) (rp Y (p_ext Y Y Y Y) ?_)))))
  refine rp Y (p_ext Y Y Y Y) (rq Y (u_sw Y Y Y Y Y in_32 (GValue.len r'2.1) (GValue.len GValue.zero) Y) (ra Y (rz [(6,.q 6 (0)),(7,.i r'2.2)] [(6,.pure (GValue.cs r'2.1))] Y (AW2_ret ?_))))
  have z:=se H; subst z
  exact ⟨⟨rcw U32 Y in_32 Y (GValue.len r'2.1),rt,trivial⟩,trivial⟩
 replace H:=ite_else (ne_true h3) H
 refine sg [0,1] Y (rp Y (p_ieq Y Y Y) (ra Y (rz [(0,.i op0),(4,.q 4 (0)),(5,.q 5 (0)),(6,.q 6 (0)),(8,.i op0),(18,.b (decide (op0=(20:Int))))] [(4,.pure (GValue.cs v1)),(5,.pure (GValue.cs w2)),(6,.pure (GValue.cs GValue.zero))] Y (if2 H Y (fun h5 H=>?_) (fun h5 H=>?_)))))
 ·refine sg [0,1,2] Y (rp Y (u_lda Y Y U32 Y in_32 Y np (Sub.refl _) (GValue.len w2)) (rq Y (u_sw Y Y Y Y Y in_32 (GValue.len w2) (GValue.len GValue.zero) Y) (ra Y (rz [(6,_),(7,.i (0:Int))] [(6,.pure (GValue.cs w2))] Y (AW2_ret ?_)))))
  have z:=se H; subst z
  exact ⟨⟨rcw U32 Y in_32 Y (GValue.len w2),rt,trivial⟩,trivial⟩
 refine sg [0,1] Y (rp Y (p_ieq Y Y Y) (ra Y (rz [(0,_),(4,_),(5,_),(6,_),(8,_),(21,.b (decide (op0=(19:Int))))] [(4,_),(5,_),(6,_)] Y (if2 H Y (fun h6 H=>?_) (fun h6 H=>?_)))))
 ·refine sg [0,1,2,3,4,5,6] Y (rp Y (u_lda Y Y U32 Y in_32 Y np (Sub.refl _) (GValue.len v1)) (rp Y (u_lda Y Y U32 Y in_32 Y np (Sub.refl _) (GValue.len w2)) (bindK H fun r'3 h7 H=>rp Y (p_callp Y Y Y Tryz.func116 Y Y (g_eval_join_ac h7) ⟨Y,Y,trivial⟩) (rp Y (p_ext Y Y Y Y) (rp Y (p_ext Y Y Y Y) ?_)))))
  refine rq Y (u_sw Y Y Y Y Y in_32 (GValue.len r'3.1) (GValue.len GValue.zero) Y) (ra Y (rz [(6,_),(7,.i r'3.2)] [(6,.pure (GValue.cs r'3.1))] Y (AW2_ret ?_)))
  have z:=se H; subst z
  exact ⟨⟨rcw U32 Y in_32 Y (GValue.len r'3.1),rt,trivial⟩,trivial⟩
 refine AW2_seq (bindK H fun j'4 h8 H=>AW2_mid (⟨[(0,.i op0),(4,.q 4 (0)),(5,.q 5 (0)),(6,.q 6 (0)),(28,.b j'4)],[(4,.pure (GValue.cs v1)),(5,.pure (GValue.cs w2)),(6,.pure (GValue.cs GValue.zero))],45⟩:TS) ?_ ?_)
 ·clear H
  have H:=h8
  clear h8
  refine sg [0,1] Y (rp Y (p_ieq Y Y Y) (ra Y (rz [(0,.i op0),(4,.q 4 (0)),(5,.q 5 (0)),(6,.q 6 (0)),(8,.i op0),(28,.b (decide (op0=(5:Int))))] [(4,.pure (GValue.cs v1)),(5,.pure (GValue.cs w2)),(6,.pure (GValue.cs GValue.zero))] Y (if2 H Y (fun h9 H=>?_) (fun h9 H=>?_)))))
  ·refine as2 [(0,_),(4,_),(5,_),(6,_),(28,_)] [(4,_),(5,_),(6,_)] Y (AW2_skip ?_)
   have z:=se H; subst z
   exact rfl
  refine sg [0,1] Y (rp Y (p_ieq Y Y Y) (ra Y (rz [(0,_),(4,_),(5,_),(6,_),(8,_),(28,.b (decide (op0=(6:Int))))] [(4,_),(5,_),(6,_)] Y (if2 H Y (fun h10 H=>?_) (fun h10 H=>?_)))))
  ·refine as2 [(0,_),(4,_),(5,_),(6,_),(28,_)] [(4,_),(5,_),(6,_)] Y (AW2_skip ?_)
   have z:=se H; subst z
   exact rfl
  refine sg [0,1] Y (rp Y (p_ieq Y Y Y) (ra Y (rz [(0,_),(4,_),(5,_),(6,_),(8,_),(28,.b (decide (op0=(7:Int))))] [(4,_),(5,_),(6,_)] Y (if2 H Y (fun h11 H=>?_) (fun h11 H=>?_)))))
  ·refine as2 [(0,_),(4,_),(5,_),(6,_),(28,_)] [(4,_),(5,_),(6,_)] Y (AW2_skip ?_)
   have z:=se H; subst z
   exact rfl
  refine AW2_reg [0,1] Y (rp Y (p_ieq Y Y Y) (ra Y (rz [(0,_),(4,_),(5,_),(6,_),(28,.b (decide (op0=(8:Int))))] [(4,_),(5,_),(6,_)] Y ?_)))
  have z:=se H; subst z
  exact rfl
 refine AW2_cond Y (fun h12=>?_) (fun h12=>?_)
 ·replace H:=ite_then h12 H
  refine sg [0,1,2,3,4,5,6,7] Y (rm Y (rp Y (u_lda Y Y U32 Y in_32 Y np (Sub.refl _) (GValue.len v1)) (rp Y (u_lda Y Y U32 Y in_32 Y np (Sub.refl _) (GValue.len w2)) (bindK H fun r'5 h13 H=>rp Y (p_callp Y Y Y Tryz.func117 Y Y (g_eval_reckon_ac h13) ⟨Y,Y,Y,trivial⟩) (rp Y (p_ext Y Y Y Y) ?_)))))
  refine rp Y (p_ext Y Y Y Y) (rq Y (u_sw Y Y Y Y Y in_32 (GValue.len r'5.1) (GValue.len GValue.zero) Y) (ra Y (rz [(6,.q 6 (0)),(7,.i r'5.2)] [(6,.pure (GValue.cs r'5.1))] Y (AW2_ret ?_))))
  have z:=se H; subst z
  exact ⟨⟨rcw U32 Y in_32 Y (GValue.len r'5.1),rt,trivial⟩,trivial⟩
 replace H:=ite_else (ne_true h12) H
 refine as2 [(0,.i op0),(4,.q 4 (0)),(5,.q 5 (0)),(6,.q 6 (0))] [(4,.pure (GValue.cs v1)),(5,.pure (GValue.cs w2)),(6,.pure (GValue.cs GValue.zero))] Y (AW2_skip (sg [0,1,2,3,4,5,6,7] Y (rm Y (rp Y (u_lda Y Y U32 Y in_32 Y np (Sub.refl _) (GValue.len v1)) (rp Y (u_lda Y Y U32 Y in_32 Y np (Sub.refl _) (GValue.len w2)) (bindK H fun r'6 h14 H=>?_))))))
 refine rp Y (p_callp Y Y Y Tryz.func118 Y Y (g_eval_compare_ac h14) ⟨Y,Y,Y,trivial⟩) (rp Y (p_ext Y Y Y Y) (rp Y (p_ext Y Y Y Y) (rq Y (u_sw Y Y Y Y Y in_32 (GValue.len r'6.1) (GValue.len GValue.zero) Y) (ra Y (rz [(6,_),(7,.i r'6.2)] [(6,.pure (GValue.cs r'6.1))] Y (AW2_ret ?_))))))
 have z:=se H; subst z
 exact ⟨⟨rcw U32 Y in_32 Y (GValue.len r'6.1),rt,trivial⟩,trivial⟩
def g_eval_twin_of_r6:List (List (Nat×Option Nat)):=[[(2,none)],[(31,some 0)],[(32,some 1)],[(33,some 2)],[(6,none),(34,some 3)],[(34,some 3)]]
def g_eval_twin_of_r6c:List (List Nat):=[[],[0],[0,1],[0,1,2],[0,1,2,3],[0,1,2,3],[0,1,2,3,4,5],[0,1,2,3,4,5,6],[0,1,2,3,4,5,6,7]]
def g_eval_twin_of_r7:List (List (Nat×Option Nat)):=[[(2,none)],[(39,some 0)],[(40,some 1)],[(41,some 2)],[(6,none),(42,some 3)],[(42,some 3)]]
def g_eval_twin_of_r7c:List (List Nat):=[[],[0],[0,1],[0,1,2],[0,1,2,3],[0,1,2,3],[0,1,2,3,4,5],[0,1,2,3,4,5,6],[0,1,2,3,4,5,6,7]]
noncomputable def g_eval_twin_of_b (R':Geval_thing→(List GValue)→Option (GValue×Int)) (t0:Geval_twin) (row1:List GValue):Option (GValue×Int) :=
  (R' t0.a_ row1).bind fun r'1=>(if r'1.2≠(0:Int) then some (GValue.zero,r'1.2) else (if (t0.op_=(20:Int))∧(r'1.1.Kind≠(0:Int)) then some (r'1.1,(0:Int)) else (((if t0.op_=(15:Int) then (g_eval_truth (0:Int)).bind fun r'3=>some (decide (r'1.1=r'3)) else some false)).bind fun g'4=>(if g'4=true then some g'4 else ((if t0.op_=(16:Int) then (g_eval_truth (2:Int)).bind fun r'5=>some (decide (r'1.1=r'5)) else some false)).bind fun g'6=>some g'6)).bind fun j'2=>(if j'2=true then some (r'1.1,(0:Int)) else (R' t0.b_ row1).bind fun r'7=>(if r'7.2≠(0:Int) then some (GValue.zero,r'7.2) else (g_eval_two t0.op_ r'1.1 r'7.1).bind fun r'8=>some (r'8.1,r'8.2)))))
set_option maxHeartbeats 4000000 in
set_option maxRecDepth 100000 in
theorem g_eval_twin_of_ac0 {R' : Geval_thing → (List GValue) → Option (GValue × Int)} (hR : ∀ {x : Geval_thing} {a0 : List GValue} {r : GValue × Int}, R' x a0 = some r → IC Tryz.prog (Geval_thing.val x) "chirograph/eval.of" [(GValue.ls a0)] (.tup [(.agg (GValue.cs r.1)), (AV.int r.2)])) {t0 : Geval_twin} {row1 : List GValue} {r : GValue × Int} (H : g_eval_twin_of_b R' t0 row1 = some r) : ACp Tryz.prog 113 [(.agg (Geval_twin.cs t0)), (GValue.ls row1)] (.tup [(.agg (GValue.cs r.1)), (AV.int r.2)]) := by
 refine ACp_of (AC2_of_body (vs:=[.g (GValue.cs r.1),.i r.2]) Tryz.func113 Y Y (lb Y) Y ?_) (fun _=>.same _)
 unfold g_eval_twin_of_b at H
 refine as2 [(0,.g (Geval_twin.cs t0)),(1,.p (GValue.ls row1))] [] Y (sg [0,1,2] Y (rq Y (MakeD.opD (n_box 2 Y Y) Y Y Y Y) (rq Y (MakeD.opD (u_alloc 4 Y in_32 one_32 zc_32) Y Y Y Y) (ra Y (rz [(1,_),(2,.q 2 (0)),(4,.q 4 (0))] [(2,.pure (Geval_twin.cs t0)),(4,.pure (GValue.cs GValue.zero))] Y (sg [0,1,2,3,4,5,6,7,8,9] Y ?_))))))
 refine rf Y U110 Y in_86 Y Y (Geval_twin.len t0) (rp Y (u_ld Y Y U86 Y Y (Geval_twin.sub1 t0)) (rm Y (bindK H fun r'1 h1 H=>rp Y (p_calli Y Y (hR h1) ⟨Y,trivial⟩) (rm Y (rp Y (p_ext Y Y Y Y) ?_)))))
 refine rp Y (p_ext Y Y Y Y) (rq Y (MakeD.opD (u_alloc 6 Y in_32 one_32 zc_32) Y Y Y Y) (rq Y (u_sw Y Y Y Y Y in_32 (GValue.len r'1.1) (GValue.len GValue.zero) Y) (ra Y (rz [(1,_),(2,_),(4,_),(6,.q 6 (0)),(7,.i r'1.2)] [(2,.pure (Geval_twin.cs t0)),(4,.pure (GValue.cs GValue.zero)),(6,.pure (GValue.cs r'1.1))] Y (AW2_seq (sg [0,1] Y ?_))))))
 refine rm Y (rp Y (p_ine Y Y Y) (rz [(1,_),(2,_),(4,_),(6,_),(7,_),(17,.b (decide (r'1.2≠(0:Int))))] [(2,_),(4,_),(6,_)] Y (if2 H Y (fun h2 H=>?_) (fun h2 H=>?_))))
 ·refine sg [0,1,2,3] Y (rp Y (u_bld Y in_32 one_32 zc_32 pl_32 Y Y) (rm Y (rq Y (u_sw Y Y Y Y Y in_32 (GValue.len GValue.zero) (GValue.len GValue.zero) Y) (ra Y (rz [(4,_),(5,.i r'1.2)] [(4,.pure (GValue.cs GValue.zero))] Y (AW2_ret ?_))))))
  have z:=se H; subst z
  exact ⟨⟨rcw U32 Y in_32 Y (GValue.len GValue.zero),rt,trivial⟩,trivial⟩
 refine as2 [(1,_),(2,_),(4,_),(6,_)] [(2,_),(4,_),(6,_)] Y (AW2_skip (AW2_seq (AW2_block (AW2_seq (AW2_mid (⟨[(1,.p (GValue.ls row1)),(2,.q 2 (0)),(4,.q 4 (0)),(6,.q 6 (0)),(20,.b (decide ((t0.op_=(20:Int))∧(r'1.1.Kind≠(0:Int)))))],[(2,.pure (Geval_twin.cs t0)),(4,.pure (GValue.cs GValue.zero)),(6,.pure (GValue.cs r'1.1))],66⟩:TS) ?_ ?_)))))
 ·refine AW2_reg [0,1,2,3,4,5,6,7,8] Y (rf Y U110 Y in_3 Y Y (Geval_twin.len t0) (rp Y (u_ld Y Y U3 Y Y (Geval_twin.sub0 t0)) (rp Y (p_ieq Y Y Y) (rm Y ?_))))
  refine (Classical.em (t0.op_=(20:Int))).elim (fun h3=>?_) (fun h3=>?_)
  ·exact rn Y (dT h3) Y (u_fa Y Y U32 Y in_3 nz Y Y (nl (GValue.len r'1.1))) (rn Y (dT h3) Y (u_ld Y Y U3 Y Y (GValue.sub0 r'1.1)) (rn Y (dT h3) Y (p_ine Y Y Y) (rp Y (p_pkt Y Y (dT h3) (tb ((and_l (p:=t0.op_=(20:Int)) (q:=r'1.1.Kind≠(0:Int)) h3)))) (ra Y (rend Y Y)))))
  exact rO Y (dF h3) Y (rO Y (dF h3) Y (rO Y (dF h3) Y (rp Y (p_pkf Y Y (dF h3) (tb (dF (p:=(t0.op_=(20:Int))∧(r'1.1.Kind≠(0:Int))) (fun x=>h3 x.1)).symm)) (ra Y (rend Y Y)))))
 refine if2 H Y (fun h4 H=>?_) (fun h4 H=>?_)
 ·refine sg [0,1,2] Y (rp Y (u_lda Y Y U32 Y in_32 Y np (Sub.refl _) (GValue.len r'1.1)) (rq Y (u_sw Y Y Y Y Y in_32 (GValue.len r'1.1) (GValue.len GValue.zero) Y) (ra Y (rz [(4,_),(5,.i (0:Int))] [(4,.pure (GValue.cs r'1.1))] Y (AW2_ret ?_)))))
  have z:=se H; subst z
  exact ⟨⟨rcw U32 Y in_32 Y (GValue.len r'1.1),rt,trivial⟩,trivial⟩
 refine AW2_seq (bindK H fun j'2 h5 H=>AW2_mid (⟨[(1,.p (GValue.ls row1)),(2,.q 2 (0)),(4,.q 4 (0)),(6,.q 6 (0)),(30,.b j'2)],[(2,.pure (Geval_twin.cs t0)),(4,.pure (GValue.cs GValue.zero)),(6,.pure (GValue.cs r'1.1))],66⟩:TS) ?_ ?_)
 ·clear H
  have H:=h5
  clear h5
  refine AW2_seq (bindK H fun g'4 h8 H=>AW2_mid (⟨[(1,.p (GValue.ls row1)),(2,.q 2 (0)),(4,.q 4 (0)),(6,.q 6 (0)),(30,.b g'4)],[(2,.pure (Geval_twin.cs t0)),(4,.pure (GValue.cs GValue.zero)),(6,.pure (GValue.cs r'1.1))],66⟩:TS) ?_ ?_)
  ·clear H
   have H:=h8
   clear h8
   refine em2 H (fun h6 H=>?_) (fun h6 H=>?_)
   ·refine bindK H fun r'3 h7 H=>?_
    have z:=se H; subst z
    refine AW2_ghoQ (AW2_draw 6 [6,7,8] (fun k=>([.q 2 (0+0),.i t0.op_,.b (decide (t0.op_=(15:Int))),.b (decide (t0.op_=(15:Int))),.g (GValue.cs r'1.1),.g (GValue.cs r'3)]:List TV).getD k TV.any) (fun k=>g_eval_twin_of_r6.getD k []) [(1,none),(2,none),(4,none),(6,none),(34,some 3),(35,some 4),(36,some 5)] [] (fun k=>g_eval_twin_of_r6c.getD k []) mixed (by kernel_rfl) Y Y (a_op (g_x Y (x_p Y (u_fa Y Y U110 Y in_3 nz Y Y (nl (Geval_twin.len t0))) Y)) (a_op (g_x Y (x_p Y (u_ld Y Y U3 Y Y (Geval_twin.sub0 t0)) Y)) (a_op (g_x Y (x_p Y (p_ieq Y Y Y) Y)) (a_op (g_x Y (x_p Y (p_move Y Y) Y)) (a_op (g_on Y Y Y (dT h6) Y (x_p Y (u_lda Y Y U32 Y in_32 Y np (Sub.refl _) (GValue.len r'1.1)) Y)) (a_op (g_on Y Y Y (dT h6) Y (x_p Y (p_callp Y Y Y Tryz.func111 Y Y (g_eval_truth_ac h7) ⟨Y,trivial⟩) Y)) (a_nil))))))) (t_on Y Y Y Y (dT h6) Y (PureD.opD (p_eqa (a:=r'1.1) (b:=r'3) Y eq_32 Y (by kernel_rfl) Y Y)) (t_op Y Y (PureD.opD (p_pkt Y Y (dT h6) (.same _))) (t_op Y Y (PureD.opD (p_asg Y Y)) (t_gho (Gho_st (L:=[(1,.p (GValue.ls row1)),(2,.q 2 (0)),(4,.q 4 (0)),(6,.q 6 (0)),(30,.b (decide (r'1.1=r'3)))]) (H:=[(2,.pure (Geval_twin.cs t0)),(4,.pure (GValue.cs GValue.zero)),(6,.pure (GValue.cs r'1.1))]) (N:=66) Y ⟨TLes.same _,TLes.same _,TLes.same _,TLes.same _,TLes.same _,trivial⟩ ⟨Y,Y,Y,trivial⟩) ?_)))))
    exact rfl
   have z:=se H; subst z
   refine AW2_ghoQ (AW2_draw 6 [6,7,8] (fun k=>([.q 2 (0+0),.i t0.op_,.b (decide (t0.op_=(15:Int))),.b (decide (t0.op_=(15:Int))),.p (.tup []),.p (.tup [])]:List TV).getD k TV.any) (fun k=>g_eval_twin_of_r6.getD k []) [(1,none),(2,none),(4,none),(6,none),(34,some 3),(35,some 4),(36,some 5)] [] (fun k=>g_eval_twin_of_r6c.getD k []) mixed (by kernel_rfl) Y Y (a_op (g_x Y (x_p Y (u_fa Y Y U110 Y in_3 nz Y Y (nl (Geval_twin.len t0))) Y)) (a_op (g_x Y (x_p Y (u_ld Y Y U3 Y Y (Geval_twin.sub0 t0)) Y)) (a_op (g_x Y (x_p Y (p_ieq Y Y Y) Y)) (a_op (g_x Y (x_p Y (p_move Y Y) Y)) (a_op (g_off Y Y Y Y Y (dF h6) Y Y) (a_op (g_off Y Y Y Y Y (dF h6) Y Y) (a_nil))))))) (t_off Y Y Y Y (dF h6) Y Y (t_op Y Y (PureD.opD (p_pkf Y Y (dF h6) (.same _))) (t_op Y Y (PureD.opD (p_asg Y Y)) (t_gho (Gho_st (L:=[(1,.p (GValue.ls row1)),(2,.q 2 (0)),(4,.q 4 (0)),(6,.q 6 (0)),(30,.b false)]) (H:=[(2,.pure (Geval_twin.cs t0)),(4,.pure (GValue.cs GValue.zero)),(6,.pure (GValue.cs r'1.1))]) (N:=66) Y ⟨TLes.same _,TLes.same _,TLes.same _,TLes.same _,TLes.same _,trivial⟩ ⟨Y,Y,Y,trivial⟩) ?_)))))
   exact rfl
  refine AW2_cond Y (fun h9=>?_) (fun h9=>?_)
  ·replace H:=ite_then h9 H
   refine AW2_skip ?_
   have z:=se H; subst z
   exact rfl
  replace H:=ite_else (ne_true h9) H
  refine bindK H fun g'6 h12 H=>AW2_mid (⟨[(1,.p (GValue.ls row1)),(2,.q 2 (0)),(4,.q 4 (0)),(6,.q 6 (0)),(30,.b g'6)],[(2,.pure (Geval_twin.cs t0)),(4,.pure (GValue.cs GValue.zero)),(6,.pure (GValue.cs r'1.1))],66⟩:TS) ?_ ?_
  ·clear H
   have H:=h12
   clear h12
   refine em2 H (fun h10 H=>?_) (fun h10 H=>?_)
   ·refine bindK H fun r'5 h11 H=>?_
    have z:=se H; subst z
    refine AW2_ghoQ (AW2_draw 6 [6,7,8] (fun k=>([.q 2 (0+0),.i t0.op_,.b (decide (t0.op_=(16:Int))),.b (decide (t0.op_=(16:Int))),.g (GValue.cs r'1.1),.g (GValue.cs r'5)]:List TV).getD k TV.any) (fun k=>g_eval_twin_of_r7.getD k []) [(1,none),(2,none),(4,none),(6,none),(30,none),(42,some 3),(43,some 4),(44,some 5)] [] (fun k=>g_eval_twin_of_r7c.getD k []) mixed (by kernel_rfl) Y Y (a_op (g_x Y (x_p Y (u_fa Y Y U110 Y in_3 nz Y Y (nl (Geval_twin.len t0))) Y)) (a_op (g_x Y (x_p Y (u_ld Y Y U3 Y Y (Geval_twin.sub0 t0)) Y)) (a_op (g_x Y (x_p Y (p_ieq Y Y Y) Y)) (a_op (g_x Y (x_p Y (p_move Y Y) Y)) (a_op (g_on Y Y Y (dT h10) Y (x_p Y (u_lda Y Y U32 Y in_32 Y np (Sub.refl _) (GValue.len r'1.1)) Y)) (a_op (g_on Y Y Y (dT h10) Y (x_p Y (p_callp Y Y Y Tryz.func111 Y Y (g_eval_truth_ac h11) ⟨Y,trivial⟩) Y)) (a_nil))))))) (t_on Y Y Y Y (dT h10) Y (PureD.opD (p_eqa (a:=r'1.1) (b:=r'5) Y eq_32 Y (by kernel_rfl) Y Y)) (t_op Y Y (PureD.opD (p_pkt Y Y (dT h10) (.same _))) (t_op Y Y (PureD.opD (p_asg Y Y)) (t_gho (Gho_st (L:=[(1,.p (GValue.ls row1)),(2,.q 2 (0)),(4,.q 4 (0)),(6,.q 6 (0)),(30,.b (decide (r'1.1=r'5)))]) (H:=[(2,.pure (Geval_twin.cs t0)),(4,.pure (GValue.cs GValue.zero)),(6,.pure (GValue.cs r'1.1))]) (N:=66) Y ⟨TLes.same _,TLes.same _,TLes.same _,TLes.same _,TLes.same _,trivial⟩ ⟨Y,Y,Y,trivial⟩) ?_)))))
    exact rfl
   have z:=se H; subst z
   refine AW2_ghoQ (AW2_draw 6 [6,7,8] (fun k=>([.q 2 (0+0),.i t0.op_,.b (decide (t0.op_=(16:Int))),.b (decide (t0.op_=(16:Int))),.p (.tup []),.p (.tup [])]:List TV).getD k TV.any) (fun k=>g_eval_twin_of_r7.getD k []) [(1,none),(2,none),(4,none),(6,none),(30,none),(42,some 3),(43,some 4),(44,some 5)] [] (fun k=>g_eval_twin_of_r7c.getD k []) mixed (by kernel_rfl) Y Y (a_op (g_x Y (x_p Y (u_fa Y Y U110 Y in_3 nz Y Y (nl (Geval_twin.len t0))) Y)) (a_op (g_x Y (x_p Y (u_ld Y Y U3 Y Y (Geval_twin.sub0 t0)) Y)) (a_op (g_x Y (x_p Y (p_ieq Y Y Y) Y)) (a_op (g_x Y (x_p Y (p_move Y Y) Y)) (a_op (g_off Y Y Y Y Y (dF h10) Y Y) (a_op (g_off Y Y Y Y Y (dF h10) Y Y) (a_nil))))))) (t_off Y Y Y Y (dF h10) Y Y (t_op Y Y (PureD.opD (p_pkf Y Y (dF h10) (.same _))) (t_op Y Y (PureD.opD (p_asg Y Y)) (t_gho (Gho_st (L:=[(1,.p (GValue.ls row1)),(2,.q 2 (0)),(4,.q 4 (0)),(6,.q 6 (0)),(30,.b false)]) (H:=[(2,.pure (Geval_twin.cs t0)),(4,.pure (GValue.cs GValue.zero)),(6,.pure (GValue.cs r'1.1))]) (N:=66) Y ⟨TLes.same _,TLes.same _,TLes.same _,TLes.same _,TLes.same _,trivial⟩ ⟨Y,Y,Y,trivial⟩) ?_)))))
   exact rfl
  have z:=se H; subst z
  exact rfl
 refine AW2_cond Y (fun h13=>?_) (fun h13=>?_)
 ·replace H:=ite_then h13 H
  refine sg [0,1,2] Y (rp Y (u_lda Y Y U32 Y in_32 Y np (Sub.refl _) (GValue.len r'1.1)) (rq Y (u_sw Y Y Y Y Y in_32 (GValue.len r'1.1) (GValue.len GValue.zero) Y) (ra Y (rz [(4,.q 4 (0)),(5,.i (0:Int))] [(4,.pure (GValue.cs r'1.1))] Y (AW2_ret ?_)))))
  have z:=se H; subst z
  exact ⟨⟨rcw U32 Y in_32 Y (GValue.len r'1.1),rt,trivial⟩,trivial⟩
 replace H:=ite_else (ne_true h13) H
 refine as2 [(1,.p (GValue.ls row1)),(2,.q 2 (0)),(4,.q 4 (0)),(6,.q 6 (0))] [(2,.pure (Geval_twin.cs t0)),(4,.pure (GValue.cs GValue.zero)),(6,.pure (GValue.cs r'1.1))] Y (AW2_skip (sg [0,1,2,3,4,5,6,7,8,9] Y (rf Y U110 Y in_86 Y Y (Geval_twin.len t0) (rp Y (u_ld Y Y U86 Y Y (Geval_twin.sub2 t0)) (rm Y (bindK H fun r'7 h14 H=>?_))))))
 refine rp Y (p_calli Y Y (hR h14) ⟨Y,trivial⟩) (rm Y (rp Y (p_ext Y Y Y Y) (rp Y (p_ext Y Y Y Y) (rq Y (MakeD.opD (u_alloc 8 Y in_32 one_32 zc_32) Y Y Y Y) (rq Y (u_sw Y Y Y Y Y in_32 (GValue.len r'7.1) (GValue.len GValue.zero) Y) (ra Y ?_))))))
 refine rz [(2,_),(4,_),(6,_),(7,.i r'7.2),(8,.q 8 (0))] [(2,.pure (Geval_twin.cs t0)),(4,.pure (GValue.cs GValue.zero)),(6,.pure (GValue.cs r'1.1)),(8,.pure (GValue.cs r'7.1))] Y (AW2_seq (sg [0,1] Y (rm Y (rp Y (p_ine Y Y Y) (rz [(2,_),(4,_),(6,_),(7,_),(8,_),(56,.b (decide (r'7.2≠(0:Int))))] [(2,_),(4,_),(6,_),(8,_)] Y (if2 H Y (fun h15 H=>?_) (fun h15 H=>?_)))))))
 ·refine sg [0,1,2,3] Y (rp Y (u_bld Y in_32 one_32 zc_32 pl_32 Y Y) (rm Y (rq Y (u_sw Y Y Y Y Y in_32 (GValue.len GValue.zero) (GValue.len GValue.zero) Y) (ra Y (rz [(4,_),(5,.i r'7.2)] [(4,.pure (GValue.cs GValue.zero))] Y (AW2_ret ?_))))))
  have z:=se H; subst z
  exact ⟨⟨rcw U32 Y in_32 Y (GValue.len GValue.zero),rt,trivial⟩,trivial⟩
 refine as2 [(2,_),(4,_),(6,_),(8,_)] [(2,_),(4,_),(6,_),(8,_)] Y (AW2_skip (sg [0,1,2,3,4,5,6,7,8] Y (rf Y U110 Y in_3 Y Y (Geval_twin.len t0) (rp Y (u_ld Y Y U3 Y Y (Geval_twin.sub0 t0)) (rp Y (u_lda Y Y U32 Y in_32 Y np (Sub.refl _) (GValue.len r'1.1)) (rp Y (u_lda Y Y U32 Y in_32 Y np (Sub.refl _) (GValue.len r'7.1)) ?_))))))
 refine bindK H fun r'8 h16 H=>rp Y (p_callp Y Y Y Tryz.func114 Y Y (g_eval_two_ac h16) ⟨Y,Y,Y,trivial⟩) (rp Y (p_ext Y Y Y Y) (rp Y (p_ext Y Y Y Y) (rq Y (u_sw Y Y Y Y Y in_32 (GValue.len r'8.1) (GValue.len GValue.zero) Y) (ra Y (rz [(4,_),(5,.i r'8.2)] [(4,.pure (GValue.cs r'8.1))] Y ?_)))))
 refine AW2_ret ?_
 have z:=se H; subst z
 exact ⟨⟨rcw U32 Y in_32 Y (GValue.len r'8.1),rt,trivial⟩,trivial⟩
noncomputable def g_eval_fixed_of (f0:Geval_fixed) (t1:List GValue):Option (GValue×Int) :=
  some (f0.v_,(0:Int))
set_option maxHeartbeats 4000000 in
set_option maxRecDepth 100000 in
theorem g_eval_fixed_of_ac {f0:Geval_fixed} {t1:List GValue} {r:GValue×Int} (H:g_eval_fixed_of f0 t1=some r):ACp Tryz.prog 132 [(.agg (Geval_fixed.cs f0)),(GValue.ls t1)] (.tup [(.agg (GValue.cs r.1)),(AV.int r.2)]):=by
 refine ACp_of (AC2_of_body (vs:=[.g (GValue.cs r.1),.i r.2]) Tryz.func132 Y Y (lb Y) Y ?_) (fun _=>.same _)
 unfold g_eval_fixed_of at H
 refine as2 [(0,.g (Geval_fixed.cs f0))] [] Y (sg [0,1,2] Y (rq Y (MakeD.opD (n_box 2 Y Y) Y Y Y Y) (rq Y (MakeD.opD (u_alloc 4 Y in_32 one_32 zc_32) Y Y Y Y) (ra Y (rz [(2,.q 2 (0)),(4,.q 4 (0))] [(2,.pure (Geval_fixed.cs f0)),(4,.pure (GValue.cs GValue.zero))] Y (sg [0,1,2,3] Y ?_))))))
 refine rf Y U112 Y in_32 Y Y (Geval_fixed.len f0) (rp Y (u_lda Y Y U32 Y in_32 Y np (Geval_fixed.sub0 f0) (GValue.len f0.v_)) (rq Y (u_sw Y Y Y Y Y in_32 (GValue.len f0.v_) (GValue.len GValue.zero) Y) (ra Y (rz [(4,_),(5,.i (0:Int))] [(4,.pure (GValue.cs f0.v_))] Y (AW2_ret ?_)))))
 have z:=se H; subst z
 exact ⟨⟨rcw U32 Y in_32 Y (GValue.len f0.v_),rt,trivial⟩,trivial⟩
noncomputable def g_eval_place_of (p0:Geval_place) (row1:List GValue):Option (GValue×Int) :=
  if 0≤p0.i_∧p0.i_ < (row1.length:Int) then some ((lrd row1 p0.i_.toNat),(0:Int)) else none
set_option maxHeartbeats 4000000 in
set_option maxRecDepth 100000 in
theorem g_eval_place_of_ac {p0:Geval_place} {row1:List GValue} {r:GValue×Int} (H:g_eval_place_of p0 row1=some r):ACp Tryz.prog 133 [(.agg (Geval_place.cs p0)),(GValue.ls row1)] (.tup [(.agg (GValue.cs r.1)),(AV.int r.2)]):=by
 refine ACp_of (AC2_of_body (vs:=[.g (GValue.cs r.1),.i r.2]) Tryz.func133 Y Y (lb Y) Y ?_) (fun _=>.same _)
 unfold g_eval_place_of at H
 refine as2 [(0,.g (Geval_place.cs p0)),(1,.p (GValue.ls row1))] [] Y (sg [0,1,2] Y (rq Y (MakeD.opD (n_box 2 Y Y) Y Y Y Y) (rq Y (MakeD.opD (u_alloc 4 Y in_32 one_32 zc_32) Y Y Y Y) (ra Y (rz [(1,_),(2,.q 2 (0)),(4,.q 4 (0))] [(2,.pure (Geval_place.cs p0)),(4,.pure (GValue.cs GValue.zero))] Y (sg [0,1,2,3,4,5,6] Y ?_))))))
 refine rm Y (rf Y U114 Y in_3 Y Y (Geval_place.len p0) (rp Y (u_ld Y Y U3 Y Y (Geval_place.sub0 p0)) (chkK H fun h1 H=>rp Y (u_ixl Y Y U23 in_32 Y Y (ixe h1) (ixn h1) (fne (fun x=>(GValue.len x)) (by decide) (ixn h1))) (rp Y (u_lda Y Y U32 Y in_32 Y np (Sub.fm default (fun x=>(GValue.len x)) (ixn h1)) (GValue.len (lrd row1 p0.i_.toNat))) (rq Y (u_sw Y Y Y Y Y in_32 (GValue.len (lrd row1 p0.i_.toNat)) (GValue.len GValue.zero) Y) ?_)))))
 refine ra Y (rz [(4,_),(5,.i (0:Int))] [(4,.pure (GValue.cs (lrd row1 p0.i_.toNat)))] Y (AW2_ret ?_))
 have z:=se H; subst z
 exact ⟨⟨rcw U32 Y in_32 Y (GValue.len (lrd row1 p0.i_.toNat)),rt,trivial⟩,trivial⟩
noncomputable def g_eval_missing_of (t0:Geval_missing) (t1:List GValue):Option (GValue×Int) :=
  some (GValue.zero,(5:Int))
set_option maxHeartbeats 4000000 in
set_option maxRecDepth 100000 in
theorem g_eval_missing_of_ac {t0:Geval_missing} {t1:List GValue} {r:GValue×Int} (H:g_eval_missing_of t0 t1=some r):ACp Tryz.prog 134 [(.agg (Geval_missing.cs t0)),(GValue.ls t1)] (.tup [(.agg (GValue.cs r.1)),(AV.int r.2)]):=by
 refine ACp_of (AC2_of_body (vs:=[.g (GValue.cs r.1),.i r.2]) Tryz.func134 Y Y (lb Y) Y ?_) (fun _=>.same _)
 unfold g_eval_missing_of at H
 refine as2 [(0,.g (Geval_missing.cs t0))] [] Y (sg [0,1,2] Y (rq Y (MakeD.opD (n_box 2 Y Y) Y Y Y Y) (rq Y (MakeD.opD (u_alloc 4 Y in_32 one_32 zc_32) Y Y Y Y) (ra Y (rz [(4,.q 4 (0))] [(4,.pure (GValue.cs GValue.zero))] Y (sg [0,1,2] Y ?_))))))
 refine rp Y (u_bld Y in_32 one_32 zc_32 pl_32 Y Y) (rq Y (u_sw Y Y Y Y Y in_32 (GValue.len GValue.zero) (GValue.len GValue.zero) Y) (ra Y (rz [(4,_),(5,.i (5:Int))] [(4,.pure (GValue.cs GValue.zero))] Y (AW2_ret ?_))))
 have z:=se H; subst z
 exact ⟨⟨rcw U32 Y in_32 Y (GValue.len GValue.zero),rt,trivial⟩,trivial⟩
noncomputable def g_eval_thing_of:Nat→Geval_thing→(List GValue)→Option (GValue×Int)
  | 0,_,_=>none
  | _+1,.nil_,_=>none
  | fu+1,.sole y0 y1,a0=>g_eval_sole_of_b (g_eval_thing_of fu) ⟨y0,y1⟩ a0
  | fu+1,.twin y0 y1 y2,a0=>g_eval_twin_of_b (g_eval_thing_of fu) ⟨y0,y1,y2⟩ a0
  | fu+1,.fixed y0,a0=>g_eval_fixed_of ⟨y0⟩ a0
  | fu+1,.place y0,a0=>g_eval_place_of ⟨y0⟩ a0
  | fu+1,.missing,a0=>g_eval_missing_of ⟨⟩ a0
theorem g_eval_thing_of_icN : ∀ (fu : Nat) {x : Geval_thing} {a0 : List GValue} {r : GValue × Int}, g_eval_thing_of fu x a0 = some r → IC Tryz.prog (Geval_thing.val x) "chirograph/eval.of" [((fun q : List GValue => AV.lst (q.flatMap GValue.cs) q.length) a0)] (.tup [(.agg (GValue.cs r.1)), (AV.int r.2)])
  | 0,_,_,_,H=>(by cases H)
  | _+1,.nil_,_,_,H=>(by cases H)
  | fu+1,.sole y0 y1,_,_,H=>IC_of (t:=108) (f:=109) (cs:=Geval_sole.cs ⟨y0,y1⟩) U108 (by kernel_rfl) Tryz.func109 rfl rfl (Geval_sole.scl _) (g_eval_sole_of_ac0 (g_eval_thing_of_icN fu) H)
  | fu+1,.twin y0 y1 y2,_,_,H=>IC_of (t:=110) (f:=113) (cs:=Geval_twin.cs ⟨y0,y1,y2⟩) U110 (by kernel_rfl) Tryz.func113 rfl rfl (Geval_twin.scl _) (g_eval_twin_of_ac0 (g_eval_thing_of_icN fu) H)
  | fu+1,.fixed y0,_,_,H=>IC_of (t:=112) (f:=132) (cs:=Geval_fixed.cs ⟨y0⟩) U112 (by kernel_rfl) Tryz.func132 rfl rfl (Geval_fixed.scl _) (g_eval_fixed_of_ac H)
  | fu+1,.place y0,_,_,H=>IC_of (t:=114) (f:=133) (cs:=Geval_place.cs ⟨y0⟩) U114 (by kernel_rfl) Tryz.func133 rfl rfl (Geval_place.scl _) (g_eval_place_of_ac H)
  | fu+1,.missing,_,_,H=>IC_of (t:=116) (f:=134) (cs:=Geval_missing.cs ⟨⟩) U116 (by kernel_rfl) Tryz.func134 rfl rfl (Geval_missing.scl _) (g_eval_missing_of_ac H)
theorem g_eval_thing_of_ic {x : Geval_thing} {a0 : List GValue} {r : GValue × Int} (H : g_eval_thing_of 100000 x a0 = some r) : IC Tryz.prog (Geval_thing.val x) "chirograph/eval.of" [((fun q : List GValue => AV.lst (q.flatMap GValue.cs) q.length) a0)] (.tup [(.agg (GValue.cs r.1)), (AV.int r.2)]) := g_eval_thing_of_icN 100000 H
noncomputable def g_eval_Eval (e0:GExpr) (cols1:List GColumn) (row2:List GValue):Option (GValue×Int) :=
  (g_expr_Check e0).bind fun r'1=>(if r'1≠(0:Int) then some (GValue.zero,r'1) else (g_kinds_Row row2 cols1).bind fun r'2=>(if r'2≠(0:Int) then some (GValue.zero,r'2) else (g_eval_thingOf 100000 e0 cols1).bind fun r'3=>(g_eval_thing_of 100000 r'3 row2).bind fun r'4=>(if r'4.2≠(0:Int) then some (GValue.zero,r'4.2) else some (r'4.1,(0:Int)))))
set_option maxHeartbeats 4000000 in
set_option maxRecDepth 100000 in
theorem g_eval_Eval_ac {e0:GExpr} {cols1:List GColumn} {row2:List GValue} {r:GValue×Int} (H:g_eval_Eval e0 cols1 row2=some r):ACp Tryz.prog 31 [(.agg (GExpr.cs e0)),(GColumn.ls cols1),(GValue.ls row2)] (.tup [(.agg (GValue.cs r.1)),(AV.int r.2)]):=by
 refine ACp_of (AC2_of_body (vs:=[.g (GValue.cs r.1),.i r.2]) Tryz.func31 Y Y (lb Y) Y ?_) (fun _=>.same _)
 unfold g_eval_Eval at H
 refine as2 [(0,.g (GExpr.cs e0)),(1,.p (GColumn.ls cols1)),(2,.p (GValue.ls row2))] [] Y (sg [0,1,2] Y (rq Y (MakeD.opD (n_box 3 Y Y) Y Y Y Y) (rq Y (MakeD.opD (u_alloc 6 Y in_32 one_32 zc_32) Y Y Y Y) (ra Y (rz [(1,_),(2,_),(3,.q 3 (0)),(6,.q 6 (0))] [(3,.pure (GExpr.cs e0)),(6,.pure (GValue.cs GValue.zero))] Y (AW2_seq ?_))))))
 refine sg [0,1,2] Y (rp Y (u_lda Y Y U35 Y in_35 Y np (Sub.refl _) (GExpr.len e0)) (bindK H fun r'1 h1 H=>rp Y (p_callp Y Y Y Tryz.func42 Y Y (g_expr_Check_ac h1) ⟨Y,trivial⟩) (ra Y (rz [(1,_),(2,_),(3,_),(6,_),(8,.i r'1)] [(3,_),(6,_)] Y (sg [0,1] Y ?_)))))
 refine rm Y (rp Y (p_ine Y Y Y) (rz [(1,_),(2,_),(3,_),(6,_),(8,_),(15,.b (decide (r'1≠(0:Int))))] [(3,_),(6,_)] Y (if2 H Y (fun h2 H=>?_) (fun h2 H=>?_))))
 ·refine sg [0,1,2,3] Y (rp Y (u_bld Y in_32 one_32 zc_32 pl_32 Y Y) (rm Y (rq Y (u_sw Y Y Y Y Y in_32 (GValue.len GValue.zero) (GValue.len GValue.zero) Y) (ra Y (rz [(6,_),(7,.i r'1)] [(6,.pure (GValue.cs GValue.zero))] Y (AW2_ret ?_))))))
  have z:=se H; subst z
  exact ⟨⟨rcw U32 Y in_32 Y (GValue.len GValue.zero),rt,trivial⟩,trivial⟩
 refine as2 [(1,_),(2,_),(3,_),(6,_)] [(3,_),(6,_)] Y (AW2_skip (AW2_seq (sg [0,1,2,3] Y (rm Y (rm Y (bindK H fun r'2 h3 H=>?_))))))
 refine rp Y (p_callp Y Y Y Tryz.func30 Y Y (g_kinds_Row_ac h3) ⟨Y,Y,trivial⟩) (ra Y (rz [(1,_),(2,_),(3,_),(6,_),(9,.i r'2)] [(3,_),(6,_)] Y (sg [0,1] Y (rm Y (rp Y (p_ine Y Y Y) (rz [(1,_),(2,_),(3,_),(6,_),(9,_),(22,.b (decide (r'2≠(0:Int))))] [(3,_),(6,_)] Y ?_))))))
 refine if2 H Y (fun h4 H=>?_) (fun h4 H=>?_)
 ·refine sg [0,1,2,3] Y (rp Y (u_bld Y in_32 one_32 zc_32 pl_32 Y Y) (rm Y (rq Y (u_sw Y Y Y Y Y in_32 (GValue.len GValue.zero) (GValue.len GValue.zero) Y) (ra Y (rz [(6,_),(7,.i r'2)] [(6,.pure (GValue.cs GValue.zero))] Y (AW2_ret ?_))))))
  have z:=se H; subst z
  exact ⟨⟨rcw U32 Y in_32 Y (GValue.len GValue.zero),rt,trivial⟩,trivial⟩
 refine as2 [(1,_),(2,_),(3,_),(6,_)] [(3,_),(6,_)] Y (AW2_skip (sg [0,1,2,3,4,5,6,7,8,9,10] Y (rp Y (u_lda Y Y U35 Y in_35 Y np (Sub.refl _) (GExpr.len e0)) (rm Y (bindK H fun r'3 h5 H=>rp Y (p_callp Y Y Y Tryz.func45 Y Y (g_eval_thingOf_ac h5) ⟨Y,Y,trivial⟩) ?_)))))
 refine rm Y (bindK H fun r'4 h6 H=>rp Y (p_calli Y Y (g_eval_thing_of_ic h6) ⟨Y,trivial⟩) (rm Y (rp Y (p_ext Y Y Y Y) (rp Y (p_ext Y Y Y Y) (rq Y (MakeD.opD (u_alloc 10 Y in_32 one_32 zc_32) Y Y Y Y) ?_)))))
 refine rq Y (u_sw Y Y Y Y Y in_32 (GValue.len r'4.1) (GValue.len GValue.zero) Y) (ra Y (rz [(6,_),(10,.q 10 (0)),(11,.i r'4.2)] [(6,.pure (GValue.cs GValue.zero)),(10,.pure (GValue.cs r'4.1))] Y (AW2_seq (sg [0,1] Y (rm Y (rp Y (p_ine Y Y Y) ?_))))))
 refine rz [(6,_),(10,_),(11,_),(34,.b (decide (r'4.2≠(0:Int))))] [(6,_),(10,_)] Y (if2 H Y (fun h7 H=>?_) (fun h7 H=>?_))
 ·refine sg [0,1,2,3] Y (rp Y (u_bld Y in_32 one_32 zc_32 pl_32 Y Y) (rm Y (rq Y (u_sw Y Y Y Y Y in_32 (GValue.len GValue.zero) (GValue.len GValue.zero) Y) (ra Y (rz [(6,_),(7,.i r'4.2)] [(6,.pure (GValue.cs GValue.zero))] Y (AW2_ret ?_))))))
  have z:=se H; subst z
  exact ⟨⟨rcw U32 Y in_32 Y (GValue.len GValue.zero),rt,trivial⟩,trivial⟩
 refine as2 [(6,_),(10,_)] [(6,_),(10,_)] Y (AW2_skip (sg [0,1,2] Y (rp Y (u_lda Y Y U32 Y in_32 Y np (Sub.refl _) (GValue.len r'4.1)) (rq Y (u_sw Y Y Y Y Y in_32 (GValue.len r'4.1) (GValue.len GValue.zero) Y) (ra Y (rz [(6,_),(7,.i (0:Int))] [(6,.pure (GValue.cs r'4.1))] Y ?_))))))
 refine AW2_ret ?_
 have z:=se H; subst z
 exact ⟨⟨rcw U32 Y in_32 Y (GValue.len r'4.1),rt,trivial⟩,trivial⟩
noncomputable def g_table_Holds (e0:GExpr) (cols1:List GColumn) (r2:List GValue):Option (Bool×Int) :=
  (g_table_Condition e0 cols1).bind fun r'1=>(if r'1≠(0:Int) then some (false,r'1) else (g_kinds_Row r2 cols1).bind fun r'2=>(if r'2≠(0:Int) then some (false,r'2) else (g_table_none e0).bind fun r'3=>(if r'3=true then some (true,(0:Int)) else (g_eval_Eval e0 cols1 r2).bind fun r'4=>some ((decide (r'4.1.Int_=(1:Int))),r'4.2))))
set_option maxHeartbeats 4000000 in
set_option maxRecDepth 100000 in
theorem g_table_Holds_ac {e0:GExpr} {cols1:List GColumn} {r2:List GValue} {r:Bool×Int} (H:g_table_Holds e0 cols1 r2=some r):ACp Tryz.prog 12 [(.agg (GExpr.cs e0)),(GColumn.ls cols1),(GValue.ls r2)] (.tup [(AV.bool r.1),(AV.int r.2)]):=by
 refine ACp_of (AC2_of_body (vs:=[.b r.1,.i r.2]) Tryz.func12 Y Y (lb Y) Y ?_) (fun _=>.same _)
 unfold g_table_Holds at H
 refine as2 [(0,.g (GExpr.cs e0)),(1,.p (GColumn.ls cols1)),(2,.p (GValue.ls r2))] [] Y (sg [0,1,2] Y (rq Y (MakeD.opD (n_box 3 Y Y) Y Y Y Y) (ra Y (ra Y (rz [(1,_),(2,_),(3,.q 3 (0))] [(3,.pure (GExpr.cs e0))] Y (AW2_seq ?_))))))
 refine sg [0,1,2,3] Y (rp Y (u_lda Y Y U35 Y in_35 Y np (Sub.refl _) (GExpr.len e0)) (rm Y (bindK H fun r'1 h1 H=>rp Y (p_callp Y Y Y Tryz.func11 Y Y (g_table_Condition_ac h1) ⟨Y,Y,trivial⟩) (ra Y (rz [(1,_),(2,_),(3,_),(8,.i r'1)] [(3,_)] Y ?_)))))
 refine sg [0,1] Y (rm Y (rp Y (p_ine Y Y Y) (rz [(1,_),(2,_),(3,_),(8,_),(16,.b (decide (r'1≠(0:Int))))] [(3,_)] Y (if2 H Y (fun h2 H=>?_) (fun h2 H=>?_)))))
 ·refine sg [0,1,2] Y (rm Y (ra Y (ra Y (rz [(6,.b false),(7,.i r'1)] [] Y (AW2_ret ?_)))))
  have z:=se H; subst z
  exact ⟨⟨rt,rt,trivial⟩,trivial⟩
 refine as2 [(1,_),(2,_),(3,_)] [(3,_)] Y (AW2_skip (AW2_seq (sg [0,1,2,3] Y (rm Y (rm Y (bindK H fun r'2 h3 H=>?_))))))
 refine rp Y (p_callp Y Y Y Tryz.func30 Y Y (g_kinds_Row_ac h3) ⟨Y,Y,trivial⟩) (ra Y (rz [(1,_),(2,_),(3,_),(9,.i r'2)] [(3,_)] Y (sg [0,1] Y (rm Y (rp Y (p_ine Y Y Y) (rz [(1,_),(2,_),(3,_),(9,_),(22,.b (decide (r'2≠(0:Int))))] [(3,_)] Y ?_))))))
 refine if2 H Y (fun h4 H=>?_) (fun h4 H=>?_)
 ·refine sg [0,1,2] Y (rm Y (ra Y (ra Y (rz [(6,.b false),(7,.i r'2)] [] Y (AW2_ret ?_)))))
  have z:=se H; subst z
  exact ⟨⟨rt,rt,trivial⟩,trivial⟩
 refine as2 [(1,_),(2,_),(3,_)] [(3,_)] Y (AW2_skip (AW2_seq (sg [0,1] Y (rp Y (u_lda Y Y U35 Y in_35 Y np (Sub.refl _) (GExpr.len e0)) (bindK H fun r'3 h5 H=>rp Y (p_callp Y Y Y Tryz.func27 Y Y (g_table_none_ac h5) ⟨Y,trivial⟩) ?_)))))
 refine rz [(1,_),(2,_),(3,_),(25,.b r'3)] [(3,_)] Y (AW2_cond Y (fun h6=>?_) (fun h6=>?_))
 ·replace H:=ite_then h6 H
  refine sg [0,1] Y (ra Y (ra Y (rz [(6,.b true),(7,.i (0:Int))] [] Y (AW2_ret ?_))))
  have z:=se H; subst z
  exact ⟨⟨rt,rt,trivial⟩,trivial⟩
 replace H:=ite_else (ne_true h6) H
 refine as2 [(1,.p (GColumn.ls cols1)),(2,.p (GValue.ls r2)),(3,.q 3 (0))] [(3,.pure (GExpr.cs e0))] Y (AW2_skip (sg [0,1,2,3,4,5,6,7,8,9] Y (rp Y (u_lda Y Y U35 Y in_35 Y np (Sub.refl _) (GExpr.len e0)) (rm Y (rm Y (bindK H fun r'4 h7 H=>?_))))))
 refine rp Y (p_callp Y Y Y Tryz.func31 Y Y (g_eval_Eval_ac h7) ⟨Y,Y,Y,trivial⟩) (rm Y (rp Y (p_ext Y Y Y Y) (rp Y (p_ext Y Y Y Y) (rq Y (MakeD.opD (u_alloc 10 Y in_32 one_32 zc_32) Y Y Y Y) (rq Y (u_sw Y Y Y Y Y in_32 (GValue.len r'4.1) (GValue.len GValue.zero) Y) (ra Y ?_))))))
 refine rz [(10,.q 10 (0)),(11,.i r'4.2)] [(10,.pure (GValue.cs r'4.1))] Y (sg [0,1,2,3,4,5] Y (rf Y U32 Y in_3 Y Y (GValue.len r'4.1) (rp Y (u_ld Y Y U3 Y Y (GValue.sub1 r'4.1)) (rp Y (p_ieq Y Y Y) (rm Y (ra Y ?_))))))
 refine ra Y (rz [(6,.b (decide (r'4.1.Int_=(1:Int)))),(7,.i r'4.2)] [] Y (AW2_ret ?_))
 have z:=se H; subst z
 exact ⟨⟨rt,rt,trivial⟩,trivial⟩
def g_table_Delete_r12:List (List (Nat×Option Nat)):=[[(5,none)],[(3,none)],[(46,some 1)],[(12,none)],[(48,some 3)],[(49,some 4)],[(50,some 5)],[(45,some 0),(47,some 2),(51,some 6)],[(52,some 7)],[(44,some 8)],[(44,some 8)],[(53,some 9)]]
def g_table_Delete_r12c:List (List Nat):=[[],[],[1],[],[3],[3,4],[3,4,5],[0,1,2,3,4,5,6],[0,1,2,3,4,5,6,7],[0,1,2,3,4,5,6,7,8],[0,1,2,3,4,5,6,7,8],[0,1,2,3,4,5,6,7,8,9],[0,1,2,3,4,5,6,7,8,9,10,11]]
noncomputable def g_table_Delete_l0 (drawer1:Int) (where2:GExpr):Int×Int×GTable→Option ((Int×Int×GTable)⊕((GTable×Int×Int)⊕(Int×GTable)))
  | (n10_0,t31_0,t3_0)=>(if t31_0 < (4:Int) then (show Option ((GTable×Int×Int)⊕(Int×GTable)) from if 0≤drawer1∧drawer1 < (2:Int) then if 0≤t31_0∧t31_0 < (4:Int) then (if (!((vrd (vrd t3_0.Drawers drawer1.toNat) t31_0.toNat).Full))=true then some (.inr (n10_0,t3_0)) else (g_table_Holds where2 t3_0.Cols ((vrd (vrd t3_0.Drawers drawer1.toNat) t31_0.toNat).Row)).bind fun r'5=>(if r'5.2≠(0:Int) then some (.inl (GTable.zero,(0:Int),r'5.2)) else (if r'5.1=true then letO ({ t3_0 with Drawers:=(vwr t3_0.Drawers drawer1.toNat (vwr (vrd t3_0.Drawers drawer1.toNat) t31_0.toNat GCell.zero)) }) fun t3'6=>some (.inr (w64 (n10_0+(1:Int)),t3'6)) else some (.inr (n10_0,t3_0))))) else none else none).bind fun o'8=>match o'8 with | .inl y'7=>some (.inr (.inl y'7)) | .inr j'4=>some (.inl (j'4.1,w64 (t31_0+(1:Int)),j'4.2)) else some (.inr (.inr (n10_0,t3_0))))
noncomputable def g_table_Delete (t0:GTable) (drawer1:Int) (where2:GExpr):Option (GTable×Int×Int) :=
  (g_table_begun t0 drawer1).bind fun r'1=>((if r'1.2=(0:Int) then (g_table_Condition where2 r'1.1.Cols).bind fun r'3=>some r'3 else some r'1.2)).bind fun j'2=>(if j'2≠(0:Int) then some (GTable.zero,(0:Int),j'2) else (loopO (g_table_Delete_l0 drawer1 where2) ((0:Int),(0:Int),r'1.1)).bind fun o'12=>match o'12 with | .inl y'13=>some y'13 | .inr (y'14)=>some (y'14.2,y'14.1,(0:Int)))
set_option maxHeartbeats 4000000 in
set_option maxRecDepth 100000 in
theorem g_table_Delete_ac {t0:GTable} {drawer1:Int} {where2:GExpr} {r:GTable×Int×Int} (H:g_table_Delete t0 drawer1 where2=some r):ACp Tryz.prog 5 [(.agg (GTable.cs t0)),(AV.int drawer1),(.agg (GExpr.cs where2))] (.tup [(.agg (GTable.cs r.1)),(AV.int r.2.1),(AV.int r.2.2)]):=by
 refine ACp_of (AC2_of_body (vs:=[.g (GTable.cs r.1),.i r.2.1,.i r.2.2]) Tryz.func5 Y Y (lb Y) Y ?_) (fun _=>.same _)
 unfold g_table_Delete at H
 refine as2 [(0,.g (GTable.cs t0)),(1,.i drawer1),(2,.g (GExpr.cs where2))] [] Y (sg [0,1,2,3,4] Y (rq Y (MakeD.opD (n_box 3 Y Y) Y Y Y Y) (rq Y (MakeD.opD (n_box 5 Y Y) Y Y Y Y) (rq Y (MakeD.opD (u_alloc 6 Y in_29 one_29 zc_29) Y Y Y Y) (ra Y (ra Y ?_))))))
 refine rz [(1,_),(3,.q 3 (0)),(5,.q 5 (0)),(6,.q 6 (0))] [(3,.pure (GTable.cs t0)),(5,.pure (GExpr.cs where2)),(6,.pure (GTable.cs GTable.zero))] Y (sg [0,1,2,3,4,5,6,7] Y (rp Y (u_lda Y Y U29 Y in_29 Y np (Sub.refl _) (GTable.len t0)) (rm Y (bindK H fun r'1 h1 H=>rp Y (p_callp Y Y Y Tryz.func10 Y Y (g_table_begun_ac h1) ⟨Y,Y,trivial⟩) (rm Y ?_)))))
 refine rp Y (p_ext Y Y Y Y) (rp Y (p_ext Y Y Y Y) (rq Y (u_sw Y Y Y Y Y in_29 (GTable.len r'1.1) (GTable.len t0) Y) (ra Y (rz [(1,_),(3,_),(5,_),(6,_),(9,.i r'1.2)] [(3,.pure (GTable.cs r'1.1)),(5,.pure (GExpr.cs where2)),(6,.pure (GTable.cs GTable.zero))] Y (AW2_seq (bindK H fun j'2 h2 H=>?_))))))
 refine AW2_mid (⟨[(1,.i drawer1),(3,.q 3 (0)),(5,.q 5 (0)),(6,.q 6 (0)),(9,.i j'2)],[(3,.pure (GTable.cs r'1.1)),(5,.pure (GExpr.cs where2)),(6,.pure (GTable.cs GTable.zero))],68⟩:TS) ?_ ?_
 ·clear H
  have H:=h2
  clear h2
  refine sg [0,1] Y (rm Y (rp Y (p_ieq Y Y Y) (rz [(1,.i drawer1),(3,.q 3 (0)),(5,.q 5 (0)),(6,.q 6 (0)),(9,.i r'1.2),(22,.b (decide (r'1.2=(0:Int))))] [(3,.pure (GTable.cs r'1.1)),(5,.pure (GExpr.cs where2)),(6,.pure (GTable.cs GTable.zero))] Y (if2 H Y (fun h3 H=>?_) (fun h3 H=>?_)))))
  ·refine AW2_reg [0,1,2,3,4] Y (rp Y (u_lda Y Y U35 Y in_35 Y np (Sub.refl _) (GExpr.len where2)) (rf Y U29 Y in_22 Y Y (GTable.len r'1.1) (rp Y (u_ld Y Y U22 Y Y (GTable.sub2 r'1.1)) (bindK H fun r'3 h4 H=>rp Y (p_callp Y Y Y Tryz.func11 Y Y (g_table_Condition_ac h4) ⟨Y,Y,trivial⟩) (ra Y ?_)))))
   refine rz [(1,_),(3,_),(5,_),(6,_),(9,.i r'3)] [(3,_),(5,_),(6,_)] Y ?_
   have z:=se H; subst z
   exact rfl
  refine as2 [(1,_),(3,_),(5,_),(6,_),(9,_)] [(3,_),(5,_),(6,_)] Y (AW2_skip ?_)
  have z:=se H; subst z
  exact rfl
 refine AW2_seq (sg [0,1] Y (rm Y (rp Y (p_ine Y Y Y) (rz [(1,_),(3,_),(5,_),(6,_),(9,_),(28,.b (decide (j'2≠(0:Int))))] [(3,_),(5,_),(6,_)] Y (if2 H Y (fun h5 H=>?_) (fun h5 H=>?_))))))
 ·refine sg [0,1,2,3,4] Y (rp Y (u_bld Y in_29 one_29 zc_29 pl_29 Y Y) (rm Y (rq Y (u_sw Y Y Y Y Y in_29 (GTable.len GTable.zero) (GTable.len GTable.zero) Y) (ra Y (ra Y (rz [(6,_),(7,.i (0:Int)),(8,.i j'2)] [(6,.pure (GTable.cs GTable.zero))] Y ?_))))))
  refine AW2_ret ?_
  have z:=se H; subst z
  exact ⟨⟨rcw U29 Y in_29 Y (GTable.len GTable.zero),rt,rt,trivial⟩,trivial⟩
 refine as2 [(1,_),(3,_),(5,_),(6,_)] [(3,_),(5,_),(6,_)] Y (AW2_skip (sg [0] Y (ra Y (rz [(1,_),(3,_),(5,_),(6,_),(10,.i (0:Int))] [(3,_),(5,_),(6,_)] Y (AW2_seq (sg [0] Y ?_))))))
 refine rm Y (rz [(1,_),(3,_),(5,_),(6,_),(10,_),(31,.i (0:Int))] [(3,_),(5,_),(6,_)] Y (AW2_block (as2 [(1,_),(3,_),(5,_),(6,_),(10,_),(31,_)] [(3,_),(5,_),(6,_)] Y (bindK H fun o'12 h14 H=>AW2_loopO (fun a'9:Int×Int×GTable=>(⟨[(1,.i drawer1),(3,.q 3 (0)),(5,.q 5 (0)),(6,.q 6 (0)),(10,.i a'9.1),(31,.i a'9.2.1)],[(3,.pure (GTable.cs a'9.2.2)),(5,.pure (GExpr.cs where2)),(6,.pure (GTable.cs GTable.zero))],68⟩:TS)) (fun (o:(GTable×Int×Int)⊕(Int×GTable)) e s'=>match o with | .inl y'10=>e=Go.Exit.ret∧ResAll Tryz.prog s' [ResultVar.cell 6 29,ResultVar.tmp 7,ResultVar.tmp 8] [.g (GTable.cs y'10.1),.i y'10.2.1,.i y'10.2.2]∧HFits s' [] | .inr (y'11)=>e=Go.Exit.exit 0∧s'=(⟨[(3,.q 3 (0)),(6,.q 6 (0)),(10,.i y'11.1)],[(3,.pure (GTable.cs y'11.2)),(6,.pure (GTable.cs GTable.zero))],68⟩:TS)) h14 Y (fun a x hx=>?_) (fun e s' hs=>?_)))))
 ·clear H
  obtain ⟨n10_0,t31_0,t3_0⟩:=a
  have H:=hx
  clear hx
  unfold g_table_Delete_l0 at H
  refine sg [0] Y (rp Y (p_bin Y Y Y Y) (rz [(1,.i drawer1),(3,.q 3 (0)),(5,.q 5 (0)),(6,.q 6 (0)),(10,.i n10_0),(31,.i t31_0),(32,.b (decide (t31_0 < (4:Int))))] [(3,.pure (GTable.cs t3_0)),(5,.pure (GExpr.cs where2)),(6,.pure (GTable.cs GTable.zero))] Y (AW2_seq (if2 H Y (fun h6 H=>?_) (fun h6 H=>?_)))))
  ·refine as2 [(1,_),(3,_),(5,_),(6,_),(10,_),(31,_)] [(3,_),(5,_),(6,_)] Y (AW2_skip (AW2_seq (bindK H fun o'8 h7 H=>AW2_join (fun j'4:Int×GTable=>(⟨[(1,.i drawer1),(3,.q 3 (0)),(5,.q 5 (0)),(6,.q 6 (0)),(10,.i j'4.1),(31,.i t31_0)],[(3,.pure (GTable.cs j'4.2)),(5,.pure (GExpr.cs where2)),(6,.pure (GTable.cs GTable.zero))],68⟩:TS)) (fun r e s'=>e=Go.Exit.ret∧ResAll Tryz.prog s' [ResultVar.cell 6 29,ResultVar.tmp 7,ResultVar.tmp 8] [.g (GTable.cs r.1),.i r.2.1,.i r.2.2]∧HFits s' []) (x:=o'8) ?_ (fun j'4 hy=>?_) (fun y'7 e s' hy hs=>?_))))
   ·clear H
    have H:=h7
    clear h7
    refine AW2_block (sg [0,1] Y (rm Y (ra Y (rz [(1,.i drawer1),(3,.q 3 (0)),(5,.q 5 (0)),(6,.q 6 (0)),(10,.i n10_0),(11,.i t31_0),(31,.i t31_0)] [(3,.pure (GTable.cs t3_0)),(5,.pure (GExpr.cs where2)),(6,.pure (GTable.cs GTable.zero))] Y (sg [0,1,2,3,4,5] Y (rm Y ?_))))))
    refine rm Y (rf Y U29 Y in_27 Y Y (GTable.len t3_0) (chkK H fun h8 H=>rp Y (u_ixp Y Y U27 in_26 Y Y (nl (GTable.len t3_0)) Y (ixe h8) (ixn h8)) (chkK H fun h9 H=>rp Y (u_ixp Y Y U26 in_25 Y Y (nl (GTable.len t3_0)) Y (ixe h9) (ixn h9)) (ra Y ?_))))
    refine rz [(1,_),(3,_),(5,_),(6,_),(10,_),(12,.q 3 (0+3+drawer1.toNat * 8+t31_0.toNat * 2)),(31,_)] [(3,_),(5,_),(6,_)] Y (AW2_seq (sg [0,1,2,3,4] Y (rm Y (rp Y (p_nilc Y Y Y Y (fun _=>(nl (GTable.len t3_0)))) (rf Y U25 Y in_4 Y Y (GTable.len t3_0) (rp Y (u_ld Y Y U4 Y Y ((((GTable.sub3 t3_0).trans (Sub.vfm (fun x=>(vfm_len (fun x=>(GCell.len x)) x)) (ixn h8))).trans (Sub.vfm (fun x=>(GCell.len x)) (ixn h9))).trans (GCell.sub0 (vrd (vrd t3_0.Drawers drawer1.toNat) t31_0.toNat)))) ?_))))))
    refine rp Y (p_not Y Y) (rz [(1,_),(3,_),(5,_),(6,_),(10,_),(12,_),(31,_),(43,.b (!((vrd (vrd t3_0.Drawers drawer1.toNat) t31_0.toNat).Full)))] [(3,_),(5,_),(6,_)] Y (AW2_cond Y (fun h10=>?_) (fun h10=>?_)))
    ·replace H:=ite_then h10 H
     refine as2 [(1,.i drawer1),(3,.q 3 (0)),(5,.q 5 (0)),(6,.q 6 (0)),(10,.i n10_0),(31,.i t31_0)] [(3,.pure (GTable.cs t3_0)),(5,.pure (GExpr.cs where2)),(6,.pure (GTable.cs GTable.zero))] Y (AW2_exit (thenQ2_exit (blockQ2_exit ?_)))
     have z:=se H; subst z
     exact ⟨Y,Y⟩
    replace H:=ite_else (ne_true h10) H
    refine as2 [(1,.i drawer1),(3,.q 3 (0)),(5,.q 5 (0)),(6,.q 6 (0)),(10,.i n10_0),(12,.q 3 (0+3+drawer1.toNat * 8+t31_0.toNat * 2)),(31,.i t31_0)] [(3,.pure (GTable.cs t3_0)),(5,.pure (GExpr.cs where2)),(6,.pure (GTable.cs GTable.zero))] Y (AW2_skip (AW2_seq (bindK H fun r'5 h11 H=>AW2_ghoQ (AW2_draw 12 [12] (fun k=>([.g (GExpr.cs where2),.q 3 (0+2),.p (GColumn.ls t3_0.Cols),.q 3 (0+3+drawer1.toNat * 8+t31_0.toNat * 2),.q 3 (0+3+drawer1.toNat * 8+t31_0.toNat * 2),.q 3 (0+3+drawer1.toNat * 8+t31_0.toNat * 2+1),.p (GValue.ls ((vrd (vrd t3_0.Drawers drawer1.toNat) t31_0.toNat).Row)),.p (.tup [(AV.bool r'5.1),(AV.int r'5.2)]),.p (.tup [(AV.bool r'5.1),(AV.int r'5.2)]),.b r'5.1,.i r'5.2,.b r'5.1]:List TV).getD k TV.any) (fun k=>g_table_Delete_r12.getD k []) [(1,none),(3,none),(5,none),(6,none),(10,none),(12,none),(13,some 11),(31,none),(54,some 10)] [] (fun k=>g_table_Delete_r12c.getD k []) mixed (by kernel_rfl) Y Y (a_op (g_x Y (x_p Y (u_lda Y Y U35 Y in_35 Y np (Sub.refl _) (GExpr.len where2)) Y)) (a_op (g_x Y (x_p Y (u_fa Y Y U29 Y in_22 nz Y Y (nl (GTable.len t3_0))) Y)) (a_op (g_x Y (x_p Y (u_ld Y Y U22 Y Y (GTable.sub2 t3_0)) Y)) (a_op (g_x Y (x_p Y (p_move Y Y) Y)) (a_op (g_x Y (x_p Y (p_nilc Y Y Y Y (fun _=>(nl (GTable.len t3_0)))) Y)) (a_op (g_x Y (x_p Y (u_fa Y Y U25 Y in_23 nz Y Y (nl (GTable.len t3_0))) Y)) (a_op (g_x Y (x_p Y (u_ld Y Y U23 Y Y ((((GTable.sub3 t3_0).trans (Sub.vfm (fun x=>(vfm_len (fun x=>(GCell.len x)) x)) (ixn h8))).trans (Sub.vfm (fun x=>(GCell.len x)) (ixn h9))).trans (GCell.sub1 (vrd (vrd t3_0.Drawers drawer1.toNat) t31_0.toNat)))) Y)) (a_op (g_x Y (x_p Y (p_callp Y Y Y Tryz.func12 Y Y (g_table_Holds_ac h11) ⟨Y,Y,Y,trivial⟩) Y)) (a_op (g_x Y (x_p Y (p_move Y Y) Y)) (a_op (g_x Y (x_p Y (p_ext Y Y Y Y) Y)) (a_op (g_x Y (x_p Y (p_ext Y Y Y Y) Y)) (a_op (g_x Y (x_p Y (p_asg Y Y) Y)) (a_nil))))))))))))) (t_op Y Y (PureD.opD (p_asg Y Y)) ?_)))))
    refine t_gho (Gho_st (L:=[(1,.i drawer1),(3,.q 3 (0)),(5,.q 5 (0)),(6,.q 6 (0)),(10,.i n10_0),(12,.q 3 (0+3+drawer1.toNat * 8+t31_0.toNat * 2)),(13,.b r'5.1),(14,.i r'5.2),(31,.i t31_0)]) (H:=[(3,.pure (GTable.cs t3_0)),(5,.pure (GExpr.cs where2)),(6,.pure (GTable.cs GTable.zero))]) (N:=68) Y ⟨TLes.same _,TLes.same _,TLes.same _,TLes.same _,TLes.same _,TLes.same _,TLes.same _,TLes.same _,TLes.same _,trivial⟩ ⟨Y,Y,Y,trivial⟩) (AW2_seq (sg [0,1] Y (rm Y (rp Y (p_ine Y Y Y) (rz [(1,.i drawer1),(3,.q 3 (0)),(5,.q 5 (0)),(6,.q 6 (0)),(10,.i n10_0),(12,.q 3 (0+3+drawer1.toNat * 8+t31_0.toNat * 2)),(13,.b r'5.1),(14,.i r'5.2),(31,.i t31_0),(56,.b (decide (r'5.2≠(0:Int))))] [(3,.pure (GTable.cs t3_0)),(5,.pure (GExpr.cs where2)),(6,.pure (GTable.cs GTable.zero))] Y (if2 H Y (fun h12 H=>?_) (fun h12 H=>?_)))))))
    ·refine sg [0,1,2,3,4] Y (rp Y (u_bld Y in_29 one_29 zc_29 pl_29 Y Y) (rm Y (rq Y (u_sw Y Y Y Y Y in_29 (GTable.len GTable.zero) (GTable.len GTable.zero) Y) (ra Y (ra Y (rz [(6,_),(7,.i (0:Int)),(8,.i r'5.2)] [(6,.pure (GTable.cs GTable.zero))] Y ?_))))))
     refine AW2_ret ?_
     have z:=se H; subst z
     exact ⟨Y,⟨rcw U29 Y in_29 Y (GTable.len GTable.zero),rt,rt,trivial⟩,trivial⟩
    refine as2 [(1,_),(3,_),(5,_),(6,_),(10,_),(12,_),(13,_),(31,_)] [(3,_),(5,_),(6,_)] Y (AW2_skip (sg [0] Y (rm Y (rz [(1,_),(3,_),(5,_),(6,_),(10,_),(12,_),(31,_),(59,.b r'5.1)] [(3,_),(5,_),(6,_)] Y (AW2_cond Y (fun h13=>?_) (fun h13=>?_))))))
    ·replace H:=ite_then h13 H
     refine sg [0,1,2] Y (rm Y (rp Y (p_bin Y Y Y Y) (ra Y (rz [(1,.i drawer1),(3,.q 3 (0)),(5,.q 5 (0)),(6,.q 6 (0)),(10,.i (w64 (n10_0+(1:Int)))),(12,.q 3 (0+3+drawer1.toNat * 8+t31_0.toNat * 2)),(31,.i t31_0)] [(3,.pure (GTable.cs t3_0)),(5,.pure (GExpr.cs where2)),(6,.pure (GTable.cs GTable.zero))] Y (AW2_reg [0,1,2,3] Y (rm Y ?_))))))
     refine rp Y (u_bld Y in_25 one_25 zc_25 pl_25 Y Y) (rp Y (p_nilc Y Y Y Y (fun _=>(nl (GTable.len t3_0)))) (rq Y (u_st Y Y Y Y Y in_25 (GCell.len GCell.zero) (nl (GTable.len t3_0)) (Upd.trans ((GTable.sub3 t3_0).trans (Sub.vfm (fun x=>(vfm_len (fun x=>(GCell.len x)) x)) (ixn h8))) (Upd.vfm (fun x=>(GCell.len x)) (ixn h9)) (Upd.trans (GTable.sub3 t3_0) (Upd.vfm (fun x=>(vfm_len (fun x=>(GCell.len x)) x)) (ixn h8)) (Upd.trans (Sub.refl _) (GTable.upd3 t3_0 (vwr t3_0.Drawers drawer1.toNat (vwr (vrd t3_0.Drawers drawer1.toNat) t31_0.toNat GCell.zero))) (Upd.refl ((GTable.len ((GTable.w3 t3_0 (vwr t3_0.Drawers drawer1.toNat (vwr (vrd t3_0.Drawers drawer1.toNat) t31_0.toNat GCell.zero))))).trans (GTable.len t3_0).symm)))))) (rz [(1,_),(3,_),(5,_),(6,_),(10,_),(31,_)] [(3,.pure (GTable.cs ((GTable.w3 t3_0 (vwr t3_0.Drawers drawer1.toNat (vwr (vrd t3_0.Drawers drawer1.toNat) t31_0.toNat GCell.zero)))))),(5,.pure (GExpr.cs where2)),(6,.pure (GTable.cs GTable.zero))] Y (gen1 (fun t3'6=>(⟨[(1,.i drawer1),(3,.q 3 (0)),(5,.q 5 (0)),(6,.q 6 (0)),(10,.i (w64 (n10_0+(1:Int)))),(31,.i t31_0)],[(3,.pure (GTable.cs t3'6)),(5,.pure (GExpr.cs where2)),(6,.pure (GTable.cs GTable.zero))],68⟩:TS)) H ?_))))
     intro t3'6 H
     have z:=se H; subst z
     exact ⟨Y,Y⟩
    replace H:=ite_else (ne_true h13) H
    refine as2 [(1,.i drawer1),(3,.q 3 (0)),(5,.q 5 (0)),(6,.q 6 (0)),(10,.i n10_0),(31,.i t31_0)] [(3,.pure (GTable.cs t3_0)),(5,.pure (GExpr.cs where2)),(6,.pure (GTable.cs GTable.zero))] Y (AW2_skip ?_)
    have z:=se H; subst z
    exact ⟨Y,Y⟩
   ·subst hy
    refine AW2_reg [0,1] Y (rp Y (p_bin Y Y Y Y) (rm Y (rz [(1,.i drawer1),(3,.q 3 (0)),(5,.q 5 (0)),(6,.q 6 (0)),(10,.i j'4.1),(31,.i (w64 (t31_0+(1:Int))))] [(3,.pure (GTable.cs j'4.2)),(5,.pure (GExpr.cs where2)),(6,.pure (GTable.cs GTable.zero))] Y ?_)))
    have z:=se H; subst z
    exact ⟨Y,Y⟩
   subst hy
   obtain ⟨rfl,hs⟩:=hs
   have z:=se H; subst z
   exact ⟨Y,hs.1,hs.2⟩
  refine as2 [(3,_),(6,_),(10,_)] [(3,_),(6,_)] Y (AW2_exit (thenQ2_exit ?_))
  have z:=se H; subst z
  exact ⟨Y,Y⟩
 rcases o'12 with y'13 | y'14
 ·obtain ⟨rfl,hs⟩:=hs
  refine ⟨by simp,?_⟩
  have z:=se H; subst z
  exact ⟨hs.1,hs.2⟩
 obtain ⟨rfl,rfl⟩:=hs
 refine ⟨by simp,?_⟩
 refine blockQ2_exit (sg [0,1,2,3,4] Y (rp Y (u_lda Y Y U29 Y in_29 Y np (Sub.refl _) (GTable.len y'14.2)) (rm Y (rq Y (u_sw Y Y Y Y Y in_29 (GTable.len y'14.2) (GTable.len GTable.zero) Y) (ra Y (ra Y ?_))))))
 refine rz [(6,.q 6 (0)),(7,.i y'14.1),(8,.i (0:Int))] [(6,.pure (GTable.cs y'14.2))] Y (AW2_ret ?_)
 have z:=se H; subst z
 exact ⟨⟨rcw U29 Y in_29 Y (GTable.len y'14.2),rt,rt,trivial⟩,trivial⟩
noncomputable def g_ref_among_l0 (c0:UInt8) (l1:List UInt8):Int→Option (Int⊕(Bool⊕Unit))
  | i5_0=>(if i5_0 < (l1.length:Int) then if 0≤i5_0∧i5_0 < (l1.length:Int) then (if (lrd l1 i5_0.toNat)=c0 then some (.inr (.inl true)) else some (.inl (w64 (i5_0+(1:Int))))) else none else some (.inr (.inr ())))
noncomputable def g_ref_among (c0:UInt8) (l1:List UInt8):Option (Bool) :=
  (loopO (g_ref_among_l0 c0 l1) (0:Int)).bind fun o'4=>match o'4 with | .inl y'5=>some y'5 | .inr (y'6)=>some false
set_option maxHeartbeats 4000000 in
set_option maxRecDepth 100000 in
theorem g_ref_among_ac {c0:UInt8} {l1:List UInt8} {r:Bool} (H:g_ref_among c0 l1=some r):ACp Tryz.prog 68 [(AV.b8 c0),(AV.txt l1)] (AV.bool r):=by
 refine ACp_of (AC2_of_body (vs:=[.b r]) Tryz.func68 Y Y (lb Y) Y ?_) (fun _=>.same _)
 unfold g_ref_among at H
 refine as2 [(0,.p (AV.b8 c0)),(1,.t l1)] [] Y (sg [0] Y (ra Y (rz [(0,_),(1,_)] [] Y (AW2_seq (sg [0] Y (ra Y ?_))))))
 refine rz [(0,_),(1,_),(5,.i (0:Int))] [] Y (AW2_block (as2 [(0,_),(1,_),(5,_)] [] Y (bindK H fun o'4 h4 H=>AW2_loopO (fun a'1:Int=>(⟨[(0,.p (AV.b8 c0)),(1,.t l1),(5,.i a'1)],[],17⟩:TS)) (fun (o:Bool⊕Unit) e s'=>match o with | .inl y'2=>e=Go.Exit.ret∧ResAll Tryz.prog s' [ResultVar.tmp 4] [.b y'2]∧HFits s' [] | .inr (y'3)=>e=Go.Exit.exit 0∧s'=(⟨[],[],17⟩:TS)) h4 Y (fun i5_0 x hx=>?_) (fun e s' hs=>?_))))
 ·clear H
  have H:=hx
  clear hx
  unfold g_ref_among_l0 at H
  refine AW2_seq (sg [0,1,2,3] Y (rm Y (rm Y (rp Y (p_lent Y U9 Y) (rp Y (p_bin Y Y Y Y) (rz [(0,.p (AV.b8 c0)),(1,.t l1),(5,.i i5_0),(9,.b (decide (i5_0 < (l1.length:Int))))] [] Y ?_))))))
  refine if2 H Y (fun h1 H=>?_) (fun h1 H=>?_)
  ·refine as2 [(0,_),(1,_),(5,_)] [] Y (AW2_skip (AW2_seq (AW2_block (sg [0,1,2,3,4] Y (rm Y (rm Y ?_))))))
   refine chkK H fun h2 H=>rp Y (p_ixt Y U9 Y Y (ixe h2) (lrd_get (ixn h2))) (rm Y (rp Y (p_u8eq (a:=(lrd l1 i5_0.toNat)) (b:=c0) Y Y Y) (rz [(0,_),(1,_),(5,_),(16,.b (decide ((lrd l1 i5_0.toNat)=c0)))] [] Y (if2 H Y (fun h3 H=>?_) (fun h3 H=>?_)))))
   ·refine sg [0] Y (ra Y (rz [(4,.b true)] [] Y (AW2_ret ?_)))
    have z:=se H; subst z
    exact ⟨Y,⟨rt,trivial⟩,trivial⟩
   refine as2 [(0,_),(1,_),(5,_)] [] Y (AW2_skip (AW2_reg [0,1,2] Y (rm Y (rp Y (p_bin Y Y Y Y) (ra Y (rz [(0,_),(1,_),(5,.i (w64 (i5_0+(1:Int))))] [] Y ?_))))))
   have z:=se H; subst z
   exact ⟨Y,Y⟩
  refine as2 [] [] Y (AW2_exit (thenQ2_exit ?_))
  have z:=se H; subst z
  exact ⟨Y,Y⟩
 rcases o'4 with y'5 | y'6
 ·obtain ⟨rfl,hs⟩:=hs
  refine ⟨by simp,?_⟩
  have z:=se H; subst z
  exact ⟨hs.1,hs.2⟩
 obtain ⟨rfl,rfl⟩:=hs
 refine ⟨by simp,?_⟩
 refine blockQ2_exit (sg [0] Y (ra Y (rz [(4,.b false)] [] Y (AW2_ret ?_))))
 have z:=se H; subst z
 exact ⟨⟨rt,trivial⟩,trivial⟩
noncomputable def g_ref_reach_l0 (s0:List UInt8) (l1:List UInt8):Int→Option (Int⊕(Int))
  | n5_0=>((if n5_0 < (s0.length:Int) then if 0≤n5_0∧n5_0 < (s0.length:Int) then (g_ref_among (lrd s0 n5_0.toNat) l1).bind fun r'1=>some r'1 else none else some false)).bind fun g'2=>(if g'2=true then some (.inl (w64 (n5_0+(1:Int)))) else some (.inr n5_0))
noncomputable def g_ref_reach (s0:List UInt8) (l1:List UInt8):Option (Int) :=
  (loopO (g_ref_reach_l0 s0 l1) (0:Int)).bind fun y'6=>some y'6
set_option maxHeartbeats 4000000 in
set_option maxRecDepth 100000 in
theorem g_ref_reach_ac {s0:List UInt8} {l1:List UInt8} {r:Int} (H:g_ref_reach s0 l1=some r):ACp Tryz.prog 69 [(AV.txt s0),(AV.txt l1)] (AV.int r):=by
 refine ACp_of (AC2_of_body (vs:=[.i r]) Tryz.func69 Y Y (lb Y) Y ?_) (fun _=>.same _)
 unfold g_ref_reach at H
 refine as2 [(0,.t s0),(1,.t l1)] [] Y (sg [0] Y (ra Y (rz [(0,_),(1,_)] [] Y (sg [0] Y (ra Y (rz [(0,_),(1,_),(5,.i (0:Int))] [] Y ?_))))))
 refine AW2_seq (AW2_block (as2 [(0,_),(1,_),(5,_)] [] Y (bindK H fun y'6 h8 H=>AW2_loopO (fun a'3:Int=>(⟨[(0,.t s0),(1,.t l1),(5,.i a'3)],[],20⟩:TS)) (fun (y'4:Int) e s'=>e=Go.Exit.exit 0∧s'=(⟨[(5,.i y'4)],[],20⟩:TS)) h8 Y (fun n5_0 x hx=>?_) (fun e s' hs=>?_))))
 ·clear H
  have H:=hx
  clear hx
  unfold g_ref_reach_l0 at H
  refine AW2_seq (AW2_seq (bindK H fun g'2 h5 H=>AW2_mid (⟨[(0,.t s0),(1,.t l1),(5,.i n5_0),(16,.b g'2)],[],20⟩:TS) ?_ ?_))
  ·clear H
   have H:=h5
   clear h5
   refine AW2_reg [0,1,2,3,4,5,6,7,8,9,10] Y (rm Y (rm Y (rp Y (p_lent Y U9 Y) (rp Y (p_bin Y Y Y Y) (rm Y (em2 H (fun h2 H=>?_) (fun h2 H=>?_)))))))
   ·refine rn Y (dT h2) Y (p_move Y Y) (rn Y (dT h2) Y (p_move Y Y) (chkK H fun h3 H=>rn Y (dT h2) Y (p_ixt Y U9 Y Y (ixe h3) (lrd_get (ixn h3))) (rn Y (dT h2) Y (p_move Y Y) (bindK H fun r'1 h4 H=>rn Y (dT h2) Y (p_callp Y Y Y Tryz.func68 Y Y (g_ref_among_ac h4) ⟨Y,Y,trivial⟩) ?_))))
    refine rp Y (p_pkt Y Y (dT h2) (.same _)) (rs [(0,.t s0),(1,.t l1),(5,.i n5_0),(16,.b r'1)] [] Y ?_)
    have z:=se H; subst z
    exact RunW_nil rfl
   refine rO Y (dF h2) Y (rO Y (dF h2) Y (rO Y (dF h2) Y (rO Y (dF h2) Y (rO Y (dF h2) Y (rp Y (p_pkf Y Y (dF h2) (.same _)) (rs [(0,.t s0),(1,.t l1),(5,.i n5_0),(16,.b false)] [] Y ?_))))))
   have z:=se H; subst z
   exact RunW_nil rfl
  refine AW2_cond Y (fun h6=>?_) (fun h6=>?_)
  ·replace H:=ite_then h6 H
   refine as2 [(0,.t s0),(1,.t l1),(5,.i n5_0)] [] Y (AW2_skip (AW2_block (AW2_reg [0,1,2] Y (rm Y (rp Y (p_bin Y Y Y Y) (ra Y ?_))))))
   refine rz [(0,_),(1,_),(5,.i (w64 (n5_0+(1:Int))))] [] Y ?_
   have z:=se H; subst z
   exact ⟨Y,Y⟩
  replace H:=ite_else (ne_true h6) H
  refine as2 [(5,.i n5_0)] [] Y (AW2_exit (thenQ2_exit ?_))
  have z:=se H; subst z
  exact ⟨Y,Y⟩
 obtain ⟨rfl,rfl⟩:=hs
 refine ⟨by simp,?_⟩
 refine blockQ2_exit (sg [0,1] Y (rm Y (ra Y (rz [(4,.i y'6)] [] Y (AW2_ret ?_)))))
 have z:=se H; subst z
 exact ⟨⟨rt,trivial⟩,trivial⟩
def g_ref_isName_t0:List UInt8:=[97,98,99,100,101,102,103,104,105,106,107,108,109,110,111,112,113,114,115,116,117,118,119,120,121,122]
def g_ref_isName_t1:List UInt8:=[97,98,99,100,101,102,103,104,105,106,107,108,109,110,111,112,113,114,115,116,117,118,119,120,121,122,48,49,50,51,52,53,54,55,56,57,95]
noncomputable def g_ref_isName (s0:List UInt8):Option (Bool) :=
  ((if s0≠[] then if 0 < s0.length then (g_ref_among (lrd s0 0) g_ref_isName_t0).bind fun r'1=>(if r'1=true then (g_ref_reach s0 g_ref_isName_t1).bind fun r'2=>some (decide (r'2=(s0.length:Int))) else some false) else none else some false)).bind fun g'3=>some g'3
set_option maxHeartbeats 4000000 in
set_option maxRecDepth 100000 in
theorem g_ref_isName_ac {s0:List UInt8} {r:Bool} (H:g_ref_isName s0=some r):ACp Tryz.prog 46 [(AV.txt s0)] (AV.bool r):=by
 refine ACp_of (AC2_of_body (vs:=[.b r]) Tryz.func46 Y Y (lb Y) Y ?_) (fun _=>.same _)
 unfold g_ref_isName at H
 refine as2 [(0,.t s0)] [] Y (sg [0] Y (ra Y (rz [(0,_)] [] Y (AW2_seq (bindK H fun g'3 h7 H=>AW2_mid (⟨[(2,.b g'3)],[],17⟩:TS) ?_ ?_)))))
 ·clear H
  have H:=h7
  clear h7
  refine AW2_reg [0,1,2,3,4,5,6,7,8,9,10,11,12,13,14] Y (rm Y (rp Y (p_sne Y Y Y) (rm Y (em2 H (fun h2 H=>?_) (fun h2 H=>?_)))))
  ·refine rn Y (dT h2) Y (p_move Y Y) (chkK H fun h3 H=>rn Y (dT h2) Y (p_ixt Y U9 Y Y Y (lrd_get h3)) (bindK H fun r'1 h4 H=>rn Y (dT h2) Y (p_callp Y Y Y Tryz.func68 Y Y (g_ref_among_ac h4) ⟨Y,by kernel_rfl,trivial⟩) (rp Y (p_pkt Y Y (dT h2) (.same _)) (rm Y ?_))))
   refine em2 H (fun h5 H=>?_) (fun h5 H=>?_)
   ·refine rn Y h5 Y (p_move Y Y) (bindK H fun r'2 h6 H=>rn Y h5 Y (p_callp Y Y Y Tryz.func69 Y Y (g_ref_reach_ac h6) ⟨Y,by kernel_rfl,trivial⟩) (rn Y h5 Y (p_move Y Y) (rn Y h5 Y (p_lent Y U9 Y) (rn Y h5 Y (p_ieq Y Y Y) (rp Y (p_pkt Y Y h5 (.same _)) ?_)))))
    refine ra Y (rs [(2,.b (decide (r'2=(s0.length:Int))))] [] Y ?_)
    have z:=se H; subst z
    exact RunW_nil rfl
   refine rO Y (bfalse h5) Y (rO Y (bfalse h5) Y (rO Y (bfalse h5) Y (rO Y (bfalse h5) Y (rO Y (bfalse h5) Y (rp Y (p_pkf Y Y (bfalse h5) (.same _)) (ra Y ?_))))))
   refine rs [(2,.b false)] [] Y ?_
   have z:=se H; subst z
   exact RunW_nil rfl
  refine rO Y (dF h2) Y (rO Y (dF h2) Y (rO Y (dF h2) Y (rp Y (p_pkf Y Y (dF h2) (.same _)) (rm Y (rO Y (bfalse (by decide)) Y (rO Y (bfalse (by decide)) Y ?_))))))
  refine rO Y (bfalse (by decide)) Y (rO Y (bfalse (by decide)) Y (rO Y (bfalse (by decide)) Y (rp Y (p_pkf Y Y (bfalse (by decide)) (.same _)) (ra Y (rs [(2,.b false)] [] Y ?_)))))
  have z:=se H; subst z
  exact RunW_nil rfl
 refine AW2_ret ?_
 have z:=se H; subst z
 exact ⟨⟨rt,trivial⟩,trivial⟩
noncomputable def g_ref_columnAt_l0 (cols0:List GColumn) (name1:List UInt8):Int→Option (Int⊕(Int⊕Unit))
  | i5_0=>(if i5_0≥(0:Int) then if 0≤i5_0∧i5_0 < (cols0.length:Int) then (if (lrd cols0 i5_0.toNat).Name=name1 then some (.inr (.inl i5_0)) else some (.inl (w64 (i5_0 - (1:Int))))) else none else some (.inr (.inr ())))
noncomputable def g_ref_columnAt (cols0:List GColumn) (name1:List UInt8):Option (Int) :=
  (loopO (g_ref_columnAt_l0 cols0 name1) (w64 ((cols0.length:Int) - (1:Int)))).bind fun o'4=>match o'4 with | .inl y'5=>some y'5 | .inr (y'6)=>some (-1:Int)
set_option maxHeartbeats 4000000 in
set_option maxRecDepth 100000 in
theorem g_ref_columnAt_ac {cols0:List GColumn} {name1:List UInt8} {r:Int} (H:g_ref_columnAt cols0 name1=some r):ACp Tryz.prog 23 [(GColumn.ls cols0),(AV.txt name1)] (AV.int r):=by
 refine ACp_of (AC2_of_body (vs:=[.i r]) Tryz.func23 Y Y (lb Y) Y ?_) (fun _=>.same _)
 unfold g_ref_columnAt at H
 refine as2 [(0,.p (GColumn.ls cols0)),(1,.t name1)] [] Y (sg [0] Y (ra Y (rz [(0,_),(1,_)] [] Y (AW2_seq (sg [0,1,2,3] Y (rm Y ?_))))))
 refine rp Y (p_lenl Y U22 Y Y) (rp Y (p_bin Y Y Y Y) (ra Y (rz [(0,_),(1,_),(5,.i (w64 ((cols0.length:Int) - (1:Int))))] [] Y (AW2_block (as2 [(0,_),(1,_),(5,_)] [] Y (bindK H fun o'4 h4 H=>?_))))))
 refine AW2_loopO (fun a'1:Int=>(⟨[(0,.p (GColumn.ls cols0)),(1,.t name1),(5,.i a'1)],[],21⟩:TS)) (fun (o:Int⊕Unit) e s'=>match o with | .inl y'2=>e=Go.Exit.ret∧ResAll Tryz.prog s' [ResultVar.tmp 4] [.i y'2]∧HFits s' [] | .inr (y'3)=>e=Go.Exit.exit 0∧s'=(⟨[],[],21⟩:TS)) h4 Y (fun i5_0 x hx=>?_) (fun e s' hs=>?_)
 ·clear H
  have H:=hx
  clear hx
  unfold g_ref_columnAt_l0 at H
  refine AW2_seq (sg [0,1] Y (rm Y (rp Y (p_bin Y Y Y Y) (rz [(0,.p (GColumn.ls cols0)),(1,.t name1),(5,.i i5_0),(10,.b (decide (i5_0≥(0:Int))))] [] Y (if2 H Y (fun h1 H=>?_) (fun h1 H=>?_))))))
  ·refine as2 [(0,_),(1,_),(5,_)] [] Y (AW2_skip (AW2_seq (AW2_block (sg [0,1,2,3,4,5,6] Y (rm Y (rm Y ?_))))))
   refine chkK H fun h2 H=>rp Y (u_ixl Y Y U22 in_63 Y Y (ixe h2) (ixn h2) (fne (fun x=>(GColumn.len x)) (by decide) (ixn h2))) (rp Y (u_far Y Y U63 Y in_9 nz Y) (rp Y (u_ld Y Y U9 Y Y ((Sub.fm default (fun x=>(GColumn.len x)) (ixn h2)).trans (GColumn.sub0 (lrd cols0 i5_0.toNat)))) (rm Y (rp Y (p_seq Y Y Y) (rz [(0,_),(1,_),(5,_),(19,.b (decide ((lrd cols0 i5_0.toNat).Name=name1)))] [] Y ?_)))))
   refine if2 H Y (fun h3 H=>?_) (fun h3 H=>?_)
   ·refine sg [0,1] Y (rm Y (ra Y (rz [(4,.i i5_0)] [] Y (AW2_ret ?_))))
    have z:=se H; subst z
    exact ⟨Y,⟨rt,trivial⟩,trivial⟩
   refine as2 [(0,_),(1,_),(5,_)] [] Y (AW2_skip (AW2_reg [0,1,2] Y (rm Y (rp Y (p_bin Y Y Y Y) (ra Y (rz [(0,_),(1,_),(5,.i (w64 (i5_0 - (1:Int))))] [] Y ?_))))))
   have z:=se H; subst z
   exact ⟨Y,Y⟩
  refine as2 [] [] Y (AW2_exit (thenQ2_exit ?_))
  have z:=se H; subst z
  exact ⟨Y,Y⟩
 rcases o'4 with y'5 | y'6
 ·obtain ⟨rfl,hs⟩:=hs
  refine ⟨by simp,?_⟩
  have z:=se H; subst z
  exact ⟨hs.1,hs.2⟩
 obtain ⟨rfl,rfl⟩:=hs
 refine ⟨by simp,?_⟩
 refine blockQ2_exit (sg [0] Y (ra Y (rz [(4,.i (-1:Int))] [] Y (AW2_ret ?_))))
 have z:=se H; subst z
 exact ⟨⟨rt,trivial⟩,trivial⟩
def g_ref_ColumnsFault_r10:List (List (Nat×Option Nat)):=[[(0,none)],[(3,none)],[(46,some 0),(47,some 1)],[(4,none)],[(49,some 3)]]
def g_ref_ColumnsFault_r10c:List (List Nat):=[[],[],[0,1],[],[3],[0,1,2,3,4],[0,1,2,3,4,5],[0,1,2,3,4,5,6]]
noncomputable def g_ref_ColumnsFault_l0 (cols0:List GColumn):Int→Option (Int⊕(Int⊕Unit))
  | t10_0=>(if t10_0 < (cols0.length:Int) then if 0≤t10_0∧t10_0 < (cols0.length:Int) then (g_ref_isName ((lrd cols0 t10_0.toNat).Name)).bind fun r'1=>(if ((!r'1)=true)∨((((lrd cols0 t10_0.toNat).Name).length:Int) > (8:Int)) then some (.inr (.inl (3:Int))) else letO (decide (((((lrd cols0 t10_0.toNat).Kind≠(1:Int))∧((lrd cols0 t10_0.toNat).Kind≠(2:Int)))∧((lrd cols0 t10_0.toNat).Kind≠(3:Int)))∧((lrd cols0 t10_0.toNat).Kind≠(4:Int)))) fun t26'2=>(if t26'2=true then some (.inr (.inl (2:Int))) else if 0≤t10_0∧t10_0≤(cols0.length:Int) then (g_ref_columnAt (cut cols0 (0:Int) t10_0) ((lrd cols0 t10_0.toNat).Name)).bind fun r'3=>(if r'3≥(0:Int) then some (.inr (.inl (8:Int))) else some (.inl (w64 (t10_0+(1:Int))))) else none)) else none else some (.inr (.inr ())))
noncomputable def g_ref_ColumnsFault (cols0:List GColumn):Option (Int) :=
  (if (cols0.length:Int) > (5:Int) then some (1:Int) else (loopO (g_ref_ColumnsFault_l0 cols0) (0:Int)).bind fun o'7=>match o'7 with | .inl y'8=>some y'8 | .inr (y'9)=>some (0:Int))
set_option maxHeartbeats 4000000 in
set_option maxRecDepth 100000 in
theorem g_ref_ColumnsFault_ac {cols0:List GColumn} {r:Int} (H:g_ref_ColumnsFault cols0=some r):ACp Tryz.prog 34 [(GColumn.ls cols0)] (AV.int r):=by
 refine ACp_of (AC2_of_body (vs:=[.i r]) Tryz.func34 Y Y (lb Y) Y ?_) (fun _=>.same _)
 unfold g_ref_ColumnsFault at H
 refine as2 [(0,.p (GColumn.ls cols0))] [] Y (sg [0] Y (ra Y (rz [(0,_)] [] Y (AW2_seq (sg [0,1,2] Y (rm Y ?_))))))
 refine rp Y (p_lenl Y U22 Y Y) (rp Y (p_bin Y Y Y Y) (rz [(0,_),(7,.b (decide ((cols0.length:Int) > (5:Int))))] [] Y (if2 H Y (fun h1 H=>?_) (fun h1 H=>?_))))
 ·refine sg [0] Y (ra Y (rz [(2,.i (1:Int))] [] Y (AW2_ret ?_)))
  have z:=se H; subst z
  exact ⟨⟨rt,trivial⟩,trivial⟩
 refine as2 [(0,_)] [] Y (AW2_skip (AW2_seq (sg [0,1,2] Y (rm Y (rp Y (p_lenl Y U22 Y Y) (rm Y ?_))))))
 refine rz [(0,_),(8,.p (GColumn.ls cols0)),(9,.i (cols0.length:Int)),(10,.i (0:Int))] [] Y (AW2_block (as2 [(0,_),(8,_),(9,_),(10,_)] [] Y (bindK H fun o'7 h14 H=>AW2_loopO (fun a'4:Int=>(⟨[(0,.p (GColumn.ls cols0)),(8,.p (GColumn.ls cols0)),(9,.i (cols0.length:Int)),(10,.i a'4)],[],54⟩:TS)) (fun (o:Int⊕Unit) e s'=>match o with | .inl y'5=>e=Go.Exit.ret∧ResAll Tryz.prog s' [ResultVar.tmp 2] [.i y'5]∧HFits s' [] | .inr (y'6)=>e=Go.Exit.exit 0∧s'=(⟨[],[],54⟩:TS)) h14 Y (fun t10_0 x hx=>?_) (fun e s' hs=>?_))))
 ·clear H
  have H:=hx
  clear hx
  unfold g_ref_ColumnsFault_l0 at H
  refine sg [0] Y (rp Y (p_bin Y Y Y Y) (rz [(0,.p (GColumn.ls cols0)),(8,.p (GColumn.ls cols0)),(9,.i (cols0.length:Int)),(10,.i t10_0),(11,.b (decide (t10_0 < (cols0.length:Int))))] [] Y (AW2_seq (if2 H Y (fun h2 H=>?_) (fun h2 H=>?_)))))
  ·refine as2 [(0,_),(8,_),(9,_),(10,_)] [] Y (AW2_skip (AW2_seq (AW2_block (sg [0,1,2,3,4,5] Y (rm Y (chkK H fun h3 H=>?_))))))
   refine rp Y (u_ixl Y Y U22 in_63 Y Y (ixe h3) (ixn h3) (fne (fun x=>(GColumn.len x)) (by decide) (ixn h3))) (rp Y (u_lda Y Y U63 Y in_63 Y np (Sub.fm default (fun x=>(GColumn.len x)) (ixn h3)) (GColumn.len (lrd cols0 t10_0.toNat))) (rq Y (MakeD.opD (u_alloc 4 Y in_63 one_63 zc_63) Y Y Y Y) (ra Y (rq Y (u_sw Y Y Y Y Y in_63 (GColumn.len (lrd cols0 t10_0.toNat)) (GColumn.len GColumn.zero) Y) (rz [(0,_),(3,.i t10_0),(4,.q 4 (0)),(8,_),(9,_),(10,_)] [(4,.pure (GColumn.cs (lrd cols0 t10_0.toNat)))] Y (AW2_block ?_))))))
   refine AW2_seq (bindK H fun r'1 h4 H=>AW2_mid (⟨[(0,.p (GColumn.ls cols0)),(3,.i t10_0),(4,.q 4 (0)),(8,.p (GColumn.ls cols0)),(9,.i (cols0.length:Int)),(10,.i t10_0),(15,.b (decide (((!r'1)=true)∨((((lrd cols0 t10_0.toNat).Name).length:Int) > (8:Int)))))],[(4,.pure (GColumn.cs (lrd cols0 t10_0.toNat)))],54⟩:TS) ?_ ?_)
   ·refine AW2_reg [0,1,2,3,4,5,6,7,8,9,10] Y (rf Y U63 Y in_9 Y Y (GColumn.len (lrd cols0 t10_0.toNat)) (rp Y (u_ld Y Y U9 Y Y (GColumn.sub0 (lrd cols0 t10_0.toNat))) (rp Y (p_callp Y Y Y Tryz.func46 Y Y (g_ref_isName_ac h4) ⟨Y,trivial⟩) (rp Y (p_not Y Y) (rm Y ?_)))))
    refine (Classical.em ((!r'1)=true)).elim (fun h5=>?_) (fun h5=>?_)
    ·exact rO Y h5 Y (rO Y h5 Y (rO Y h5 Y (rO Y h5 Y (rp Y (p_pkt Y Y h5 (tb (dT (p:=((!r'1)=true)∨((((lrd cols0 t10_0.toNat).Name).length:Int) > (8:Int))) (Or.inl h5)).symm)) (ra Y (rend Y Y))))))
    exact rn Y (bfalse h5) Y (u_fa Y Y U63 Y in_9 nz Y Y (nl (GColumn.len (lrd cols0 t10_0.toNat)))) (rn Y (bfalse h5) Y (u_ld Y Y U9 Y Y (GColumn.sub0 (lrd cols0 t10_0.toNat))) (rn Y (bfalse h5) Y (p_lent Y U9 Y) (rn Y (bfalse h5) Y (p_bin Y Y Y Y) (rp Y (p_pkf Y Y (bfalse h5) (tb ((or_l (p:=(!r'1)=true) (q:=(((lrd cols0 t10_0.toNat).Name).length:Int) > (8:Int)) h5)))) (ra Y (rend Y Y))))))
   refine if2 H Y (fun h6 H=>?_) (fun h6 H=>?_)
   ·refine sg [0] Y (ra Y (rz [(2,.i (3:Int))] [] Y (AW2_ret ?_)))
    have z:=se H; subst z
    exact ⟨Y,⟨rt,trivial⟩,trivial⟩
   refine AW2_seq (AW2_mid (⟨[(0,.p (GColumn.ls cols0)),(3,.i t10_0),(4,.q 4 (0)),(8,.p (GColumn.ls cols0)),(9,.i (cols0.length:Int)),(10,.i t10_0),(26,.b (decide (((((lrd cols0 t10_0.toNat).Kind≠(1:Int))∧((lrd cols0 t10_0.toNat).Kind≠(2:Int)))∧((lrd cols0 t10_0.toNat).Kind≠(3:Int)))∧((lrd cols0 t10_0.toNat).Kind≠(4:Int)))))],[(4,.pure (GColumn.cs (lrd cols0 t10_0.toNat)))],54⟩:TS) ?_ ?_)
   ·refine AW2_reg [0,1,2,3,4,5,6,7,8,9,10,11,12,13,14,15,16,17,18] Y (rf Y U63 Y in_3 Y Y (GColumn.len (lrd cols0 t10_0.toNat)) (rp Y (u_ld Y Y U3 Y Y (GColumn.sub1 (lrd cols0 t10_0.toNat))) (rp Y (p_ine Y Y Y) (rm Y ?_))))
    refine (Classical.em ((lrd cols0 t10_0.toNat).Kind≠(1:Int))).elim (fun h7=>?_) (fun h7=>?_)
    ·refine rn Y (dT h7) Y (u_fa Y Y U63 Y in_3 nz Y Y (nl (GColumn.len (lrd cols0 t10_0.toNat)))) (rn Y (dT h7) Y (u_ld Y Y U3 Y Y (GColumn.sub1 (lrd cols0 t10_0.toNat))) (rn Y (dT h7) Y (p_ine Y Y Y) (rp Y (p_pkt Y Y (dT h7) (tb ((and_l (p:=(lrd cols0 t10_0.toNat).Kind≠(1:Int)) (q:=(lrd cols0 t10_0.toNat).Kind≠(2:Int)) h7)))) (rm Y ?_))))
     refine (Classical.em ((lrd cols0 t10_0.toNat).Kind≠(2:Int))).elim (fun h8=>?_) (fun h8=>?_)
     ·refine rn Y (dT (p:=((lrd cols0 t10_0.toNat).Kind≠(1:Int))∧((lrd cols0 t10_0.toNat).Kind≠(2:Int))) ⟨h7,h8⟩) Y (u_fa Y Y U63 Y in_3 nz Y Y (nl (GColumn.len (lrd cols0 t10_0.toNat)))) (rn Y (dT (p:=((lrd cols0 t10_0.toNat).Kind≠(1:Int))∧((lrd cols0 t10_0.toNat).Kind≠(2:Int))) ⟨h7,h8⟩) Y (u_ld Y Y U3 Y Y (GColumn.sub1 (lrd cols0 t10_0.toNat))) (rn Y (dT (p:=((lrd cols0 t10_0.toNat).Kind≠(1:Int))∧((lrd cols0 t10_0.toNat).Kind≠(2:Int))) ⟨h7,h8⟩) Y (p_ine Y Y Y) (rp Y (p_pkt Y Y (dT (p:=((lrd cols0 t10_0.toNat).Kind≠(1:Int))∧((lrd cols0 t10_0.toNat).Kind≠(2:Int))) ⟨h7,h8⟩) (tb ((and_l (p:=((lrd cols0 t10_0.toNat).Kind≠(1:Int))∧((lrd cols0 t10_0.toNat).Kind≠(2:Int))) (q:=(lrd cols0 t10_0.toNat).Kind≠(3:Int)) ⟨h7,h8⟩)))) (rm Y ?_))))
      refine (Classical.em ((lrd cols0 t10_0.toNat).Kind≠(3:Int))).elim (fun h9=>?_) (fun h9=>?_)
      ·exact rn Y (dT (p:=(((lrd cols0 t10_0.toNat).Kind≠(1:Int))∧((lrd cols0 t10_0.toNat).Kind≠(2:Int)))∧((lrd cols0 t10_0.toNat).Kind≠(3:Int))) ⟨⟨h7,h8⟩,h9⟩) Y (u_fa Y Y U63 Y in_3 nz Y Y (nl (GColumn.len (lrd cols0 t10_0.toNat)))) (rn Y (dT (p:=(((lrd cols0 t10_0.toNat).Kind≠(1:Int))∧((lrd cols0 t10_0.toNat).Kind≠(2:Int)))∧((lrd cols0 t10_0.toNat).Kind≠(3:Int))) ⟨⟨h7,h8⟩,h9⟩) Y (u_ld Y Y U3 Y Y (GColumn.sub1 (lrd cols0 t10_0.toNat))) (rn Y (dT (p:=(((lrd cols0 t10_0.toNat).Kind≠(1:Int))∧((lrd cols0 t10_0.toNat).Kind≠(2:Int)))∧((lrd cols0 t10_0.toNat).Kind≠(3:Int))) ⟨⟨h7,h8⟩,h9⟩) Y (p_ine Y Y Y) (rp Y (p_pkt Y Y (dT (p:=(((lrd cols0 t10_0.toNat).Kind≠(1:Int))∧((lrd cols0 t10_0.toNat).Kind≠(2:Int)))∧((lrd cols0 t10_0.toNat).Kind≠(3:Int))) ⟨⟨h7,h8⟩,h9⟩) (tb ((and_l (p:=(((lrd cols0 t10_0.toNat).Kind≠(1:Int))∧((lrd cols0 t10_0.toNat).Kind≠(2:Int)))∧((lrd cols0 t10_0.toNat).Kind≠(3:Int))) (q:=(lrd cols0 t10_0.toNat).Kind≠(4:Int)) ⟨⟨h7,h8⟩,h9⟩)))) (ra Y (rend Y Y)))))
      exact rO Y (dF (p:=(((lrd cols0 t10_0.toNat).Kind≠(1:Int))∧((lrd cols0 t10_0.toNat).Kind≠(2:Int)))∧((lrd cols0 t10_0.toNat).Kind≠(3:Int))) (fun h=>h9 h.2)) Y (rO Y (dF (p:=(((lrd cols0 t10_0.toNat).Kind≠(1:Int))∧((lrd cols0 t10_0.toNat).Kind≠(2:Int)))∧((lrd cols0 t10_0.toNat).Kind≠(3:Int))) (fun h=>h9 h.2)) Y (rO Y (dF (p:=(((lrd cols0 t10_0.toNat).Kind≠(1:Int))∧((lrd cols0 t10_0.toNat).Kind≠(2:Int)))∧((lrd cols0 t10_0.toNat).Kind≠(3:Int))) (fun h=>h9 h.2)) Y (rp Y (p_pkf Y Y (dF (p:=(((lrd cols0 t10_0.toNat).Kind≠(1:Int))∧((lrd cols0 t10_0.toNat).Kind≠(2:Int)))∧((lrd cols0 t10_0.toNat).Kind≠(3:Int))) (fun h=>h9 h.2)) (tb (dF (p:=((((lrd cols0 t10_0.toNat).Kind≠(1:Int))∧((lrd cols0 t10_0.toNat).Kind≠(2:Int)))∧((lrd cols0 t10_0.toNat).Kind≠(3:Int)))∧((lrd cols0 t10_0.toNat).Kind≠(4:Int))) (fun x=>(fun h=>h9 h.2) x.1)).symm)) (ra Y (rend Y Y)))))
     refine rO Y (dF (p:=((lrd cols0 t10_0.toNat).Kind≠(1:Int))∧((lrd cols0 t10_0.toNat).Kind≠(2:Int))) (fun h=>h8 h.2)) Y (rO Y (dF (p:=((lrd cols0 t10_0.toNat).Kind≠(1:Int))∧((lrd cols0 t10_0.toNat).Kind≠(2:Int))) (fun h=>h8 h.2)) Y (rO Y (dF (p:=((lrd cols0 t10_0.toNat).Kind≠(1:Int))∧((lrd cols0 t10_0.toNat).Kind≠(2:Int))) (fun h=>h8 h.2)) Y (rp Y (p_pkf Y Y (dF (p:=((lrd cols0 t10_0.toNat).Kind≠(1:Int))∧((lrd cols0 t10_0.toNat).Kind≠(2:Int))) (fun h=>h8 h.2)) (tb (dF (p:=(((lrd cols0 t10_0.toNat).Kind≠(1:Int))∧((lrd cols0 t10_0.toNat).Kind≠(2:Int)))∧((lrd cols0 t10_0.toNat).Kind≠(3:Int))) (fun x=>(fun h=>h8 h.2) x.1)).symm)) (rm Y (rO Y (dF (p:=(((lrd cols0 t10_0.toNat).Kind≠(1:Int))∧((lrd cols0 t10_0.toNat).Kind≠(2:Int)))∧((lrd cols0 t10_0.toNat).Kind≠(3:Int))) (fun h=>(fun h=>h8 h.2) h.1)) Y (rO Y (dF (p:=(((lrd cols0 t10_0.toNat).Kind≠(1:Int))∧((lrd cols0 t10_0.toNat).Kind≠(2:Int)))∧((lrd cols0 t10_0.toNat).Kind≠(3:Int))) (fun h=>(fun h=>h8 h.2) h.1)) Y ?_))))))
     exact rO Y (dF (p:=(((lrd cols0 t10_0.toNat).Kind≠(1:Int))∧((lrd cols0 t10_0.toNat).Kind≠(2:Int)))∧((lrd cols0 t10_0.toNat).Kind≠(3:Int))) (fun h=>(fun h=>h8 h.2) h.1)) Y (rp Y (p_pkf Y Y (dF (p:=(((lrd cols0 t10_0.toNat).Kind≠(1:Int))∧((lrd cols0 t10_0.toNat).Kind≠(2:Int)))∧((lrd cols0 t10_0.toNat).Kind≠(3:Int))) (fun h=>(fun h=>h8 h.2) h.1)) (tb (dF (p:=((((lrd cols0 t10_0.toNat).Kind≠(1:Int))∧((lrd cols0 t10_0.toNat).Kind≠(2:Int)))∧((lrd cols0 t10_0.toNat).Kind≠(3:Int)))∧((lrd cols0 t10_0.toNat).Kind≠(4:Int))) (fun x=>(fun h=>(fun h=>h8 h.2) h.1) x.1)).symm)) (ra Y (rend Y Y)))
    refine rO Y (dF h7) Y (rO Y (dF h7) Y (rO Y (dF h7) Y (rp Y (p_pkf Y Y (dF h7) (tb (dF (p:=((lrd cols0 t10_0.toNat).Kind≠(1:Int))∧((lrd cols0 t10_0.toNat).Kind≠(2:Int))) (fun x=>h7 x.1)).symm)) (rm Y (rO Y (dF (p:=((lrd cols0 t10_0.toNat).Kind≠(1:Int))∧((lrd cols0 t10_0.toNat).Kind≠(2:Int))) (fun h=>h7 h.1)) Y (rO Y (dF (p:=((lrd cols0 t10_0.toNat).Kind≠(1:Int))∧((lrd cols0 t10_0.toNat).Kind≠(2:Int))) (fun h=>h7 h.1)) Y ?_))))))
    refine rO Y (dF (p:=((lrd cols0 t10_0.toNat).Kind≠(1:Int))∧((lrd cols0 t10_0.toNat).Kind≠(2:Int))) (fun h=>h7 h.1)) Y (rp Y (p_pkf Y Y (dF (p:=((lrd cols0 t10_0.toNat).Kind≠(1:Int))∧((lrd cols0 t10_0.toNat).Kind≠(2:Int))) (fun h=>h7 h.1)) (tb (dF (p:=(((lrd cols0 t10_0.toNat).Kind≠(1:Int))∧((lrd cols0 t10_0.toNat).Kind≠(2:Int)))∧((lrd cols0 t10_0.toNat).Kind≠(3:Int))) (fun x=>(fun h=>h7 h.1) x.1)).symm)) (rm Y (rO Y (dF (p:=(((lrd cols0 t10_0.toNat).Kind≠(1:Int))∧((lrd cols0 t10_0.toNat).Kind≠(2:Int)))∧((lrd cols0 t10_0.toNat).Kind≠(3:Int))) (fun h=>(fun h=>h7 h.1) h.1)) Y (rO Y (dF (p:=(((lrd cols0 t10_0.toNat).Kind≠(1:Int))∧((lrd cols0 t10_0.toNat).Kind≠(2:Int)))∧((lrd cols0 t10_0.toNat).Kind≠(3:Int))) (fun h=>(fun h=>h7 h.1) h.1)) Y (rO Y (dF (p:=(((lrd cols0 t10_0.toNat).Kind≠(1:Int))∧((lrd cols0 t10_0.toNat).Kind≠(2:Int)))∧((lrd cols0 t10_0.toNat).Kind≠(3:Int))) (fun h=>(fun h=>h7 h.1) h.1)) Y (rp Y (p_pkf Y Y (dF (p:=(((lrd cols0 t10_0.toNat).Kind≠(1:Int))∧((lrd cols0 t10_0.toNat).Kind≠(2:Int)))∧((lrd cols0 t10_0.toNat).Kind≠(3:Int))) (fun h=>(fun h=>h7 h.1) h.1)) (tb (dF (p:=((((lrd cols0 t10_0.toNat).Kind≠(1:Int))∧((lrd cols0 t10_0.toNat).Kind≠(2:Int)))∧((lrd cols0 t10_0.toNat).Kind≠(3:Int)))∧((lrd cols0 t10_0.toNat).Kind≠(4:Int))) (fun x=>(fun h=>(fun h=>h7 h.1) h.1) x.1)).symm)) ?_))))))
    exact ra Y (rend Y Y)
   refine gen1 (fun t26'2=>(⟨[(0,.p (GColumn.ls cols0)),(3,.i t10_0),(4,.q 4 (0)),(8,.p (GColumn.ls cols0)),(9,.i (cols0.length:Int)),(10,.i t10_0),(26,.b t26'2)],[(4,.pure (GColumn.cs (lrd cols0 t10_0.toNat)))],54⟩:TS)) H ?_
   intro t26'2 H
   refine AW2_cond Y (fun h10=>?_) (fun h10=>?_)
   ·replace H:=ite_then h10 H
    refine sg [0] Y (ra Y (rz [(2,.i (2:Int))] [] Y (AW2_ret ?_)))
    have z:=se H; subst z
    exact ⟨Y,⟨rt,trivial⟩,trivial⟩
   replace H:=ite_else (ne_true h10) H
   refine AW2_seq (chkK H fun h11 H=>bindK H fun r'3 h12 H=>AW2_ghoQ (AW2_draw 5 [5,6,7] (fun k=>([.p (GColumn.ls cols0),.i t10_0,.p (GColumn.ls (cut cols0 (0:Int) t10_0)),.q 4 (0+0),.t ((lrd cols0 t10_0.toNat).Name)]:List TV).getD k TV.any) (fun k=>g_ref_ColumnsFault_r10.getD k []) [(0,none),(8,none),(9,none),(10,none),(48,some 2),(50,some 4)] [] (fun k=>g_ref_ColumnsFault_r10c.getD k []) mixed (by kernel_rfl) Y Y (a_op (g_x Y (x_p Y (p_move Y Y) Y)) (a_op (g_x Y (x_p Y (p_move Y Y) Y)) (a_op (g_x Y (x_p Y (u_cutl (g:=(fun l=>l.flatMap GColumn.cs)) (a:=(0:Int)) (b:=t10_0) Y Y U22 in_63 Y bT_zero (bT_i (Int.le_trans (show 0≤(0:Int)∧(0:Int)≤t10_0∧t10_0≤(cols0.length:Int) from ⟨Int.le_refl _,h11.1,h11.2⟩).1 (show 0≤(0:Int)∧(0:Int)≤t10_0∧t10_0≤(cols0.length:Int) from ⟨Int.le_refl _,h11.1,h11.2⟩).2.1) Y) (.inl Y) (show 0≤(0:Int)∧(0:Int)≤t10_0∧t10_0≤(cols0.length:Int) from ⟨Int.le_refl _,h11.1,h11.2⟩) (g_fm (fun x=>(GColumn.len x)))) Y)) (a_op (g_x Y (x_p Y (u_fa Y Y U63 Y in_9 nz Y Y (nl (GColumn.len (lrd cols0 t10_0.toNat)))) Y)) (a_op (g_x Y (x_p Y (u_ld Y Y U9 Y Y (GColumn.sub0 (lrd cols0 t10_0.toNat))) Y)) (a_nil)))))) (t_op Y Y (PureD.opD (p_callp Y Y Y Tryz.func23 Y Y (g_ref_columnAt_ac h12) ⟨Y,Y,trivial⟩)) (t_op Y Y (PureD.opD (p_bin Y Y Y Y)) ?_))))
   refine t_op Y Y (PureD.opD (p_asg Y Y)) (t_gho (Gho_st (L:=[(0,.p (GColumn.ls cols0)),(8,.p (GColumn.ls cols0)),(9,.i (cols0.length:Int)),(10,.i t10_0),(45,.b (decide (r'3≥(0:Int))))]) (H:=[]) (N:=54) Y ⟨TLes.same _,TLes.same _,TLes.same _,TLes.same _,TLes.same _,trivial⟩ trivial) (if2 H Y (fun h13 H=>?_) (fun h13 H=>?_)))
   ·refine sg [0] Y (ra Y (rz [(2,.i (8:Int))] [] Y (AW2_ret ?_)))
    have z:=se H; subst z
    exact ⟨Y,⟨rt,trivial⟩,trivial⟩
   refine as2 [(0,.p (GColumn.ls cols0)),(8,.p (GColumn.ls cols0)),(9,.i (cols0.length:Int)),(10,.i t10_0)] [] Y (AW2_skip (AW2_reg [0,1] Y (rp Y (p_bin Y Y Y Y) (rm Y (rz [(0,_),(8,_),(9,_),(10,.i (w64 (t10_0+(1:Int))))] [] Y ?_)))))
   have z:=se H; subst z
   exact ⟨Y,Y⟩
  refine as2 [] [] Y (AW2_exit (thenQ2_exit ?_))
  have z:=se H; subst z
  exact ⟨Y,Y⟩
 rcases o'7 with y'8 | y'9
 ·obtain ⟨rfl,hs⟩:=hs
  refine ⟨by simp,?_⟩
  have z:=se H; subst z
  exact ⟨hs.1,hs.2⟩
 obtain ⟨rfl,rfl⟩:=hs
 refine ⟨by simp,?_⟩
 refine blockQ2_exit (sg [0] Y (ra Y (rz [(2,.i (0:Int))] [] Y (AW2_ret ?_))))
 have z:=se H; subst z
 exact ⟨⟨rt,trivial⟩,trivial⟩
end Go.Proofs.YthnkbagmaljjjaaGreatDoor.VM
