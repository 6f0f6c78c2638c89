/- Words and rules that the proof uses. -/
import Derived.Test.YthnkbagmaljjjaaGreatDoorTu1
namespace Go.Proofs.YthnkbagmaljjjaaGreatDoor.VM
open Go Go.RowKit
set_option maxHeartbeats 4000000
set_option maxRecDepth 100000
abbrev U119:=@Tryz.underlying119
noncomputable def g_value_both (a0:GValue) (b1:GValue):Option (Int) :=
  (g_value_Check a0).bind fun r'1=>(if r'1≠(0:Int) then some r'1 else (g_value_Check b1).bind fun r'2=>some r'2)
theorem g_value_both_ac {a0:GValue} {b1:GValue} {r:Int} (H:g_value_both a0 b1=some r):ACp Tryz.prog 130 [(.agg (GValue.cs a0)),(.agg (GValue.cs b1))] (AV.int r):=by
 refine ACp_of (AC2_of_body (vs:=[.i r]) Tryz.func130 Y Y (lb Y) Y ?_) (fun _=>.same _)
 unfold g_value_both at H
 refine as2 [0,1] [.g (GValue.cs a0),.g (GValue.cs b1)] [] [] Y (sg 3 Y (rq Y (bx 2 Y) (rq Y (bx 3 Y) (ra Y (rz [2,3] [.q 2 (0),.q 3 (0)] [2,3] [.pure (GValue.cs a0),.pure (GValue.cs b1)] Y (QS (sg 3 Y (rp Y (pL U32 Y in_32 (Sub.refl _) (GValue.len a0)) (bindK H fun r'1 h1 H=>rp Y (pc Y Tryz.func63 Y (g_value_Check_ac h1) Y) (ra Y (rz [3,5] [_,.i r'1] [3] [_] Y (sg 2 Y (rm Y (rp Y (pn Y) (rz [3,5,9] [_,_,.b (decide (r'1≠0))] [3] [_] Y (if2 H Y (fun h2 H=>?_) (fun h2 H=>?_)))))))))))))))))
 ·refine sg 2 Y (rm Y (ra Y (rz [4] [.i r'1] [] [] Y (QR ?_))))
  have z:=se H;subst z
  exact ⟨⟨rt,trivial⟩,trivial⟩
 refine as2 [3] [_] [3] [_] Y (QK (sg 3 Y (rp Y (pL U32 Y in_32 (Sub.refl _) (GValue.len b1)) (bindK H fun r'2 h3 H=>rp Y (pc Y Tryz.func63 Y (g_value_Check_ac h3) Y) (ra Y (rz [4] [.i r'2] [] [] Y (QR ?_)))))))
 have z:=se H;subst z
 exact ⟨⟨rt,trivial⟩,trivial⟩
def g_value_order_r4:List (List (Nat×Option Nat)):=[[(2,none)],[(25,some 0)],[(3,none)],[(27,some 2)],[(26,some 1),(28,some 3)],[(2,none)],[(30,some 5)],[(3,none)],[(32,some 7)],[(31,some 6),(33,some 8)],[(29,some 4)]]
def g_value_order_r4c:List (List Nat):=[[],[0],[],[2],[0,1,2,3],[],[5],[],[7],[5,6,7,8],[0,1,2,3,4],[0,1,2,3,4,5,6,7,8,9,10]]
def g_value_order_r6:List (List (Nat×Option Nat)):=[[(2,none)],[(39,some 0)],[(40,some 1)],[(3,none)],[(42,some 3)]]
def g_value_order_r6c:List (List Nat):=[[],[0],[0,1],[],[3],[0,1,2,3,4],[0,1,2,3,4,5],[0,1,2,3,4,5,6]]
def g_value_order_r9:List (List (Nat×Option Nat)):=[[(2,none)],[(55,some 0)],[(3,none)],[(57,some 2)],[(56,some 1),(58,some 3)],[(2,none)],[(60,some 5)],[(3,none)],[(62,some 7)],[(61,some 6),(63,some 8)],[(59,some 4)]]
def g_value_order_r9c:List (List Nat):=[[],[0],[],[2],[0,1,2,3],[],[5],[],[7],[5,6,7,8],[0,1,2,3,4],[0,1,2,3,4,5,6,7,8,9,10]]
def g_value_order_r2:List (List (Nat×Option Nat)):=[[(2,none)],[(9,some 0)],[(3,none)],[(11,some 2)],[(10,some 1),(12,some 3)],[(2,none)],[(14,some 5)],[(3,none)],[(16,some 7)],[(15,some 6),(17,some 8)],[(13,some 4)]]
def g_value_order_r2c:List (List Nat):=[[],[0],[],[2],[0,1,2,3],[],[5],[],[7],[5,6,7,8],[0,1,2,3,4],[0,1,2,3,4,5,6,7,8,9,10]]
noncomputable def g_value_order (a0:GValue) (b1:GValue):Option (Int) :=
  ((if a0.Kind≠b1.Kind then some ((decide (a0.Kind < b1.Kind)),(decide (a0.Kind > b1.Kind))) else (if a0.Kind=(3:Int) then some (flt a0.Bits b1.Bits,fgt a0.Bits b1.Bits) else (if a0.Kind=(4:Int) then some (Op.bytesLess a0.Text b1.Text,!(Op.bytesLess a0.Text b1.Text || a0.Text == b1.Text)) else some ((decide (a0.Int_ < b1.Int_)),(decide (a0.Int_ > b1.Int_))))))).bind fun j'1=>(if j'1.1=true then some (-1:Int) else (if j'1.2=true then some (1:Int) else some (0:Int)))
theorem g_value_order_ac {a0:GValue} {b1:GValue} {r:Int} (H:g_value_order a0 b1=some r):ACp Tryz.prog 131 [(.agg (GValue.cs a0)),(.agg (GValue.cs b1))] (AV.int r):=by
 refine ACp_of (AC2_of_body (vs:=[.i r]) Tryz.func131 Y Y (lb Y) Y ?_) (fun _=>.same _)
 unfold g_value_order at H
 refine as2 [0,1] [.g (GValue.cs a0),.g (GValue.cs b1)] [] [] Y (sg 3 Y (rq Y (bx 2 Y) (rq Y (bx 3 Y) (ra Y (rz [2,3] [.q 2 (0),.q 3 (0)] [2,3] [.pure (GValue.cs a0),.pure (GValue.cs b1)] Y (sg 2 Y (ra Y (ra Y (rz [2,3] [_,_] [2,3] [_,_] Y (QS (bindK H fun j'1 h1 H=>AW2_mid (⟨[(5,.b j'1.1),(6,.b j'1.2)],[],67⟩:TS) ?_ ?_)))))))))))
 ·clear H
  have H:=h1
  clear h1
  refine QB (sg 6 Y (rf Y U32 Y in_3 Y Y (GValue.len a0) (rp Y (pl U3 Y (GValue.sub0 a0)) (rf Y U32 Y in_3 Y Y (GValue.len b1) (rp Y (pl U3 Y (GValue.sub0 b1)) (rp Y (pn Y) (ra Y (rz [2,3,19] [.q 2 (0),.q 3 (0),.b (decide (a0.Kind≠b1.Kind))] [2,3] [.pure (GValue.cs a0),.pure (GValue.cs b1)] Y (if2 H Y (fun h2 H=>?_) (fun h2 H=>?_))))))))))
  ·refine AW2_ghoQ (AW2_draw 11 [11] (fun k=>([.q 2 (0+0),.i a0.Kind,.q 3 (0+0),.i b1.Kind,.b (decide (a0.Kind < b1.Kind)),.q 2 (0+0),.i a0.Kind,.q 3 (0+0),.i b1.Kind,.b (decide (a0.Kind > b1.Kind)),.b (decide (a0.Kind < b1.Kind))]:List TV).getD k TV.any) (fun k=>g_value_order_r4.getD k []) [(5,some 10),(34,some 9)] [] (fun k=>g_value_order_r4c.getD k []) mixed (by kernel_rfl) Y Y (a_op (g_x Y (x_p Y (uf U32 Y in_3 Y (GValue.len a0)) Y)) (a_op (g_x Y (x_p Y (pl U3 Y (GValue.sub0 a0)) Y)) (a_op (g_x Y (x_p Y (uf U32 Y in_3 Y (GValue.len b1)) Y)) (a_op (g_x Y (x_p Y (pl U3 Y (GValue.sub0 b1)) Y)) (a_op (g_x Y (x_p Y (pb Y Y) Y)) (a_op (g_x Y (x_p Y (uf U32 Y in_3 Y (GValue.len a0)) Y)) (a_op (g_x Y (x_p Y (pl U3 Y (GValue.sub0 a0)) Y)) (a_op (g_x Y (x_p Y (uf U32 Y in_3 Y (GValue.len b1)) Y)) (a_op (g_x Y (x_p Y (pl U3 Y (GValue.sub0 b1)) Y)) (a_op (g_x Y (x_p Y (pb Y Y) Y)) (a_op (g_x Y (x_p Y (p_asg Y Y) Y)) (a_nil)))))))))))) (t_op Y Y (PureD.opD (p_asg Y Y)) (t_gho (Gho_st (L:=[(5,.b (decide (a0.Kind < b1.Kind))),(6,.b (decide (a0.Kind > b1.Kind)))]) (H:=[]) (N:=67) Y ⟨TLes.same _,TLes.same _,trivial⟩ trivial) ?_)))
   have z:=se H;subst z
   exact rfl
  refine sg 4 Y (rf Y U32 Y in_3 Y Y (GValue.len a0) (rp Y (pl U3 Y (GValue.sub0 a0)) (rp Y (pi Y) (ra Y (rz [2,3,35] [_,_,.b (decide (a0.Kind=3))] [2,3] [_,_] Y (if2 H Y (fun h3 H=>?_) (fun h3 H=>?_)))))))
  ·refine QS (AW2_ghoQ (AW2_draw 5 [5,6,7] (fun k=>([.q 2 (0+2),.p (AV.u64 a0.Bits),.p (AV.f64 a0.Bits),.q 3 (0+2),.p (AV.u64 b1.Bits)]:List TV).getD k TV.any) (fun k=>g_value_order_r6.getD k []) [(41,some 2),(43,some 4)] [] (fun k=>g_value_order_r6c.getD k []) mixed (by kernel_rfl) Y Y (a_op (g_x Y (x_p Y (uf U32 Y in_30 Y (GValue.len a0)) Y)) (a_op (g_x Y (x_p Y (pl U30 Y (GValue.sub2 a0)) Y)) (a_op (g_x Y (x_p Y (p_frombits (a:=a0.Bits) Y Y Y Tryz.func85 Y Y (by kernel_rfl) (by kernel_rfl) Y) Y)) (a_op (g_x Y (x_p Y (uf U32 Y in_30 Y (GValue.len b1)) Y)) (a_op (g_x Y (x_p Y (pl U30 Y (GValue.sub2 b1)) Y)) (a_nil)))))) (t_op Y Y (PureD.opD (p_frombits (a:=b1.Bits) Y Y Y Tryz.func85 Y Y (by kernel_rfl) (by kernel_rfl) Y)) (t_op Y Y (PureD.opD (p_asg Y Y)) (t_op Y Y (PureD.opD (p_asg Y Y)) (t_gho (Gho_st (L:=[(7,.p (AV.f64 a0.Bits)),(8,.p (AV.f64 b1.Bits))]) (H:=[]) (N:=67) Y ⟨TLes.same _,TLes.same _,trivial⟩ trivial) (ar 8 Y (rm Y (rm Y (rp Y (p_fbin (a:=a0.Bits) (b:=b1.Bits) (v:=flt a0.Bits b1.Bits) Y Y Y Y) (rm Y (rm Y (rp Y (p_fbin (a:=a0.Bits) (b:=b1.Bits) (v:=fgt a0.Bits b1.Bits) Y Y Y Y) (ra Y (ra Y (rz [5,6] [.b (flt a0.Bits b1.Bits),.b (fgt a0.Bits b1.Bits)] [] [] Y ?_))))))))))))))))
   have z:=se H;subst z
   exact rfl
  refine sg 4 Y (rf Y U32 Y in_3 Y Y (GValue.len a0) (rp Y (pl U3 Y (GValue.sub0 a0)) (rp Y (pi Y) (ra Y (rz [2,3,51] [_,_,.b (decide (a0.Kind=4))] [2,3] [_,_] Y (if2 H Y (fun h4 H=>?_) (fun h4 H=>?_)))))))
  ·refine AW2_ghoQ (AW2_draw 11 [11] (fun k=>([.q 2 (0+3),.t a0.Text,.q 3 (0+3),.t b1.Text,.b (Op.bytesLess a0.Text b1.Text),.q 2 (0+3),.t a0.Text,.q 3 (0+3),.t b1.Text,.b (!(Op.bytesLess a0.Text b1.Text || a0.Text == b1.Text)),.b (Op.bytesLess a0.Text b1.Text)]:List TV).getD k TV.any) (fun k=>g_value_order_r9.getD k []) [(5,some 10),(64,some 9)] [] (fun k=>g_value_order_r9c.getD k []) mixed (by kernel_rfl) Y Y (a_op (g_x Y (x_p Y (uf U32 Y in_9 Y (GValue.len a0)) Y)) (a_op (g_x Y (x_p Y (pl U9 Y (GValue.sub3 a0)) Y)) (a_op (g_x Y (x_p Y (uf U32 Y in_9 Y (GValue.len b1)) Y)) (a_op (g_x Y (x_p Y (pl U9 Y (GValue.sub3 b1)) Y)) (a_op (g_x Y (x_p Y (p_slt Y Y Y) Y)) (a_op (g_x Y (x_p Y (uf U32 Y in_9 Y (GValue.len a0)) Y)) (a_op (g_x Y (x_p Y (pl U9 Y (GValue.sub3 a0)) Y)) (a_op (g_x Y (x_p Y (uf U32 Y in_9 Y (GValue.len b1)) Y)) (a_op (g_x Y (x_p Y (pl U9 Y (GValue.sub3 b1)) Y)) (a_op (g_x Y (x_p Y (p_sgt Y Y Y) Y)) (a_op (g_x Y (x_p Y (p_asg Y Y) Y)) (a_nil)))))))))))) (t_op Y Y (PureD.opD (p_asg Y Y)) (t_gho (Gho_st (L:=[(5,.b (Op.bytesLess a0.Text b1.Text)),(6,.b (!(Op.bytesLess a0.Text b1.Text || a0.Text == b1.Text)))]) (H:=[]) (N:=67) Y ⟨TLes.same _,TLes.same _,trivial⟩ trivial) ?_)))
   have z:=se H;subst z
   exact rfl
  refine AW2_ghoQ (AW2_draw 11 [11] (fun k=>([.q 2 (0+1),.i a0.Int_,.q 3 (0+1),.i b1.Int_,.b (decide (a0.Int_ < b1.Int_)),.q 2 (0+1),.i a0.Int_,.q 3 (0+1),.i b1.Int_,.b (decide (a0.Int_ > b1.Int_)),.b (decide (a0.Int_ < b1.Int_))]:List TV).getD k TV.any) (fun k=>g_value_order_r2.getD k []) [(5,some 10),(18,some 9)] [] (fun k=>g_value_order_r2c.getD k []) mixed (by kernel_rfl) Y Y (a_op (g_x Y (x_p Y (uf U32 Y in_3 Y (GValue.len a0)) Y)) (a_op (g_x Y (x_p Y (pl U3 Y (GValue.sub1 a0)) Y)) (a_op (g_x Y (x_p Y (uf U32 Y in_3 Y (GValue.len b1)) Y)) (a_op (g_x Y (x_p Y (pl U3 Y (GValue.sub1 b1)) Y)) (a_op (g_x Y (x_p Y (pb Y Y) Y)) (a_op (g_x Y (x_p Y (uf U32 Y in_3 Y (GValue.len a0)) Y)) (a_op (g_x Y (x_p Y (pl U3 Y (GValue.sub1 a0)) Y)) (a_op (g_x Y (x_p Y (uf U32 Y in_3 Y (GValue.len b1)) Y)) (a_op (g_x Y (x_p Y (pl U3 Y (GValue.sub1 b1)) Y)) (a_op (g_x Y (x_p Y (pb Y Y) Y)) (a_op (g_x Y (x_p Y (p_asg Y Y) Y)) (a_nil)))))))))))) (t_op Y Y (PureD.opD (p_asg Y Y)) (t_gho (Gho_st (L:=[(5,.b (decide (a0.Int_ < b1.Int_))),(6,.b (decide (a0.Int_ > b1.Int_)))]) (H:=[]) (N:=67) Y ⟨TLes.same _,TLes.same _,trivial⟩ trivial) ?_)))
  have z:=se H;subst z
  exact rfl
 refine QS (sg 1 Y (rm Y (rz [6,65] [_,.b j'1.1] [] [] Y (AW2_cond Y (fun h5=>?_) (fun h5=>?_)))))
 ·replace H:=ite_then h5 H
  refine sg 1 Y (ra Y (rz [4] [.i (-1:Int)] [] [] Y (QR ?_)))
  have z:=se H;subst z
  exact ⟨⟨rt,trivial⟩,trivial⟩
 replace H:=ite_else (ne_true h5) H
 refine as2 [6] [.b j'1.2] [] [] Y (QK (QS (sg 1 Y (rm Y (rz [66] [.b j'1.2] [] [] Y (AW2_cond Y (fun h6=>?_) (fun h6=>?_)))))))
 ·replace H:=ite_then h6 H
  refine sg 1 Y (ra Y (rz [4] [.i 1] [] [] Y (QR ?_)))
  have z:=se H;subst z
  exact ⟨⟨rt,trivial⟩,trivial⟩
 replace H:=ite_else (ne_true h6) H
 refine as2 [] [] [] [] Y (QK (sg 1 Y (ra Y (rz [4] [.i 0] [] [] Y (QR ?_)))))
 have z:=se H;subst z
 exact ⟨⟨rt,trivial⟩,trivial⟩
noncomputable def g_value_Less_1 (c0:Int):Option (Bool) :=
  some (decide (c0 < (0:Int)))
theorem g_value_Less_1_ac {c0:Int} {r:Bool} (H:g_value_Less_1 c0=some r):ACp Tryz.prog 128 [(AV.int c0)] (AV.bool r):=by
 refine ACp_of (AC2_of_body (vs:=[.b r]) Tryz.func128 Y Y (lb Y) Y ?_) (fun _=>.same _)
 unfold g_value_Less_1 at H
 refine as2 [0] [.i c0] [] [] Y (sg 1 Y (ra Y (rz [0] [_] [] [] Y (sg 3 Y (rm Y (rp Y (pb Y Y) (ra Y (rz [2] [.b (decide (c0 < 0))] [] [] Y (QR ?_)))))))))
 have z:=se H;subst z
 exact ⟨⟨rt,trivial⟩,trivial⟩
noncomputable def g_value_asked_i0 (a0:GValue) (b1:GValue):Option (Int×Int) :=
  (g_value_both a0 b1).bind fun r'1=>(if r'1≠(0:Int) then some ((0:Int),r'1) else (if (a0.Kind=(0:Int))∨(b1.Kind=(0:Int)) then some ((1:Int),(0:Int)) else (if a0.Kind≠b1.Kind then some ((0:Int),(2:Int)) else (g_value_order a0 b1).bind fun r'2=>(g_value_Less_1 r'2).bind fun r'3=>(if r'3=true then some ((2:Int),(0:Int)) else some ((0:Int),(0:Int))))))
theorem g_value_asked_i0_ac {a0:GValue} {b1:GValue} {r:Int×Int} (H:g_value_asked_i0 a0 b1=some r):ACp Tryz.prog 127 [(.agg (GValue.cs a0)),(.agg (GValue.cs b1)),.clo 128 []] (.tup [(AV.int r.1),(AV.int r.2)]):=by
 refine ACp_of (AC2_of_body (vs:=[.i r.1,.i r.2]) Tryz.func127 Y Y (lb Y) Y ?_) (fun _=>.same _)
 unfold g_value_asked_i0 at H
 refine AW2_st [(0,.g (GValue.cs a0)),(1,.g (GValue.cs b1)),(2,.clo 128 [])] [] Y ⟨TLes.same _,TLes.same _,(fun _=>.same _),trivial⟩ trivial (sg 4 Y (rq Y (bx 3 Y) (rq Y (bx 4 Y) (ra Y (ra Y (RunW_st [(2,.clo 128 []),(3,.q 3 (0)),(4,.q 4 (0))] [(3,.pure (GValue.cs a0)),(4,.pure (GValue.cs b1))] Y ⟨(fun _=>.same _),TLes.same _,TLes.same _,trivial⟩ ⟨Y,Y,trivial⟩ (RunW_nil (QS (sg 4 Y (rp Y (pL U32 Y in_32 (Sub.refl _) (GValue.len a0)) (rp Y (pL U32 Y in_32 (Sub.refl _) (GValue.len b1)) (bindK H fun r'1 h1 H=>rp Y (pc Y Tryz.func130 Y (g_value_both_ac h1) Y) (ra Y (RunW_st [(2,.clo 128 []),(3,.q 3 (0)),(4,.q 4 (0)),(8,.i r'1)] [(3,.pure (GValue.cs a0)),(4,.pure (GValue.cs b1))] Y ⟨(fun _=>.same _),TLes.same _,TLes.same _,TLes.same _,trivial⟩ ⟨Y,Y,trivial⟩ (RunW_nil (sg 2 Y (rm Y (rp Y (pn Y) (RunW_st [(2,.clo 128 []),(3,.q 3 (0)),(4,.q 4 (0)),(8,.i r'1),(13,.b (decide (r'1≠0)))] [(3,.pure (GValue.cs a0)),(4,.pure (GValue.cs b1))] Y ⟨(fun _=>.same _),TLes.same _,TLes.same _,TLes.same _,TLes.same _,trivial⟩ ⟨Y,Y,trivial⟩ (RunW_nil (if2 H Y (fun h2 H=>?_) (fun h2 H=>?_))))))))))))))))))))))
 ·refine sg 3 Y (rm Y (ra Y (ra Y (rz [6,7] [.i 0,.i r'1] [] [] Y (QR ?_)))))
  have z:=se H;subst z
  exact ⟨⟨rt,rt,trivial⟩,trivial⟩
 refine AW2_st [(2,.clo 128 []),(3,.q 3 (0)),(4,.q 4 (0))] [(3,.pure (GValue.cs a0)),(4,.pure (GValue.cs b1))] Y ⟨(fun _=>.same _),TLes.same _,TLes.same _,trivial⟩ ⟨Y,Y,trivial⟩ (QK (QS (QS (AW2_mid (⟨[(2,.clo 128 []),(3,.q 3 (0)),(4,.q 4 (0)),(22,.b (decide ((a0.Kind=0)∨(b1.Kind=0))))],[(3,.pure (GValue.cs a0)),(4,.pure (GValue.cs b1))],33⟩:TS) ?_ ?_))))
 ·refine ar 8 Y (rf Y U32 Y in_3 Y Y (GValue.len a0) (rp Y (pl U3 Y (GValue.sub0 a0)) (rp Y (pi Y) (rm Y ?_))))
  refine (Classical.em (a0.Kind=0)).elim (fun h3=>?_) (fun h3=>?_)
  ·refine rO Y (dT h3) Y (rO Y (dT h3) Y (rO Y (dT h3) Y (rp Y (p_pkt Y Y (dT h3) (tb (dT (p:=(a0.Kind=0)∨(b1.Kind=0)) (Or.inl h3)).symm)) (RunW_st [(2,.clo 128 []),(3,.q 3 (0)),(4,.q 4 (0)),(22,.b (decide ((a0.Kind=0)∨(b1.Kind=0))))] [(3,.pure (GValue.cs a0)),(4,.pure (GValue.cs b1))] Y ⟨(fun _=>.same _),TLes.same _,TLes.same _,TLes.same _,trivial⟩ ⟨Y,Y,trivial⟩ ?_))))
   exact RunW_nil rfl
  refine rn Y (dF h3) Y (uf U32 Y in_3 Y (GValue.len b1)) (rn Y (dF h3) Y (pl U3 Y (GValue.sub0 b1)) (rn Y (dF h3) Y (pi Y) (rp Y (p_pkf Y Y (dF h3) (tb ((or_l (q:=b1.Kind=0) h3)))) (RunW_st [(2,.clo 128 []),(3,.q 3 (0)),(4,.q 4 (0)),(22,.b (decide ((a0.Kind=0)∨(b1.Kind=0))))] [(3,.pure (GValue.cs a0)),(4,.pure (GValue.cs b1))] Y ⟨(fun _=>.same _),TLes.same _,TLes.same _,TLes.same _,trivial⟩ ⟨Y,Y,trivial⟩ ?_))))
  exact RunW_nil rfl
 refine if2 H Y (fun h4 H=>?_) (fun h4 H=>?_)
 ·refine sg 2 Y (ra Y (ra Y (rz [6,7] [.i 1,.i 0] [] [] Y (QR ?_))))
  have z:=se H;subst z
  exact ⟨⟨rt,rt,trivial⟩,trivial⟩
 refine AW2_st [(2,.clo 128 []),(3,.q 3 (0)),(4,.q 4 (0))] [(3,.pure (GValue.cs a0)),(4,.pure (GValue.cs b1))] Y ⟨(fun _=>.same _),TLes.same _,TLes.same _,trivial⟩ ⟨Y,Y,trivial⟩ (QK (QS (sg 5 Y (rf Y U32 Y in_3 Y Y (GValue.len a0) (rp Y (pl U3 Y (GValue.sub0 a0)) (rf Y U32 Y in_3 Y Y (GValue.len b1) (rp Y (pl U3 Y (GValue.sub0 b1)) (rp Y (pn Y) (RunW_st [(2,.clo 128 []),(3,.q 3 (0)),(4,.q 4 (0)),(27,.b (decide (a0.Kind≠b1.Kind)))] [(3,.pure (GValue.cs a0)),(4,.pure (GValue.cs b1))] Y ⟨(fun _=>.same _),TLes.same _,TLes.same _,TLes.same _,trivial⟩ ⟨Y,Y,trivial⟩ (RunW_nil (if2 H Y (fun h5 H=>?_) (fun h5 H=>?_))))))))))))
 ·refine sg 2 Y (ra Y (ra Y (rz [6,7] [.i 0,.i 2] [] [] Y (QR ?_))))
  have z:=se H;subst z
  exact ⟨⟨rt,rt,trivial⟩,trivial⟩
 refine AW2_st [(2,.clo 128 []),(3,.q 3 (0)),(4,.q 4 (0))] [(3,.pure (GValue.cs a0)),(4,.pure (GValue.cs b1))] Y ⟨(fun _=>.same _),TLes.same _,TLes.same _,trivial⟩ ⟨Y,Y,trivial⟩ (QK (QS (sg 5 Y (rm Y (rp Y (pL U32 Y in_32 (Sub.refl _) (GValue.len a0)) (rp Y (pL U32 Y in_32 (Sub.refl _) (GValue.len b1)) (bindK H fun r'2 h6 H=>rp Y (pc Y Tryz.func131 Y (g_value_order_ac h6) Y) (bindK H fun r'3 h7 H=>rp Y (pc Y Tryz.func128 Y (g_value_Less_1_ac h7) Y) (rz [32] [.b r'3] [] [] Y (AW2_cond Y (fun h8=>?_) (fun h8=>?_)))))))))))
 ·replace H:=ite_then h8 H
  refine sg 2 Y (ra Y (ra Y (rz [6,7] [.i 2,.i 0] [] [] Y (QR ?_))))
  have z:=se H;subst z
  exact ⟨⟨rt,rt,trivial⟩,trivial⟩
 replace H:=ite_else (ne_true h8) H
 refine as2 [] [] [] [] Y (QK (sg 2 Y (ra Y (ra Y (rz [6,7] [.i 0,.i 0] [] [] Y (QR ?_))))))
 have z:=se H;subst z
 exact ⟨⟨rt,rt,trivial⟩,trivial⟩
noncomputable def g_value_Less (a0:GValue) (b1:GValue):Option (Int×Int) :=
  (g_value_asked_i0 a0 b1).bind fun r'1=>some (r'1.1,r'1.2)
theorem g_value_Less_ac {a0:GValue} {b1:GValue} {r:Int×Int} (H:g_value_Less a0 b1=some r):ACp Tryz.prog 123 [(.agg (GValue.cs a0)),(.agg (GValue.cs b1))] (.tup [(AV.int r.1),(AV.int r.2)]):=by
 refine ACp_of (AC2_of_body (vs:=[.i r.1,.i r.2]) Tryz.func123 Y Y (lb Y) Y ?_) (fun _=>.same _)
 unfold g_value_Less at H
 refine as2 [0,1] [.g (GValue.cs a0),.g (GValue.cs b1)] [] [] Y (sg 4 Y (rq Y (bx 2 Y) (rq Y (bx 3 Y) (ra Y (ra Y (rz [2,3] [.q 2 (0),.q 3 (0)] [2,3] [.pure (GValue.cs a0),.pure (GValue.cs b1)] Y (sg 7 Y (rp Y (pL U32 Y in_32 (Sub.refl _) (GValue.len a0)) (rp Y (pL U32 Y in_32 (Sub.refl _) (GValue.len b1)) (bindK H fun r'1 h1 H=>rp Y (p_calll Y Y Y Tryz.func127 Y Y (g_value_asked_i0_ac h1) (nlT Y (nlT Y Y)) ⟨lend_p Y,lend_p Y,lend_clo Y Y trivial,trivial⟩) (rp Y (pe Y) (rp Y (pe Y) (ra Y (ra Y (rz [4,5] [.i r'1.1,.i r'1.2] [] [] Y (QR ?_))))))))))))))))
 have z:=se H;subst z
 exact ⟨⟨rt,rt,trivial⟩,trivial⟩
noncomputable def g_value_Equal_1 (c0:Int):Option (Bool) :=
  some (decide (c0=(0:Int)))
theorem g_value_Equal_1_ac {c0:Int} {r:Bool} (H:g_value_Equal_1 c0=some r):ACp Tryz.prog 129 [(AV.int c0)] (AV.bool r):=by
 refine ACp_of (AC2_of_body (vs:=[.b r]) Tryz.func129 Y Y (lb Y) Y ?_) (fun _=>.same _)
 unfold g_value_Equal_1 at H
 refine as2 [0] [.i c0] [] [] Y (sg 1 Y (ra Y (rz [0] [_] [] [] Y (sg 3 Y (rm Y (rp Y (pi Y) (ra Y (rz [2] [.b (decide (c0=0))] [] [] Y (QR ?_)))))))))
 have z:=se H;subst z
 exact ⟨⟨rt,trivial⟩,trivial⟩
noncomputable def g_value_asked_i1 (a0:GValue) (b1:GValue):Option (Int×Int) :=
  (g_value_both a0 b1).bind fun r'1=>(if r'1≠(0:Int) then some ((0:Int),r'1) else (if (a0.Kind=(0:Int))∨(b1.Kind=(0:Int)) then some ((1:Int),(0:Int)) else (if a0.Kind≠b1.Kind then some ((0:Int),(2:Int)) else (g_value_order a0 b1).bind fun r'2=>(g_value_Equal_1 r'2).bind fun r'3=>(if r'3=true then some ((2:Int),(0:Int)) else some ((0:Int),(0:Int))))))
theorem g_value_asked_i1_ac {a0:GValue} {b1:GValue} {r:Int×Int} (H:g_value_asked_i1 a0 b1=some r):ACp Tryz.prog 127 [(.agg (GValue.cs a0)),(.agg (GValue.cs b1)),.clo 129 []] (.tup [(AV.int r.1),(AV.int r.2)]):=by
 refine ACp_of (AC2_of_body (vs:=[.i r.1,.i r.2]) Tryz.func127 Y Y (lb Y) Y ?_) (fun _=>.same _)
 unfold g_value_asked_i1 at H
 refine AW2_st [(0,.g (GValue.cs a0)),(1,.g (GValue.cs b1)),(2,.clo 129 [])] [] Y ⟨TLes.same _,TLes.same _,(fun _=>.same _),trivial⟩ trivial (sg 4 Y (rq Y (bx 3 Y) (rq Y (bx 4 Y) (ra Y (ra Y (RunW_st [(2,.clo 129 []),(3,.q 3 (0)),(4,.q 4 (0))] [(3,.pure (GValue.cs a0)),(4,.pure (GValue.cs b1))] Y ⟨(fun _=>.same _),TLes.same _,TLes.same _,trivial⟩ ⟨Y,Y,trivial⟩ (RunW_nil (QS (sg 4 Y (rp Y (pL U32 Y in_32 (Sub.refl _) (GValue.len a0)) (rp Y (pL U32 Y in_32 (Sub.refl _) (GValue.len b1)) (bindK H fun r'1 h1 H=>rp Y (pc Y Tryz.func130 Y (g_value_both_ac h1) Y) (ra Y (RunW_st [(2,.clo 129 []),(3,.q 3 (0)),(4,.q 4 (0)),(8,.i r'1)] [(3,.pure (GValue.cs a0)),(4,.pure (GValue.cs b1))] Y ⟨(fun _=>.same _),TLes.same _,TLes.same _,TLes.same _,trivial⟩ ⟨Y,Y,trivial⟩ (RunW_nil (sg 2 Y (rm Y (rp Y (pn Y) (RunW_st [(2,.clo 129 []),(3,.q 3 (0)),(4,.q 4 (0)),(8,.i r'1),(13,.b (decide (r'1≠0)))] [(3,.pure (GValue.cs a0)),(4,.pure (GValue.cs b1))] Y ⟨(fun _=>.same _),TLes.same _,TLes.same _,TLes.same _,TLes.same _,trivial⟩ ⟨Y,Y,trivial⟩ (RunW_nil (if2 H Y (fun h2 H=>?_) (fun h2 H=>?_))))))))))))))))))))))
 ·refine sg 3 Y (rm Y (ra Y (ra Y (rz [6,7] [.i 0,.i r'1] [] [] Y (QR ?_)))))
  have z:=se H;subst z
  exact ⟨⟨rt,rt,trivial⟩,trivial⟩
 refine AW2_st [(2,.clo 129 []),(3,.q 3 (0)),(4,.q 4 (0))] [(3,.pure (GValue.cs a0)),(4,.pure (GValue.cs b1))] Y ⟨(fun _=>.same _),TLes.same _,TLes.same _,trivial⟩ ⟨Y,Y,trivial⟩ (QK (QS (QS (AW2_mid (⟨[(2,.clo 129 []),(3,.q 3 (0)),(4,.q 4 (0)),(22,.b (decide ((a0.Kind=0)∨(b1.Kind=0))))],[(3,.pure (GValue.cs a0)),(4,.pure (GValue.cs b1))],33⟩:TS) ?_ ?_))))
 ·refine ar 8 Y (rf Y U32 Y in_3 Y Y (GValue.len a0) (rp Y (pl U3 Y (GValue.sub0 a0)) (rp Y (pi Y) (rm Y ?_))))
  refine (Classical.em (a0.Kind=0)).elim (fun h3=>?_) (fun h3=>?_)
  ·refine rO Y (dT h3) Y (rO Y (dT h3) Y (rO Y (dT h3) Y (rp Y (p_pkt Y Y (dT h3) (tb (dT (p:=(a0.Kind=0)∨(b1.Kind=0)) (Or.inl h3)).symm)) (RunW_st [(2,.clo 129 []),(3,.q 3 (0)),(4,.q 4 (0)),(22,.b (decide ((a0.Kind=0)∨(b1.Kind=0))))] [(3,.pure (GValue.cs a0)),(4,.pure (GValue.cs b1))] Y ⟨(fun _=>.same _),TLes.same _,TLes.same _,TLes.same _,trivial⟩ ⟨Y,Y,trivial⟩ ?_))))
   exact RunW_nil rfl
  refine rn Y (dF h3) Y (uf U32 Y in_3 Y (GValue.len b1)) (rn Y (dF h3) Y (pl U3 Y (GValue.sub0 b1)) (rn Y (dF h3) Y (pi Y) (rp Y (p_pkf Y Y (dF h3) (tb ((or_l (q:=b1.Kind=0) h3)))) (RunW_st [(2,.clo 129 []),(3,.q 3 (0)),(4,.q 4 (0)),(22,.b (decide ((a0.Kind=0)∨(b1.Kind=0))))] [(3,.pure (GValue.cs a0)),(4,.pure (GValue.cs b1))] Y ⟨(fun _=>.same _),TLes.same _,TLes.same _,TLes.same _,trivial⟩ ⟨Y,Y,trivial⟩ ?_))))
  exact RunW_nil rfl
 refine if2 H Y (fun h4 H=>?_) (fun h4 H=>?_)
 ·refine sg 2 Y (ra Y (ra Y (rz [6,7] [.i 1,.i 0] [] [] Y (QR ?_))))
  have z:=se H;subst z
  exact ⟨⟨rt,rt,trivial⟩,trivial⟩
 refine AW2_st [(2,.clo 129 []),(3,.q 3 (0)),(4,.q 4 (0))] [(3,.pure (GValue.cs a0)),(4,.pure (GValue.cs b1))] Y ⟨(fun _=>.same _),TLes.same _,TLes.same _,trivial⟩ ⟨Y,Y,trivial⟩ (QK (QS (sg 5 Y (rf Y U32 Y in_3 Y Y (GValue.len a0) (rp Y (pl U3 Y (GValue.sub0 a0)) (rf Y U32 Y in_3 Y Y (GValue.len b1) (rp Y (pl U3 Y (GValue.sub0 b1)) (rp Y (pn Y) (RunW_st [(2,.clo 129 []),(3,.q 3 (0)),(4,.q 4 (0)),(27,.b (decide (a0.Kind≠b1.Kind)))] [(3,.pure (GValue.cs a0)),(4,.pure (GValue.cs b1))] Y ⟨(fun _=>.same _),TLes.same _,TLes.same _,TLes.same _,trivial⟩ ⟨Y,Y,trivial⟩ (RunW_nil (if2 H Y (fun h5 H=>?_) (fun h5 H=>?_))))))))))))
 ·refine sg 2 Y (ra Y (ra Y (rz [6,7] [.i 0,.i 2] [] [] Y (QR ?_))))
  have z:=se H;subst z
  exact ⟨⟨rt,rt,trivial⟩,trivial⟩
 refine AW2_st [(2,.clo 129 []),(3,.q 3 (0)),(4,.q 4 (0))] [(3,.pure (GValue.cs a0)),(4,.pure (GValue.cs b1))] Y ⟨(fun _=>.same _),TLes.same _,TLes.same _,trivial⟩ ⟨Y,Y,trivial⟩ (QK (QS (sg 5 Y (rm Y (rp Y (pL U32 Y in_32 (Sub.refl _) (GValue.len a0)) (rp Y (pL U32 Y in_32 (Sub.refl _) (GValue.len b1)) (bindK H fun r'2 h6 H=>rp Y (pc Y Tryz.func131 Y (g_value_order_ac h6) Y) (bindK H fun r'3 h7 H=>rp Y (pc Y Tryz.func129 Y (g_value_Equal_1_ac h7) Y) (rz [32] [.b r'3] [] [] Y (AW2_cond Y (fun h8=>?_) (fun h8=>?_)))))))))))
 ·replace H:=ite_then h8 H
  refine sg 2 Y (ra Y (ra Y (rz [6,7] [.i 2,.i 0] [] [] Y (QR ?_))))
  have z:=se H;subst z
  exact ⟨⟨rt,rt,trivial⟩,trivial⟩
 replace H:=ite_else (ne_true h8) H
 refine as2 [] [] [] [] Y (QK (sg 2 Y (ra Y (ra Y (rz [6,7] [.i 0,.i 0] [] [] Y (QR ?_))))))
 have z:=se H;subst z
 exact ⟨⟨rt,rt,trivial⟩,trivial⟩
noncomputable def g_value_Equal (a0:GValue) (b1:GValue):Option (Int×Int) :=
  (g_value_asked_i1 a0 b1).bind fun r'1=>some (r'1.1,r'1.2)
theorem g_value_Equal_ac {a0:GValue} {b1:GValue} {r:Int×Int} (H:g_value_Equal a0 b1=some r):ACp Tryz.prog 124 [(.agg (GValue.cs a0)),(.agg (GValue.cs b1))] (.tup [(AV.int r.1),(AV.int r.2)]):=by
 refine ACp_of (AC2_of_body (vs:=[.i r.1,.i r.2]) Tryz.func124 Y Y (lb Y) Y ?_) (fun _=>.same _)
 unfold g_value_Equal at H
 refine as2 [0,1] [.g (GValue.cs a0),.g (GValue.cs b1)] [] [] Y (sg 4 Y (rq Y (bx 2 Y) (rq Y (bx 3 Y) (ra Y (ra Y (rz [2,3] [.q 2 (0),.q 3 (0)] [2,3] [.pure (GValue.cs a0),.pure (GValue.cs b1)] Y (sg 7 Y (rp Y (pL U32 Y in_32 (Sub.refl _) (GValue.len a0)) (rp Y (pL U32 Y in_32 (Sub.refl _) (GValue.len b1)) (bindK H fun r'1 h1 H=>rp Y (p_calll Y Y Y Tryz.func127 Y Y (g_value_asked_i1_ac h1) (nlT Y (nlT Y Y)) ⟨lend_p Y,lend_p Y,lend_clo Y Y trivial,trivial⟩) (rp Y (pe Y) (rp Y (pe Y) (ra Y (ra Y (rz [4,5] [.i r'1.1,.i r'1.2] [] [] Y (QR ?_))))))))))))))))
 have z:=se H;subst z
 exact ⟨⟨rt,rt,trivial⟩,trivial⟩
noncomputable def g_value_Not (a0:Int):Option (Int×Int) :=
  (g_value_truth ([a0]:List Int)).bind fun r'1=>(if r'1≠(0:Int) then some ((0:Int),r'1) else some (w64 ((2:Int) - a0),(0:Int)))
theorem g_value_Not_ac {a0:Int} {r:Int×Int} (H:g_value_Not a0=some r):ACp Tryz.prog 125 [(AV.int a0)] (.tup [(AV.int r.1),(AV.int r.2)]):=by
 refine ACp_of (AC2_of_body (vs:=[.i r.1,.i r.2]) Tryz.func125 Y Y (lb Y) Y ?_) (fun _=>.same _)
 unfold g_value_Not at H
 refine as2 [0] [.i a0] [] [] Y (sg 2 Y (ra Y (ra Y (rz [0] [_] [] [] Y (QS (sg 4 Y (rm Y (rq Y (MakeD.opD (u_bs 6 Y U76 in_3 Y one_3 (by decide) (by decide) Y Y Y) Y Y Y Y) (bindK H fun r'1 h1 H=>rp Y (p_calll Y Y Y Tryz.func126 Y Y (g_value_truth_ac h1) Y ⟨lend_o Y Y Y (ml AV.int ([a0]:List Int)) (by decide),trivial⟩) (ra Y (rz [0,4] [_,.i r'1] [] [] Y (sg 2 Y (rm Y (rp Y (pn Y) (rz [0,4,9] [_,_,.b (decide (r'1≠0))] [] [] Y (if2 H Y (fun h2 H=>?_) (fun h2 H=>?_)))))))))))))))))
 ·refine sg 3 Y (rm Y (ra Y (ra Y (rz [2,3] [.i 0,.i r'1] [] [] Y (QR ?_)))))
  have z:=se H;subst z
  exact ⟨⟨rt,rt,trivial⟩,trivial⟩
 refine as2 [0] [_] [] [] Y (QK (sg 4 Y (rm Y (rp Y (pb Y Y) (ra Y (ra Y (rz [2,3] [.i (w64 (2 - a0)),.i 0] [] [] Y (QR ?_))))))))
 have z:=se H;subst z
 exact ⟨⟨rt,rt,trivial⟩,trivial⟩
noncomputable def g_eval_compare (op0:Int) (v1:GValue) (w2:GValue):Option (GValue×Int) :=
  (g_value_Less v1 w2).bind fun r'1=>((if op0=(9:Int) then some (decide (op0=(9:Int))) else some (decide (op0=(10:Int))))).bind fun j'2=>(if j'2=true then (g_value_Equal v1 w2).bind fun r'3=>(if r'3.2≠(0:Int) then some (GValue.zero,r'3.2) else ((if ((op0=(10:Int))∨(op0=(12:Int)))∨(op0=(14:Int)) then (g_value_Not r'3.1).bind fun r'5=>some r'5.1 else some r'3.1)).bind fun j'4=>(g_eval_truth j'4).bind fun r'6=>some (r'6,(0:Int))) else ((if op0=(13:Int) then some (decide (op0=(13:Int))) else some (decide (op0=(12:Int))))).bind fun j'7=>(if j'7=true then (g_value_Less w2 v1).bind fun r'8=>(if r'8.2≠(0:Int) then some (GValue.zero,r'8.2) else ((if ((op0=(10:Int))∨(op0=(12:Int)))∨(op0=(14:Int)) then (g_value_Not r'8.1).bind fun r'10=>some r'10.1 else some r'8.1)).bind fun j'9=>(g_eval_truth j'9).bind fun r'11=>some (r'11,(0:Int))) else (if r'1.2≠(0:Int) then some (GValue.zero,r'1.2) else ((if ((op0=(10:Int))∨(op0=(12:Int)))∨(op0=(14:Int)) then (g_value_Not r'1.1).bind fun r'13=>some r'13.1 else some r'1.1)).bind fun j'12=>(g_eval_truth j'12).bind fun r'14=>some (r'14,(0:Int)))))
theorem g_eval_compare_ac {op0:Int} {v1:GValue} {w2:GValue} {r:GValue×Int} (H:g_eval_compare op0 v1 w2=some r):ACp Tryz.prog 118 [(AV.int op0),(.agg (GValue.cs v1)),(.agg (GValue.cs w2))] (.tup [(.agg (GValue.cs r.1)),(AV.int r.2)]):=by
 refine ACp_of (AC2_of_body (vs:=[.g (GValue.cs r.1),.i r.2]) Tryz.func118 Y Y (lb Y) Y ?_) (fun _=>.same _)
 unfold g_eval_compare at H
 refine as2 [0,1,2] [.i op0,.g (GValue.cs v1),.g (GValue.cs w2)] [] [] Y (sg 4 Y (rq Y (bx 4 Y) (rq Y (bx 5 Y) (rq Y (al 6 in_32 one_32 zc_32 Y) (ra Y (rz [0,4,5,6] [_,.q 4 (0),.q 5 (0),.q 6 (0)] [4,5,6] [.pure (GValue.cs v1),.pure (GValue.cs w2),.pure (GValue.cs GValue.zero)] Y (sg 8 Y (rp Y (pL U32 Y in_32 (Sub.refl _) (GValue.len v1)) (rp Y (pL U32 Y in_32 (Sub.refl _) (GValue.len w2)) (bindK H fun r'1 h1 H=>rp Y (pc Y Tryz.func123 Y (g_value_Less_ac h1) Y) (rm Y (rp Y (pe Y) (rp Y (pe Y) (ra Y (ra Y (rz [0,4,5,6,8,9] [_,_,_,_,.i r'1.1,.i r'1.2] [4,5,6] [_,_,_] Y (QS (sg 1 Y (rm Y (rz [0,4,5,6,8,9,16] [_,_,_,_,_,_,.i op0] [4,5,6] [_,_,_] Y (QB (QS ?_))))))))))))))))))))))
 refine bindK H fun j'2 h2 H=>AW2_mid (⟨[(0,.i op0),(4,.q 4 (0)),(5,.q 5 (0)),(6,.q 6 (0)),(8,.i r'1.1),(9,.i r'1.2),(16,.i op0),(17,.b j'2)],[(4,.pure (GValue.cs v1)),(5,.pure (GValue.cs w2)),(6,.pure (GValue.cs GValue.zero))],56⟩:TS) ?_ ?_
 ·clear H
  have H:=h2
  clear h2
  refine sg 2 Y (rp Y (pi Y) (ra Y (rz [0,4,5,6,8,9,16,17] [.i op0,.q 4 (0),.q 5 (0),.q 6 (0),.i r'1.1,.i r'1.2,.i op0,.b (decide (op0=9))] [4,5,6] [.pure (GValue.cs v1),.pure (GValue.cs w2),.pure (GValue.cs GValue.zero)] Y (if2 H Y (fun h3 H=>?_) (fun h3 H=>?_)))))
  ·refine QK ?_
   have z:=se H;subst z
   exact rfl
  refine ar 2 Y (rp Y (pi Y) (ra Y (rz [0,4,5,6,8,9,16,17] [_,_,_,_,_,_,_,.b (decide (op0=10))] [4,5,6] [_,_,_] Y ?_)))
  have z:=se H;subst z
  exact rfl
 refine AW2_cond Y (fun h4=>?_) (fun h4=>?_)
 ·replace H:=ite_then h4 H
  refine ar 8 Y (rp Y (pL U32 Y in_32 (Sub.refl _) (GValue.len v1)) (rp Y (pL U32 Y in_32 (Sub.refl _) (GValue.len w2)) (bindK H fun r'3 h5 H=>rp Y (pc Y Tryz.func124 Y (g_value_Equal_ac h5) Y) (rm Y (rp Y (pe Y) (rp Y (pe Y) (ra Y (ra Y (rz [0,6,8,9] [.i op0,.q 6 (0),.i r'3.1,.i r'3.2] [6] [.pure (GValue.cs GValue.zero)] Y (QS (sg 2 Y (rm Y (rp Y (pn Y) (rz [0,6,8,9,36] [_,_,_,_,.b (decide (r'3.2≠0))] [6] [_] Y (if2 H Y (fun h6 H=>?_) (fun h6 H=>?_))))))))))))))))
  ·refine sg 4 Y (rp Y (u_bld Y in_32 one_32 zc_32 pl_32 Y Y) (rm Y (rq Y (u_sw Y Y in_32 (GValue.len GValue.zero) (GValue.len GValue.zero)) (ra Y (rz [6,7] [_,.i r'3.2] [6] [_] Y (QR ?_))))))
   have z:=se H;subst z
   exact ⟨⟨rcw U32 Y in_32 Y (GValue.len GValue.zero),rt,trivial⟩,trivial⟩
  refine as2 [0,6,8] [_,_,_] [6] [_] Y (QK (QS (bindK H fun j'4 h7 H=>AW2_mid (⟨[(6,.q 6 (0)),(8,.i j'4)],[(6,.pure (GValue.cs GValue.zero))],56⟩:TS) ?_ ?_)))
  ·clear H
   have H:=h7
   clear h7
   refine QS (AW2_mid (⟨[(6,.q 6 (0)),(8,.i r'3.1),(48,.b (decide (((op0=10)∨(op0=12))∨(op0=14))))],[(6,.pure (GValue.cs GValue.zero))],56⟩:TS) ?_ ?_)
   ·refine ar 10 Y (rm Y (rp Y (pi Y) (rm Y ?_)))
    refine (Classical.em (op0=10)).elim (fun h8=>?_) (fun h8=>?_)
    ·exact rO Y (dT h8) Y (rO Y (dT h8) Y (rp Y (p_pkt Y Y (dT h8) (tb (dT (p:=(op0=10)∨(op0=12)) (Or.inl h8)).symm)) (rm Y (rO Y (dT (p:=(op0=10)∨(op0=12)) (Or.inl h8)) Y (rO Y (dT (p:=(op0=10)∨(op0=12)) (Or.inl h8)) Y (rp Y (p_pkt Y Y (dT (p:=(op0=10)∨(op0=12)) (Or.inl h8)) (tb (dT (p:=((op0=10)∨(op0=12))∨(op0=14)) (Or.inl (Or.inl h8))).symm)) (rend Y Y)))))))
    refine rn Y (dF h8) Y (p_move Y Y) (rn Y (dF h8) Y (pi Y) (rp Y (p_pkf Y Y (dF h8) (tb ((or_l (q:=op0=12) h8)))) (rm Y ?_)))
    refine (Classical.em (op0=12)).elim (fun h9=>?_) (fun h9=>?_)
    ·exact rO Y (dT (p:=(op0=10)∨(op0=12)) (Or.inr h9)) Y (rO Y (dT (p:=(op0=10)∨(op0=12)) (Or.inr h9)) Y (rp Y (p_pkt Y Y (dT (p:=(op0=10)∨(op0=12)) (Or.inr h9)) (tb (dT (p:=((op0=10)∨(op0=12))∨(op0=14)) (Or.inl (Or.inr h9))).symm)) (rend Y Y)))
    exact rn Y (dF (p:=(op0=10)∨(op0=12)) (not_or.2 ⟨h8,h9⟩)) Y (p_move Y Y) (rn Y (dF (p:=(op0=10)∨(op0=12)) (not_or.2 ⟨h8,h9⟩)) Y (pi Y) (rp Y (p_pkf Y Y (dF (p:=(op0=10)∨(op0=12)) (not_or.2 ⟨h8,h9⟩)) (tb ((or_l (p:=(op0=10)∨(op0=12)) (q:=op0=14) (not_or.2 ⟨h8,h9⟩))))) (rend Y Y)))
   refine if2 H Y (fun h10 H=>?_) (fun h10 H=>?_)
   ·refine ar 6 Y (rm Y (bindK H fun r'5 h11 H=>rp Y (pc Y Tryz.func125 Y (g_value_Not_ac h11) Y) (rm Y (rp Y (pe Y) (rp Y (pe Y) (ra Y (rz [6,8] [_,.i r'5.1] [6] [_] Y ?_)))))))
    have z:=se H;subst z
    exact rfl
   refine as2 [6,8] [_,_] [6] [_] Y (QK ?_)
   have z:=se H;subst z
   exact rfl
  refine sg 4 Y (rm Y (bindK H fun r'6 h12 H=>rp Y (pc Y Tryz.func111 Y (g_eval_truth_ac h12) Y) (rq Y (u_sw Y Y in_32 (GValue.len r'6) (GValue.len GValue.zero)) (ra Y (rz [6,7] [_,.i 0] [6] [.pure (GValue.cs r'6)] Y (QR ?_))))))
  have z:=se H;subst z
  exact ⟨⟨rcw U32 Y in_32 Y (GValue.len r'6),rt,trivial⟩,trivial⟩
 replace H:=ite_else (ne_true h4) H
 refine QS (bindK H fun j'7 h13 H=>AW2_mid (⟨[(0,.i op0),(4,.q 4 (0)),(5,.q 5 (0)),(6,.q 6 (0)),(8,.i r'1.1),(9,.i r'1.2),(26,.b j'7)],[(4,.pure (GValue.cs v1)),(5,.pure (GValue.cs w2)),(6,.pure (GValue.cs GValue.zero))],56⟩:TS) ?_ ?_)
 ·clear H
  have H:=h13
  clear h13
  refine sg 2 Y (rp Y (pi Y) (ra Y (rz [0,4,5,6,8,9,16,26] [.i op0,.q 4 (0),.q 5 (0),.q 6 (0),.i r'1.1,.i r'1.2,.i op0,.b (decide (op0=13))] [4,5,6] [.pure (GValue.cs v1),.pure (GValue.cs w2),.pure (GValue.cs GValue.zero)] Y (if2 H Y (fun h14 H=>?_) (fun h14 H=>?_)))))
  ·refine as2 [0,4,5,6,8,9,26] [_,_,_,_,_,_,_] [4,5,6] [_,_,_] Y (QK ?_)
   have z:=se H;subst z
   exact rfl
  refine ar 2 Y (rp Y (pi Y) (ra Y (rz [0,4,5,6,8,9,26] [_,_,_,_,_,_,.b (decide (op0=12))] [4,5,6] [_,_,_] Y ?_)))
  have z:=se H;subst z
  exact rfl
 refine AW2_cond Y (fun h15=>?_) (fun h15=>?_)
 ·replace H:=ite_then h15 H
  refine ar 8 Y (rp Y (pL U32 Y in_32 (Sub.refl _) (GValue.len w2)) (rp Y (pL U32 Y in_32 (Sub.refl _) (GValue.len v1)) (bindK H fun r'8 h16 H=>rp Y (pc Y Tryz.func123 Y (g_value_Less_ac h16) Y) (rm Y (rp Y (pe Y) (rp Y (pe Y) (ra Y (ra Y (rz [0,6,8,9] [.i op0,.q 6 (0),.i r'8.1,.i r'8.2] [6] [.pure (GValue.cs GValue.zero)] Y (QS (sg 2 Y (rm Y (rp Y (pn Y) (rz [0,6,8,9,36] [_,_,_,_,.b (decide (r'8.2≠0))] [6] [_] Y (if2 H Y (fun h17 H=>?_) (fun h17 H=>?_))))))))))))))))
  ·refine sg 4 Y (rp Y (u_bld Y in_32 one_32 zc_32 pl_32 Y Y) (rm Y (rq Y (u_sw Y Y in_32 (GValue.len GValue.zero) (GValue.len GValue.zero)) (ra Y (rz [6,7] [_,.i r'8.2] [6] [_] Y (QR ?_))))))
   have z:=se H;subst z
   exact ⟨⟨rcw U32 Y in_32 Y (GValue.len GValue.zero),rt,trivial⟩,trivial⟩
  refine as2 [0,6,8] [_,_,_] [6] [_] Y (QK (QS (bindK H fun j'9 h18 H=>AW2_mid (⟨[(6,.q 6 (0)),(8,.i j'9)],[(6,.pure (GValue.cs GValue.zero))],56⟩:TS) ?_ ?_)))
  ·clear H
   have H:=h18
   clear h18
   refine QS (AW2_mid (⟨[(6,.q 6 (0)),(8,.i r'8.1),(48,.b (decide (((op0=10)∨(op0=12))∨(op0=14))))],[(6,.pure (GValue.cs GValue.zero))],56⟩:TS) ?_ ?_)
   ·refine ar 10 Y (rm Y (rp Y (pi Y) (rm Y ?_)))
    refine (Classical.em (op0=10)).elim (fun h19=>?_) (fun h19=>?_)
    ·exact rO Y (dT h19) Y (rO Y (dT h19) Y (rp Y (p_pkt Y Y (dT h19) (tb (dT (p:=(op0=10)∨(op0=12)) (Or.inl h19)).symm)) (rm Y (rO Y (dT (p:=(op0=10)∨(op0=12)) (Or.inl h19)) Y (rO Y (dT (p:=(op0=10)∨(op0=12)) (Or.inl h19)) Y (rp Y (p_pkt Y Y (dT (p:=(op0=10)∨(op0=12)) (Or.inl h19)) (tb (dT (p:=((op0=10)∨(op0=12))∨(op0=14)) (Or.inl (Or.inl h19))).symm)) (rend Y Y)))))))
    refine rn Y (dF h19) Y (p_move Y Y) (rn Y (dF h19) Y (pi Y) (rp Y (p_pkf Y Y (dF h19) (tb ((or_l (q:=op0=12) h19)))) (rm Y ?_)))
    refine (Classical.em (op0=12)).elim (fun h20=>?_) (fun h20=>?_)
    ·exact rO Y (dT (p:=(op0=10)∨(op0=12)) (Or.inr h20)) Y (rO Y (dT (p:=(op0=10)∨(op0=12)) (Or.inr h20)) Y (rp Y (p_pkt Y Y (dT (p:=(op0=10)∨(op0=12)) (Or.inr h20)) (tb (dT (p:=((op0=10)∨(op0=12))∨(op0=14)) (Or.inl (Or.inr h20))).symm)) (rend Y Y)))
    exact rn Y (dF (p:=(op0=10)∨(op0=12)) (not_or.2 ⟨h19,h20⟩)) Y (p_move Y Y) (rn Y (dF (p:=(op0=10)∨(op0=12)) (not_or.2 ⟨h19,h20⟩)) Y (pi Y) (rp Y (p_pkf Y Y (dF (p:=(op0=10)∨(op0=12)) (not_or.2 ⟨h19,h20⟩)) (tb ((or_l (p:=(op0=10)∨(op0=12)) (q:=op0=14) (not_or.2 ⟨h19,h20⟩))))) (rend Y Y)))
   refine if2 H Y (fun h21 H=>?_) (fun h21 H=>?_)
   ·refine ar 6 Y (rm Y (bindK H fun r'10 h22 H=>rp Y (pc Y Tryz.func125 Y (g_value_Not_ac h22) Y) (rm Y (rp Y (pe Y) (rp Y (pe Y) (ra Y (rz [6,8] [_,.i r'10.1] [6] [_] Y ?_)))))))
    have z:=se H;subst z
    exact rfl
   refine as2 [6,8] [_,_] [6] [_] Y (QK ?_)
   have z:=se H;subst z
   exact rfl
  refine sg 4 Y (rm Y (bindK H fun r'11 h23 H=>rp Y (pc Y Tryz.func111 Y (g_eval_truth_ac h23) Y) (rq Y (u_sw Y Y in_32 (GValue.len r'11) (GValue.len GValue.zero)) (ra Y (rz [6,7] [_,.i 0] [6] [.pure (GValue.cs r'11)] Y (QR ?_))))))
  have z:=se H;subst z
  exact ⟨⟨rcw U32 Y in_32 Y (GValue.len r'11),rt,trivial⟩,trivial⟩
 replace H:=ite_else (ne_true h15) H
 refine as2 [0,6,8,9] [.i op0,.q 6 (0),.i r'1.1,.i r'1.2] [6] [.pure (GValue.cs GValue.zero)] Y (QK (QS (sg 2 Y (rm Y (rp Y (pn Y) (rz [0,6,8,9,36] [_,_,_,_,.b (decide (r'1.2≠0))] [6] [_] Y (if2 H Y (fun h24 H=>?_) (fun h24 H=>?_))))))))
 ·refine sg 4 Y (rp Y (u_bld Y in_32 one_32 zc_32 pl_32 Y Y) (rm Y (rq Y (u_sw Y Y in_32 (GValue.len GValue.zero) (GValue.len GValue.zero)) (ra Y (rz [6,7] [_,.i r'1.2] [6] [_] Y (QR ?_))))))
  have z:=se H;subst z
  exact ⟨⟨rcw U32 Y in_32 Y (GValue.len GValue.zero),rt,trivial⟩,trivial⟩
 refine as2 [0,6,8] [_,_,_] [6] [_] Y (QK (QS (bindK H fun j'12 h25 H=>AW2_mid (⟨[(6,.q 6 (0)),(8,.i j'12)],[(6,.pure (GValue.cs GValue.zero))],56⟩:TS) ?_ ?_)))
 ·clear H
  have H:=h25
  clear h25
  refine QS (AW2_mid (⟨[(6,.q 6 (0)),(8,.i r'1.1),(48,.b (decide (((op0=10)∨(op0=12))∨(op0=14))))],[(6,.pure (GValue.cs GValue.zero))],56⟩:TS) ?_ ?_)
  ·refine ar 10 Y (rm Y (rp Y (pi Y) (rm Y ?_)))
   refine (Classical.em (op0=10)).elim (fun h26=>?_) (fun h26=>?_)
   ·exact rO Y (dT h26) Y (rO Y (dT h26) Y (rp Y (p_pkt Y Y (dT h26) (tb (dT (p:=(op0=10)∨(op0=12)) (Or.inl h26)).symm)) (rm Y (rO Y (dT (p:=(op0=10)∨(op0=12)) (Or.inl h26)) Y (rO Y (dT (p:=(op0=10)∨(op0=12)) (Or.inl h26)) Y (rp Y (p_pkt Y Y (dT (p:=(op0=10)∨(op0=12)) (Or.inl h26)) (tb (dT (p:=((op0=10)∨(op0=12))∨(op0=14)) (Or.inl (Or.inl h26))).symm)) (rend Y Y)))))))
   refine rn Y (dF h26) Y (p_move Y Y) (rn Y (dF h26) Y (pi Y) (rp Y (p_pkf Y Y (dF h26) (tb ((or_l (q:=op0=12) h26)))) (rm Y ?_)))
   refine (Classical.em (op0=12)).elim (fun h27=>?_) (fun h27=>?_)
   ·exact rO Y (dT (p:=(op0=10)∨(op0=12)) (Or.inr h27)) Y (rO Y (dT (p:=(op0=10)∨(op0=12)) (Or.inr h27)) Y (rp Y (p_pkt Y Y (dT (p:=(op0=10)∨(op0=12)) (Or.inr h27)) (tb (dT (p:=((op0=10)∨(op0=12))∨(op0=14)) (Or.inl (Or.inr h27))).symm)) (rend Y Y)))
   exact rn Y (dF (p:=(op0=10)∨(op0=12)) (not_or.2 ⟨h26,h27⟩)) Y (p_move Y Y) (rn Y (dF (p:=(op0=10)∨(op0=12)) (not_or.2 ⟨h26,h27⟩)) Y (pi Y) (rp Y (p_pkf Y Y (dF (p:=(op0=10)∨(op0=12)) (not_or.2 ⟨h26,h27⟩)) (tb ((or_l (p:=(op0=10)∨(op0=12)) (q:=op0=14) (not_or.2 ⟨h26,h27⟩))))) (rend Y Y)))
  refine if2 H Y (fun h28 H=>?_) (fun h28 H=>?_)
  ·refine ar 6 Y (rm Y (bindK H fun r'13 h29 H=>rp Y (pc Y Tryz.func125 Y (g_value_Not_ac h29) Y) (rm Y (rp Y (pe Y) (rp Y (pe Y) (ra Y (rz [6,8] [_,.i r'13.1] [6] [_] Y ?_)))))))
   have z:=se H;subst z
   exact rfl
  refine as2 [6,8] [_,_] [6] [_] Y (QK ?_)
  have z:=se H;subst z
  exact rfl
 refine sg 4 Y (rm Y (bindK H fun r'14 h30 H=>rp Y (pc Y Tryz.func111 Y (g_eval_truth_ac h30) Y) (rq Y (u_sw Y Y in_32 (GValue.len r'14) (GValue.len GValue.zero)) (ra Y (rz [6,7] [_,.i 0] [6] [.pure (GValue.cs r'14)] Y (QR ?_))))))
 have z:=se H;subst z
 exact ⟨⟨rcw U32 Y in_32 Y (GValue.len r'14),rt,trivial⟩,trivial⟩
noncomputable def g_eval_two (op0:Int) (v1:GValue) (w2:GValue):Option (GValue×Int) :=
  ((if op0=(15:Int) then some (decide (op0=(15:Int))) else some (decide (op0=(16:Int))))).bind fun j'1=>(if j'1=true then (g_eval_logic op0 v1 w2).bind fun r'2=>some (r'2.1,r'2.2) else (if op0=(20:Int) then some (w2,(0:Int)) else (if op0=(19:Int) then (g_eval_join v1 w2).bind fun r'3=>some (r'3.1,r'3.2) else ((if op0=(5:Int) then some (decide (op0=(5:Int))) else (if op0=(6:Int) then some (decide (op0=(6:Int))) else (if op0=(7:Int) then some (decide (op0=(7:Int))) else some (decide (op0=(8:Int))))))).bind fun j'4=>(if j'4=true then (g_eval_reckon op0 v1 w2).bind fun r'5=>some (r'5.1,r'5.2) else (g_eval_compare op0 v1 w2).bind fun r'6=>some (r'6.1,r'6.2)))))
theorem g_eval_two_ac {op0:Int} {v1:GValue} {w2:GValue} {r:GValue×Int} (H:g_eval_two op0 v1 w2=some r):ACp Tryz.prog 114 [(AV.int op0),(.agg (GValue.cs v1)),(.agg (GValue.cs w2))] (.tup [(.agg (GValue.cs r.1)),(AV.int r.2)]):=by
 refine ACp_of (AC2_of_body (vs:=[.g (GValue.cs r.1),.i r.2]) Tryz.func114 Y Y (lb Y) Y ?_) (fun _=>.same _)
 unfold g_eval_two at H
 refine as2 [0,1,2] [.i op0,.g (GValue.cs v1),.g (GValue.cs w2)] [] [] Y (sg 4 Y (rq Y (bx 4 Y) (rq Y (bx 5 Y) (rq Y (al 6 in_32 one_32 zc_32 Y) (ra Y (rz [0,4,5,6] [_,.q 4 (0),.q 5 (0),.q 6 (0)] [4,5,6] [.pure (GValue.cs v1),.pure (GValue.cs w2),.pure (GValue.cs GValue.zero)] Y (QS (sg 1 Y (rm Y (rz [0,4,5,6,8] [_,_,_,_,.i op0] [4,5,6] [_,_,_] Y (QB (QS (bindK H fun j'1 h1 H=>AW2_mid (⟨[(0,.i op0),(4,.q 4 (0)),(5,.q 5 (0)),(6,.q 6 (0)),(8,.i op0),(9,.b j'1)],[(4,.pure (GValue.cs v1)),(5,.pure (GValue.cs w2)),(6,.pure (GValue.cs GValue.zero))],45⟩:TS) ?_ ?_)))))))))))))
 ·clear H
  have H:=h1
  clear h1
  refine sg 2 Y (rp Y (pi Y) (ra Y (rz [0,4,5,6,8,9] [.i op0,.q 4 (0),.q 5 (0),.q 6 (0),.i op0,.b (decide (op0=15))] [4,5,6] [.pure (GValue.cs v1),.pure (GValue.cs w2),.pure (GValue.cs GValue.zero)] Y (if2 H Y (fun h2 H=>?_) (fun h2 H=>?_)))))
  ·refine QK ?_
   have z:=se H;subst z
   exact rfl
  refine ar 2 Y (rp Y (pi Y) (ra Y (rz [0,4,5,6,8,9] [_,_,_,_,_,.b (decide (op0=16))] [4,5,6] [_,_,_] Y ?_)))
  have z:=se H;subst z
  exact rfl
 refine AW2_cond Y (fun h3=>?_) (fun h3=>?_)
 ·replace H:=ite_then h3 H
  refine sg 8 Y (rm Y (rp Y (pL U32 Y in_32 (Sub.refl _) (GValue.len v1)) (rp Y (pL U32 Y in_32 (Sub.refl _) (GValue.len w2)) (bindK H fun r'2 h4 H=>rp Y (pc Y Tryz.func115 Y (g_eval_logic_ac h4) Y) (rp Y (pe Y) (rp Y (pe Y) (rq Y (u_sw Y Y in_32 (GValue.len r'2.1) (GValue.len GValue.zero)) (ra Y (rz [6,7] [.q 6 (0),.i r'2.2] [6] [.pure (GValue.cs r'2.1)] Y (QR ?_))))))))))
  have z:=se H;subst z
  exact ⟨⟨rcw U32 Y in_32 Y (GValue.len r'2.1),rt,trivial⟩,trivial⟩
 replace H:=ite_else (ne_true h3) H
 refine sg 2 Y (rp Y (pi Y) (ra Y (rz [0,4,5,6,8,18] [.i op0,.q 4 (0),.q 5 (0),.q 6 (0),.i op0,.b (decide (op0=20))] [4,5,6] [.pure (GValue.cs v1),.pure (GValue.cs w2),.pure (GValue.cs GValue.zero)] Y (if2 H Y (fun h5 H=>?_) (fun h5 H=>?_)))))
 ·refine sg 3 Y (rp Y (pL U32 Y in_32 (Sub.refl _) (GValue.len w2)) (rq Y (u_sw Y Y in_32 (GValue.len w2) (GValue.len GValue.zero)) (ra Y (rz [6,7] [_,.i 0] [6] [.pure (GValue.cs w2)] Y (QR ?_)))))
  have z:=se H;subst z
  exact ⟨⟨rcw U32 Y in_32 Y (GValue.len w2),rt,trivial⟩,trivial⟩
 refine sg 2 Y (rp Y (pi Y) (ra Y (rz [0,4,5,6,8,21] [_,_,_,_,_,.b (decide (op0=19))] [4,5,6] [_,_,_] Y (if2 H Y (fun h6 H=>?_) (fun h6 H=>?_)))))
 ·refine sg 7 Y (rp Y (pL U32 Y in_32 (Sub.refl _) (GValue.len v1)) (rp Y (pL U32 Y in_32 (Sub.refl _) (GValue.len w2)) (bindK H fun r'3 h7 H=>rp Y (pc Y Tryz.func116 Y (g_eval_join_ac h7) Y) (rp Y (pe Y) (rp Y (pe Y) (rq Y (u_sw Y Y in_32 (GValue.len r'3.1) (GValue.len GValue.zero)) (ra Y (rz [6,7] [_,.i r'3.2] [6] [.pure (GValue.cs r'3.1)] Y (QR ?_)))))))))
  have z:=se H;subst z
  exact ⟨⟨rcw U32 Y in_32 Y (GValue.len r'3.1),rt,trivial⟩,trivial⟩
 refine QS (bindK H fun j'4 h8 H=>AW2_mid (⟨[(0,.i op0),(4,.q 4 (0)),(5,.q 5 (0)),(6,.q 6 (0)),(28,.b j'4)],[(4,.pure (GValue.cs v1)),(5,.pure (GValue.cs w2)),(6,.pure (GValue.cs GValue.zero))],45⟩:TS) ?_ ?_)
 ·clear H
  have H:=h8
  clear h8
  refine sg 2 Y (rp Y (pi Y) (ra Y (rz [0,4,5,6,8,28] [.i op0,.q 4 (0),.q 5 (0),.q 6 (0),.i op0,.b (decide (op0=5))] [4,5,6] [.pure (GValue.cs v1),.pure (GValue.cs w2),.pure (GValue.cs GValue.zero)] Y (if2 H Y (fun h9 H=>?_) (fun h9 H=>?_)))))
  ·refine as2 [0,4,5,6,28] [_,_,_,_,_] [4,5,6] [_,_,_] Y (QK ?_)
   have z:=se H;subst z
   exact rfl
  refine sg 2 Y (rp Y (pi Y) (ra Y (rz [0,4,5,6,8,28] [_,_,_,_,_,.b (decide (op0=6))] [4,5,6] [_,_,_] Y (if2 H Y (fun h10 H=>?_) (fun h10 H=>?_)))))
  ·refine as2 [0,4,5,6,28] [_,_,_,_,_] [4,5,6] [_,_,_] Y (QK ?_)
   have z:=se H;subst z
   exact rfl
  refine sg 2 Y (rp Y (pi Y) (ra Y (rz [0,4,5,6,8,28] [_,_,_,_,_,.b (decide (op0=7))] [4,5,6] [_,_,_] Y (if2 H Y (fun h11 H=>?_) (fun h11 H=>?_)))))
  ·refine as2 [0,4,5,6,28] [_,_,_,_,_] [4,5,6] [_,_,_] Y (QK ?_)
   have z:=se H;subst z
   exact rfl
  refine ar 2 Y (rp Y (pi Y) (ra Y (rz [0,4,5,6,28] [_,_,_,_,.b (decide (op0=8))] [4,5,6] [_,_,_] Y ?_)))
  have z:=se H;subst z
  exact rfl
 refine AW2_cond Y (fun h12=>?_) (fun h12=>?_)
 ·replace H:=ite_then h12 H
  refine sg 8 Y (rm Y (rp Y (pL U32 Y in_32 (Sub.refl _) (GValue.len v1)) (rp Y (pL U32 Y in_32 (Sub.refl _) (GValue.len w2)) (bindK H fun r'5 h13 H=>rp Y (pc Y Tryz.func117 Y (g_eval_reckon_ac h13) Y) (rp Y (pe Y) (rp Y (pe Y) (rq Y (u_sw Y Y in_32 (GValue.len r'5.1) (GValue.len GValue.zero)) (ra Y (rz [6,7] [.q 6 (0),.i r'5.2] [6] [.pure (GValue.cs r'5.1)] Y (QR ?_))))))))))
  have z:=se H;subst z
  exact ⟨⟨rcw U32 Y in_32 Y (GValue.len r'5.1),rt,trivial⟩,trivial⟩
 replace H:=ite_else (ne_true h12) H
 refine as2 [0,4,5,6] [.i op0,.q 4 (0),.q 5 (0),.q 6 (0)] [4,5,6] [.pure (GValue.cs v1),.pure (GValue.cs w2),.pure (GValue.cs GValue.zero)] Y (QK (sg 8 Y (rm Y (rp Y (pL U32 Y in_32 (Sub.refl _) (GValue.len v1)) (rp Y (pL U32 Y in_32 (Sub.refl _) (GValue.len w2)) (bindK H fun r'6 h14 H=>rp Y (pc Y Tryz.func118 Y (g_eval_compare_ac h14) Y) (rp Y (pe Y) (rp Y (pe Y) (rq Y (u_sw Y Y in_32 (GValue.len r'6.1) (GValue.len GValue.zero)) (ra Y (rz [6,7] [_,.i r'6.2] [6] [.pure (GValue.cs r'6.1)] Y (QR ?_))))))))))))
 have z:=se H;subst z
 exact ⟨⟨rcw U32 Y in_32 Y (GValue.len r'6.1),rt,trivial⟩,trivial⟩
def g_eval_twin_of_r6:List (List (Nat×Option Nat)):=[[(2,none)],[(31,some 0)],[(32,some 1)],[(33,some 2)],[(6,none),(34,some 3)],[(34,some 3)]]
def g_eval_twin_of_r6c:List (List Nat):=[[],[0],[0,1],[0,1,2],[0,1,2,3],[0,1,2,3],[0,1,2,3,4,5],[0,1,2,3,4,5,6],[0,1,2,3,4,5,6,7]]
def g_eval_twin_of_r7:List (List (Nat×Option Nat)):=[[(2,none)],[(39,some 0)],[(40,some 1)],[(41,some 2)],[(6,none),(42,some 3)],[(42,some 3)]]
def g_eval_twin_of_r7c:List (List Nat):=[[],[0],[0,1],[0,1,2],[0,1,2,3],[0,1,2,3],[0,1,2,3,4,5],[0,1,2,3,4,5,6],[0,1,2,3,4,5,6,7]]
noncomputable def g_eval_twin_of_b (R':Geval_thing→(List GValue)→Option (GValue×Int)) (t0:Geval_twin) (row1:List GValue):Option (GValue×Int) :=
  (R' t0.a_ row1).bind fun r'1=>(if r'1.2≠(0:Int) then some (GValue.zero,r'1.2) else (if (t0.op_=(20:Int))∧(r'1.1.Kind≠(0:Int)) then some (r'1.1,(0:Int)) else (((if t0.op_=(15:Int) then (g_eval_truth (0:Int)).bind fun r'3=>some (decide (r'1.1=r'3)) else some false)).bind fun g'4=>(if g'4=true then some g'4 else ((if t0.op_=(16:Int) then (g_eval_truth (2:Int)).bind fun r'5=>some (decide (r'1.1=r'5)) else some false)).bind fun g'6=>some g'6)).bind fun j'2=>(if j'2=true then some (r'1.1,(0:Int)) else (R' t0.b_ row1).bind fun r'7=>(if r'7.2≠(0:Int) then some (GValue.zero,r'7.2) else (g_eval_two t0.op_ r'1.1 r'7.1).bind fun r'8=>some (r'8.1,r'8.2)))))
theorem g_eval_twin_of_ac0 {R' : Geval_thing → (List GValue) → Option (GValue × Int)} (hR : ∀ {x : Geval_thing} {a0 : List GValue} {r : GValue × Int}, R' x a0 = some r → IC Tryz.prog (Geval_thing.val x) "chirograph/eval.of" [(GValue.ls a0)] (.tup [(.agg (GValue.cs r.1)), (AV.int r.2)])) {t0 : Geval_twin} {row1 : List GValue} {r : GValue × Int} (H : g_eval_twin_of_b R' t0 row1 = some r) : ACp Tryz.prog 113 [(.agg (Geval_twin.cs t0)), (GValue.ls row1)] (.tup [(.agg (GValue.cs r.1)), (AV.int r.2)]) := by
 refine ACp_of (AC2_of_body (vs:=[.g (GValue.cs r.1),.i r.2]) Tryz.func113 Y Y (lb Y) Y ?_) (fun _=>.same _)
 unfold g_eval_twin_of_b at H
 refine as2 [0,1] [.g (Geval_twin.cs t0),.p (GValue.ls row1)] [] [] Y (sg 3 Y (rq Y (bx 2 Y) (rq Y (al 4 in_32 one_32 zc_32 Y) (ra Y (rz [1,2,4] [_,.q 2 (0),.q 4 (0)] [2,4] [.pure (Geval_twin.cs t0),.pure (GValue.cs GValue.zero)] Y (sg 10 Y (rf Y U110 Y in_86 Y Y (Geval_twin.len t0) (rp Y (pl U86 Y (Geval_twin.sub1 t0)) (rm Y (bindK H fun r'1 h1 H=>rp Y (p_calli Y Y (hR h1) ⟨Y,trivial⟩) (rm Y (rp Y (pe Y) (rp Y (pe Y) (rq Y (al 6 in_32 one_32 zc_32 Y) (rq Y (u_sw Y Y in_32 (GValue.len r'1.1) (GValue.len GValue.zero)) (ra Y (rz [1,2,4,6,7] [_,_,_,.q 6 (0),.i r'1.2] [2,4,6] [_,_,.pure (GValue.cs r'1.1)] Y (QS (sg 2 Y (rm Y (rp Y (pn Y) (rz [1,2,4,6,7,17] [_,_,_,_,_,.b (decide (r'1.2≠0))] [2,4,6] [_,_,_] Y ?_))))))))))))))))))))))
 refine if2 H Y (fun h2 H=>?_) (fun h2 H=>?_)
 ·refine sg 4 Y (rp Y (u_bld Y in_32 one_32 zc_32 pl_32 Y Y) (rm Y (rq Y (u_sw Y Y in_32 (GValue.len GValue.zero) (GValue.len GValue.zero)) (ra Y (rz [4,5] [_,.i r'1.2] [4] [_] Y (QR ?_))))))
  have z:=se H;subst z
  exact ⟨⟨rcw U32 Y in_32 Y (GValue.len GValue.zero),rt,trivial⟩,trivial⟩
 refine as2 [1,2,4,6] [_,_,_,_] [2,4,6] [_,_,_] Y (QK (QS (QB (QS (AW2_mid (⟨[(1,.p (GValue.ls row1)),(2,.q 2 (0)),(4,.q 4 (0)),(6,.q 6 (0)),(20,.b (decide ((t0.op_=20)∧(r'1.1.Kind≠0))))],[(2,.pure (Geval_twin.cs t0)),(4,.pure (GValue.cs GValue.zero)),(6,.pure (GValue.cs r'1.1))],66⟩:TS) ?_ ?_)))))
 ·refine ar 9 Y (rf Y U110 Y in_3 Y Y (Geval_twin.len t0) (rp Y (pl U3 Y (Geval_twin.sub0 t0)) (rp Y (pi Y) (rm Y ?_))))
  refine (Classical.em (t0.op_=20)).elim (fun h3=>?_) (fun h3=>?_)
  ·exact rn Y (dT h3) Y (uf U32 Y in_3 Y (GValue.len r'1.1)) (rn Y (dT h3) Y (pl U3 Y (GValue.sub0 r'1.1)) (rn Y (dT h3) Y (pn Y) (rp Y (p_pkt Y Y (dT h3) (tb ((and_l (q:=r'1.1.Kind≠0) h3)))) (ra Y (rend Y Y)))))
  exact rO Y (dF h3) Y (rO Y (dF h3) Y (rO Y (dF h3) Y (rp Y (p_pkf Y Y (dF h3) (tb (dF (p:=(t0.op_=20)∧(r'1.1.Kind≠0)) (fun x=>h3 x.1)).symm)) (ra Y (rend Y Y)))))
 refine if2 H Y (fun h4 H=>?_) (fun h4 H=>?_)
 ·refine sg 3 Y (rp Y (pL U32 Y in_32 (Sub.refl _) (GValue.len r'1.1)) (rq Y (u_sw Y Y in_32 (GValue.len r'1.1) (GValue.len GValue.zero)) (ra Y (rz [4,5] [_,.i 0] [4] [.pure (GValue.cs r'1.1)] Y (QR ?_)))))
  have z:=se H;subst z
  exact ⟨⟨rcw U32 Y in_32 Y (GValue.len r'1.1),rt,trivial⟩,trivial⟩
 refine QS (bindK H fun j'2 h5 H=>AW2_mid (⟨[(1,.p (GValue.ls row1)),(2,.q 2 (0)),(4,.q 4 (0)),(6,.q 6 (0)),(30,.b j'2)],[(2,.pure (Geval_twin.cs t0)),(4,.pure (GValue.cs GValue.zero)),(6,.pure (GValue.cs r'1.1))],66⟩:TS) ?_ ?_)
 ·clear H
  have H:=h5
  clear h5
  refine QS (bindK H fun g'4 h8 H=>AW2_mid (⟨[(1,.p (GValue.ls row1)),(2,.q 2 (0)),(4,.q 4 (0)),(6,.q 6 (0)),(30,.b g'4)],[(2,.pure (Geval_twin.cs t0)),(4,.pure (GValue.cs GValue.zero)),(6,.pure (GValue.cs r'1.1))],66⟩:TS) ?_ ?_)
  ·clear H
   have H:=h8
   clear h8
   refine em2 H (fun h6 H=>?_) (fun h6 H=>?_)
   ·refine bindK H fun r'3 h7 H=>?_
    have z:=se H;subst z
    refine AW2_ghoQ (AW2_draw 6 [6,7,8] (fun k=>([.q 2 (0+0),.i t0.op_,.b (decide (t0.op_=15)),.b (decide (t0.op_=15)),.g (GValue.cs r'1.1),.g (GValue.cs r'3)]:List TV).getD k TV.any) (fun k=>g_eval_twin_of_r6.getD k []) [(1,none),(2,none),(4,none),(6,none),(34,some 3),(35,some 4),(36,some 5)] [] (fun k=>g_eval_twin_of_r6c.getD k []) mixed (by kernel_rfl) Y Y (a_op (g_x Y (x_p Y (uf U110 Y in_3 Y (Geval_twin.len t0)) Y)) (a_op (g_x Y (x_p Y (pl U3 Y (Geval_twin.sub0 t0)) Y)) (a_op (g_x Y (x_p Y (pi Y) Y)) (a_op (g_x Y (x_p Y (p_move Y Y) Y)) (a_op (g_on Y Y Y (dT h6) Y (x_p Y (pL U32 Y in_32 (Sub.refl _) (GValue.len r'1.1)) Y)) (a_op (g_on Y Y Y (dT h6) Y (x_p Y (pc Y Tryz.func111 Y (g_eval_truth_ac h7) Y) Y)) (a_nil))))))) (t_on Y Y Y Y (dT h6) Y (PureD.opD (p_eqa (a:=r'1.1) (b:=r'3) Y eq_32 Y (by kernel_rfl) Y Y)) (t_op Y Y (PureD.opD (p_pkt Y Y (dT h6) (.same _))) (t_op Y Y (PureD.opD (p_asg Y Y)) (t_gho (Gho_st (L:=[(1,.p (GValue.ls row1)),(2,.q 2 (0)),(4,.q 4 (0)),(6,.q 6 (0)),(30,.b (decide (r'1.1=r'3)))]) (H:=[(2,.pure (Geval_twin.cs t0)),(4,.pure (GValue.cs GValue.zero)),(6,.pure (GValue.cs r'1.1))]) (N:=66) Y ⟨TLes.same _,TLes.same _,TLes.same _,TLes.same _,TLes.same _,trivial⟩ ⟨Y,Y,Y,trivial⟩) ?_)))))
    exact rfl
   have z:=se H;subst z
   refine AW2_ghoQ (AW2_draw 6 [6,7,8] (fun k=>([.q 2 (0+0),.i t0.op_,.b (decide (t0.op_=15)),.b (decide (t0.op_=15)),.p (.tup []),.p (.tup [])]:List TV).getD k TV.any) (fun k=>g_eval_twin_of_r6.getD k []) [(1,none),(2,none),(4,none),(6,none),(34,some 3),(35,some 4),(36,some 5)] [] (fun k=>g_eval_twin_of_r6c.getD k []) mixed (by kernel_rfl) Y Y (a_op (g_x Y (x_p Y (uf U110 Y in_3 Y (Geval_twin.len t0)) Y)) (a_op (g_x Y (x_p Y (pl U3 Y (Geval_twin.sub0 t0)) Y)) (a_op (g_x Y (x_p Y (pi Y) Y)) (a_op (g_x Y (x_p Y (p_move Y Y) Y)) (a_op (g_off Y Y Y Y Y (dF h6) Y Y) (a_op (g_off Y Y Y Y Y (dF h6) Y Y) (a_nil))))))) (t_off Y Y Y Y (dF h6) Y Y (t_op Y Y (PureD.opD (p_pkf Y Y (dF h6) (.same _))) (t_op Y Y (PureD.opD (p_asg Y Y)) (t_gho (Gho_st (L:=[(1,.p (GValue.ls row1)),(2,.q 2 (0)),(4,.q 4 (0)),(6,.q 6 (0)),(30,.b false)]) (H:=[(2,.pure (Geval_twin.cs t0)),(4,.pure (GValue.cs GValue.zero)),(6,.pure (GValue.cs r'1.1))]) (N:=66) Y ⟨TLes.same _,TLes.same _,TLes.same _,TLes.same _,TLes.same _,trivial⟩ ⟨Y,Y,Y,trivial⟩) ?_)))))
   exact rfl
  refine AW2_cond Y (fun h9=>?_) (fun h9=>?_)
  ·replace H:=ite_then h9 H
   refine QK ?_
   have z:=se H;subst z
   exact rfl
  replace H:=ite_else (ne_true h9) H
  refine bindK H fun g'6 h12 H=>AW2_mid (⟨[(1,.p (GValue.ls row1)),(2,.q 2 (0)),(4,.q 4 (0)),(6,.q 6 (0)),(30,.b g'6)],[(2,.pure (Geval_twin.cs t0)),(4,.pure (GValue.cs GValue.zero)),(6,.pure (GValue.cs r'1.1))],66⟩:TS) ?_ ?_
  ·clear H
   have H:=h12
   clear h12
   refine em2 H (fun h10 H=>?_) (fun h10 H=>?_)
   ·refine bindK H fun r'5 h11 H=>?_
    have z:=se H;subst z
    refine AW2_ghoQ (AW2_draw 6 [6,7,8] (fun k=>([.q 2 (0+0),.i t0.op_,.b (decide (t0.op_=16)),.b (decide (t0.op_=16)),.g (GValue.cs r'1.1),.g (GValue.cs r'5)]:List TV).getD k TV.any) (fun k=>g_eval_twin_of_r7.getD k []) [(1,none),(2,none),(4,none),(6,none),(30,none),(42,some 3),(43,some 4),(44,some 5)] [] (fun k=>g_eval_twin_of_r7c.getD k []) mixed (by kernel_rfl) Y Y (a_op (g_x Y (x_p Y (uf U110 Y in_3 Y (Geval_twin.len t0)) Y)) (a_op (g_x Y (x_p Y (pl U3 Y (Geval_twin.sub0 t0)) Y)) (a_op (g_x Y (x_p Y (pi Y) Y)) (a_op (g_x Y (x_p Y (p_move Y Y) Y)) (a_op (g_on Y Y Y (dT h10) Y (x_p Y (pL U32 Y in_32 (Sub.refl _) (GValue.len r'1.1)) Y)) (a_op (g_on Y Y Y (dT h10) Y (x_p Y (pc Y Tryz.func111 Y (g_eval_truth_ac h11) Y) Y)) (a_nil))))))) (t_on Y Y Y Y (dT h10) Y (PureD.opD (p_eqa (a:=r'1.1) (b:=r'5) Y eq_32 Y (by kernel_rfl) Y Y)) (t_op Y Y (PureD.opD (p_pkt Y Y (dT h10) (.same _))) (t_op Y Y (PureD.opD (p_asg Y Y)) (t_gho (Gho_st (L:=[(1,.p (GValue.ls row1)),(2,.q 2 (0)),(4,.q 4 (0)),(6,.q 6 (0)),(30,.b (decide (r'1.1=r'5)))]) (H:=[(2,.pure (Geval_twin.cs t0)),(4,.pure (GValue.cs GValue.zero)),(6,.pure (GValue.cs r'1.1))]) (N:=66) Y ⟨TLes.same _,TLes.same _,TLes.same _,TLes.same _,TLes.same _,trivial⟩ ⟨Y,Y,Y,trivial⟩) ?_)))))
    exact rfl
   have z:=se H;subst z
   refine AW2_ghoQ (AW2_draw 6 [6,7,8] (fun k=>([.q 2 (0+0),.i t0.op_,.b (decide (t0.op_=16)),.b (decide (t0.op_=16)),.p (.tup []),.p (.tup [])]:List TV).getD k TV.any) (fun k=>g_eval_twin_of_r7.getD k []) [(1,none),(2,none),(4,none),(6,none),(30,none),(42,some 3),(43,some 4),(44,some 5)] [] (fun k=>g_eval_twin_of_r7c.getD k []) mixed (by kernel_rfl) Y Y (a_op (g_x Y (x_p Y (uf U110 Y in_3 Y (Geval_twin.len t0)) Y)) (a_op (g_x Y (x_p Y (pl U3 Y (Geval_twin.sub0 t0)) Y)) (a_op (g_x Y (x_p Y (pi Y) Y)) (a_op (g_x Y (x_p Y (p_move Y Y) Y)) (a_op (g_off Y Y Y Y Y (dF h10) Y Y) (a_op (g_off Y Y Y Y Y (dF h10) Y Y) (a_nil))))))) (t_off Y Y Y Y (dF h10) Y Y (t_op Y Y (PureD.opD (p_pkf Y Y (dF h10) (.same _))) (t_op Y Y (PureD.opD (p_asg Y Y)) (t_gho (Gho_st (L:=[(1,.p (GValue.ls row1)),(2,.q 2 (0)),(4,.q 4 (0)),(6,.q 6 (0)),(30,.b false)]) (H:=[(2,.pure (Geval_twin.cs t0)),(4,.pure (GValue.cs GValue.zero)),(6,.pure (GValue.cs r'1.1))]) (N:=66) Y ⟨TLes.same _,TLes.same _,TLes.same _,TLes.same _,TLes.same _,trivial⟩ ⟨Y,Y,Y,trivial⟩) ?_)))))
   exact rfl
  have z:=se H;subst z
  exact rfl
 refine AW2_cond Y (fun h13=>?_) (fun h13=>?_)
 ·replace H:=ite_then h13 H
  refine sg 3 Y (rp Y (pL U32 Y in_32 (Sub.refl _) (GValue.len r'1.1)) (rq Y (u_sw Y Y in_32 (GValue.len r'1.1) (GValue.len GValue.zero)) (ra Y (rz [4,5] [.q 4 (0),.i 0] [4] [.pure (GValue.cs r'1.1)] Y (QR ?_)))))
  have z:=se H;subst z
  exact ⟨⟨rcw U32 Y in_32 Y (GValue.len r'1.1),rt,trivial⟩,trivial⟩
 replace H:=ite_else (ne_true h13) H
 refine as2 [1,2,4,6] [.p (GValue.ls row1),.q 2 (0),.q 4 (0),.q 6 (0)] [2,4,6] [.pure (Geval_twin.cs t0),.pure (GValue.cs GValue.zero),.pure (GValue.cs r'1.1)] Y (QK (sg 10 Y (rf Y U110 Y in_86 Y Y (Geval_twin.len t0) (rp Y (pl U86 Y (Geval_twin.sub2 t0)) (rm Y (bindK H fun r'7 h14 H=>rp Y (p_calli Y Y (hR h14) ⟨Y,trivial⟩) (rm Y (rp Y (pe Y) (rp Y (pe Y) (rq Y (al 8 in_32 one_32 zc_32 Y) (rq Y (u_sw Y Y in_32 (GValue.len r'7.1) (GValue.len GValue.zero)) (ra Y (rz [2,4,6,7,8] [_,_,_,.i r'7.2,.q 8 (0)] [2,4,6,8] [_,_,_,.pure (GValue.cs r'7.1)] Y (QS (sg 2 Y (rm Y (rp Y (pn Y) (rz [2,4,6,7,8,56] [_,_,_,_,_,.b (decide (r'7.2≠0))] [2,4,6,8] [_,_,_,_] Y (if2 H Y (fun h15 H=>?_) (fun h15 H=>?_))))))))))))))))))))
 ·refine sg 4 Y (rp Y (u_bld Y in_32 one_32 zc_32 pl_32 Y Y) (rm Y (rq Y (u_sw Y Y in_32 (GValue.len GValue.zero) (GValue.len GValue.zero)) (ra Y (rz [4,5] [_,.i r'7.2] [4] [_] Y (QR ?_))))))
  have z:=se H;subst z
  exact ⟨⟨rcw U32 Y in_32 Y (GValue.len GValue.zero),rt,trivial⟩,trivial⟩
 refine as2 [2,4,6,8] [_,_,_,_] [2,4,6,8] [_,_,_,_] Y (QK (sg 9 Y (rf Y U110 Y in_3 Y Y (Geval_twin.len t0) (rp Y (pl U3 Y (Geval_twin.sub0 t0)) (rp Y (pL U32 Y in_32 (Sub.refl _) (GValue.len r'1.1)) (rp Y (pL U32 Y in_32 (Sub.refl _) (GValue.len r'7.1)) (bindK H fun r'8 h16 H=>rp Y (pc Y Tryz.func114 Y (g_eval_two_ac h16) Y) (rp Y (pe Y) (rp Y (pe Y) (rq Y (u_sw Y Y in_32 (GValue.len r'8.1) (GValue.len GValue.zero)) (ra Y (rz [4,5] [_,.i r'8.2] [4] [.pure (GValue.cs r'8.1)] Y (QR ?_)))))))))))))
 have z:=se H;subst z
 exact ⟨⟨rcw U32 Y in_32 Y (GValue.len r'8.1),rt,trivial⟩,trivial⟩
noncomputable def g_eval_fixed_of (f0:Geval_fixed) (t1:List GValue):Option (GValue×Int) :=
  some (f0.v_,(0:Int))
theorem g_eval_fixed_of_ac {f0:Geval_fixed} {t1:List GValue} {r:GValue×Int} (H:g_eval_fixed_of f0 t1=some r):ACp Tryz.prog 132 [(.agg (Geval_fixed.cs f0)),(GValue.ls t1)] (.tup [(.agg (GValue.cs r.1)),(AV.int r.2)]):=by
 refine ACp_of (AC2_of_body (vs:=[.g (GValue.cs r.1),.i r.2]) Tryz.func132 Y Y (lb Y) Y ?_) (fun _=>.same _)
 unfold g_eval_fixed_of at H
 refine as2 [0] [.g (Geval_fixed.cs f0)] [] [] Y (sg 3 Y (rq Y (bx 2 Y) (rq Y (al 4 in_32 one_32 zc_32 Y) (ra Y (rz [2,4] [.q 2 (0),.q 4 (0)] [2,4] [.pure (Geval_fixed.cs f0),.pure (GValue.cs GValue.zero)] Y (sg 4 Y (rf Y U112 Y in_32 Y Y (Geval_fixed.len f0) (rp Y (pL U32 Y in_32 (Geval_fixed.sub0 f0) (GValue.len f0.v_)) (rq Y (u_sw Y Y in_32 (GValue.len f0.v_) (GValue.len GValue.zero)) (ra Y (rz [4,5] [_,.i 0] [4] [.pure (GValue.cs f0.v_)] Y (QR ?_))))))))))))
 have z:=se H;subst z
 exact ⟨⟨rcw U32 Y in_32 Y (GValue.len f0.v_),rt,trivial⟩,trivial⟩
noncomputable def g_eval_place_of (p0:Geval_place) (row1:List GValue):Option (GValue×Int) :=
  if 0≤p0.i_∧p0.i_ < (row1.length:Int) then some ((lrd row1 p0.i_.toNat),(0:Int)) else none
theorem g_eval_place_of_ac {p0:Geval_place} {row1:List GValue} {r:GValue×Int} (H:g_eval_place_of p0 row1=some r):ACp Tryz.prog 133 [(.agg (Geval_place.cs p0)),(GValue.ls row1)] (.tup [(.agg (GValue.cs r.1)),(AV.int r.2)]):=by
 refine ACp_of (AC2_of_body (vs:=[.g (GValue.cs r.1),.i r.2]) Tryz.func133 Y Y (lb Y) Y ?_) (fun _=>.same _)
 unfold g_eval_place_of at H
 refine as2 [0,1] [.g (Geval_place.cs p0),.p (GValue.ls row1)] [] [] Y (sg 3 Y (rq Y (bx 2 Y) (rq Y (al 4 in_32 one_32 zc_32 Y) (ra Y (rz [1,2,4] [_,.q 2 (0),.q 4 (0)] [2,4] [.pure (Geval_place.cs p0),.pure (GValue.cs GValue.zero)] Y (sg 7 Y (rm Y (rf Y U114 Y in_3 Y Y (Geval_place.len p0) (rp Y (pl U3 Y (Geval_place.sub0 p0)) (chkK H fun h1 H=>rp Y (u_ixl Y Y U23 in_32 Y Y (ixe h1) (ixn h1) (fne GValue.len (by decide) (ixn h1))) (rp Y (pL U32 Y in_32 (Sub.fm default GValue.len (ixn h1)) (GValue.len (lrd row1 p0.i_.toNat))) (rq Y (u_sw Y Y in_32 (GValue.len (lrd row1 p0.i_.toNat)) (GValue.len GValue.zero)) (ra Y (rz [4,5] [_,.i 0] [4] [.pure (GValue.cs (lrd row1 p0.i_.toNat))] Y (QR ?_)))))))))))))))
 have z:=se H;subst z
 exact ⟨⟨rcw U32 Y in_32 Y (GValue.len (lrd row1 p0.i_.toNat)),rt,trivial⟩,trivial⟩
noncomputable def g_eval_missing_of (t0:Geval_missing) (t1:List GValue):Option (GValue×Int) :=
  some (GValue.zero,(5:Int))
theorem g_eval_missing_of_ac {t0:Geval_missing} {t1:List GValue} {r:GValue×Int} (H:g_eval_missing_of t0 t1=some r):ACp Tryz.prog 134 [(.agg (Geval_missing.cs t0)),(GValue.ls t1)] (.tup [(.agg (GValue.cs r.1)),(AV.int r.2)]):=by
 refine ACp_of (AC2_of_body (vs:=[.g (GValue.cs r.1),.i r.2]) Tryz.func134 Y Y (lb Y) Y ?_) (fun _=>.same _)
 unfold g_eval_missing_of at H
 refine as2 [0] [.g (Geval_missing.cs t0)] [] [] Y (sg 3 Y (rq Y (bx 2 Y) (rq Y (al 4 in_32 one_32 zc_32 Y) (ra Y (rz [4] [.q 4 (0)] [4] [.pure (GValue.cs GValue.zero)] Y (sg 3 Y (rp Y (u_bld Y in_32 one_32 zc_32 pl_32 Y Y) (rq Y (u_sw Y Y in_32 (GValue.len GValue.zero) (GValue.len GValue.zero)) (ra Y (rz [4,5] [_,.i 5] [4] [_] Y (QR ?_)))))))))))
 have z:=se H;subst z
 exact ⟨⟨rcw U32 Y in_32 Y (GValue.len GValue.zero),rt,trivial⟩,trivial⟩
noncomputable def g_eval_thing_of:Nat→Geval_thing→(List GValue)→Option (GValue×Int)
  | 0,_,_=>none
  | _+1,.nil_,_=>none
  | fu+1,.sole y0 y1,a0=>g_eval_sole_of_b (g_eval_thing_of fu) ⟨y0,y1⟩ a0
  | fu+1,.twin y0 y1 y2,a0=>g_eval_twin_of_b (g_eval_thing_of fu) ⟨y0,y1,y2⟩ a0
  | fu+1,.fixed y0,a0=>g_eval_fixed_of ⟨y0⟩ a0
  | fu+1,.place y0,a0=>g_eval_place_of ⟨y0⟩ a0
  | fu+1,.missing,a0=>g_eval_missing_of ⟨⟩ a0
theorem g_eval_thing_of_icN : ∀ (fu : Nat) {x : Geval_thing} {a0 : List GValue} {r : GValue × Int}, g_eval_thing_of fu x a0 = some r → IC Tryz.prog (Geval_thing.val x) "chirograph/eval.of" [((fun q : List GValue => AV.lst (q.flatMap GValue.cs) q.length) a0)] (.tup [(.agg (GValue.cs r.1)), (AV.int r.2)])
  | 0,_,_,_,H=>(by cases H)
  | _+1,.nil_,_,_,H=>(by cases H)
  | fu+1,.sole y0 y1,_,_,H=>IC_of (t:=108) (f:=109) (cs:=Geval_sole.cs ⟨y0,y1⟩) U108 (by kernel_rfl) Tryz.func109 rfl rfl (Geval_sole.scl _) (g_eval_sole_of_ac0 (g_eval_thing_of_icN fu) H)
  | fu+1,.twin y0 y1 y2,_,_,H=>IC_of (t:=110) (f:=113) (cs:=Geval_twin.cs ⟨y0,y1,y2⟩) U110 (by kernel_rfl) Tryz.func113 rfl rfl (Geval_twin.scl _) (g_eval_twin_of_ac0 (g_eval_thing_of_icN fu) H)
  | fu+1,.fixed y0,_,_,H=>IC_of (t:=112) (f:=132) (cs:=Geval_fixed.cs ⟨y0⟩) U112 (by kernel_rfl) Tryz.func132 rfl rfl (Geval_fixed.scl _) (g_eval_fixed_of_ac H)
  | fu+1,.place y0,_,_,H=>IC_of (t:=114) (f:=133) (cs:=Geval_place.cs ⟨y0⟩) U114 (by kernel_rfl) Tryz.func133 rfl rfl (Geval_place.scl _) (g_eval_place_of_ac H)
  | fu+1,.missing,_,_,H=>IC_of (t:=116) (f:=134) (cs:=Geval_missing.cs ⟨⟩) U116 (by kernel_rfl) Tryz.func134 rfl rfl (Geval_missing.scl _) (g_eval_missing_of_ac H)
theorem g_eval_thing_of_ic {x : Geval_thing} {a0 : List GValue} {r : GValue × Int} (H : g_eval_thing_of 100000 x a0 = some r) : IC Tryz.prog (Geval_thing.val x) "chirograph/eval.of" [((fun q : List GValue => AV.lst (q.flatMap GValue.cs) q.length) a0)] (.tup [(.agg (GValue.cs r.1)), (AV.int r.2)]) := g_eval_thing_of_icN 100000 H
noncomputable def g_eval_Eval (e0:GExpr) (cols1:List GColumn) (row2:List GValue):Option (GValue×Int) :=
  (g_expr_Check e0).bind fun r'1=>(if r'1≠(0:Int) then some (GValue.zero,r'1) else (g_kinds_Row row2 cols1).bind fun r'2=>(if r'2≠(0:Int) then some (GValue.zero,r'2) else (g_eval_thingOf 100000 e0 cols1).bind fun r'3=>(g_eval_thing_of 100000 r'3 row2).bind fun r'4=>(if r'4.2≠(0:Int) then some (GValue.zero,r'4.2) else some (r'4.1,(0:Int)))))
theorem g_eval_Eval_ac {e0:GExpr} {cols1:List GColumn} {row2:List GValue} {r:GValue×Int} (H:g_eval_Eval e0 cols1 row2=some r):ACp Tryz.prog 31 [(.agg (GExpr.cs e0)),(GColumn.ls cols1),(GValue.ls row2)] (.tup [(.agg (GValue.cs r.1)),(AV.int r.2)]):=by
 refine ACp_of (AC2_of_body (vs:=[.g (GValue.cs r.1),.i r.2]) Tryz.func31 Y Y (lb Y) Y ?_) (fun _=>.same _)
 unfold g_eval_Eval at H
 refine as2 [0,1,2] [.g (GExpr.cs e0),.p (GColumn.ls cols1),.p (GValue.ls row2)] [] [] Y (sg 3 Y (rq Y (bx 3 Y) (rq Y (al 6 in_32 one_32 zc_32 Y) (ra Y (rz [1,2,3,6] [_,_,.q 3 (0),.q 6 (0)] [3,6] [.pure (GExpr.cs e0),.pure (GValue.cs GValue.zero)] Y (QS (sg 3 Y (rp Y (pL U35 Y in_35 (Sub.refl _) (GExpr.len e0)) (bindK H fun r'1 h1 H=>rp Y (pc Y Tryz.func42 Y (g_expr_Check_ac h1) Y) (ra Y (rz [1,2,3,6,8] [_,_,_,_,.i r'1] [3,6] [_,_] Y (sg 2 Y (rm Y (rp Y (pn Y) (rz [1,2,3,6,8,15] [_,_,_,_,_,.b (decide (r'1≠0))] [3,6] [_,_] Y (if2 H Y (fun h2 H=>?_) (fun h2 H=>?_)))))))))))))))))
 ·refine sg 4 Y (rp Y (u_bld Y in_32 one_32 zc_32 pl_32 Y Y) (rm Y (rq Y (u_sw Y Y in_32 (GValue.len GValue.zero) (GValue.len GValue.zero)) (ra Y (rz [6,7] [_,.i r'1] [6] [_] Y (QR ?_))))))
  have z:=se H;subst z
  exact ⟨⟨rcw U32 Y in_32 Y (GValue.len GValue.zero),rt,trivial⟩,trivial⟩
 refine as2 [1,2,3,6] [_,_,_,_] [3,6] [_,_] Y (QK (QS (sg 4 Y (rm Y (rm Y (bindK H fun r'2 h3 H=>rp Y (pc Y Tryz.func30 Y (g_kinds_Row_ac h3) Y) (ra Y (rz [1,2,3,6,9] [_,_,_,_,.i r'2] [3,6] [_,_] Y (sg 2 Y (rm Y (rp Y (pn Y) (rz [1,2,3,6,9,22] [_,_,_,_,_,.b (decide (r'2≠0))] [3,6] [_,_] Y (if2 H Y (fun h4 H=>?_) (fun h4 H=>?_))))))))))))))
 ·refine sg 4 Y (rp Y (u_bld Y in_32 one_32 zc_32 pl_32 Y Y) (rm Y (rq Y (u_sw Y Y in_32 (GValue.len GValue.zero) (GValue.len GValue.zero)) (ra Y (rz [6,7] [_,.i r'2] [6] [_] Y (QR ?_))))))
  have z:=se H;subst z
  exact ⟨⟨rcw U32 Y in_32 Y (GValue.len GValue.zero),rt,trivial⟩,trivial⟩
 refine as2 [1,2,3,6] [_,_,_,_] [3,6] [_,_] Y (QK (sg 11 Y (rp Y (pL U35 Y in_35 (Sub.refl _) (GExpr.len e0)) (rm Y (bindK H fun r'3 h5 H=>rp Y (pc Y Tryz.func45 Y (g_eval_thingOf_ac h5) Y) (rm Y (bindK H fun r'4 h6 H=>rp Y (p_calli Y Y (g_eval_thing_of_ic h6) ⟨Y,trivial⟩) (rm Y (rp Y (pe Y) (rp Y (pe Y) (rq Y (al 10 in_32 one_32 zc_32 Y) (rq Y (u_sw Y Y in_32 (GValue.len r'4.1) (GValue.len GValue.zero)) (ra Y (rz [6,10,11] [_,.q 10 (0),.i r'4.2] [6,10] [_,.pure (GValue.cs r'4.1)] Y (QS (sg 2 Y (rm Y (rp Y (pn Y) (rz [6,10,11,34] [_,_,_,.b (decide (r'4.2≠0))] [6,10] [_,_] Y (if2 H Y (fun h7 H=>?_) (fun h7 H=>?_)))))))))))))))))))))
 ·refine sg 4 Y (rp Y (u_bld Y in_32 one_32 zc_32 pl_32 Y Y) (rm Y (rq Y (u_sw Y Y in_32 (GValue.len GValue.zero) (GValue.len GValue.zero)) (ra Y (rz [6,7] [_,.i r'4.2] [6] [_] Y (QR ?_))))))
  have z:=se H;subst z
  exact ⟨⟨rcw U32 Y in_32 Y (GValue.len GValue.zero),rt,trivial⟩,trivial⟩
 refine as2 [6,10] [_,_] [6,10] [_,_] Y (QK (sg 3 Y (rp Y (pL U32 Y in_32 (Sub.refl _) (GValue.len r'4.1)) (rq Y (u_sw Y Y in_32 (GValue.len r'4.1) (GValue.len GValue.zero)) (ra Y (rz [6,7] [_,.i 0] [6] [.pure (GValue.cs r'4.1)] Y (QR ?_)))))))
 have z:=se H;subst z
 exact ⟨⟨rcw U32 Y in_32 Y (GValue.len r'4.1),rt,trivial⟩,trivial⟩
noncomputable def g_table_Holds (e0:GExpr) (cols1:List GColumn) (r2:List GValue):Option (Bool×Int) :=
  (g_table_Condition e0 cols1).bind fun r'1=>(if r'1≠(0:Int) then some (false,r'1) else (g_kinds_Row r2 cols1).bind fun r'2=>(if r'2≠(0:Int) then some (false,r'2) else (g_table_none e0).bind fun r'3=>(if r'3=true then some (true,(0:Int)) else (g_eval_Eval e0 cols1 r2).bind fun r'4=>some ((decide (r'4.1.Int_=(1:Int))),r'4.2))))
theorem g_table_Holds_ac {e0:GExpr} {cols1:List GColumn} {r2:List GValue} {r:Bool×Int} (H:g_table_Holds e0 cols1 r2=some r):ACp Tryz.prog 12 [(.agg (GExpr.cs e0)),(GColumn.ls cols1),(GValue.ls r2)] (.tup [(AV.bool r.1),(AV.int r.2)]):=by
 refine ACp_of (AC2_of_body (vs:=[.b r.1,.i r.2]) Tryz.func12 Y Y (lb Y) Y ?_) (fun _=>.same _)
 unfold g_table_Holds at H
 refine as2 [0,1,2] [.g (GExpr.cs e0),.p (GColumn.ls cols1),.p (GValue.ls r2)] [] [] Y (sg 3 Y (rq Y (bx 3 Y) (ra Y (ra Y (rz [1,2,3] [_,_,.q 3 (0)] [3] [.pure (GExpr.cs e0)] Y (QS (sg 4 Y (rp Y (pL U35 Y in_35 (Sub.refl _) (GExpr.len e0)) (rm Y (bindK H fun r'1 h1 H=>rp Y (pc Y Tryz.func11 Y (g_table_Condition_ac h1) Y) (ra Y (rz [1,2,3,8] [_,_,_,.i r'1] [3] [_] Y (sg 2 Y (rm Y (rp Y (pn Y) (rz [1,2,3,8,16] [_,_,_,_,.b (decide (r'1≠0))] [3] [_] Y (if2 H Y (fun h2 H=>?_) (fun h2 H=>?_))))))))))))))))))
 ·refine sg 3 Y (rm Y (ra Y (ra Y (rz [6,7] [.b false,.i r'1] [] [] Y (QR ?_)))))
  have z:=se H;subst z
  exact ⟨⟨rt,rt,trivial⟩,trivial⟩
 refine as2 [1,2,3] [_,_,_] [3] [_] Y (QK (QS (sg 4 Y (rm Y (rm Y (bindK H fun r'2 h3 H=>rp Y (pc Y Tryz.func30 Y (g_kinds_Row_ac h3) Y) (ra Y (rz [1,2,3,9] [_,_,_,.i r'2] [3] [_] Y (sg 2 Y (rm Y (rp Y (pn Y) (rz [1,2,3,9,22] [_,_,_,_,.b (decide (r'2≠0))] [3] [_] Y (if2 H Y (fun h4 H=>?_) (fun h4 H=>?_))))))))))))))
 ·refine sg 3 Y (rm Y (ra Y (ra Y (rz [6,7] [.b false,.i r'2] [] [] Y (QR ?_)))))
  have z:=se H;subst z
  exact ⟨⟨rt,rt,trivial⟩,trivial⟩
 refine as2 [1,2,3] [_,_,_] [3] [_] Y (QK (QS (sg 2 Y (rp Y (pL U35 Y in_35 (Sub.refl _) (GExpr.len e0)) (bindK H fun r'3 h5 H=>rp Y (pc Y Tryz.func27 Y (g_table_none_ac h5) Y) (rz [1,2,3,25] [_,_,_,.b r'3] [3] [_] Y (AW2_cond Y (fun h6=>?_) (fun h6=>?_))))))))
 ·replace H:=ite_then h6 H
  refine sg 2 Y (ra Y (ra Y (rz [6,7] [.b true,.i 0] [] [] Y (QR ?_))))
  have z:=se H;subst z
  exact ⟨⟨rt,rt,trivial⟩,trivial⟩
 replace H:=ite_else (ne_true h6) H
 refine as2 [1,2,3] [.p (GColumn.ls cols1),.p (GValue.ls r2),.q 3 (0)] [3] [.pure (GExpr.cs e0)] Y (QK (sg 10 Y (rp Y (pL U35 Y in_35 (Sub.refl _) (GExpr.len e0)) (rm Y (rm Y (bindK H fun r'4 h7 H=>rp Y (pc Y Tryz.func31 Y (g_eval_Eval_ac h7) Y) (rm Y (rp Y (pe Y) (rp Y (pe Y) (rq Y (al 10 in_32 one_32 zc_32 Y) (rq Y (u_sw Y Y in_32 (GValue.len r'4.1) (GValue.len GValue.zero)) (ra Y (rz [10,11] [.q 10 (0),.i r'4.2] [10] [.pure (GValue.cs r'4.1)] Y (sg 6 Y (rf Y U32 Y in_3 Y Y (GValue.len r'4.1) (rp Y (pl U3 Y (GValue.sub1 r'4.1)) (rp Y (pi Y) (rm Y (ra Y (ra Y (rz [6,7] [.b (decide (r'4.1.Int_=1)),.i r'4.2] [] [] Y (QR ?_))))))))))))))))))))))
 have z:=se H;subst z
 exact ⟨⟨rt,rt,trivial⟩,trivial⟩
noncomputable def g_table_changed_l0 (old0:List GValue) (cols1:List GColumn) (l2:List GSet):Int×(List GValue)→Option ((Int×(List GValue))⊕(((List GValue)×Int)⊕((List GValue))))
  | (t18_0,out8_0)=>(if t18_0 < (l2.length:Int) then if 0≤t18_0∧t18_0 < (l2.length:Int) then (g_eval_Eval ((lrd l2 t18_0.toNat).Expr) cols1 old0).bind fun r'2=>(if r'2.2≠(0:Int) then some (.inr (.inl (([]:List GValue),r'2.2))) else (g_table_column cols1 ((lrd l2 t18_0.toNat).Col)).bind fun r'3=>((if r'2.1.Kind=(0:Int) then if 0≤r'3∧r'3 < (cols1.length:Int) then some (!((lrd cols1 r'3.toNat).Null)) else none else some false)).bind fun g'4=>(if g'4=true then some (.inr (.inl (([]:List GValue),(12:Int)))) else if 0≤r'3∧r'3 < (out8_0.length:Int) then some (.inl (w64 (t18_0+(1:Int)),(out8_0.set r'3.toNat r'2.1))) else none)) else none else some (.inr (.inr out8_0)))
noncomputable def g_table_changed (old0:List GValue) (cols1:List GColumn) (l2:List GSet):Option ((List GValue)×Int) :=
  (g_table_row old0).bind fun r'1=>(loopO (g_table_changed_l0 old0 cols1 l2) ((0:Int),r'1)).bind fun o'8=>match o'8 with | .inl y'9=>some y'9 | .inr (y'10)=>some (y'10,(0:Int))
theorem g_table_changed_ac2 {old0:List GValue} {cols1:List GColumn} {l2:List GSet} {r:(List GValue)×Int} (H:g_table_changed old0 cols1 l2=some r):AC2 Tryz.prog 19 (pureT [(GValue.ls old0),(GColumn.ls cols1),(GSet.ls l2)]) [] (retV [.c (.own 6 r.1.length 4),.i r.2]) [(6,.pure (r.1.flatMap GValue.cs))]:=by
 refine AC2_of_body (vs:=[.c (.own 6 r.1.length 4),.i r.2]) Tryz.func19 Y Y (lb Y) Y ?_
 unfold g_table_changed at H
 refine as2 [0,1,2] [.p (GValue.ls old0),.p (GColumn.ls cols1),.p (GSet.ls l2)] [] [] Y (sg 2 Y (rp Y (p_asgn Y) (ra Y (rz [0,1,2] [_,_,_] [] [] Y (sg 3 Y (rm Y (bindK H fun r'1 h1 H=>rq Y (d_callh [(2,15)] Y Y Y Tryz.func39 Y Y (g_table_row_ac2 h1) ⟨TLes.same _,trivial⟩ trivial Y Y) (ra Y (rs [0,1,2,8] [_,_,_,.c (.own 15 r'1.length 4)] [15] [.pure (r'1.flatMap GValue.cs)] Y (RunW_gho (Gho_ren 15 8 Y Y Y Y Y) (rz [0,1,2,8] [.p (GValue.ls old0),.p (GColumn.ls cols1),.p (GSet.ls l2),.c (.own 8 r'1.length 4)] [8] [.pure (r'1.flatMap GValue.cs)] Y (QS (sg 3 Y (rm Y (rp Y (p_lenl Y U41 Y Y) (rm Y (rz [0,1,8,16,17,18] [_,_,_,.p (GSet.ls l2),.i (l2.length:Int),.i 0] [8] [_] Y (QB (as2 [0,1,8,16,17,18] [_,_,_,_,_,_] [8] [_] Y (bindK H fun o'8 h14 H=>AW2_loopO (fun a'5:Int×(List GValue)=>(⟨[(0,.p (GValue.ls old0)),(1,.p (GColumn.ls cols1)),(8,.c (.own 8 a'5.2.length 4)),(16,.p (GSet.ls l2)),(17,.i (l2.length:Int)),(18,.i a'5.1)],[(8,.pure (a'5.2.flatMap GValue.cs))],54⟩:TS)) (fun (o:((List GValue)×Int)⊕((List GValue))) e s'=>match o with | .inl y'6=>e=Go.Exit.ret∧ResAll Tryz.prog s' [ResultVar.tmp 6,ResultVar.tmp 7] [.c (.own 6 y'6.1.length 4),.i y'6.2]∧HFits s' [(6,.pure (y'6.1.flatMap GValue.cs))] | .inr (y'7)=>e=Go.Exit.exit 0∧s'=(⟨[(8,.c (.own 8 y'7.length 4))],[(8,.pure (y'7.flatMap GValue.cs))],54⟩:TS)) h14 Y (fun a x hx=>?_) (fun e s' hs=>?_)))))))))))))))))))))
 ·clear H
  obtain ⟨t18_0,out8_0⟩:=a
  have H:=hx
  clear hx
  unfold g_table_changed_l0 at H
  refine sg 1 Y (rp Y (pb Y Y) (rz [0,1,8,16,17,18,19] [.p (GValue.ls old0),.p (GColumn.ls cols1),.c (.own 8 out8_0.length 4),.p (GSet.ls l2),.i (l2.length:Int),.i t18_0,.b (decide (t18_0 < (l2.length:Int)))] [8] [.pure (out8_0.flatMap GValue.cs)] Y (QS (if2 H Y (fun h2 H=>?_) (fun h2 H=>?_)))))
  ·refine as2 [0,1,8,16,17,18] [_,_,_,_,_,_] [8] [_] Y (QK (QS (QB (sg 4 Y (chkK H fun h3 H=>rp Y (u_ixl Y Y U41 in_58 Y Y (ixe h3) (ixn h3) (fne GSet.len (by decide) (ixn h3))) (rp Y (pL U58 Y in_58 (Sub.fm default GSet.len (ixn h3)) (GSet.len (lrd l2 t18_0.toNat))) (rq Y (al 10 in_58 one_58 zc_58 Y) (rq Y (u_sw Y Y in_58 (GSet.len (lrd l2 t18_0.toNat)) (GSet.len GSet.zero)) (rz [0,1,8,10,16,17,18] [_,_,_,.q 10 (0),_,_,_] [8,10] [_,.pure (GSet.cs (lrd l2 t18_0.toNat))] Y (sg 11 Y (rf Y U58 Y in_35 Y Y (GSet.len (lrd l2 t18_0.toNat)) (rp Y (pL U35 Y in_35 (GSet.sub1 (lrd l2 t18_0.toNat)) (GExpr.len ((lrd l2 t18_0.toNat).Expr))) (rm Y (rm Y (bindK H fun r'2 h4 H=>rp Y (pc Y Tryz.func31 Y (g_eval_Eval_ac h4) Y) (rm Y (rp Y (pe Y) (rp Y (pe Y) (rq Y (al 11 in_32 one_32 zc_32 Y) (rq Y (u_sw Y Y in_32 (GValue.len r'2.1) (GValue.len GValue.zero)) (ra Y ?_)))))))))))))))))))))
   refine rz [0,1,8,10,11,12,16,17,18] [_,_,_,_,.q 11 (0),.i r'2.2,_,_,_] [8,10,11] [_,_,.pure (GValue.cs r'2.1)] Y (QS (sg 2 Y (rm Y (rp Y (pn Y) (rz [0,1,8,10,11,12,16,17,18,31] [_,_,_,_,_,_,_,_,_,.b (decide (r'2.2≠0))] [8,10,11] [_,_,_] Y (if2 H Y (fun h5 H=>?_) (fun h5 H=>?_)))))))
   ·refine sg 3 Y (rm Y (rp Y (p_asgn Y) (ra Y (rz [6,7] [.p .nil,.i r'2.2] [] [] Y (as2 [6,7] [_,_] [] [] Y (AW2_gho (Gho_own (d:=6) (b:=6) (z:=4) Y Y Y Y) (AW2_st [(6,.c (.own 6 ([]:List GValue).length 4)),(7,.i r'2.2)] [(6,.pure (([]:List GValue).flatMap GValue.cs))] Y ⟨TLes.own Y,TLes.same _,trivial⟩ ⟨Y,trivial⟩ (QR ?_))))))))
    have z:=se H;subst z
    exact ⟨Y,⟨rt,rt,trivial⟩,⟨Y,trivial⟩⟩
   refine as2 [0,1,8,10,11,16,17,18] [_,_,_,_,_,_,_,_] [8,10,11] [_,_,_] Y (QK (sg 5 Y (rm Y (rf Y U58 Y in_9 Y Y (GSet.len (lrd l2 t18_0.toNat)) (rp Y (pl U9 Y (GSet.sub0 (lrd l2 t18_0.toNat))) (bindK H fun r'3 h6 H=>rp Y (pc Y Tryz.func38 Y (g_table_column_ac h6) Y) (ra Y (rz [0,1,8,11,13,16,17,18] [_,_,_,_,.i r'3,_,_,_] [8,11] [_,_] Y (QS (QS (bindK H fun g'4 h10 H=>AW2_mid (⟨[(0,.p (GValue.ls old0)),(1,.p (GColumn.ls cols1)),(8,.c (.own 8 out8_0.length 4)),(11,.q 11 (0)),(13,.i r'3),(16,.p (GSet.ls l2)),(17,.i (l2.length:Int)),(18,.i t18_0),(47,.b g'4)],[(8,.pure (out8_0.flatMap GValue.cs)),(11,.pure (GValue.cs r'2.1))],54⟩:TS) ?_ ?_)))))))))))
   ·clear H
    have H:=h10
    clear h10
    refine ar 11 Y (rf Y U32 Y in_3 Y Y (GValue.len r'2.1) (rp Y (pl U3 Y (GValue.sub0 r'2.1)) (rp Y (pi Y) (rm Y (em2 H (fun h8 H=>?_) (fun h8 H=>?_))))))
    ·refine rn Y (dT h8) Y (p_move Y Y) (rn Y (dT h8) Y (p_move Y Y) (chkK H fun h9 H=>rn Y (dT h8) Y (u_ixl Y Y U22 in_63 Y Y (ixe h9) (ixn h9) (fne GColumn.len (by decide) (ixn h9))) (rn Y (dT h8) Y (u_far Y Y U63 Y in_4 nz Y) (rn Y (dT h8) Y (pl U4 Y ((Sub.fm default GColumn.len (ixn h9)).trans (GColumn.sub2 (lrd cols1 r'3.toNat)))) (rn Y (dT h8) Y (p_not Y Y) (rp Y (p_pkt Y Y (dT h8) (.same _)) (rs [0,1,8,11,13,16,17,18,47] [.p (GValue.ls old0),.p (GColumn.ls cols1),.c (.own 8 out8_0.length 4),.q 11 (0),.i r'3,.p (GSet.ls l2),.i (l2.length:Int),.i t18_0,.b (!((lrd cols1 r'3.toNat).Null))] [8,11] [.pure (out8_0.flatMap GValue.cs),.pure (GValue.cs r'2.1)] Y ?_)))))))
     have z:=se H;subst z
     exact RunW_nil rfl
    refine rO Y (dF h8) Y (rO Y (dF h8) Y (rO Y (dF h8) Y (rO Y (dF h8) Y (rO Y (dF h8) Y (rO Y (dF h8) Y (rp Y (p_pkf Y Y (dF h8) (.same _)) (rs [0,1,8,11,13,16,17,18,47] [.p (GValue.ls old0),.p (GColumn.ls cols1),.c (.own 8 out8_0.length 4),.q 11 (0),.i r'3,.p (GSet.ls l2),.i (l2.length:Int),.i t18_0,.b false] [8,11] [.pure (out8_0.flatMap GValue.cs),.pure (GValue.cs r'2.1)] Y ?_)))))))
    have z:=se H;subst z
    exact RunW_nil rfl
   refine AW2_cond Y (fun h11=>?_) (fun h11=>?_)
   ·replace H:=ite_then h11 H
    refine sg 2 Y (rp Y (p_asgn Y) (ra Y (rz [6,7] [.p .nil,.i 12] [] [] Y (as2 [6,7] [_,_] [] [] Y (AW2_gho (Gho_own (d:=6) (b:=6) (z:=4) Y Y Y Y) (AW2_st [(6,.c (.own 6 ([]:List GValue).length 4)),(7,.i 12)] [(6,.pure (([]:List GValue).flatMap GValue.cs))] Y ⟨TLes.own Y,TLes.same _,trivial⟩ ⟨Y,trivial⟩ (QR ?_)))))))
    have z:=se H;subst z
    exact ⟨Y,⟨rt,rt,trivial⟩,⟨Y,trivial⟩⟩
   replace H:=ite_else (ne_true h11) H
   refine as2 [0,1,8,11,13,16,17,18] [.p (GValue.ls old0),.p (GColumn.ls cols1),.c (.own 8 out8_0.length 4),.q 11 (0),.i r'3,.p (GSet.ls l2),.i (l2.length:Int),.i t18_0] [8,11] [.pure (out8_0.flatMap GValue.cs),.pure (GValue.cs r'2.1)] Y (QK (ar 5 Y (rm Y (rm Y (rp Y (pL U32 Y in_32 (Sub.refl _) (GValue.len r'2.1)) (chkK H fun h12 H=>rp Y (u_ixo Y Y U23 in_32 Y Y (fne GValue.len (by decide) (ixn h12)) Y (ixe h12) (ixn h12)) (rq Y (u_st Y Y Y Y Y in_32 (GValue.len r'2.1) (fne GValue.len (by decide) (ixn h12)) (Upd.trans (Sub.refl _) (Upd.fm GValue.len (ixn h12)) (Upd.refl ((fm_length GValue.len (out8_0.set r'3.toNat r'2.1)).trans ((congrArg (fun n=>n * 4) List.length_set).trans (fm_length GValue.len out8_0).symm))))) (RunW_st [(0,.p (GValue.ls old0)),(1,.p (GColumn.ls cols1)),(8,.c (.own 8 (out8_0.set r'3.toNat r'2.1).length 4)),(16,.p (GSet.ls l2)),(17,.i (l2.length:Int)),(18,.i t18_0)] [(8,.pure ((out8_0.set r'3.toNat r'2.1).flatMap GValue.cs))] Y ⟨TLes.same _,TLes.same _,TLes.own (by simp only [List.length_set]),TLes.same _,TLes.same _,TLes.same _,trivial⟩ ⟨Y,trivial⟩ (RunW_nil (ar 2 Y (rp Y (pb Y Y) (rm Y (rz [0,1,8,16,17,18] [.p (GValue.ls old0),.p (GColumn.ls cols1),.c (.own 8 (out8_0.set r'3.toNat r'2.1).length 4),.p (GSet.ls l2),.i (l2.length:Int),.i (w64 (t18_0+1))] [8] [.pure ((out8_0.set r'3.toNat r'2.1).flatMap GValue.cs)] Y ?_)))))))))))))
   have z:=se H;subst z
   exact ⟨Y,Y⟩
  refine as2 [8] [_] [8] [_] Y (AW2_exit (thenQ2_exit ?_))
  have z:=se H;subst z
  exact ⟨Y,Y⟩
 rcases o'8 with y'9 | y'10
 ·obtain ⟨rfl,hs⟩:=hs
  refine ⟨by simp,?_⟩
  have z:=se H;subst z
  exact ⟨hs.1,hs.2⟩
 obtain ⟨rfl,rfl⟩:=hs
 refine ⟨by simp,?_⟩
 refine blockQ2_exit (sg 3 Y (rm Y (ra Y (ra Y (rs [6,7] [.c (.own 8 y'10.length 4),.i 0] [8] [.pure (y'10.flatMap GValue.cs)] Y (RunW_gho (Gho_ren 8 6 Y Y Y Y Y) (rz [6,7] [.c (.own 6 y'10.length 4),.i 0] [6] [.pure (y'10.flatMap GValue.cs)] Y (as2 [6,7] [_,_] [6] [_] Y (QR ?_)))))))))
 have z:=se H;subst z
 exact ⟨⟨rt,rt,trivial⟩,⟨Y,trivial⟩⟩
theorem g_table_changed_ac {old0:List GValue} {cols1:List GColumn} {l2:List GSet} {r:(List GValue)×Int} (H:g_table_changed old0 cols1 l2=some r):ACp Tryz.prog 19 [(GValue.ls old0),(GColumn.ls cols1),(GSet.ls l2)] (.tup [(GValue.ls r.1),(AV.int r.2)]):=ACp_pub (g_table_changed_ac2 H) (fun _ _ hm=>lent_tup ⟨lent_own hm rfl (fm_length (fun x=>(GValue.len x)) r.1) (by decide),.same _,trivial⟩)
def g_table_Update_r14:List (List (Nat×Option Nat)):=[[(6,none)],[(4,none)],[(55,some 1)],[(14,none)],[(57,some 3)],[(58,some 4)],[(59,some 5)],[(54,some 0),(56,some 2),(60,some 6)],[(61,some 7)],[(53,some 8)],[(53,some 8)],[(62,some 9)]]
def g_table_Update_r14c:List (List Nat):=[[],[],[1],[],[3],[3,4],[3,4,5],[0,1,2,3,4,5,6],[0,1,2,3,4,5,6,7],[0,1,2,3,4,5,6,7,8],[0,1,2,3,4,5,6,7,8],[0,1,2,3,4,5,6,7,8,9],[0,1,2,3,4,5,6,7,8,9,10,11]]
def g_table_Update_r17:List (List (Nat×Option Nat)):=[[(14,none)],[(14,none)],[(73,some 1)],[(74,some 2)],[(75,some 3)],[(4,none)],[(77,some 5)],[(3,none)],[(76,some 4),(78,some 6),(79,some 7)],[(80,some 8)],[(71,some 9)],[(71,some 9)],[(72,some 0)],[(83,some 12)],[(81,some 10),(84,some 13)]]
def g_table_Update_r17c:List (List Nat):=[[],[],[1],[1,2],[1,2,3],[],[5],[],[1,2,3,4,5,6,7],[1,2,3,4,5,6,7,8],[1,2,3,4,5,6,7,8,9],[1,2,3,4,5,6,7,8,9],[0,1,2,3,4,5,6,7,8,9,10],[0,1,2,3,4,5,6,7,8,9,10,12],[0,1,2,3,4,5,6,7,8,9,10,12,13],[0,1,2,3,4,5,6,7,8,9,10,11,12,13,14]]
noncomputable def g_table_Update_l0 (drawer1:Int) (where2:GExpr) (l3:List GSet):Int×Int×GTable→Option ((Int×Int×GTable)⊕((GTable×Int×Int)⊕(Int×GTable)))
  | (n12_0,t40_0,t4_0)=>(if t40_0 < (4:Int) then (show Option ((GTable×Int×Int)⊕(Int×GTable)) from if 0≤drawer1∧drawer1 < (2:Int) then if 0≤t40_0∧t40_0 < (4:Int) then (if (!((vrd (vrd t4_0.Drawers drawer1.toNat) t40_0.toNat).Full))=true then some (.inr (n12_0,t4_0)) else (g_table_Holds where2 t4_0.Cols ((vrd (vrd t4_0.Drawers drawer1.toNat) t40_0.toNat).Row)).bind fun r'7=>((if (r'7.2=(0:Int))∧(r'7.1=true) then (g_table_changed ((vrd (vrd t4_0.Drawers drawer1.toNat) t40_0.toNat).Row) t4_0.Cols l3).bind fun r'9=>letO ({ t4_0 with Drawers:=(vwr t4_0.Drawers drawer1.toNat (vwr (vrd t4_0.Drawers drawer1.toNat) t40_0.toNat ({ (vrd (vrd t4_0.Drawers drawer1.toNat) t40_0.toNat) with Row:=r'9.1 }))) }) fun t4'10=>some (w64 (n12_0+(1:Int)),r'9.2,t4'10) else some (n12_0,r'7.2,t4_0))).bind fun j'8=>(if j'8.2.1≠(0:Int) then some (.inl (GTable.zero,(0:Int),j'8.2.1)) else some (.inr (j'8.1,j'8.2.2)))) else none else none).bind fun o'12=>match o'12 with | .inl y'11=>some (.inr (.inl y'11)) | .inr j'6=>some (.inl (j'6.1,w64 (t40_0+(1:Int)),j'6.2)) else some (.inr (.inr (n12_0,t4_0))))
noncomputable def g_table_Update (t0:GTable) (drawer1:Int) (where2:GExpr) (l3:List GSet):Option (GTable×Int×Int) :=
  (g_table_begun t0 drawer1).bind fun r'1=>((if r'1.2=(0:Int) then (g_table_Condition where2 r'1.1.Cols).bind fun r'3=>some r'3 else some r'1.2)).bind fun j'2=>((if j'2=(0:Int) then (g_table_sets l3 r'1.1.Cols).bind fun r'5=>some r'5 else some j'2)).bind fun j'4=>(if j'4≠(0:Int) then some (GTable.zero,(0:Int),j'4) else (loopO (g_table_Update_l0 drawer1 where2 l3) ((0:Int),(0:Int),r'1.1)).bind fun o'16=>match o'16 with | .inl y'17=>some y'17 | .inr (y'18)=>if 0≤drawer1∧drawer1 < (2:Int) then (g_table_keys (vrd y'18.2.Drawers drawer1.toNat)).bind fun r'19=>(if r'19≠(0:Int) then some (GTable.zero,(0:Int),r'19) else some (y'18.2,y'18.1,(0:Int))) else none)
theorem g_table_Update_ac {t0:GTable} {drawer1:Int} {where2:GExpr} {l3:List GSet} {r:GTable×Int×Int} (H:g_table_Update t0 drawer1 where2 l3=some r):ACp Tryz.prog 8 [(.agg (GTable.cs t0)),(AV.int drawer1),(.agg (GExpr.cs where2)),(GSet.ls l3)] (.tup [(.agg (GTable.cs r.1)),(AV.int r.2.1),(AV.int r.2.2)]):=by
 refine ACp_of (AC2_of_body (vs:=[.g (GTable.cs r.1),.i r.2.1,.i r.2.2]) Tryz.func8 Y Y (lb Y) Y ?_) (fun _=>.same _)
 unfold g_table_Update at H
 refine as2 [0,1,2,3] [.g (GTable.cs t0),.i drawer1,.g (GExpr.cs where2),.p (GSet.ls l3)] [] [] Y (sg 5 Y (rq Y (bx 4 Y) (rq Y (bx 6 Y) (rq Y (al 8 in_29 one_29 zc_29 Y) (ra Y (ra Y (rz [1,3,4,6,8] [_,_,.q 4 (0),.q 6 (0),.q 8 (0)] [4,6,8] [.pure (GTable.cs t0),.pure (GExpr.cs where2),.pure (GTable.cs GTable.zero)] Y (sg 8 Y (rp Y (pL U29 Y in_29 (Sub.refl _) (GTable.len t0)) (rm Y (bindK H fun r'1 h1 H=>rp Y (pc Y Tryz.func10 Y (g_table_begun_ac h1) Y) (rm Y (rp Y (pe Y) (rp Y (pe Y) (rq Y (u_sw Y Y in_29 (GTable.len r'1.1) (GTable.len t0)) (ra Y (rz [1,3,4,6,8,11] [_,_,_,_,_,.i r'1.2] [4,6,8] [.pure (GTable.cs r'1.1),_,_] Y (QS (bindK H fun j'2 h2 H=>AW2_mid (⟨[(1,.i drawer1),(3,.p (GSet.ls l3)),(4,.q 4 (0)),(6,.q 6 (0)),(8,.q 8 (0)),(11,.i j'2)],[(4,.pure (GTable.cs r'1.1)),(6,.pure (GExpr.cs where2)),(8,.pure (GTable.cs GTable.zero))],101⟩:TS) ?_ ?_)))))))))))))))))))
 ·clear H
  have H:=h2
  clear h2
  refine sg 2 Y (rm Y (rp Y (pi Y) (rz [1,3,4,6,8,11,25] [.i drawer1,.p (GSet.ls l3),.q 4 (0),.q 6 (0),.q 8 (0),.i r'1.2,.b (decide (r'1.2=0))] [4,6,8] [.pure (GTable.cs r'1.1),.pure (GExpr.cs where2),.pure (GTable.cs GTable.zero)] Y (if2 H Y (fun h3 H=>?_) (fun h3 H=>?_)))))
  ·refine ar 5 Y (rp Y (pL U35 Y in_35 (Sub.refl _) (GExpr.len where2)) (rf Y U29 Y in_22 Y Y (GTable.len r'1.1) (rp Y (pl U22 Y (GTable.sub2 r'1.1)) (bindK H fun r'3 h4 H=>rp Y (pc Y Tryz.func11 Y (g_table_Condition_ac h4) Y) (ra Y (rz [1,3,4,6,8,11] [_,_,_,_,_,.i r'3] [4,6,8] [_,_,_] Y ?_))))))
   have z:=se H;subst z
   exact rfl
  refine as2 [1,3,4,6,8,11] [_,_,_,_,_,_] [4,6,8] [_,_,_] Y (QK ?_)
  have z:=se H;subst z
  exact rfl
 refine QS (bindK H fun j'4 h5 H=>AW2_mid (⟨[(1,.i drawer1),(3,.p (GSet.ls l3)),(4,.q 4 (0)),(6,.q 6 (0)),(8,.q 8 (0)),(11,.i j'4)],[(4,.pure (GTable.cs r'1.1)),(6,.pure (GExpr.cs where2)),(8,.pure (GTable.cs GTable.zero))],101⟩:TS) ?_ ?_)
 ·clear H
  have H:=h5
  clear h5
  refine sg 2 Y (rm Y (rp Y (pi Y) (rz [1,3,4,6,8,11,31] [.i drawer1,.p (GSet.ls l3),.q 4 (0),.q 6 (0),.q 8 (0),.i j'2,.b (decide (j'2=0))] [4,6,8] [.pure (GTable.cs r'1.1),.pure (GExpr.cs where2),.pure (GTable.cs GTable.zero)] Y (if2 H Y (fun h6 H=>?_) (fun h6 H=>?_)))))
  ·refine ar 5 Y (rm Y (rf Y U29 Y in_22 Y Y (GTable.len r'1.1) (rp Y (pl U22 Y (GTable.sub2 r'1.1)) (bindK H fun r'5 h7 H=>rp Y (pc Y Tryz.func18 Y (g_table_sets_ac h7) Y) (ra Y (rz [1,3,4,6,8,11] [_,_,_,_,_,.i r'5] [4,6,8] [_,_,_] Y ?_))))))
   have z:=se H;subst z
   exact rfl
  refine as2 [1,3,4,6,8,11] [_,_,_,_,_,_] [4,6,8] [_,_,_] Y (QK ?_)
  have z:=se H;subst z
  exact rfl
 refine QS (sg 2 Y (rm Y (rp Y (pn Y) (rz [1,3,4,6,8,11,37] [_,_,_,_,_,_,.b (decide (j'4≠0))] [4,6,8] [_,_,_] Y (if2 H Y (fun h8 H=>?_) (fun h8 H=>?_))))))
 ·refine sg 5 Y (rp Y (u_bld Y in_29 one_29 zc_29 pl_29 Y Y) (rm Y (rq Y (u_sw Y Y in_29 (GTable.len GTable.zero) (GTable.len GTable.zero)) (ra Y (ra Y (rz [8,9,10] [_,.i 0,.i j'4] [8] [_] Y (QR ?_)))))))
  have z:=se H;subst z
  exact ⟨⟨rcw U29 Y in_29 Y (GTable.len GTable.zero),rt,rt,trivial⟩,trivial⟩
 refine as2 [1,3,4,6,8] [_,_,_,_,_] [4,6,8] [_,_,_] Y (QK (sg 1 Y (ra Y (rz [1,3,4,6,8,12] [_,_,_,_,_,.i 0] [4,6,8] [_,_,_] Y (QS (sg 1 Y (rm Y (rz [1,3,4,6,8,12,40] [_,_,_,_,_,_,.i 0] [4,6,8] [_,_,_] Y (QB (as2 [1,3,4,6,8,12,40] [_,_,_,_,_,_,_] [4,6,8] [_,_,_] Y (bindK H fun o'16 h20 H=>AW2_loopO (fun a'13:Int×Int×GTable=>(⟨[(1,.i drawer1),(3,.p (GSet.ls l3)),(4,.q 4 (0)),(6,.q 6 (0)),(8,.q 8 (0)),(12,.i a'13.1),(40,.i a'13.2.1)],[(4,.pure (GTable.cs a'13.2.2)),(6,.pure (GExpr.cs where2)),(8,.pure (GTable.cs GTable.zero))],101⟩:TS)) (fun (o:(GTable×Int×Int)⊕(Int×GTable)) e s'=>match o with | .inl y'14=>e=Go.Exit.ret∧ResAll Tryz.prog s' [ResultVar.cell 8 29,ResultVar.tmp 9,ResultVar.tmp 10] [.g (GTable.cs y'14.1),.i y'14.2.1,.i y'14.2.2]∧HFits s' [] | .inr (y'15)=>e=Go.Exit.exit 0∧s'=(⟨[(1,.i drawer1),(4,.q 4 (0)),(8,.q 8 (0)),(12,.i y'15.1)],[(4,.pure (GTable.cs y'15.2)),(8,.pure (GTable.cs GTable.zero))],101⟩:TS)) h20 Y (fun a x hx=>?_) (fun e s' hs=>?_))))))))))))
 ·clear H
  obtain ⟨n12_0,t40_0,t4_0⟩:=a
  have H:=hx
  clear hx
  unfold g_table_Update_l0 at H
  refine sg 1 Y (rp Y (pb Y Y) (rz [1,3,4,6,8,12,40,41] [.i drawer1,.p (GSet.ls l3),.q 4 (0),.q 6 (0),.q 8 (0),.i n12_0,.i t40_0,.b (decide (t40_0 < 4))] [4,6,8] [.pure (GTable.cs t4_0),.pure (GExpr.cs where2),.pure (GTable.cs GTable.zero)] Y (QS (if2 H Y (fun h9 H=>?_) (fun h9 H=>?_)))))
  ·refine as2 [1,3,4,6,8,12,40] [_,_,_,_,_,_,_] [4,6,8] [_,_,_] Y (QK (QS (bindK H fun o'12 h10 H=>AW2_join (fun j'6:Int×GTable=>(⟨[(1,.i drawer1),(3,.p (GSet.ls l3)),(4,.q 4 (0)),(6,.q 6 (0)),(8,.q 8 (0)),(12,.i j'6.1),(40,.i t40_0)],[(4,.pure (GTable.cs j'6.2)),(6,.pure (GExpr.cs where2)),(8,.pure (GTable.cs GTable.zero))],101⟩:TS)) (fun r e s'=>e=Go.Exit.ret∧ResAll Tryz.prog s' [ResultVar.cell 8 29,ResultVar.tmp 9,ResultVar.tmp 10] [.g (GTable.cs r.1),.i r.2.1,.i r.2.2]∧HFits s' []) (x:=o'12) ?_ (fun j'6 hy=>?_) (fun y'11 e s' hy hs=>?_))))
   ·clear H
    have H:=h10
    clear h10
    refine QB (sg 2 Y (rm Y (ra Y (rz [1,3,4,6,8,12,13,40] [.i drawer1,.p (GSet.ls l3),.q 4 (0),.q 6 (0),.q 8 (0),.i n12_0,.i t40_0,.i t40_0] [4,6,8] [.pure (GTable.cs t4_0),.pure (GExpr.cs where2),.pure (GTable.cs GTable.zero)] Y (sg 6 Y (rm Y (rm Y (rf Y U29 Y in_27 Y Y (GTable.len t4_0) (chkK H fun h11 H=>rp Y (u_ixp Y Y U27 in_26 Y Y (nl (GTable.len t4_0)) Y (ixe h11) (ixn h11)) (chkK H fun h12 H=>rp Y (u_ixp Y Y U26 in_25 Y Y (nl (GTable.len t4_0)) Y (ixe h12) (ixn h12)) (ra Y (rz [1,3,4,6,8,12,14,40] [_,_,_,_,_,_,.q 4 (0+3+drawer1.toNat * 8+t40_0.toNat * 2),_] [4,6,8] [_,_,_] Y (QS (sg 5 Y (rm Y (rp Y (p_nilc Y Y Y Y (fun _=>(nl (GTable.len t4_0)))) (rf Y U25 Y in_4 Y Y (GTable.len t4_0) (rp Y (pl U4 Y ((((GTable.sub3 t4_0).trans (Sub.vfm (fun x=>(vfm_len GCell.len x)) (ixn h11))).trans (Sub.vfm GCell.len (ixn h12))).trans (GCell.sub0 (vrd (vrd t4_0.Drawers drawer1.toNat) t40_0.toNat)))) (rp Y (p_not Y Y) (rz [1,3,4,6,8,12,14,40,52] [_,_,_,_,_,_,_,_,.b (!((vrd (vrd t4_0.Drawers drawer1.toNat) t40_0.toNat).Full))] [4,6,8] [_,_,_] Y (AW2_cond Y (fun h13=>?_) (fun h13=>?_))))))))))))))))))))))
    ·replace H:=ite_then h13 H
     refine as2 [1,3,4,6,8,12,40] [.i drawer1,.p (GSet.ls l3),.q 4 (0),.q 6 (0),.q 8 (0),.i n12_0,.i t40_0] [4,6,8] [.pure (GTable.cs t4_0),.pure (GExpr.cs where2),.pure (GTable.cs GTable.zero)] Y (AW2_exit (thenQ2_exit (blockQ2_exit ?_)))
     have z:=se H;subst z
     exact ⟨Y,Y⟩
    replace H:=ite_else (ne_true h13) H
    refine as2 [1,3,4,6,8,12,14,40] [.i drawer1,.p (GSet.ls l3),.q 4 (0),.q 6 (0),.q 8 (0),.i n12_0,.q 4 (0+3+drawer1.toNat * 8+t40_0.toNat * 2),.i t40_0] [4,6,8] [.pure (GTable.cs t4_0),.pure (GExpr.cs where2),.pure (GTable.cs GTable.zero)] Y (QK (QS (bindK H fun r'7 h14 H=>AW2_ghoQ (AW2_draw 12 [12] (fun k=>([.g (GExpr.cs where2),.q 4 (0+2),.p (GColumn.ls t4_0.Cols),.q 4 (0+3+drawer1.toNat * 8+t40_0.toNat * 2),.q 4 (0+3+drawer1.toNat * 8+t40_0.toNat * 2),.q 4 (0+3+drawer1.toNat * 8+t40_0.toNat * 2+1),.p (GValue.ls ((vrd (vrd t4_0.Drawers drawer1.toNat) t40_0.toNat).Row)),.p (.tup [(AV.bool r'7.1),(AV.int r'7.2)]),.p (.tup [(AV.bool r'7.1),(AV.int r'7.2)]),.b r'7.1,.i r'7.2,.b r'7.1]:List TV).getD k TV.any) (fun k=>g_table_Update_r14.getD k []) [(1,none),(3,none),(4,none),(6,none),(8,none),(12,none),(14,none),(15,some 11),(40,none),(63,some 10)] [] (fun k=>g_table_Update_r14c.getD k []) mixed (by kernel_rfl) Y Y (a_op (g_x Y (x_p Y (pL U35 Y in_35 (Sub.refl _) (GExpr.len where2)) Y)) (a_op (g_x Y (x_p Y (uf U29 Y in_22 Y (GTable.len t4_0)) Y)) (a_op (g_x Y (x_p Y (pl U22 Y (GTable.sub2 t4_0)) Y)) (a_op (g_x Y (x_p Y (p_move Y Y) Y)) (a_op (g_x Y (x_p Y (p_nilc Y Y Y Y (fun _=>(nl (GTable.len t4_0)))) Y)) (a_op (g_x Y (x_p Y (uf U25 Y in_23 Y (GTable.len t4_0)) Y)) (a_op (g_x Y (x_p Y (pl U23 Y ((((GTable.sub3 t4_0).trans (Sub.vfm (fun x=>(vfm_len GCell.len x)) (ixn h11))).trans (Sub.vfm GCell.len (ixn h12))).trans (GCell.sub1 (vrd (vrd t4_0.Drawers drawer1.toNat) t40_0.toNat)))) Y)) (a_op (g_x Y (x_p Y (pc Y Tryz.func12 Y (g_table_Holds_ac h14) Y) Y)) (a_op (g_x Y (x_p Y (p_move Y Y) Y)) (a_op (g_x Y (x_p Y (pe Y) Y)) (a_op (g_x Y (x_p Y (pe Y) Y)) (a_op (g_x Y (x_p Y (p_asg Y Y) Y)) (a_nil))))))))))))) (t_op Y Y (PureD.opD (p_asg Y Y)) (t_gho (Gho_st (L:=[(1,.i drawer1),(3,.p (GSet.ls l3)),(4,.q 4 (0)),(6,.q 6 (0)),(8,.q 8 (0)),(12,.i n12_0),(14,.q 4 (0+3+drawer1.toNat * 8+t40_0.toNat * 2)),(15,.b r'7.1),(16,.i r'7.2),(40,.i t40_0)]) (H:=[(4,.pure (GTable.cs t4_0)),(6,.pure (GExpr.cs where2)),(8,.pure (GTable.cs GTable.zero))]) (N:=101) Y ⟨TLes.same _,TLes.same _,TLes.same _,TLes.same _,TLes.same _,TLes.same _,TLes.same _,TLes.same _,TLes.same _,TLes.same _,trivial⟩ ⟨Y,Y,Y,trivial⟩) (QS (bindK H fun j'8 h15 H=>AW2_mid (⟨[(1,.i drawer1),(3,.p (GSet.ls l3)),(4,.q 4 (0)),(6,.q 6 (0)),(8,.q 8 (0)),(12,.i j'8.1),(16,.i j'8.2.1),(40,.i t40_0)],[(4,.pure (GTable.cs j'8.2.2)),(6,.pure (GExpr.cs where2)),(8,.pure (GTable.cs GTable.zero))],101⟩:TS) ?_ ?_))))))))
    ·clear H
     have H:=h15
     clear h15
     refine QS (AW2_mid (⟨[(1,.i drawer1),(3,.p (GSet.ls l3)),(4,.q 4 (0)),(6,.q 6 (0)),(8,.q 8 (0)),(12,.i n12_0),(14,.q 4 (0+3+drawer1.toNat * 8+t40_0.toNat * 2)),(16,.i r'7.2),(40,.i t40_0),(68,.b (decide ((r'7.2=0)∧(r'7.1=true))))],[(4,.pure (GTable.cs t4_0)),(6,.pure (GExpr.cs where2)),(8,.pure (GTable.cs GTable.zero))],101⟩:TS) ?_ ?_)
     ·refine ar 5 Y (rm Y (rp Y (pi Y) (rm Y ?_)))
      refine (Classical.em (r'7.2=0)).elim (fun h16=>?_) (fun h16=>?_)
      ·exact rn Y (dT h16) Y (p_move Y Y) (rp Y (p_pkt Y Y (dT h16) (tb ((bdec _).trans (and_l (q:=r'7.1=true) h16)))) (rend Y Y))
      exact rO Y (dF h16) Y (rp Y (p_pkf Y Y (dF h16) (tb (dF (p:=(r'7.2=0)∧(r'7.1=true)) (fun x=>h16 x.1)).symm)) (rend Y Y))
     refine if2 H Y (fun h17 H=>?_) (fun h17 H=>?_)
     ·refine sg 3 Y (rm Y (rp Y (pb Y Y) (ra Y (rz [1,3,4,6,8,12,14,40] [_,_,_,_,_,.i (w64 (n12_0+1)),_,_] [4,6,8] [_,_,_] Y (bindK H fun r'9 h18 H=>AW2_ghoQ (AW2_drawU 15 [15] (fun k=>([.q 4 (0+3+drawer1.toNat * 8+t40_0.toNat * 2),.q 4 (0+3+drawer1.toNat * 8+t40_0.toNat * 2),.q 4 (0+3+drawer1.toNat * 8+t40_0.toNat * 2),.q 4 (0+3+drawer1.toNat * 8+t40_0.toNat * 2+1),.p (GValue.ls ((vrd (vrd t4_0.Drawers drawer1.toNat) t40_0.toNat).Row)),.q 4 (0+2),.p (GColumn.ls t4_0.Cols),.p (GSet.ls l3),.p (.tup [(GValue.ls r'9.1),(AV.int r'9.2)]),.p (.tup [(GValue.ls r'9.1),(AV.int r'9.2)]),.p (GValue.ls r'9.1),.i r'9.2,.q 4 (0+3+drawer1.toNat * 8+t40_0.toNat * 2),.q 4 (0+3+drawer1.toNat * 8+t40_0.toNat * 2+1),.p (.tup [])]:List TV).getD k TV.any) (fun k=>g_table_Update_r17.getD k []) [(1,none),(3,none),(4,none),(6,none),(8,none),(12,none),(40,none),(82,some 11)] [] [(14,4,.pure (GTable.cs ((GTable.w3 t4_0 (vwr t4_0.Drawers drawer1.toNat (vwr (vrd t4_0.Drawers drawer1.toNat) t40_0.toNat ((GCell.w1 (vrd (vrd t4_0.Drawers drawer1.toNat) t40_0.toNat) r'9.1))))))))] [] (fun k=>([[],[],[(4,false)],[(4,false)],[(4,false)],[(4,false)],[(4,false)],[],[],[],[],[],[(4,false)],[(4,false)],[(4,false)]]:List (List (Nat×Bool))).getD k []) (fun k=>g_table_Update_r17c.getD k []) mixed (by kernel_rfl) Y Y Y (a_op (gu_x Y (y_p Y Y (p_move Y Y) Y)) (a_op (gu_x Y (y_p Y Y (p_move Y Y) Y)) (a_op (gu_x Y (y_p Y Y (p_nilc Y Y Y Y (fun _=>(nl (GTable.len t4_0)))) Y)) (a_op (gu_x Y (y_p Y Y (uf U25 Y in_23 Y (GTable.len t4_0)) Y)) (a_op (gu_x Y (y_p Y Y (pl U23 Y ((((GTable.sub3 t4_0).trans (Sub.vfm (fun x=>(vfm_len GCell.len x)) (ixn h11))).trans (Sub.vfm GCell.len (ixn h12))).trans (GCell.sub1 (vrd (vrd t4_0.Drawers drawer1.toNat) t40_0.toNat)))) Y)) (a_op (gu_x Y (y_p Y Y (uf U29 Y in_22 Y (GTable.len t4_0)) Y)) (a_op (gu_x Y (y_p Y Y (pl U22 Y (GTable.sub2 t4_0)) Y)) (a_op (gu_x Y (y_p Y Y (p_move Y Y) Y)) (a_op (gu_x Y (y_p Y Y (pc Y Tryz.func19 Y (g_table_changed_ac h18) Y) Y)) (a_op (gu_x Y (y_p Y Y (p_move Y Y) Y)) (a_op (gu_x Y (y_p Y Y (pe Y) Y)) (a_op (gu_x Y (y_p Y Y (pe Y) Y)) (a_op (gu_x Y (y_p Y Y (p_nilc Y Y Y Y (fun _=>(nl (GTable.len t4_0)))) Y)) (a_op (gu_x Y (y_p Y Y (uf U25 Y in_23 Y (GTable.len t4_0)) Y)) (a_op (gu_x Y (y_u Y Y Y Y (UpdD_st Y Y Y Y Y in_23 Y (nl (GTable.len t4_0)) (Upd.trans (((GTable.sub3 t4_0).trans (Sub.vfm (fun x=>(vfm_len GCell.len x)) (ixn h11))).trans (Sub.vfm GCell.len (ixn h12))) (GCell.upd1 (vrd (vrd t4_0.Drawers drawer1.toNat) t40_0.toNat) r'9.1) (Upd.trans ((GTable.sub3 t4_0).trans (Sub.vfm (fun x=>(vfm_len GCell.len x)) (ixn h11))) (Upd.vfm GCell.len (ixn h12)) (Upd.trans (GTable.sub3 t4_0) (Upd.vfm (fun x=>(vfm_len GCell.len x)) (ixn h11)) (Upd.trans (Sub.refl _) (GTable.upd3 t4_0 (vwr t4_0.Drawers drawer1.toNat (vwr (vrd t4_0.Drawers drawer1.toNat) t40_0.toNat ((GCell.w1 (vrd (vrd t4_0.Drawers drawer1.toNat) t40_0.toNat) r'9.1))))) (Upd.refl ((GTable.len ((GTable.w3 t4_0 (vwr t4_0.Drawers drawer1.toNat (vwr (vrd t4_0.Drawers drawer1.toNat) t40_0.toNat ((GCell.w1 (vrd (vrd t4_0.Drawers drawer1.toNat) t40_0.toNat) r'9.1))))))).trans (GTable.len t4_0).symm))))))) Y Y)) (a_nil)))))))))))))))) (t_op Y Y (PureD.opD (p_asg Y Y)) (t_gho (Gho_st (L:=[(1,.i drawer1),(3,.p (GSet.ls l3)),(4,.q 4 (0)),(6,.q 6 (0)),(8,.q 8 (0)),(12,.i (w64 (n12_0+1))),(16,.i r'9.2),(40,.i t40_0)]) (H:=[(4,.pure (GTable.cs ((GTable.w3 t4_0 (vwr t4_0.Drawers drawer1.toNat (vwr (vrd t4_0.Drawers drawer1.toNat) t40_0.toNat ((GCell.w1 (vrd (vrd t4_0.Drawers drawer1.toNat) t40_0.toNat) r'9.1)))))))),(6,.pure (GExpr.cs where2)),(8,.pure (GTable.cs GTable.zero))]) (N:=101) Y ⟨TLes.same _,TLes.same _,TLes.same _,TLes.same _,TLes.same _,TLes.same _,TLes.same _,TLes.same _,trivial⟩ ⟨Y,Y,Y,trivial⟩) (gen1 (fun t4'10=>(⟨[(1,.i drawer1),(3,.p (GSet.ls l3)),(4,.q 4 (0)),(6,.q 6 (0)),(8,.q 8 (0)),(12,.i (w64 (n12_0+1))),(16,.i r'9.2),(40,.i t40_0)],[(4,.pure (GTable.cs t4'10)),(6,.pure (GExpr.cs where2)),(8,.pure (GTable.cs GTable.zero))],101⟩:TS)) H ?_)))))))))
      intro t4'10 H
      have z:=se H;subst z
      exact rfl
     refine as2 [1,3,4,6,8,12,16,40] [_,_,_,_,_,_,_,_] [4,6,8] [_,_,_] Y (QK ?_)
     have z:=se H;subst z
     exact rfl
    refine sg 2 Y (rm Y (rp Y (pn Y) (rz [1,3,4,6,8,12,16,40,86] [_,_,_,_,_,_,_,_,.b (decide (j'8.2.1≠0))] [4,6,8] [_,_,_] Y (if2 H Y (fun h19 H=>?_) (fun h19 H=>?_)))))
    ·refine sg 5 Y (rp Y (u_bld Y in_29 one_29 zc_29 pl_29 Y Y) (rm Y (rq Y (u_sw Y Y in_29 (GTable.len GTable.zero) (GTable.len GTable.zero)) (ra Y (ra Y (rz [8,9,10] [_,.i 0,.i j'8.2.1] [8] [_] Y (QR ?_)))))))
     have z:=se H;subst z
     exact ⟨Y,⟨rcw U29 Y in_29 Y (GTable.len GTable.zero),rt,rt,trivial⟩,trivial⟩
    refine as2 [1,3,4,6,8,12,40] [_,_,_,_,_,_,_] [4,6,8] [_,_,_] Y (QK ?_)
    have z:=se H;subst z
    exact ⟨Y,Y⟩
   ·subst hy
    refine ar 2 Y (rp Y (pb Y Y) (rm Y (rz [1,3,4,6,8,12,40] [.i drawer1,.p (GSet.ls l3),.q 4 (0),.q 6 (0),.q 8 (0),.i j'6.1,.i (w64 (t40_0+1))] [4,6,8] [.pure (GTable.cs j'6.2),.pure (GExpr.cs where2),.pure (GTable.cs GTable.zero)] Y ?_)))
    have z:=se H;subst z
    exact ⟨Y,Y⟩
   subst hy
   obtain ⟨rfl,hs⟩:=hs
   have z:=se H;subst z
   exact ⟨Y,hs.1,hs.2⟩
  refine as2 [1,4,8,12] [_,_,_,_] [4,8] [_,_] Y (AW2_exit (thenQ2_exit ?_))
  have z:=se H;subst z
  exact ⟨Y,Y⟩
 rcases o'16 with y'17 | y'18
 ·obtain ⟨rfl,hs⟩:=hs
  refine ⟨by simp,?_⟩
  have z:=se H;subst z
  exact ⟨hs.1,hs.2⟩
 obtain ⟨rfl,rfl⟩:=hs
 refine ⟨by simp,?_⟩
 refine blockQ2_exit (QS (sg 6 Y (rm Y (rf Y U29 Y in_27 Y Y (GTable.len y'18.2) (chkK H fun h21 H=>rp Y (u_ixp Y Y U27 in_26 Y Y (nl (GTable.len y'18.2)) Y (ixe h21) (ixn h21)) (rp Y (pL U26 Y in_26 ((GTable.sub3 y'18.2).trans (Sub.vfm (fun x=>(vfm_len GCell.len x)) (ixn h21))) (vfm_len GCell.len (vrd y'18.2.Drawers drawer1.toNat))) (bindK H fun r'19 h22 H=>rp Y (pc Y Tryz.func20 Y (g_table_keys_ac h22) Y) (ra Y (rz [4,8,12,17] [.q 4 (0),.q 8 (0),.i y'18.1,.i r'19] [4,8] [.pure (GTable.cs y'18.2),.pure (GTable.cs GTable.zero)] Y (sg 2 Y (rm Y (rp Y (pn Y) (rz [4,8,12,17,96] [_,_,_,_,.b (decide (r'19≠0))] [4,8] [_,_] Y (if2 H Y (fun h23 H=>?_) (fun h23 H=>?_)))))))))))))))
 ·refine sg 5 Y (rp Y (u_bld Y in_29 one_29 zc_29 pl_29 Y Y) (rm Y (rq Y (u_sw Y Y in_29 (GTable.len GTable.zero) (GTable.len GTable.zero)) (ra Y (ra Y (rz [8,9,10] [_,.i 0,.i r'19] [8] [_] Y (QR ?_)))))))
  have z:=se H;subst z
  exact ⟨⟨rcw U29 Y in_29 Y (GTable.len GTable.zero),rt,rt,trivial⟩,trivial⟩
 refine as2 [4,8,12] [_,_,_] [4,8] [_,_] Y (QK (sg 5 Y (rp Y (pL U29 Y in_29 (Sub.refl _) (GTable.len y'18.2)) (rm Y (rq Y (u_sw Y Y in_29 (GTable.len y'18.2) (GTable.len GTable.zero)) (ra Y (ra Y (rz [8,9,10] [_,.i y'18.1,.i 0] [8] [.pure (GTable.cs y'18.2)] Y (QR ?_)))))))))
 have z:=se H;subst z
 exact ⟨⟨rcw U29 Y in_29 Y (GTable.len y'18.2),rt,rt,trivial⟩,trivial⟩
noncomputable def g_ref_among_l0 (c0:UInt8) (l1:List UInt8):Int→Option (Int⊕(Bool⊕Unit))
  | i5_0=>(if i5_0 < (l1.length:Int) then if 0≤i5_0∧i5_0 < (l1.length:Int) then (if (lrd l1 i5_0.toNat)=c0 then some (.inr (.inl true)) else some (.inl (w64 (i5_0+(1:Int))))) else none else some (.inr (.inr ())))
noncomputable def g_ref_among (c0:UInt8) (l1:List UInt8):Option (Bool) :=
  (loopO (g_ref_among_l0 c0 l1) (0:Int)).bind fun o'4=>match o'4 with | .inl y'5=>some y'5 | .inr (y'6)=>some false
theorem g_ref_among_ac {c0:UInt8} {l1:List UInt8} {r:Bool} (H:g_ref_among c0 l1=some r):ACp Tryz.prog 68 [(AV.b8 c0),(AV.txt l1)] (AV.bool r):=by
 refine ACp_of (AC2_of_body (vs:=[.b r]) Tryz.func68 Y Y (lb Y) Y ?_) (fun _=>.same _)
 unfold g_ref_among at H
 refine as2 [0,1] [.p (AV.b8 c0),.t l1] [] [] Y (sg 1 Y (ra Y (rz [0,1] [_,_] [] [] Y (QS (sg 1 Y (ra Y (rz [0,1,5] [_,_,.i 0] [] [] Y (QB (as2 [0,1,5] [_,_,_] [] [] Y (bindK H fun o'4 h4 H=>AW2_loopO (fun a'1:Int=>(⟨[(0,.p (AV.b8 c0)),(1,.t l1),(5,.i a'1)],[],17⟩:TS)) (fun (o:Bool⊕Unit) e s'=>match o with | .inl y'2=>e=Go.Exit.ret∧ResAll Tryz.prog s' [ResultVar.tmp 4] [.b y'2]∧HFits s' [] | .inr (y'3)=>e=Go.Exit.exit 0∧s'=(⟨[],[],17⟩:TS)) h4 Y (fun i5_0 x hx=>?_) (fun e s' hs=>?_)))))))))))
 ·clear H
  have H:=hx
  clear hx
  unfold g_ref_among_l0 at H
  refine QS (sg 4 Y (rm Y (rm Y (rp Y (p_lent Y U9 Y) (rp Y (pb Y Y) (rz [0,1,5,9] [.p (AV.b8 c0),.t l1,.i i5_0,.b (decide (i5_0 < (l1.length:Int)))] [] [] Y (if2 H Y (fun h1 H=>?_) (fun h1 H=>?_))))))))
  ·refine as2 [0,1,5] [_,_,_] [] [] Y (QK (QS (QB (sg 5 Y (rm Y (rm Y (chkK H fun h2 H=>rp Y (p_ixt Y U9 Y Y (ixe h2) (lrd_get (ixn h2))) (rm Y (rp Y (p_u8eq (a:=(lrd l1 i5_0.toNat)) (b:=c0) Y Y Y) (rz [0,1,5,16] [_,_,_,.b (decide ((lrd l1 i5_0.toNat)=c0))] [] [] Y (if2 H Y (fun h3 H=>?_) (fun h3 H=>?_))))))))))))
   ·refine sg 1 Y (ra Y (rz [4] [.b true] [] [] Y (QR ?_)))
    have z:=se H;subst z
    exact ⟨Y,⟨rt,trivial⟩,trivial⟩
   refine as2 [0,1,5] [_,_,_] [] [] Y (QK (ar 3 Y (rm Y (rp Y (pb Y Y) (ra Y (rz [0,1,5] [_,_,.i (w64 (i5_0+1))] [] [] Y ?_))))))
   have z:=se H;subst z
   exact ⟨Y,Y⟩
  refine as2 [] [] [] [] Y (AW2_exit (thenQ2_exit ?_))
  have z:=se H;subst z
  exact ⟨Y,Y⟩
 rcases o'4 with y'5 | y'6
 ·obtain ⟨rfl,hs⟩:=hs
  refine ⟨by simp,?_⟩
  have z:=se H;subst z
  exact ⟨hs.1,hs.2⟩
 obtain ⟨rfl,rfl⟩:=hs
 refine ⟨by simp,?_⟩
 refine blockQ2_exit (sg 1 Y (ra Y (rz [4] [.b false] [] [] Y (QR ?_))))
 have z:=se H;subst z
 exact ⟨⟨rt,trivial⟩,trivial⟩
noncomputable def g_ref_reach_l0 (s0:List UInt8) (l1:List UInt8):Int→Option (Int⊕(Int))
  | n5_0=>((if n5_0 < (s0.length:Int) then if 0≤n5_0∧n5_0 < (s0.length:Int) then (g_ref_among (lrd s0 n5_0.toNat) l1).bind fun r'1=>some r'1 else none else some false)).bind fun g'2=>(if g'2=true then some (.inl (w64 (n5_0+(1:Int)))) else some (.inr n5_0))
noncomputable def g_ref_reach (s0:List UInt8) (l1:List UInt8):Option (Int) :=
  (loopO (g_ref_reach_l0 s0 l1) (0:Int)).bind fun y'6=>some y'6
theorem g_ref_reach_ac {s0:List UInt8} {l1:List UInt8} {r:Int} (H:g_ref_reach s0 l1=some r):ACp Tryz.prog 69 [(AV.txt s0),(AV.txt l1)] (AV.int r):=by
 refine ACp_of (AC2_of_body (vs:=[.i r]) Tryz.func69 Y Y (lb Y) Y ?_) (fun _=>.same _)
 unfold g_ref_reach at H
 refine as2 [0,1] [.t s0,.t l1] [] [] Y (sg 1 Y (ra Y (rz [0,1] [_,_] [] [] Y (sg 1 Y (ra Y (rz [0,1,5] [_,_,.i 0] [] [] Y (QS (QB (as2 [0,1,5] [_,_,_] [] [] Y (bindK H fun y'6 h8 H=>AW2_loopO (fun a'3:Int=>(⟨[(0,.t s0),(1,.t l1),(5,.i a'3)],[],20⟩:TS)) (fun (y'4:Int) e s'=>e=Go.Exit.exit 0∧s'=(⟨[(5,.i y'4)],[],20⟩:TS)) h8 Y (fun n5_0 x hx=>?_) (fun e s' hs=>?_)))))))))))
 ·clear H
  have H:=hx
  clear hx
  unfold g_ref_reach_l0 at H
  refine QS (QS (bindK H fun g'2 h5 H=>AW2_mid (⟨[(0,.t s0),(1,.t l1),(5,.i n5_0),(16,.b g'2)],[],20⟩:TS) ?_ ?_))
  ·clear H
   have H:=h5
   clear h5
   refine ar 11 Y (rm Y (rm Y (rp Y (p_lent Y U9 Y) (rp Y (pb Y Y) (rm Y (em2 H (fun h2 H=>?_) (fun h2 H=>?_)))))))
   ·refine rn Y (dT h2) Y (p_move Y Y) (rn Y (dT h2) Y (p_move Y Y) (chkK H fun h3 H=>rn Y (dT h2) Y (p_ixt Y U9 Y Y (ixe h3) (lrd_get (ixn h3))) (rn Y (dT h2) Y (p_move Y Y) (bindK H fun r'1 h4 H=>rn Y (dT h2) Y (pc Y Tryz.func68 Y (g_ref_among_ac h4) Y) (rp Y (p_pkt Y Y (dT h2) (.same _)) (rs [0,1,5,16] [.t s0,.t l1,.i n5_0,.b r'1] [] [] Y ?_))))))
    have z:=se H;subst z
    exact RunW_nil rfl
   refine rO Y (dF h2) Y (rO Y (dF h2) Y (rO Y (dF h2) Y (rO Y (dF h2) Y (rO Y (dF h2) Y (rp Y (p_pkf Y Y (dF h2) (.same _)) (rs [0,1,5,16] [.t s0,.t l1,.i n5_0,.b false] [] [] Y ?_))))))
   have z:=se H;subst z
   exact RunW_nil rfl
  refine AW2_cond Y (fun h6=>?_) (fun h6=>?_)
  ·replace H:=ite_then h6 H
   refine as2 [0,1,5] [.t s0,.t l1,.i n5_0] [] [] Y (QK (QB (ar 3 Y (rm Y (rp Y (pb Y Y) (ra Y (rz [0,1,5] [_,_,.i (w64 (n5_0+1))] [] [] Y ?_)))))))
   have z:=se H;subst z
   exact ⟨Y,Y⟩
  replace H:=ite_else (ne_true h6) H
  refine as2 [5] [.i n5_0] [] [] Y (AW2_exit (thenQ2_exit ?_))
  have z:=se H;subst z
  exact ⟨Y,Y⟩
 obtain ⟨rfl,rfl⟩:=hs
 refine ⟨by simp,?_⟩
 refine blockQ2_exit (sg 2 Y (rm Y (ra Y (rz [4] [.i y'6] [] [] Y (QR ?_)))))
 have z:=se H;subst z
 exact ⟨⟨rt,trivial⟩,trivial⟩
def g_ref_isName_t0:List UInt8:=[97,98,99,100,101,102,103,104,105,106,107,108,109,110,111,112,113,114,115,116,117,118,119,120,121,122]
def g_ref_isName_t1:List UInt8:=[97,98,99,100,101,102,103,104,105,106,107,108,109,110,111,112,113,114,115,116,117,118,119,120,121,122,48,49,50,51,52,53,54,55,56,57,95]
noncomputable def g_ref_isName (s0:List UInt8):Option (Bool) :=
  ((if s0≠[] then if 0 < s0.length then (g_ref_among (lrd s0 0) g_ref_isName_t0).bind fun r'1=>(if r'1=true then (g_ref_reach s0 g_ref_isName_t1).bind fun r'2=>some (decide (r'2=(s0.length:Int))) else some false) else none else some false)).bind fun g'3=>some g'3
theorem g_ref_isName_ac {s0:List UInt8} {r:Bool} (H:g_ref_isName s0=some r):ACp Tryz.prog 46 [(AV.txt s0)] (AV.bool r):=by
 refine ACp_of (AC2_of_body (vs:=[.b r]) Tryz.func46 Y Y (lb Y) Y ?_) (fun _=>.same _)
 unfold g_ref_isName at H
 refine as2 [0] [.t s0] [] [] Y (sg 1 Y (ra Y (rz [0] [_] [] [] Y (QS (bindK H fun g'3 h7 H=>AW2_mid (⟨[(2,.b g'3)],[],17⟩:TS) ?_ ?_)))))
 ·clear H
  have H:=h7
  clear h7
  refine ar 15 Y (rm Y (rp Y (p_sne Y Y Y) (rm Y (em2 H (fun h2 H=>?_) (fun h2 H=>?_)))))
  ·refine rn Y (dT h2) Y (p_move Y Y) (chkK H fun h3 H=>rn Y (dT h2) Y (p_ixt Y U9 Y Y Y (lrd_get h3)) (bindK H fun r'1 h4 H=>rn Y (dT h2) Y (p_callp Y Y Y Tryz.func68 Y Y (g_ref_among_ac h4) ⟨Y,by kernel_rfl,trivial⟩) (rp Y (p_pkt Y Y (dT h2) (.same _)) (rm Y (em2 H (fun h5 H=>?_) (fun h5 H=>?_))))))
   ·refine rn Y h5 Y (p_move Y Y) (bindK H fun r'2 h6 H=>rn Y h5 Y (p_callp Y Y Y Tryz.func69 Y Y (g_ref_reach_ac h6) ⟨Y,by kernel_rfl,trivial⟩) (rn Y h5 Y (p_move Y Y) (rn Y h5 Y (p_lent Y U9 Y) (rn Y h5 Y (pi Y) (rp Y (p_pkt Y Y h5 (.same _)) (ra Y (rs [2] [.b (decide (r'2=(s0.length:Int)))] [] [] Y ?_)))))))
    have z:=se H;subst z
    exact RunW_nil rfl
   refine rO Y (bfalse h5) Y (rO Y (bfalse h5) Y (rO Y (bfalse h5) Y (rO Y (bfalse h5) Y (rO Y (bfalse h5) Y (rp Y (p_pkf Y Y (bfalse h5) (.same _)) (ra Y (rs [2] [.b false] [] [] Y ?_)))))))
   have z:=se H;subst z
   exact RunW_nil rfl
  refine rO Y (dF h2) Y (rO Y (dF h2) Y (rO Y (dF h2) Y (rp Y (p_pkf Y Y (dF h2) (.same _)) (rm Y (rO Y (bfalse (by decide)) Y (rO Y (bfalse (by decide)) Y (rO Y (bfalse (by decide)) Y (rO Y (bfalse (by decide)) Y (rO Y (bfalse (by decide)) Y (rp Y (p_pkf Y Y (bfalse (by decide)) (.same _)) (ra Y (rs [2] [.b false] [] [] Y ?_))))))))))))
  have z:=se H;subst z
  exact RunW_nil rfl
 refine QR ?_
 have z:=se H;subst z
 exact ⟨⟨rt,trivial⟩,trivial⟩
noncomputable def g_ref_columnAt_l0 (cols0:List GColumn) (name1:List UInt8):Int→Option (Int⊕(Int⊕Unit))
  | i5_0=>(if i5_0≥(0:Int) then if 0≤i5_0∧i5_0 < (cols0.length:Int) then (if (lrd cols0 i5_0.toNat).Name=name1 then some (.inr (.inl i5_0)) else some (.inl (w64 (i5_0 - (1:Int))))) else none else some (.inr (.inr ())))
noncomputable def g_ref_columnAt (cols0:List GColumn) (name1:List UInt8):Option (Int) :=
  (loopO (g_ref_columnAt_l0 cols0 name1) (w64 ((cols0.length:Int) - (1:Int)))).bind fun o'4=>match o'4 with | .inl y'5=>some y'5 | .inr (y'6)=>some (-1:Int)
theorem g_ref_columnAt_ac {cols0:List GColumn} {name1:List UInt8} {r:Int} (H:g_ref_columnAt cols0 name1=some r):ACp Tryz.prog 23 [(GColumn.ls cols0),(AV.txt name1)] (AV.int r):=by
 refine ACp_of (AC2_of_body (vs:=[.i r]) Tryz.func23 Y Y (lb Y) Y ?_) (fun _=>.same _)
 unfold g_ref_columnAt at H
 refine as2 [0,1] [.p (GColumn.ls cols0),.t name1] [] [] Y (sg 1 Y (ra Y (rz [0,1] [_,_] [] [] Y (QS (sg 4 Y (rm Y (rp Y (p_lenl Y U22 Y Y) (rp Y (pb Y Y) (ra Y (rz [0,1,5] [_,_,.i (w64 ((cols0.length:Int) - 1))] [] [] Y (QB (as2 [0,1,5] [_,_,_] [] [] Y (bindK H fun o'4 h4 H=>AW2_loopO (fun a'1:Int=>(⟨[(0,.p (GColumn.ls cols0)),(1,.t name1),(5,.i a'1)],[],21⟩:TS)) (fun (o:Int⊕Unit) e s'=>match o with | .inl y'2=>e=Go.Exit.ret∧ResAll Tryz.prog s' [ResultVar.tmp 4] [.i y'2]∧HFits s' [] | .inr (y'3)=>e=Go.Exit.exit 0∧s'=(⟨[],[],21⟩:TS)) h4 Y (fun i5_0 x hx=>?_) (fun e s' hs=>?_))))))))))))))
 ·clear H
  have H:=hx
  clear hx
  unfold g_ref_columnAt_l0 at H
  refine QS (sg 2 Y (rm Y (rp Y (pb Y Y) (rz [0,1,5,10] [.p (GColumn.ls cols0),.t name1,.i i5_0,.b (decide (i5_0≥0))] [] [] Y (if2 H Y (fun h1 H=>?_) (fun h1 H=>?_))))))
  ·refine as2 [0,1,5] [_,_,_] [] [] Y (QK (QS (QB (sg 7 Y (rm Y (rm Y (chkK H fun h2 H=>rp Y (u_ixl Y Y U22 in_63 Y Y (ixe h2) (ixn h2) (fne GColumn.len (by decide) (ixn h2))) (rp Y (u_far Y Y U63 Y in_9 nz Y) (rp Y (pl U9 Y ((Sub.fm default GColumn.len (ixn h2)).trans (GColumn.sub0 (lrd cols0 i5_0.toNat)))) (rm Y (rp Y (p_seq Y Y Y) (rz [0,1,5,19] [_,_,_,.b (decide ((lrd cols0 i5_0.toNat).Name=name1))] [] [] Y (if2 H Y (fun h3 H=>?_) (fun h3 H=>?_))))))))))))))
   ·refine sg 2 Y (rm Y (ra Y (rz [4] [.i i5_0] [] [] Y (QR ?_))))
    have z:=se H;subst z
    exact ⟨Y,⟨rt,trivial⟩,trivial⟩
   refine as2 [0,1,5] [_,_,_] [] [] Y (QK (ar 3 Y (rm Y (rp Y (pb Y Y) (ra Y (rz [0,1,5] [_,_,.i (w64 (i5_0 - 1))] [] [] Y ?_))))))
   have z:=se H;subst z
   exact ⟨Y,Y⟩
  refine as2 [] [] [] [] Y (AW2_exit (thenQ2_exit ?_))
  have z:=se H;subst z
  exact ⟨Y,Y⟩
 rcases o'4 with y'5 | y'6
 ·obtain ⟨rfl,hs⟩:=hs
  refine ⟨by simp,?_⟩
  have z:=se H;subst z
  exact ⟨hs.1,hs.2⟩
 obtain ⟨rfl,rfl⟩:=hs
 refine ⟨by simp,?_⟩
 refine blockQ2_exit (sg 1 Y (ra Y (rz [4] [.i (-1:Int)] [] [] Y (QR ?_))))
 have z:=se H;subst z
 exact ⟨⟨rt,trivial⟩,trivial⟩
def g_ref_ColumnsFault_r10:List (List (Nat×Option Nat)):=[[(0,none)],[(3,none)],[(46,some 0),(47,some 1)],[(4,none)],[(49,some 3)]]
def g_ref_ColumnsFault_r10c:List (List Nat):=[[],[],[0,1],[],[3],[0,1,2,3,4],[0,1,2,3,4,5],[0,1,2,3,4,5,6]]
noncomputable def g_ref_ColumnsFault_l0 (cols0:List GColumn):Int→Option (Int⊕(Int⊕Unit))
  | t10_0=>(if t10_0 < (cols0.length:Int) then if 0≤t10_0∧t10_0 < (cols0.length:Int) then (g_ref_isName ((lrd cols0 t10_0.toNat).Name)).bind fun r'1=>(if ((!r'1)=true)∨((((lrd cols0 t10_0.toNat).Name).length:Int) > (8:Int)) then some (.inr (.inl (3:Int))) else letO (decide (((((lrd cols0 t10_0.toNat).Kind≠(1:Int))∧((lrd cols0 t10_0.toNat).Kind≠(2:Int)))∧((lrd cols0 t10_0.toNat).Kind≠(3:Int)))∧((lrd cols0 t10_0.toNat).Kind≠(4:Int)))) fun t26'2=>(if t26'2=true then some (.inr (.inl (2:Int))) else if 0≤t10_0∧t10_0≤(cols0.length:Int) then (g_ref_columnAt (cut cols0 (0:Int) t10_0) ((lrd cols0 t10_0.toNat).Name)).bind fun r'3=>(if r'3≥(0:Int) then some (.inr (.inl (8:Int))) else some (.inl (w64 (t10_0+(1:Int))))) else none)) else none else some (.inr (.inr ())))
noncomputable def g_ref_ColumnsFault (cols0:List GColumn):Option (Int) :=
  (if (cols0.length:Int) > (5:Int) then some (1:Int) else (loopO (g_ref_ColumnsFault_l0 cols0) (0:Int)).bind fun o'7=>match o'7 with | .inl y'8=>some y'8 | .inr (y'9)=>some (0:Int))
theorem g_ref_ColumnsFault_ac {cols0:List GColumn} {r:Int} (H:g_ref_ColumnsFault cols0=some r):ACp Tryz.prog 34 [(GColumn.ls cols0)] (AV.int r):=by
 refine ACp_of (AC2_of_body (vs:=[.i r]) Tryz.func34 Y Y (lb Y) Y ?_) (fun _=>.same _)
 unfold g_ref_ColumnsFault at H
 refine as2 [0] [.p (GColumn.ls cols0)] [] [] Y (sg 1 Y (ra Y (rz [0] [_] [] [] Y (QS (sg 3 Y (rm Y (rp Y (p_lenl Y U22 Y Y) (rp Y (pb Y Y) (rz [0,7] [_,.b (decide ((cols0.length:Int) > 5))] [] [] Y (if2 H Y (fun h1 H=>?_) (fun h1 H=>?_)))))))))))
 ·refine sg 1 Y (ra Y (rz [2] [.i 1] [] [] Y (QR ?_)))
  have z:=se H;subst z
  exact ⟨⟨rt,trivial⟩,trivial⟩
 refine as2 [0] [_] [] [] Y (QK (QS (sg 3 Y (rm Y (rp Y (p_lenl Y U22 Y Y) (rm Y (rz [0,8,9,10] [_,.p (GColumn.ls cols0),.i (cols0.length:Int),.i 0] [] [] Y (QB (as2 [0,8,9,10] [_,_,_,_] [] [] Y (bindK H fun o'7 h14 H=>AW2_loopO (fun a'4:Int=>(⟨[(0,.p (GColumn.ls cols0)),(8,.p (GColumn.ls cols0)),(9,.i (cols0.length:Int)),(10,.i a'4)],[],54⟩:TS)) (fun (o:Int⊕Unit) e s'=>match o with | .inl y'5=>e=Go.Exit.ret∧ResAll Tryz.prog s' [ResultVar.tmp 2] [.i y'5]∧HFits s' [] | .inr (y'6)=>e=Go.Exit.exit 0∧s'=(⟨[],[],54⟩:TS)) h14 Y (fun t10_0 x hx=>?_) (fun e s' hs=>?_)))))))))))
 ·clear H
  have H:=hx
  clear hx
  unfold g_ref_ColumnsFault_l0 at H
  refine sg 1 Y (rp Y (pb Y Y) (rz [0,8,9,10,11] [.p (GColumn.ls cols0),.p (GColumn.ls cols0),.i (cols0.length:Int),.i t10_0,.b (decide (t10_0 < (cols0.length:Int)))] [] [] Y (QS (if2 H Y (fun h2 H=>?_) (fun h2 H=>?_)))))
  ·refine as2 [0,8,9,10] [_,_,_,_] [] [] Y (QK (QS (QB (sg 6 Y (rm Y (chkK H fun h3 H=>rp Y (u_ixl Y Y U22 in_63 Y Y (ixe h3) (ixn h3) (fne GColumn.len (by decide) (ixn h3))) (rp Y (pL U63 Y in_63 (Sub.fm default GColumn.len (ixn h3)) (GColumn.len (lrd cols0 t10_0.toNat))) (rq Y (al 4 in_63 one_63 zc_63 Y) (ra Y (rq Y (u_sw Y Y in_63 (GColumn.len (lrd cols0 t10_0.toNat)) (GColumn.len GColumn.zero)) (rz [0,3,4,8,9,10] [_,.i t10_0,.q 4 (0),_,_,_] [4] [.pure (GColumn.cs (lrd cols0 t10_0.toNat))] Y (QB (QS (bindK H fun r'1 h4 H=>AW2_mid (⟨[(0,.p (GColumn.ls cols0)),(3,.i t10_0),(4,.q 4 (0)),(8,.p (GColumn.ls cols0)),(9,.i (cols0.length:Int)),(10,.i t10_0),(15,.b (decide (((!r'1)=true)∨((((lrd cols0 t10_0.toNat).Name).length:Int) > 8))))],[(4,.pure (GColumn.cs (lrd cols0 t10_0.toNat)))],54⟩:TS) ?_ ?_))))))))))))))
   ·refine ar 11 Y (rf Y U63 Y in_9 Y Y (GColumn.len (lrd cols0 t10_0.toNat)) (rp Y (pl U9 Y (GColumn.sub0 (lrd cols0 t10_0.toNat))) (rp Y (pc Y Tryz.func46 Y (g_ref_isName_ac h4) Y) (rp Y (p_not Y Y) (rm Y ?_)))))
    refine (Classical.em ((!r'1)=true)).elim (fun h5=>?_) (fun h5=>?_)
    ·exact rO Y h5 Y (rO Y h5 Y (rO Y h5 Y (rO Y h5 Y (rp Y (p_pkt Y Y h5 (tb (dT (p:=((!r'1)=true)∨((((lrd cols0 t10_0.toNat).Name).length:Int) > 8)) (Or.inl h5)).symm)) (ra Y (rend Y Y))))))
    exact rn Y (bfalse h5) Y (uf U63 Y in_9 Y (GColumn.len (lrd cols0 t10_0.toNat))) (rn Y (bfalse h5) Y (pl U9 Y (GColumn.sub0 (lrd cols0 t10_0.toNat))) (rn Y (bfalse h5) Y (p_lent Y U9 Y) (rn Y (bfalse h5) Y (pb Y Y) (rp Y (p_pkf Y Y (bfalse h5) (tb ((or_l (q:=(((lrd cols0 t10_0.toNat).Name).length:Int) > 8) h5)))) (ra Y (rend Y Y))))))
   refine if2 H Y (fun h6 H=>?_) (fun h6 H=>?_)
   ·refine sg 1 Y (ra Y (rz [2] [.i 3] [] [] Y (QR ?_)))
    have z:=se H;subst z
    exact ⟨Y,⟨rt,trivial⟩,trivial⟩
   refine QS (AW2_mid (⟨[(0,.p (GColumn.ls cols0)),(3,.i t10_0),(4,.q 4 (0)),(8,.p (GColumn.ls cols0)),(9,.i (cols0.length:Int)),(10,.i t10_0),(26,.b (decide (((((lrd cols0 t10_0.toNat).Kind≠1)∧((lrd cols0 t10_0.toNat).Kind≠2))∧((lrd cols0 t10_0.toNat).Kind≠3))∧((lrd cols0 t10_0.toNat).Kind≠4))))],[(4,.pure (GColumn.cs (lrd cols0 t10_0.toNat)))],54⟩:TS) ?_ ?_)
   ·refine ar 19 Y (rf Y U63 Y in_3 Y Y (GColumn.len (lrd cols0 t10_0.toNat)) (rp Y (pl U3 Y (GColumn.sub1 (lrd cols0 t10_0.toNat))) (rp Y (pn Y) (rm Y ?_))))
    refine (Classical.em ((lrd cols0 t10_0.toNat).Kind≠1)).elim (fun h7=>?_) (fun h7=>?_)
    ·refine rn Y (dT h7) Y (uf U63 Y in_3 Y (GColumn.len (lrd cols0 t10_0.toNat))) (rn Y (dT h7) Y (pl U3 Y (GColumn.sub1 (lrd cols0 t10_0.toNat))) (rn Y (dT h7) Y (pn Y) (rp Y (p_pkt Y Y (dT h7) (tb ((and_l (q:=(lrd cols0 t10_0.toNat).Kind≠2) h7)))) (rm Y ?_))))
     refine (Classical.em ((lrd cols0 t10_0.toNat).Kind≠2)).elim (fun h8=>?_) (fun h8=>?_)
     ·refine rn Y (dT (p:=((lrd cols0 t10_0.toNat).Kind≠1)∧((lrd cols0 t10_0.toNat).Kind≠2)) ⟨h7,h8⟩) Y (uf U63 Y in_3 Y (GColumn.len (lrd cols0 t10_0.toNat))) (rn Y (dT (p:=((lrd cols0 t10_0.toNat).Kind≠1)∧((lrd cols0 t10_0.toNat).Kind≠2)) ⟨h7,h8⟩) Y (pl U3 Y (GColumn.sub1 (lrd cols0 t10_0.toNat))) (rn Y (dT (p:=((lrd cols0 t10_0.toNat).Kind≠1)∧((lrd cols0 t10_0.toNat).Kind≠2)) ⟨h7,h8⟩) Y (pn Y) (rp Y (p_pkt Y Y (dT (p:=((lrd cols0 t10_0.toNat).Kind≠1)∧((lrd cols0 t10_0.toNat).Kind≠2)) ⟨h7,h8⟩) (tb ((and_l (p:=((lrd cols0 t10_0.toNat).Kind≠1)∧((lrd cols0 t10_0.toNat).Kind≠2)) (q:=(lrd cols0 t10_0.toNat).Kind≠3) ⟨h7,h8⟩)))) (rm Y ?_))))
      refine (Classical.em ((lrd cols0 t10_0.toNat).Kind≠3)).elim (fun h9=>?_) (fun h9=>?_)
      ·exact rn Y (dT (p:=(((lrd cols0 t10_0.toNat).Kind≠1)∧((lrd cols0 t10_0.toNat).Kind≠2))∧((lrd cols0 t10_0.toNat).Kind≠3)) ⟨⟨h7,h8⟩,h9⟩) Y (uf U63 Y in_3 Y (GColumn.len (lrd cols0 t10_0.toNat))) (rn Y (dT (p:=(((lrd cols0 t10_0.toNat).Kind≠1)∧((lrd cols0 t10_0.toNat).Kind≠2))∧((lrd cols0 t10_0.toNat).Kind≠3)) ⟨⟨h7,h8⟩,h9⟩) Y (pl U3 Y (GColumn.sub1 (lrd cols0 t10_0.toNat))) (rn Y (dT (p:=(((lrd cols0 t10_0.toNat).Kind≠1)∧((lrd cols0 t10_0.toNat).Kind≠2))∧((lrd cols0 t10_0.toNat).Kind≠3)) ⟨⟨h7,h8⟩,h9⟩) Y (pn Y) (rp Y (p_pkt Y Y (dT (p:=(((lrd cols0 t10_0.toNat).Kind≠1)∧((lrd cols0 t10_0.toNat).Kind≠2))∧((lrd cols0 t10_0.toNat).Kind≠3)) ⟨⟨h7,h8⟩,h9⟩) (tb ((and_l (p:=(((lrd cols0 t10_0.toNat).Kind≠1)∧((lrd cols0 t10_0.toNat).Kind≠2))∧((lrd cols0 t10_0.toNat).Kind≠3)) (q:=(lrd cols0 t10_0.toNat).Kind≠4) ⟨⟨h7,h8⟩,h9⟩)))) (ra Y (rend Y Y)))))
      exact rO Y (dF (p:=(((lrd cols0 t10_0.toNat).Kind≠1)∧((lrd cols0 t10_0.toNat).Kind≠2))∧((lrd cols0 t10_0.toNat).Kind≠3)) (fun h=>h9 h.2)) Y (rO Y (dF (p:=(((lrd cols0 t10_0.toNat).Kind≠1)∧((lrd cols0 t10_0.toNat).Kind≠2))∧((lrd cols0 t10_0.toNat).Kind≠3)) (fun h=>h9 h.2)) Y (rO Y (dF (p:=(((lrd cols0 t10_0.toNat).Kind≠1)∧((lrd cols0 t10_0.toNat).Kind≠2))∧((lrd cols0 t10_0.toNat).Kind≠3)) (fun h=>h9 h.2)) Y (rp Y (p_pkf Y Y (dF (p:=(((lrd cols0 t10_0.toNat).Kind≠1)∧((lrd cols0 t10_0.toNat).Kind≠2))∧((lrd cols0 t10_0.toNat).Kind≠3)) (fun h=>h9 h.2)) (tb (dF (p:=((((lrd cols0 t10_0.toNat).Kind≠1)∧((lrd cols0 t10_0.toNat).Kind≠2))∧((lrd cols0 t10_0.toNat).Kind≠3))∧((lrd cols0 t10_0.toNat).Kind≠4)) (fun x=>(fun h=>h9 h.2) x.1)).symm)) (ra Y (rend Y Y)))))
     exact rO Y (dF (p:=((lrd cols0 t10_0.toNat).Kind≠1)∧((lrd cols0 t10_0.toNat).Kind≠2)) (fun h=>h8 h.2)) Y (rO Y (dF (p:=((lrd cols0 t10_0.toNat).Kind≠1)∧((lrd cols0 t10_0.toNat).Kind≠2)) (fun h=>h8 h.2)) Y (rO Y (dF (p:=((lrd cols0 t10_0.toNat).Kind≠1)∧((lrd cols0 t10_0.toNat).Kind≠2)) (fun h=>h8 h.2)) Y (rp Y (p_pkf Y Y (dF (p:=((lrd cols0 t10_0.toNat).Kind≠1)∧((lrd cols0 t10_0.toNat).Kind≠2)) (fun h=>h8 h.2)) (tb (dF (p:=(((lrd cols0 t10_0.toNat).Kind≠1)∧((lrd cols0 t10_0.toNat).Kind≠2))∧((lrd cols0 t10_0.toNat).Kind≠3)) (fun x=>(fun h=>h8 h.2) x.1)).symm)) (rm Y (rO Y (dF (p:=(((lrd cols0 t10_0.toNat).Kind≠1)∧((lrd cols0 t10_0.toNat).Kind≠2))∧((lrd cols0 t10_0.toNat).Kind≠3)) (fun h=>(fun h=>h8 h.2) h.1)) Y (rO Y (dF (p:=(((lrd cols0 t10_0.toNat).Kind≠1)∧((lrd cols0 t10_0.toNat).Kind≠2))∧((lrd cols0 t10_0.toNat).Kind≠3)) (fun h=>(fun h=>h8 h.2) h.1)) Y (rO Y (dF (p:=(((lrd cols0 t10_0.toNat).Kind≠1)∧((lrd cols0 t10_0.toNat).Kind≠2))∧((lrd cols0 t10_0.toNat).Kind≠3)) (fun h=>(fun h=>h8 h.2) h.1)) Y (rp Y (p_pkf Y Y (dF (p:=(((lrd cols0 t10_0.toNat).Kind≠1)∧((lrd cols0 t10_0.toNat).Kind≠2))∧((lrd cols0 t10_0.toNat).Kind≠3)) (fun h=>(fun h=>h8 h.2) h.1)) (tb (dF (p:=((((lrd cols0 t10_0.toNat).Kind≠1)∧((lrd cols0 t10_0.toNat).Kind≠2))∧((lrd cols0 t10_0.toNat).Kind≠3))∧((lrd cols0 t10_0.toNat).Kind≠4)) (fun x=>(fun h=>(fun h=>h8 h.2) h.1) x.1)).symm)) (ra Y (rend Y Y))))))))))
    exact rO Y (dF h7) Y (rO Y (dF h7) Y (rO Y (dF h7) Y (rp Y (p_pkf Y Y (dF h7) (tb (dF (p:=((lrd cols0 t10_0.toNat).Kind≠1)∧((lrd cols0 t10_0.toNat).Kind≠2)) (fun x=>h7 x.1)).symm)) (rm Y (rO Y (dF (p:=((lrd cols0 t10_0.toNat).Kind≠1)∧((lrd cols0 t10_0.toNat).Kind≠2)) (fun h=>h7 h.1)) Y (rO Y (dF (p:=((lrd cols0 t10_0.toNat).Kind≠1)∧((lrd cols0 t10_0.toNat).Kind≠2)) (fun h=>h7 h.1)) Y (rO Y (dF (p:=((lrd cols0 t10_0.toNat).Kind≠1)∧((lrd cols0 t10_0.toNat).Kind≠2)) (fun h=>h7 h.1)) Y (rp Y (p_pkf Y Y (dF (p:=((lrd cols0 t10_0.toNat).Kind≠1)∧((lrd cols0 t10_0.toNat).Kind≠2)) (fun h=>h7 h.1)) (tb (dF (p:=(((lrd cols0 t10_0.toNat).Kind≠1)∧((lrd cols0 t10_0.toNat).Kind≠2))∧((lrd cols0 t10_0.toNat).Kind≠3)) (fun x=>(fun h=>h7 h.1) x.1)).symm)) (rm Y (rO Y (dF (p:=(((lrd cols0 t10_0.toNat).Kind≠1)∧((lrd cols0 t10_0.toNat).Kind≠2))∧((lrd cols0 t10_0.toNat).Kind≠3)) (fun h=>(fun h=>h7 h.1) h.1)) Y (rO Y (dF (p:=(((lrd cols0 t10_0.toNat).Kind≠1)∧((lrd cols0 t10_0.toNat).Kind≠2))∧((lrd cols0 t10_0.toNat).Kind≠3)) (fun h=>(fun h=>h7 h.1) h.1)) Y (rO Y (dF (p:=(((lrd cols0 t10_0.toNat).Kind≠1)∧((lrd cols0 t10_0.toNat).Kind≠2))∧((lrd cols0 t10_0.toNat).Kind≠3)) (fun h=>(fun h=>h7 h.1) h.1)) Y (rp Y (p_pkf Y Y (dF (p:=(((lrd cols0 t10_0.toNat).Kind≠1)∧((lrd cols0 t10_0.toNat).Kind≠2))∧((lrd cols0 t10_0.toNat).Kind≠3)) (fun h=>(fun h=>h7 h.1) h.1)) (tb (dF (p:=((((lrd cols0 t10_0.toNat).Kind≠1)∧((lrd cols0 t10_0.toNat).Kind≠2))∧((lrd cols0 t10_0.toNat).Kind≠3))∧((lrd cols0 t10_0.toNat).Kind≠4)) (fun x=>(fun h=>(fun h=>h7 h.1) h.1) x.1)).symm)) (ra Y (rend Y Y)))))))))))))))
   refine gen1 (fun t26'2=>(⟨[(0,.p (GColumn.ls cols0)),(3,.i t10_0),(4,.q 4 (0)),(8,.p (GColumn.ls cols0)),(9,.i (cols0.length:Int)),(10,.i t10_0),(26,.b t26'2)],[(4,.pure (GColumn.cs (lrd cols0 t10_0.toNat)))],54⟩:TS)) H ?_
   intro t26'2 H
   refine AW2_cond Y (fun h10=>?_) (fun h10=>?_)
   ·replace H:=ite_then h10 H
    refine sg 1 Y (ra Y (rz [2] [.i 2] [] [] Y (QR ?_)))
    have z:=se H;subst z
    exact ⟨Y,⟨rt,trivial⟩,trivial⟩
   replace H:=ite_else (ne_true h10) H
   refine QS (chkK H fun h11 H=>bindK H fun r'3 h12 H=>AW2_ghoQ (AW2_draw 5 [5,6,7] (fun k=>([.p (GColumn.ls cols0),.i t10_0,.p (GColumn.ls (cut cols0 0 t10_0)),.q 4 (0+0),.t ((lrd cols0 t10_0.toNat).Name)]:List TV).getD k TV.any) (fun k=>g_ref_ColumnsFault_r10.getD k []) [(0,none),(8,none),(9,none),(10,none),(48,some 2),(50,some 4)] [] (fun k=>g_ref_ColumnsFault_r10c.getD k []) mixed (by kernel_rfl) Y Y (a_op (g_x Y (x_p Y (p_move Y Y) Y)) (a_op (g_x Y (x_p Y (p_move Y Y) Y)) (a_op (g_x Y (x_p Y (u_cutl (g:=(fun l=>l.flatMap GColumn.cs)) (a:=0) (b:=t10_0) Y Y U22 in_63 Y bT_zero (bT_i (Int.le_trans (show 0≤(0:Int)∧0≤t10_0∧t10_0≤(cols0.length:Int) from ⟨Int.le_refl _,h11.1,h11.2⟩).1 (show 0≤(0:Int)∧0≤t10_0∧t10_0≤(cols0.length:Int) from ⟨Int.le_refl _,h11.1,h11.2⟩).2.1) Y) (.inl Y) (show 0≤(0:Int)∧0≤t10_0∧t10_0≤(cols0.length:Int) from ⟨Int.le_refl _,h11.1,h11.2⟩) (g_fm GColumn.len)) Y)) (a_op (g_x Y (x_p Y (uf U63 Y in_9 Y (GColumn.len (lrd cols0 t10_0.toNat))) Y)) (a_op (g_x Y (x_p Y (pl U9 Y (GColumn.sub0 (lrd cols0 t10_0.toNat))) Y)) (a_nil)))))) (t_op Y Y (PureD.opD (pc Y Tryz.func23 Y (g_ref_columnAt_ac h12) Y)) (t_op Y Y (PureD.opD (pb Y Y)) (t_op Y Y (PureD.opD (p_asg Y Y)) (t_gho (Gho_st (L:=[(0,.p (GColumn.ls cols0)),(8,.p (GColumn.ls cols0)),(9,.i (cols0.length:Int)),(10,.i t10_0),(45,.b (decide (r'3≥0)))]) (H:=[]) (N:=54) Y ⟨TLes.same _,TLes.same _,TLes.same _,TLes.same _,TLes.same _,trivial⟩ trivial) (if2 H Y (fun h13 H=>?_) (fun h13 H=>?_))))))))
   ·refine sg 1 Y (ra Y (rz [2] [.i 8] [] [] Y (QR ?_)))
    have z:=se H;subst z
    exact ⟨Y,⟨rt,trivial⟩,trivial⟩
   refine as2 [0,8,9,10] [.p (GColumn.ls cols0),.p (GColumn.ls cols0),.i (cols0.length:Int),.i t10_0] [] [] Y (QK (ar 2 Y (rp Y (pb Y Y) (rm Y (rz [0,8,9,10] [_,_,_,.i (w64 (t10_0+1))] [] [] Y ?_)))))
   have z:=se H;subst z
   exact ⟨Y,Y⟩
  refine as2 [] [] [] [] Y (AW2_exit (thenQ2_exit ?_))
  have z:=se H;subst z
  exact ⟨Y,Y⟩
 rcases o'7 with y'8 | y'9
 ·obtain ⟨rfl,hs⟩:=hs
  refine ⟨by simp,?_⟩
  have z:=se H;subst z
  exact ⟨hs.1,hs.2⟩
 obtain ⟨rfl,rfl⟩:=hs
 refine ⟨by simp,?_⟩
 refine blockQ2_exit (sg 1 Y (ra Y (rz [2] [.i 0] [] [] Y (QR ?_))))
 have z:=se H;subst z
 exact ⟨⟨rt,trivial⟩,trivial⟩
noncomputable def g_ref_badReal (b0:UInt64):Option (Bool) :=
  some (decide ((b0=(9223372036854775808:UInt64))∨((18437736874454810624:UInt64) < shl_u64 b0 1)))
theorem g_ref_badReal_ac {b0:UInt64} {r:Bool} (H:g_ref_badReal b0=some r):ACp Tryz.prog 72 [(AV.u64 b0)] (AV.bool r):=by
 refine ACp_of (AC2_of_body (vs:=[.b r]) Tryz.func72 Y Y (lb Y) Y ?_) (fun _=>.same _)
 unfold g_ref_badReal at H
 refine as2 [0] [.p (AV.u64 b0)] [] [] Y (sg 1 Y (ra Y (rz [0] [_] [] [] Y (QS (AW2_mid (⟨[(2,.b (decide ((b0=(9223372036854775808:UInt64))∨((18437736874454810624:UInt64) < shl_u64 b0 1))))],[],10⟩:TS) ?_ ?_)))))
 ·refine ar 8 Y (rm Y (rp Y (p_u64eq (a:=b0) (b:=(9223372036854775808:UInt64)) Y Y Y) (rm Y ?_)))
  refine (Classical.em (b0=(9223372036854775808:UInt64))).elim (fun h1=>?_) (fun h1=>?_)
  ·exact rO Y (dT h1) Y (rO Y (dT h1) Y (rO Y (dT h1) Y (rp Y (p_pkt Y Y (dT h1) (tb (dT (p:=(b0=(9223372036854775808:UInt64))∨((18437736874454810624:UInt64) < shl_u64 b0 1)) (Or.inl h1)).symm)) (ra Y (rend Y Y)))))
  exact rn Y (dF h1) Y (p_move Y Y) (rn Y (dF h1) Y (p_u64shl (n:=1) Y Y Y Y) (rn Y (dF h1) Y (p_u64gt (a:=shl_u64 b0 1) (b:=(18437736874454810624:UInt64)) Y Y Y) (rp Y (p_pkf Y Y (dF h1) (tb ((or_l (q:=(18437736874454810624:UInt64) < shl_u64 b0 1) h1)))) (ra Y (rend Y Y)))))
 refine QR ?_
 have z:=se H;subst z
 exact ⟨⟨rt,trivial⟩,trivial⟩
noncomputable def g_ref_ValueFault (v0:GValue):Option (Int) :=
  (show Option (Int⊕GValue) from (if v0.Kind=(0:Int) then some (.inr ({ GValue.zero with Kind:=v0.Kind })) else ((if v0.Kind=(1:Int) then some (decide (v0.Kind=(1:Int))) else some (decide (v0.Kind=(2:Int))))).bind fun j'2=>(if j'2=true then some (.inr ({ { GValue.zero with Kind:=v0.Kind } with Int_:=v0.Int_ })) else (if v0.Kind=(3:Int) then some (.inr ({ { GValue.zero with Kind:=v0.Kind } with Bits:=v0.Bits })) else (if v0.Kind=(4:Int) then some (.inr ({ { GValue.zero with Kind:=v0.Kind } with Text:=v0.Text })) else some (.inl (2:Int))))))).bind fun o'12=>match o'12 with | .inl y'3=>some y'3 | .inr j'1=>(if (v0.Text.length:Int) > (40:Int) then some (1:Int) else ((if v0≠j'1 then some true else (if v0.Kind=(1:Int) then (if (1:UInt64) < UInt64.ofInt v0.Int_ then some true else (if v0.Kind=(3:Int) then (g_ref_badReal v0.Bits).bind fun r'5=>(if r'5=true then some true else (g_utf8_ValidString v0.Text).bind fun r'6=>some (!r'6)) else (g_utf8_ValidString v0.Text).bind fun r'7=>some (!r'7))) else (if v0.Kind=(3:Int) then (g_ref_badReal v0.Bits).bind fun r'8=>(if r'8=true then some true else (g_utf8_ValidString v0.Text).bind fun r'9=>some (!r'9)) else (g_utf8_ValidString v0.Text).bind fun r'10=>some (!r'10))))).bind fun g'11=>(if g'11=true then some (3:Int) else some (0:Int)))
theorem g_ref_ValueFault_ac {v0:GValue} {r:Int} (H:g_ref_ValueFault v0=some r):ACp Tryz.prog 49 [(.agg (GValue.cs v0))] (AV.int r):=by
 refine ACp_of (AC2_of_body (vs:=[.i r]) Tryz.func49 Y Y (lb Y) Y ?_) (fun _=>.same _)
 unfold g_ref_ValueFault at H
 refine as2 [0] [.g (GValue.cs v0)] [] [] Y (sg 2 Y (rq Y (bx 1 Y) (ra Y (rz [1] [.q 1 (0)] [1] [.pure (GValue.cs v0)] Y (sg 5 Y (rf Y U32 Y in_3 Y Y (GValue.len v0) (rp Y (pl U3 Y (GValue.sub0 v0)) (rp Y (u_bld Y in_32 one_32 zc_32 pl_32 Y (af_cons Y Y (GValue.upd0 GValue.zero v0.Kind) Y)) (rq Y (al 3 in_32 one_32 zc_32 Y) (rq Y (u_sw Y Y in_32 (GValue.len ((GValue.w0 GValue.zero v0.Kind))) (GValue.len GValue.zero)) (rz [1,3] [_,.q 3 (0)] [1,3] [_,.pure (GValue.cs ((GValue.w0 GValue.zero v0.Kind)))] Y (QS (bindK H fun o'12 h1 H=>AW2_join (fun j'1:GValue=>(⟨[(1,.q 1 (0)),(3,.q 3 (0))],[(1,.pure (GValue.cs v0)),(3,.pure (GValue.cs j'1))],61⟩:TS)) (fun r e s'=>e=Go.Exit.ret∧ResAll Tryz.prog s' [ResultVar.tmp 2] [.i r]∧HFits s' []) (x:=o'12) ?_ (fun j'1 hy=>?_) (fun y'3 e s' hy hs=>?_))))))))))))))
 ·clear H
  have H:=h1
  clear h1
  refine sg 2 Y (rf Y U32 Y in_3 Y Y (GValue.len v0) (rp Y (pl U3 Y (GValue.sub0 v0)) (rz [1,3,8] [.q 1 (0),.q 3 (0),.i v0.Kind] [1,3] [.pure (GValue.cs v0),.pure (GValue.cs ((GValue.w0 GValue.zero v0.Kind)))] Y (QB (sg 2 Y (rp Y (pi Y) (ra Y (rz [1,3,8,9] [_,_,_,.b (decide (v0.Kind=0))] [1,3] [_,_] Y (if2 H Y (fun h2 H=>?_) (fun h2 H=>?_))))))))))
  ·refine as2 [1,3] [_,_] [1,3] [_,_] Y (QK ?_)
   have z:=se H;subst z
   exact ⟨Y,Y⟩
  refine QS (bindK H fun j'2 h3 H=>AW2_mid (⟨[(1,.q 1 (0)),(3,.q 3 (0)),(8,.i v0.Kind),(11,.b j'2)],[(1,.pure (GValue.cs v0)),(3,.pure (GValue.cs ((GValue.w0 GValue.zero v0.Kind))))],61⟩:TS) ?_ ?_)
  ·clear H
   have H:=h3
   clear h3
   refine sg 2 Y (rp Y (pi Y) (ra Y (rz [1,3,8,11] [.q 1 (0),.q 3 (0),.i v0.Kind,.b (decide (v0.Kind=1))] [1,3] [.pure (GValue.cs v0),.pure (GValue.cs ((GValue.w0 GValue.zero v0.Kind)))] Y (if2 H Y (fun h4 H=>?_) (fun h4 H=>?_)))))
   ·refine QK ?_
    have z:=se H;subst z
    exact rfl
   refine ar 2 Y (rp Y (pi Y) (ra Y (rz [1,3,8,11] [_,_,_,.b (decide (v0.Kind=2))] [1,3] [_,_] Y ?_)))
   have z:=se H;subst z
   exact rfl
  refine AW2_cond Y (fun h5=>?_) (fun h5=>?_)
  ·replace H:=ite_then h5 H
   refine ar 4 Y (rf Y U32 Y in_3 Y Y (GValue.len v0) (rp Y (pl U3 Y (GValue.sub1 v0)) (rf Y U32 Y in_3 Y Y (GValue.len ((GValue.w0 GValue.zero v0.Kind))) (rq Y (u_st Y Y Y Y Y in_3 Y (nl (GValue.len ((GValue.w0 GValue.zero v0.Kind)))) (Upd.trans (Sub.refl _) (GValue.upd1 ((GValue.w0 GValue.zero v0.Kind)) v0.Int_) (Upd.refl ((GValue.len ((GValue.w1 (GValue.w0 GValue.zero v0.Kind) v0.Int_))).trans (GValue.len ((GValue.w0 GValue.zero v0.Kind))).symm)))) (rz [1,3] [.q 1 (0),.q 3 (0)] [1,3] [.pure (GValue.cs v0),.pure (GValue.cs ((GValue.w1 (GValue.w0 GValue.zero v0.Kind) v0.Int_)))] Y ?_)))))
   have z:=se H;subst z
   exact ⟨Y,Y⟩
  replace H:=ite_else (ne_true h5) H
  refine sg 2 Y (rp Y (pi Y) (ra Y (rz [1,3,8,17] [.q 1 (0),.q 3 (0),.i v0.Kind,.b (decide (v0.Kind=3))] [1,3] [.pure (GValue.cs v0),.pure (GValue.cs ((GValue.w0 GValue.zero v0.Kind)))] Y (if2 H Y (fun h6 H=>?_) (fun h6 H=>?_)))))
  ·refine ar 4 Y (rf Y U32 Y in_30 Y Y (GValue.len v0) (rp Y (pl U30 Y (GValue.sub2 v0)) (rf Y U32 Y in_30 Y Y (GValue.len ((GValue.w0 GValue.zero v0.Kind))) (rq Y (u_st Y Y Y Y Y in_30 Y (nl (GValue.len ((GValue.w0 GValue.zero v0.Kind)))) (Upd.trans (Sub.refl _) (GValue.upd2 ((GValue.w0 GValue.zero v0.Kind)) v0.Bits) (Upd.refl ((GValue.len ((GValue.w2 (GValue.w0 GValue.zero v0.Kind) v0.Bits))).trans (GValue.len ((GValue.w0 GValue.zero v0.Kind))).symm)))) (rz [1,3] [_,_] [1,3] [_,.pure (GValue.cs ((GValue.w2 (GValue.w0 GValue.zero v0.Kind) v0.Bits)))] Y ?_)))))
   have z:=se H;subst z
   exact ⟨Y,Y⟩
  refine sg 2 Y (rp Y (pi Y) (ra Y (rz [1,3,22] [_,_,.b (decide (v0.Kind=4))] [1,3] [_,_] Y (if2 H Y (fun h7 H=>?_) (fun h7 H=>?_)))))
  ·refine ar 4 Y (rf Y U32 Y in_9 Y Y (GValue.len v0) (rp Y (pl U9 Y (GValue.sub3 v0)) (rf Y U32 Y in_9 Y Y (GValue.len ((GValue.w0 GValue.zero v0.Kind))) (rq Y (u_st Y Y Y Y Y in_9 Y (nl (GValue.len ((GValue.w0 GValue.zero v0.Kind)))) (Upd.trans (Sub.refl _) (GValue.upd3 ((GValue.w0 GValue.zero v0.Kind)) v0.Text) (Upd.refl ((GValue.len ((GValue.w3 (GValue.w0 GValue.zero v0.Kind) v0.Text))).trans (GValue.len ((GValue.w0 GValue.zero v0.Kind))).symm)))) (rz [1,3] [_,_] [1,3] [_,.pure (GValue.cs ((GValue.w3 (GValue.w0 GValue.zero v0.Kind) v0.Text)))] Y ?_)))))
   have z:=se H;subst z
   exact ⟨Y,Y⟩
  refine sg 1 Y (ra Y (rz [2] [.i 2] [] [] Y (QR ?_)))
  have z:=se H;subst z
  exact ⟨Y,⟨rt,trivial⟩,trivial⟩
 ·subst hy
  refine QS (sg 4 Y (rf Y U32 Y in_9 Y Y (GValue.len v0) (rp Y (pl U9 Y (GValue.sub3 v0)) (rp Y (p_lent Y U9 Y) (rp Y (pb Y Y) (rz [1,3,30] [.q 1 (0),.q 3 (0),.b (decide ((v0.Text.length:Int) > 40))] [1,3] [.pure (GValue.cs v0),.pure (GValue.cs j'1)] Y (if2 H Y (fun h8 H=>?_) (fun h8 H=>?_))))))))
  ·refine sg 1 Y (ra Y (rz [2] [.i 1] [] [] Y (QR ?_)))
   have z:=se H;subst z
   exact ⟨⟨rt,trivial⟩,trivial⟩
  refine as2 [1,3] [_,_] [1,3] [_,_] Y (QK (QS (QS (bindK H fun g'11 h23 H=>AW2_mid (⟨[(60,.b g'11)],[],61⟩:TS) ?_ ?_))))
  ·clear H
   have H:=h23
   clear h23
   refine ar 30 Y (rp Y (pL U32 Y in_32 (Sub.refl _) (GValue.len v0)) (rp Y (pL U32 Y in_32 (Sub.refl _) (GValue.len j'1)) (rp Y (p_nea (a:=v0) (b:=j'1) Y eq_32 Y (by kernel_rfl) Y Y) (rm Y (em2 H (fun h10 H=>?_) (fun h10 H=>?_))))))
   ·refine rO Y (dT h10) Y (rO Y (dT h10) Y (rO Y (dT h10) Y (rO Y (dT h10) Y (r_off2 Y Y Y Y Y Y (r_off2 Y Y Y Y Y Y (r_off2 Y Y Y Y Y Y (r_off2 Y Y Y Y Y Y (rO Y (dT h10) Y (rp Y (p_pkt Y Y (dT h10) (.same _)) (rm Y (rO Y Y Y (rO Y Y Y (rO Y Y Y (rO Y Y Y (r_off2 Y Y Y Y Y Y (r_off2 Y Y Y Y Y Y (r_off2 Y Y Y Y Y Y (rO Y Y Y (rp Y (p_pkt Y Y Y (.same _)) (rm Y (rO Y Y Y (rO Y Y Y (rO Y Y Y ?_)))))))))))))))))))))))
    refine rO Y Y Y (rp Y (p_pkt Y Y Y (.same _)) (rs [60] [.b true] [] [] Y ?_))
    have z:=se H;subst z
    exact RunW_nil rfl
   refine rn Y (dF h10) Y (uf U32 Y in_3 Y (GValue.len v0)) (rn Y (dF h10) Y (pl U3 Y (GValue.sub0 v0)) (rn Y (dF h10) Y (pi Y) (rn Y (dF h10) Y (p_move Y Y) (em2 H (fun h11 H=>?_) (fun h11 H=>?_)))))
   ·refine rn Y (dT h11) Y (uf U32 Y in_3 Y (GValue.len v0)) (rn Y (dT h11) Y (pl U3 Y (GValue.sub1 v0)) (rn Y (dT h11) Y (p_i_u64 Y U3 U119 Y) (rn Y (dT h11) Y (p_u64gt (a:=UInt64.ofInt v0.Int_) (b:=(1:UInt64)) Y Y Y) (rn Y (dF h10) Y (p_pkt Y Y (dT h11) (.same _)) (rp Y (p_pkf Y Y (dF h10) (.same _)) (rm Y (em2 H (fun h12 H=>?_) (fun h12 H=>?_))))))))
    ·refine rO Y (dT h12) Y (rO Y (dT h12) Y (rO Y (dT h12) Y (rO Y (dT h12) Y (r_off2 Y Y Y Y Y Y (r_off2 Y Y Y Y Y Y (r_off2 Y Y Y Y Y Y (rO Y (dT h12) Y (rp Y (p_pkt Y Y (dT h12) (.same _)) (rm Y (rO Y Y Y (rO Y Y Y (rO Y Y Y (rO Y Y Y (rp Y (p_pkt Y Y Y (.same _)) (rs [60] [.b true] [] [] Y ?_)))))))))))))))
     have z:=se H;subst z
     exact RunW_nil rfl
    refine rn Y (dF h12) Y (uf U32 Y in_3 Y (GValue.len v0)) (rn Y (dF h12) Y (pl U3 Y (GValue.sub0 v0)) (rn Y (dF h12) Y (pi Y) (rn Y (dF h12) Y (p_move Y Y) (em2 H (fun h13 H=>?_) (fun h13 H=>?_)))))
    ·refine rn Y (dT h13) Y (uf U32 Y in_30 Y (GValue.len v0)) (rn Y (dT h13) Y (pl U30 Y (GValue.sub2 v0)) (bindK H fun r'5 h14 H=>rn Y (dT h13) Y (pc Y Tryz.func72 Y (g_ref_badReal_ac h14) Y) (rn Y (dF h12) Y (p_pkt Y Y (dT h13) (.same _)) (rp Y (p_pkf Y Y (dF h12) (.same _)) (rm Y (em2 H (fun h15 H=>?_) (fun h15 H=>?_)))))))
     ·refine rO Y h15 Y (rO Y h15 Y (rO Y h15 Y (rO Y h15 Y (rp Y (p_pkt Y Y h15 (.same _)) (rs [60] [.b true] [] [] Y ?_)))))
      have z:=se H;subst z
      exact RunW_nil rfl
     refine rn Y (bfalse h15) Y (uf U32 Y in_9 Y (GValue.len v0)) (rn Y (bfalse h15) Y (pl U9 Y (GValue.sub3 v0)) (bindK H fun r'6 h16 H=>rn Y (bfalse h15) Y (pc Y Tryz.func62 Y (g_utf8_ValidString_ac h16) Y) (rn Y (bfalse h15) Y (p_not Y Y) (rp Y (p_pkf Y Y (bfalse h15) (.same _)) (rs [60] [.b (!r'6)] [] [] Y ?_)))))
     have z:=se H;subst z
     exact RunW_nil rfl
    refine rO Y (dF h13) Y (rO Y (dF h13) Y (rO Y (dF h13) Y (rn Y (dF h12) Y (p_pkf Y Y (dF h13) (.same _)) (rp Y (p_pkf Y Y (dF h12) (.same _)) (rm Y (rn Y (bfalse (by decide)) Y (uf U32 Y in_9 Y (GValue.len v0)) (rn Y (bfalse (by decide)) Y (pl U9 Y (GValue.sub3 v0)) (bindK H fun r'7 h17 H=>rn Y (bfalse (by decide)) Y (pc Y Tryz.func62 Y (g_utf8_ValidString_ac h17) Y) (rn Y (bfalse (by decide)) Y (p_not Y Y) (rp Y (p_pkf Y Y (bfalse (by decide)) (.same _)) (rs [60] [.b (!r'7)] [] [] Y ?_)))))))))))
    have z:=se H;subst z
    exact RunW_nil rfl
   refine rO Y (dF h11) Y (rO Y (dF h11) Y (rO Y (dF h11) Y (rO Y (dF h11) Y (rn Y (dF h10) Y (p_pkf Y Y (dF h11) (.same _)) (rp Y (p_pkf Y Y (dF h10) (.same _)) (rm Y (rn Y (bfalse (by decide)) Y (uf U32 Y in_3 Y (GValue.len v0)) (rn Y (bfalse (by decide)) Y (pl U3 Y (GValue.sub0 v0)) (rn Y (bfalse (by decide)) Y (pi Y) (rn Y (bfalse (by decide)) Y (p_move Y Y) (em2 H (fun h18 H=>?_) (fun h18 H=>?_))))))))))))
   ·refine rn Y (dT h18) Y (uf U32 Y in_30 Y (GValue.len v0)) (rn Y (dT h18) Y (pl U30 Y (GValue.sub2 v0)) (bindK H fun r'8 h19 H=>rn Y (dT h18) Y (pc Y Tryz.func72 Y (g_ref_badReal_ac h19) Y) (rn Y (bfalse (by decide)) Y (p_pkt Y Y (dT h18) (.same _)) (rp Y (p_pkf Y Y (bfalse (by decide)) (.same _)) (rm Y (em2 H (fun h20 H=>?_) (fun h20 H=>?_)))))))
    ·refine rO Y h20 Y (rO Y h20 Y (rO Y h20 Y (rO Y h20 Y (rp Y (p_pkt Y Y h20 (.same _)) (rs [60] [.b true] [] [] Y ?_)))))
     have z:=se H;subst z
     exact RunW_nil rfl
    refine rn Y (bfalse h20) Y (uf U32 Y in_9 Y (GValue.len v0)) (rn Y (bfalse h20) Y (pl U9 Y (GValue.sub3 v0)) (bindK H fun r'9 h21 H=>rn Y (bfalse h20) Y (pc Y Tryz.func62 Y (g_utf8_ValidString_ac h21) Y) (rn Y (bfalse h20) Y (p_not Y Y) (rp Y (p_pkf Y Y (bfalse h20) (.same _)) (rs [60] [.b (!r'9)] [] [] Y ?_)))))
    have z:=se H;subst z
    exact RunW_nil rfl
   refine rO Y (dF h18) Y (rO Y (dF h18) Y (rO Y (dF h18) Y (rn Y (bfalse (by decide)) Y (p_pkf Y Y (dF h18) (.same _)) (rp Y (p_pkf Y Y (bfalse (by decide)) (.same _)) (rm Y (rn Y (bfalse (by decide)) Y (uf U32 Y in_9 Y (GValue.len v0)) (rn Y (bfalse (by decide)) Y (pl U9 Y (GValue.sub3 v0)) (bindK H fun r'10 h22 H=>rn Y (bfalse (by decide)) Y (pc Y Tryz.func62 Y (g_utf8_ValidString_ac h22) Y) (rn Y (bfalse (by decide)) Y (p_not Y Y) (rp Y (p_pkf Y Y (bfalse (by decide)) (.same _)) (rs [60] [.b (!r'10)] [] [] Y ?_)))))))))))
   have z:=se H;subst z
   exact RunW_nil rfl
  refine AW2_cond Y (fun h24=>?_) (fun h24=>?_)
  ·replace H:=ite_then h24 H
   refine sg 1 Y (ra Y (rz [2] [.i 3] [] [] Y (QR ?_)))
   have z:=se H;subst z
   exact ⟨⟨rt,trivial⟩,trivial⟩
  replace H:=ite_else (ne_true h24) H
  refine as2 [] [] [] [] Y (QK (sg 1 Y (ra Y (rz [2] [.i 0] [] [] Y (QR ?_)))))
  have z:=se H;subst z
  exact ⟨⟨rt,trivial⟩,trivial⟩
 subst hy
 obtain ⟨rfl,hs⟩:=hs
 have z:=se H;subst z
 exact ⟨hs.1,hs.2⟩
def g_ref_RowFault_r15:List (List (Nat×Option Nat)):=[[(7,none)],[(40,some 0)],[(1,none)],[(6,none)],[(42,some 2),(43,some 3)],[(44,some 4)],[(45,some 5)]]
def g_ref_RowFault_r15c:List (List Nat):=[[],[0],[],[],[2,3],[2,3,4],[2,3,4,5],[0,1,2,3,4,5,6]]
noncomputable def g_ref_RowFault_l0 (row0:List GValue) (cols1:List GColumn):Int→Option (Int⊕(Int⊕Unit))
  | t21_0=>(if t21_0 < (row0.length:Int) then (show Option (Int⊕Unit) from if 0≤t21_0∧t21_0 < (row0.length:Int) then (g_ref_ValueFault (lrd row0 t21_0.toNat)).bind fun r'3=>(if r'3≠(0:Int) then some (.inl r'3) else (if (lrd row0 t21_0.toNat).Kind=(0:Int) then if 0≤t21_0∧t21_0 < (cols1.length:Int) then (if (!((lrd cols1 t21_0.toNat).Null))=true then some (.inl (12:Int)) else some (.inr ())) else none else if 0≤t21_0∧t21_0 < (cols1.length:Int) then (if (lrd row0 t21_0.toNat).Kind≠(lrd cols1 t21_0.toNat).Kind then some (.inl (2:Int)) else some (.inr ())) else none)) else none).bind fun o'5=>match o'5 with | .inl y'4=>some (.inr (.inl y'4)) | .inr j'2=>some (.inl (w64 (t21_0+(1:Int)))) else some (.inr (.inr ())))
noncomputable def g_ref_RowFault (row0:List GValue) (cols1:List GColumn):Option (Int) :=
  (g_ref_ColumnsFault cols1).bind fun r'1=>(if r'1≠(0:Int) then some r'1 else (if (row0.length:Int)≠(cols1.length:Int) then some (1:Int) else (loopO (g_ref_RowFault_l0 row0 cols1) (0:Int)).bind fun o'9=>match o'9 with | .inl y'10=>some y'10 | .inr (y'11)=>some (0:Int)))
theorem g_ref_RowFault_ac {row0:List GValue} {cols1:List GColumn} {r:Int} (H:g_ref_RowFault row0 cols1=some r):ACp Tryz.prog 36 [(GValue.ls row0),(GColumn.ls cols1)] (AV.int r):=by
 refine ACp_of (AC2_of_body (vs:=[.i r]) Tryz.func36 Y Y (lb Y) Y ?_) (fun _=>.same _)
 unfold g_ref_RowFault at H
 refine as2 [0,1] [.p (GValue.ls row0),.p (GColumn.ls cols1)] [] [] Y (sg 1 Y (ra Y (rz [0,1] [_,_] [] [] Y (QS (sg 3 Y (rm Y (bindK H fun r'1 h1 H=>rp Y (pc Y Tryz.func34 Y (g_ref_ColumnsFault_ac h1) Y) (ra Y (rz [0,1,5] [_,_,.i r'1] [] [] Y (sg 2 Y (rm Y (rp Y (pn Y) (rz [0,1,5,12] [_,_,_,.b (decide (r'1≠0))] [] [] Y (if2 H Y (fun h2 H=>?_) (fun h2 H=>?_)))))))))))))))
 ·refine sg 2 Y (rm Y (ra Y (rz [4] [.i r'1] [] [] Y (QR ?_))))
  have z:=se H;subst z
  exact ⟨⟨rt,trivial⟩,trivial⟩
 refine as2 [0,1] [_,_] [] [] Y (QK (QS (sg 5 Y (rm Y (rp Y (p_lenl Y U23 Y Y) (rm Y (rp Y (p_lenl Y U22 Y Y) (rp Y (pn Y) (rz [0,1,18] [_,_,.b (decide ((row0.length:Int)≠(cols1.length:Int)))] [] [] Y (if2 H Y (fun h3 H=>?_) (fun h3 H=>?_)))))))))))
 ·refine sg 1 Y (ra Y (rz [4] [.i 1] [] [] Y (QR ?_)))
  have z:=se H;subst z
  exact ⟨⟨rt,trivial⟩,trivial⟩
 refine as2 [0,1] [_,_] [] [] Y (QK (QS (sg 3 Y (rm Y (rp Y (p_lenl Y U23 Y Y) (rm Y (rz [1,19,20,21] [_,.p (GValue.ls row0),.i (row0.length:Int),.i 0] [] [] Y (QB (as2 [1,19,20,21] [_,_,_,_] [] [] Y (bindK H fun o'9 h14 H=>AW2_loopO (fun a'6:Int=>(⟨[(1,.p (GColumn.ls cols1)),(19,.p (GValue.ls row0)),(20,.i (row0.length:Int)),(21,.i a'6)],[],49⟩:TS)) (fun (o:Int⊕Unit) e s'=>match o with | .inl y'7=>e=Go.Exit.ret∧ResAll Tryz.prog s' [ResultVar.tmp 4] [.i y'7]∧HFits s' [] | .inr (y'8)=>e=Go.Exit.exit 0∧s'=(⟨[],[],49⟩:TS)) h14 Y (fun t21_0 x hx=>?_) (fun e s' hs=>?_)))))))))))
 ·clear H
  have H:=hx
  clear hx
  unfold g_ref_RowFault_l0 at H
  refine sg 1 Y (rp Y (pb Y Y) (rz [1,19,20,21,22] [.p (GColumn.ls cols1),.p (GValue.ls row0),.i (row0.length:Int),.i t21_0,.b (decide (t21_0 < (row0.length:Int)))] [] [] Y (QS (if2 H Y (fun h4 H=>?_) (fun h4 H=>?_)))))
  ·refine as2 [1,19,20,21] [_,_,_,_] [] [] Y (QK (QS (bindK H fun o'5 h5 H=>AW2_join (fun j'2:Unit=>(⟨[(1,.p (GColumn.ls cols1)),(19,.p (GValue.ls row0)),(20,.i (row0.length:Int)),(21,.i t21_0)],[],49⟩:TS)) (fun r e s'=>e=Go.Exit.ret∧ResAll Tryz.prog s' [ResultVar.tmp 4] [.i r]∧HFits s' []) (x:=o'5) ?_ (fun j'2 hy=>?_) (fun y'4 e s' hy hs=>?_))))
   ·clear H
    have H:=h5
    clear h5
    refine QB (sg 6 Y (rm Y (chkK H fun h6 H=>rp Y (u_ixl Y Y U23 in_32 Y Y (ixe h6) (ixn h6) (fne GValue.len (by decide) (ixn h6))) (rp Y (pL U32 Y in_32 (Sub.fm default GValue.len (ixn h6)) (GValue.len (lrd row0 t21_0.toNat))) (rq Y (al 7 in_32 one_32 zc_32 Y) (ra Y (rq Y (u_sw Y Y in_32 (GValue.len (lrd row0 t21_0.toNat)) (GValue.len GValue.zero)) (rz [1,6,7,19,20,21] [.p (GColumn.ls cols1),.i t21_0,.q 7 (0),.p (GValue.ls row0),.i (row0.length:Int),.i t21_0] [7] [.pure (GValue.cs (lrd row0 t21_0.toNat))] Y (QS (sg 3 Y (rp Y (pL U32 Y in_32 (Sub.refl _) (GValue.len (lrd row0 t21_0.toNat))) (bindK H fun r'3 h7 H=>rp Y (pc Y Tryz.func49 Y (g_ref_ValueFault_ac h7) Y) (ra Y (rz [1,6,7,8,19,20,21] [_,_,_,.i r'3,_,_,_] [7] [_] Y (sg 2 Y (rm Y (rp Y (pn Y) (rz [1,6,7,8,19,20,21,29] [_,_,_,_,_,_,_,.b (decide (r'3≠0))] [7] [_] Y (if2 H Y (fun h8 H=>?_) (fun h8 H=>?_))))))))))))))))))))
    ·refine sg 2 Y (rm Y (ra Y (rz [4] [.i r'3] [] [] Y (QR ?_))))
     have z:=se H;subst z
     exact ⟨Y,⟨rt,trivial⟩,trivial⟩
    refine as2 [1,6,7,19,20,21] [_,_,_,_,_,_] [7] [_] Y (QK (sg 3 Y (rf Y U32 Y in_3 Y Y (GValue.len (lrd row0 t21_0.toNat)) (rp Y (pl U3 Y (GValue.sub0 (lrd row0 t21_0.toNat))) (rp Y (pi Y) (rz [1,6,7,19,20,21,33] [_,_,_,_,_,_,.b (decide ((lrd row0 t21_0.toNat).Kind=0))] [7] [_] Y (if2 H Y (fun h9 H=>?_) (fun h9 H=>?_))))))))
    ·refine sg 6 Y (rm Y (rm Y (chkK H fun h10 H=>rp Y (u_ixl Y Y U22 in_63 Y Y (ixe h10) (ixn h10) (fne GColumn.len (by decide) (ixn h10))) (rp Y (u_far Y Y U63 Y in_4 nz Y) (rp Y (pl U4 Y ((Sub.fm default GColumn.len (ixn h10)).trans (GColumn.sub2 (lrd cols1 t21_0.toNat)))) (rp Y (p_not Y Y) (rz [1,19,20,21,39] [_,_,_,_,.b (!((lrd cols1 t21_0.toNat).Null))] [] [] Y (AW2_cond Y (fun h11=>?_) (fun h11=>?_)))))))))
     ·replace H:=ite_then h11 H
      refine sg 1 Y (ra Y (rz [4] [.i 12] [] [] Y (QR ?_)))
      have z:=se H;subst z
      exact ⟨Y,⟨rt,trivial⟩,trivial⟩
     replace H:=ite_else (ne_true h11) H
     refine as2 [1,19,20,21] [.p (GColumn.ls cols1),.p (GValue.ls row0),.i (row0.length:Int),.i t21_0] [] [] Y (QK ?_)
     have z:=se H;subst z
     exact ⟨Y,Y⟩
    refine QS (chkK H fun h12 H=>AW2_ghoQ (AW2_draw 7 [7] (fun k=>([.q 7 (0+0),.i ((lrd row0 t21_0.toNat).Kind),.p (GColumn.ls cols1),.i t21_0,.p (.rptr (cols1.flatMap GColumn.cs) (t21_0.toNat * 3)),.p (.rptr (cols1.flatMap GColumn.cs) (t21_0.toNat * 3+1)),.i ((lrd cols1 t21_0.toNat).Kind)]:List TV).getD k TV.any) (fun k=>g_ref_RowFault_r15.getD k []) [(1,none),(19,none),(20,none),(21,none),(41,some 1),(46,some 6)] [] (fun k=>g_ref_RowFault_r15c.getD k []) mixed (by kernel_rfl) Y Y (a_op (g_x Y (x_p Y (uf U32 Y in_3 Y (GValue.len (lrd row0 t21_0.toNat))) Y)) (a_op (g_x Y (x_p Y (pl U3 Y (GValue.sub0 (lrd row0 t21_0.toNat))) Y)) (a_op (g_x Y (x_p Y (p_move Y Y) Y)) (a_op (g_x Y (x_p Y (p_move Y Y) Y)) (a_op (g_x Y (x_p Y (u_ixl Y Y U22 in_63 Y Y (ixe h12) (ixn h12) (fne GColumn.len (by decide) (ixn h12))) Y)) (a_op (g_x Y (x_p Y (u_far Y Y U63 Y in_3 nz Y) Y)) (a_op (g_x Y (x_p Y (pl U3 Y ((Sub.fm default GColumn.len (ixn h12)).trans (GColumn.sub1 (lrd cols1 t21_0.toNat)))) Y)) (a_nil)))))))) (t_op Y Y (PureD.opD (pn Y)) (t_gho (Gho_st (L:=[(1,.p (GColumn.ls cols1)),(19,.p (GValue.ls row0)),(20,.i (row0.length:Int)),(21,.i t21_0),(47,.b (decide ((lrd row0 t21_0.toNat).Kind≠(lrd cols1 t21_0.toNat).Kind)))]) (H:=[]) (N:=49) Y ⟨TLes.same _,TLes.same _,TLes.same _,TLes.same _,TLes.same _,trivial⟩ trivial) (if2 H Y (fun h13 H=>?_) (fun h13 H=>?_))))))
    ·refine sg 1 Y (ra Y (rz [4] [.i 2] [] [] Y (QR ?_)))
     have z:=se H;subst z
     exact ⟨Y,⟨rt,trivial⟩,trivial⟩
    refine as2 [1,19,20,21] [.p (GColumn.ls cols1),.p (GValue.ls row0),.i (row0.length:Int),.i t21_0] [] [] Y (QK ?_)
    have z:=se H;subst z
    exact ⟨Y,Y⟩
   ·subst hy
    refine ar 2 Y (rp Y (pb Y Y) (rm Y (rz [1,19,20,21] [.p (GColumn.ls cols1),.p (GValue.ls row0),.i (row0.length:Int),.i (w64 (t21_0+1))] [] [] Y ?_)))
    have z:=se H;subst z
    exact ⟨Y,Y⟩
   subst hy
   obtain ⟨rfl,hs⟩:=hs
   have z:=se H;subst z
   exact ⟨Y,hs.1,hs.2⟩
  refine as2 [] [] [] [] Y (AW2_exit (thenQ2_exit ?_))
  have z:=se H;subst z
  exact ⟨Y,Y⟩
 rcases o'9 with y'10 | y'11
 ·obtain ⟨rfl,hs⟩:=hs
  refine ⟨by simp,?_⟩
  have z:=se H;subst z
  exact ⟨hs.1,hs.2⟩
 obtain ⟨rfl,rfl⟩:=hs
 refine ⟨by simp,?_⟩
 refine blockQ2_exit (sg 1 Y (ra Y (rz [4] [.i 0] [] [] Y (QR ?_))))
 have z:=se H;subst z
 exact ⟨⟨rt,trivial⟩,trivial⟩
end Go.Proofs.YthnkbagmaljjjaaGreatDoor.VM
