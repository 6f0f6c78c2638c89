/- Words and rules that the proof uses. -/
import Derived.Test.YthnkbagmaljjjaaGreatDoorTu3
namespace Go.Proofs.YthnkbagmaljjjaaGreatDoor.VM
open Go Go.RowKit
theorem eq_63:EqT Tryz.prog 63 2 (fun x:GColumn=>.agg (GColumn.cs x)) :=
  eqt_struct [fun a b=>a.Name=b.Name,fun a b=>a.Kind=b.Kind,fun a b=>a.Null=b.Null] U63 (by kernel_rfl) ⟨(FieldEq.more (fe_one (by decide) U9 rfl (eqt_txt U9) (fun a=>GColumn.sub0 a)) (by decide:1≤1)),(FieldEq.more (fe_one (by decide) U3 rfl (eqt_int U3) (fun a=>GColumn.sub1 a)) (by decide:1≤1)),(FieldEq.more (fe_one (by decide) U4 rfl (eqt_bool U4) (fun a=>GColumn.sub2 a)) (by decide:1≤1)),trivial⟩ (fun a b=>by
    cases a; cases b
    simp)
noncomputable def g_ref_signed (minus0:Bool) (n1:UInt64):Option (GValue×Int) :=
  (if (minus0=true)∧(n1≤(9223372036854775808:UInt64)) then (g_ref_intOf (w64 ((0 - n1).toNat:Int))).bind fun r'1=>some (r'1.1,r'1.2) else (if ((!minus0)=true)∧(n1 < (9223372036854775808:UInt64)) then (g_ref_intOf (w64 (n1.toNat:Int))).bind fun r'2=>some (r'2.1,r'2.2) else some (GValue.zero,(6:Int))))
set_option maxHeartbeats 4000000 in
set_option maxRecDepth 100000 in
theorem g_ref_signed_ac {minus0:Bool} {n1:UInt64} {r:GValue×Int} (H:g_ref_signed minus0 n1=some r):ACp Tryz.prog 78 [(AV.bool minus0),(AV.u64 n1)] (.tup [(.agg (GValue.cs r.1)),(AV.int r.2)]):=by
 refine ACp_of (AC2_of_body (vs:=[.g (GValue.cs r.1),.i r.2]) Tryz.func78 Y Y (lb Y) Y ?_) (fun _=>.same _)
 unfold g_ref_signed at H
 refine as2 [(0,.b minus0),(1,.p (AV.u64 n1))] [] Y (sg [0,1] Y (rq Y (MakeD.opD (u_alloc 4 Y in_32 one_32 zc_32) Y Y Y Y) (ra Y (rz [(0,_),(1,_),(4,.q 4 (0))] [(4,.pure (GValue.cs GValue.zero))] Y (AW2_seq (AW2_seq ?_))))))
 refine AW2_mid (⟨[(0,.b minus0),(1,.p (AV.u64 n1)),(4,.q 4 (0)),(10,.b (decide ((minus0=true)∧(n1≤(9223372036854775808:UInt64)))))],[(4,.pure (GValue.cs GValue.zero))],29⟩:TS) ?_ ?_
 ·refine AW2_reg [0,1,2,3,4] Y (rm Y (rm Y ?_))
  refine (Classical.em (minus0=true)).elim (fun h1=>?_) (fun h1=>?_)
  ·exact rn Y h1 Y (p_move Y Y) (rn Y h1 Y (p_u64le (a:=n1) (b:=(9223372036854775808:UInt64)) Y Y Y) (rp Y (p_pkt Y Y h1 (tb ((and_l (p:=minus0=true) (q:=n1≤(9223372036854775808:UInt64)) h1)))) (rend Y Y)))
  exact rO Y (bfalse h1) Y (rO Y (bfalse h1) Y (rp Y (p_pkf Y Y (bfalse h1) (tb (dF (p:=(minus0=true)∧(n1≤(9223372036854775808:UInt64))) (fun x=>h1 x.1)).symm)) (rend Y Y)))
 refine if2 H Y (fun h2 H=>?_) (fun h2 H=>?_)
 ·refine sg [0,1,2,3,4,5,6,7] Y (rm Y (rp Y (p_u64neg Y Y) (rp Y (p_u64_i (a:=0 - n1) Y U30 U3 Y) (bindK H fun r'1 h3 H=>rp Y (p_callp Y Y Y Tryz.func55 Y Y (g_ref_intOf_ac h3) ⟨Y,trivial⟩) (rp Y (p_ext Y Y Y Y) ?_)))))
  refine rp Y (p_ext Y Y Y Y) (rq Y (u_sw Y Y Y Y Y in_32 (GValue.len r'1.1) (GValue.len GValue.zero) Y) (ra Y (rz [(4,_),(5,.i r'1.2)] [(4,.pure (GValue.cs r'1.1))] Y (AW2_ret ?_))))
  have z:=se H; subst z
  exact ⟨⟨rcw U32 Y in_32 Y (GValue.len r'1.1),rt,trivial⟩,trivial⟩
 refine as2 [(0,_),(1,_),(4,_)] [(4,_)] Y (AW2_skip (AW2_seq (AW2_seq (AW2_mid (⟨[(1,.p (AV.u64 n1)),(4,.q 4 (0)),(22,.b (decide (((!minus0)=true)∧(n1 < (9223372036854775808:UInt64)))))],[(4,.pure (GValue.cs GValue.zero))],29⟩:TS) ?_ ?_))))
 ·refine AW2_reg [0,1,2,3,4,5] Y (rm Y (rp Y (p_not Y Y) (rm Y ?_)))
  refine (Classical.em ((!minus0)=true)).elim (fun h4=>?_) (fun h4=>?_)
  ·exact rn Y h4 Y (p_move Y Y) (rn Y h4 Y (p_u64lt (a:=n1) (b:=(9223372036854775808:UInt64)) Y Y Y) (rp Y (p_pkt Y Y h4 (tb ((and_l (p:=(!minus0)=true) (q:=n1 < (9223372036854775808:UInt64)) h4)))) (rend Y Y)))
  exact rO Y (bfalse h4) Y (rO Y (bfalse h4) Y (rp Y (p_pkf Y Y (bfalse h4) (tb (dF (p:=((!minus0)=true)∧(n1 < (9223372036854775808:UInt64))) (fun x=>h4 x.1)).symm)) (rend Y Y)))
 refine if2 H Y (fun h5 H=>?_) (fun h5 H=>?_)
 ·refine sg [0,1,2,3,4,5,6] Y (rm Y (rp Y (p_u64_i (a:=n1) Y U30 U3 Y) (bindK H fun r'2 h6 H=>rp Y (p_callp Y Y Y Tryz.func55 Y Y (g_ref_intOf_ac h6) ⟨Y,trivial⟩) (rp Y (p_ext Y Y Y Y) (rp Y (p_ext Y Y Y Y) ?_)))))
  refine rq Y (u_sw Y Y Y Y Y in_32 (GValue.len r'2.1) (GValue.len GValue.zero) Y) (ra Y (rz [(4,_),(5,.i r'2.2)] [(4,.pure (GValue.cs r'2.1))] Y (AW2_ret ?_)))
  have z:=se H; subst z
  exact ⟨⟨rcw U32 Y in_32 Y (GValue.len r'2.1),rt,trivial⟩,trivial⟩
 refine as2 [(4,_)] [(4,_)] Y (AW2_skip (sg [0,1,2] Y (rp Y (u_bld Y in_32 one_32 zc_32 pl_32 Y Y) (rq Y (u_sw Y Y Y Y Y in_32 (GValue.len GValue.zero) (GValue.len GValue.zero) Y) (ra Y (rz [(4,_),(5,.i (6:Int))] [(4,.pure (GValue.cs GValue.zero))] Y ?_))))))
 refine AW2_ret ?_
 have z:=se H; subst z
 exact ⟨⟨rcw U32 Y in_32 Y (GValue.len GValue.zero),rt,trivial⟩,trivial⟩
noncomputable def g_ref_reckoned (op0:Int) (a1:Int) (b2:Int):Option (GValue×Int) :=
  ((if op0=(6:Int) then some (decide (op0=(6:Int))) else some (decide (op0=(5:Int))))).bind fun j'1=>(if j'1=true then (if op0=(5:Int) then letO ((add64 ((UInt64.ofInt a1)+(9223372036854775808:UInt64)) ((UInt64.ofInt b2)+(9223372036854775808:UInt64))).1) fun s10'2=>letO ((add64 ((UInt64.ofInt a1)+(9223372036854775808:UInt64)) ((UInt64.ofInt b2)+(9223372036854775808:UInt64))).2) fun c11'3=>(if ((c11'3=(0:UInt64))∧(s10'2 < (9223372036854775808:UInt64)))∨((c11'3=(1:UInt64))∧((9223372036854775808:UInt64)≤s10'2)) then some (GValue.zero,(6:Int)) else (g_ref_intOf (w64 (s10'2.toNat:Int))).bind fun r'4=>some (r'4.1,r'4.2)) else letO ((sub64 ((UInt64.ofInt a1)+(9223372036854775808:UInt64)) ((UInt64.ofInt b2)+(9223372036854775808:UInt64))).1) fun d12'5=>letO ((sub64 ((UInt64.ofInt a1)+(9223372036854775808:UInt64)) ((UInt64.ofInt b2)+(9223372036854775808:UInt64))).2) fun c13'6=>(if ((c13'6=(0:UInt64))∧((9223372036854775808:UInt64)≤d12'5))∨((c13'6=(1:UInt64))∧(d12'5 < (9223372036854775808:UInt64))) then some (GValue.zero,(6:Int)) else (g_ref_intOf (w64 (d12'5.toNat:Int))).bind fun r'7=>some (r'7.1,r'7.2))) else (if op0=(7:Int) then (g_ref_sizeOf a1).bind fun r'8=>(g_ref_sizeOf b2).bind fun r'9=>(g_bits_Mul64 r'8 r'9).bind fun r'10=>(if r'10.1≠(0:UInt64) then some (GValue.zero,(6:Int)) else (g_ref_signed (decide ((decide (a1 < (0:Int)))≠(decide (b2 < (0:Int))))) r'10.2).bind fun r'11=>some (r'11.1,r'11.2)) else (if b2=(0:Int) then some (GValue.zero,(7:Int)) else (g_ref_sizeOf a1).bind fun r'12=>(g_ref_sizeOf b2).bind fun r'13=>if r'13≠(0:UInt64) then (g_ref_signed (decide ((decide (a1 < (0:Int)))≠(decide (b2 < (0:Int))))) (r'12 / r'13)).bind fun r'14=>some (r'14.1,r'14.2) else none)))
set_option maxHeartbeats 4000000 in
set_option maxRecDepth 100000 in
theorem g_ref_reckoned_ac {op0:Int} {a1:Int} {b2:Int} {r:GValue×Int} (H:g_ref_reckoned op0 a1 b2=some r):ACp Tryz.prog 54 [(AV.int op0),(AV.int a1),(AV.int b2)] (.tup [(.agg (GValue.cs r.1)),(AV.int r.2)]):=by
 refine ACp_of (AC2_of_body (vs:=[.g (GValue.cs r.1),.i r.2]) Tryz.func54 Y Y (lb Y) Y ?_) (fun _=>.same _)
 unfold g_ref_reckoned at H
 refine as2 [(0,.i op0),(1,.i a1),(2,.i b2)] [] Y (sg [0,1] Y (rq Y (MakeD.opD (u_alloc 6 Y in_32 one_32 zc_32) Y Y Y Y) (ra Y (rz [(0,_),(1,_),(2,_),(6,.q 6 (0))] [(6,.pure (GValue.cs GValue.zero))] Y (AW2_seq (sg [0] Y ?_))))))
 refine rm Y (rz [(0,_),(1,_),(2,_),(6,_),(16,.i op0)] [(6,_)] Y (AW2_block (AW2_seq (bindK H fun j'1 h1 H=>AW2_mid (⟨[(0,.i op0),(1,.i a1),(2,.i b2),(6,.q 6 (0)),(16,.i op0),(17,.b j'1)],[(6,.pure (GValue.cs GValue.zero))],118⟩:TS) ?_ ?_))))
 ·clear H
  have H:=h1
  clear h1
  refine sg [0,1] Y (rp Y (p_ieq Y Y Y) (ra Y (rz [(0,.i op0),(1,.i a1),(2,.i b2),(6,.q 6 (0)),(16,.i op0),(17,.b (decide (op0=(6:Int))))] [(6,.pure (GValue.cs GValue.zero))] Y (if2 H Y (fun h2 H=>?_) (fun h2 H=>?_)))))
  ·refine AW2_skip ?_
   have z:=se H; subst z
   exact rfl
  refine AW2_reg [0,1] Y (rp Y (p_ieq Y Y Y) (ra Y (rz [(0,_),(1,_),(2,_),(6,_),(16,_),(17,.b (decide (op0=(5:Int))))] [(6,_)] Y ?_)))
  have z:=se H; subst z
  exact rfl
 refine AW2_cond Y (fun h3=>?_) (fun h3=>?_)
 ·replace H:=ite_then h3 H
  refine sg [0,1,2,3,4,5,6,7] Y (rm Y (rp Y (p_i_u64 Y U3 U30 Y) (rp Y (p_u64add (a:=UInt64.ofInt a1) (b:=(9223372036854775808:UInt64)) Y Y Y) (rm Y (rp Y (p_i_u64 Y U3 U30 Y) (rp Y (p_u64add (a:=UInt64.ofInt b2) (b:=(9223372036854775808:UInt64)) Y Y Y) ?_))))))
  refine ra Y (ra Y (rz [(0,.i op0),(6,.q 6 (0)),(8,.p (AV.u64 ((UInt64.ofInt a1)+(9223372036854775808:UInt64)))),(9,.p (AV.u64 ((UInt64.ofInt b2)+(9223372036854775808:UInt64))))] [(6,.pure (GValue.cs GValue.zero))] Y (AW2_seq (sg [0,1] Y (rm Y (rp Y (p_ieq Y Y Y) ?_))))))
  refine rz [(6,_),(8,_),(9,_),(27,.b (decide (op0=(5:Int))))] [(6,_)] Y (if2 H Y (fun h4 H=>?_) (fun h4 H=>?_))
  ·refine sg [0,1,2,3,4,5,6,7] Y (rm Y (rm Y (rp Y (p_add64 (a:=(UInt64.ofInt a1)+(9223372036854775808:UInt64)) (b:=(UInt64.ofInt b2)+(9223372036854775808:UInt64)) Y Y Y Tryz.func74 Y Y (by kernel_rfl) (by kernel_rfl) Y Y Y) (rm Y (rp Y (p_ext Y Y Y Y) (rp Y (p_ext Y Y Y Y) ?_))))))
   refine ra Y (ra Y (rz [(6,_),(10,.p (AV.u64 ((add64 ((UInt64.ofInt a1)+(9223372036854775808:UInt64)) ((UInt64.ofInt b2)+(9223372036854775808:UInt64))).1))),(11,.p (AV.u64 ((add64 ((UInt64.ofInt a1)+(9223372036854775808:UInt64)) ((UInt64.ofInt b2)+(9223372036854775808:UInt64))).2)))] [(6,_)] Y (gen1 (fun s10'2=>(⟨[(6,.q 6 (0)),(10,.p (AV.u64 s10'2)),(11,.p (AV.u64 ((add64 ((UInt64.ofInt a1)+(9223372036854775808:UInt64)) ((UInt64.ofInt b2)+(9223372036854775808:UInt64))).2)))],[(6,.pure (GValue.cs GValue.zero))],118⟩:TS)) H ?_)))
   intro s10'2 H
   refine gen1 (fun c11'3=>(⟨[(6,.q 6 (0)),(10,.p (AV.u64 s10'2)),(11,.p (AV.u64 c11'3))],[(6,.pure (GValue.cs GValue.zero))],118⟩:TS)) H ?_
   intro c11'3 H
   refine AW2_seq (AW2_seq (AW2_mid (⟨[(6,.q 6 (0)),(10,.p (AV.u64 s10'2)),(47,.b (decide (((c11'3=(0:UInt64))∧(s10'2 < (9223372036854775808:UInt64)))∨((c11'3=(1:UInt64))∧((9223372036854775808:UInt64)≤s10'2)))))],[(6,.pure (GValue.cs GValue.zero))],118⟩:TS) ?_ ?_))
   ·refine AW2_reg [0,1,2,3,4,5,6,7,8,9,10,11,12,13] Y (rm Y (rp Y (p_u64eq (a:=c11'3) (b:=(0:UInt64)) Y Y Y) (rm Y ?_)))
    refine (Classical.em (c11'3=(0:UInt64))).elim (fun h5=>?_) (fun h5=>?_)
    ·refine rn Y (dT h5) Y (p_move Y Y) (rn Y (dT h5) Y (p_u64lt (a:=s10'2) (b:=(9223372036854775808:UInt64)) Y Y Y) (rp Y (p_pkt Y Y (dT h5) (tb ((and_l (p:=c11'3=(0:UInt64)) (q:=s10'2 < (9223372036854775808:UInt64)) h5)))) (rm Y ?_)))
     refine (Classical.em (s10'2 < (9223372036854775808:UInt64))).elim (fun h6=>?_) (fun h6=>?_)
     ·have qq1:=dT (p:=(c11'3=(0:UInt64))∧(s10'2 < (9223372036854775808:UInt64))) ⟨h5,h6⟩
      iterate 3 (refine rO Y qq1 Y ?_)
      iterate 2 (refine r_off2 rfl rfl rfl rfl rfl rfl ?_)
      exact rO Y qq1 Y (rp Y (p_pkt Y Y qq1 (tb (dT (p:=((c11'3=(0:UInt64))∧(s10'2 < (9223372036854775808:UInt64)))∨((c11'3=(1:UInt64))∧((9223372036854775808:UInt64)≤s10'2))) (Or.inl ⟨h5,h6⟩)).symm)) (rend Y Y))
     have qq2:=dF (p:=(c11'3=(0:UInt64))∧(s10'2 < (9223372036854775808:UInt64))) (fun h=>h6 h.2)
     refine rn Y qq2 Y (p_move Y Y) (rn Y qq2 Y (p_u64eq (a:=c11'3) (b:=(1:UInt64)) Y Y Y) (rn Y qq2 Y (p_move Y Y) ?_))
     refine (Classical.em (c11'3=(1:UInt64))).elim (fun h7=>?_) (fun h7=>?_)
     ·exact rn Y (dT h7) Y (p_move Y Y) (rn Y (dT h7) Y (p_u64ge (a:=s10'2) (b:=(9223372036854775808:UInt64)) Y Y Y) (rn Y qq2 Y (p_pkt Y Y (dT h7) (tb ((and_l (p:=c11'3=(1:UInt64)) (q:=(9223372036854775808:UInt64)≤s10'2) h7)))) (rp Y (p_pkf Y Y qq2 (tb ((or_l (p:=(c11'3=(0:UInt64))∧(s10'2 < (9223372036854775808:UInt64))) (q:=(c11'3=(1:UInt64))∧((9223372036854775808:UInt64)≤s10'2)) (fun h=>h6 h.2))))) (rend Y Y))))
     iterate 2 (refine rO Y (dF h7) Y ?_)
     exact rn Y qq2 Y (p_pkf Y Y (dF h7) (tb (dF (p:=(c11'3=(1:UInt64))∧((9223372036854775808:UInt64)≤s10'2)) (fun x=>h7 x.1)).symm)) (rp Y (p_pkf Y Y qq2 (tb ((or_l (p:=(c11'3=(0:UInt64))∧(s10'2 < (9223372036854775808:UInt64))) (q:=(c11'3=(1:UInt64))∧((9223372036854775808:UInt64)≤s10'2)) (fun h=>h6 h.2))))) (rend Y Y))
    iterate 2 (refine rO Y (dF h5) Y ?_)
    refine rp Y (p_pkf Y Y (dF h5) (tb (dF (p:=(c11'3=(0:UInt64))∧(s10'2 < (9223372036854775808:UInt64))) (fun x=>h5 x.1)).symm)) (rm Y ?_)
    have qq3:=dF (p:=(c11'3=(0:UInt64))∧(s10'2 < (9223372036854775808:UInt64))) (fun h=>h5 h.1)
    refine rn Y qq3 Y (p_move Y Y) (rn Y qq3 Y (p_u64eq (a:=c11'3) (b:=(1:UInt64)) Y Y Y) (rn Y qq3 Y (p_move Y Y) ?_))
    refine (Classical.em (c11'3=(1:UInt64))).elim (fun h8=>?_) (fun h8=>?_)
    ·exact rn Y (dT h8) Y (p_move Y Y) (rn Y (dT h8) Y (p_u64ge (a:=s10'2) (b:=(9223372036854775808:UInt64)) Y Y Y) (rn Y qq3 Y (p_pkt Y Y (dT h8) (tb ((and_l (p:=c11'3=(1:UInt64)) (q:=(9223372036854775808:UInt64)≤s10'2) h8)))) (rp Y (p_pkf Y Y qq3 (tb ((or_l (p:=(c11'3=(0:UInt64))∧(s10'2 < (9223372036854775808:UInt64))) (q:=(c11'3=(1:UInt64))∧((9223372036854775808:UInt64)≤s10'2)) (fun h=>h5 h.1))))) (rend Y Y))))
    iterate 2 (refine rO Y (dF h8) Y ?_)
    exact rn Y qq3 Y (p_pkf Y Y (dF h8) (tb (dF (p:=(c11'3=(1:UInt64))∧((9223372036854775808:UInt64)≤s10'2)) (fun x=>h8 x.1)).symm)) (rp Y (p_pkf Y Y qq3 (tb ((or_l (p:=(c11'3=(0:UInt64))∧(s10'2 < (9223372036854775808:UInt64))) (q:=(c11'3=(1:UInt64))∧((9223372036854775808:UInt64)≤s10'2)) (fun h=>h5 h.1))))) (rend Y Y))
   refine if2 H Y (fun h9 H=>?_) (fun h9 H=>?_)
   ·refine sg [0,1,2] Y (rp Y (u_bld Y in_32 one_32 zc_32 pl_32 Y Y) (rq Y (u_sw Y Y Y Y Y in_32 (GValue.len GValue.zero) (GValue.len GValue.zero) Y) (ra Y (rz [(6,_),(7,.i (6:Int))] [(6,.pure (GValue.cs GValue.zero))] Y (AW2_ret ?_)))))
    have z:=se H; subst z
    exact ⟨⟨rcw U32 Y in_32 Y (GValue.len GValue.zero),rt,trivial⟩,trivial⟩
   refine as2 [(6,_),(10,_)] [(6,_)] Y (AW2_skip (sg [0,1,2,3,4,5,6] Y (rm Y (rp Y (p_u64_i (a:=s10'2) Y U30 U3 Y) (bindK H fun r'4 h10 H=>rp Y (p_callp Y Y Y Tryz.func55 Y Y (g_ref_intOf_ac h10) ⟨Y,trivial⟩) ?_)))))
   refine rp Y (p_ext Y Y Y Y) (rp Y (p_ext Y Y Y Y) (rq Y (u_sw Y Y Y Y Y in_32 (GValue.len r'4.1) (GValue.len GValue.zero) Y) (ra Y (rz [(6,_),(7,.i r'4.2)] [(6,.pure (GValue.cs r'4.1))] Y (AW2_ret ?_)))))
   have z:=se H; subst z
   exact ⟨⟨rcw U32 Y in_32 Y (GValue.len r'4.1),rt,trivial⟩,trivial⟩
  refine as2 [(6,_),(8,_),(9,_)] [(6,_)] Y (AW2_skip (sg [0,1,2,3,4,5,6,7] Y (rm Y (rm Y (rp Y (p_sub64 (a:=(UInt64.ofInt a1)+(9223372036854775808:UInt64)) (b:=(UInt64.ofInt b2)+(9223372036854775808:UInt64)) Y Y Y Tryz.func75 Y Y (by kernel_rfl) (by kernel_rfl) Y Y Y) (rm Y ?_))))))
  refine rp Y (p_ext Y Y Y Y) (rp Y (p_ext Y Y Y Y) (ra Y (ra Y (rz [(6,_),(12,.p (AV.u64 ((sub64 ((UInt64.ofInt a1)+(9223372036854775808:UInt64)) ((UInt64.ofInt b2)+(9223372036854775808:UInt64))).1))),(13,.p (AV.u64 ((sub64 ((UInt64.ofInt a1)+(9223372036854775808:UInt64)) ((UInt64.ofInt b2)+(9223372036854775808:UInt64))).2)))] [(6,_)] Y (gen1 (fun d12'5=>(⟨[(6,.q 6 (0)),(12,.p (AV.u64 d12'5)),(13,.p (AV.u64 ((sub64 ((UInt64.ofInt a1)+(9223372036854775808:UInt64)) ((UInt64.ofInt b2)+(9223372036854775808:UInt64))).2)))],[(6,.pure (GValue.cs GValue.zero))],118⟩:TS)) H ?_)))))
  intro d12'5 H
  refine gen1 (fun c13'6=>(⟨[(6,.q 6 (0)),(12,.p (AV.u64 d12'5)),(13,.p (AV.u64 c13'6))],[(6,.pure (GValue.cs GValue.zero))],118⟩:TS)) H ?_
  intro c13'6 H
  refine AW2_seq (AW2_seq (AW2_mid (⟨[(6,.q 6 (0)),(12,.p (AV.u64 d12'5)),(73,.b (decide (((c13'6=(0:UInt64))∧((9223372036854775808:UInt64)≤d12'5))∨((c13'6=(1:UInt64))∧(d12'5 < (9223372036854775808:UInt64))))))],[(6,.pure (GValue.cs GValue.zero))],118⟩:TS) ?_ ?_))
  ·refine AW2_reg [0,1,2,3,4,5,6,7,8,9,10,11,12,13] Y (rm Y (rp Y (p_u64eq (a:=c13'6) (b:=(0:UInt64)) Y Y Y) (rm Y ?_)))
   refine (Classical.em (c13'6=(0:UInt64))).elim (fun h11=>?_) (fun h11=>?_)
   ·refine rn Y (dT h11) Y (p_move Y Y) (rn Y (dT h11) Y (p_u64ge (a:=d12'5) (b:=(9223372036854775808:UInt64)) Y Y Y) (rp Y (p_pkt Y Y (dT h11) (tb ((and_l (p:=c13'6=(0:UInt64)) (q:=(9223372036854775808:UInt64)≤d12'5) h11)))) (rm Y ?_)))
    refine (Classical.em ((9223372036854775808:UInt64)≤d12'5)).elim (fun h12=>?_) (fun h12=>?_)
    ·have qq4:=dT (p:=(c13'6=(0:UInt64))∧((9223372036854775808:UInt64)≤d12'5)) ⟨h11,h12⟩
     iterate 3 (refine rO Y qq4 Y ?_)
     iterate 2 (refine r_off2 rfl rfl rfl rfl rfl rfl ?_)
     exact rO Y qq4 Y (rp Y (p_pkt Y Y qq4 (tb (dT (p:=((c13'6=(0:UInt64))∧((9223372036854775808:UInt64)≤d12'5))∨((c13'6=(1:UInt64))∧(d12'5 < (9223372036854775808:UInt64)))) (Or.inl ⟨h11,h12⟩)).symm)) (rend Y Y))
    have qq5:=dF (p:=(c13'6=(0:UInt64))∧((9223372036854775808:UInt64)≤d12'5)) (fun h=>h12 h.2)
    refine rn Y qq5 Y (p_move Y Y) (rn Y qq5 Y (p_u64eq (a:=c13'6) (b:=(1:UInt64)) Y Y Y) (rn Y qq5 Y (p_move Y Y) ?_))
    refine (Classical.em (c13'6=(1:UInt64))).elim (fun h13=>?_) (fun h13=>?_)
    ·exact rn Y (dT h13) Y (p_move Y Y) (rn Y (dT h13) Y (p_u64lt (a:=d12'5) (b:=(9223372036854775808:UInt64)) Y Y Y) (rn Y qq5 Y (p_pkt Y Y (dT h13) (tb ((and_l (p:=c13'6=(1:UInt64)) (q:=d12'5 < (9223372036854775808:UInt64)) h13)))) (rp Y (p_pkf Y Y qq5 (tb ((or_l (p:=(c13'6=(0:UInt64))∧((9223372036854775808:UInt64)≤d12'5)) (q:=(c13'6=(1:UInt64))∧(d12'5 < (9223372036854775808:UInt64))) (fun h=>h12 h.2))))) (rend Y Y))))
    iterate 2 (refine rO Y (dF h13) Y ?_)
    exact rn Y qq5 Y (p_pkf Y Y (dF h13) (tb (dF (p:=(c13'6=(1:UInt64))∧(d12'5 < (9223372036854775808:UInt64))) (fun x=>h13 x.1)).symm)) (rp Y (p_pkf Y Y qq5 (tb ((or_l (p:=(c13'6=(0:UInt64))∧((9223372036854775808:UInt64)≤d12'5)) (q:=(c13'6=(1:UInt64))∧(d12'5 < (9223372036854775808:UInt64))) (fun h=>h12 h.2))))) (rend Y Y))
   iterate 2 (refine rO Y (dF h11) Y ?_)
   refine rp Y (p_pkf Y Y (dF h11) (tb (dF (p:=(c13'6=(0:UInt64))∧((9223372036854775808:UInt64)≤d12'5)) (fun x=>h11 x.1)).symm)) (rm Y ?_)
   have qq6:=dF (p:=(c13'6=(0:UInt64))∧((9223372036854775808:UInt64)≤d12'5)) (fun h=>h11 h.1)
   refine rn Y qq6 Y (p_move Y Y) (rn Y qq6 Y (p_u64eq (a:=c13'6) (b:=(1:UInt64)) Y Y Y) (rn Y qq6 Y (p_move Y Y) ?_))
   refine (Classical.em (c13'6=(1:UInt64))).elim (fun h14=>?_) (fun h14=>?_)
   ·exact rn Y (dT h14) Y (p_move Y Y) (rn Y (dT h14) Y (p_u64lt (a:=d12'5) (b:=(9223372036854775808:UInt64)) Y Y Y) (rn Y qq6 Y (p_pkt Y Y (dT h14) (tb ((and_l (p:=c13'6=(1:UInt64)) (q:=d12'5 < (9223372036854775808:UInt64)) h14)))) (rp Y (p_pkf Y Y qq6 (tb ((or_l (p:=(c13'6=(0:UInt64))∧((9223372036854775808:UInt64)≤d12'5)) (q:=(c13'6=(1:UInt64))∧(d12'5 < (9223372036854775808:UInt64))) (fun h=>h11 h.1))))) (rend Y Y))))
   iterate 2 (refine rO Y (dF h14) Y ?_)
   exact rn Y qq6 Y (p_pkf Y Y (dF h14) (tb (dF (p:=(c13'6=(1:UInt64))∧(d12'5 < (9223372036854775808:UInt64))) (fun x=>h14 x.1)).symm)) (rp Y (p_pkf Y Y qq6 (tb ((or_l (p:=(c13'6=(0:UInt64))∧((9223372036854775808:UInt64)≤d12'5)) (q:=(c13'6=(1:UInt64))∧(d12'5 < (9223372036854775808:UInt64))) (fun h=>h11 h.1))))) (rend Y Y))
  refine if2 H Y (fun h15 H=>?_) (fun h15 H=>?_)
  ·refine sg [0,1,2] Y (rp Y (u_bld Y in_32 one_32 zc_32 pl_32 Y Y) (rq Y (u_sw Y Y Y Y Y in_32 (GValue.len GValue.zero) (GValue.len GValue.zero) Y) (ra Y (rz [(6,_),(7,.i (6:Int))] [(6,.pure (GValue.cs GValue.zero))] Y (AW2_ret ?_)))))
   have z:=se H; subst z
   exact ⟨⟨rcw U32 Y in_32 Y (GValue.len GValue.zero),rt,trivial⟩,trivial⟩
  refine as2 [(6,_),(12,_)] [(6,_)] Y (AW2_skip (sg [0,1,2,3,4,5,6] Y (rm Y (rp Y (p_u64_i (a:=d12'5) Y U30 U3 Y) (bindK H fun r'7 h16 H=>rp Y (p_callp Y Y Y Tryz.func55 Y Y (g_ref_intOf_ac h16) ⟨Y,trivial⟩) ?_)))))
  refine rp Y (p_ext Y Y Y Y) (rp Y (p_ext Y Y Y Y) (rq Y (u_sw Y Y Y Y Y in_32 (GValue.len r'7.1) (GValue.len GValue.zero) Y) (ra Y (rz [(6,_),(7,.i r'7.2)] [(6,.pure (GValue.cs r'7.1))] Y (AW2_ret ?_)))))
  have z:=se H; subst z
  exact ⟨⟨rcw U32 Y in_32 Y (GValue.len r'7.1),rt,trivial⟩,trivial⟩
 replace H:=ite_else (ne_true h3) H
 refine sg [0,1] Y (rp Y (p_ieq Y Y Y) (ra Y (rz [(1,.i a1),(2,.i b2),(6,.q 6 (0)),(80,.b (decide (op0=(7:Int))))] [(6,.pure (GValue.cs GValue.zero))] Y (if2 H Y (fun h17 H=>?_) (fun h17 H=>?_)))))
 ·refine sg [0,1,2,3,4,5,6,7,8,9] Y (rm Y (bindK H fun r'8 h18 H=>rp Y (p_callp Y Y Y Tryz.func77 Y Y (g_ref_sizeOf_ac h18) ⟨Y,trivial⟩) (rm Y (bindK H fun r'9 h19 H=>rp Y (p_callp Y Y Y Tryz.func77 Y Y (g_ref_sizeOf_ac h19) ⟨Y,trivial⟩) ?_))))
  refine bindK H fun r'10 h20 H=>rp Y (p_callp Y Y Y Tryz.func76 Y Y (g_bits_Mul64_ac h20) ⟨Y,Y,trivial⟩) (rm Y (rp Y (p_ext Y Y Y Y) (rp Y (p_ext Y Y Y Y) (ra Y (ra Y ?_)))))
  refine rz [(1,_),(2,_),(6,_),(14,.p (AV.u64 r'10.1)),(15,.p (AV.u64 r'10.2))] [(6,_)] Y (AW2_seq (sg [0,1] Y (rm Y (rp Y (p_u64ne (a:=r'10.1) (b:=(0:UInt64)) Y Y Y) (rz [(1,_),(2,_),(6,_),(15,_),(91,.b (decide (r'10.1≠(0:UInt64))))] [(6,_)] Y (if2 H Y (fun h21 H=>?_) (fun h21 H=>?_)))))))
  ·refine sg [0,1,2] Y (rp Y (u_bld Y in_32 one_32 zc_32 pl_32 Y Y) (rq Y (u_sw Y Y Y Y Y in_32 (GValue.len GValue.zero) (GValue.len GValue.zero) Y) (ra Y (rz [(6,_),(7,.i (6:Int))] [(6,.pure (GValue.cs GValue.zero))] Y (AW2_ret ?_)))))
   have z:=se H; subst z
   exact ⟨⟨rcw U32 Y in_32 Y (GValue.len GValue.zero),rt,trivial⟩,trivial⟩
  refine as2 [(1,_),(2,_),(6,_),(15,_)] [(6,_)] Y (AW2_skip (sg [0,1,2,3,4,5,6,7,8,9,10] Y (rm Y (rp Y (p_bin Y Y Y Y) (rm Y (rp Y (p_bin Y Y Y Y) ?_))))))
  refine rp Y (p_bnep Y U4 Y Y) (rm Y (bindK H fun r'11 h22 H=>rp Y (p_callp Y Y Y Tryz.func78 Y Y (g_ref_signed_ac h22) ⟨Y,Y,trivial⟩) (rp Y (p_ext Y Y Y Y) (rp Y (p_ext Y Y Y Y) (rq Y (u_sw Y Y Y Y Y in_32 (GValue.len r'11.1) (GValue.len GValue.zero) Y) ?_)))))
  refine ra Y (rz [(6,_),(7,.i r'11.2)] [(6,.pure (GValue.cs r'11.1))] Y (AW2_ret ?_))
  have z:=se H; subst z
  exact ⟨⟨rcw U32 Y in_32 Y (GValue.len r'11.1),rt,trivial⟩,trivial⟩
 refine as2 [(1,_),(2,_),(6,_)] [(6,_)] Y (AW2_skip (AW2_seq (sg [0,1] Y (rm Y (rp Y (p_ieq Y Y Y) (rz [(1,_),(2,_),(6,_),(103,.b (decide (b2=(0:Int))))] [(6,_)] Y ?_))))))
 refine if2 H Y (fun h23 H=>?_) (fun h23 H=>?_)
 ·refine sg [0,1,2] Y (rp Y (u_bld Y in_32 one_32 zc_32 pl_32 Y Y) (rq Y (u_sw Y Y Y Y Y in_32 (GValue.len GValue.zero) (GValue.len GValue.zero) Y) (ra Y (rz [(6,_),(7,.i (7:Int))] [(6,.pure (GValue.cs GValue.zero))] Y (AW2_ret ?_)))))
  have z:=se H; subst z
  exact ⟨⟨rcw U32 Y in_32 Y (GValue.len GValue.zero),rt,trivial⟩,trivial⟩
 refine as2 [(1,_),(2,_),(6,_)] [(6,_)] Y (AW2_skip (sg [0,1,2,3,4,5,6,7,8,9,10,11,12,13,14] Y (rm Y (rp Y (p_bin Y Y Y Y) (rm Y (rp Y (p_bin Y Y Y Y) ?_))))))
 refine rp Y (p_bnep Y U4 Y Y) (rm Y (bindK H fun r'12 h24 H=>rp Y (p_callp Y Y Y Tryz.func77 Y Y (g_ref_sizeOf_ac h24) ⟨Y,trivial⟩) (rm Y (bindK H fun r'13 h25 H=>rp Y (p_callp Y Y Y Tryz.func77 Y Y (g_ref_sizeOf_ac h25) ⟨Y,trivial⟩) ?_))))
 refine chkK H fun h26 H=>rp Y (p_u64quo (a:=r'12) (b:=r'13) Y Y Y h26) (bindK H fun r'14 h27 H=>rp Y (p_callp Y Y Y Tryz.func78 Y Y (g_ref_signed_ac h27) ⟨Y,Y,trivial⟩) (rp Y (p_ext Y Y Y Y) (rp Y (p_ext Y Y Y Y) (rq Y (u_sw Y Y Y Y Y in_32 (GValue.len r'14.1) (GValue.len GValue.zero) Y) ?_))))
 refine ra Y (rz [(6,_),(7,.i r'14.2)] [(6,.pure (GValue.cs r'14.1))] Y (AW2_ret ?_))
 have z:=se H; subst z
 exact ⟨⟨rcw U32 Y in_32 Y (GValue.len r'14.1),rt,trivial⟩,trivial⟩
noncomputable def g_ref_sign (n0:Int):Option (Int) :=
  (if n0 > (0:Int) then some (1:Int) else (if n0 < (0:Int) then some (-1:Int) else some (0:Int)))
set_option maxHeartbeats 4000000 in
set_option maxRecDepth 100000 in
theorem g_ref_sign_ac {n0:Int} {r:Int} (H:g_ref_sign n0=some r):ACp Tryz.prog 79 [(AV.int n0)] (AV.int r):=by
 refine ACp_of (AC2_of_body (vs:=[.i r]) Tryz.func79 Y Y (lb Y) Y ?_) (fun _=>.same _)
 unfold g_ref_sign at H
 refine as2 [(0,.i n0)] [] Y (sg [0] Y (ra Y (rz [(0,_)] [] Y (AW2_seq (sg [0,1] Y (rm Y ?_))))))
 refine rp Y (p_bin Y Y Y Y) (rz [(0,_),(4,.b (decide (n0 > (0:Int))))] [] Y (if2 H Y (fun h1 H=>?_) (fun h1 H=>?_)))
 ·refine sg [0] Y (ra Y (rz [(2,.i (1:Int))] [] Y (AW2_ret ?_)))
  have z:=se H; subst z
  exact ⟨⟨rt,trivial⟩,trivial⟩
 refine as2 [(0,_)] [] Y (AW2_skip (AW2_seq (sg [0,1] Y (rm Y (rp Y (p_bin Y Y Y Y) (rz [(6,.b (decide (n0 < (0:Int))))] [] Y ?_))))))
 refine if2 H Y (fun h2 H=>?_) (fun h2 H=>?_)
 ·refine sg [0] Y (ra Y (rz [(2,.i (-1:Int))] [] Y (AW2_ret ?_)))
  have z:=se H; subst z
  exact ⟨⟨rt,trivial⟩,trivial⟩
 refine as2 [] [] Y (AW2_skip (sg [0] Y (ra Y (rz [(2,.i (0:Int))] [] Y (AW2_ret ?_)))))
 have z:=se H; subst z
 exact ⟨⟨rt,trivial⟩,trivial⟩
noncomputable def g_ref_risen (b0:UInt64):Option (UInt64) :=
  (if b0 < (9223372036854775808:UInt64) then some (b0+(9223372036854775808:UInt64)) else some (~~~ b0))
set_option maxHeartbeats 4000000 in
set_option maxRecDepth 100000 in
theorem g_ref_risen_ac {b0:UInt64} {r:UInt64} (H:g_ref_risen b0=some r):ACp Tryz.prog 81 [(AV.u64 b0)] (AV.u64 r):=by
 refine ACp_of (AC2_of_body (vs:=[.p (AV.u64 r)]) Tryz.func81 Y Y (lb Y) Y ?_) (fun _=>.same _)
 unfold g_ref_risen at H
 refine as2 [(0,.p (AV.u64 b0))] [] Y (sg [0] Y (ra Y (rz [(0,_)] [] Y (AW2_seq (sg [0,1] Y (rm Y ?_))))))
 refine rp Y (p_u64lt (a:=b0) (b:=(9223372036854775808:UInt64)) Y Y Y) (rz [(0,_),(4,.b (decide (b0 < (9223372036854775808:UInt64))))] [] Y (if2 H Y (fun h1 H=>?_) (fun h1 H=>?_)))
 ·refine sg [0,1,2] Y (rm Y (rp Y (p_u64add (a:=b0) (b:=(9223372036854775808:UInt64)) Y Y Y) (ra Y (rz [(2,.p (AV.u64 (b0+(9223372036854775808:UInt64))))] [] Y (AW2_ret ?_)))))
  have z:=se H; subst z
  exact ⟨⟨rt,trivial⟩,trivial⟩
 refine as2 [(0,_)] [] Y (AW2_skip (sg [0,1,2] Y (rm Y (rp Y (p_u64cpl Y Y) (ra Y (rz [(2,.p (AV.u64 (~~~ b0)))] [] Y ?_))))))
 refine AW2_ret ?_
 have z:=se H; subst z
 exact ⟨⟨rt,trivial⟩,trivial⟩
noncomputable def g_ref_bitsOrder (a0:UInt64) (b1:UInt64):Option (Int) :=
  (if a0 < b1 then some (-1:Int) else (if b1 < a0 then some (1:Int) else some (0:Int)))
set_option maxHeartbeats 4000000 in
set_option maxRecDepth 100000 in
theorem g_ref_bitsOrder_ac {a0:UInt64} {b1:UInt64} {r:Int} (H:g_ref_bitsOrder a0 b1=some r):ACp Tryz.prog 80 [(AV.u64 a0),(AV.u64 b1)] (AV.int r):=by
 refine ACp_of (AC2_of_body (vs:=[.i r]) Tryz.func80 Y Y (lb Y) Y ?_) (fun _=>.same _)
 unfold g_ref_bitsOrder at H
 refine as2 [(0,.p (AV.u64 a0)),(1,.p (AV.u64 b1))] [] Y (sg [0] Y (ra Y (rz [(0,_),(1,_)] [] Y (AW2_seq (sg [0,1,2] Y (rm Y ?_))))))
 refine rm Y (rp Y (p_u64lt (a:=a0) (b:=b1) Y Y Y) (rz [(0,_),(1,_),(7,.b (decide (a0 < b1)))] [] Y (if2 H Y (fun h1 H=>?_) (fun h1 H=>?_))))
 ·refine sg [0] Y (ra Y (rz [(4,.i (-1:Int))] [] Y (AW2_ret ?_)))
  have z:=se H; subst z
  exact ⟨⟨rt,trivial⟩,trivial⟩
 refine as2 [(0,_),(1,_)] [] Y (AW2_skip (AW2_seq (sg [0,1,2] Y (rm Y (rm Y (rp Y (p_u64gt (a:=a0) (b:=b1) Y Y Y) ?_))))))
 refine rz [(10,.b (decide (b1 < a0)))] [] Y (if2 H Y (fun h2 H=>?_) (fun h2 H=>?_))
 ·refine sg [0] Y (ra Y (rz [(4,.i (1:Int))] [] Y (AW2_ret ?_)))
  have z:=se H; subst z
  exact ⟨⟨rt,trivial⟩,trivial⟩
 refine as2 [] [] Y (AW2_skip (sg [0] Y (ra Y (rz [(4,.i (0:Int))] [] Y (AW2_ret ?_)))))
 have z:=se H; subst z
 exact ⟨⟨rt,trivial⟩,trivial⟩
def g_ref_bytesOrder_r4:List (List (Nat×Option Nat)):=[[(0,none)],[(5,none)],[(18,some 0),(19,some 1)],[(1,none)],[(5,none)],[(21,some 3),(22,some 4)]]
def g_ref_bytesOrder_r4c:List (List Nat):=[[],[],[0,1],[],[],[3,4],[0,1,2,3,4,5]]
def g_ref_bytesOrder_r5:List (List (Nat×Option Nat)):=[[(0,none)],[(5,none)],[(25,some 0),(26,some 1)],[(1,none)],[(5,none)],[(28,some 3),(29,some 4)]]
def g_ref_bytesOrder_r5c:List (List Nat):=[[],[],[0,1],[],[],[3,4],[0,1,2,3,4,5]]
noncomputable def g_ref_bytesOrder_l0 (a0:List UInt8) (b1:List UInt8):Int→Option (Int⊕(Int⊕Unit))
  | i5_0=>(if (i5_0 < (a0.length:Int))∧(i5_0 < (b1.length:Int)) then if 0≤i5_0∧i5_0 < (a0.length:Int) then if 0≤i5_0∧i5_0 < (b1.length:Int) then (if (lrd a0 i5_0.toNat)≠(lrd b1 i5_0.toNat) then if 0≤i5_0∧i5_0 < (a0.length:Int) then if 0≤i5_0∧i5_0 < (b1.length:Int) then (if (lrd a0 i5_0.toNat) < (lrd b1 i5_0.toNat) then some (.inr (.inl (-1:Int))) else some (.inr (.inl (1:Int)))) else none else none else some (.inl (w64 (i5_0+(1:Int))))) else none else none else some (.inr (.inr ())))
noncomputable def g_ref_bytesOrder (a0:List UInt8) (b1:List UInt8):Option (Int) :=
  (loopO (g_ref_bytesOrder_l0 a0 b1) (0:Int)).bind fun o'4=>match o'4 with | .inl y'5=>some y'5 | .inr (y'6)=>(g_ref_sign (w64 ((a0.length:Int) - (b1.length:Int)))).bind fun r'7=>some r'7
set_option maxHeartbeats 4000000 in
set_option maxRecDepth 100000 in
theorem g_ref_bytesOrder_ac {a0:List UInt8} {b1:List UInt8} {r:Int} (H:g_ref_bytesOrder a0 b1=some r):ACp Tryz.prog 82 [(AV.txt a0),(AV.txt b1)] (AV.int r):=by
 refine ACp_of (AC2_of_body (vs:=[.i r]) Tryz.func82 Y Y (lb Y) Y ?_) (fun _=>.same _)
 unfold g_ref_bytesOrder at H
 refine as2 [(0,.t a0),(1,.t b1)] [] Y (sg [0] Y (ra Y (rz [(0,_),(1,_)] [] Y (AW2_seq (sg [0] Y (ra Y ?_))))))
 refine rz [(0,_),(1,_),(5,.i (0:Int))] [] Y (AW2_block (as2 [(0,_),(1,_),(5,_)] [] Y (bindK H fun o'4 h9 H=>AW2_loopO (fun a'1:Int=>(⟨[(0,.t a0),(1,.t b1),(5,.i a'1)],[],38⟩:TS)) (fun (o:Int⊕Unit) e s'=>match o with | .inl y'2=>e=Go.Exit.ret∧ResAll Tryz.prog s' [ResultVar.tmp 4] [.i y'2]∧HFits s' [] | .inr (y'3)=>e=Go.Exit.exit 0∧s'=(⟨[(0,.t a0),(1,.t b1)],[],38⟩:TS)) h9 Y (fun i5_0 x hx=>?_) (fun e s' hs=>?_))))
 ·clear H
  have H:=hx
  clear hx
  unfold g_ref_bytesOrder_l0 at H
  refine AW2_seq (AW2_seq (AW2_mid (⟨[(0,.t a0),(1,.t b1),(5,.i i5_0),(15,.b (decide ((i5_0 < (a0.length:Int))∧(i5_0 < (b1.length:Int)))))],[],38⟩:TS) ?_ ?_))
  ·refine AW2_reg [0,1,2,3,4,5,6,7,8,9] Y (rm Y (rm Y (rp Y (p_lent Y U9 Y) (rp Y (p_bin Y Y Y Y) (rm Y ?_)))))
   refine (Classical.em (i5_0 < (a0.length:Int))).elim (fun h1=>?_) (fun h1=>?_)
   ·exact rn Y (dT h1) Y (p_move Y Y) (rn Y (dT h1) Y (p_move Y Y) (rn Y (dT h1) Y (p_lent Y U9 Y) (rn Y (dT h1) Y (p_bin Y Y Y Y) (rp Y (p_pkt Y Y (dT h1) (tb ((and_l (p:=i5_0 < (a0.length:Int)) (q:=i5_0 < (b1.length:Int)) h1)))) (rend Y Y)))))
   exact rO Y (dF h1) Y (rO Y (dF h1) Y (rO Y (dF h1) Y (rO Y (dF h1) Y (rp Y (p_pkf Y Y (dF h1) (tb (dF (p:=(i5_0 < (a0.length:Int))∧(i5_0 < (b1.length:Int))) (fun x=>h1 x.1)).symm)) (rend Y Y)))))
  refine if2 H Y (fun h2 H=>?_) (fun h2 H=>?_)
  ·refine as2 [(0,_),(1,_),(5,_)] [] Y (AW2_skip (AW2_seq (AW2_block (AW2_seq (chkK H fun h3 H=>chkK H fun h4 H=>?_)))))
   refine AW2_ghoQ (AW2_draw 6 [6] (fun k=>([.t a0,.i i5_0,.p (AV.b8 (lrd a0 i5_0.toNat)),.t b1,.i i5_0,.p (AV.b8 (lrd b1 i5_0.toNat))]:List TV).getD k TV.any) (fun k=>g_ref_bytesOrder_r4.getD k []) [(0,none),(1,none),(5,none),(20,some 2),(23,some 5)] [] (fun k=>g_ref_bytesOrder_r4c.getD k []) mixed (by kernel_rfl) Y Y (a_op (g_x Y (x_p Y (p_move Y Y) Y)) (a_op (g_x Y (x_p Y (p_move Y Y) Y)) (a_op (g_x Y (x_p Y (p_ixt Y U9 Y Y (ixe h3) (lrd_get (ixn h3))) Y)) (a_op (g_x Y (x_p Y (p_move Y Y) Y)) (a_op (g_x Y (x_p Y (p_move Y Y) Y)) (a_op (g_x Y (x_p Y (p_ixt Y U9 Y Y (ixe h4) (lrd_get (ixn h4))) Y)) (a_nil))))))) (t_op Y Y (PureD.opD (p_u8ne (a:=(lrd a0 i5_0.toNat)) (b:=(lrd b1 i5_0.toNat)) Y Y Y)) (t_gho (Gho_st (L:=[(0,.t a0),(1,.t b1),(5,.i i5_0),(24,.b (decide ((lrd a0 i5_0.toNat)≠(lrd b1 i5_0.toNat))))]) (H:=[]) (N:=38) Y ⟨TLes.same _,TLes.same _,TLes.same _,TLes.same _,trivial⟩ trivial) (if2 H Y (fun h5 H=>?_) (fun h5 H=>?_)))))
   ·refine AW2_seq (AW2_seq (chkK H fun h6 H=>chkK H fun h7 H=>AW2_ghoQ (AW2_draw 6 [6] (fun k=>([.t a0,.i i5_0,.p (AV.b8 (lrd a0 i5_0.toNat)),.t b1,.i i5_0,.p (AV.b8 (lrd b1 i5_0.toNat))]:List TV).getD k TV.any) (fun k=>g_ref_bytesOrder_r5.getD k []) [(27,some 2),(30,some 5)] [] (fun k=>g_ref_bytesOrder_r5c.getD k []) mixed (by kernel_rfl) Y Y (a_op (g_x Y (x_p Y (p_move Y Y) Y)) (a_op (g_x Y (x_p Y (p_move Y Y) Y)) (a_op (g_x Y (x_p Y (p_ixt Y U9 Y Y (ixe h6) (lrd_get (ixn h6))) Y)) (a_op (g_x Y (x_p Y (p_move Y Y) Y)) (a_op (g_x Y (x_p Y (p_move Y Y) Y)) (a_op (g_x Y (x_p Y (p_ixt Y U9 Y Y (ixe h7) (lrd_get (ixn h7))) Y)) (a_nil))))))) (t_op Y Y (PureD.opD (p_u8lt (a:=(lrd a0 i5_0.toNat)) (b:=(lrd b1 i5_0.toNat)) Y Y Y)) ?_))))
    refine t_gho (Gho_st (L:=[(31,.b (decide ((lrd a0 i5_0.toNat) < (lrd b1 i5_0.toNat))))]) (H:=[]) (N:=38) Y ⟨TLes.same _,trivial⟩ trivial) (if2 H Y (fun h8 H=>?_) (fun h8 H=>?_))
    ·refine sg [0] Y (ra Y (rz [(4,.i (-1:Int))] [] Y (AW2_ret ?_)))
     have z:=se H; subst z
     exact ⟨Y,⟨rt,trivial⟩,trivial⟩
    refine as2 [] [] Y (AW2_skip (sg [0] Y (ra Y (rz [(4,.i (1:Int))] [] Y (AW2_ret ?_)))))
    have z:=se H; subst z
    exact ⟨Y,⟨rt,trivial⟩,trivial⟩
   refine as2 [(0,.t a0),(1,.t b1),(5,.i i5_0)] [] Y (AW2_skip (AW2_reg [0,1,2] Y (rm Y (rp Y (p_bin Y Y Y Y) (ra Y (rz [(0,_),(1,_),(5,.i (w64 (i5_0+(1:Int))))] [] Y ?_))))))
   have z:=se H; subst z
   exact ⟨Y,Y⟩
  refine as2 [(0,_),(1,_)] [] Y (AW2_exit (thenQ2_exit ?_))
  have z:=se H; subst z
  exact ⟨Y,Y⟩
 rcases o'4 with y'5 | y'6
 ·obtain ⟨rfl,hs⟩:=hs
  refine ⟨by simp,?_⟩
  have z:=se H; subst z
  exact ⟨hs.1,hs.2⟩
 obtain ⟨rfl,rfl⟩:=hs
 refine ⟨by simp,?_⟩
 refine blockQ2_exit (sg [0,1,2,3,4,5,6] Y (rm Y (rp Y (p_lent Y U9 Y) (rm Y (rp Y (p_lent Y U9 Y) (rp Y (p_bin Y Y Y Y) ?_))))))
 refine bindK H fun r'7 h10 H=>rp Y (p_callp Y Y Y Tryz.func79 Y Y (g_ref_sign_ac h10) ⟨Y,trivial⟩) (ra Y (rz [(4,.i r'7)] [] Y (AW2_ret ?_)))
 have z:=se H; subst z
 exact ⟨⟨rt,trivial⟩,trivial⟩
def g_ref_Order_r5:List (List (Nat×Option Nat)):=[[(2,none)],[(20,some 0)],[(21,some 1)],[(3,none)],[(23,some 3)]]
def g_ref_Order_r5c:List (List Nat):=[[],[0],[0,1],[],[3],[0,1,2,3,4],[0,1,2,3,4,5],[0,1,2,3,4,5,6]]
noncomputable def g_ref_Order (a0:GValue) (b1:GValue):Option (Int) :=
  (if a0.Kind≠b1.Kind then (g_ref_sign (w64 (a0.Kind - b1.Kind))).bind fun r'1=>some r'1 else (if a0.Kind=(3:Int) then (g_ref_risen a0.Bits).bind fun r'2=>(g_ref_risen b1.Bits).bind fun r'3=>(g_ref_bitsOrder r'2 r'3).bind fun r'4=>some r'4 else (if a0.Kind=(4:Int) then (g_ref_bytesOrder a0.Text b1.Text).bind fun r'5=>some r'5 else (g_ref_bitsOrder ((UInt64.ofInt a0.Int_)+(9223372036854775808:UInt64)) ((UInt64.ofInt b1.Int_)+(9223372036854775808:UInt64))).bind fun r'6=>some r'6)))
set_option maxHeartbeats 4000000 in
set_option maxRecDepth 100000 in
theorem g_ref_Order_ac {a0:GValue} {b1:GValue} {r:Int} (H:g_ref_Order a0 b1=some r):ACp Tryz.prog 57 [(.agg (GValue.cs a0)),(.agg (GValue.cs b1))] (AV.int r):=by
 refine ACp_of (AC2_of_body (vs:=[.i r]) Tryz.func57 Y Y (lb Y) Y ?_) (fun _=>.same _)
 unfold g_ref_Order at H
 refine as2 [(0,.g (GValue.cs a0)),(1,.g (GValue.cs b1))] [] Y (sg [0,1,2] Y (rq Y (MakeD.opD (n_box 2 Y Y) Y Y Y Y) (rq Y (MakeD.opD (n_box 3 Y Y) Y Y Y Y) (ra Y (rz [(2,.q 2 (0)),(3,.q 3 (0))] [(2,.pure (GValue.cs a0)),(3,.pure (GValue.cs b1))] Y (AW2_seq ?_))))))
 refine sg [0,1,2,3,4] Y (rf Y U32 Y in_3 Y Y (GValue.len a0) (rp Y (u_ld Y Y U3 Y Y (GValue.sub0 a0)) (rf Y U32 Y in_3 Y Y (GValue.len b1) (rp Y (u_ld Y Y U3 Y Y (GValue.sub0 b1)) (rp Y (p_ine Y Y Y) (rz [(2,_),(3,_),(9,.b (decide (a0.Kind≠b1.Kind)))] [(2,_),(3,_)] Y ?_))))))
 refine if2 H Y (fun h1 H=>?_) (fun h1 H=>?_)
 ·refine sg [0,1,2,3,4,5,6] Y (rf Y U32 Y in_3 Y Y (GValue.len a0) (rp Y (u_ld Y Y U3 Y Y (GValue.sub0 a0)) (rf Y U32 Y in_3 Y Y (GValue.len b1) (rp Y (u_ld Y Y U3 Y Y (GValue.sub0 b1)) (rp Y (p_bin Y Y Y Y) (bindK H fun r'1 h2 H=>?_))))))
  refine rp Y (p_callp Y Y Y Tryz.func79 Y Y (g_ref_sign_ac h2) ⟨Y,trivial⟩) (ra Y (rz [(4,.i r'1)] [] Y (AW2_ret ?_)))
  have z:=se H; subst z
  exact ⟨⟨rt,trivial⟩,trivial⟩
 refine as2 [(2,_),(3,_)] [(2,_),(3,_)] Y (AW2_skip (AW2_seq (sg [0,1] Y (rf Y U32 Y in_3 Y Y (GValue.len a0) (rp Y (u_ld Y Y U3 Y Y (GValue.sub0 a0)) (rz [(2,_),(3,_),(17,.i a0.Kind)] [(2,_),(3,_)] Y ?_))))))
 refine AW2_block (sg [0,1] Y (rp Y (p_ieq Y Y Y) (ra Y (rz [(2,_),(3,_),(17,_),(18,.b (decide (a0.Kind=(3:Int))))] [(2,_),(3,_)] Y (if2 H Y (fun h3 H=>?_) (fun h3 H=>?_))))))
 ·refine AW2_seq (bindK H fun r'2 h4 H=>bindK H fun r'3 h5 H=>bindK H fun r'4 h6 H=>AW2_ghoQ (AW2_draw 5 [5,6,7] (fun k=>([.q 2 (0+2),.p (AV.u64 a0.Bits),.p (AV.u64 r'2),.q 3 (0+2),.p (AV.u64 b1.Bits)]:List TV).getD k TV.any) (fun k=>g_ref_Order_r5.getD k []) [(22,some 2),(24,some 4)] [] (fun k=>g_ref_Order_r5c.getD k []) mixed (by kernel_rfl) Y Y (a_op (g_x Y (x_p Y (u_fa Y Y U32 Y in_30 nz Y Y (nl (GValue.len a0))) Y)) (a_op (g_x Y (x_p Y (u_ld Y Y U30 Y Y (GValue.sub2 a0)) Y)) (a_op (g_x Y (x_p Y (p_callp Y Y Y Tryz.func81 Y Y (g_ref_risen_ac h4) ⟨Y,trivial⟩) Y)) (a_op (g_x Y (x_p Y (u_fa Y Y U32 Y in_30 nz Y Y (nl (GValue.len b1))) Y)) (a_op (g_x Y (x_p Y (u_ld Y Y U30 Y Y (GValue.sub2 b1)) Y)) (a_nil)))))) (t_op Y Y (PureD.opD (p_callp Y Y Y Tryz.func81 Y Y (g_ref_risen_ac h5) ⟨Y,trivial⟩)) ?_)))
  refine t_op Y Y (PureD.opD (p_callp Y Y Y Tryz.func80 Y Y (g_ref_bitsOrder_ac h6) ⟨Y,Y,trivial⟩)) (t_op Y Y (PureD.opD (p_asg Y Y)) (t_gho (Gho_st (L:=[(4,.i r'4)]) (H:=[]) (N:=43) Y ⟨TLes.same _,trivial⟩ trivial) (AW2_ret ?_)))
  have z:=se H; subst z
  exact ⟨⟨rt,trivial⟩,trivial⟩
 refine sg [0,1] Y (rp Y (p_ieq Y Y Y) (ra Y (rz [(2,_),(3,_),(27,.b (decide (a0.Kind=(4:Int))))] [(2,_),(3,_)] Y (if2 H Y (fun h7 H=>?_) (fun h7 H=>?_)))))
 ·refine sg [0,1,2,3,4,5] Y (rf Y U32 Y in_9 Y Y (GValue.len a0) (rp Y (u_ld Y Y U9 Y Y (GValue.sub3 a0)) (rf Y U32 Y in_9 Y Y (GValue.len b1) (rp Y (u_ld Y Y U9 Y Y (GValue.sub3 b1)) (bindK H fun r'5 h8 H=>rp Y (p_callp Y Y Y Tryz.func82 Y Y (g_ref_bytesOrder_ac h8) ⟨Y,Y,trivial⟩) ?_)))))
  refine ra Y (rz [(4,.i r'5)] [] Y (AW2_ret ?_))
  have z:=se H; subst z
  exact ⟨⟨rt,trivial⟩,trivial⟩
 refine as2 [(2,_),(3,_)] [(2,_),(3,_)] Y (AW2_skip (sg [0,1,2,3,4,5,6,7,8,9] Y (rf Y U32 Y in_3 Y Y (GValue.len a0) (rp Y (u_ld Y Y U3 Y Y (GValue.sub1 a0)) (rp Y (p_i_u64 Y U3 U30 Y) (rp Y (p_u64add (a:=UInt64.ofInt a0.Int_) (b:=(9223372036854775808:UInt64)) Y Y Y) ?_))))))
 refine rf Y U32 Y in_3 Y Y (GValue.len b1) (rp Y (u_ld Y Y U3 Y Y (GValue.sub1 b1)) (rp Y (p_i_u64 Y U3 U30 Y) (rp Y (p_u64add (a:=UInt64.ofInt b1.Int_) (b:=(9223372036854775808:UInt64)) Y Y Y) (bindK H fun r'6 h9 H=>rp Y (p_callp Y Y Y Tryz.func80 Y Y (g_ref_bitsOrder_ac h9) ⟨Y,Y,trivial⟩) (ra Y ?_)))))
 refine rz [(4,.i r'6)] [] Y (AW2_ret ?_)
 have z:=se H; subst z
 exact ⟨⟨rt,trivial⟩,trivial⟩
def g_ref_did_r15:List (List (Nat×Option Nat)):=[[(0,none)],[(59,some 0)],[(60,some 1)],[(4,none)],[(62,some 3)],[(5,none)],[(64,some 5)],[(61,some 2),(63,some 4),(65,some 6)],[(66,some 7)],[(58,some 8)],[(58,some 8)],[(67,some 9)]]
def g_ref_did_r15c:List (List Nat):=[[],[0],[0,1],[],[3],[],[3,4,5],[0,1,2,3,4,5,6],[0,1,2,3,4,5,6,7],[0,1,2,3,4,5,6,7,8],[0,1,2,3,4,5,6,7,8],[0,1,2,3,4,5,6,7,8,9],[0,1,2,3,4,5,6,7,8,9,10,11]]
noncomputable def g_ref_did_l0 (v1:GValue) (w2:GValue) (r'1:Int×Int):Int→Option (Int⊕((GValue×Int)⊕Unit))
  | t28_0=>(if t28_0 < (([v1,w2]:List GValue).length:Int) then if 0≤t28_0∧t28_0 < (([v1,w2]:List GValue).length:Int) then (if ((r'1.1≠(0:Int))∧((lrd ([v1,w2]:List GValue) t28_0.toNat).Kind≠(0:Int)))∧((lrd ([v1,w2]:List GValue) t28_0.toNat).Kind≠r'1.1) then some (.inr (.inl (GValue.zero,(2:Int)))) else some (.inl (w64 (t28_0+(1:Int))))) else none else some (.inr (.inr ())))
noncomputable def g_ref_did (op0:Int) (v1:GValue) (w2:GValue):Option (GValue×Int) :=
  (g_ref_asksFor op0).bind fun r'1=>(loopO (g_ref_did_l0 v1 w2 r'1) (0:Int)).bind fun o'5=>match o'5 with | .inl y'6=>some y'6 | .inr (y'7)=>(if op0=(17:Int) then (if v1.Kind=(0:Int) then (g_ref_boolOf (2:Int)).bind fun r'8=>some (r'8,(0:Int)) else (g_ref_boolOf (0:Int)).bind fun r'9=>some (r'9,(0:Int))) else ((if op0=(15:Int) then some (decide (op0=(15:Int))) else some (decide (op0=(16:Int))))).bind fun j'10=>(if j'10=true then (g_ref_truthOf v1).bind fun r'11=>(g_ref_truthOf w2).bind fun r'12=>(g_ref_Logic (w64 ((w64 ((1:Int)+op0)) - (15:Int))) r'11 r'12).bind fun r'13=>(g_ref_boolOf r'13.1).bind fun r'14=>some (r'14,(0:Int)) else (if op0=(4:Int) then (g_ref_truthOf v1).bind fun r'15=>(g_ref_Opposite r'15).bind fun r'16=>(g_ref_boolOf r'16.1).bind fun r'17=>some (r'17,(0:Int)) else (if op0=(20:Int) then some (w2,(0:Int)) else (if (v1.Kind=(0:Int))∨(((w2.Kind=(0:Int))∧(op0≠(3:Int)))∧(op0≠(18:Int))) then some (GValue.zero,(0:Int)) else (if op0=(3:Int) then (g_ref_reckoned (6:Int) (0:Int) v1.Int_).bind fun r'18=>some (r'18.1,r'18.2) else (if op0=(18:Int) then (g_utf8_RuneCountInString v1.Text).bind fun r'19=>(g_ref_intOf r'19).bind fun r'20=>some (r'20.1,r'20.2) else (if op0=(19:Int) then if v1.Text.length+w2.Text.length≤9223372036854775807 then (if ((v1.Text++w2.Text).length:Int) > (40:Int) then some (GValue.zero,(1:Int)) else letO ({ { GValue.zero with Kind:=(4:Int) } with Text:=v1.Text++w2.Text }) fun t6'21=>some (t6'21,(0:Int))) else none else ((if op0=(5:Int) then some (decide (op0=(5:Int))) else (if op0=(6:Int) then some (decide (op0=(6:Int))) else (if op0=(7:Int) then some (decide (op0=(7:Int))) else some (decide (op0=(8:Int))))))).bind fun j'22=>(if j'22=true then (g_ref_reckoned op0 v1.Int_ w2.Int_).bind fun r'23=>some (r'23.1,r'23.2) else (if v1.Kind≠w2.Kind then some (GValue.zero,(2:Int)) else (g_ref_Order v1 w2).bind fun r'24=>letO (([(2:Int),(5:Int),(1:Int),(3:Int),(4:Int),(6:Int)]:List Int)) fun which18'25=>if 0≤w64 (op0 - (9:Int))∧w64 (op0 - (9:Int)) < (which18'25.length:Int) then if 0≤w64 (r'24+(1:Int)) then (if iand (ishr (lrd which18'25 ((w64 (op0 - (9:Int))).toNat)) ((w64 (r'24+(1:Int))).toNat)) (1:Int)=(1:Int) then (g_ref_boolOf (2:Int)).bind fun r'26=>some (r'26,(0:Int)) else (g_ref_boolOf (0:Int)).bind fun r'27=>some (r'27,(0:Int))) else none else none))))))))))
set_option maxHeartbeats 4000000 in
set_option maxRecDepth 100000 in
theorem g_ref_did_ac {op0:Int} {v1:GValue} {w2:GValue} {r:GValue×Int} (H:g_ref_did op0 v1 w2=some r):ACp Tryz.prog 40 [(AV.int op0),(.agg (GValue.cs v1)),(.agg (GValue.cs w2))] (.tup [(.agg (GValue.cs r.1)),(AV.int r.2)]):=by
 refine ACp_of (AC2_of_body (vs:=[.g (GValue.cs r.1),.i r.2]) Tryz.func40 Y Y (lb Y) Y ?_) (fun _=>.same _)
 unfold g_ref_did at H
 refine as2 [(0,.i op0),(1,.g (GValue.cs v1)),(2,.g (GValue.cs w2))] [] Y (sg [0,1,2,3] Y (rq Y (MakeD.opD (n_box 4 Y Y) Y Y Y Y) (rq Y (MakeD.opD (n_box 5 Y Y) Y Y Y Y) (rq Y (MakeD.opD (u_alloc 6 Y in_32 one_32 zc_32) Y Y Y Y) (ra Y (rz [(0,_),(4,.q 4 (0)),(5,.q 5 (0)),(6,.q 6 (0))] [(4,.pure (GValue.cs v1)),(5,.pure (GValue.cs w2)),(6,.pure (GValue.cs GValue.zero))] Y ?_))))))
 refine sg [0,1,2,3,4,5,6] Y (rm Y (bindK H fun r'1 h1 H=>rp Y (p_callp Y Y Y Tryz.func50 Y Y (g_ref_asksFor_ac h1) ⟨Y,trivial⟩) (rm Y (rp Y (p_ext Y Y Y Y) (rp Y (p_ext Y Y Y Y) ?_)))))
 refine ra Y (ra Y (rz [(0,_),(4,_),(5,_),(6,_),(8,.i r'1.1)] [(4,_),(5,_),(6,_)] Y (AW2_seq (sg [0,1,2,3,4] Y (rp Y (u_lda Y Y U32 Y in_32 Y np (Sub.refl _) (GValue.len v1)) (rp Y (u_lda Y Y U32 Y in_32 Y np (Sub.refl _) (GValue.len w2)) ?_))))))
 refine rq Y (MakeD.opD (u_bs 26 Y U23 in_32 Y one_32 (by decide) (by decide) zc_32 Y (af_lit (g:=GValue.cs) (fun x=>(GValue.len x)) (GValue.len GValue.zero) [v1,w2])) Y Y Y Y) (rp Y (p_leno Y U23 Y Y Y (fm_length (fun x=>(GValue.len x)) ([v1,w2]:List GValue)) (by decide)) (rm Y (RunW_st [(0,.i op0),(4,.q 4 (0)),(5,.q 5 (0)),(6,.q 6 (0)),(8,.i r'1.1),(26,.c (.own 26 ([v1,w2]:List GValue).length 4)),(27,.i (([v1,w2]:List GValue).length:Int)),(28,.i (0:Int))] [(4,.pure (GValue.cs v1)),(5,.pure (GValue.cs w2)),(6,.pure (GValue.cs GValue.zero)),(26,.pure (([v1,w2]:List GValue).flatMap GValue.cs))] Y ⟨TLes.same _,TLes.same _,TLes.same _,TLes.same _,TLes.same _,TLes.own Y,TLes.same _,TLes.same _,trivial⟩ ⟨Y,Y,Y,Y,trivial⟩ (RunW_nil (AW2_block (as2 [(0,.i op0),(4,.q 4 (0)),(5,.q 5 (0)),(6,.q 6 (0)),(8,.i r'1.1),(26,.c (.own 26 ([v1,w2]:List GValue).length 4)),(27,.i (([v1,w2]:List GValue).length:Int)),(28,.i (0:Int))] [(4,.pure (GValue.cs v1)),(5,.pure (GValue.cs w2)),(6,.pure (GValue.cs GValue.zero)),(26,.pure (([v1,w2]:List GValue).flatMap GValue.cs))] Y ?_))))))
 refine bindK H fun o'5 h7 H=>AW2_loopO (fun a'2:Int=>(⟨[(0,.i op0),(4,.q 4 (0)),(5,.q 5 (0)),(6,.q 6 (0)),(8,.i r'1.1),(26,.c (.own 26 ([v1,w2]:List GValue).length 4)),(27,.i (([v1,w2]:List GValue).length:Int)),(28,.i a'2)],[(4,.pure (GValue.cs v1)),(5,.pure (GValue.cs w2)),(6,.pure (GValue.cs GValue.zero)),(26,.pure (([v1,w2]:List GValue).flatMap GValue.cs))],165⟩:TS)) (fun (o:(GValue×Int)⊕Unit) e s'=>match o with | .inl y'3=>e=Go.Exit.ret∧ResAll Tryz.prog s' [ResultVar.cell 6 32,ResultVar.tmp 7] [.g (GValue.cs y'3.1),.i y'3.2]∧HFits s' [] | .inr (y'4)=>e=Go.Exit.exit 0∧s'=(⟨[(0,.i op0),(4,.q 4 (0)),(5,.q 5 (0)),(6,.q 6 (0))],[(4,.pure (GValue.cs v1)),(5,.pure (GValue.cs w2)),(6,.pure (GValue.cs GValue.zero))],165⟩:TS)) h7 Y (fun t28_0 x hx=>?_) (fun e s' hs=>?_)
 ·clear H
  have H:=hx
  clear hx
  unfold g_ref_did_l0 at H
  refine sg [0] Y (rp Y (p_bin Y Y Y Y) (rz [(0,.i op0),(4,.q 4 (0)),(5,.q 5 (0)),(6,.q 6 (0)),(8,.i r'1.1),(26,.c (.own 26 ([v1,w2]:List GValue).length 4)),(27,.i (([v1,w2]:List GValue).length:Int)),(28,.i t28_0),(29,.b (decide (t28_0 < (([v1,w2]:List GValue).length:Int))))] [(4,.pure (GValue.cs v1)),(5,.pure (GValue.cs w2)),(6,.pure (GValue.cs GValue.zero)),(26,.pure (([v1,w2]:List GValue).flatMap GValue.cs))] Y (AW2_seq (if2 H Y (fun h2 H=>?_) (fun h2 H=>?_)))))
  ·refine as2 [(0,_),(4,_),(5,_),(6,_),(8,_),(26,_),(27,_),(28,_)] [(4,_),(5,_),(6,_),(26,_)] Y (AW2_skip (AW2_seq (AW2_block (sg [0,1,2,3] Y (chkK H fun h3 H=>rp Y (u_ixo Y Y U23 in_32 Y Y (fne (fun x=>(GValue.len x)) (by decide) (ixn h3)) Y (ixe h3) (ixn h3)) ?_)))))
   refine rp Y (u_lda Y Y U32 Y in_32 Y np ((Sub.refl _).trans (Sub.fm default (fun x=>(GValue.len x)) (ixn h3))) (GValue.len (lrd ([v1,w2]:List GValue) t28_0.toNat))) (rq Y (MakeD.opD (u_alloc 11 Y in_32 one_32 zc_32) Y Y Y Y) (rq Y (u_sw Y Y Y Y Y in_32 (GValue.len (lrd ([v1,w2]:List GValue) t28_0.toNat)) (GValue.len GValue.zero) Y) (rz [(0,_),(4,_),(5,_),(6,_),(8,_),(11,.q 11 (0)),(26,_),(27,_),(28,_)] [(4,.pure (GValue.cs v1)),(5,.pure (GValue.cs w2)),(6,.pure (GValue.cs GValue.zero)),(11,.pure (GValue.cs (lrd ([v1,w2]:List GValue) t28_0.toNat))),(26,.pure (([v1,w2]:List GValue).flatMap GValue.cs))] Y (AW2_seq (AW2_mid (⟨[(0,.i op0),(4,.q 4 (0)),(5,.q 5 (0)),(6,.q 6 (0)),(8,.i r'1.1),(26,.c (.own 26 ([v1,w2]:List GValue).length 4)),(27,.i (([v1,w2]:List GValue).length:Int)),(28,.i t28_0),(44,.b (decide (((r'1.1≠(0:Int))∧((lrd ([v1,w2]:List GValue) t28_0.toNat).Kind≠(0:Int)))∧((lrd ([v1,w2]:List GValue) t28_0.toNat).Kind≠r'1.1))))],[(4,.pure (GValue.cs v1)),(5,.pure (GValue.cs w2)),(6,.pure (GValue.cs GValue.zero)),(26,.pure (([v1,w2]:List GValue).flatMap GValue.cs))],165⟩:TS) ?_ ?_)))))
   ·refine AW2_reg [0,1,2,3,4,5,6,7,8,9,10,11,12] Y (rm Y (rp Y (p_ine Y Y Y) (rm Y ?_)))
    refine (Classical.em (r'1.1≠(0:Int))).elim (fun h4=>?_) (fun h4=>?_)
    ·refine rn Y (dT h4) Y (u_fa Y Y U32 Y in_3 nz Y Y (nl (GValue.len (lrd ([v1,w2]:List GValue) t28_0.toNat)))) (rn Y (dT h4) Y (u_ld Y Y U3 Y Y (GValue.sub0 (lrd ([v1,w2]:List GValue) t28_0.toNat))) (rn Y (dT h4) Y (p_ine Y Y Y) (rp Y (p_pkt Y Y (dT h4) (tb ((and_l (p:=r'1.1≠(0:Int)) (q:=(lrd ([v1,w2]:List GValue) t28_0.toNat).Kind≠(0:Int)) h4)))) (rm Y ?_))))
     refine (Classical.em ((lrd ([v1,w2]:List GValue) t28_0.toNat).Kind≠(0:Int))).elim (fun h5=>?_) (fun h5=>?_)
     ·have qq1:=dT (p:=(r'1.1≠(0:Int))∧((lrd ([v1,w2]:List GValue) t28_0.toNat).Kind≠(0:Int))) ⟨h4,h5⟩
      exact rn Y qq1 Y (u_fa Y Y U32 Y in_3 nz Y Y (nl (GValue.len (lrd ([v1,w2]:List GValue) t28_0.toNat)))) (rn Y qq1 Y (u_ld Y Y U3 Y Y (GValue.sub0 (lrd ([v1,w2]:List GValue) t28_0.toNat))) (rn Y qq1 Y (p_move Y Y) (rn Y qq1 Y (p_ine Y Y Y) (rp Y (p_pkt Y Y qq1 (tb ((and_l (p:=(r'1.1≠(0:Int))∧((lrd ([v1,w2]:List GValue) t28_0.toNat).Kind≠(0:Int))) (q:=(lrd ([v1,w2]:List GValue) t28_0.toNat).Kind≠r'1.1) ⟨h4,h5⟩)))) (rend Y Y)))))
     have qq2:=dF (p:=(r'1.1≠(0:Int))∧((lrd ([v1,w2]:List GValue) t28_0.toNat).Kind≠(0:Int))) (fun h=>h5 h.2)
     iterate 4 (refine rO Y qq2 Y ?_)
     exact rp Y (p_pkf Y Y qq2 (tb (dF (p:=((r'1.1≠(0:Int))∧((lrd ([v1,w2]:List GValue) t28_0.toNat).Kind≠(0:Int)))∧((lrd ([v1,w2]:List GValue) t28_0.toNat).Kind≠r'1.1)) (fun x=>(fun h=>h5 h.2) x.1)).symm)) (rend Y Y)
    iterate 3 (refine rO Y (dF h4) Y ?_)
    refine rp Y (p_pkf Y Y (dF h4) (tb (dF (p:=(r'1.1≠(0:Int))∧((lrd ([v1,w2]:List GValue) t28_0.toNat).Kind≠(0:Int))) (fun x=>h4 x.1)).symm)) (rm Y ?_)
    have qq3:=dF (p:=(r'1.1≠(0:Int))∧((lrd ([v1,w2]:List GValue) t28_0.toNat).Kind≠(0:Int))) (fun h=>h4 h.1)
    iterate 4 (refine rO Y qq3 Y ?_)
    exact rp Y (p_pkf Y Y qq3 (tb (dF (p:=((r'1.1≠(0:Int))∧((lrd ([v1,w2]:List GValue) t28_0.toNat).Kind≠(0:Int)))∧((lrd ([v1,w2]:List GValue) t28_0.toNat).Kind≠r'1.1)) (fun x=>(fun h=>h4 h.1) x.1)).symm)) (rend Y Y)
   refine if2 H Y (fun h6 H=>?_) (fun h6 H=>?_)
   ·refine sg [0,1,2] Y (rp Y (u_bld Y in_32 one_32 zc_32 pl_32 Y Y) (rq Y (u_sw Y Y Y Y Y in_32 (GValue.len GValue.zero) (GValue.len GValue.zero) Y) (ra Y (rz [(6,_),(7,.i (2:Int))] [(6,.pure (GValue.cs GValue.zero))] Y (AW2_ret ?_)))))
    have z:=se H; subst z
    exact ⟨Y,⟨rcw U32 Y in_32 Y (GValue.len GValue.zero),rt,trivial⟩,trivial⟩
   refine as2 [(0,_),(4,_),(5,_),(6,_),(8,_),(26,_),(27,_),(28,_)] [(4,_),(5,_),(6,_),(26,_)] Y (AW2_skip (AW2_reg [0,1] Y (rp Y (p_bin Y Y Y Y) (rm Y (rz [(0,_),(4,_),(5,_),(6,_),(8,_),(26,_),(27,_),(28,.i (w64 (t28_0+(1:Int))))] [(4,_),(5,_),(6,_),(26,_)] Y ?_)))))
   have z:=se H; subst z
   exact ⟨Y,Y⟩
  refine as2 [(0,_),(4,_),(5,_),(6,_)] [(4,_),(5,_),(6,_)] Y (AW2_exit (thenQ2_exit ?_))
  have z:=se H; subst z
  exact ⟨Y,Y⟩
 rcases o'5 with y'6 | y'7
 ·obtain ⟨rfl,hs⟩:=hs
  refine ⟨by simp,?_⟩
  have z:=se H; subst z
  exact ⟨hs.1,hs.2⟩
 obtain ⟨rfl,rfl⟩:=hs
 refine ⟨by simp,?_⟩
 refine blockQ2_exit (AW2_seq (sg [0] Y (rm Y (rz [(0,.i op0),(4,.q 4 (0)),(5,.q 5 (0)),(6,.q 6 (0)),(47,.i op0)] [(4,.pure (GValue.cs v1)),(5,.pure (GValue.cs w2)),(6,.pure (GValue.cs GValue.zero))] Y (AW2_block (sg [0,1] Y ?_))))))
 refine rp Y (p_ieq Y Y Y) (ra Y (rz [(0,_),(4,_),(5,_),(6,_),(47,_),(48,.b (decide (op0=(17:Int))))] [(4,_),(5,_),(6,_)] Y (if2 H Y (fun h8 H=>?_) (fun h8 H=>?_))))
 ·refine AW2_seq (sg [0,1,2] Y (rf Y U32 Y in_3 Y Y (GValue.len v1) (rp Y (u_ld Y Y U3 Y Y (GValue.sub0 v1)) (rp Y (p_ieq Y Y Y) (rz [(6,_),(52,.b (decide (v1.Kind=(0:Int))))] [(6,_)] Y (if2 H Y (fun h9 H=>?_) (fun h9 H=>?_)))))))
  ·refine sg [0,1,2] Y (bindK H fun r'8 h10 H=>rp Y (p_callp Y Y Y Tryz.func37 Y Y (g_ref_boolOf_ac h10) ⟨Y,trivial⟩) (rq Y (u_sw Y Y Y Y Y in_32 (GValue.len r'8) (GValue.len GValue.zero) Y) (ra Y (rz [(6,_),(7,.i (0:Int))] [(6,.pure (GValue.cs r'8))] Y (AW2_ret ?_)))))
   have z:=se H; subst z
   exact ⟨⟨rcw U32 Y in_32 Y (GValue.len r'8),rt,trivial⟩,trivial⟩
  refine as2 [(6,_)] [(6,_)] Y (AW2_skip (sg [0,1,2] Y (bindK H fun r'9 h11 H=>rp Y (p_callp Y Y Y Tryz.func37 Y Y (g_ref_boolOf_ac h11) ⟨Y,trivial⟩) (rq Y (u_sw Y Y Y Y Y in_32 (GValue.len r'9) (GValue.len GValue.zero) Y) (ra Y ?_)))))
  refine rz [(6,_),(7,.i (0:Int))] [(6,.pure (GValue.cs r'9))] Y (AW2_ret ?_)
  have z:=se H; subst z
  exact ⟨⟨rcw U32 Y in_32 Y (GValue.len r'9),rt,trivial⟩,trivial⟩
 refine AW2_seq (bindK H fun j'10 h12 H=>AW2_mid (⟨[(0,.i op0),(4,.q 4 (0)),(5,.q 5 (0)),(6,.q 6 (0)),(47,.i op0),(55,.b j'10)],[(4,.pure (GValue.cs v1)),(5,.pure (GValue.cs w2)),(6,.pure (GValue.cs GValue.zero))],165⟩:TS) ?_ ?_)
 ·clear H
  have H:=h12
  clear h12
  refine sg [0,1] Y (rp Y (p_ieq Y Y Y) (ra Y (rz [(0,.i op0),(4,.q 4 (0)),(5,.q 5 (0)),(6,.q 6 (0)),(47,.i op0),(55,.b (decide (op0=(15:Int))))] [(4,.pure (GValue.cs v1)),(5,.pure (GValue.cs w2)),(6,.pure (GValue.cs GValue.zero))] Y (if2 H Y (fun h13 H=>?_) (fun h13 H=>?_)))))
  ·refine AW2_skip ?_
   have z:=se H; subst z
   exact rfl
  refine AW2_reg [0,1] Y (rp Y (p_ieq Y Y Y) (ra Y (rz [(0,_),(4,_),(5,_),(6,_),(47,_),(55,.b (decide (op0=(16:Int))))] [(4,_),(5,_),(6,_)] Y ?_)))
  have z:=se H; subst z
  exact rfl
 refine AW2_cond Y (fun h14=>?_) (fun h14=>?_)
 ·replace H:=ite_then h14 H
  refine AW2_seq (bindK H fun r'11 h15 H=>bindK H fun r'12 h16 H=>bindK H fun r'13 h17 H=>AW2_ghoQ (AW2_draw 12 [12] (fun k=>([.i op0,.i (w64 ((1:Int)+op0)),.i (w64 ((w64 ((1:Int)+op0)) - (15:Int))),.g (GValue.cs v1),.i r'11,.g (GValue.cs w2),.i r'12,.p (.tup [(AV.int r'13.1),(AV.int r'13.2)]),.p (.tup [(AV.int r'13.1),(AV.int r'13.2)]),.i r'13.1,.i r'13.2,.i r'13.1]:List TV).getD k TV.any) (fun k=>g_ref_did_r15.getD k []) [(6,none),(12,some 11),(68,some 10)] [] (fun k=>g_ref_did_r15c.getD k []) mixed (by kernel_rfl) Y Y (a_op (g_x Y (x_p Y (p_move Y Y) Y)) (a_op (g_x Y (x_p Y (p_bin Y Y Y Y) Y)) (a_op (g_x Y (x_p Y (p_bin Y Y Y Y) Y)) (a_op (g_x Y (x_p Y (u_lda Y Y U32 Y in_32 Y np (Sub.refl _) (GValue.len v1)) Y)) (a_op (g_x Y (x_p Y (p_callp Y Y Y Tryz.func52 Y Y (g_ref_truthOf_ac h15) ⟨Y,trivial⟩) Y)) (a_op (g_x Y (x_p Y (u_lda Y Y U32 Y in_32 Y np (Sub.refl _) (GValue.len w2)) Y)) (a_op (g_x Y (x_p Y (p_callp Y Y Y Tryz.func52 Y Y (g_ref_truthOf_ac h16) ⟨Y,trivial⟩) Y)) (a_op (g_x Y (x_p Y (p_callp Y Y Y Tryz.func51 Y Y (g_ref_Logic_ac h17) ⟨Y,Y,Y,trivial⟩) Y)) (a_op (g_x Y (x_p Y (p_move Y Y) Y)) (a_op (g_x Y (x_p Y (p_ext Y Y Y Y) Y)) (a_op (g_x Y (x_p Y (p_ext Y Y Y Y) Y)) (a_op (g_x Y (x_p Y (p_asg Y Y) Y)) (a_nil))))))))))))) (t_op Y Y (PureD.opD (p_asg Y Y)) ?_)))
  refine t_gho (Gho_st (L:=[(6,.q 6 (0)),(12,.i r'13.1)]) (H:=[(6,.pure (GValue.cs GValue.zero))]) (N:=165) Y ⟨TLes.same _,TLes.same _,trivial⟩ ⟨Y,trivial⟩) (sg [0,1,2,3] Y (rm Y (bindK H fun r'14 h18 H=>rp Y (p_callp Y Y Y Tryz.func37 Y Y (g_ref_boolOf_ac h18) ⟨Y,trivial⟩) (rq Y (u_sw Y Y Y Y Y in_32 (GValue.len r'14) (GValue.len GValue.zero) Y) (ra Y ?_)))))
  refine rz [(6,.q 6 (0)),(7,.i (0:Int))] [(6,.pure (GValue.cs r'14))] Y (AW2_ret ?_)
  have z:=se H; subst z
  exact ⟨⟨rcw U32 Y in_32 Y (GValue.len r'14),rt,trivial⟩,trivial⟩
 replace H:=ite_else (ne_true h14) H
 refine sg [0,1] Y (rp Y (p_ieq Y Y Y) (ra Y (rz [(0,.i op0),(4,.q 4 (0)),(5,.q 5 (0)),(6,.q 6 (0)),(47,.i op0),(71,.b (decide (op0=(4:Int))))] [(4,.pure (GValue.cs v1)),(5,.pure (GValue.cs w2)),(6,.pure (GValue.cs GValue.zero))] Y (if2 H Y (fun h19 H=>?_) (fun h19 H=>?_)))))
 ·refine sg [0,1,2,3,4,5,6,7] Y (rp Y (u_lda Y Y U32 Y in_32 Y np (Sub.refl _) (GValue.len v1)) (bindK H fun r'15 h20 H=>rp Y (p_callp Y Y Y Tryz.func52 Y Y (g_ref_truthOf_ac h20) ⟨Y,trivial⟩) (bindK H fun r'16 h21 H=>rp Y (p_callp Y Y Y Tryz.func53 Y Y (g_ref_Opposite_ac h21) ⟨Y,trivial⟩) (rm Y ?_))))
  refine rp Y (p_ext Y Y Y Y) (rp Y (p_ext Y Y Y Y) (ra Y (ra Y (rz [(6,_),(14,.i r'16.1)] [(6,_)] Y (sg [0,1,2,3] Y (rm Y ?_))))))
  refine bindK H fun r'17 h22 H=>rp Y (p_callp Y Y Y Tryz.func37 Y Y (g_ref_boolOf_ac h22) ⟨Y,trivial⟩) (rq Y (u_sw Y Y Y Y Y in_32 (GValue.len r'17) (GValue.len GValue.zero) Y) (ra Y (rz [(6,_),(7,.i (0:Int))] [(6,.pure (GValue.cs r'17))] Y (AW2_ret ?_))))
  have z:=se H; subst z
  exact ⟨⟨rcw U32 Y in_32 Y (GValue.len r'17),rt,trivial⟩,trivial⟩
 refine sg [0,1] Y (rp Y (p_ieq Y Y Y) (ra Y (rz [(0,_),(4,_),(5,_),(6,_),(81,.b (decide (op0=(20:Int))))] [(4,_),(5,_),(6,_)] Y (if2 H Y (fun h23 H=>?_) (fun h23 H=>?_)))))
 ·refine sg [0,1,2] Y (rp Y (u_lda Y Y U32 Y in_32 Y np (Sub.refl _) (GValue.len w2)) (rq Y (u_sw Y Y Y Y Y in_32 (GValue.len w2) (GValue.len GValue.zero) Y) (ra Y (rz [(6,_),(7,.i (0:Int))] [(6,.pure (GValue.cs w2))] Y (AW2_ret ?_)))))
  have z:=se H; subst z
  exact ⟨⟨rcw U32 Y in_32 Y (GValue.len w2),rt,trivial⟩,trivial⟩
 refine as2 [(0,_),(4,_),(5,_),(6,_)] [(4,_),(5,_),(6,_)] Y (AW2_skip (AW2_seq (AW2_seq (AW2_mid (⟨[(0,.i op0),(4,.q 4 (0)),(5,.q 5 (0)),(6,.q 6 (0)),(99,.b (decide ((v1.Kind=(0:Int))∨(((w2.Kind=(0:Int))∧(op0≠(3:Int)))∧(op0≠(18:Int))))))],[(4,.pure (GValue.cs v1)),(5,.pure (GValue.cs w2)),(6,.pure (GValue.cs GValue.zero))],165⟩:TS) ?_ ?_))))
 ·refine AW2_reg [0,1,2,3,4,5,6,7,8,9,10,11,12,13,14,15] Y (rf Y U32 Y in_3 Y Y (GValue.len v1) (rp Y (u_ld Y Y U3 Y Y (GValue.sub0 v1)) (rp Y (p_ieq Y Y Y) (rm Y ?_))))
  refine (Classical.em (v1.Kind=(0:Int))).elim (fun h24=>?_) (fun h24=>?_)
  ·iterate 4 (refine rO Y (dT h24) Y ?_)
   iterate 2 (refine r_off2 rfl rfl rfl rfl rfl rfl ?_)
   iterate 2 (refine rO Y (dT h24) Y ?_)
   iterate 2 (refine r_off2 rfl rfl rfl rfl rfl rfl ?_)
   exact rO Y (dT h24) Y (rp Y (p_pkt Y Y (dT h24) (tb (dT (p:=(v1.Kind=(0:Int))∨(((w2.Kind=(0:Int))∧(op0≠(3:Int)))∧(op0≠(18:Int)))) (Or.inl h24)).symm)) (rend Y Y))
  refine rn Y (dF h24) Y (u_fa Y Y U32 Y in_3 nz Y Y (nl (GValue.len w2))) (rn Y (dF h24) Y (u_ld Y Y U3 Y Y (GValue.sub0 w2)) (rn Y (dF h24) Y (p_ieq Y Y Y) (rn Y (dF h24) Y (p_move Y Y) ?_)))
  refine (Classical.em (w2.Kind=(0:Int))).elim (fun h25=>?_) (fun h25=>?_)
  ·refine rn Y (dT h25) Y (p_move Y Y) (rn Y (dT h25) Y (p_ine Y Y Y) (rn Y (dF h24) Y (p_pkt Y Y (dT h25) (tb ((and_l (p:=w2.Kind=(0:Int)) (q:=op0≠(3:Int)) h25)))) (rn Y (dF h24) Y (p_move Y Y) ?_)))
   refine (Classical.em (op0≠(3:Int))).elim (fun h26=>?_) (fun h26=>?_)
   ·have qq4:=dT (p:=(w2.Kind=(0:Int))∧(op0≠(3:Int))) ⟨h25,h26⟩
    exact rn Y qq4 Y (p_move Y Y) (rn Y qq4 Y (p_ine Y Y Y) (rn Y (dF h24) Y (p_pkt Y Y qq4 (tb ((and_l (p:=(w2.Kind=(0:Int))∧(op0≠(3:Int))) (q:=op0≠(18:Int)) ⟨h25,h26⟩)))) (rp Y (p_pkf Y Y (dF h24) (tb ((or_l (p:=v1.Kind=(0:Int)) (q:=((w2.Kind=(0:Int))∧(op0≠(3:Int)))∧(op0≠(18:Int))) h24)))) (rend Y Y))))
   have qq5:=dF (p:=(w2.Kind=(0:Int))∧(op0≠(3:Int))) (fun h=>h26 h.2)
   iterate 2 (refine rO Y qq5 Y ?_)
   exact rn Y (dF h24) Y (p_pkf Y Y qq5 (tb (dF (p:=((w2.Kind=(0:Int))∧(op0≠(3:Int)))∧(op0≠(18:Int))) (fun x=>(fun h=>h26 h.2) x.1)).symm)) (rp Y (p_pkf Y Y (dF h24) (tb ((or_l (p:=v1.Kind=(0:Int)) (q:=((w2.Kind=(0:Int))∧(op0≠(3:Int)))∧(op0≠(18:Int))) h24)))) (rend Y Y))
  iterate 2 (refine rO Y (dF h25) Y ?_)
  refine rn Y (dF h24) Y (p_pkf Y Y (dF h25) (tb (dF (p:=(w2.Kind=(0:Int))∧(op0≠(3:Int))) (fun x=>h25 x.1)).symm)) (rn Y (dF h24) Y (p_move Y Y) ?_)
  have qq6:=dF (p:=(w2.Kind=(0:Int))∧(op0≠(3:Int))) (fun h=>h25 h.1)
  iterate 2 (refine rO Y qq6 Y ?_)
  exact rn Y (dF h24) Y (p_pkf Y Y qq6 (tb (dF (p:=((w2.Kind=(0:Int))∧(op0≠(3:Int)))∧(op0≠(18:Int))) (fun x=>(fun h=>h25 h.1) x.1)).symm)) (rp Y (p_pkf Y Y (dF h24) (tb ((or_l (p:=v1.Kind=(0:Int)) (q:=((w2.Kind=(0:Int))∧(op0≠(3:Int)))∧(op0≠(18:Int))) h24)))) (rend Y Y))
 refine if2 H Y (fun h27 H=>?_) (fun h27 H=>?_)
 ·refine sg [0,1,2] Y (rp Y (u_bld Y in_32 one_32 zc_32 pl_32 Y Y) (rq Y (u_sw Y Y Y Y Y in_32 (GValue.len GValue.zero) (GValue.len GValue.zero) Y) (ra Y (rz [(6,_),(7,.i (0:Int))] [(6,.pure (GValue.cs GValue.zero))] Y (AW2_ret ?_)))))
  have z:=se H; subst z
  exact ⟨⟨rcw U32 Y in_32 Y (GValue.len GValue.zero),rt,trivial⟩,trivial⟩
 refine as2 [(0,_),(4,_),(5,_),(6,_)] [(4,_),(5,_),(6,_)] Y (AW2_skip (AW2_seq (sg [0] Y (rm Y (rz [(0,_),(4,_),(5,_),(6,_),(101,.i op0)] [(4,_),(5,_),(6,_)] Y (AW2_block ?_))))))
 refine sg [0,1] Y (rp Y (p_ieq Y Y Y) (ra Y (rz [(0,_),(4,_),(5,_),(6,_),(101,_),(102,.b (decide (op0=(3:Int))))] [(4,_),(5,_),(6,_)] Y (if2 H Y (fun h28 H=>?_) (fun h28 H=>?_)))))
 ·refine sg [0,1,2,3,4,5,6] Y (rf Y U32 Y in_3 Y Y (GValue.len v1) (rp Y (u_ld Y Y U3 Y Y (GValue.sub1 v1)) (bindK H fun r'18 h29 H=>rp Y (p_callp Y Y Y Tryz.func54 Y Y (g_ref_reckoned_ac h29) ⟨Y,Y,Y,trivial⟩) (rp Y (p_ext Y Y Y Y) (rp Y (p_ext Y Y Y Y) ?_)))))
  refine rq Y (u_sw Y Y Y Y Y in_32 (GValue.len r'18.1) (GValue.len GValue.zero) Y) (ra Y (rz [(6,_),(7,.i r'18.2)] [(6,.pure (GValue.cs r'18.1))] Y (AW2_ret ?_)))
  have z:=se H; subst z
  exact ⟨⟨rcw U32 Y in_32 Y (GValue.len r'18.1),rt,trivial⟩,trivial⟩
 refine sg [0,1] Y (rp Y (p_ieq Y Y Y) (ra Y (rz [(0,_),(4,_),(5,_),(6,_),(101,_),(109,.b (decide (op0=(18:Int))))] [(4,_),(5,_),(6,_)] Y (if2 H Y (fun h30 H=>?_) (fun h30 H=>?_)))))
 ·refine sg [0,1,2,3,4,5,6,7] Y (rf Y U32 Y in_9 Y Y (GValue.len v1) (rp Y (u_ld Y Y U9 Y Y (GValue.sub3 v1)) (bindK H fun r'19 h31 H=>rp Y (p_callp Y Y Y Tryz.func56 Y Y (g_utf8_RuneCountInString_ac h31) ⟨Y,trivial⟩) (bindK H fun r'20 h32 H=>rp Y (p_callp Y Y Y Tryz.func55 Y Y (g_ref_intOf_ac h32) ⟨Y,trivial⟩) ?_))))
  refine rp Y (p_ext Y Y Y Y) (rp Y (p_ext Y Y Y Y) (rq Y (u_sw Y Y Y Y Y in_32 (GValue.len r'20.1) (GValue.len GValue.zero) Y) (ra Y (rz [(6,_),(7,.i r'20.2)] [(6,.pure (GValue.cs r'20.1))] Y (AW2_ret ?_)))))
  have z:=se H; subst z
  exact ⟨⟨rcw U32 Y in_32 Y (GValue.len r'20.1),rt,trivial⟩,trivial⟩
 refine sg [0,1] Y (rp Y (p_ieq Y Y Y) (ra Y (rz [(0,_),(4,_),(5,_),(6,_),(101,_),(117,.b (decide (op0=(19:Int))))] [(4,_),(5,_),(6,_)] Y (if2 H Y (fun h33 H=>?_) (fun h33 H=>?_)))))
 ·refine sg [0,1,2,3,4,5] Y (rf Y U32 Y in_9 Y Y (GValue.len v1) (rp Y (u_ld Y Y U9 Y Y (GValue.sub3 v1)) (rf Y U32 Y in_9 Y Y (GValue.len w2) (rp Y (u_ld Y Y U9 Y Y (GValue.sub3 w2)) (chkK H fun h34 H=>rp Y (p_cat Y Y Y h34) ?_)))))
  refine ra Y (rz [(6,_),(16,.t (v1.Text++w2.Text))] [(6,_)] Y (AW2_seq (sg [0,1,2] Y (rm Y (rp Y (p_lent Y U9 Y) (rp Y (p_bin Y Y Y Y) ?_))))))
  refine rz [(6,_),(16,_),(126,.b (decide (((v1.Text++w2.Text).length:Int) > (40:Int))))] [(6,_)] Y (if2 H Y (fun h35 H=>?_) (fun h35 H=>?_))
  ·refine sg [0,1,2] Y (rp Y (u_bld Y in_32 one_32 zc_32 pl_32 Y Y) (rq Y (u_sw Y Y Y Y Y in_32 (GValue.len GValue.zero) (GValue.len GValue.zero) Y) (ra Y (rz [(6,_),(7,.i (1:Int))] [(6,.pure (GValue.cs GValue.zero))] Y (AW2_ret ?_)))))
   have z:=se H; subst z
   exact ⟨⟨rcw U32 Y in_32 Y (GValue.len GValue.zero),rt,trivial⟩,trivial⟩
  refine as2 [(6,_),(16,_)] [(6,_)] Y (AW2_skip (sg [0,1,2,3] Y (rm Y (rp Y (u_bld Y in_32 one_32 zc_32 pl_32 Y (af_cons Y Y (GValue.upd0 GValue.zero (4:Int)) (af_cons Y Y (GValue.upd3 ((GValue.w0 GValue.zero (4:Int))) (v1.Text++w2.Text)) Y))) (rq Y (u_sw Y Y Y Y Y in_32 (GValue.len ((GValue.w3 (GValue.w0 GValue.zero (4:Int)) (v1.Text++w2.Text)))) (GValue.len GValue.zero) Y) (ra Y ?_))))))
  refine rz [(6,_),(7,.i (0:Int))] [(6,.pure (GValue.cs ((GValue.w3 (GValue.w0 GValue.zero (4:Int)) (v1.Text++w2.Text)))))] Y (gen1 (fun t6'21=>(⟨[(6,.q 6 (0)),(7,.i (0:Int))],[(6,.pure (GValue.cs t6'21))],165⟩:TS)) H ?_)
  intro t6'21 H
  refine AW2_ret ?_
  have z:=se H; subst z
  exact ⟨⟨rcw U32 Y in_32 Y (GValue.len t6'21),rt,trivial⟩,trivial⟩
 refine AW2_seq (bindK H fun j'22 h36 H=>AW2_mid (⟨[(0,.i op0),(4,.q 4 (0)),(5,.q 5 (0)),(6,.q 6 (0)),(130,.b j'22)],[(4,.pure (GValue.cs v1)),(5,.pure (GValue.cs w2)),(6,.pure (GValue.cs GValue.zero))],165⟩:TS) ?_ ?_)
 ·clear H
  have H:=h36
  clear h36
  refine sg [0,1] Y (rp Y (p_ieq Y Y Y) (ra Y (rz [(0,.i op0),(4,.q 4 (0)),(5,.q 5 (0)),(6,.q 6 (0)),(101,.i op0),(130,.b (decide (op0=(5:Int))))] [(4,.pure (GValue.cs v1)),(5,.pure (GValue.cs w2)),(6,.pure (GValue.cs GValue.zero))] Y (if2 H Y (fun h37 H=>?_) (fun h37 H=>?_)))))
  ·refine as2 [(0,_),(4,_),(5,_),(6,_),(130,_)] [(4,_),(5,_),(6,_)] Y (AW2_skip ?_)
   have z:=se H; subst z
   exact rfl
  refine sg [0,1] Y (rp Y (p_ieq Y Y Y) (ra Y (rz [(0,_),(4,_),(5,_),(6,_),(101,_),(130,.b (decide (op0=(6:Int))))] [(4,_),(5,_),(6,_)] Y (if2 H Y (fun h38 H=>?_) (fun h38 H=>?_)))))
  ·refine as2 [(0,_),(4,_),(5,_),(6,_),(130,_)] [(4,_),(5,_),(6,_)] Y (AW2_skip ?_)
   have z:=se H; subst z
   exact rfl
  refine sg [0,1] Y (rp Y (p_ieq Y Y Y) (ra Y (rz [(0,_),(4,_),(5,_),(6,_),(101,_),(130,.b (decide (op0=(7:Int))))] [(4,_),(5,_),(6,_)] Y (if2 H Y (fun h39 H=>?_) (fun h39 H=>?_)))))
  ·refine as2 [(0,_),(4,_),(5,_),(6,_),(130,_)] [(4,_),(5,_),(6,_)] Y (AW2_skip ?_)
   have z:=se H; subst z
   exact rfl
  refine AW2_reg [0,1] Y (rp Y (p_ieq Y Y Y) (ra Y (rz [(0,_),(4,_),(5,_),(6,_),(130,.b (decide (op0=(8:Int))))] [(4,_),(5,_),(6,_)] Y ?_)))
  have z:=se H; subst z
  exact rfl
 refine AW2_cond Y (fun h40=>?_) (fun h40=>?_)
 ·replace H:=ite_then h40 H
  refine sg [0,1,2,3,4,5,6,7,8,9] Y (rm Y (rf Y U32 Y in_3 Y Y (GValue.len v1) (rp Y (u_ld Y Y U3 Y Y (GValue.sub1 v1)) (rf Y U32 Y in_3 Y Y (GValue.len w2) (rp Y (u_ld Y Y U3 Y Y (GValue.sub1 w2)) (bindK H fun r'23 h41 H=>?_))))))
  refine rp Y (p_callp Y Y Y Tryz.func54 Y Y (g_ref_reckoned_ac h41) ⟨Y,Y,Y,trivial⟩) (rp Y (p_ext Y Y Y Y) (rp Y (p_ext Y Y Y Y) (rq Y (u_sw Y Y Y Y Y in_32 (GValue.len r'23.1) (GValue.len GValue.zero) Y) (ra Y (rz [(6,.q 6 (0)),(7,.i r'23.2)] [(6,.pure (GValue.cs r'23.1))] Y (AW2_ret ?_))))))
  have z:=se H; subst z
  exact ⟨⟨rcw U32 Y in_32 Y (GValue.len r'23.1),rt,trivial⟩,trivial⟩
 replace H:=ite_else (ne_true h40) H
 refine as2 [(0,.i op0),(4,.q 4 (0)),(5,.q 5 (0)),(6,.q 6 (0))] [(4,.pure (GValue.cs v1)),(5,.pure (GValue.cs w2)),(6,.pure (GValue.cs GValue.zero))] Y (AW2_skip (AW2_seq (sg [0,1,2,3,4] Y (rf Y U32 Y in_3 Y Y (GValue.len v1) (rp Y (u_ld Y Y U3 Y Y (GValue.sub0 v1)) (rf Y U32 Y in_3 Y Y (GValue.len w2) ?_))))))
 refine rp Y (u_ld Y Y U3 Y Y (GValue.sub0 w2)) (rp Y (p_ine Y Y Y) (rz [(0,_),(4,_),(5,_),(6,_),(147,.b (decide (v1.Kind≠w2.Kind)))] [(4,_),(5,_),(6,_)] Y (if2 H Y (fun h42 H=>?_) (fun h42 H=>?_))))
 ·refine sg [0,1,2] Y (rp Y (u_bld Y in_32 one_32 zc_32 pl_32 Y Y) (rq Y (u_sw Y Y Y Y Y in_32 (GValue.len GValue.zero) (GValue.len GValue.zero) Y) (ra Y (rz [(6,_),(7,.i (2:Int))] [(6,.pure (GValue.cs GValue.zero))] Y (AW2_ret ?_)))))
  have z:=se H; subst z
  exact ⟨⟨rcw U32 Y in_32 Y (GValue.len GValue.zero),rt,trivial⟩,trivial⟩
 refine as2 [(0,_),(4,_),(5,_),(6,_)] [(4,_),(5,_),(6,_)] Y (AW2_skip (sg [0,1,2,3] Y (rp Y (u_lda Y Y U32 Y in_32 Y np (Sub.refl _) (GValue.len v1)) (rp Y (u_lda Y Y U32 Y in_32 Y np (Sub.refl _) (GValue.len w2)) (bindK H fun r'24 h43 H=>rp Y (p_callp Y Y Y Tryz.func57 Y Y (g_ref_Order_ac h43) ⟨Y,Y,trivial⟩) ?_)))))
 refine ra Y (rz [(0,_),(6,_),(17,.i r'24)] [(6,_)] Y (sg [0,1] Y (rq Y (MakeD.opD (u_bs 152 Y U76 in_3 Y one_3 (by decide) (by decide) Y Y Y) Y Y Y Y) (ra Y (RunW_st [(0,.i op0),(6,.q 6 (0)),(17,.i r'24),(18,.c (.own 152 ([(2:Int),(5:Int),(1:Int),(3:Int),(4:Int),(6:Int)]:List Int).length 1))] [(6,.pure (GValue.cs GValue.zero)),(152,.pure (([(2:Int),(5:Int),(1:Int),(3:Int),(4:Int),(6:Int)]:List Int).map AV.int))] Y ⟨TLes.same _,TLes.same _,TLes.same _,TLes.own Y,trivial⟩ ⟨Y,Y,trivial⟩ (RunW_gho (Gho_ren 152 18 Y Y Y Y Y) ?_))))))
 refine rz [(0,.i op0),(6,.q 6 (0)),(17,.i r'24),(18,.c (.own 18 ([(2:Int),(5:Int),(1:Int),(3:Int),(4:Int),(6:Int)]:List Int).length 1))] [(6,.pure (GValue.cs GValue.zero)),(18,.pure (([(2:Int),(5:Int),(1:Int),(3:Int),(4:Int),(6:Int)]:List Int).map AV.int))] Y (gen1 (fun which18'25=>(⟨[(0,.i op0),(6,.q 6 (0)),(17,.i r'24),(18,.c (.own 18 which18'25.length 1))],[(6,.pure (GValue.cs GValue.zero)),(18,.pure (which18'25.map AV.int))],165⟩:TS)) H ?_)
 intro which18'25 H
 refine AW2_seq (sg [0,1,2,3,4,5,6,7,8,9] Y (rm Y (rm Y (rp Y (p_bin Y Y Y Y) (chkK H fun h44 H=>rp Y (u_ixo Y Y U76 in_3 Y Y (lne (ixn h44)) Y (ixe h44) (ixn h44)) ?_)))))
 refine rp Y (u_ld Y Y U3 Y Y ((Sub.refl _).trans (Sub.map default (ixn h44)))) (rm Y (rp Y (p_bin Y Y Y Y) (chkK H fun h45 H=>rp Y (p_ishr (n:=(w64 (r'24+(1:Int))).toNat) Y Y Y (Int.toNat_of_nonneg h45).symm) (rp Y (p_bin Y Y Y Y) (rp Y (p_ieq Y Y Y) ?_)))))
 refine rz [(6,.q 6 (0)),(162,.b (decide (iand (ishr (lrd which18'25 ((w64 (op0 - (9:Int))).toNat)) ((w64 (r'24+(1:Int))).toNat)) (1:Int)=(1:Int))))] [(6,.pure (GValue.cs GValue.zero))] Y (if2 H Y (fun h46 H=>?_) (fun h46 H=>?_))
 ·refine sg [0,1,2] Y (bindK H fun r'26 h47 H=>rp Y (p_callp Y Y Y Tryz.func37 Y Y (g_ref_boolOf_ac h47) ⟨Y,trivial⟩) (rq Y (u_sw Y Y Y Y Y in_32 (GValue.len r'26) (GValue.len GValue.zero) Y) (ra Y (rz [(6,_),(7,.i (0:Int))] [(6,.pure (GValue.cs r'26))] Y (AW2_ret ?_)))))
  have z:=se H; subst z
  exact ⟨⟨rcw U32 Y in_32 Y (GValue.len r'26),rt,trivial⟩,trivial⟩
 refine as2 [(6,_)] [(6,_)] Y (AW2_skip (sg [0,1,2] Y (bindK H fun r'27 h48 H=>rp Y (p_callp Y Y Y Tryz.func37 Y Y (g_ref_boolOf_ac h48) ⟨Y,trivial⟩) (rq Y (u_sw Y Y Y Y Y in_32 (GValue.len r'27) (GValue.len GValue.zero) Y) (ra Y ?_)))))
 refine rz [(6,_),(7,.i (0:Int))] [(6,.pure (GValue.cs r'27))] Y (AW2_ret ?_)
 have z:=se H; subst z
 exact ⟨⟨rcw U32 Y in_32 Y (GValue.len r'27),rt,trivial⟩,trivial⟩
noncomputable def g_ref_valued_b (R':GExpr→(List GColumn)→(List GValue)→Option (GValue×Int)) (e0:GExpr) (cols1:List GColumn) (row2:List GValue):Option (GValue×Int) :=
  (if e0.Op=(1:Int) then some (e0.Value,(0:Int)) else (if e0.Op=(2:Int) then (g_ref_columnAt cols1 e0.Name).bind fun r'1=>(if r'1 < (0:Int) then some (GValue.zero,(5:Int)) else if 0≤r'1∧r'1 < (row2.length:Int) then some ((lrd row2 r'1.toNat),(0:Int)) else none) else if 0 < e0.Args.length then (R' (lrd e0.Args 0) cols1 row2).bind fun r'2=>(if (r'2.2≠(0:Int))∨((e0.Args.length:Int)=(1:Int)) then (if r'2.2≠(0:Int) then some (GValue.zero,r'2.2) else (g_ref_did e0.Op r'2.1 GValue.zero).bind fun r'3=>some (r'3.1,r'3.2)) else letO (decide (((e0.Op=(20:Int))∧(r'2.1.Kind≠(0:Int)))∨((r'2.1.Kind=(1:Int))∧(((e0.Op=(15:Int))∧(r'2.1.Int_=(0:Int)))∨((e0.Op=(16:Int))∧(r'2.1.Int_=(1:Int))))))) fun t92'4=>(if t92'4=true then some (r'2.1,(0:Int)) else if 1 < e0.Args.length then (R' (lrd e0.Args 1) cols1 row2).bind fun r'5=>(if r'5.2≠(0:Int) then some (GValue.zero,r'5.2) else (g_ref_did e0.Op r'2.1 r'5.1).bind fun r'6=>some (r'6.1,r'6.2)) else none)) else none))
noncomputable def g_ref_valued:Nat→GExpr→(List GColumn)→(List GValue)→Option (GValue×Int)
  | 0,_,_,_=>none
  | fu+1,e0,cols1,row2=>g_ref_valued_b (g_ref_valued fu) e0 cols1 row2
set_option maxHeartbeats 4000000 in
set_option maxRecDepth 100000 in
theorem g_ref_valued_ac0 {R':GExpr→(List GColumn)→(List GValue)→Option (GValue×Int)} (hR:∀ {e0:GExpr} {cols1:List GColumn} {row2:List GValue} {r:GValue×Int},R' e0 cols1 row2=some r→ACp Tryz.prog 22 [(.agg (GExpr.cs e0)),(GColumn.ls cols1),(GValue.ls row2)] (.tup [(.agg (GValue.cs r.1)),(AV.int r.2)])) {e0:GExpr} {cols1:List GColumn} {row2:List GValue} {r:GValue×Int} (H:g_ref_valued_b R' e0 cols1 row2=some r):ACp Tryz.prog 22 [(.agg (GExpr.cs e0)),(GColumn.ls cols1),(GValue.ls row2)] (.tup [(.agg (GValue.cs r.1)),(AV.int r.2)]):=by
 refine ACp_of (AC2_of_body (vs:=[.g (GValue.cs r.1),.i r.2]) Tryz.func22 Y Y (lb Y) Y ?_) (fun _=>.same _)
 unfold g_ref_valued_b at H
 refine as2 [(0,.g (GExpr.cs e0)),(1,.p (GColumn.ls cols1)),(2,.p (GValue.ls row2))] [] Y (sg [0,1,2] Y (rq Y (MakeD.opD (n_box 3 Y Y) Y Y Y Y) (rq Y (MakeD.opD (u_alloc 6 Y in_32 one_32 zc_32) Y Y Y Y) (ra Y (rz [(1,_),(2,_),(3,.q 3 (0)),(6,.q 6 (0))] [(3,.pure (GExpr.cs e0)),(6,.pure (GValue.cs GValue.zero))] Y (AW2_seq ?_))))))
 refine sg [0,1] Y (rf Y U35 Y in_3 Y Y (GExpr.len e0) (rp Y (u_ld Y Y U3 Y Y (GExpr.sub0 e0)) (rz [(1,_),(2,_),(3,_),(6,_),(13,.i e0.Op)] [(3,_),(6,_)] Y (AW2_block (sg [0,1] Y (rp Y (p_ieq Y Y Y) ?_))))))
 refine ra Y (rz [(1,_),(2,_),(3,_),(6,_),(13,_),(14,.b (decide (e0.Op=(1:Int))))] [(3,_),(6,_)] Y (if2 H Y (fun h1 H=>?_) (fun h1 H=>?_)))
 ·refine sg [0,1,2,3] Y (rf Y U35 Y in_32 Y Y (GExpr.len e0) (rp Y (u_lda Y Y U32 Y in_32 Y np (GExpr.sub1 e0) (GValue.len e0.Value)) (rq Y (u_sw Y Y Y Y Y in_32 (GValue.len e0.Value) (GValue.len GValue.zero) Y) (ra Y (rz [(6,_),(7,.i (0:Int))] [(6,.pure (GValue.cs e0.Value))] Y (AW2_ret ?_))))))
  have z:=se H; subst z
  exact ⟨⟨rcw U32 Y in_32 Y (GValue.len e0.Value),rt,trivial⟩,trivial⟩
 refine sg [0,1] Y (rp Y (p_ieq Y Y Y) (ra Y (rz [(1,_),(2,_),(3,_),(6,_),(18,.b (decide (e0.Op=(2:Int))))] [(3,_),(6,_)] Y (if2 H Y (fun h2 H=>?_) (fun h2 H=>?_)))))
 ·refine sg [0,1,2,3,4] Y (rm Y (rf Y U35 Y in_9 Y Y (GExpr.len e0) (rp Y (u_ld Y Y U9 Y Y (GExpr.sub2 e0)) (bindK H fun r'1 h3 H=>rp Y (p_callp Y Y Y Tryz.func23 Y Y (g_ref_columnAt_ac h3) ⟨Y,Y,trivial⟩) (ra Y ?_)))))
  refine rz [(2,_),(6,_),(8,.i r'1)] [(6,_)] Y (AW2_seq (sg [0,1] Y (rm Y (rp Y (p_bin Y Y Y Y) (rz [(2,_),(6,_),(8,_),(25,.b (decide (r'1 < (0:Int))))] [(6,_)] Y (if2 H Y (fun h4 H=>?_) (fun h4 H=>?_)))))))
  ·refine sg [0,1,2] Y (rp Y (u_bld Y in_32 one_32 zc_32 pl_32 Y Y) (rq Y (u_sw Y Y Y Y Y in_32 (GValue.len GValue.zero) (GValue.len GValue.zero) Y) (ra Y (rz [(6,_),(7,.i (5:Int))] [(6,.pure (GValue.cs GValue.zero))] Y (AW2_ret ?_)))))
   have z:=se H; subst z
   exact ⟨⟨rcw U32 Y in_32 Y (GValue.len GValue.zero),rt,trivial⟩,trivial⟩
  refine as2 [(2,_),(6,_),(8,_)] [(6,_)] Y (AW2_skip (sg [0,1,2,3,4,5] Y (rm Y (rm Y (chkK H fun h5 H=>rp Y (u_ixl Y Y U23 in_32 Y Y (ixe h5) (ixn h5) (fne (fun x=>(GValue.len x)) (by decide) (ixn h5))) ?_)))))
  refine rp Y (u_lda Y Y U32 Y in_32 Y np (Sub.fm default (fun x=>(GValue.len x)) (ixn h5)) (GValue.len (lrd row2 r'1.toNat))) (rq Y (u_sw Y Y Y Y Y in_32 (GValue.len (lrd row2 r'1.toNat)) (GValue.len GValue.zero) Y) (ra Y (rz [(6,_),(7,.i (0:Int))] [(6,.pure (GValue.cs (lrd row2 r'1.toNat)))] Y (AW2_ret ?_))))
  have z:=se H; subst z
  exact ⟨⟨rcw U32 Y in_32 Y (GValue.len (lrd row2 r'1.toNat)),rt,trivial⟩,trivial⟩
 refine as2 [(1,_),(2,_),(3,_),(6,_)] [(3,_),(6,_)] Y (AW2_skip (sg [0,1,2,3,4,5,6,7,8,9,10,11,12] Y (rf Y U35 Y in_33 Y Y (GExpr.len e0) (rp Y (u_ld Y Y U33 Y Y (GExpr.sub3 e0)) (chkK H fun h6 H=>rp Y (u_ixl Y Y U33 in_35 Y Y Y h6 (fne (fun x=>(GExpr.len x)) (by decide) h6)) ?_)))))
 refine rp Y (u_lda Y Y U35 Y in_35 Y np (Sub.fm default (fun x=>(GExpr.len x)) h6) (GExpr.len (lrd e0.Args 0))) (rm Y (rm Y (bindK H fun r'2 h7 H=>rp Y (p_callp Y Y Y Tryz.func22 Y Y (hR h7) ⟨Y,Y,Y,trivial⟩) (rm Y (rp Y (p_ext Y Y Y Y) ?_)))))
 refine rp Y (p_ext Y Y Y Y) (rq Y (MakeD.opD (u_alloc 9 Y in_32 one_32 zc_32) Y Y Y Y) (rq Y (u_sw Y Y Y Y Y in_32 (GValue.len r'2.1) (GValue.len GValue.zero) Y) (ra Y (rz [(1,_),(2,_),(3,_),(6,_),(9,.q 9 (0)),(10,.i r'2.2)] [(3,.pure (GExpr.cs e0)),(6,.pure (GValue.cs GValue.zero)),(9,.pure (GValue.cs r'2.1))] Y (AW2_seq (AW2_seq ?_))))))
 refine AW2_mid (⟨[(1,.p (GColumn.ls cols1)),(2,.p (GValue.ls row2)),(3,.q 3 (0)),(6,.q 6 (0)),(9,.q 9 (0)),(10,.i r'2.2),(48,.b (decide ((r'2.2≠(0:Int))∨((e0.Args.length:Int)=(1:Int)))))],[(3,.pure (GExpr.cs e0)),(6,.pure (GValue.cs GValue.zero)),(9,.pure (GValue.cs r'2.1))],115⟩:TS) ?_ ?_
 ·refine AW2_reg [0,1,2,3,4,5,6,7] Y (rm Y (rp Y (p_ine Y Y Y) (rm Y ?_)))
  refine (Classical.em (r'2.2≠(0:Int))).elim (fun h8=>?_) (fun h8=>?_)
  ·iterate 4 (refine rO Y (dT h8) Y ?_)
   exact rp Y (p_pkt Y Y (dT h8) (tb (dT (p:=(r'2.2≠(0:Int))∨((e0.Args.length:Int)=(1:Int))) (Or.inl h8)).symm)) (rend Y Y)
  exact rn Y (dF h8) Y (u_fa Y Y U35 Y in_33 nz Y Y (nl (GExpr.len e0))) (rn Y (dF h8) Y (u_ld Y Y U33 Y Y (GExpr.sub3 e0)) (rn Y (dF h8) Y (p_lenl Y U33 Y Y) (rn Y (dF h8) Y (p_ieq Y Y Y) (rp Y (p_pkf Y Y (dF h8) (tb ((or_l (p:=r'2.2≠(0:Int)) (q:=(e0.Args.length:Int)=(1:Int)) h8)))) (rend Y Y)))))
 refine if2 H Y (fun h9 H=>?_) (fun h9 H=>?_)
 ·refine AW2_seq (sg [0,1] Y (rm Y (rp Y (p_ine Y Y Y) (rz [(3,_),(6,_),(9,_),(10,_),(50,.b (decide (r'2.2≠(0:Int))))] [(3,_),(6,_),(9,_)] Y (if2 H Y (fun h10 H=>?_) (fun h10 H=>?_))))))
  ·refine sg [0,1,2,3] Y (rp Y (u_bld Y in_32 one_32 zc_32 pl_32 Y Y) (rm Y (rq Y (u_sw Y Y Y Y Y in_32 (GValue.len GValue.zero) (GValue.len GValue.zero) Y) (ra Y (rz [(6,_),(7,.i r'2.2)] [(6,.pure (GValue.cs GValue.zero))] Y (AW2_ret ?_))))))
   have z:=se H; subst z
   exact ⟨⟨rcw U32 Y in_32 Y (GValue.len GValue.zero),rt,trivial⟩,trivial⟩
  refine as2 [(3,_),(6,_),(9,_)] [(3,_),(6,_),(9,_)] Y (AW2_skip (sg [0,1,2,3,4,5,6,7,8] Y (rf Y U35 Y in_3 Y Y (GExpr.len e0) (rp Y (u_ld Y Y U3 Y Y (GExpr.sub0 e0)) (rp Y (u_lda Y Y U32 Y in_32 Y np (Sub.refl _) (GValue.len r'2.1)) (rp Y (u_bld Y in_32 one_32 zc_32 pl_32 Y Y) ?_))))))
  refine bindK H fun r'3 h11 H=>rp Y (p_callp Y Y Y Tryz.func40 Y Y (g_ref_did_ac h11) ⟨Y,Y,Y,trivial⟩) (rp Y (p_ext Y Y Y Y) (rp Y (p_ext Y Y Y Y) (rq Y (u_sw Y Y Y Y Y in_32 (GValue.len r'3.1) (GValue.len GValue.zero) Y) (ra Y (rz [(6,_),(7,.i r'3.2)] [(6,.pure (GValue.cs r'3.1))] Y ?_)))))
  refine AW2_ret ?_
  have z:=se H; subst z
  exact ⟨⟨rcw U32 Y in_32 Y (GValue.len r'3.1),rt,trivial⟩,trivial⟩
 refine as2 [(1,_),(2,_),(3,_),(6,_),(9,_)] [(3,_),(6,_),(9,_)] Y (AW2_skip (AW2_seq (AW2_seq (AW2_mid (⟨[(1,.p (GColumn.ls cols1)),(2,.p (GValue.ls row2)),(3,.q 3 (0)),(6,.q 6 (0)),(9,.q 9 (0)),(92,.b (decide (((e0.Op=(20:Int))∧(r'2.1.Kind≠(0:Int)))∨((r'2.1.Kind=(1:Int))∧(((e0.Op=(15:Int))∧(r'2.1.Int_=(0:Int)))∨((e0.Op=(16:Int))∧(r'2.1.Int_=(1:Int))))))))],[(3,.pure (GExpr.cs e0)),(6,.pure (GValue.cs GValue.zero)),(9,.pure (GValue.cs r'2.1))],115⟩:TS) ?_ ?_))))
 ·refine AW2_reg [0,1,2,3,4,5,6,7,8,9,10,11,12,13,14,15,16,17,18,19,20,21,22,23,24,25,26,27,28,29,30,31,32] Y (rf Y U35 Y in_3 Y Y (GExpr.len e0) (rp Y (u_ld Y Y U3 Y Y (GExpr.sub0 e0)) (rp Y (p_ieq Y Y Y) (rm Y ?_))))
  refine (Classical.em (e0.Op=(20:Int))).elim (fun h12=>?_) (fun h12=>?_)
  ·refine rn Y (dT h12) Y (u_fa Y Y U32 Y in_3 nz Y Y (nl (GValue.len r'2.1))) (rn Y (dT h12) Y (u_ld Y Y U3 Y Y (GValue.sub0 r'2.1)) (rn Y (dT h12) Y (p_ine Y Y Y) (rp Y (p_pkt Y Y (dT h12) (tb ((and_l (p:=e0.Op=(20:Int)) (q:=r'2.1.Kind≠(0:Int)) h12)))) (rm Y ?_))))
   refine (Classical.em (r'2.1.Kind≠(0:Int))).elim (fun h13=>?_) (fun h13=>?_)
   ·have qq1:=dT (p:=(e0.Op=(20:Int))∧(r'2.1.Kind≠(0:Int))) ⟨h12,h13⟩
    iterate 4 (refine rO Y qq1 Y ?_)
    iterate 18 (refine r_off2 rfl rfl rfl rfl rfl rfl ?_)
    exact rO Y qq1 Y (rp Y (p_pkt Y Y qq1 (tb (dT (p:=((e0.Op=(20:Int))∧(r'2.1.Kind≠(0:Int)))∨((r'2.1.Kind=(1:Int))∧(((e0.Op=(15:Int))∧(r'2.1.Int_=(0:Int)))∨((e0.Op=(16:Int))∧(r'2.1.Int_=(1:Int)))))) (Or.inl ⟨h12,h13⟩)).symm)) (rend Y Y))
   have qq2:=dF (p:=(e0.Op=(20:Int))∧(r'2.1.Kind≠(0:Int))) (fun h=>h13 h.2)
   refine rn Y qq2 Y (u_fa Y Y U32 Y in_3 nz Y Y (nl (GValue.len r'2.1))) (rn Y qq2 Y (u_ld Y Y U3 Y Y (GValue.sub0 r'2.1)) (rn Y qq2 Y (p_ieq Y Y Y) (rn Y qq2 Y (p_move Y Y) ?_)))
   refine (Classical.em (r'2.1.Kind=(1:Int))).elim (fun h14=>?_) (fun h14=>?_)
   ·refine rn Y (dT h14) Y (u_fa Y Y U35 Y in_3 nz Y Y (nl (GExpr.len e0))) (rn Y (dT h14) Y (u_ld Y Y U3 Y Y (GExpr.sub0 e0)) (rn Y (dT h14) Y (p_ieq Y Y Y) (rn Y (dT h14) Y (p_move Y Y) ?_)))
    refine (Classical.em (e0.Op=(15:Int))).elim (fun h15=>?_) (fun h15=>?_)
    ·refine rn Y (dT h15) Y (u_fa Y Y U32 Y in_3 nz Y Y (nl (GValue.len r'2.1))) (rn Y (dT h15) Y (u_ld Y Y U3 Y Y (GValue.sub1 r'2.1)) (rn Y (dT h15) Y (p_ieq Y Y Y) (rn Y (dT h14) Y (p_pkt Y Y (dT h15) (tb ((and_l (p:=e0.Op=(15:Int)) (q:=r'2.1.Int_=(0:Int)) h15)))) (rn Y (dT h14) Y (p_move Y Y) ?_))))
     refine (Classical.em (r'2.1.Int_=(0:Int))).elim (fun h16=>?_) (fun h16=>?_)
     ·have qq3:=dT (p:=(e0.Op=(15:Int))∧(r'2.1.Int_=(0:Int))) ⟨h15,h16⟩
      iterate 4 (refine rO Y qq3 Y ?_)
      iterate 3 (refine r_off2 rfl rfl rfl rfl rfl rfl ?_)
      exact rO Y qq3 Y (rn Y (dT h14) Y (p_pkt Y Y qq3 (tb (dT (p:=((e0.Op=(15:Int))∧(r'2.1.Int_=(0:Int)))∨((e0.Op=(16:Int))∧(r'2.1.Int_=(1:Int)))) (Or.inl ⟨h15,h16⟩)).symm)) (rn Y qq2 Y (p_pkt Y Y (dT h14) (tb ((and_l (p:=r'2.1.Kind=(1:Int)) (q:=((e0.Op=(15:Int))∧(r'2.1.Int_=(0:Int)))∨((e0.Op=(16:Int))∧(r'2.1.Int_=(1:Int)))) h14)))) (rp Y (p_pkf Y Y qq2 (tb ((or_l (p:=(e0.Op=(20:Int))∧(r'2.1.Kind≠(0:Int))) (q:=(r'2.1.Kind=(1:Int))∧(((e0.Op=(15:Int))∧(r'2.1.Int_=(0:Int)))∨((e0.Op=(16:Int))∧(r'2.1.Int_=(1:Int))))) (fun h=>h13 h.2))))) (rend Y Y))))
     have qq4:=dF (p:=(e0.Op=(15:Int))∧(r'2.1.Int_=(0:Int))) (fun h=>h16 h.2)
     refine rn Y qq4 Y (u_fa Y Y U35 Y in_3 nz Y Y (nl (GExpr.len e0))) (rn Y qq4 Y (u_ld Y Y U3 Y Y (GExpr.sub0 e0)) (rn Y qq4 Y (p_ieq Y Y Y) (rn Y qq4 Y (p_move Y Y) ?_)))
     refine (Classical.em (e0.Op=(16:Int))).elim (fun h17=>?_) (fun h17=>?_)
     ·refine rn Y (dT h17) Y (u_fa Y Y U32 Y in_3 nz Y Y (nl (GValue.len r'2.1))) (rn Y (dT h17) Y (u_ld Y Y U3 Y Y (GValue.sub1 r'2.1)) (rn Y (dT h17) Y (p_ieq Y Y Y) (rn Y qq4 Y (p_pkt Y Y (dT h17) (tb ((and_l (p:=e0.Op=(16:Int)) (q:=r'2.1.Int_=(1:Int)) h17)))) (rn Y (dT h14) Y (p_pkf Y Y qq4 (tb ((or_l (p:=(e0.Op=(15:Int))∧(r'2.1.Int_=(0:Int))) (q:=(e0.Op=(16:Int))∧(r'2.1.Int_=(1:Int))) (fun h=>h16 h.2))))) (rn Y qq2 Y (p_pkt Y Y (dT h14) (tb ((and_l (p:=r'2.1.Kind=(1:Int)) (q:=((e0.Op=(15:Int))∧(r'2.1.Int_=(0:Int)))∨((e0.Op=(16:Int))∧(r'2.1.Int_=(1:Int)))) h14)))) (rp Y (p_pkf Y Y qq2 (tb ((or_l (p:=(e0.Op=(20:Int))∧(r'2.1.Kind≠(0:Int))) (q:=(r'2.1.Kind=(1:Int))∧(((e0.Op=(15:Int))∧(r'2.1.Int_=(0:Int)))∨((e0.Op=(16:Int))∧(r'2.1.Int_=(1:Int))))) (fun h=>h13 h.2))))) ?_))))))
      exact rend Y Y
     iterate 3 (refine rO Y (dF h17) Y ?_)
     exact rn Y qq4 Y (p_pkf Y Y (dF h17) (tb (dF (p:=(e0.Op=(16:Int))∧(r'2.1.Int_=(1:Int))) (fun x=>h17 x.1)).symm)) (rn Y (dT h14) Y (p_pkf Y Y qq4 (tb ((or_l (p:=(e0.Op=(15:Int))∧(r'2.1.Int_=(0:Int))) (q:=(e0.Op=(16:Int))∧(r'2.1.Int_=(1:Int))) (fun h=>h16 h.2))))) (rn Y qq2 Y (p_pkt Y Y (dT h14) (tb ((and_l (p:=r'2.1.Kind=(1:Int)) (q:=((e0.Op=(15:Int))∧(r'2.1.Int_=(0:Int)))∨((e0.Op=(16:Int))∧(r'2.1.Int_=(1:Int)))) h14)))) (rp Y (p_pkf Y Y qq2 (tb ((or_l (p:=(e0.Op=(20:Int))∧(r'2.1.Kind≠(0:Int))) (q:=(r'2.1.Kind=(1:Int))∧(((e0.Op=(15:Int))∧(r'2.1.Int_=(0:Int)))∨((e0.Op=(16:Int))∧(r'2.1.Int_=(1:Int))))) (fun h=>h13 h.2))))) (rend Y Y))))
    iterate 3 (refine rO Y (dF h15) Y ?_)
    refine rn Y (dT h14) Y (p_pkf Y Y (dF h15) (tb (dF (p:=(e0.Op=(15:Int))∧(r'2.1.Int_=(0:Int))) (fun x=>h15 x.1)).symm)) (rn Y (dT h14) Y (p_move Y Y) ?_)
    have qq5:=dF (p:=(e0.Op=(15:Int))∧(r'2.1.Int_=(0:Int))) (fun h=>h15 h.1)
    refine rn Y qq5 Y (u_fa Y Y U35 Y in_3 nz Y Y (nl (GExpr.len e0))) (rn Y qq5 Y (u_ld Y Y U3 Y Y (GExpr.sub0 e0)) (rn Y qq5 Y (p_ieq Y Y Y) (rn Y qq5 Y (p_move Y Y) ?_)))
    refine (Classical.em (e0.Op=(16:Int))).elim (fun h18=>?_) (fun h18=>?_)
    ·refine rn Y (dT h18) Y (u_fa Y Y U32 Y in_3 nz Y Y (nl (GValue.len r'2.1))) (rn Y (dT h18) Y (u_ld Y Y U3 Y Y (GValue.sub1 r'2.1)) (rn Y (dT h18) Y (p_ieq Y Y Y) (rn Y qq5 Y (p_pkt Y Y (dT h18) (tb ((and_l (p:=e0.Op=(16:Int)) (q:=r'2.1.Int_=(1:Int)) h18)))) (rn Y (dT h14) Y (p_pkf Y Y qq5 (tb ((or_l (p:=(e0.Op=(15:Int))∧(r'2.1.Int_=(0:Int))) (q:=(e0.Op=(16:Int))∧(r'2.1.Int_=(1:Int))) (fun h=>h15 h.1))))) (rn Y qq2 Y (p_pkt Y Y (dT h14) (tb ((and_l (p:=r'2.1.Kind=(1:Int)) (q:=((e0.Op=(15:Int))∧(r'2.1.Int_=(0:Int)))∨((e0.Op=(16:Int))∧(r'2.1.Int_=(1:Int)))) h14)))) (rp Y (p_pkf Y Y qq2 (tb ((or_l (p:=(e0.Op=(20:Int))∧(r'2.1.Kind≠(0:Int))) (q:=(r'2.1.Kind=(1:Int))∧(((e0.Op=(15:Int))∧(r'2.1.Int_=(0:Int)))∨((e0.Op=(16:Int))∧(r'2.1.Int_=(1:Int))))) (fun h=>h13 h.2))))) ?_))))))
     exact rend Y Y
    iterate 3 (refine rO Y (dF h18) Y ?_)
    exact rn Y qq5 Y (p_pkf Y Y (dF h18) (tb (dF (p:=(e0.Op=(16:Int))∧(r'2.1.Int_=(1:Int))) (fun x=>h18 x.1)).symm)) (rn Y (dT h14) Y (p_pkf Y Y qq5 (tb ((or_l (p:=(e0.Op=(15:Int))∧(r'2.1.Int_=(0:Int))) (q:=(e0.Op=(16:Int))∧(r'2.1.Int_=(1:Int))) (fun h=>h15 h.1))))) (rn Y qq2 Y (p_pkt Y Y (dT h14) (tb ((and_l (p:=r'2.1.Kind=(1:Int)) (q:=((e0.Op=(15:Int))∧(r'2.1.Int_=(0:Int)))∨((e0.Op=(16:Int))∧(r'2.1.Int_=(1:Int)))) h14)))) (rp Y (p_pkf Y Y qq2 (tb ((or_l (p:=(e0.Op=(20:Int))∧(r'2.1.Kind≠(0:Int))) (q:=(r'2.1.Kind=(1:Int))∧(((e0.Op=(15:Int))∧(r'2.1.Int_=(0:Int)))∨((e0.Op=(16:Int))∧(r'2.1.Int_=(1:Int))))) (fun h=>h13 h.2))))) (rend Y Y))))
   iterate 4 (refine rO Y (dF h14) Y ?_)
   iterate 3 (refine r_off2 rfl rfl rfl rfl rfl rfl ?_)
   iterate 2 (refine rO Y (dF h14) Y ?_)
   iterate 8 (refine r_off2 rfl rfl rfl rfl rfl rfl ?_)
   exact rO Y (dF h14) Y (rn Y qq2 Y (p_pkf Y Y (dF h14) (tb (dF (p:=(r'2.1.Kind=(1:Int))∧(((e0.Op=(15:Int))∧(r'2.1.Int_=(0:Int)))∨((e0.Op=(16:Int))∧(r'2.1.Int_=(1:Int))))) (fun x=>h14 x.1)).symm)) (rp Y (p_pkf Y Y qq2 (tb ((or_l (p:=(e0.Op=(20:Int))∧(r'2.1.Kind≠(0:Int))) (q:=(r'2.1.Kind=(1:Int))∧(((e0.Op=(15:Int))∧(r'2.1.Int_=(0:Int)))∨((e0.Op=(16:Int))∧(r'2.1.Int_=(1:Int))))) (fun h=>h13 h.2))))) (rend Y Y)))
  iterate 3 (refine rO Y (dF h12) Y ?_)
  refine rp Y (p_pkf Y Y (dF h12) (tb (dF (p:=(e0.Op=(20:Int))∧(r'2.1.Kind≠(0:Int))) (fun x=>h12 x.1)).symm)) (rm Y ?_)
  have qq6:=dF (p:=(e0.Op=(20:Int))∧(r'2.1.Kind≠(0:Int))) (fun h=>h12 h.1)
  refine rn Y qq6 Y (u_fa Y Y U32 Y in_3 nz Y Y (nl (GValue.len r'2.1))) (rn Y qq6 Y (u_ld Y Y U3 Y Y (GValue.sub0 r'2.1)) (rn Y qq6 Y (p_ieq Y Y Y) (rn Y qq6 Y (p_move Y Y) ?_)))
  refine (Classical.em (r'2.1.Kind=(1:Int))).elim (fun h19=>?_) (fun h19=>?_)
  ·refine rn Y (dT h19) Y (u_fa Y Y U35 Y in_3 nz Y Y (nl (GExpr.len e0))) (rn Y (dT h19) Y (u_ld Y Y U3 Y Y (GExpr.sub0 e0)) (rn Y (dT h19) Y (p_ieq Y Y Y) (rn Y (dT h19) Y (p_move Y Y) ?_)))
   refine (Classical.em (e0.Op=(15:Int))).elim (fun h20=>?_) (fun h20=>?_)
   ·refine rn Y (dT h20) Y (u_fa Y Y U32 Y in_3 nz Y Y (nl (GValue.len r'2.1))) (rn Y (dT h20) Y (u_ld Y Y U3 Y Y (GValue.sub1 r'2.1)) (rn Y (dT h20) Y (p_ieq Y Y Y) (rn Y (dT h19) Y (p_pkt Y Y (dT h20) (tb ((and_l (p:=e0.Op=(15:Int)) (q:=r'2.1.Int_=(0:Int)) h20)))) (rn Y (dT h19) Y (p_move Y Y) ?_))))
    refine (Classical.em (r'2.1.Int_=(0:Int))).elim (fun h21=>?_) (fun h21=>?_)
    ·have qq7:=dT (p:=(e0.Op=(15:Int))∧(r'2.1.Int_=(0:Int))) ⟨h20,h21⟩
     iterate 4 (refine rO Y qq7 Y ?_)
     iterate 3 (refine r_off2 rfl rfl rfl rfl rfl rfl ?_)
     exact rO Y qq7 Y (rn Y (dT h19) Y (p_pkt Y Y qq7 (tb (dT (p:=((e0.Op=(15:Int))∧(r'2.1.Int_=(0:Int)))∨((e0.Op=(16:Int))∧(r'2.1.Int_=(1:Int)))) (Or.inl ⟨h20,h21⟩)).symm)) (rn Y qq6 Y (p_pkt Y Y (dT h19) (tb ((and_l (p:=r'2.1.Kind=(1:Int)) (q:=((e0.Op=(15:Int))∧(r'2.1.Int_=(0:Int)))∨((e0.Op=(16:Int))∧(r'2.1.Int_=(1:Int)))) h19)))) (rp Y (p_pkf Y Y qq6 (tb ((or_l (p:=(e0.Op=(20:Int))∧(r'2.1.Kind≠(0:Int))) (q:=(r'2.1.Kind=(1:Int))∧(((e0.Op=(15:Int))∧(r'2.1.Int_=(0:Int)))∨((e0.Op=(16:Int))∧(r'2.1.Int_=(1:Int))))) (fun h=>h12 h.1))))) (rend Y Y))))
    have qq8:=dF (p:=(e0.Op=(15:Int))∧(r'2.1.Int_=(0:Int))) (fun h=>h21 h.2)
    refine rn Y qq8 Y (u_fa Y Y U35 Y in_3 nz Y Y (nl (GExpr.len e0))) (rn Y qq8 Y (u_ld Y Y U3 Y Y (GExpr.sub0 e0)) (rn Y qq8 Y (p_ieq Y Y Y) (rn Y qq8 Y (p_move Y Y) ?_)))
    refine (Classical.em (e0.Op=(16:Int))).elim (fun h22=>?_) (fun h22=>?_)
    ·refine rn Y (dT h22) Y (u_fa Y Y U32 Y in_3 nz Y Y (nl (GValue.len r'2.1))) (rn Y (dT h22) Y (u_ld Y Y U3 Y Y (GValue.sub1 r'2.1)) (rn Y (dT h22) Y (p_ieq Y Y Y) (rn Y qq8 Y (p_pkt Y Y (dT h22) (tb ((and_l (p:=e0.Op=(16:Int)) (q:=r'2.1.Int_=(1:Int)) h22)))) (rn Y (dT h19) Y (p_pkf Y Y qq8 (tb ((or_l (p:=(e0.Op=(15:Int))∧(r'2.1.Int_=(0:Int))) (q:=(e0.Op=(16:Int))∧(r'2.1.Int_=(1:Int))) (fun h=>h21 h.2))))) (rn Y qq6 Y (p_pkt Y Y (dT h19) (tb ((and_l (p:=r'2.1.Kind=(1:Int)) (q:=((e0.Op=(15:Int))∧(r'2.1.Int_=(0:Int)))∨((e0.Op=(16:Int))∧(r'2.1.Int_=(1:Int)))) h19)))) (rp Y (p_pkf Y Y qq6 (tb ((or_l (p:=(e0.Op=(20:Int))∧(r'2.1.Kind≠(0:Int))) (q:=(r'2.1.Kind=(1:Int))∧(((e0.Op=(15:Int))∧(r'2.1.Int_=(0:Int)))∨((e0.Op=(16:Int))∧(r'2.1.Int_=(1:Int))))) (fun h=>h12 h.1))))) ?_))))))
     exact rend Y Y
    iterate 3 (refine rO Y (dF h22) Y ?_)
    exact rn Y qq8 Y (p_pkf Y Y (dF h22) (tb (dF (p:=(e0.Op=(16:Int))∧(r'2.1.Int_=(1:Int))) (fun x=>h22 x.1)).symm)) (rn Y (dT h19) Y (p_pkf Y Y qq8 (tb ((or_l (p:=(e0.Op=(15:Int))∧(r'2.1.Int_=(0:Int))) (q:=(e0.Op=(16:Int))∧(r'2.1.Int_=(1:Int))) (fun h=>h21 h.2))))) (rn Y qq6 Y (p_pkt Y Y (dT h19) (tb ((and_l (p:=r'2.1.Kind=(1:Int)) (q:=((e0.Op=(15:Int))∧(r'2.1.Int_=(0:Int)))∨((e0.Op=(16:Int))∧(r'2.1.Int_=(1:Int)))) h19)))) (rp Y (p_pkf Y Y qq6 (tb ((or_l (p:=(e0.Op=(20:Int))∧(r'2.1.Kind≠(0:Int))) (q:=(r'2.1.Kind=(1:Int))∧(((e0.Op=(15:Int))∧(r'2.1.Int_=(0:Int)))∨((e0.Op=(16:Int))∧(r'2.1.Int_=(1:Int))))) (fun h=>h12 h.1))))) (rend Y Y))))
   iterate 3 (refine rO Y (dF h20) Y ?_)
   refine rn Y (dT h19) Y (p_pkf Y Y (dF h20) (tb (dF (p:=(e0.Op=(15:Int))∧(r'2.1.Int_=(0:Int))) (fun x=>h20 x.1)).symm)) (rn Y (dT h19) Y (p_move Y Y) ?_)
   have qq9:=dF (p:=(e0.Op=(15:Int))∧(r'2.1.Int_=(0:Int))) (fun h=>h20 h.1)
   refine rn Y qq9 Y (u_fa Y Y U35 Y in_3 nz Y Y (nl (GExpr.len e0))) (rn Y qq9 Y (u_ld Y Y U3 Y Y (GExpr.sub0 e0)) (rn Y qq9 Y (p_ieq Y Y Y) (rn Y qq9 Y (p_move Y Y) ?_)))
   refine (Classical.em (e0.Op=(16:Int))).elim (fun h23=>?_) (fun h23=>?_)
   ·refine rn Y (dT h23) Y (u_fa Y Y U32 Y in_3 nz Y Y (nl (GValue.len r'2.1))) (rn Y (dT h23) Y (u_ld Y Y U3 Y Y (GValue.sub1 r'2.1)) (rn Y (dT h23) Y (p_ieq Y Y Y) (rn Y qq9 Y (p_pkt Y Y (dT h23) (tb ((and_l (p:=e0.Op=(16:Int)) (q:=r'2.1.Int_=(1:Int)) h23)))) (rn Y (dT h19) Y (p_pkf Y Y qq9 (tb ((or_l (p:=(e0.Op=(15:Int))∧(r'2.1.Int_=(0:Int))) (q:=(e0.Op=(16:Int))∧(r'2.1.Int_=(1:Int))) (fun h=>h20 h.1))))) (rn Y qq6 Y (p_pkt Y Y (dT h19) (tb ((and_l (p:=r'2.1.Kind=(1:Int)) (q:=((e0.Op=(15:Int))∧(r'2.1.Int_=(0:Int)))∨((e0.Op=(16:Int))∧(r'2.1.Int_=(1:Int)))) h19)))) (rp Y (p_pkf Y Y qq6 (tb ((or_l (p:=(e0.Op=(20:Int))∧(r'2.1.Kind≠(0:Int))) (q:=(r'2.1.Kind=(1:Int))∧(((e0.Op=(15:Int))∧(r'2.1.Int_=(0:Int)))∨((e0.Op=(16:Int))∧(r'2.1.Int_=(1:Int))))) (fun h=>h12 h.1))))) ?_))))))
    exact rend Y Y
   iterate 3 (refine rO Y (dF h23) Y ?_)
   exact rn Y qq9 Y (p_pkf Y Y (dF h23) (tb (dF (p:=(e0.Op=(16:Int))∧(r'2.1.Int_=(1:Int))) (fun x=>h23 x.1)).symm)) (rn Y (dT h19) Y (p_pkf Y Y qq9 (tb ((or_l (p:=(e0.Op=(15:Int))∧(r'2.1.Int_=(0:Int))) (q:=(e0.Op=(16:Int))∧(r'2.1.Int_=(1:Int))) (fun h=>h20 h.1))))) (rn Y qq6 Y (p_pkt Y Y (dT h19) (tb ((and_l (p:=r'2.1.Kind=(1:Int)) (q:=((e0.Op=(15:Int))∧(r'2.1.Int_=(0:Int)))∨((e0.Op=(16:Int))∧(r'2.1.Int_=(1:Int)))) h19)))) (rp Y (p_pkf Y Y qq6 (tb ((or_l (p:=(e0.Op=(20:Int))∧(r'2.1.Kind≠(0:Int))) (q:=(r'2.1.Kind=(1:Int))∧(((e0.Op=(15:Int))∧(r'2.1.Int_=(0:Int)))∨((e0.Op=(16:Int))∧(r'2.1.Int_=(1:Int))))) (fun h=>h12 h.1))))) (rend Y Y))))
  iterate 4 (refine rO Y (dF h19) Y ?_)
  iterate 3 (refine r_off2 rfl rfl rfl rfl rfl rfl ?_)
  iterate 2 (refine rO Y (dF h19) Y ?_)
  iterate 8 (refine r_off2 rfl rfl rfl rfl rfl rfl ?_)
  exact rO Y (dF h19) Y (rn Y qq6 Y (p_pkf Y Y (dF h19) (tb (dF (p:=(r'2.1.Kind=(1:Int))∧(((e0.Op=(15:Int))∧(r'2.1.Int_=(0:Int)))∨((e0.Op=(16:Int))∧(r'2.1.Int_=(1:Int))))) (fun x=>h19 x.1)).symm)) (rp Y (p_pkf Y Y qq6 (tb ((or_l (p:=(e0.Op=(20:Int))∧(r'2.1.Kind≠(0:Int))) (q:=(r'2.1.Kind=(1:Int))∧(((e0.Op=(15:Int))∧(r'2.1.Int_=(0:Int)))∨((e0.Op=(16:Int))∧(r'2.1.Int_=(1:Int))))) (fun h=>h12 h.1))))) (rend Y Y)))
 refine gen1 (fun t92'4=>(⟨[(1,.p (GColumn.ls cols1)),(2,.p (GValue.ls row2)),(3,.q 3 (0)),(6,.q 6 (0)),(9,.q 9 (0)),(92,.b t92'4)],[(3,.pure (GExpr.cs e0)),(6,.pure (GValue.cs GValue.zero)),(9,.pure (GValue.cs r'2.1))],115⟩:TS)) H ?_
 intro t92'4 H
 refine AW2_cond Y (fun h24=>?_) (fun h24=>?_)
 ·replace H:=ite_then h24 H
  refine sg [0,1,2] Y (rp Y (u_lda Y Y U32 Y in_32 Y np (Sub.refl _) (GValue.len r'2.1)) (rq Y (u_sw Y Y Y Y Y in_32 (GValue.len r'2.1) (GValue.len GValue.zero) Y) (ra Y (rz [(6,.q 6 (0)),(7,.i (0:Int))] [(6,.pure (GValue.cs r'2.1))] Y (AW2_ret ?_)))))
  have z:=se H; subst z
  exact ⟨⟨rcw U32 Y in_32 Y (GValue.len r'2.1),rt,trivial⟩,trivial⟩
 replace H:=ite_else (ne_true h24) H
 refine as2 [(1,.p (GColumn.ls cols1)),(2,.p (GValue.ls row2)),(3,.q 3 (0)),(6,.q 6 (0)),(9,.q 9 (0))] [(3,.pure (GExpr.cs e0)),(6,.pure (GValue.cs GValue.zero)),(9,.pure (GValue.cs r'2.1))] Y (AW2_skip (sg [0,1,2,3,4,5,6,7,8,9,10,11,12] Y (rf Y U35 Y in_33 Y Y (GExpr.len e0) (rp Y (u_ld Y Y U33 Y Y (GExpr.sub3 e0)) (chkK H fun h25 H=>rp Y (u_ixl Y Y U33 in_35 Y Y Y h25 (fne (fun x=>(GExpr.len x)) (by decide) h25)) ?_)))))
 refine rp Y (u_lda Y Y U35 Y in_35 Y np (Sub.fm default (fun x=>(GExpr.len x)) h25) (GExpr.len (lrd e0.Args 1))) (rm Y (rm Y (bindK H fun r'5 h26 H=>rp Y (p_callp Y Y Y Tryz.func22 Y Y (hR h26) ⟨Y,Y,Y,trivial⟩) (rm Y (rp Y (p_ext Y Y Y Y) ?_)))))
 refine rp Y (p_ext Y Y Y Y) (rq Y (MakeD.opD (u_alloc 11 Y in_32 one_32 zc_32) Y Y Y Y) (rq Y (u_sw Y Y Y Y Y in_32 (GValue.len r'5.1) (GValue.len GValue.zero) Y) (ra Y (rz [(3,_),(6,_),(9,_),(10,.i r'5.2),(11,.q 11 (0))] [(3,.pure (GExpr.cs e0)),(6,.pure (GValue.cs GValue.zero)),(9,.pure (GValue.cs r'2.1)),(11,.pure (GValue.cs r'5.1))] Y (AW2_seq (sg [0,1] Y ?_))))))
 refine rm Y (rp Y (p_ine Y Y Y) (rz [(3,_),(6,_),(9,_),(10,_),(11,_),(105,.b (decide (r'5.2≠(0:Int))))] [(3,_),(6,_),(9,_),(11,_)] Y (if2 H Y (fun h27 H=>?_) (fun h27 H=>?_))))
 ·refine sg [0,1,2,3] Y (rp Y (u_bld Y in_32 one_32 zc_32 pl_32 Y Y) (rm Y (rq Y (u_sw Y Y Y Y Y in_32 (GValue.len GValue.zero) (GValue.len GValue.zero) Y) (ra Y (rz [(6,_),(7,.i r'5.2)] [(6,.pure (GValue.cs GValue.zero))] Y (AW2_ret ?_))))))
  have z:=se H; subst z
  exact ⟨⟨rcw U32 Y in_32 Y (GValue.len GValue.zero),rt,trivial⟩,trivial⟩
 refine as2 [(3,_),(6,_),(9,_),(11,_)] [(3,_),(6,_),(9,_),(11,_)] Y (AW2_skip (sg [0,1,2,3,4,5,6,7,8] Y (rf Y U35 Y in_3 Y Y (GExpr.len e0) (rp Y (u_ld Y Y U3 Y Y (GExpr.sub0 e0)) (rp Y (u_lda Y Y U32 Y in_32 Y np (Sub.refl _) (GValue.len r'2.1)) (rp Y (u_lda Y Y U32 Y in_32 Y np (Sub.refl _) (GValue.len r'5.1)) ?_))))))
 refine bindK H fun r'6 h28 H=>rp Y (p_callp Y Y Y Tryz.func40 Y Y (g_ref_did_ac h28) ⟨Y,Y,Y,trivial⟩) (rp Y (p_ext Y Y Y Y) (rp Y (p_ext Y Y Y Y) (rq Y (u_sw Y Y Y Y Y in_32 (GValue.len r'6.1) (GValue.len GValue.zero) Y) (ra Y (rz [(6,_),(7,.i r'6.2)] [(6,.pure (GValue.cs r'6.1))] Y ?_)))))
 refine AW2_ret ?_
 have z:=se H; subst z
 exact ⟨⟨rcw U32 Y in_32 Y (GValue.len r'6.1),rt,trivial⟩,trivial⟩
theorem g_ref_valued_acN:∀ (fu:Nat) {e0:GExpr} {cols1:List GColumn} {row2:List GValue} {r:GValue×Int},g_ref_valued fu e0 cols1 row2=some r→ACp Tryz.prog 22 [(.agg (GExpr.cs e0)),(GColumn.ls cols1),(GValue.ls row2)] (.tup [(.agg (GValue.cs r.1)),(AV.int r.2)])
 | 0,_,_,_,_,H=>(by cases H)
 | fu+1,_,_,_,_,H=>g_ref_valued_ac0 (g_ref_valued_acN fu) H
theorem g_ref_valued_ac {e0:GExpr} {cols1:List GColumn} {row2:List GValue} {r:GValue×Int} (H:g_ref_valued 100000 e0 cols1 row2=some r):ACp Tryz.prog 22 [(.agg (GExpr.cs e0)),(GColumn.ls cols1),(GValue.ls row2)] (.tup [(.agg (GValue.cs r.1)),(AV.int r.2)]):=g_ref_valued_acN 100000 H
def g_ref_True_r12:List (List (Nat×Option Nat)):=[[(10,none)],[]]
def g_ref_True_r12c:List (List Nat):=[[],[],[0,1],[0,1,2],[0,1,2,3]]
noncomputable def g_ref_True (e0:GExpr) (cols1:List GColumn) (r2:List GValue):Option (Bool×Int) :=
  (g_ref_ConditionFault e0 cols1).bind fun r'1=>(if r'1≠(0:Int) then some (false,r'1) else (g_ref_RowFault r2 cols1).bind fun r'2=>(if r'2≠(0:Int) then some (false,r'2) else (g_ref_noExpr e0).bind fun r'3=>(if r'3=true then some (true,(0:Int)) else (g_ref_valued 100000 e0 cols1 r2).bind fun r'4=>(if r'4.2≠(0:Int) then some (false,r'4.2) else (g_ref_boolOf (2:Int)).bind fun r'5=>some ((decide (r'4.1=r'5)),(0:Int))))))
set_option maxHeartbeats 4000000 in
set_option maxRecDepth 100000 in
theorem g_ref_True_ac {e0:GExpr} {cols1:List GColumn} {r2:List GValue} {r:Bool×Int} (H:g_ref_True e0 cols1 r2=some r):ACp Tryz.prog 15 [(.agg (GExpr.cs e0)),(GColumn.ls cols1),(GValue.ls r2)] (.tup [(AV.bool r.1),(AV.int r.2)]):=by
 refine ACp_of (AC2_of_body (vs:=[.b r.1,.i r.2]) Tryz.func15 Y Y (lb Y) Y ?_) (fun _=>.same _)
 unfold g_ref_True at H
 refine as2 [(0,.g (GExpr.cs e0)),(1,.p (GColumn.ls cols1)),(2,.p (GValue.ls r2))] [] Y (sg [0,1,2] Y (rq Y (MakeD.opD (n_box 3 Y Y) Y Y Y Y) (ra Y (ra Y (rz [(1,_),(2,_),(3,.q 3 (0))] [(3,.pure (GExpr.cs e0))] Y (AW2_seq ?_))))))
 refine sg [0,1,2,3] Y (rp Y (u_lda Y Y U35 Y in_35 Y np (Sub.refl _) (GExpr.len e0)) (rm Y (bindK H fun r'1 h1 H=>rp Y (p_callp Y Y Y Tryz.func14 Y Y (g_ref_ConditionFault_ac h1) ⟨Y,Y,trivial⟩) (ra Y (rz [(1,_),(2,_),(3,_),(8,.i r'1)] [(3,_)] Y ?_)))))
 refine sg [0,1] Y (rm Y (rp Y (p_ine Y Y Y) (rz [(1,_),(2,_),(3,_),(8,_),(16,.b (decide (r'1≠(0:Int))))] [(3,_)] Y (if2 H Y (fun h2 H=>?_) (fun h2 H=>?_)))))
 ·refine sg [0,1,2] Y (rm Y (ra Y (ra Y (rz [(6,.b false),(7,.i r'1)] [] Y (AW2_ret ?_)))))
  have z:=se H; subst z
  exact ⟨⟨rt,rt,trivial⟩,trivial⟩
 refine as2 [(1,_),(2,_),(3,_)] [(3,_)] Y (AW2_skip (AW2_seq (sg [0,1,2,3] Y (rm Y (rm Y (bindK H fun r'2 h3 H=>?_))))))
 refine rp Y (p_callp Y Y Y Tryz.func36 Y Y (g_ref_RowFault_ac h3) ⟨Y,Y,trivial⟩) (ra Y (rz [(1,_),(2,_),(3,_),(9,.i r'2)] [(3,_)] Y (sg [0,1] Y (rm Y (rp Y (p_ine Y Y Y) (rz [(1,_),(2,_),(3,_),(9,_),(22,.b (decide (r'2≠(0:Int))))] [(3,_)] Y ?_))))))
 refine if2 H Y (fun h4 H=>?_) (fun h4 H=>?_)
 ·refine sg [0,1,2] Y (rm Y (ra Y (ra Y (rz [(6,.b false),(7,.i r'2)] [] Y (AW2_ret ?_)))))
  have z:=se H; subst z
  exact ⟨⟨rt,rt,trivial⟩,trivial⟩
 refine as2 [(1,_),(2,_),(3,_)] [(3,_)] Y (AW2_skip (AW2_seq (sg [0,1] Y (rp Y (u_lda Y Y U35 Y in_35 Y np (Sub.refl _) (GExpr.len e0)) (bindK H fun r'3 h5 H=>rp Y (p_callp Y Y Y Tryz.func33 Y Y (g_ref_noExpr_ac h5) ⟨Y,trivial⟩) ?_)))))
 refine rz [(1,_),(2,_),(3,_),(25,.b r'3)] [(3,_)] Y (AW2_cond Y (fun h6=>?_) (fun h6=>?_))
 ·replace H:=ite_then h6 H
  refine sg [0,1] Y (ra Y (ra Y (rz [(6,.b true),(7,.i (0:Int))] [] Y (AW2_ret ?_))))
  have z:=se H; subst z
  exact ⟨⟨rt,rt,trivial⟩,trivial⟩
 replace H:=ite_else (ne_true h6) H
 refine as2 [(1,.p (GColumn.ls cols1)),(2,.p (GValue.ls r2)),(3,.q 3 (0))] [(3,.pure (GExpr.cs e0))] Y (AW2_skip (sg [0,1,2,3,4,5,6,7,8,9] Y (rp Y (u_lda Y Y U35 Y in_35 Y np (Sub.refl _) (GExpr.len e0)) (rm Y (rm Y (bindK H fun r'4 h7 H=>?_))))))
 refine rp Y (p_callp Y Y Y Tryz.func22 Y Y (g_ref_valued_ac h7) ⟨Y,Y,Y,trivial⟩) (rm Y (rp Y (p_ext Y Y Y Y) (rp Y (p_ext Y Y Y Y) (rq Y (MakeD.opD (u_alloc 10 Y in_32 one_32 zc_32) Y Y Y Y) (rq Y (u_sw Y Y Y Y Y in_32 (GValue.len r'4.1) (GValue.len GValue.zero) Y) (ra Y ?_))))))
 refine rz [(10,.q 10 (0)),(11,.i r'4.2)] [(10,.pure (GValue.cs r'4.1))] Y (AW2_seq (sg [0,1] Y (rm Y (rp Y (p_ine Y Y Y) (rz [(10,_),(11,_),(34,.b (decide (r'4.2≠(0:Int))))] [(10,_)] Y (if2 H Y (fun h8 H=>?_) (fun h8 H=>?_)))))))
 ·refine sg [0,1,2] Y (rm Y (ra Y (ra Y (rz [(6,.b false),(7,.i r'4.2)] [] Y (AW2_ret ?_)))))
  have z:=se H; subst z
  exact ⟨⟨rt,rt,trivial⟩,trivial⟩
 refine as2 [(10,_)] [(10,_)] Y (AW2_skip (AW2_seq (bindK H fun r'5 h9 H=>AW2_ghoQ (AW2_draw 2 [2,3,4] (fun k=>([.g (GValue.cs r'4.1),.g (GValue.cs r'5)]:List TV).getD k TV.any) (fun k=>g_ref_True_r12.getD k []) [(36,some 0),(37,some 1)] [] (fun k=>g_ref_True_r12c.getD k []) mixed (by kernel_rfl) Y Y (a_op (g_x Y (x_p Y (u_lda Y Y U32 Y in_32 Y np (Sub.refl _) (GValue.len r'4.1)) Y)) (a_op (g_x Y (x_p Y (p_callp Y Y Y Tryz.func37 Y Y (g_ref_boolOf_ac h9) ⟨Y,trivial⟩) Y)) (a_nil))) (t_op Y Y (PureD.opD (p_eqa (a:=r'4.1) (b:=r'5) Y eq_32 Y (by kernel_rfl) Y Y)) ?_)))))
 refine t_op Y Y (PureD.opD (p_asg Y Y)) (t_op Y Y (PureD.opD (p_asg Y Y)) (t_gho (Gho_st (L:=[(6,.b (decide (r'4.1=r'5))),(7,.i (0:Int))]) (H:=[]) (N:=39) Y ⟨TLes.same _,TLes.same _,trivial⟩ trivial) (AW2_ret ?_)))
 have z:=se H; subst z
 exact ⟨⟨rt,rt,trivial⟩,trivial⟩
noncomputable def g_ref_Deleted_l0 (t0:GTable) (drawer1:Int) (where2:GExpr):Int×Int×GTable→Option ((Int×Int×GTable)⊕((GTable×Int×Int)⊕(Int×GTable)))
  | (n10_0,t32_0,t3_0)=>(if t32_0 < (4:Int) then (show Option ((GTable×Int×Int)⊕(Int×GTable)) from if 0≤t32_0∧t32_0 < (4:Int) then (if (!((vrd (vrd t0.Drawers drawer1.toNat) t32_0.toNat).Full))=true then some (.inr (n10_0,t3_0)) else (g_ref_True where2 t3_0.Cols ((vrd (vrd t0.Drawers drawer1.toNat) t32_0.toNat).Row)).bind fun r'5=>(if r'5.2≠(0:Int) then some (.inl (GTable.zero,(0:Int),r'5.2)) else (if r'5.1=true then if 0≤drawer1∧drawer1 < (2:Int) then if 0≤t32_0∧t32_0 < (4:Int) then letO ({ t3_0 with Drawers:=(vwr t3_0.Drawers drawer1.toNat (vwr (vrd t3_0.Drawers drawer1.toNat) t32_0.toNat GCell.zero)) }) fun t3'6=>some (.inr (w64 (n10_0+(1:Int)),t3'6)) else none else none else some (.inr (n10_0,t3_0))))) else none).bind fun o'8=>match o'8 with | .inl y'7=>some (.inr (.inl y'7)) | .inr j'4=>some (.inl (j'4.1,w64 (t32_0+(1:Int)),j'4.2)) else some (.inr (.inr (n10_0,t3_0))))
noncomputable def g_ref_Deleted (t0:GTable) (drawer1:Int) (where2:GExpr):Option (GTable×Int×Int) :=
  (g_ref_ready t0 drawer1).bind fun r'1=>((if r'1=(0:Int) then (g_ref_ConditionFault where2 t0.Cols).bind fun r'3=>some r'3 else some r'1)).bind fun j'2=>(if j'2≠(0:Int) then some (GTable.zero,(0:Int),j'2) else if 0≤drawer1∧drawer1 < (2:Int) then (loopO (g_ref_Deleted_l0 t0 drawer1 where2) ((0:Int),(0:Int),t0)).bind fun o'12=>match o'12 with | .inl y'13=>some y'13 | .inr (y'14)=>some (y'14.2,y'14.1,(0:Int)) else none)
set_option maxHeartbeats 4000000 in
set_option maxRecDepth 100000 in
theorem g_ref_Deleted_ac {t0:GTable} {drawer1:Int} {where2:GExpr} {r:GTable×Int×Int} (H:g_ref_Deleted t0 drawer1 where2=some r):ACp Tryz.prog 6 [(.agg (GTable.cs t0)),(AV.int drawer1),(.agg (GExpr.cs where2))] (.tup [(.agg (GTable.cs r.1)),(AV.int r.2.1),(AV.int r.2.2)]):=by
 refine ACp_of (AC2_of_body (vs:=[.g (GTable.cs r.1),.i r.2.1,.i r.2.2]) Tryz.func6 Y Y (lb Y) Y ?_) (fun _=>.same _)
 unfold g_ref_Deleted at H
 refine as2 [(0,.g (GTable.cs t0)),(1,.i drawer1),(2,.g (GExpr.cs where2))] [] Y (sg [0,1,2,3,4] Y (rq Y (MakeD.opD (n_box 3 Y Y) Y Y Y Y) (rq Y (MakeD.opD (n_box 5 Y Y) Y Y Y Y) (rq Y (MakeD.opD (u_alloc 6 Y in_29 one_29 zc_29) Y Y Y Y) (ra Y (ra Y ?_))))))
 refine rz [(1,_),(3,.q 3 (0)),(5,.q 5 (0)),(6,.q 6 (0))] [(3,.pure (GTable.cs t0)),(5,.pure (GExpr.cs where2)),(6,.pure (GTable.cs GTable.zero))] Y (sg [0,1,2,3] Y (rp Y (u_lda Y Y U29 Y in_29 Y np (Sub.refl _) (GTable.len t0)) (rm Y (bindK H fun r'1 h1 H=>rp Y (p_callp Y Y Y Tryz.func13 Y Y (g_ref_ready_ac h1) ⟨Y,Y,trivial⟩) (ra Y ?_)))))
 refine rz [(1,_),(3,_),(5,_),(6,_),(9,.i r'1)] [(3,_),(5,_),(6,_)] Y (AW2_seq (bindK H fun j'2 h2 H=>AW2_mid (⟨[(1,.i drawer1),(3,.q 3 (0)),(5,.q 5 (0)),(6,.q 6 (0)),(9,.i j'2)],[(3,.pure (GTable.cs t0)),(5,.pure (GExpr.cs where2)),(6,.pure (GTable.cs GTable.zero))],64⟩:TS) ?_ ?_))
 ·clear H
  have H:=h2
  clear h2
  refine sg [0,1] Y (rm Y (rp Y (p_ieq Y Y Y) (rz [(1,.i drawer1),(3,.q 3 (0)),(5,.q 5 (0)),(6,.q 6 (0)),(9,.i r'1),(19,.b (decide (r'1=(0:Int))))] [(3,.pure (GTable.cs t0)),(5,.pure (GExpr.cs where2)),(6,.pure (GTable.cs GTable.zero))] Y (if2 H Y (fun h3 H=>?_) (fun h3 H=>?_)))))
  ·refine AW2_reg [0,1,2,3,4] Y (rp Y (u_lda Y Y U35 Y in_35 Y np (Sub.refl _) (GExpr.len where2)) (rf Y U29 Y in_22 Y Y (GTable.len t0) (rp Y (u_ld Y Y U22 Y Y (GTable.sub2 t0)) (bindK H fun r'3 h4 H=>rp Y (p_callp Y Y Y Tryz.func14 Y Y (g_ref_ConditionFault_ac h4) ⟨Y,Y,trivial⟩) (ra Y ?_)))))
   refine rz [(1,_),(3,_),(5,_),(6,_),(9,.i r'3)] [(3,_),(5,_),(6,_)] Y ?_
   have z:=se H; subst z
   exact rfl
  refine as2 [(1,_),(3,_),(5,_),(6,_),(9,_)] [(3,_),(5,_),(6,_)] Y (AW2_skip ?_)
  have z:=se H; subst z
  exact rfl
 refine AW2_seq (sg [0,1] Y (rm Y (rp Y (p_ine Y Y Y) (rz [(1,_),(3,_),(5,_),(6,_),(9,_),(25,.b (decide (j'2≠(0:Int))))] [(3,_),(5,_),(6,_)] Y (if2 H Y (fun h5 H=>?_) (fun h5 H=>?_))))))
 ·refine sg [0,1,2,3,4] Y (rp Y (u_bld Y in_29 one_29 zc_29 pl_29 Y Y) (rm Y (rq Y (u_sw Y Y Y Y Y in_29 (GTable.len GTable.zero) (GTable.len GTable.zero) Y) (ra Y (ra Y (rz [(6,_),(7,.i (0:Int)),(8,.i j'2)] [(6,.pure (GTable.cs GTable.zero))] Y ?_))))))
  refine AW2_ret ?_
  have z:=se H; subst z
  exact ⟨⟨rcw U29 Y in_29 Y (GTable.len GTable.zero),rt,rt,trivial⟩,trivial⟩
 refine as2 [(1,_),(3,_),(5,_),(6,_)] [(3,_),(5,_),(6,_)] Y (AW2_skip (sg [0] Y (ra Y (rz [(1,_),(3,_),(5,_),(6,_),(10,.i (0:Int))] [(3,_),(5,_),(6,_)] Y (AW2_seq (sg [0,1,2,3,4] Y ?_))))))
 refine rm Y (rf Y U29 Y in_27 Y Y (GTable.len t0) (chkK H fun h6 H=>rp Y (u_ixp Y Y U27 in_26 Y Y (nl (GTable.len t0)) Y (ixe h6) (ixn h6)) (rp Y (u_lda Y Y U26 Y in_26 Y np ((GTable.sub3 t0).trans (Sub.vfm (fun x=>(vfm_len (fun x=>(GCell.len x)) x)) (ixn h6))) (vfm_len (fun x=>(GCell.len x)) (vrd t0.Drawers drawer1.toNat))) (rm Y (rz [(1,_),(3,_),(5,_),(6,_),(10,_),(31,.g (((vrd t0.Drawers drawer1.toNat).toList).flatMap GCell.cs)),(32,.i (0:Int))] [(3,_),(5,_),(6,_)] Y ?_)))))
 refine AW2_block (as2 [(1,_),(3,_),(5,_),(6,_),(10,_),(31,_),(32,_)] [(3,_),(5,_),(6,_)] Y (bindK H fun o'12 h16 H=>AW2_loopO (fun a'9:Int×Int×GTable=>(⟨[(1,.i drawer1),(3,.q 3 (0)),(5,.q 5 (0)),(6,.q 6 (0)),(10,.i a'9.1),(31,.g (((vrd t0.Drawers drawer1.toNat).toList).flatMap GCell.cs)),(32,.i a'9.2.1)],[(3,.pure (GTable.cs a'9.2.2)),(5,.pure (GExpr.cs where2)),(6,.pure (GTable.cs GTable.zero))],64⟩:TS)) (fun (o:(GTable×Int×Int)⊕(Int×GTable)) e s'=>match o with | .inl y'10=>e=Go.Exit.ret∧ResAll Tryz.prog s' [ResultVar.cell 6 29,ResultVar.tmp 7,ResultVar.tmp 8] [.g (GTable.cs y'10.1),.i y'10.2.1,.i y'10.2.2]∧HFits s' [] | .inr (y'11)=>e=Go.Exit.exit 0∧s'=(⟨[(3,.q 3 (0)),(6,.q 6 (0)),(10,.i y'11.1)],[(3,.pure (GTable.cs y'11.2)),(6,.pure (GTable.cs GTable.zero))],64⟩:TS)) h16 Y (fun a x hx=>?_) (fun e s' hs=>?_)))
 ·clear H
  obtain ⟨n10_0,t32_0,t3_0⟩:=a
  have H:=hx
  clear hx
  unfold g_ref_Deleted_l0 at H
  refine sg [0] Y (rp Y (p_bin Y Y Y Y) (rz [(1,.i drawer1),(3,.q 3 (0)),(5,.q 5 (0)),(6,.q 6 (0)),(10,.i n10_0),(31,.g (((vrd t0.Drawers drawer1.toNat).toList).flatMap GCell.cs)),(32,.i t32_0),(33,.b (decide (t32_0 < (4:Int))))] [(3,.pure (GTable.cs t3_0)),(5,.pure (GExpr.cs where2)),(6,.pure (GTable.cs GTable.zero))] Y (AW2_seq (if2 H Y (fun h7 H=>?_) (fun h7 H=>?_)))))
  ·refine as2 [(1,_),(3,_),(5,_),(6,_),(10,_),(31,_),(32,_)] [(3,_),(5,_),(6,_)] Y (AW2_skip (AW2_seq (bindK H fun o'8 h8 H=>AW2_join (fun j'4:Int×GTable=>(⟨[(1,.i drawer1),(3,.q 3 (0)),(5,.q 5 (0)),(6,.q 6 (0)),(10,.i j'4.1),(31,.g (((vrd t0.Drawers drawer1.toNat).toList).flatMap GCell.cs)),(32,.i t32_0)],[(3,.pure (GTable.cs j'4.2)),(5,.pure (GExpr.cs where2)),(6,.pure (GTable.cs GTable.zero))],64⟩:TS)) (fun r e s'=>e=Go.Exit.ret∧ResAll Tryz.prog s' [ResultVar.cell 6 29,ResultVar.tmp 7,ResultVar.tmp 8] [.g (GTable.cs r.1),.i r.2.1,.i r.2.2]∧HFits s' []) (x:=o'8) ?_ (fun j'4 hy=>?_) (fun y'7 e s' hy hs=>?_))))
   ·clear H
    have H:=h8
    clear h8
    refine AW2_block (sg [0,1,2,3,4] Y (rm Y (chkK H fun h9 H=>rp Y (u_ixaa Y Y U26 in_25 U25 Y Y Y (ixe h9) (ixn h9) (Sub.vfm (fun x=>(GCell.len x)) (ixn h9)) (GCell.len (vrd (vrd t0.Drawers drawer1.toNat) t32_0.toNat))) (rq Y (MakeD.opD (u_alloc 12 Y in_25 one_25 zc_25) Y Y Y Y) (ra Y ?_)))))
    refine rq Y (u_sw Y Y Y Y Y in_25 (GCell.len (vrd (vrd t0.Drawers drawer1.toNat) t32_0.toNat)) (GCell.len GCell.zero) Y) (rz [(1,.i drawer1),(3,.q 3 (0)),(5,.q 5 (0)),(6,.q 6 (0)),(10,.i n10_0),(11,.i t32_0),(12,.q 12 (0)),(31,.g (((vrd t0.Drawers drawer1.toNat).toList).flatMap GCell.cs)),(32,.i t32_0)] [(3,.pure (GTable.cs t3_0)),(5,.pure (GExpr.cs where2)),(6,.pure (GTable.cs GTable.zero)),(12,.pure (GCell.cs (vrd (vrd t0.Drawers drawer1.toNat) t32_0.toNat)))] Y (AW2_seq (sg [0,1,2] Y (rf Y U25 Y in_4 Y Y (GCell.len (vrd (vrd t0.Drawers drawer1.toNat) t32_0.toNat)) (rp Y (u_ld Y Y U4 Y Y (GCell.sub0 (vrd (vrd t0.Drawers drawer1.toNat) t32_0.toNat))) (rp Y (p_not Y Y) ?_))))))
    refine rz [(1,_),(3,_),(5,_),(6,_),(10,_),(11,_),(12,_),(31,_),(32,_),(38,.b (!((vrd (vrd t0.Drawers drawer1.toNat) t32_0.toNat).Full)))] [(3,_),(5,_),(6,_),(12,_)] Y (AW2_cond Y (fun h10=>?_) (fun h10=>?_))
    ·replace H:=ite_then h10 H
     refine as2 [(1,.i drawer1),(3,.q 3 (0)),(5,.q 5 (0)),(6,.q 6 (0)),(10,.i n10_0),(31,.g (((vrd t0.Drawers drawer1.toNat).toList).flatMap GCell.cs)),(32,.i t32_0)] [(3,.pure (GTable.cs t3_0)),(5,.pure (GExpr.cs where2)),(6,.pure (GTable.cs GTable.zero))] Y (AW2_exit (thenQ2_exit (blockQ2_exit ?_)))
     have z:=se H; subst z
     exact ⟨Y,Y⟩
    replace H:=ite_else (ne_true h10) H
    refine as2 [(1,.i drawer1),(3,.q 3 (0)),(5,.q 5 (0)),(6,.q 6 (0)),(10,.i n10_0),(11,.i t32_0),(12,.q 12 (0)),(31,.g (((vrd t0.Drawers drawer1.toNat).toList).flatMap GCell.cs)),(32,.i t32_0)] [(3,.pure (GTable.cs t3_0)),(5,.pure (GExpr.cs where2)),(6,.pure (GTable.cs GTable.zero)),(12,.pure (GCell.cs (vrd (vrd t0.Drawers drawer1.toNat) t32_0.toNat)))] Y (AW2_skip (sg [0,1,2,3,4,5,6,7,8,9,10] Y (rp Y (u_lda Y Y U35 Y in_35 Y np (Sub.refl _) (GExpr.len where2)) (rf Y U29 Y in_22 Y Y (GTable.len t3_0) (rp Y (u_ld Y Y U22 Y Y (GTable.sub2 t3_0)) (rf Y U25 Y in_23 Y Y (GCell.len (vrd (vrd t0.Drawers drawer1.toNat) t32_0.toNat)) ?_))))))
    refine rp Y (u_ld Y Y U23 Y Y (GCell.sub1 (vrd (vrd t0.Drawers drawer1.toNat) t32_0.toNat))) (bindK H fun r'5 h11 H=>rp Y (p_callp Y Y Y Tryz.func15 Y Y (g_ref_True_ac h11) ⟨Y,Y,Y,trivial⟩) (rm Y (rp Y (p_ext Y Y Y Y) (rp Y (p_ext Y Y Y Y) (ra Y ?_)))))
    refine ra Y (rz [(1,_),(3,_),(5,_),(6,_),(10,_),(11,_),(13,.b r'5.1),(14,.i r'5.2),(31,_),(32,_)] [(3,_),(5,_),(6,_)] Y (AW2_seq (sg [0,1] Y (rm Y (rp Y (p_ine Y Y Y) (rz [(1,_),(3,_),(5,_),(6,_),(10,_),(11,_),(13,_),(14,_),(31,_),(32,_),(49,.b (decide (r'5.2≠(0:Int))))] [(3,_),(5,_),(6,_)] Y ?_))))))
    refine if2 H Y (fun h12 H=>?_) (fun h12 H=>?_)
    ·refine sg [0,1,2,3,4] Y (rp Y (u_bld Y in_29 one_29 zc_29 pl_29 Y Y) (rm Y (rq Y (u_sw Y Y Y Y Y in_29 (GTable.len GTable.zero) (GTable.len GTable.zero) Y) (ra Y (ra Y (rz [(6,_),(7,.i (0:Int)),(8,.i r'5.2)] [(6,.pure (GTable.cs GTable.zero))] Y ?_))))))
     refine AW2_ret ?_
     have z:=se H; subst z
     exact ⟨Y,⟨rcw U29 Y in_29 Y (GTable.len GTable.zero),rt,rt,trivial⟩,trivial⟩
    refine as2 [(1,_),(3,_),(5,_),(6,_),(10,_),(11,_),(13,_),(31,_),(32,_)] [(3,_),(5,_),(6,_)] Y (AW2_skip (sg [0] Y (rm Y (rz [(1,_),(3,_),(5,_),(6,_),(10,_),(11,_),(31,_),(32,_),(52,.b r'5.1)] [(3,_),(5,_),(6,_)] Y (AW2_cond Y (fun h13=>?_) (fun h13=>?_))))))
    ·replace H:=ite_then h13 H
     refine sg [0,1,2] Y (rm Y (rp Y (p_bin Y Y Y Y) (ra Y (rz [(1,.i drawer1),(3,.q 3 (0)),(5,.q 5 (0)),(6,.q 6 (0)),(10,.i (w64 (n10_0+(1:Int)))),(11,.i t32_0),(31,.g (((vrd t0.Drawers drawer1.toNat).toList).flatMap GCell.cs)),(32,.i t32_0)] [(3,.pure (GTable.cs t3_0)),(5,.pure (GExpr.cs where2)),(6,.pure (GTable.cs GTable.zero))] Y (AW2_reg [0,1,2,3,4,5,6] Y (rm Y ?_))))))
     refine rm Y (rp Y (u_bld Y in_25 one_25 zc_25 pl_25 Y Y) (rf Y U29 Y in_27 Y Y (GTable.len t3_0) (chkK H fun h14 H=>rp Y (u_ixp Y Y U27 in_26 Y Y (nl (GTable.len t3_0)) Y (ixe h14) (ixn h14)) (chkK H fun h15 H=>rp Y (u_ixp Y Y U26 in_25 Y Y (nl (GTable.len t3_0)) Y (ixe h15) (ixn h15)) ?_))))
     refine rq Y (u_st Y Y Y Y Y in_25 (GCell.len GCell.zero) (nl (GTable.len t3_0)) (Upd.trans ((GTable.sub3 t3_0).trans (Sub.vfm (fun x=>(vfm_len (fun x=>(GCell.len x)) x)) (ixn h14))) (Upd.vfm (fun x=>(GCell.len x)) (ixn h15)) (Upd.trans (GTable.sub3 t3_0) (Upd.vfm (fun x=>(vfm_len (fun x=>(GCell.len x)) x)) (ixn h14)) (Upd.trans (Sub.refl _) (GTable.upd3 t3_0 (vwr t3_0.Drawers drawer1.toNat (vwr (vrd t3_0.Drawers drawer1.toNat) t32_0.toNat GCell.zero))) (Upd.refl ((GTable.len ((GTable.w3 t3_0 (vwr t3_0.Drawers drawer1.toNat (vwr (vrd t3_0.Drawers drawer1.toNat) t32_0.toNat GCell.zero))))).trans (GTable.len t3_0).symm)))))) (rz [(1,_),(3,_),(5,_),(6,_),(10,_),(31,_),(32,_)] [(3,.pure (GTable.cs ((GTable.w3 t3_0 (vwr t3_0.Drawers drawer1.toNat (vwr (vrd t3_0.Drawers drawer1.toNat) t32_0.toNat GCell.zero)))))),(5,.pure (GExpr.cs where2)),(6,.pure (GTable.cs GTable.zero))] Y (gen1 (fun t3'6=>(⟨[(1,.i drawer1),(3,.q 3 (0)),(5,.q 5 (0)),(6,.q 6 (0)),(10,.i (w64 (n10_0+(1:Int)))),(31,.g (((vrd t0.Drawers drawer1.toNat).toList).flatMap GCell.cs)),(32,.i t32_0)],[(3,.pure (GTable.cs t3'6)),(5,.pure (GExpr.cs where2)),(6,.pure (GTable.cs GTable.zero))],64⟩:TS)) H ?_))
     intro t3'6 H
     have z:=se H; subst z
     exact ⟨Y,Y⟩
    replace H:=ite_else (ne_true h13) H
    refine as2 [(1,.i drawer1),(3,.q 3 (0)),(5,.q 5 (0)),(6,.q 6 (0)),(10,.i n10_0),(31,.g (((vrd t0.Drawers drawer1.toNat).toList).flatMap GCell.cs)),(32,.i t32_0)] [(3,.pure (GTable.cs t3_0)),(5,.pure (GExpr.cs where2)),(6,.pure (GTable.cs GTable.zero))] Y (AW2_skip ?_)
    have z:=se H; subst z
    exact ⟨Y,Y⟩
   ·subst hy
    refine AW2_reg [0,1] Y (rp Y (p_bin Y Y Y Y) (rm Y (rz [(1,.i drawer1),(3,.q 3 (0)),(5,.q 5 (0)),(6,.q 6 (0)),(10,.i j'4.1),(31,.g (((vrd t0.Drawers drawer1.toNat).toList).flatMap GCell.cs)),(32,.i (w64 (t32_0+(1:Int))))] [(3,.pure (GTable.cs j'4.2)),(5,.pure (GExpr.cs where2)),(6,.pure (GTable.cs GTable.zero))] Y ?_)))
    have z:=se H; subst z
    exact ⟨Y,Y⟩
   subst hy
   obtain ⟨rfl,hs⟩:=hs
   have z:=se H; subst z
   exact ⟨Y,hs.1,hs.2⟩
  refine as2 [(3,_),(6,_),(10,_)] [(3,_),(6,_)] Y (AW2_exit (thenQ2_exit ?_))
  have z:=se H; subst z
  exact ⟨Y,Y⟩
 rcases o'12 with y'13 | y'14
 ·obtain ⟨rfl,hs⟩:=hs
  refine ⟨by simp,?_⟩
  have z:=se H; subst z
  exact ⟨hs.1,hs.2⟩
 obtain ⟨rfl,rfl⟩:=hs
 refine ⟨by simp,?_⟩
 refine blockQ2_exit (sg [0,1,2,3,4] Y (rp Y (u_lda Y Y U29 Y in_29 Y np (Sub.refl _) (GTable.len y'14.2)) (rm Y (rq Y (u_sw Y Y Y Y Y in_29 (GTable.len y'14.2) (GTable.len GTable.zero) Y) (ra Y (ra Y ?_))))))
 refine rz [(6,.q 6 (0)),(7,.i y'14.1),(8,.i (0:Int))] [(6,.pure (GTable.cs y'14.2))] Y (AW2_ret ?_)
 have z:=se H; subst z
 exact ⟨⟨rcw U29 Y in_29 Y (GTable.len y'14.2),rt,rt,trivial⟩,trivial⟩
def g_law_sameColumns_r6:List (List (Nat×Option Nat)):=[[(0,none)],[(5,none)],[(16,some 0),(17,some 1)],[(18,some 2)],[(1,none)],[(5,none)],[(20,some 4),(21,some 5)],[(22,some 6)]]
def g_law_sameColumns_r6c:List (List Nat):=[[],[],[0,1],[0,1,2],[],[],[4,5],[4,5,6],[0,1,2,3,4,5,6,7]]
noncomputable def g_law_sameColumns_l0 (a0:List GColumn) (b1:List GColumn):Int→Option (Int⊕(Bool⊕Unit))
  | t13_0=>(if t13_0 < (a0.length:Int) then if 0≤t13_0∧t13_0 < (a0.length:Int) then if 0≤t13_0∧t13_0 < (b1.length:Int) then (if (lrd a0 t13_0.toNat)≠(lrd b1 t13_0.toNat) then some (.inr (.inl false)) else some (.inl (w64 (t13_0+(1:Int))))) else none else none else some (.inr (.inr ())))
noncomputable def g_law_sameColumns (a0:List GColumn) (b1:List GColumn):Option (Bool) :=
  (if (a0.length:Int)≠(b1.length:Int) then some false else (loopO (g_law_sameColumns_l0 a0 b1) (0:Int)).bind fun o'4=>match o'4 with | .inl y'5=>some y'5 | .inr (y'6)=>some true)
set_option maxHeartbeats 4000000 in
set_option maxRecDepth 100000 in
theorem g_law_sameColumns_ac {a0:List GColumn} {b1:List GColumn} {r:Bool} (H:g_law_sameColumns a0 b1=some r):ACp Tryz.prog 16 [(GColumn.ls a0),(GColumn.ls b1)] (AV.bool r):=by
 refine ACp_of (AC2_of_body (vs:=[.b r]) Tryz.func16 Y Y (lb Y) Y ?_) (fun _=>.same _)
 unfold g_law_sameColumns at H
 refine as2 [(0,.p (GColumn.ls a0)),(1,.p (GColumn.ls b1))] [] Y (sg [0] Y (ra Y (rz [(0,_),(1,_)] [] Y (AW2_seq (sg [0,1,2,3,4] Y (rm Y ?_))))))
 refine rp Y (p_lenl Y U22 Y Y) (rm Y (rp Y (p_lenl Y U22 Y Y) (rp Y (p_ine Y Y Y) (rz [(0,_),(1,_),(10,.b (decide ((a0.length:Int)≠(b1.length:Int))))] [] Y (if2 H Y (fun h1 H=>?_) (fun h1 H=>?_))))))
 ·refine sg [0] Y (ra Y (rz [(4,.b false)] [] Y (AW2_ret ?_)))
  have z:=se H; subst z
  exact ⟨⟨rt,trivial⟩,trivial⟩
 refine as2 [(0,_),(1,_)] [] Y (AW2_skip (AW2_seq (sg [0,1,2] Y (rm Y (rp Y (p_lenl Y U22 Y Y) (rm Y ?_))))))
 refine rz [(0,_),(1,_),(12,.i (a0.length:Int)),(13,.i (0:Int))] [] Y (AW2_block (as2 [(0,_),(1,_),(12,_),(13,_)] [] Y (bindK H fun o'4 h6 H=>AW2_loopO (fun a'1:Int=>(⟨[(0,.p (GColumn.ls a0)),(1,.p (GColumn.ls b1)),(12,.i (a0.length:Int)),(13,.i a'1)],[],26⟩:TS)) (fun (o:Bool⊕Unit) e s'=>match o with | .inl y'2=>e=Go.Exit.ret∧ResAll Tryz.prog s' [ResultVar.tmp 4] [.b y'2]∧HFits s' [] | .inr (y'3)=>e=Go.Exit.exit 0∧s'=(⟨[],[],26⟩:TS)) h6 Y (fun t13_0 x hx=>?_) (fun e s' hs=>?_))))
 ·clear H
  have H:=hx
  clear hx
  unfold g_law_sameColumns_l0 at H
  refine sg [0] Y (rp Y (p_bin Y Y Y Y) (rz [(0,.p (GColumn.ls a0)),(1,.p (GColumn.ls b1)),(12,.i (a0.length:Int)),(13,.i t13_0),(14,.b (decide (t13_0 < (a0.length:Int))))] [] Y (AW2_seq (if2 H Y (fun h2 H=>?_) (fun h2 H=>?_)))))
  ·refine as2 [(0,_),(1,_),(12,_),(13,_)] [] Y (AW2_skip (AW2_seq (AW2_block (sg [0,1] Y (rm Y (ra Y ?_))))))
   refine rz [(0,_),(1,_),(5,.i t13_0),(12,_),(13,_)] [] Y (AW2_seq (chkK H fun h3 H=>chkK H fun h4 H=>AW2_ghoQ (AW2_draw 8 [8] (fun k=>([.p (GColumn.ls a0),.i t13_0,.p (.rptr (a0.flatMap GColumn.cs) (t13_0.toNat * 3)),.g (GColumn.cs (lrd a0 t13_0.toNat)),.p (GColumn.ls b1),.i t13_0,.p (.rptr (b1.flatMap GColumn.cs) (t13_0.toNat * 3)),.g (GColumn.cs (lrd b1 t13_0.toNat))]:List TV).getD k TV.any) (fun k=>g_law_sameColumns_r6.getD k []) [(0,none),(1,none),(12,none),(13,none),(19,some 3),(23,some 7)] [] (fun k=>g_law_sameColumns_r6c.getD k []) mixed (by kernel_rfl) Y Y (a_op (g_x Y (x_p Y (p_move Y Y) Y)) (a_op (g_x Y (x_p Y (p_move Y Y) Y)) (a_op (g_x Y (x_p Y (u_ixl Y Y U22 in_63 Y Y (ixe h3) (ixn h3) (fne (fun x=>(GColumn.len x)) (by decide) (ixn h3))) Y)) (a_op (g_x Y (x_p Y (u_lda Y Y U63 Y in_63 Y np (Sub.fm default (fun x=>(GColumn.len x)) (ixn h3)) (GColumn.len (lrd a0 t13_0.toNat))) Y)) (a_op (g_x Y (x_p Y (p_move Y Y) Y)) (a_op (g_x Y (x_p Y (p_move Y Y) Y)) (a_op (g_x Y (x_p Y (u_ixl Y Y U22 in_63 Y Y (ixe h4) (ixn h4) (fne (fun x=>(GColumn.len x)) (by decide) (ixn h4))) Y)) (a_op (g_x Y (x_p Y (u_lda Y Y U63 Y in_63 Y np (Sub.fm default (fun x=>(GColumn.len x)) (ixn h4)) (GColumn.len (lrd b1 t13_0.toNat))) Y)) (a_nil))))))))) (t_op Y Y (PureD.opD (p_nea (a:=(lrd a0 t13_0.toNat)) (b:=(lrd b1 t13_0.toNat)) Y eq_63 Y (by kernel_rfl) Y Y)) ?_))))
   refine t_gho (Gho_st (L:=[(0,.p (GColumn.ls a0)),(1,.p (GColumn.ls b1)),(12,.i (a0.length:Int)),(13,.i t13_0),(24,.b (decide ((lrd a0 t13_0.toNat)≠(lrd b1 t13_0.toNat))))]) (H:=[]) (N:=26) Y ⟨TLes.same _,TLes.same _,TLes.same _,TLes.same _,TLes.same _,trivial⟩ trivial) (if2 H Y (fun h5 H=>?_) (fun h5 H=>?_))
   ·refine sg [0] Y (ra Y (rz [(4,.b false)] [] Y (AW2_ret ?_)))
    have z:=se H; subst z
    exact ⟨Y,⟨rt,trivial⟩,trivial⟩
   refine as2 [(0,.p (GColumn.ls a0)),(1,.p (GColumn.ls b1)),(12,.i (a0.length:Int)),(13,.i t13_0)] [] Y (AW2_skip (AW2_reg [0,1] Y (rp Y (p_bin Y Y Y Y) (rm Y (rz [(0,_),(1,_),(12,_),(13,.i (w64 (t13_0+(1:Int))))] [] Y ?_)))))
   have z:=se H; subst z
   exact ⟨Y,Y⟩
  refine as2 [] [] Y (AW2_exit (thenQ2_exit ?_))
  have z:=se H; subst z
  exact ⟨Y,Y⟩
 rcases o'4 with y'5 | y'6
 ·obtain ⟨rfl,hs⟩:=hs
  refine ⟨by simp,?_⟩
  have z:=se H; subst z
  exact ⟨hs.1,hs.2⟩
 obtain ⟨rfl,rfl⟩:=hs
 refine ⟨by simp,?_⟩
 refine blockQ2_exit (sg [0] Y (ra Y (rz [(4,.b true)] [] Y (AW2_ret ?_))))
 have z:=se H; subst z
 exact ⟨⟨rt,trivial⟩,trivial⟩
def g_law_sameRow_r6:List (List (Nat×Option Nat)):=[[(0,none)],[(5,none)],[(16,some 0),(17,some 1)],[(18,some 2)],[(1,none)],[(5,none)],[(20,some 4),(21,some 5)],[(22,some 6)]]
def g_law_sameRow_r6c:List (List Nat):=[[],[],[0,1],[0,1,2],[],[],[4,5],[4,5,6],[0,1,2,3,4,5,6,7]]
noncomputable def g_law_sameRow_l0 (a0:List GValue) (b1:List GValue):Int→Option (Int⊕(Bool⊕Unit))
  | t13_0=>(if t13_0 < (a0.length:Int) then if 0≤t13_0∧t13_0 < (a0.length:Int) then if 0≤t13_0∧t13_0 < (b1.length:Int) then (if (lrd a0 t13_0.toNat)≠(lrd b1 t13_0.toNat) then some (.inr (.inl false)) else some (.inl (w64 (t13_0+(1:Int))))) else none else none else some (.inr (.inr ())))
noncomputable def g_law_sameRow (a0:List GValue) (b1:List GValue):Option (Bool) :=
  (if (a0.length:Int)≠(b1.length:Int) then some false else (loopO (g_law_sameRow_l0 a0 b1) (0:Int)).bind fun o'4=>match o'4 with | .inl y'5=>some y'5 | .inr (y'6)=>some true)
set_option maxHeartbeats 4000000 in
set_option maxRecDepth 100000 in
theorem g_law_sameRow_ac {a0:List GValue} {b1:List GValue} {r:Bool} (H:g_law_sameRow a0 b1=some r):ACp Tryz.prog 17 [(GValue.ls a0),(GValue.ls b1)] (AV.bool r):=by
 refine ACp_of (AC2_of_body (vs:=[.b r]) Tryz.func17 Y Y (lb Y) Y ?_) (fun _=>.same _)
 unfold g_law_sameRow at H
 refine as2 [(0,.p (GValue.ls a0)),(1,.p (GValue.ls b1))] [] Y (sg [0] Y (ra Y (rz [(0,_),(1,_)] [] Y (AW2_seq (sg [0,1,2,3,4] Y (rm Y ?_))))))
 refine rp Y (p_lenl Y U23 Y Y) (rm Y (rp Y (p_lenl Y U23 Y Y) (rp Y (p_ine Y Y Y) (rz [(0,_),(1,_),(10,.b (decide ((a0.length:Int)≠(b1.length:Int))))] [] Y (if2 H Y (fun h1 H=>?_) (fun h1 H=>?_))))))
 ·refine sg [0] Y (ra Y (rz [(4,.b false)] [] Y (AW2_ret ?_)))
  have z:=se H; subst z
  exact ⟨⟨rt,trivial⟩,trivial⟩
 refine as2 [(0,_),(1,_)] [] Y (AW2_skip (AW2_seq (sg [0,1,2] Y (rm Y (rp Y (p_lenl Y U23 Y Y) (rm Y ?_))))))
 refine rz [(0,_),(1,_),(12,.i (a0.length:Int)),(13,.i (0:Int))] [] Y (AW2_block (as2 [(0,_),(1,_),(12,_),(13,_)] [] Y (bindK H fun o'4 h6 H=>AW2_loopO (fun a'1:Int=>(⟨[(0,.p (GValue.ls a0)),(1,.p (GValue.ls b1)),(12,.i (a0.length:Int)),(13,.i a'1)],[],26⟩:TS)) (fun (o:Bool⊕Unit) e s'=>match o with | .inl y'2=>e=Go.Exit.ret∧ResAll Tryz.prog s' [ResultVar.tmp 4] [.b y'2]∧HFits s' [] | .inr (y'3)=>e=Go.Exit.exit 0∧s'=(⟨[],[],26⟩:TS)) h6 Y (fun t13_0 x hx=>?_) (fun e s' hs=>?_))))
 ·clear H
  have H:=hx
  clear hx
  unfold g_law_sameRow_l0 at H
  refine sg [0] Y (rp Y (p_bin Y Y Y Y) (rz [(0,.p (GValue.ls a0)),(1,.p (GValue.ls b1)),(12,.i (a0.length:Int)),(13,.i t13_0),(14,.b (decide (t13_0 < (a0.length:Int))))] [] Y (AW2_seq (if2 H Y (fun h2 H=>?_) (fun h2 H=>?_)))))
  ·refine as2 [(0,_),(1,_),(12,_),(13,_)] [] Y (AW2_skip (AW2_seq (AW2_block (sg [0,1] Y (rm Y (ra Y ?_))))))
   refine rz [(0,_),(1,_),(5,.i t13_0),(12,_),(13,_)] [] Y (AW2_seq (chkK H fun h3 H=>chkK H fun h4 H=>AW2_ghoQ (AW2_draw 8 [8] (fun k=>([.p (GValue.ls a0),.i t13_0,.p (.rptr (a0.flatMap GValue.cs) (t13_0.toNat * 4)),.g (GValue.cs (lrd a0 t13_0.toNat)),.p (GValue.ls b1),.i t13_0,.p (.rptr (b1.flatMap GValue.cs) (t13_0.toNat * 4)),.g (GValue.cs (lrd b1 t13_0.toNat))]:List TV).getD k TV.any) (fun k=>g_law_sameRow_r6.getD k []) [(0,none),(1,none),(12,none),(13,none),(19,some 3),(23,some 7)] [] (fun k=>g_law_sameRow_r6c.getD k []) mixed (by kernel_rfl) Y Y (a_op (g_x Y (x_p Y (p_move Y Y) Y)) (a_op (g_x Y (x_p Y (p_move Y Y) Y)) (a_op (g_x Y (x_p Y (u_ixl Y Y U23 in_32 Y Y (ixe h3) (ixn h3) (fne (fun x=>(GValue.len x)) (by decide) (ixn h3))) Y)) (a_op (g_x Y (x_p Y (u_lda Y Y U32 Y in_32 Y np (Sub.fm default (fun x=>(GValue.len x)) (ixn h3)) (GValue.len (lrd a0 t13_0.toNat))) Y)) (a_op (g_x Y (x_p Y (p_move Y Y) Y)) (a_op (g_x Y (x_p Y (p_move Y Y) Y)) (a_op (g_x Y (x_p Y (u_ixl Y Y U23 in_32 Y Y (ixe h4) (ixn h4) (fne (fun x=>(GValue.len x)) (by decide) (ixn h4))) Y)) (a_op (g_x Y (x_p Y (u_lda Y Y U32 Y in_32 Y np (Sub.fm default (fun x=>(GValue.len x)) (ixn h4)) (GValue.len (lrd b1 t13_0.toNat))) Y)) (a_nil))))))))) (t_op Y Y (PureD.opD (p_nea (a:=(lrd a0 t13_0.toNat)) (b:=(lrd b1 t13_0.toNat)) Y eq_32 Y (by kernel_rfl) Y Y)) ?_))))
   refine t_gho (Gho_st (L:=[(0,.p (GValue.ls a0)),(1,.p (GValue.ls b1)),(12,.i (a0.length:Int)),(13,.i t13_0),(24,.b (decide ((lrd a0 t13_0.toNat)≠(lrd b1 t13_0.toNat))))]) (H:=[]) (N:=26) Y ⟨TLes.same _,TLes.same _,TLes.same _,TLes.same _,TLes.same _,trivial⟩ trivial) (if2 H Y (fun h5 H=>?_) (fun h5 H=>?_))
   ·refine sg [0] Y (ra Y (rz [(4,.b false)] [] Y (AW2_ret ?_)))
    have z:=se H; subst z
    exact ⟨Y,⟨rt,trivial⟩,trivial⟩
   refine as2 [(0,.p (GValue.ls a0)),(1,.p (GValue.ls b1)),(12,.i (a0.length:Int)),(13,.i t13_0)] [] Y (AW2_skip (AW2_reg [0,1] Y (rp Y (p_bin Y Y Y Y) (rm Y (rz [(0,_),(1,_),(12,_),(13,.i (w64 (t13_0+(1:Int))))] [] Y ?_)))))
   have z:=se H; subst z
   exact ⟨Y,Y⟩
  refine as2 [] [] Y (AW2_exit (thenQ2_exit ?_))
  have z:=se H; subst z
  exact ⟨Y,Y⟩
 rcases o'4 with y'5 | y'6
 ·obtain ⟨rfl,hs⟩:=hs
  refine ⟨by simp,?_⟩
  have z:=se H; subst z
  exact ⟨hs.1,hs.2⟩
 obtain ⟨rfl,rfl⟩:=hs
 refine ⟨by simp,?_⟩
 refine blockQ2_exit (sg [0] Y (ra Y (rz [(4,.b true)] [] Y (AW2_ret ?_))))
 have z:=se H; subst z
 exact ⟨⟨rt,trivial⟩,trivial⟩
def g_law_sameTable_r9:List (List (Nat×Option Nat)):=[[(5,none)],[(6,none)],[(2,none)],[(35,some 0),(37,some 2)],[(36,some 1),(38,some 3)],[(39,some 4)],[(5,none)],[(6,none)],[(3,none)],[(41,some 6),(43,some 8)],[(42,some 7),(44,some 9)],[(45,some 10)],[],[],[(7,some 12),(40,some 5)]]
def g_law_sameTable_r9c:List (List Nat):=[[],[],[],[0,2],[0,1,2,3],[0,1,2,3,4],[],[],[],[6,8],[6,7,8,9],[6,7,8,9,10],[],[],[0,1,2,3,4,5,12,13],[0,1,2,3,4,5,6,7,8,9,10,11,12,13,14]]
noncomputable def g_law_sameTable_l1 (a0:GTable) (b1:GTable) (t29_0:Int):Int→Option (Int⊕(Bool⊕Unit))
  | t32_1=>(if t32_1 < (4:Int) then if 0≤t29_0∧t29_0 < (2:Int) then if 0≤t32_1∧t32_1 < (4:Int) then if 0≤t29_0∧t29_0 < (2:Int) then if 0≤t32_1∧t32_1 < (4:Int) then ((if ((vrd (vrd a0.Drawers t29_0.toNat) t32_1.toNat).Full)≠((vrd (vrd b1.Drawers t29_0.toNat) t32_1.toNat).Full) then some true else (g_law_sameRow ((vrd (vrd a0.Drawers t29_0.toNat) t32_1.toNat).Row) ((vrd (vrd b1.Drawers t29_0.toNat) t32_1.toNat).Row)).bind fun r'5=>some (!r'5))).bind fun g'6=>(if g'6=true then some (.inr (.inl false)) else some (.inl (w64 (t32_1+(1:Int))))) else none else none else none else none else some (.inr (.inr ())))
noncomputable def g_law_sameTable_l0 (a0:GTable) (b1:GTable):Int→Option (Int⊕(Bool⊕Unit))
  | t29_0=>(if t29_0 < (2:Int) then (loopO (g_law_sameTable_l1 a0 b1 t29_0) (0:Int)).bind fun o'10=>match o'10 with | .inl y'11=>some (.inr (.inl y'11)) | .inr (y'12)=>some (.inl (w64 (t29_0+(1:Int)))) else some (.inr (.inr ())))
noncomputable def g_law_sameTable (a0:GTable) (b1:GTable):Option (Bool) :=
  ((if a0.There≠b1.There then some true else (if a0.Name≠b1.Name then some true else (g_law_sameColumns a0.Cols b1.Cols).bind fun r'2=>some (!r'2)))).bind fun g'3=>(if g'3=true then some false else (loopO (g_law_sameTable_l0 a0 b1) (0:Int)).bind fun o'16=>match o'16 with | .inl y'17=>some y'17 | .inr (y'18)=>some true)
set_option maxHeartbeats 4000000 in
set_option maxRecDepth 100000 in
theorem g_law_sameTable_ac {a0:GTable} {b1:GTable} {r:Bool} (H:g_law_sameTable a0 b1=some r):ACp Tryz.prog 7 [(.agg (GTable.cs a0)),(.agg (GTable.cs b1))] (AV.bool r):=by
 refine ACp_of (AC2_of_body (vs:=[.b r]) Tryz.func7 Y Y (lb Y) Y ?_) (fun _=>.same _)
 unfold g_law_sameTable at H
 refine as2 [(0,.g (GTable.cs a0)),(1,.g (GTable.cs b1))] [] Y (sg [0,1,2] Y (rq Y (MakeD.opD (n_box 2 Y Y) Y Y Y Y) (rq Y (MakeD.opD (n_box 3 Y Y) Y Y Y Y) (ra Y (rz [(2,.q 2 (0)),(3,.q 3 (0))] [(2,.pure (GTable.cs a0)),(3,.pure (GTable.cs b1))] Y (AW2_seq ?_))))))
 refine AW2_seq (bindK H fun g'3 h5 H=>AW2_mid (⟨[(2,.q 2 (0)),(3,.q 3 (0)),(28,.b g'3)],[(2,.pure (GTable.cs a0)),(3,.pure (GTable.cs b1))],62⟩:TS) ?_ ?_)
 ·clear H
  have H:=h5
  clear h5
  refine AW2_reg [0,1,2,3,4,5,6,7,8,9,10,11,12,13,14,15,16,17,18,19] Y (rf Y U29 Y in_4 Y Y (GTable.len a0) (rp Y (u_ld Y Y U4 Y Y (GTable.sub0 a0)) (rf Y U29 Y in_4 Y Y (GTable.len b1) (rp Y (u_ld Y Y U4 Y Y (GTable.sub0 b1)) (rp Y (p_bnep Y U4 Y Y) (rm Y ?_))))))
  refine em2 H (fun h2 H=>?_) (fun h2 H=>?_)
  ·refine rO Y (dT h2) Y (rO Y (dT h2) Y (rO Y (dT h2) Y (rO Y (dT h2) Y (rO Y (dT h2) Y (rp Y (p_pkt Y Y (dT h2) (.same _)) (rm Y ?_))))))
   refine rO Y Y Y (rO Y Y Y (rO Y Y Y (rO Y Y Y (rO Y Y Y (rO Y Y Y (rp Y (p_pkt Y Y Y (.same _)) ?_))))))
   refine rs [(2,.q 2 (0)),(3,.q 3 (0)),(28,.b true)] [(2,.pure (GTable.cs a0)),(3,.pure (GTable.cs b1))] Y ?_
   have z:=se H; subst z
   exact RunW_nil rfl
  refine rn Y (dF h2) Y (u_fa Y Y U29 Y in_9 nz Y Y (nl (GTable.len a0))) (rn Y (dF h2) Y (u_ld Y Y U9 Y Y (GTable.sub1 a0)) (rn Y (dF h2) Y (u_fa Y Y U29 Y in_9 nz Y Y (nl (GTable.len b1))) (rn Y (dF h2) Y (u_ld Y Y U9 Y Y (GTable.sub1 b1)) (rn Y (dF h2) Y (p_sne Y Y Y) (rp Y (p_pkf Y Y (dF h2) (.same _)) (rm Y ?_))))))
  refine em2 H (fun h3 H=>?_) (fun h3 H=>?_)
  ·refine rO Y (dT h3) Y (rO Y (dT h3) Y (rO Y (dT h3) Y (rO Y (dT h3) Y (rO Y (dT h3) Y (rO Y (dT h3) Y (rp Y (p_pkt Y Y (dT h3) (.same _)) ?_))))))
   refine rs [(2,.q 2 (0)),(3,.q 3 (0)),(28,.b true)] [(2,.pure (GTable.cs a0)),(3,.pure (GTable.cs b1))] Y ?_
   have z:=se H; subst z
   exact RunW_nil rfl
  refine rn Y (dF h3) Y (u_fa Y Y U29 Y in_22 nz Y Y (nl (GTable.len a0))) (rn Y (dF h3) Y (u_ld Y Y U22 Y Y (GTable.sub2 a0)) (rn Y (dF h3) Y (u_fa Y Y U29 Y in_22 nz Y Y (nl (GTable.len b1))) (rn Y (dF h3) Y (u_ld Y Y U22 Y Y (GTable.sub2 b1)) (bindK H fun r'2 h4 H=>rn Y (dF h3) Y (p_callp Y Y Y Tryz.func16 Y Y (g_law_sameColumns_ac h4) ⟨Y,Y,trivial⟩) (rn Y (dF h3) Y (p_not Y Y) ?_)))))
  refine rp Y (p_pkf Y Y (dF h3) (.same _)) (rs [(2,.q 2 (0)),(3,.q 3 (0)),(28,.b (!r'2))] [(2,.pure (GTable.cs a0)),(3,.pure (GTable.cs b1))] Y ?_)
  have z:=se H; subst z
  exact RunW_nil rfl
 refine AW2_cond Y (fun h6=>?_) (fun h6=>?_)
 ·replace H:=ite_then h6 H
  refine sg [0] Y (ra Y (rz [(4,.b false)] [] Y (AW2_ret ?_)))
  have z:=se H; subst z
  exact ⟨⟨rt,trivial⟩,trivial⟩
 replace H:=ite_else (ne_true h6) H
 refine as2 [(2,.q 2 (0)),(3,.q 3 (0))] [(2,.pure (GTable.cs a0)),(3,.pure (GTable.cs b1))] Y (AW2_skip (AW2_seq (sg [0] Y (rm Y (rz [(2,_),(3,_),(29,.i (0:Int))] [(2,_),(3,_)] Y (AW2_block ?_))))))
 refine as2 [(2,_),(3,_),(29,_)] [(2,_),(3,_)] Y (bindK H fun o'16 h20 H=>AW2_loopO (fun a'13:Int=>(⟨[(2,.q 2 (0)),(3,.q 3 (0)),(29,.i a'13)],[(2,.pure (GTable.cs a0)),(3,.pure (GTable.cs b1))],62⟩:TS)) (fun (o:Bool⊕Unit) e s'=>match o with | .inl y'14=>e=Go.Exit.ret∧ResAll Tryz.prog s' [ResultVar.tmp 4] [.b y'14]∧HFits s' [] | .inr (y'15)=>e=Go.Exit.exit 0∧s'=(⟨[],[],62⟩:TS)) h20 Y (fun t29_0 x hx=>?_) (fun e s' hs=>?_))
 ·clear H
  have H:=hx
  clear hx
  unfold g_law_sameTable_l0 at H
  refine sg [0] Y (rp Y (p_bin Y Y Y Y) (rz [(2,.q 2 (0)),(3,.q 3 (0)),(29,.i t29_0),(30,.b (decide (t29_0 < (2:Int))))] [(2,.pure (GTable.cs a0)),(3,.pure (GTable.cs b1))] Y (AW2_seq (if2 H Y (fun h7 H=>?_) (fun h7 H=>?_)))))
  ·refine as2 [(2,_),(3,_),(29,_)] [(2,_),(3,_)] Y (AW2_skip (AW2_seq (AW2_block (sg [0,1] Y (rm Y (ra Y ?_))))))
   refine rz [(2,_),(3,_),(5,.i t29_0),(29,_)] [(2,_),(3,_)] Y (sg [0] Y (rm Y (rz [(2,_),(3,_),(5,_),(29,_),(32,.i (0:Int))] [(2,_),(3,_)] Y (AW2_block (as2 [(2,_),(3,_),(5,_),(29,_),(32,_)] [(2,_),(3,_)] Y (bindK H fun o'10 h19 H=>?_))))))
   refine AW2_loopO (fun a'7:Int=>(⟨[(2,.q 2 (0)),(3,.q 3 (0)),(5,.i t29_0),(29,.i t29_0),(32,.i a'7)],[(2,.pure (GTable.cs a0)),(3,.pure (GTable.cs b1))],62⟩:TS)) (fun (o:Bool⊕Unit) e s'=>match o with | .inl y'8=>e=Go.Exit.ret∧ResAll Tryz.prog s' [ResultVar.tmp 4] [.b y'8]∧HFits s' [] | .inr (y'9)=>e=Go.Exit.exit 2∧s'=(⟨[(2,.q 2 (0)),(3,.q 3 (0)),(29,.i t29_0)],[(2,.pure (GTable.cs a0)),(3,.pure (GTable.cs b1))],62⟩:TS)) h19 Y (fun t32_1 x hx=>?_) (fun e s' hs=>?_)
   ·clear H
    have H:=hx
    clear hx
    unfold g_law_sameTable_l1 at H
    refine sg [0] Y (rp Y (p_bin Y Y Y Y) (rz [(2,.q 2 (0)),(3,.q 3 (0)),(5,.i t29_0),(29,.i t29_0),(32,.i t32_1),(33,.b (decide (t32_1 < (4:Int))))] [(2,.pure (GTable.cs a0)),(3,.pure (GTable.cs b1))] Y (AW2_seq (if2 H Y (fun h8 H=>?_) (fun h8 H=>?_)))))
    ·refine as2 [(2,_),(3,_),(5,_),(29,_),(32,_)] [(2,_),(3,_)] Y (AW2_skip (AW2_seq (AW2_block (sg [0,1] Y (rm Y (ra Y ?_))))))
     refine rz [(2,_),(3,_),(5,_),(6,.i t32_1),(29,_),(32,_)] [(2,_),(3,_)] Y (AW2_seq (chkK H fun h9 H=>chkK H fun h10 H=>chkK H fun h11 H=>chkK H fun h12 H=>AW2_ghoQ ?_))
     refine AW2_drawU 15 [15] (fun k=>([.i t29_0,.i t32_1,.q 2 (0+3),.q 2 (0+3+t29_0.toNat * 8),.q 2 (0+3+t29_0.toNat * 8+t32_1.toNat * 2),.g (GCell.cs (vrd (vrd a0.Drawers t29_0.toNat) t32_1.toNat)),.i t29_0,.i t32_1,.q 3 (0+3),.q 3 (0+3+t29_0.toNat * 8),.q 3 (0+3+t29_0.toNat * 8+t32_1.toNat * 2),.g (GCell.cs (vrd (vrd b1.Drawers t29_0.toNat) t32_1.toNat)),.q 7 (0),.q 8 (0),.p (.tup [])]:List TV).getD k TV.any) (fun k=>g_law_sameTable_r9.getD k []) [(2,none),(3,none),(5,none),(7,some 12),(8,some 13),(29,none),(32,none),(46,some 11)] [(12,7,(GCell.cs GCell.zero)),(13,8,(GCell.cs GCell.zero))] [(14,7,.pure (GCell.cs (vrd (vrd a0.Drawers t29_0.toNat) t32_1.toNat)))] [] (fun k=>([[],[],[(2,false)],[(2,false)],[(2,false)],[(2,false)],[],[],[(3,false)],[(3,false)],[(3,false)],[(3,false)],[],[],[(7,false)]]:List (List (Nat×Bool))).getD k []) (fun k=>g_law_sameTable_r9c.getD k []) mixed (by kernel_rfl) Y Y Y (a_op (gu_x Y (y_p Y Y (p_move Y Y) Y)) (a_op (gu_x Y (y_p Y Y (p_move Y Y) Y)) (a_op (gu_x Y (y_p Y Y (u_fa Y Y U29 Y in_27 nz Y Y (nl (GTable.len a0))) Y)) (a_op (gu_x Y (y_p Y Y (u_ixp Y Y U27 in_26 Y Y (nl (GTable.len a0)) Y (ixe h9) (ixn h9)) Y)) (a_op (gu_x Y (y_p Y Y (u_ixp Y Y U26 in_25 Y Y (nl (GTable.len a0)) Y (ixe h10) (ixn h10)) Y)) (a_op (gu_x Y (y_p Y Y (u_lda Y Y U25 Y in_25 Y np (((GTable.sub3 a0).trans (Sub.vfm (fun x=>(vfm_len (fun x=>(GCell.len x)) x)) (ixn h9))).trans (Sub.vfm (fun x=>(GCell.len x)) (ixn h10))) (GCell.len (vrd (vrd a0.Drawers t29_0.toNat) t32_1.toNat))) Y)) (a_op (gu_x Y (y_p Y Y (p_move Y Y) Y)) (a_op (gu_x Y (y_p Y Y (p_move Y Y) Y)) (a_op (gu_x Y (y_p Y Y (u_fa Y Y U29 Y in_27 nz Y Y (nl (GTable.len b1))) Y)) (a_op (gu_x Y (y_p Y Y (u_ixp Y Y U27 in_26 Y Y (nl (GTable.len b1)) Y (ixe h11) (ixn h11)) Y)) (a_op (gu_x Y (y_p Y Y (u_ixp Y Y U26 in_25 Y Y (nl (GTable.len b1)) Y (ixe h12) (ixn h12)) Y)) (a_op (gu_x Y (y_p Y Y (u_lda Y Y U25 Y in_25 Y np (((GTable.sub3 b1).trans (Sub.vfm (fun x=>(vfm_len (fun x=>(GCell.len x)) x)) (ixn h11))).trans (Sub.vfm (fun x=>(GCell.len x)) (ixn h12))) (GCell.len (vrd (vrd b1.Drawers t29_0.toNat) t32_1.toNat))) Y)) (a_op (gu_x Y (y_m Y Y (u_alloc 7 Y in_25 one_25 zc_25) Y Y)) (a_op (gu_x Y (y_m Y Y (u_alloc 8 Y in_25 one_25 zc_25) Y Y)) (a_op (gu_x Y (y_u Y Y Y Y (UpdD_st Y Y Y Y Y in_25 (GCell.len (vrd (vrd a0.Drawers t29_0.toNat) t32_1.toNat)) (nl (GCell.len GCell.zero)) (Upd.refl ((GCell.len (vrd (vrd a0.Drawers t29_0.toNat) t32_1.toNat)).trans (GCell.len GCell.zero).symm))) Y Y)) (a_nil)))))))))))))))) (t_op Y Y (u_sw Y Y Y Y Y in_25 (GCell.len (vrd (vrd b1.Drawers t29_0.toNat) t32_1.toNat)) (GCell.len GCell.zero) Y) (t_gho (Gho_st (L:=[(2,.q 2 (0)),(3,.q 3 (0)),(5,.i t29_0),(7,.q 7 (0)),(8,.q 8 (0)),(29,.i t29_0),(32,.i t32_1)]) (H:=[(2,.pure (GTable.cs a0)),(3,.pure (GTable.cs b1)),(7,.pure (GCell.cs (vrd (vrd a0.Drawers t29_0.toNat) t32_1.toNat))),(8,.pure (GCell.cs (vrd (vrd b1.Drawers t29_0.toNat) t32_1.toNat)))]) (N:=62) Y ⟨TLes.same _,TLes.same _,TLes.same _,TLes.same _,TLes.same _,TLes.same _,TLes.same _,trivial⟩ ⟨Y,Y,Y,Y,trivial⟩) (AW2_seq (bindK H fun g'6 h16 H=>AW2_mid (⟨[(2,.q 2 (0)),(3,.q 3 (0)),(5,.i t29_0),(29,.i t29_0),(32,.i t32_1),(59,.b g'6)],[(2,.pure (GTable.cs a0)),(3,.pure (GTable.cs b1))],62⟩:TS) ?_ ?_))))
     ·clear H
      have H:=h16
      clear h16
      refine AW2_reg [0,1,2,3,4,5,6,7,8,9,10,11,12] Y (rf Y U25 Y in_4 Y Y (GCell.len (vrd (vrd a0.Drawers t29_0.toNat) t32_1.toNat)) (rp Y (u_ld Y Y U4 Y Y (GCell.sub0 (vrd (vrd a0.Drawers t29_0.toNat) t32_1.toNat))) (rf Y U25 Y in_4 Y Y (GCell.len (vrd (vrd b1.Drawers t29_0.toNat) t32_1.toNat)) (rp Y (u_ld Y Y U4 Y Y (GCell.sub0 (vrd (vrd b1.Drawers t29_0.toNat) t32_1.toNat))) (rp Y (p_bnep Y U4 Y Y) (rm Y ?_))))))
      refine em2 H (fun h14 H=>?_) (fun h14 H=>?_)
      ·refine rO Y (dT h14) Y (rO Y (dT h14) Y (rO Y (dT h14) Y (rO Y (dT h14) Y (rO Y (dT h14) Y (rO Y (dT h14) Y (rp Y (p_pkt Y Y (dT h14) (.same _)) ?_))))))
       refine rs [(2,.q 2 (0)),(3,.q 3 (0)),(5,.i t29_0),(29,.i t29_0),(32,.i t32_1),(59,.b true)] [(2,.pure (GTable.cs a0)),(3,.pure (GTable.cs b1))] Y ?_
       have z:=se H; subst z
       exact RunW_nil rfl
      refine rn Y (dF h14) Y (u_fa Y Y U25 Y in_23 nz Y Y (nl (GCell.len (vrd (vrd a0.Drawers t29_0.toNat) t32_1.toNat)))) (rn Y (dF h14) Y (u_ld Y Y U23 Y Y (GCell.sub1 (vrd (vrd a0.Drawers t29_0.toNat) t32_1.toNat))) (rn Y (dF h14) Y (u_fa Y Y U25 Y in_23 nz Y Y (nl (GCell.len (vrd (vrd b1.Drawers t29_0.toNat) t32_1.toNat)))) (rn Y (dF h14) Y (u_ld Y Y U23 Y Y (GCell.sub1 (vrd (vrd b1.Drawers t29_0.toNat) t32_1.toNat))) (bindK H fun r'5 h15 H=>rn Y (dF h14) Y (p_callp Y Y Y Tryz.func17 Y Y (g_law_sameRow_ac h15) ⟨Y,Y,trivial⟩) (rn Y (dF h14) Y (p_not Y Y) ?_)))))
      refine rp Y (p_pkf Y Y (dF h14) (.same _)) (rs [(2,.q 2 (0)),(3,.q 3 (0)),(5,.i t29_0),(29,.i t29_0),(32,.i t32_1),(59,.b (!r'5))] [(2,.pure (GTable.cs a0)),(3,.pure (GTable.cs b1))] Y ?_)
      have z:=se H; subst z
      exact RunW_nil rfl
     refine AW2_cond Y (fun h17=>?_) (fun h17=>?_)
     ·replace H:=ite_then h17 H
      refine sg [0] Y (ra Y (rz [(4,.b false)] [] Y (AW2_ret ?_)))
      have z:=se H; subst z
      exact ⟨Y,⟨rt,trivial⟩,trivial⟩
     replace H:=ite_else (ne_true h17) H
     refine as2 [(2,.q 2 (0)),(3,.q 3 (0)),(5,.i t29_0),(29,.i t29_0),(32,.i t32_1)] [(2,.pure (GTable.cs a0)),(3,.pure (GTable.cs b1))] Y (AW2_skip (AW2_reg [0,1] Y (rp Y (p_bin Y Y Y Y) (rm Y (rz [(2,_),(3,_),(5,_),(29,_),(32,.i (w64 (t32_1+(1:Int))))] [(2,_),(3,_)] Y ?_)))))
     have z:=se H; subst z
     exact ⟨Y,Y⟩
    refine as2 [(2,_),(3,_),(29,_)] [(2,_),(3,_)] Y (AW2_exit (thenQ2_exit ?_))
    have z:=se H; subst z
    exact ⟨Y,Y⟩
   rcases o'10 with y'11 | y'12
   ·obtain ⟨rfl,hs⟩:=hs
    refine ⟨by simp,?_⟩
    have z:=se H; subst z
    exact ⟨Y,hs.1,hs.2⟩
   obtain ⟨rfl,rfl⟩:=hs
   refine ⟨by simp,?_⟩
   refine blockQ2_exit (AW2_reg [0,1] Y (rp Y (p_bin Y Y Y Y) (rm Y (rz [(2,.q 2 (0)),(3,.q 3 (0)),(29,.i (w64 (t29_0+(1:Int))))] [(2,.pure (GTable.cs a0)),(3,.pure (GTable.cs b1))] Y ?_))))
   have z:=se H; subst z
   exact ⟨Y,Y⟩
  refine as2 [] [] Y (AW2_exit (thenQ2_exit ?_))
  have z:=se H; subst z
  exact ⟨Y,Y⟩
 rcases o'16 with y'17 | y'18
 ·obtain ⟨rfl,hs⟩:=hs
  refine ⟨by simp,?_⟩
  have z:=se H; subst z
  exact ⟨hs.1,hs.2⟩
 obtain ⟨rfl,rfl⟩:=hs
 refine ⟨by simp,?_⟩
 refine blockQ2_exit (sg [0] Y (ra Y (rz [(4,.b true)] [] Y (AW2_ret ?_))))
 have z:=se H; subst z
 exact ⟨⟨rt,trivial⟩,trivial⟩
noncomputable def g_law_TableDeletes (t0:GTable) (drawer1:Int) (x2:GExpr):Option (Bool) :=
  (g_table_Delete t0 drawer1 x2).bind fun r'1=>(g_ref_Deleted t0 drawer1 x2).bind fun r'2=>((if r'1.2.2=r'2.2.2 then (if r'1.2.1=r'2.2.1 then (g_law_sameTable r'1.1 r'2.1).bind fun r'4=>some r'4 else some false) else some false)).bind fun g'5=>some g'5
set_option maxHeartbeats 4000000 in
set_option maxRecDepth 100000 in
theorem g_law_TableDeletes_ac {t0:GTable} {drawer1:Int} {x2:GExpr} {r:Bool} (H:g_law_TableDeletes t0 drawer1 x2=some r):ACp Tryz.prog 3 [(.agg (GTable.cs t0)),(AV.int drawer1),(.agg (GExpr.cs x2))] (AV.bool r):=by
 refine ACp_of (AC2_of_body (vs:=[.b r]) Tryz.func3 Y Y (lb Y) Y ?_) (fun _=>.same _)
 unfold g_law_TableDeletes at H
 refine as2 [(0,.g (GTable.cs t0)),(1,.i drawer1),(2,.g (GExpr.cs x2))] [] Y (sg [0,1,2] Y (rq Y (MakeD.opD (n_box 3 Y Y) Y Y Y Y) (rq Y (MakeD.opD (n_box 5 Y Y) Y Y Y Y) (ra Y (rz [(1,_),(3,.q 3 (0)),(5,.q 5 (0))] [(3,.pure (GTable.cs t0)),(5,.pure (GExpr.cs x2))] Y (sg [0,1,2,3,4,5,6,7,8,9,10,11] Y ?_))))))
 refine rp Y (u_lda Y Y U29 Y in_29 Y np (Sub.refl _) (GTable.len t0)) (rm Y (rp Y (u_lda Y Y U35 Y in_35 Y np (Sub.refl _) (GExpr.len x2)) (bindK H fun r'1 h1 H=>rp Y (p_callp Y Y Y Tryz.func5 Y Y (g_table_Delete_ac h1) ⟨Y,Y,Y,trivial⟩) (rm Y (rp Y (p_ext Y Y Y Y) ?_)))))
 refine rp Y (p_ext Y Y Y Y) (rp Y (p_ext Y Y Y Y) (rq Y (MakeD.opD (u_alloc 7 Y in_29 one_29 zc_29) Y Y Y Y) (rq Y (u_sw Y Y Y Y Y in_29 (GTable.len r'1.1) (GTable.len GTable.zero) Y) (ra Y (ra Y (rz [(1,_),(3,_),(5,_),(7,.q 7 (0)),(8,.i r'1.2.1),(9,.i r'1.2.2)] [(3,.pure (GTable.cs t0)),(5,.pure (GExpr.cs x2)),(7,.pure (GTable.cs r'1.1))] Y ?_))))))
 refine sg [0,1,2,3,4,5,6,7,8,9,10,11] Y (rp Y (u_lda Y Y U29 Y in_29 Y np (Sub.refl _) (GTable.len t0)) (rm Y (rp Y (u_lda Y Y U35 Y in_35 Y np (Sub.refl _) (GExpr.len x2)) (bindK H fun r'2 h2 H=>rp Y (p_callp Y Y Y Tryz.func6 Y Y (g_ref_Deleted_ac h2) ⟨Y,Y,Y,trivial⟩) (rm Y ?_)))))
 refine rp Y (p_ext Y Y Y Y) (rp Y (p_ext Y Y Y Y) (rp Y (p_ext Y Y Y Y) (rq Y (MakeD.opD (u_alloc 10 Y in_29 one_29 zc_29) Y Y Y Y) (rq Y (u_sw Y Y Y Y Y in_29 (GTable.len r'2.1) (GTable.len GTable.zero) Y) (ra Y (ra Y ?_))))))
 refine rz [(7,_),(8,_),(9,_),(10,.q 10 (0)),(11,.i r'2.2.1),(12,.i r'2.2.2)] [(7,.pure (GTable.cs r'1.1)),(10,.pure (GTable.cs r'2.1))] Y (AW2_seq (bindK H fun g'5 h7 H=>AW2_mid (⟨[(6,.b g'5)],[],42⟩:TS) ?_ ?_))
 ·clear H
  have H:=h7
  clear h7
  refine AW2_reg [0,1,2,3,4,5,6,7,8,9,10,11,12,13] Y (rm Y (rm Y (rp Y (p_ieq Y Y Y) (rm Y (em2 H (fun h4 H=>?_) (fun h4 H=>?_))))))
  ·refine rn Y (dT h4) Y (p_move Y Y) (rn Y (dT h4) Y (p_move Y Y) (rn Y (dT h4) Y (p_ieq Y Y Y) (rp Y (p_pkt Y Y (dT h4) (.same _)) (rm Y (em2 H (fun h5 H=>?_) (fun h5 H=>?_))))))
   ·refine rn Y (dT h5) Y (u_lda Y Y U29 Y in_29 Y np (Sub.refl _) (GTable.len r'1.1)) (rn Y (dT h5) Y (u_lda Y Y U29 Y in_29 Y np (Sub.refl _) (GTable.len r'2.1)) (bindK H fun r'4 h6 H=>rn Y (dT h5) Y (p_callp Y Y Y Tryz.func7 Y Y (g_law_sameTable_ac h6) ⟨Y,Y,trivial⟩) (rp Y (p_pkt Y Y (dT h5) (.same _)) (ra Y (rs [(6,.b r'4)] [] Y ?_)))))
    have z:=se H; subst z
    exact RunW_nil rfl
   refine rO Y (dF h5) Y (rO Y (dF h5) Y (rO Y (dF h5) Y (rp Y (p_pkf Y Y (dF h5) (.same _)) (ra Y (rs [(6,.b false)] [] Y ?_)))))
   have z:=se H; subst z
   exact RunW_nil rfl
  refine rO Y (dF h4) Y (rO Y (dF h4) Y (rO Y (dF h4) Y (rp Y (p_pkf Y Y (dF h4) (.same _)) (rm Y (rO Y (bfalse (by decide)) Y (rO Y (bfalse (by decide)) Y ?_))))))
  refine rO Y (bfalse (by decide)) Y (rp Y (p_pkf Y Y (bfalse (by decide)) (.same _)) (ra Y (rs [(6,.b false)] [] Y ?_)))
  have z:=se H; subst z
  exact RunW_nil rfl
 refine AW2_ret ?_
 have z:=se H; subst z
 exact ⟨⟨rt,trivial⟩,trivial⟩
end Go.Proofs.YthnkbagmaljjjaaGreatDoor.VM
