/- Words and rules that the proof uses. -/
import Derived.Test.YthnkbagmaljjjaaGreatDoorTu3
namespace Go.Proofs.YthnkbagmaljjjaaGreatDoor.VM
open Go Go.RowKit
set_option maxHeartbeats 4000000
set_option maxRecDepth 100000
theorem eq_63:EqT Tryz.prog 63 2 (fun x:GColumn=>.agg (GColumn.cs x)) :=
  eqt_struct [fun a b=>a.Name=b.Name,fun a b=>a.Kind=b.Kind,fun a b=>a.Null=b.Null] U63 (by kernel_rfl) ⟨(FieldEq.more (fe_one (by decide) U9 rfl (eqt_txt U9) (fun a=>GColumn.sub0 a)) (by decide:1≤1)),(FieldEq.more (fe_one (by decide) U3 rfl (eqt_int U3) (fun a=>GColumn.sub1 a)) (by decide:1≤1)),(FieldEq.more (fe_one (by decide) U4 rfl (eqt_bool U4) (fun a=>GColumn.sub2 a)) (by decide:1≤1)),trivial⟩ (fun a b=>by
    cases a; cases b
    simp)
set_option maxRecDepth 100000 in
theorem ty_4 {d:Nat} {cs:List AV} (h:Typed Tryz.prog d 4 cs):∃ x:Bool,cs=[(AV.bool x)]∧okA x:=match d,h with
  | 0,h=>False.elim h
  | d+1,h=>ty_bool U4 h
set_option maxRecDepth 100000 in
theorem ty_9 {d:Nat} {cs:List AV} (h:Typed Tryz.prog d 9 cs):∃ x:List UInt8,cs=[(AV.txt x)]∧okT x:=match d,h with
  | 0,h=>False.elim h
  | d+1,h=>ty_text U9 h
set_option maxRecDepth 100000 in
theorem ty_3 {d:Nat} {cs:List AV} (h:Typed Tryz.prog d 3 cs):∃ x:Int,cs=[(AV.int x)]∧okI x:=match d,h with
  | 0,h=>False.elim h
  | d+1,h=>ty_int U3 h
def GColumn.ok (x:GColumn):Prop:=okT x.Name∧okI x.Kind∧okA x.Null
set_option maxRecDepth 100000 in
theorem ty_63 {d:Nat} {cs:List AV} (h:Typed Tryz.prog d 63 cs):∃ x:GColumn,cs=GColumn.cs x∧GColumn.ok x:=match d,h with
  | 0,h=>False.elim h
  | d+1,h=>by
    obtain ⟨es,rfl,hl,hf⟩:=ty_struct U63 h
    match es,hl,hf with
    | [e0,e1,e2],_,hf =>
    obtain ⟨x0,h0,q0⟩:=ty_9 (hf 0 _ e0 rfl rfl)
    obtain ⟨x1,h1,q1⟩:=ty_3 (hf 1 _ e1 rfl rfl)
    obtain ⟨x2,h2,q2⟩:=ty_4 (hf 2 _ e2 rfl rfl)
    refine ⟨⟨x0,x1,x2⟩,?_,⟨q0,q1,q2⟩⟩
    rw [h0,h1,h2]
    simp only [List.flatten_cons,List.flatten_nil,List.append_nil,GColumn.cs]
set_option maxRecDepth 100000 in
theorem ty_22 {d:Nat} {cs:List AV} (h:Typed Tryz.prog d 22 cs):∃ x:List GColumn,cs=[((fun q:List GColumn=>AV.lst (q.flatMap GColumn.cs) q.length) x)]∧(okL 32 GColumn.ok) x:=match d,h with
  | 0,h=>False.elim h
  | d+1,h=>ty_slicef (g:=fun b:GColumn=>GColumn.cs b) U22 (bytes_of in_63) (fun _ hx=>ty_63 hx) h
set_option maxRecDepth 100000 in
theorem ty_30 {d:Nat} {cs:List AV} (h:Typed Tryz.prog d 30 cs):∃ x:UInt64,cs=[(AV.u64 x)]∧okA x:=match d,h with
  | 0,h=>False.elim h
  | d+1,h=>ty_u64 U30 h
def GValue.ok (x:GValue):Prop:=okI x.Kind∧okI x.Int_∧okA x.Bits∧okT x.Text
set_option maxRecDepth 100000 in
theorem ty_32 {d:Nat} {cs:List AV} (h:Typed Tryz.prog d 32 cs):∃ x:GValue,cs=GValue.cs x∧GValue.ok x:=match d,h with
  | 0,h=>False.elim h
  | d+1,h=>by
    obtain ⟨es,rfl,hl,hf⟩:=ty_struct U32 h
    match es,hl,hf with
    | [e0,e1,e2,e3],_,hf =>
    obtain ⟨x0,h0,q0⟩:=ty_3 (hf 0 _ e0 rfl rfl)
    obtain ⟨x1,h1,q1⟩:=ty_3 (hf 1 _ e1 rfl rfl)
    obtain ⟨x2,h2,q2⟩:=ty_30 (hf 2 _ e2 rfl rfl)
    obtain ⟨x3,h3,q3⟩:=ty_9 (hf 3 _ e3 rfl rfl)
    refine ⟨⟨x0,x1,x2,x3⟩,?_,⟨q0,q1,q2,q3⟩⟩
    rw [h0,h1,h2,h3]
    simp only [List.flatten_cons,List.flatten_nil,List.append_nil,GValue.cs]
set_option maxRecDepth 100000 in
theorem ty_23 {d:Nat} {cs:List AV} (h:Typed Tryz.prog d 23 cs):∃ x:List GValue,cs=[((fun q:List GValue=>AV.lst (q.flatMap GValue.cs) q.length) x)]∧(okL 40 GValue.ok) x:=match d,h with
  | 0,h=>False.elim h
  | d+1,h=>ty_slicef (g:=fun b:GValue=>GValue.cs b) U23 (bytes_of in_32) (fun _ hx=>ty_32 hx) h
def GCell.ok (x:GCell):Prop:=okA x.Full∧(okL 40 GValue.ok) x.Row
set_option maxRecDepth 100000 in
theorem ty_25 {d:Nat} {cs:List AV} (h:Typed Tryz.prog d 25 cs):∃ x:GCell,cs=GCell.cs x∧GCell.ok x:=match d,h with
  | 0,h=>False.elim h
  | d+1,h=>by
    obtain ⟨es,rfl,hl,hf⟩:=ty_struct U25 h
    match es,hl,hf with
    | [e0,e1],_,hf =>
    obtain ⟨x0,h0,q0⟩:=ty_4 (hf 0 _ e0 rfl rfl)
    obtain ⟨x1,h1,q1⟩:=ty_23 (hf 1 _ e1 rfl rfl)
    refine ⟨⟨x0,x1⟩,?_,⟨q0,q1⟩⟩
    rw [h0,h1]
    simp only [List.flatten_cons,List.flatten_nil,List.append_nil,GCell.cs]
set_option maxRecDepth 100000 in
theorem ty_26 {d:Nat} {cs:List AV} (h:Typed Tryz.prog d 26 cs):∃ x:Vector GCell 4,cs=x.toList.flatMap GCell.cs∧(okV GCell.ok) x:=match d,h with
  | 0,h=>False.elim h
  | d+1,h=>ty_arrayf (g:=fun b:GCell=>GCell.cs b) U26 (fun _ hx=>ty_25 hx) h
set_option maxRecDepth 100000 in
theorem ty_27 {d:Nat} {cs:List AV} (h:Typed Tryz.prog d 27 cs):∃ x:Vector (Vector GCell 4) 2,cs=x.toList.flatMap (fun v:Vector GCell 4=>v.toList.flatMap GCell.cs)∧(okV (okV GCell.ok)) x:=match d,h with
  | 0,h=>False.elim h
  | d+1,h=>ty_arrayf (g:=fun b:Vector GCell 4=>b.toList.flatMap GCell.cs) U27 (fun _ hx=>ty_26 hx) h
def GTable.ok (x:GTable):Prop:=okA x.There∧okT x.Name∧(okL 32 GColumn.ok) x.Cols∧(okV (okV GCell.ok)) x.Drawers
set_option maxRecDepth 100000 in
theorem ty_29 {d:Nat} {cs:List AV} (h:Typed Tryz.prog d 29 cs):∃ x:GTable,cs=GTable.cs x∧GTable.ok x:=match d,h with
  | 0,h=>False.elim h
  | d+1,h=>by
    obtain ⟨es,rfl,hl,hf⟩:=ty_struct U29 h
    match es,hl,hf with
    | [e0,e1,e2,e3],_,hf =>
    obtain ⟨x0,h0,q0⟩:=ty_4 (hf 0 _ e0 rfl rfl)
    obtain ⟨x1,h1,q1⟩:=ty_9 (hf 1 _ e1 rfl rfl)
    obtain ⟨x2,h2,q2⟩:=ty_22 (hf 2 _ e2 rfl rfl)
    obtain ⟨x3,h3,q3⟩:=ty_27 (hf 3 _ e3 rfl rfl)
    refine ⟨⟨x0,x1,x2,x3⟩,?_,⟨q0,q1,q2,q3⟩⟩
    rw [h0,h1,h2,h3]
    simp only [List.flatten_cons,List.flatten_nil,List.append_nil,GTable.cs]
inductive GExpr.ok:GExpr→Prop
  | mk {x:GExpr}:okI x.Op→GValue.ok x.Value→okT x.Name→x.Args.length * 88≤reachBytes→x.Args.length≤maxLen→(∀ y∈x.Args,GExpr.ok y)→GExpr.ok x
set_option maxRecDepth 100000 in
theorem ty_35_ (N:Nat):∀ (d:Nat) (cs:List AV),d≤N→Typed Tryz.prog d 35 cs→∃ x:GExpr,cs=GExpr.cs x∧GExpr.ok x:=by
  induction N with
  | zero =>
    intro d cs hd h
    obtain rfl:d=0:=by omega
    exact False.elim h
  | succ N ih =>
    intro d cs hd h
    match d,hd,h with
    | 0,_,h=>exact False.elim h
    | d+1,hd,h =>
    obtain ⟨es,rfl,hl,hf⟩:=ty_struct U35 h
    match es,hl,hf with
    | [e0,e1,e2,e3],_,hf =>
    obtain ⟨x0,h0,q0⟩:=ty_3 (hf 0 _ e0 rfl rfl)
    obtain ⟨x1,h1,q1⟩:=ty_32 (hf 1 _ e1 rfl rfl)
    obtain ⟨x2,h2,q2⟩:=ty_9 (hf 2 _ e2 rfl rfl)
    obtain ⟨x3,h3,q3⟩:∃ l:List GExpr,e3=[.lst (l.flatMap GExpr.cs) l.length]∧okL 88 GExpr.ok l:=by
      have h9:=hf 3 _ e3 rfl rfl
      match d,hd,h9 with
      | 0,_,h=>exact False.elim h
      | k+1,hd,h=>exact ty_slicef (g:=fun b:GExpr=>GExpr.cs b) U33 (bytes_of in_35) (fun x hx=>ih k x (by omega) hx) h
    refine ⟨⟨x0,x1,x2,x3⟩,?_,.mk q0 q1 q2 q3.1 q3.2.1 q3.2.2⟩
    rw [h0,h1,h2,h3,GExpr.cs_eq]
    simp only [List.flatten_cons,List.flatten_nil,List.append_nil]
theorem ty_35 {d:Nat} {cs:List AV} (h:Typed Tryz.prog d 35 cs):∃ x:GExpr,cs=GExpr.cs x∧GExpr.ok x:=ty_35_ d d cs (Nat.le_refl _) h
def GSet.ok (x:GSet):Prop:=okT x.Col∧GExpr.ok x.Expr
set_option maxRecDepth 100000 in
theorem ty_58 {d:Nat} {cs:List AV} (h:Typed Tryz.prog d 58 cs):∃ x:GSet,cs=GSet.cs x∧GSet.ok x:=match d,h with
  | 0,h=>False.elim h
  | d+1,h=>by
    obtain ⟨es,rfl,hl,hf⟩:=ty_struct U58 h
    match es,hl,hf with
    | [e0,e1],_,hf =>
    obtain ⟨x0,h0,q0⟩:=ty_9 (hf 0 _ e0 rfl rfl)
    obtain ⟨x1,h1,q1⟩:=ty_35 (hf 1 _ e1 rfl rfl)
    refine ⟨⟨x0,x1⟩,?_,⟨q0,q1⟩⟩
    rw [h0,h1]
    simp only [List.flatten_cons,List.flatten_nil,List.append_nil,GSet.cs]
set_option maxRecDepth 100000 in
theorem ty_41 {d:Nat} {cs:List AV} (h:Typed Tryz.prog d 41 cs):∃ x:List GSet,cs=[((fun q:List GSet=>AV.lst (q.flatMap GSet.cs) q.length) x)]∧(okL 104 GSet.ok) x:=match d,h with
  | 0,h=>False.elim h
  | d+1,h=>ty_slicef (g:=fun b:GSet=>GSet.cs b) U41 (bytes_of in_58) (fun _ hx=>ty_58 hx) h
noncomputable def g_ref_bitsOrder (a0:UInt64) (b1:UInt64):Option (Int) :=
  (if a0 < b1 then some (-1:Int) else (if b1 < a0 then some (1:Int) else some (0:Int)))
theorem g_ref_bitsOrder_ac {a0:UInt64} {b1:UInt64} {r:Int} (H:g_ref_bitsOrder a0 b1=some r):ACp Tryz.prog 80 [(AV.u64 a0),(AV.u64 b1)] (AV.int r):=by
 refine ACp_of (AC2_of_body (vs:=[.i r]) Tryz.func80 Y Y (lb Y) Y ?_) (fun _=>.same _)
 unfold g_ref_bitsOrder at H
 refine as2 [0,1] [.p (AV.u64 a0),.p (AV.u64 b1)] [] [] Y (sg 1 Y (ra Y (rz [0,1] [_,_] [] [] Y (QS (sg 3 Y (rm Y (rm Y (rp Y (p_u64lt (a:=a0) (b:=b1) Y Y Y) (rz [0,1,7] [_,_,.b (decide (a0 < b1))] [] [] Y (if2 H Y (fun h1 H=>?_) (fun h1 H=>?_)))))))))))
 ·refine sg 1 Y (ra Y (rz [4] [.i (-1:Int)] [] [] Y (QR ?_)))
  have z:=se H;subst z
  exact ⟨⟨rt,trivial⟩,trivial⟩
 refine as2 [0,1] [_,_] [] [] Y (QK (QS (sg 3 Y (rm Y (rm Y (rp Y (p_u64gt (a:=a0) (b:=b1) Y Y Y) (rz [10] [.b (decide (b1 < a0))] [] [] Y (if2 H Y (fun h2 H=>?_) (fun h2 H=>?_)))))))))
 ·refine sg 1 Y (ra Y (rz [4] [.i 1] [] [] Y (QR ?_)))
  have z:=se H;subst z
  exact ⟨⟨rt,trivial⟩,trivial⟩
 refine as2 [] [] [] [] Y (QK (sg 1 Y (ra Y (rz [4] [.i 0] [] [] Y (QR ?_)))))
 have z:=se H;subst z
 exact ⟨⟨rt,trivial⟩,trivial⟩
def g_ref_bytesOrder_r4:List (List (Nat×Option Nat)):=[[(0,none)],[(5,none)],[(18,some 0),(19,some 1)],[(1,none)],[(5,none)],[(21,some 3),(22,some 4)]]
def g_ref_bytesOrder_r4c:List (List Nat):=[[],[],[0,1],[],[],[3,4],[0,1,2,3,4,5]]
def g_ref_bytesOrder_r5:List (List (Nat×Option Nat)):=[[(0,none)],[(5,none)],[(25,some 0),(26,some 1)],[(1,none)],[(5,none)],[(28,some 3),(29,some 4)]]
def g_ref_bytesOrder_r5c:List (List Nat):=[[],[],[0,1],[],[],[3,4],[0,1,2,3,4,5]]
noncomputable def g_ref_bytesOrder_l0 (a0:List UInt8) (b1:List UInt8):Int→Option (Int⊕(Int⊕Unit))
  | i5_0=>(if (i5_0 < (a0.length:Int))∧(i5_0 < (b1.length:Int)) then if 0≤i5_0∧i5_0 < (a0.length:Int) then if 0≤i5_0∧i5_0 < (b1.length:Int) then (if (lrd a0 i5_0.toNat)≠(lrd b1 i5_0.toNat) then if 0≤i5_0∧i5_0 < (a0.length:Int) then if 0≤i5_0∧i5_0 < (b1.length:Int) then (if (lrd a0 i5_0.toNat) < (lrd b1 i5_0.toNat) then some (.inr (.inl (-1:Int))) else some (.inr (.inl (1:Int)))) else none else none else some (.inl (w64 (i5_0+(1:Int))))) else none else none else some (.inr (.inr ())))
noncomputable def g_ref_bytesOrder (a0:List UInt8) (b1:List UInt8):Option (Int) :=
  (loopO (g_ref_bytesOrder_l0 a0 b1) (0:Int)).bind fun o'4=>match o'4 with | .inl y'5=>some y'5 | .inr (y'6)=>(g_ref_sign (w64 ((a0.length:Int) - (b1.length:Int)))).bind fun r'7=>some r'7
theorem g_ref_bytesOrder_ac {a0:List UInt8} {b1:List UInt8} {r:Int} (H:g_ref_bytesOrder a0 b1=some r):ACp Tryz.prog 82 [(AV.txt a0),(AV.txt b1)] (AV.int r):=by
 refine ACp_of (AC2_of_body (vs:=[.i r]) Tryz.func82 Y Y (lb Y) Y ?_) (fun _=>.same _)
 unfold g_ref_bytesOrder at H
 refine as2 [0,1] [.t a0,.t b1] [] [] Y (sg 1 Y (ra Y (rz [0,1] [_,_] [] [] Y (QS (sg 1 Y (ra Y (rz [0,1,5] [_,_,.i 0] [] [] Y (QB (as2 [0,1,5] [_,_,_] [] [] Y (bindK H fun o'4 h9 H=>AW2_loopO (fun a'1:Int=>(⟨[(0,.t a0),(1,.t b1),(5,.i a'1)],[],38⟩:TS)) (fun (o:Int⊕Unit) e s'=>match o with | .inl y'2=>e=Go.Exit.ret∧ResAll Tryz.prog s' [ResultVar.tmp 4] [.i y'2]∧HFits s' [] | .inr (y'3)=>e=Go.Exit.exit 0∧s'=(⟨[(0,.t a0),(1,.t b1)],[],38⟩:TS)) h9 Y (fun i5_0 x hx=>?_) (fun e s' hs=>?_)))))))))))
 ·clear H
  have H:=hx
  clear hx
  unfold g_ref_bytesOrder_l0 at H
  refine QS (QS (AW2_mid (⟨[(0,.t a0),(1,.t b1),(5,.i i5_0),(15,.b (decide ((i5_0 < (a0.length:Int))∧(i5_0 < (b1.length:Int)))))],[],38⟩:TS) ?_ ?_))
  ·refine ar 10 Y (rm Y (rm Y (rp Y (p_lent Y U9 Y) (rp Y (pb Y Y) (rm Y ?_)))))
   refine (Classical.em (i5_0 < (a0.length:Int))).elim (fun h1=>?_) (fun h1=>?_)
   ·exact rn Y (dT h1) Y (p_move Y Y) (rn Y (dT h1) Y (p_move Y Y) (rn Y (dT h1) Y (p_lent Y U9 Y) (rn Y (dT h1) Y (pb Y Y) (rp Y (p_pkt Y Y (dT h1) (tb ((and_l (q:=i5_0 < (b1.length:Int)) h1)))) (rend Y Y)))))
   exact rO Y (dF h1) Y (rO Y (dF h1) Y (rO Y (dF h1) Y (rO Y (dF h1) Y (rp Y (p_pkf Y Y (dF h1) (tb (dF (p:=(i5_0 < (a0.length:Int))∧(i5_0 < (b1.length:Int))) (fun x=>h1 x.1)).symm)) (rend Y Y)))))
  refine if2 H Y (fun h2 H=>?_) (fun h2 H=>?_)
  ·refine as2 [0,1,5] [_,_,_] [] [] Y (QK (QS (QB (QS (chkK H fun h3 H=>chkK H fun h4 H=>AW2_ghoQ (AW2_draw 6 [6] (fun k=>([.t a0,.i i5_0,.p (AV.b8 (lrd a0 i5_0.toNat)),.t b1,.i i5_0,.p (AV.b8 (lrd b1 i5_0.toNat))]:List TV).getD k TV.any) (fun k=>g_ref_bytesOrder_r4.getD k []) [(0,none),(1,none),(5,none),(20,some 2),(23,some 5)] [] (fun k=>g_ref_bytesOrder_r4c.getD k []) mixed (by kernel_rfl) Y Y (a_op (g_x Y (x_p Y (p_move Y Y) Y)) (a_op (g_x Y (x_p Y (p_move Y Y) Y)) (a_op (g_x Y (x_p Y (p_ixt Y U9 Y Y (ixe h3) (lrd_get (ixn h3))) Y)) (a_op (g_x Y (x_p Y (p_move Y Y) Y)) (a_op (g_x Y (x_p Y (p_move Y Y) Y)) (a_op (g_x Y (x_p Y (p_ixt Y U9 Y Y (ixe h4) (lrd_get (ixn h4))) Y)) (a_nil))))))) (t_op Y Y (PureD.opD (p_u8ne (a:=(lrd a0 i5_0.toNat)) (b:=(lrd b1 i5_0.toNat)) Y Y Y)) (t_gho (Gho_st (L:=[(0,.t a0),(1,.t b1),(5,.i i5_0),(24,.b (decide ((lrd a0 i5_0.toNat)≠(lrd b1 i5_0.toNat))))]) (H:=[]) (N:=38) Y ⟨TLes.same _,TLes.same _,TLes.same _,TLes.same _,trivial⟩ trivial) (if2 H Y (fun h5 H=>?_) (fun h5 H=>?_))))))))))
   ·refine QS (QS (chkK H fun h6 H=>chkK H fun h7 H=>AW2_ghoQ (AW2_draw 6 [6] (fun k=>([.t a0,.i i5_0,.p (AV.b8 (lrd a0 i5_0.toNat)),.t b1,.i i5_0,.p (AV.b8 (lrd b1 i5_0.toNat))]:List TV).getD k TV.any) (fun k=>g_ref_bytesOrder_r5.getD k []) [(27,some 2),(30,some 5)] [] (fun k=>g_ref_bytesOrder_r5c.getD k []) mixed (by kernel_rfl) Y Y (a_op (g_x Y (x_p Y (p_move Y Y) Y)) (a_op (g_x Y (x_p Y (p_move Y Y) Y)) (a_op (g_x Y (x_p Y (p_ixt Y U9 Y Y (ixe h6) (lrd_get (ixn h6))) Y)) (a_op (g_x Y (x_p Y (p_move Y Y) Y)) (a_op (g_x Y (x_p Y (p_move Y Y) Y)) (a_op (g_x Y (x_p Y (p_ixt Y U9 Y Y (ixe h7) (lrd_get (ixn h7))) Y)) (a_nil))))))) (t_op Y Y (PureD.opD (p_u8lt (a:=(lrd a0 i5_0.toNat)) (b:=(lrd b1 i5_0.toNat)) Y Y Y)) (t_gho (Gho_st (L:=[(31,.b (decide ((lrd a0 i5_0.toNat) < (lrd b1 i5_0.toNat))))]) (H:=[]) (N:=38) Y ⟨TLes.same _,trivial⟩ trivial) (if2 H Y (fun h8 H=>?_) (fun h8 H=>?_)))))))
    ·refine sg 1 Y (ra Y (rz [4] [.i (-1:Int)] [] [] Y (QR ?_)))
     have z:=se H;subst z
     exact ⟨Y,⟨rt,trivial⟩,trivial⟩
    refine as2 [] [] [] [] Y (QK (sg 1 Y (ra Y (rz [4] [.i 1] [] [] Y (QR ?_)))))
    have z:=se H;subst z
    exact ⟨Y,⟨rt,trivial⟩,trivial⟩
   refine as2 [0,1,5] [.t a0,.t b1,.i i5_0] [] [] Y (QK (ar 3 Y (rm Y (rp Y (pb Y Y) (ra Y (rz [0,1,5] [_,_,.i (w64 (i5_0+1))] [] [] Y ?_))))))
   have z:=se H;subst z
   exact ⟨Y,Y⟩
  refine as2 [0,1] [_,_] [] [] Y (AW2_exit (thenQ2_exit ?_))
  have z:=se H;subst z
  exact ⟨Y,Y⟩
 rcases o'4 with y'5 | y'6
 ·obtain ⟨rfl,hs⟩:=hs
  refine ⟨by simp,?_⟩
  have z:=se H;subst z
  exact ⟨hs.1,hs.2⟩
 obtain ⟨rfl,rfl⟩:=hs
 refine ⟨by simp,?_⟩
 refine blockQ2_exit (sg 7 Y (rm Y (rp Y (p_lent Y U9 Y) (rm Y (rp Y (p_lent Y U9 Y) (rp Y (pb Y Y) (bindK H fun r'7 h10 H=>rp Y (pc Y Tryz.func79 Y (g_ref_sign_ac h10) Y) (ra Y (rz [4] [.i r'7] [] [] Y (QR ?_))))))))))
 have z:=se H;subst z
 exact ⟨⟨rt,trivial⟩,trivial⟩
def g_ref_Order_r5:List (List (Nat×Option Nat)):=[[(2,none)],[(20,some 0)],[(21,some 1)],[(3,none)],[(23,some 3)]]
def g_ref_Order_r5c:List (List Nat):=[[],[0],[0,1],[],[3],[0,1,2,3,4],[0,1,2,3,4,5],[0,1,2,3,4,5,6]]
noncomputable def g_ref_Order (a0:GValue) (b1:GValue):Option (Int) :=
  (if a0.Kind≠b1.Kind then (g_ref_sign (w64 (a0.Kind - b1.Kind))).bind fun r'1=>some r'1 else (if a0.Kind=(3:Int) then (g_ref_risen a0.Bits).bind fun r'2=>(g_ref_risen b1.Bits).bind fun r'3=>(g_ref_bitsOrder r'2 r'3).bind fun r'4=>some r'4 else (if a0.Kind=(4:Int) then (g_ref_bytesOrder a0.Text b1.Text).bind fun r'5=>some r'5 else (g_ref_bitsOrder ((UInt64.ofInt a0.Int_)+(9223372036854775808:UInt64)) ((UInt64.ofInt b1.Int_)+(9223372036854775808:UInt64))).bind fun r'6=>some r'6)))
theorem g_ref_Order_ac {a0:GValue} {b1:GValue} {r:Int} (H:g_ref_Order a0 b1=some r):ACp Tryz.prog 57 [(.agg (GValue.cs a0)),(.agg (GValue.cs b1))] (AV.int r):=by
 refine ACp_of (AC2_of_body (vs:=[.i r]) Tryz.func57 Y Y (lb Y) Y ?_) (fun _=>.same _)
 unfold g_ref_Order at H
 refine as2 [0,1] [.g (GValue.cs a0),.g (GValue.cs b1)] [] [] Y (sg 3 Y (rq Y (bx 2 Y) (rq Y (bx 3 Y) (ra Y (rz [2,3] [.q 2 (0),.q 3 (0)] [2,3] [.pure (GValue.cs a0),.pure (GValue.cs b1)] Y (QS (sg 5 Y (rf Y U32 Y in_3 Y Y (GValue.len a0) (rp Y (pl U3 Y (GValue.sub0 a0)) (rf Y U32 Y in_3 Y Y (GValue.len b1) (rp Y (pl U3 Y (GValue.sub0 b1)) (rp Y (pn Y) (rz [2,3,9] [_,_,.b (decide (a0.Kind≠b1.Kind))] [2,3] [_,_] Y (if2 H Y (fun h1 H=>?_) (fun h1 H=>?_)))))))))))))))
 ·refine sg 7 Y (rf Y U32 Y in_3 Y Y (GValue.len a0) (rp Y (pl U3 Y (GValue.sub0 a0)) (rf Y U32 Y in_3 Y Y (GValue.len b1) (rp Y (pl U3 Y (GValue.sub0 b1)) (rp Y (pb Y Y) (bindK H fun r'1 h2 H=>rp Y (pc Y Tryz.func79 Y (g_ref_sign_ac h2) Y) (ra Y (rz [4] [.i r'1] [] [] Y (QR ?_)))))))))
  have z:=se H;subst z
  exact ⟨⟨rt,trivial⟩,trivial⟩
 refine as2 [2,3] [_,_] [2,3] [_,_] Y (QK (QS (sg 2 Y (rf Y U32 Y in_3 Y Y (GValue.len a0) (rp Y (pl U3 Y (GValue.sub0 a0)) (rz [2,3,17] [_,_,.i a0.Kind] [2,3] [_,_] Y (QB (sg 2 Y (rp Y (pi Y) (ra Y (rz [2,3,17,18] [_,_,_,.b (decide (a0.Kind=3))] [2,3] [_,_] Y (if2 H Y (fun h3 H=>?_) (fun h3 H=>?_)))))))))))))
 ·refine QS (bindK H fun r'2 h4 H=>bindK H fun r'3 h5 H=>bindK H fun r'4 h6 H=>AW2_ghoQ (AW2_draw 5 [5,6,7] (fun k=>([.q 2 (0+2),.p (AV.u64 a0.Bits),.p (AV.u64 r'2),.q 3 (0+2),.p (AV.u64 b1.Bits)]:List TV).getD k TV.any) (fun k=>g_ref_Order_r5.getD k []) [(22,some 2),(24,some 4)] [] (fun k=>g_ref_Order_r5c.getD k []) mixed (by kernel_rfl) Y Y (a_op (g_x Y (x_p Y (uf U32 Y in_30 Y (GValue.len a0)) Y)) (a_op (g_x Y (x_p Y (pl U30 Y (GValue.sub2 a0)) Y)) (a_op (g_x Y (x_p Y (pc Y Tryz.func81 Y (g_ref_risen_ac h4) Y) Y)) (a_op (g_x Y (x_p Y (uf U32 Y in_30 Y (GValue.len b1)) Y)) (a_op (g_x Y (x_p Y (pl U30 Y (GValue.sub2 b1)) Y)) (a_nil)))))) (t_op Y Y (PureD.opD (pc Y Tryz.func81 Y (g_ref_risen_ac h5) Y)) (t_op Y Y (PureD.opD (pc Y Tryz.func80 Y (g_ref_bitsOrder_ac h6) Y)) (t_op Y Y (PureD.opD (p_asg Y Y)) (t_gho (Gho_st (L:=[(4,.i r'4)]) (H:=[]) (N:=43) Y ⟨TLes.same _,trivial⟩ trivial) (QR ?_)))))))
  have z:=se H;subst z
  exact ⟨⟨rt,trivial⟩,trivial⟩
 refine sg 2 Y (rp Y (pi Y) (ra Y (rz [2,3,27] [_,_,.b (decide (a0.Kind=4))] [2,3] [_,_] Y (if2 H Y (fun h7 H=>?_) (fun h7 H=>?_)))))
 ·refine sg 6 Y (rf Y U32 Y in_9 Y Y (GValue.len a0) (rp Y (pl U9 Y (GValue.sub3 a0)) (rf Y U32 Y in_9 Y Y (GValue.len b1) (rp Y (pl U9 Y (GValue.sub3 b1)) (bindK H fun r'5 h8 H=>rp Y (pc Y Tryz.func82 Y (g_ref_bytesOrder_ac h8) Y) (ra Y (rz [4] [.i r'5] [] [] Y (QR ?_))))))))
  have z:=se H;subst z
  exact ⟨⟨rt,trivial⟩,trivial⟩
 refine as2 [2,3] [_,_] [2,3] [_,_] Y (QK (sg 10 Y (rf Y U32 Y in_3 Y Y (GValue.len a0) (rp Y (pl U3 Y (GValue.sub1 a0)) (rp Y (p_i_u64 Y U3 U30 Y) (rp Y (p_u64add (a:=UInt64.ofInt a0.Int_) (b:=(9223372036854775808:UInt64)) Y Y Y) (rf Y U32 Y in_3 Y Y (GValue.len b1) (rp Y (pl U3 Y (GValue.sub1 b1)) (rp Y (p_i_u64 Y U3 U30 Y) (rp Y (p_u64add (a:=UInt64.ofInt b1.Int_) (b:=(9223372036854775808:UInt64)) Y Y Y) (bindK H fun r'6 h9 H=>rp Y (pc Y Tryz.func80 Y (g_ref_bitsOrder_ac h9) Y) (ra Y (rz [4] [.i r'6] [] [] Y (QR ?_))))))))))))))
 have z:=se H;subst z
 exact ⟨⟨rt,trivial⟩,trivial⟩
def g_ref_did_r15:List (List (Nat×Option Nat)):=[[(0,none)],[(59,some 0)],[(60,some 1)],[(4,none)],[(62,some 3)],[(5,none)],[(64,some 5)],[(61,some 2),(63,some 4),(65,some 6)],[(66,some 7)],[(58,some 8)],[(58,some 8)],[(67,some 9)]]
def g_ref_did_r15c:List (List Nat):=[[],[0],[0,1],[],[3],[],[3,4,5],[0,1,2,3,4,5,6],[0,1,2,3,4,5,6,7],[0,1,2,3,4,5,6,7,8],[0,1,2,3,4,5,6,7,8],[0,1,2,3,4,5,6,7,8,9],[0,1,2,3,4,5,6,7,8,9,10,11]]
noncomputable def g_ref_did_l0 (v1:GValue) (w2:GValue) (r'1:Int×Int):Int→Option (Int⊕((GValue×Int)⊕Unit))
  | t28_0=>(if t28_0 < (([v1,w2]:List GValue).length:Int) then if 0≤t28_0∧t28_0 < (([v1,w2]:List GValue).length:Int) then (if ((r'1.1≠(0:Int))∧((lrd ([v1,w2]:List GValue) t28_0.toNat).Kind≠(0:Int)))∧((lrd ([v1,w2]:List GValue) t28_0.toNat).Kind≠r'1.1) then some (.inr (.inl (GValue.zero,(2:Int)))) else some (.inl (w64 (t28_0+(1:Int))))) else none else some (.inr (.inr ())))
noncomputable def g_ref_did (op0:Int) (v1:GValue) (w2:GValue):Option (GValue×Int) :=
  (g_ref_asksFor op0).bind fun r'1=>(loopO (g_ref_did_l0 v1 w2 r'1) (0:Int)).bind fun o'5=>match o'5 with | .inl y'6=>some y'6 | .inr (y'7)=>(if op0=(17:Int) then (if v1.Kind=(0:Int) then (g_ref_boolOf (2:Int)).bind fun r'8=>some (r'8,(0:Int)) else (g_ref_boolOf (0:Int)).bind fun r'9=>some (r'9,(0:Int))) else ((if op0=(15:Int) then some (decide (op0=(15:Int))) else some (decide (op0=(16:Int))))).bind fun j'10=>(if j'10=true then (g_ref_truthOf v1).bind fun r'11=>(g_ref_truthOf w2).bind fun r'12=>(g_ref_Logic (w64 ((w64 ((1:Int)+op0)) - (15:Int))) r'11 r'12).bind fun r'13=>(g_ref_boolOf r'13.1).bind fun r'14=>some (r'14,(0:Int)) else (if op0=(4:Int) then (g_ref_truthOf v1).bind fun r'15=>(g_ref_Opposite r'15).bind fun r'16=>(g_ref_boolOf r'16.1).bind fun r'17=>some (r'17,(0:Int)) else (if op0=(20:Int) then some (w2,(0:Int)) else (if (v1.Kind=(0:Int))∨(((w2.Kind=(0:Int))∧(op0≠(3:Int)))∧(op0≠(18:Int))) then some (GValue.zero,(0:Int)) else (if op0=(3:Int) then (g_ref_reckoned (6:Int) (0:Int) v1.Int_).bind fun r'18=>some (r'18.1,r'18.2) else (if op0=(18:Int) then (g_utf8_RuneCountInString v1.Text).bind fun r'19=>(g_ref_intOf r'19).bind fun r'20=>some (r'20.1,r'20.2) else (if op0=(19:Int) then if v1.Text.length+w2.Text.length≤9223372036854775807 then (if ((v1.Text++w2.Text).length:Int) > (40:Int) then some (GValue.zero,(1:Int)) else letO ({ { GValue.zero with Kind:=(4:Int) } with Text:=v1.Text++w2.Text }) fun t6'21=>some (t6'21,(0:Int))) else none else ((if op0=(5:Int) then some (decide (op0=(5:Int))) else (if op0=(6:Int) then some (decide (op0=(6:Int))) else (if op0=(7:Int) then some (decide (op0=(7:Int))) else some (decide (op0=(8:Int))))))).bind fun j'22=>(if j'22=true then (g_ref_reckoned op0 v1.Int_ w2.Int_).bind fun r'23=>some (r'23.1,r'23.2) else (if v1.Kind≠w2.Kind then some (GValue.zero,(2:Int)) else (g_ref_Order v1 w2).bind fun r'24=>letO (([(2:Int),(5:Int),(1:Int),(3:Int),(4:Int),(6:Int)]:List Int)) fun which18'25=>if 0≤w64 (op0 - (9:Int))∧w64 (op0 - (9:Int)) < (which18'25.length:Int) then if 0≤w64 (r'24+(1:Int)) then (if iand (ishr (lrd which18'25 ((w64 (op0 - (9:Int))).toNat)) ((w64 (r'24+(1:Int))).toNat)) (1:Int)=(1:Int) then (g_ref_boolOf (2:Int)).bind fun r'26=>some (r'26,(0:Int)) else (g_ref_boolOf (0:Int)).bind fun r'27=>some (r'27,(0:Int))) else none else none))))))))))
theorem g_ref_did_ac {op0:Int} {v1:GValue} {w2:GValue} {r:GValue×Int} (H:g_ref_did op0 v1 w2=some r):ACp Tryz.prog 40 [(AV.int op0),(.agg (GValue.cs v1)),(.agg (GValue.cs w2))] (.tup [(.agg (GValue.cs r.1)),(AV.int r.2)]):=by
 refine ACp_of (AC2_of_body (vs:=[.g (GValue.cs r.1),.i r.2]) Tryz.func40 Y Y (lb Y) Y ?_) (fun _=>.same _)
 unfold g_ref_did at H
 refine as2 [0,1,2] [.i op0,.g (GValue.cs v1),.g (GValue.cs w2)] [] [] Y (sg 4 Y (rq Y (bx 4 Y) (rq Y (bx 5 Y) (rq Y (al 6 in_32 one_32 zc_32 Y) (ra Y (rz [0,4,5,6] [_,.q 4 (0),.q 5 (0),.q 6 (0)] [4,5,6] [.pure (GValue.cs v1),.pure (GValue.cs w2),.pure (GValue.cs GValue.zero)] Y (sg 7 Y (rm Y (bindK H fun r'1 h1 H=>rp Y (pc Y Tryz.func50 Y (g_ref_asksFor_ac h1) Y) (rm Y (rp Y (pe Y) (rp Y (pe Y) (ra Y (ra Y (rz [0,4,5,6,8] [_,_,_,_,.i r'1.1] [4,5,6] [_,_,_] Y (QS (sg 5 Y (rp Y (pL U32 Y in_32 (Sub.refl _) (GValue.len v1)) (rp Y (pL U32 Y in_32 (Sub.refl _) (GValue.len w2)) (rq Y (MakeD.opD (u_bs 26 Y U23 in_32 Y one_32 (by decide) (by decide) zc_32 Y (af_lit (g:=GValue.cs) GValue.len (GValue.len GValue.zero) [v1,w2])) Y Y Y Y) (rp Y (p_leno Y U23 Y Y Y (fm_length GValue.len ([v1,w2]:List GValue)) (by decide)) (rm Y ?_))))))))))))))))))))))
 refine RunW_st [(0,.i op0),(4,.q 4 (0)),(5,.q 5 (0)),(6,.q 6 (0)),(8,.i r'1.1),(26,.c (.own 26 ([v1,w2]:List GValue).length 4)),(27,.i (([v1,w2]:List GValue).length:Int)),(28,.i 0)] [(4,.pure (GValue.cs v1)),(5,.pure (GValue.cs w2)),(6,.pure (GValue.cs GValue.zero)),(26,.pure (([v1,w2]:List GValue).flatMap GValue.cs))] Y ⟨TLes.same _,TLes.same _,TLes.same _,TLes.same _,TLes.same _,TLes.own Y,TLes.same _,TLes.same _,trivial⟩ ⟨Y,Y,Y,Y,trivial⟩ (RunW_nil (QB (as2 [0,4,5,6,8,26,27,28] [.i op0,.q 4 (0),.q 5 (0),.q 6 (0),.i r'1.1,.c (.own 26 ([v1,w2]:List GValue).length 4),.i (([v1,w2]:List GValue).length:Int),.i 0] [4,5,6,26] [.pure (GValue.cs v1),.pure (GValue.cs w2),.pure (GValue.cs GValue.zero),.pure (([v1,w2]:List GValue).flatMap GValue.cs)] Y (bindK H fun o'5 h7 H=>AW2_loopO (fun a'2:Int=>(⟨[(0,.i op0),(4,.q 4 (0)),(5,.q 5 (0)),(6,.q 6 (0)),(8,.i r'1.1),(26,.c (.own 26 ([v1,w2]:List GValue).length 4)),(27,.i (([v1,w2]:List GValue).length:Int)),(28,.i a'2)],[(4,.pure (GValue.cs v1)),(5,.pure (GValue.cs w2)),(6,.pure (GValue.cs GValue.zero)),(26,.pure (([v1,w2]:List GValue).flatMap GValue.cs))],165⟩:TS)) (fun (o:(GValue×Int)⊕Unit) e s'=>match o with | .inl y'3=>e=Go.Exit.ret∧ResAll Tryz.prog s' [ResultVar.cell 6 32,ResultVar.tmp 7] [.g (GValue.cs y'3.1),.i y'3.2]∧HFits s' [] | .inr (y'4)=>e=Go.Exit.exit 0∧s'=(⟨[(0,.i op0),(4,.q 4 (0)),(5,.q 5 (0)),(6,.q 6 (0))],[(4,.pure (GValue.cs v1)),(5,.pure (GValue.cs w2)),(6,.pure (GValue.cs GValue.zero))],165⟩:TS)) h7 Y (fun t28_0 x hx=>?_) (fun e s' hs=>?_)))))
 ·clear H
  have H:=hx
  clear hx
  unfold g_ref_did_l0 at H
  refine sg 1 Y (rp Y (pb Y Y) (rz [0,4,5,6,8,26,27,28,29] [.i op0,.q 4 (0),.q 5 (0),.q 6 (0),.i r'1.1,.c (.own 26 ([v1,w2]:List GValue).length 4),.i (([v1,w2]:List GValue).length:Int),.i t28_0,.b (decide (t28_0 < (([v1,w2]:List GValue).length:Int)))] [4,5,6,26] [.pure (GValue.cs v1),.pure (GValue.cs w2),.pure (GValue.cs GValue.zero),.pure (([v1,w2]:List GValue).flatMap GValue.cs)] Y (QS (if2 H Y (fun h2 H=>?_) (fun h2 H=>?_)))))
  ·refine as2 [0,4,5,6,8,26,27,28] [_,_,_,_,_,_,_,_] [4,5,6,26] [_,_,_,_] Y (QK (QS (QB (sg 4 Y (chkK H fun h3 H=>rp Y (u_ixo Y Y U23 in_32 Y Y (fne GValue.len (by decide) (ixn h3)) Y (ixe h3) (ixn h3)) (rp Y (pL U32 Y in_32 ((Sub.refl _).trans (Sub.fm default GValue.len (ixn h3))) (GValue.len (lrd ([v1,w2]:List GValue) t28_0.toNat))) (rq Y (al 11 in_32 one_32 zc_32 Y) (rq Y (u_sw Y Y in_32 (GValue.len (lrd ([v1,w2]:List GValue) t28_0.toNat)) (GValue.len GValue.zero)) (rz [0,4,5,6,8,11,26,27,28] [_,_,_,_,_,.q 11 (0),_,_,_] [4,5,6,11,26] [_,_,_,.pure (GValue.cs (lrd ([v1,w2]:List GValue) t28_0.toNat)),_] Y (QS (AW2_mid (⟨[(0,.i op0),(4,.q 4 (0)),(5,.q 5 (0)),(6,.q 6 (0)),(8,.i r'1.1),(26,.c (.own 26 ([v1,w2]:List GValue).length 4)),(27,.i (([v1,w2]:List GValue).length:Int)),(28,.i t28_0),(44,.b (decide (((r'1.1≠0)∧((lrd ([v1,w2]:List GValue) t28_0.toNat).Kind≠0))∧((lrd ([v1,w2]:List GValue) t28_0.toNat).Kind≠r'1.1))))],[(4,.pure (GValue.cs v1)),(5,.pure (GValue.cs w2)),(6,.pure (GValue.cs GValue.zero)),(26,.pure (([v1,w2]:List GValue).flatMap GValue.cs))],165⟩:TS) ?_ ?_)))))))))))
   ·refine ar 13 Y (rm Y (rp Y (pn Y) (rm Y ?_)))
    refine (Classical.em (r'1.1≠0)).elim (fun h4=>?_) (fun h4=>?_)
    ·refine rn Y (dT h4) Y (uf U32 Y in_3 Y (GValue.len (lrd ([v1,w2]:List GValue) t28_0.toNat))) (rn Y (dT h4) Y (pl U3 Y (GValue.sub0 (lrd ([v1,w2]:List GValue) t28_0.toNat))) (rn Y (dT h4) Y (pn Y) (rp Y (p_pkt Y Y (dT h4) (tb ((and_l (q:=(lrd ([v1,w2]:List GValue) t28_0.toNat).Kind≠0) h4)))) (rm Y ?_))))
     refine (Classical.em ((lrd ([v1,w2]:List GValue) t28_0.toNat).Kind≠0)).elim (fun h5=>?_) (fun h5=>?_)
     ·have qq1:=dT (p:=(r'1.1≠0)∧((lrd ([v1,w2]:List GValue) t28_0.toNat).Kind≠0)) ⟨h4,h5⟩
      exact rn Y qq1 Y (uf U32 Y in_3 Y (GValue.len (lrd ([v1,w2]:List GValue) t28_0.toNat))) (rn Y qq1 Y (pl U3 Y (GValue.sub0 (lrd ([v1,w2]:List GValue) t28_0.toNat))) (rn Y qq1 Y (p_move Y Y) (rn Y qq1 Y (pn Y) (rp Y (p_pkt Y Y qq1 (tb ((and_l (p:=(r'1.1≠0)∧((lrd ([v1,w2]:List GValue) t28_0.toNat).Kind≠0)) (q:=(lrd ([v1,w2]:List GValue) t28_0.toNat).Kind≠r'1.1) ⟨h4,h5⟩)))) (rend Y Y)))))
     have qq2:=dF (p:=(r'1.1≠0)∧((lrd ([v1,w2]:List GValue) t28_0.toNat).Kind≠0)) (fun h=>h5 h.2)
     iterate 4 (refine rO Y qq2 Y ?_)
     exact rp Y (p_pkf Y Y qq2 (tb (dF (p:=((r'1.1≠0)∧((lrd ([v1,w2]:List GValue) t28_0.toNat).Kind≠0))∧((lrd ([v1,w2]:List GValue) t28_0.toNat).Kind≠r'1.1)) (fun x=>(fun h=>h5 h.2) x.1)).symm)) (rend Y Y)
    iterate 3 (refine rO Y (dF h4) Y ?_)
    refine rp Y (p_pkf Y Y (dF h4) (tb (dF (p:=(r'1.1≠0)∧((lrd ([v1,w2]:List GValue) t28_0.toNat).Kind≠0)) (fun x=>h4 x.1)).symm)) (rm Y ?_)
    have qq3:=dF (p:=(r'1.1≠0)∧((lrd ([v1,w2]:List GValue) t28_0.toNat).Kind≠0)) (fun h=>h4 h.1)
    iterate 4 (refine rO Y qq3 Y ?_)
    exact rp Y (p_pkf Y Y qq3 (tb (dF (p:=((r'1.1≠0)∧((lrd ([v1,w2]:List GValue) t28_0.toNat).Kind≠0))∧((lrd ([v1,w2]:List GValue) t28_0.toNat).Kind≠r'1.1)) (fun x=>(fun h=>h4 h.1) x.1)).symm)) (rend Y Y)
   refine if2 H Y (fun h6 H=>?_) (fun h6 H=>?_)
   ·refine sg 3 Y (rp Y (u_bld Y in_32 one_32 zc_32 pl_32 Y Y) (rq Y (u_sw Y Y in_32 (GValue.len GValue.zero) (GValue.len GValue.zero)) (ra Y (rz [6,7] [_,.i 2] [6] [_] Y (QR ?_)))))
    have z:=se H;subst z
    exact ⟨Y,⟨rcw U32 Y in_32 Y (GValue.len GValue.zero),rt,trivial⟩,trivial⟩
   refine as2 [0,4,5,6,8,26,27,28] [_,_,_,_,_,_,_,_] [4,5,6,26] [_,_,_,_] Y (QK (ar 2 Y (rp Y (pb Y Y) (rm Y (rz [0,4,5,6,8,26,27,28] [_,_,_,_,_,_,_,.i (w64 (t28_0+1))] [4,5,6,26] [_,_,_,_] Y ?_)))))
   have z:=se H;subst z
   exact ⟨Y,Y⟩
  refine as2 [0,4,5,6] [_,_,_,_] [4,5,6] [_,_,_] Y (AW2_exit (thenQ2_exit ?_))
  have z:=se H;subst z
  exact ⟨Y,Y⟩
 rcases o'5 with y'6 | y'7
 ·obtain ⟨rfl,hs⟩:=hs
  refine ⟨by simp,?_⟩
  have z:=se H;subst z
  exact ⟨hs.1,hs.2⟩
 obtain ⟨rfl,rfl⟩:=hs
 refine ⟨by simp,?_⟩
 refine blockQ2_exit (QS (sg 1 Y (rm Y (rz [0,4,5,6,47] [.i op0,.q 4 (0),.q 5 (0),.q 6 (0),.i op0] [4,5,6] [.pure (GValue.cs v1),.pure (GValue.cs w2),.pure (GValue.cs GValue.zero)] Y (QB (sg 2 Y (rp Y (pi Y) (ra Y (rz [0,4,5,6,47,48] [_,_,_,_,_,.b (decide (op0=17))] [4,5,6] [_,_,_] Y (if2 H Y (fun h8 H=>?_) (fun h8 H=>?_)))))))))))
 ·refine QS (sg 3 Y (rf Y U32 Y in_3 Y Y (GValue.len v1) (rp Y (pl U3 Y (GValue.sub0 v1)) (rp Y (pi Y) (rz [6,52] [_,.b (decide (v1.Kind=0))] [6] [_] Y (if2 H Y (fun h9 H=>?_) (fun h9 H=>?_)))))))
  ·refine sg 3 Y (bindK H fun r'8 h10 H=>rp Y (pc Y Tryz.func37 Y (g_ref_boolOf_ac h10) Y) (rq Y (u_sw Y Y in_32 (GValue.len r'8) (GValue.len GValue.zero)) (ra Y (rz [6,7] [_,.i 0] [6] [.pure (GValue.cs r'8)] Y (QR ?_)))))
   have z:=se H;subst z
   exact ⟨⟨rcw U32 Y in_32 Y (GValue.len r'8),rt,trivial⟩,trivial⟩
  refine as2 [6] [_] [6] [_] Y (QK (sg 3 Y (bindK H fun r'9 h11 H=>rp Y (pc Y Tryz.func37 Y (g_ref_boolOf_ac h11) Y) (rq Y (u_sw Y Y in_32 (GValue.len r'9) (GValue.len GValue.zero)) (ra Y (rz [6,7] [_,.i 0] [6] [.pure (GValue.cs r'9)] Y (QR ?_)))))))
  have z:=se H;subst z
  exact ⟨⟨rcw U32 Y in_32 Y (GValue.len r'9),rt,trivial⟩,trivial⟩
 refine QS (bindK H fun j'10 h12 H=>AW2_mid (⟨[(0,.i op0),(4,.q 4 (0)),(5,.q 5 (0)),(6,.q 6 (0)),(47,.i op0),(55,.b j'10)],[(4,.pure (GValue.cs v1)),(5,.pure (GValue.cs w2)),(6,.pure (GValue.cs GValue.zero))],165⟩:TS) ?_ ?_)
 ·clear H
  have H:=h12
  clear h12
  refine sg 2 Y (rp Y (pi Y) (ra Y (rz [0,4,5,6,47,55] [.i op0,.q 4 (0),.q 5 (0),.q 6 (0),.i op0,.b (decide (op0=15))] [4,5,6] [.pure (GValue.cs v1),.pure (GValue.cs w2),.pure (GValue.cs GValue.zero)] Y (if2 H Y (fun h13 H=>?_) (fun h13 H=>?_)))))
  ·refine QK ?_
   have z:=se H;subst z
   exact rfl
  refine ar 2 Y (rp Y (pi Y) (ra Y (rz [0,4,5,6,47,55] [_,_,_,_,_,.b (decide (op0=16))] [4,5,6] [_,_,_] Y ?_)))
  have z:=se H;subst z
  exact rfl
 refine AW2_cond Y (fun h14=>?_) (fun h14=>?_)
 ·replace H:=ite_then h14 H
  refine QS (bindK H fun r'11 h15 H=>bindK H fun r'12 h16 H=>bindK H fun r'13 h17 H=>AW2_ghoQ (AW2_draw 12 [12] (fun k=>([.i op0,.i (w64 (1+op0)),.i (w64 ((w64 (1+op0)) - 15)),.g (GValue.cs v1),.i r'11,.g (GValue.cs w2),.i r'12,.p (.tup [(AV.int r'13.1),(AV.int r'13.2)]),.p (.tup [(AV.int r'13.1),(AV.int r'13.2)]),.i r'13.1,.i r'13.2,.i r'13.1]:List TV).getD k TV.any) (fun k=>g_ref_did_r15.getD k []) [(6,none),(12,some 11),(68,some 10)] [] (fun k=>g_ref_did_r15c.getD k []) mixed (by kernel_rfl) Y Y (a_op (g_x Y (x_p Y (p_move Y Y) Y)) (a_op (g_x Y (x_p Y (pb Y Y) Y)) (a_op (g_x Y (x_p Y (pb Y Y) Y)) (a_op (g_x Y (x_p Y (pL U32 Y in_32 (Sub.refl _) (GValue.len v1)) Y)) (a_op (g_x Y (x_p Y (pc Y Tryz.func52 Y (g_ref_truthOf_ac h15) Y) Y)) (a_op (g_x Y (x_p Y (pL U32 Y in_32 (Sub.refl _) (GValue.len w2)) Y)) (a_op (g_x Y (x_p Y (pc Y Tryz.func52 Y (g_ref_truthOf_ac h16) Y) Y)) (a_op (g_x Y (x_p Y (pc Y Tryz.func51 Y (g_ref_Logic_ac h17) Y) Y)) (a_op (g_x Y (x_p Y (p_move Y Y) Y)) (a_op (g_x Y (x_p Y (pe Y) Y)) (a_op (g_x Y (x_p Y (pe Y) Y)) (a_op (g_x Y (x_p Y (p_asg Y Y) Y)) (a_nil))))))))))))) (t_op Y Y (PureD.opD (p_asg Y Y)) (t_gho (Gho_st (L:=[(6,.q 6 (0)),(12,.i r'13.1)]) (H:=[(6,.pure (GValue.cs GValue.zero))]) (N:=165) Y ⟨TLes.same _,TLes.same _,trivial⟩ ⟨Y,trivial⟩) (sg 4 Y (rm Y (bindK H fun r'14 h18 H=>rp Y (pc Y Tryz.func37 Y (g_ref_boolOf_ac h18) Y) (rq Y (u_sw Y Y in_32 (GValue.len r'14) (GValue.len GValue.zero)) (ra Y (rz [6,7] [.q 6 (0),.i 0] [6] [.pure (GValue.cs r'14)] Y (QR ?_)))))))))))
  have z:=se H;subst z
  exact ⟨⟨rcw U32 Y in_32 Y (GValue.len r'14),rt,trivial⟩,trivial⟩
 replace H:=ite_else (ne_true h14) H
 refine sg 2 Y (rp Y (pi Y) (ra Y (rz [0,4,5,6,47,71] [.i op0,.q 4 (0),.q 5 (0),.q 6 (0),.i op0,.b (decide (op0=4))] [4,5,6] [.pure (GValue.cs v1),.pure (GValue.cs w2),.pure (GValue.cs GValue.zero)] Y (if2 H Y (fun h19 H=>?_) (fun h19 H=>?_)))))
 ·refine sg 8 Y (rp Y (pL U32 Y in_32 (Sub.refl _) (GValue.len v1)) (bindK H fun r'15 h20 H=>rp Y (pc Y Tryz.func52 Y (g_ref_truthOf_ac h20) Y) (bindK H fun r'16 h21 H=>rp Y (pc Y Tryz.func53 Y (g_ref_Opposite_ac h21) Y) (rm Y (rp Y (pe Y) (rp Y (pe Y) (ra Y (ra Y (rz [6,14] [_,.i r'16.1] [6] [_] Y (sg 4 Y (rm Y (bindK H fun r'17 h22 H=>rp Y (pc Y Tryz.func37 Y (g_ref_boolOf_ac h22) Y) (rq Y (u_sw Y Y in_32 (GValue.len r'17) (GValue.len GValue.zero)) (ra Y (rz [6,7] [_,.i 0] [6] [.pure (GValue.cs r'17)] Y (QR ?_))))))))))))))))
  have z:=se H;subst z
  exact ⟨⟨rcw U32 Y in_32 Y (GValue.len r'17),rt,trivial⟩,trivial⟩
 refine sg 2 Y (rp Y (pi Y) (ra Y (rz [0,4,5,6,81] [_,_,_,_,.b (decide (op0=20))] [4,5,6] [_,_,_] Y (if2 H Y (fun h23 H=>?_) (fun h23 H=>?_)))))
 ·refine sg 3 Y (rp Y (pL U32 Y in_32 (Sub.refl _) (GValue.len w2)) (rq Y (u_sw Y Y in_32 (GValue.len w2) (GValue.len GValue.zero)) (ra Y (rz [6,7] [_,.i 0] [6] [.pure (GValue.cs w2)] Y (QR ?_)))))
  have z:=se H;subst z
  exact ⟨⟨rcw U32 Y in_32 Y (GValue.len w2),rt,trivial⟩,trivial⟩
 refine as2 [0,4,5,6] [_,_,_,_] [4,5,6] [_,_,_] Y (QK (QS (QS (AW2_mid (⟨[(0,.i op0),(4,.q 4 (0)),(5,.q 5 (0)),(6,.q 6 (0)),(99,.b (decide ((v1.Kind=0)∨(((w2.Kind=0)∧(op0≠3))∧(op0≠18)))))],[(4,.pure (GValue.cs v1)),(5,.pure (GValue.cs w2)),(6,.pure (GValue.cs GValue.zero))],165⟩:TS) ?_ ?_))))
 ·refine ar 16 Y (rf Y U32 Y in_3 Y Y (GValue.len v1) (rp Y (pl U3 Y (GValue.sub0 v1)) (rp Y (pi Y) (rm Y ?_))))
  refine (Classical.em (v1.Kind=0)).elim (fun h24=>?_) (fun h24=>?_)
  ·iterate 4 (refine rO Y (dT h24) Y ?_)
   iterate 2 (refine r_off2 rfl rfl rfl rfl rfl rfl ?_)
   iterate 2 (refine rO Y (dT h24) Y ?_)
   iterate 2 (refine r_off2 rfl rfl rfl rfl rfl rfl ?_)
   exact rO Y (dT h24) Y (rp Y (p_pkt Y Y (dT h24) (tb (dT (p:=(v1.Kind=0)∨(((w2.Kind=0)∧(op0≠3))∧(op0≠18))) (Or.inl h24)).symm)) (rend Y Y))
  refine rn Y (dF h24) Y (uf U32 Y in_3 Y (GValue.len w2)) (rn Y (dF h24) Y (pl U3 Y (GValue.sub0 w2)) (rn Y (dF h24) Y (pi Y) (rn Y (dF h24) Y (p_move Y Y) ?_)))
  refine (Classical.em (w2.Kind=0)).elim (fun h25=>?_) (fun h25=>?_)
  ·refine rn Y (dT h25) Y (p_move Y Y) (rn Y (dT h25) Y (pn Y) (rn Y (dF h24) Y (p_pkt Y Y (dT h25) (tb ((and_l (q:=op0≠3) h25)))) (rn Y (dF h24) Y (p_move Y Y) ?_)))
   refine (Classical.em (op0≠3)).elim (fun h26=>?_) (fun h26=>?_)
   ·have qq4:=dT (p:=(w2.Kind=0)∧(op0≠3)) ⟨h25,h26⟩
    exact rn Y qq4 Y (p_move Y Y) (rn Y qq4 Y (pn Y) (rn Y (dF h24) Y (p_pkt Y Y qq4 (tb ((and_l (p:=(w2.Kind=0)∧(op0≠3)) (q:=op0≠18) ⟨h25,h26⟩)))) (rp Y (p_pkf Y Y (dF h24) (tb ((or_l (q:=((w2.Kind=0)∧(op0≠3))∧(op0≠18)) h24)))) (rend Y Y))))
   have qq5:=dF (p:=(w2.Kind=0)∧(op0≠3)) (fun h=>h26 h.2)
   iterate 2 (refine rO Y qq5 Y ?_)
   exact rn Y (dF h24) Y (p_pkf Y Y qq5 (tb (dF (p:=((w2.Kind=0)∧(op0≠3))∧(op0≠18)) (fun x=>(fun h=>h26 h.2) x.1)).symm)) (rp Y (p_pkf Y Y (dF h24) (tb ((or_l (q:=((w2.Kind=0)∧(op0≠3))∧(op0≠18)) h24)))) (rend Y Y))
  iterate 2 (refine rO Y (dF h25) Y ?_)
  refine rn Y (dF h24) Y (p_pkf Y Y (dF h25) (tb (dF (p:=(w2.Kind=0)∧(op0≠3)) (fun x=>h25 x.1)).symm)) (rn Y (dF h24) Y (p_move Y Y) ?_)
  have qq6:=dF (p:=(w2.Kind=0)∧(op0≠3)) (fun h=>h25 h.1)
  iterate 2 (refine rO Y qq6 Y ?_)
  exact rn Y (dF h24) Y (p_pkf Y Y qq6 (tb (dF (p:=((w2.Kind=0)∧(op0≠3))∧(op0≠18)) (fun x=>(fun h=>h25 h.1) x.1)).symm)) (rp Y (p_pkf Y Y (dF h24) (tb ((or_l (q:=((w2.Kind=0)∧(op0≠3))∧(op0≠18)) h24)))) (rend Y Y))
 refine if2 H Y (fun h27 H=>?_) (fun h27 H=>?_)
 ·refine sg 3 Y (rp Y (u_bld Y in_32 one_32 zc_32 pl_32 Y Y) (rq Y (u_sw Y Y in_32 (GValue.len GValue.zero) (GValue.len GValue.zero)) (ra Y (rz [6,7] [_,.i 0] [6] [_] Y (QR ?_)))))
  have z:=se H;subst z
  exact ⟨⟨rcw U32 Y in_32 Y (GValue.len GValue.zero),rt,trivial⟩,trivial⟩
 refine as2 [0,4,5,6] [_,_,_,_] [4,5,6] [_,_,_] Y (QK (QS (sg 1 Y (rm Y (rz [0,4,5,6,101] [_,_,_,_,.i op0] [4,5,6] [_,_,_] Y (QB (sg 2 Y (rp Y (pi Y) (ra Y (rz [0,4,5,6,101,102] [_,_,_,_,_,.b (decide (op0=3))] [4,5,6] [_,_,_] Y (if2 H Y (fun h28 H=>?_) (fun h28 H=>?_))))))))))))
 ·refine sg 7 Y (rf Y U32 Y in_3 Y Y (GValue.len v1) (rp Y (pl U3 Y (GValue.sub1 v1)) (bindK H fun r'18 h29 H=>rp Y (pc Y Tryz.func54 Y (g_ref_reckoned_ac h29) Y) (rp Y (pe Y) (rp Y (pe Y) (rq Y (u_sw Y Y in_32 (GValue.len r'18.1) (GValue.len GValue.zero)) (ra Y (rz [6,7] [_,.i r'18.2] [6] [.pure (GValue.cs r'18.1)] Y (QR ?_)))))))))
  have z:=se H;subst z
  exact ⟨⟨rcw U32 Y in_32 Y (GValue.len r'18.1),rt,trivial⟩,trivial⟩
 refine sg 2 Y (rp Y (pi Y) (ra Y (rz [0,4,5,6,101,109] [_,_,_,_,_,.b (decide (op0=18))] [4,5,6] [_,_,_] Y (if2 H Y (fun h30 H=>?_) (fun h30 H=>?_)))))
 ·refine sg 8 Y (rf Y U32 Y in_9 Y Y (GValue.len v1) (rp Y (pl U9 Y (GValue.sub3 v1)) (bindK H fun r'19 h31 H=>rp Y (pc Y Tryz.func56 Y (g_utf8_RuneCountInString_ac h31) Y) (bindK H fun r'20 h32 H=>rp Y (pc Y Tryz.func55 Y (g_ref_intOf_ac h32) Y) (rp Y (pe Y) (rp Y (pe Y) (rq Y (u_sw Y Y in_32 (GValue.len r'20.1) (GValue.len GValue.zero)) (ra Y (rz [6,7] [_,.i r'20.2] [6] [.pure (GValue.cs r'20.1)] Y (QR ?_))))))))))
  have z:=se H;subst z
  exact ⟨⟨rcw U32 Y in_32 Y (GValue.len r'20.1),rt,trivial⟩,trivial⟩
 refine sg 2 Y (rp Y (pi Y) (ra Y (rz [0,4,5,6,101,117] [_,_,_,_,_,.b (decide (op0=19))] [4,5,6] [_,_,_] Y (if2 H Y (fun h33 H=>?_) (fun h33 H=>?_)))))
 ·refine sg 6 Y (rf Y U32 Y in_9 Y Y (GValue.len v1) (rp Y (pl U9 Y (GValue.sub3 v1)) (rf Y U32 Y in_9 Y Y (GValue.len w2) (rp Y (pl U9 Y (GValue.sub3 w2)) (chkK H fun h34 H=>rp Y (p_cat Y Y Y h34) (ra Y (rz [6,16] [_,.t (v1.Text++w2.Text)] [6] [_] Y (QS (sg 3 Y (rm Y (rp Y (p_lent Y U9 Y) (rp Y (pb Y Y) (rz [6,16,126] [_,_,.b (decide (((v1.Text++w2.Text).length:Int) > 40))] [6] [_] Y (if2 H Y (fun h35 H=>?_) (fun h35 H=>?_)))))))))))))))
  ·refine sg 3 Y (rp Y (u_bld Y in_32 one_32 zc_32 pl_32 Y Y) (rq Y (u_sw Y Y in_32 (GValue.len GValue.zero) (GValue.len GValue.zero)) (ra Y (rz [6,7] [_,.i 1] [6] [_] Y (QR ?_)))))
   have z:=se H;subst z
   exact ⟨⟨rcw U32 Y in_32 Y (GValue.len GValue.zero),rt,trivial⟩,trivial⟩
  refine as2 [6,16] [_,_] [6] [_] Y (QK (sg 4 Y (rm Y (rp Y (u_bld Y in_32 one_32 zc_32 pl_32 Y (af_cons Y Y (GValue.upd0 GValue.zero 4) (af_cons Y Y (GValue.upd3 ((GValue.w0 GValue.zero 4)) (v1.Text++w2.Text)) Y))) (rq Y (u_sw Y Y in_32 (GValue.len ((GValue.w3 (GValue.w0 GValue.zero 4) (v1.Text++w2.Text)))) (GValue.len GValue.zero)) (ra Y (rz [6,7] [_,.i 0] [6] [.pure (GValue.cs ((GValue.w3 (GValue.w0 GValue.zero 4) (v1.Text++w2.Text))))] Y (gen1 (fun t6'21=>(⟨[(6,.q 6 (0)),(7,.i 0)],[(6,.pure (GValue.cs t6'21))],165⟩:TS)) H ?_))))))))
  intro t6'21 H
  refine QR ?_
  have z:=se H;subst z
  exact ⟨⟨rcw U32 Y in_32 Y (GValue.len t6'21),rt,trivial⟩,trivial⟩
 refine QS (bindK H fun j'22 h36 H=>AW2_mid (⟨[(0,.i op0),(4,.q 4 (0)),(5,.q 5 (0)),(6,.q 6 (0)),(130,.b j'22)],[(4,.pure (GValue.cs v1)),(5,.pure (GValue.cs w2)),(6,.pure (GValue.cs GValue.zero))],165⟩:TS) ?_ ?_)
 ·clear H
  have H:=h36
  clear h36
  refine sg 2 Y (rp Y (pi Y) (ra Y (rz [0,4,5,6,101,130] [.i op0,.q 4 (0),.q 5 (0),.q 6 (0),.i op0,.b (decide (op0=5))] [4,5,6] [.pure (GValue.cs v1),.pure (GValue.cs w2),.pure (GValue.cs GValue.zero)] Y (if2 H Y (fun h37 H=>?_) (fun h37 H=>?_)))))
  ·refine as2 [0,4,5,6,130] [_,_,_,_,_] [4,5,6] [_,_,_] Y (QK ?_)
   have z:=se H;subst z
   exact rfl
  refine sg 2 Y (rp Y (pi Y) (ra Y (rz [0,4,5,6,101,130] [_,_,_,_,_,.b (decide (op0=6))] [4,5,6] [_,_,_] Y (if2 H Y (fun h38 H=>?_) (fun h38 H=>?_)))))
  ·refine as2 [0,4,5,6,130] [_,_,_,_,_] [4,5,6] [_,_,_] Y (QK ?_)
   have z:=se H;subst z
   exact rfl
  refine sg 2 Y (rp Y (pi Y) (ra Y (rz [0,4,5,6,101,130] [_,_,_,_,_,.b (decide (op0=7))] [4,5,6] [_,_,_] Y (if2 H Y (fun h39 H=>?_) (fun h39 H=>?_)))))
  ·refine as2 [0,4,5,6,130] [_,_,_,_,_] [4,5,6] [_,_,_] Y (QK ?_)
   have z:=se H;subst z
   exact rfl
  refine ar 2 Y (rp Y (pi Y) (ra Y (rz [0,4,5,6,130] [_,_,_,_,.b (decide (op0=8))] [4,5,6] [_,_,_] Y ?_)))
  have z:=se H;subst z
  exact rfl
 refine AW2_cond Y (fun h40=>?_) (fun h40=>?_)
 ·replace H:=ite_then h40 H
  refine sg 10 Y (rm Y (rf Y U32 Y in_3 Y Y (GValue.len v1) (rp Y (pl U3 Y (GValue.sub1 v1)) (rf Y U32 Y in_3 Y Y (GValue.len w2) (rp Y (pl U3 Y (GValue.sub1 w2)) (bindK H fun r'23 h41 H=>rp Y (pc Y Tryz.func54 Y (g_ref_reckoned_ac h41) Y) (rp Y (pe Y) (rp Y (pe Y) (rq Y (u_sw Y Y in_32 (GValue.len r'23.1) (GValue.len GValue.zero)) (ra Y (rz [6,7] [.q 6 (0),.i r'23.2] [6] [.pure (GValue.cs r'23.1)] Y (QR ?_))))))))))))
  have z:=se H;subst z
  exact ⟨⟨rcw U32 Y in_32 Y (GValue.len r'23.1),rt,trivial⟩,trivial⟩
 replace H:=ite_else (ne_true h40) H
 refine as2 [0,4,5,6] [.i op0,.q 4 (0),.q 5 (0),.q 6 (0)] [4,5,6] [.pure (GValue.cs v1),.pure (GValue.cs w2),.pure (GValue.cs GValue.zero)] Y (QK (QS (sg 5 Y (rf Y U32 Y in_3 Y Y (GValue.len v1) (rp Y (pl U3 Y (GValue.sub0 v1)) (rf Y U32 Y in_3 Y Y (GValue.len w2) (rp Y (pl U3 Y (GValue.sub0 w2)) (rp Y (pn Y) (rz [0,4,5,6,147] [_,_,_,_,.b (decide (v1.Kind≠w2.Kind))] [4,5,6] [_,_,_] Y (if2 H Y (fun h42 H=>?_) (fun h42 H=>?_)))))))))))
 ·refine sg 3 Y (rp Y (u_bld Y in_32 one_32 zc_32 pl_32 Y Y) (rq Y (u_sw Y Y in_32 (GValue.len GValue.zero) (GValue.len GValue.zero)) (ra Y (rz [6,7] [_,.i 2] [6] [_] Y (QR ?_)))))
  have z:=se H;subst z
  exact ⟨⟨rcw U32 Y in_32 Y (GValue.len GValue.zero),rt,trivial⟩,trivial⟩
 refine as2 [0,4,5,6] [_,_,_,_] [4,5,6] [_,_,_] Y (QK (sg 4 Y (rp Y (pL U32 Y in_32 (Sub.refl _) (GValue.len v1)) (rp Y (pL U32 Y in_32 (Sub.refl _) (GValue.len w2)) (bindK H fun r'24 h43 H=>rp Y (pc Y Tryz.func57 Y (g_ref_Order_ac h43) Y) (ra Y (rz [0,6,17] [_,_,.i r'24] [6] [_] Y (sg 2 Y (rq Y (MakeD.opD (u_bs 152 Y U76 in_3 Y one_3 (by decide) (by decide) Y Y Y) Y Y Y Y) (ra Y (RunW_st [(0,.i op0),(6,.q 6 (0)),(17,.i r'24),(18,.c (.own 152 ([2,5,1,3,4,6]:List Int).length 1))] [(6,.pure (GValue.cs GValue.zero)),(152,.pure (([2,5,1,3,4,6]:List Int).map AV.int))] Y ⟨TLes.same _,TLes.same _,TLes.same _,TLes.own Y,trivial⟩ ⟨Y,Y,trivial⟩ (RunW_gho (Gho_ren 152 18 Y Y Y Y Y) (rz [0,6,17,18] [.i op0,.q 6 (0),.i r'24,.c (.own 18 ([2,5,1,3,4,6]:List Int).length 1)] [6,18] [.pure (GValue.cs GValue.zero),.pure (([2,5,1,3,4,6]:List Int).map AV.int)] Y (gen1 (fun which18'25=>(⟨[(0,.i op0),(6,.q 6 (0)),(17,.i r'24),(18,.c (.own 18 which18'25.length 1))],[(6,.pure (GValue.cs GValue.zero)),(18,.pure (which18'25.map AV.int))],165⟩:TS)) H ?_))))))))))))))
 intro which18'25 H
 refine QS (sg 10 Y (rm Y (rm Y (rp Y (pb Y Y) (chkK H fun h44 H=>rp Y (u_ixo Y Y U76 in_3 Y Y (lne (ixn h44)) Y (ixe h44) (ixn h44)) (rp Y (pl U3 Y ((Sub.refl _).trans (Sub.map default (ixn h44)))) (rm Y (rp Y (pb Y Y) (chkK H fun h45 H=>rp Y (p_ishr (n:=(w64 (r'24+1)).toNat) Y Y Y (Int.toNat_of_nonneg h45).symm) (rp Y (pb Y Y) (rp Y (pi Y) (rz [6,162] [.q 6 (0),.b (decide (iand (ishr (lrd which18'25 ((w64 (op0 - 9)).toNat)) ((w64 (r'24+1)).toNat)) (1:Int)=(1:Int)))] [6] [.pure (GValue.cs GValue.zero)] Y (if2 H Y (fun h46 H=>?_) (fun h46 H=>?_))))))))))))))
 ·refine sg 3 Y (bindK H fun r'26 h47 H=>rp Y (pc Y Tryz.func37 Y (g_ref_boolOf_ac h47) Y) (rq Y (u_sw Y Y in_32 (GValue.len r'26) (GValue.len GValue.zero)) (ra Y (rz [6,7] [_,.i 0] [6] [.pure (GValue.cs r'26)] Y (QR ?_)))))
  have z:=se H;subst z
  exact ⟨⟨rcw U32 Y in_32 Y (GValue.len r'26),rt,trivial⟩,trivial⟩
 refine as2 [6] [_] [6] [_] Y (QK (sg 3 Y (bindK H fun r'27 h48 H=>rp Y (pc Y Tryz.func37 Y (g_ref_boolOf_ac h48) Y) (rq Y (u_sw Y Y in_32 (GValue.len r'27) (GValue.len GValue.zero)) (ra Y (rz [6,7] [_,.i 0] [6] [.pure (GValue.cs r'27)] Y (QR ?_)))))))
 have z:=se H;subst z
 exact ⟨⟨rcw U32 Y in_32 Y (GValue.len r'27),rt,trivial⟩,trivial⟩
noncomputable def g_ref_valued_b (R':GExpr→(List GColumn)→(List GValue)→Option (GValue×Int)) (e0:GExpr) (cols1:List GColumn) (row2:List GValue):Option (GValue×Int) :=
  (if e0.Op=(1:Int) then some (e0.Value,(0:Int)) else (if e0.Op=(2:Int) then (g_ref_columnAt cols1 e0.Name).bind fun r'1=>(if r'1 < (0:Int) then some (GValue.zero,(5:Int)) else if 0≤r'1∧r'1 < (row2.length:Int) then some ((lrd row2 r'1.toNat),(0:Int)) else none) else if 0 < e0.Args.length then (R' (lrd e0.Args 0) cols1 row2).bind fun r'2=>(if (r'2.2≠(0:Int))∨((e0.Args.length:Int)=(1:Int)) then (if r'2.2≠(0:Int) then some (GValue.zero,r'2.2) else (g_ref_did e0.Op r'2.1 GValue.zero).bind fun r'3=>some (r'3.1,r'3.2)) else letO (decide (((e0.Op=(20:Int))∧(r'2.1.Kind≠(0:Int)))∨((r'2.1.Kind=(1:Int))∧(((e0.Op=(15:Int))∧(r'2.1.Int_=(0:Int)))∨((e0.Op=(16:Int))∧(r'2.1.Int_=(1:Int))))))) fun t92'4=>(if t92'4=true then some (r'2.1,(0:Int)) else if 1 < e0.Args.length then (R' (lrd e0.Args 1) cols1 row2).bind fun r'5=>(if r'5.2≠(0:Int) then some (GValue.zero,r'5.2) else (g_ref_did e0.Op r'2.1 r'5.1).bind fun r'6=>some (r'6.1,r'6.2)) else none)) else none))
noncomputable def g_ref_valued:Nat→GExpr→(List GColumn)→(List GValue)→Option (GValue×Int)
  | 0,_,_,_=>none
  | fu+1,e0,cols1,row2=>g_ref_valued_b (g_ref_valued fu) e0 cols1 row2
theorem g_ref_valued_ac0 {R':GExpr→(List GColumn)→(List GValue)→Option (GValue×Int)} (hR:∀ {e0:GExpr} {cols1:List GColumn} {row2:List GValue} {r:GValue×Int},R' e0 cols1 row2=some r→ACp Tryz.prog 22 [(.agg (GExpr.cs e0)),(GColumn.ls cols1),(GValue.ls row2)] (.tup [(.agg (GValue.cs r.1)),(AV.int r.2)])) {e0:GExpr} {cols1:List GColumn} {row2:List GValue} {r:GValue×Int} (H:g_ref_valued_b R' e0 cols1 row2=some r):ACp Tryz.prog 22 [(.agg (GExpr.cs e0)),(GColumn.ls cols1),(GValue.ls row2)] (.tup [(.agg (GValue.cs r.1)),(AV.int r.2)]):=by
 refine ACp_of (AC2_of_body (vs:=[.g (GValue.cs r.1),.i r.2]) Tryz.func22 Y Y (lb Y) Y ?_) (fun _=>.same _)
 unfold g_ref_valued_b at H
 refine as2 [0,1,2] [.g (GExpr.cs e0),.p (GColumn.ls cols1),.p (GValue.ls row2)] [] [] Y (sg 3 Y (rq Y (bx 3 Y) (rq Y (al 6 in_32 one_32 zc_32 Y) (ra Y (rz [1,2,3,6] [_,_,.q 3 (0),.q 6 (0)] [3,6] [.pure (GExpr.cs e0),.pure (GValue.cs GValue.zero)] Y (QS (sg 2 Y (rf Y U35 Y in_3 Y Y (GExpr.len e0) (rp Y (pl U3 Y (GExpr.sub0 e0)) (rz [1,2,3,6,13] [_,_,_,_,.i e0.Op] [3,6] [_,_] Y (QB (sg 2 Y (rp Y (pi Y) (ra Y (rz [1,2,3,6,13,14] [_,_,_,_,_,.b (decide (e0.Op=1))] [3,6] [_,_] Y (if2 H Y (fun h1 H=>?_) (fun h1 H=>?_)))))))))))))))))
 ·refine sg 4 Y (rf Y U35 Y in_32 Y Y (GExpr.len e0) (rp Y (pL U32 Y in_32 (GExpr.sub1 e0) (GValue.len e0.Value)) (rq Y (u_sw Y Y in_32 (GValue.len e0.Value) (GValue.len GValue.zero)) (ra Y (rz [6,7] [_,.i 0] [6] [.pure (GValue.cs e0.Value)] Y (QR ?_))))))
  have z:=se H;subst z
  exact ⟨⟨rcw U32 Y in_32 Y (GValue.len e0.Value),rt,trivial⟩,trivial⟩
 refine sg 2 Y (rp Y (pi Y) (ra Y (rz [1,2,3,6,18] [_,_,_,_,.b (decide (e0.Op=2))] [3,6] [_,_] Y (if2 H Y (fun h2 H=>?_) (fun h2 H=>?_)))))
 ·refine sg 5 Y (rm Y (rf Y U35 Y in_9 Y Y (GExpr.len e0) (rp Y (pl U9 Y (GExpr.sub2 e0)) (bindK H fun r'1 h3 H=>rp Y (pc Y Tryz.func23 Y (g_ref_columnAt_ac h3) Y) (ra Y (rz [2,6,8] [_,_,.i r'1] [6] [_] Y (QS (sg 2 Y (rm Y (rp Y (pb Y Y) (rz [2,6,8,25] [_,_,_,.b (decide (r'1 < 0))] [6] [_] Y (if2 H Y (fun h4 H=>?_) (fun h4 H=>?_)))))))))))))
  ·refine sg 3 Y (rp Y (u_bld Y in_32 one_32 zc_32 pl_32 Y Y) (rq Y (u_sw Y Y in_32 (GValue.len GValue.zero) (GValue.len GValue.zero)) (ra Y (rz [6,7] [_,.i 5] [6] [_] Y (QR ?_)))))
   have z:=se H;subst z
   exact ⟨⟨rcw U32 Y in_32 Y (GValue.len GValue.zero),rt,trivial⟩,trivial⟩
  refine as2 [2,6,8] [_,_,_] [6] [_] Y (QK (sg 6 Y (rm Y (rm Y (chkK H fun h5 H=>rp Y (u_ixl Y Y U23 in_32 Y Y (ixe h5) (ixn h5) (fne GValue.len (by decide) (ixn h5))) (rp Y (pL U32 Y in_32 (Sub.fm default GValue.len (ixn h5)) (GValue.len (lrd row2 r'1.toNat))) (rq Y (u_sw Y Y in_32 (GValue.len (lrd row2 r'1.toNat)) (GValue.len GValue.zero)) (ra Y (rz [6,7] [_,.i 0] [6] [.pure (GValue.cs (lrd row2 r'1.toNat))] Y (QR ?_))))))))))
  have z:=se H;subst z
  exact ⟨⟨rcw U32 Y in_32 Y (GValue.len (lrd row2 r'1.toNat)),rt,trivial⟩,trivial⟩
 refine as2 [1,2,3,6] [_,_,_,_] [3,6] [_,_] Y (QK (sg 13 Y (rf Y U35 Y in_33 Y Y (GExpr.len e0) (rp Y (pl U33 Y (GExpr.sub3 e0)) (chkK H fun h6 H=>rp Y (u_ixl Y Y U33 in_35 Y Y Y h6 (fne GExpr.len (by decide) h6)) (rp Y (pL U35 Y in_35 (Sub.fm default GExpr.len h6) (GExpr.len (lrd e0.Args 0))) (rm Y (rm Y (bindK H fun r'2 h7 H=>rp Y (pc Y Tryz.func22 Y (hR h7) Y) (rm Y (rp Y (pe Y) (rp Y (pe Y) (rq Y (al 9 in_32 one_32 zc_32 Y) (rq Y (u_sw Y Y in_32 (GValue.len r'2.1) (GValue.len GValue.zero)) (ra Y (rz [1,2,3,6,9,10] [_,_,_,_,.q 9 (0),.i r'2.2] [3,6,9] [_,_,.pure (GValue.cs r'2.1)] Y (QS (QS (AW2_mid (⟨[(1,.p (GColumn.ls cols1)),(2,.p (GValue.ls row2)),(3,.q 3 (0)),(6,.q 6 (0)),(9,.q 9 (0)),(10,.i r'2.2),(48,.b (decide ((r'2.2≠0)∨((e0.Args.length:Int)=1))))],[(3,.pure (GExpr.cs e0)),(6,.pure (GValue.cs GValue.zero)),(9,.pure (GValue.cs r'2.1))],115⟩:TS) ?_ ?_)))))))))))))))))))
 ·refine ar 8 Y (rm Y (rp Y (pn Y) (rm Y ?_)))
  refine (Classical.em (r'2.2≠0)).elim (fun h8=>?_) (fun h8=>?_)
  ·iterate 4 (refine rO Y (dT h8) Y ?_)
   exact rp Y (p_pkt Y Y (dT h8) (tb (dT (p:=(r'2.2≠0)∨((e0.Args.length:Int)=1)) (Or.inl h8)).symm)) (rend Y Y)
  exact rn Y (dF h8) Y (uf U35 Y in_33 Y (GExpr.len e0)) (rn Y (dF h8) Y (pl U33 Y (GExpr.sub3 e0)) (rn Y (dF h8) Y (p_lenl Y U33 Y Y) (rn Y (dF h8) Y (pi Y) (rp Y (p_pkf Y Y (dF h8) (tb ((or_l (q:=(e0.Args.length:Int)=1) h8)))) (rend Y Y)))))
 refine if2 H Y (fun h9 H=>?_) (fun h9 H=>?_)
 ·refine QS (sg 2 Y (rm Y (rp Y (pn Y) (rz [3,6,9,10,50] [_,_,_,_,.b (decide (r'2.2≠0))] [3,6,9] [_,_,_] Y (if2 H Y (fun h10 H=>?_) (fun h10 H=>?_))))))
  ·refine sg 4 Y (rp Y (u_bld Y in_32 one_32 zc_32 pl_32 Y Y) (rm Y (rq Y (u_sw Y Y in_32 (GValue.len GValue.zero) (GValue.len GValue.zero)) (ra Y (rz [6,7] [_,.i r'2.2] [6] [_] Y (QR ?_))))))
   have z:=se H;subst z
   exact ⟨⟨rcw U32 Y in_32 Y (GValue.len GValue.zero),rt,trivial⟩,trivial⟩
  refine as2 [3,6,9] [_,_,_] [3,6,9] [_,_,_] Y (QK (sg 9 Y (rf Y U35 Y in_3 Y Y (GExpr.len e0) (rp Y (pl U3 Y (GExpr.sub0 e0)) (rp Y (pL U32 Y in_32 (Sub.refl _) (GValue.len r'2.1)) (rp Y (u_bld Y in_32 one_32 zc_32 pl_32 Y Y) (bindK H fun r'3 h11 H=>rp Y (pc Y Tryz.func40 Y (g_ref_did_ac h11) Y) (rp Y (pe Y) (rp Y (pe Y) (rq Y (u_sw Y Y in_32 (GValue.len r'3.1) (GValue.len GValue.zero)) (ra Y (rz [6,7] [_,.i r'3.2] [6] [.pure (GValue.cs r'3.1)] Y (QR ?_)))))))))))))
  have z:=se H;subst z
  exact ⟨⟨rcw U32 Y in_32 Y (GValue.len r'3.1),rt,trivial⟩,trivial⟩
 refine as2 [1,2,3,6,9] [_,_,_,_,_] [3,6,9] [_,_,_] Y (QK (QS (QS (AW2_mid (⟨[(1,.p (GColumn.ls cols1)),(2,.p (GValue.ls row2)),(3,.q 3 (0)),(6,.q 6 (0)),(9,.q 9 (0)),(92,.b (decide (((e0.Op=20)∧(r'2.1.Kind≠0))∨((r'2.1.Kind=1)∧(((e0.Op=15)∧(r'2.1.Int_=0))∨((e0.Op=16)∧(r'2.1.Int_=1)))))))],[(3,.pure (GExpr.cs e0)),(6,.pure (GValue.cs GValue.zero)),(9,.pure (GValue.cs r'2.1))],115⟩:TS) ?_ ?_))))
 ·refine ar 33 Y (rf Y U35 Y in_3 Y Y (GExpr.len e0) (rp Y (pl U3 Y (GExpr.sub0 e0)) (rp Y (pi Y) (rm Y ?_))))
  refine (Classical.em (e0.Op=20)).elim (fun h12=>?_) (fun h12=>?_)
  ·refine rn Y (dT h12) Y (uf U32 Y in_3 Y (GValue.len r'2.1)) (rn Y (dT h12) Y (pl U3 Y (GValue.sub0 r'2.1)) (rn Y (dT h12) Y (pn Y) (rp Y (p_pkt Y Y (dT h12) (tb ((and_l (q:=r'2.1.Kind≠0) h12)))) (rm Y ?_))))
   refine (Classical.em (r'2.1.Kind≠0)).elim (fun h13=>?_) (fun h13=>?_)
   ·have qq1:=dT (p:=(e0.Op=20)∧(r'2.1.Kind≠0)) ⟨h12,h13⟩
    iterate 4 (refine rO Y qq1 Y ?_)
    iterate 18 (refine r_off2 rfl rfl rfl rfl rfl rfl ?_)
    exact rO Y qq1 Y (rp Y (p_pkt Y Y qq1 (tb (dT (p:=((e0.Op=20)∧(r'2.1.Kind≠0))∨((r'2.1.Kind=1)∧(((e0.Op=15)∧(r'2.1.Int_=0))∨((e0.Op=16)∧(r'2.1.Int_=1))))) (Or.inl ⟨h12,h13⟩)).symm)) (rend Y Y))
   have qq2:=dF (p:=(e0.Op=20)∧(r'2.1.Kind≠0)) (fun h=>h13 h.2)
   refine rn Y qq2 Y (uf U32 Y in_3 Y (GValue.len r'2.1)) (rn Y qq2 Y (pl U3 Y (GValue.sub0 r'2.1)) (rn Y qq2 Y (pi Y) (rn Y qq2 Y (p_move Y Y) ?_)))
   refine (Classical.em (r'2.1.Kind=1)).elim (fun h14=>?_) (fun h14=>?_)
   ·refine rn Y (dT h14) Y (uf U35 Y in_3 Y (GExpr.len e0)) (rn Y (dT h14) Y (pl U3 Y (GExpr.sub0 e0)) (rn Y (dT h14) Y (pi Y) (rn Y (dT h14) Y (p_move Y Y) ?_)))
    refine (Classical.em (e0.Op=15)).elim (fun h15=>?_) (fun h15=>?_)
    ·refine rn Y (dT h15) Y (uf U32 Y in_3 Y (GValue.len r'2.1)) (rn Y (dT h15) Y (pl U3 Y (GValue.sub1 r'2.1)) (rn Y (dT h15) Y (pi Y) (rn Y (dT h14) Y (p_pkt Y Y (dT h15) (tb ((and_l (q:=r'2.1.Int_=0) h15)))) (rn Y (dT h14) Y (p_move Y Y) ?_))))
     refine (Classical.em (r'2.1.Int_=0)).elim (fun h16=>?_) (fun h16=>?_)
     ·have qq3:=dT (p:=(e0.Op=15)∧(r'2.1.Int_=0)) ⟨h15,h16⟩
      iterate 4 (refine rO Y qq3 Y ?_)
      iterate 3 (refine r_off2 rfl rfl rfl rfl rfl rfl ?_)
      exact rO Y qq3 Y (rn Y (dT h14) Y (p_pkt Y Y qq3 (tb (dT (p:=((e0.Op=15)∧(r'2.1.Int_=0))∨((e0.Op=16)∧(r'2.1.Int_=1))) (Or.inl ⟨h15,h16⟩)).symm)) (rn Y qq2 Y (p_pkt Y Y (dT h14) (tb ((and_l (q:=((e0.Op=15)∧(r'2.1.Int_=0))∨((e0.Op=16)∧(r'2.1.Int_=1))) h14)))) (rp Y (p_pkf Y Y qq2 (tb ((or_l (p:=(e0.Op=20)∧(r'2.1.Kind≠0)) (q:=(r'2.1.Kind=1)∧(((e0.Op=15)∧(r'2.1.Int_=0))∨((e0.Op=16)∧(r'2.1.Int_=1)))) (fun h=>h13 h.2))))) (rend Y Y))))
     have qq4:=dF (p:=(e0.Op=15)∧(r'2.1.Int_=0)) (fun h=>h16 h.2)
     refine rn Y qq4 Y (uf U35 Y in_3 Y (GExpr.len e0)) (rn Y qq4 Y (pl U3 Y (GExpr.sub0 e0)) (rn Y qq4 Y (pi Y) (rn Y qq4 Y (p_move Y Y) ?_)))
     refine (Classical.em (e0.Op=16)).elim (fun h17=>?_) (fun h17=>?_)
     ·exact rn Y (dT h17) Y (uf U32 Y in_3 Y (GValue.len r'2.1)) (rn Y (dT h17) Y (pl U3 Y (GValue.sub1 r'2.1)) (rn Y (dT h17) Y (pi Y) (rn Y qq4 Y (p_pkt Y Y (dT h17) (tb ((and_l (q:=r'2.1.Int_=1) h17)))) (rn Y (dT h14) Y (p_pkf Y Y qq4 (tb ((or_l (p:=(e0.Op=15)∧(r'2.1.Int_=0)) (q:=(e0.Op=16)∧(r'2.1.Int_=1)) (fun h=>h16 h.2))))) (rn Y qq2 Y (p_pkt Y Y (dT h14) (tb ((and_l (q:=((e0.Op=15)∧(r'2.1.Int_=0))∨((e0.Op=16)∧(r'2.1.Int_=1))) h14)))) (rp Y (p_pkf Y Y qq2 (tb ((or_l (p:=(e0.Op=20)∧(r'2.1.Kind≠0)) (q:=(r'2.1.Kind=1)∧(((e0.Op=15)∧(r'2.1.Int_=0))∨((e0.Op=16)∧(r'2.1.Int_=1)))) (fun h=>h13 h.2))))) (rend Y Y)))))))
     iterate 3 (refine rO Y (dF h17) Y ?_)
     exact rn Y qq4 Y (p_pkf Y Y (dF h17) (tb (dF (p:=(e0.Op=16)∧(r'2.1.Int_=1)) (fun x=>h17 x.1)).symm)) (rn Y (dT h14) Y (p_pkf Y Y qq4 (tb ((or_l (p:=(e0.Op=15)∧(r'2.1.Int_=0)) (q:=(e0.Op=16)∧(r'2.1.Int_=1)) (fun h=>h16 h.2))))) (rn Y qq2 Y (p_pkt Y Y (dT h14) (tb ((and_l (q:=((e0.Op=15)∧(r'2.1.Int_=0))∨((e0.Op=16)∧(r'2.1.Int_=1))) h14)))) (rp Y (p_pkf Y Y qq2 (tb ((or_l (p:=(e0.Op=20)∧(r'2.1.Kind≠0)) (q:=(r'2.1.Kind=1)∧(((e0.Op=15)∧(r'2.1.Int_=0))∨((e0.Op=16)∧(r'2.1.Int_=1)))) (fun h=>h13 h.2))))) (rend Y Y))))
    iterate 3 (refine rO Y (dF h15) Y ?_)
    refine rn Y (dT h14) Y (p_pkf Y Y (dF h15) (tb (dF (p:=(e0.Op=15)∧(r'2.1.Int_=0)) (fun x=>h15 x.1)).symm)) (rn Y (dT h14) Y (p_move Y Y) ?_)
    have qq5:=dF (p:=(e0.Op=15)∧(r'2.1.Int_=0)) (fun h=>h15 h.1)
    refine rn Y qq5 Y (uf U35 Y in_3 Y (GExpr.len e0)) (rn Y qq5 Y (pl U3 Y (GExpr.sub0 e0)) (rn Y qq5 Y (pi Y) (rn Y qq5 Y (p_move Y Y) ?_)))
    refine (Classical.em (e0.Op=16)).elim (fun h18=>?_) (fun h18=>?_)
    ·exact rn Y (dT h18) Y (uf U32 Y in_3 Y (GValue.len r'2.1)) (rn Y (dT h18) Y (pl U3 Y (GValue.sub1 r'2.1)) (rn Y (dT h18) Y (pi Y) (rn Y qq5 Y (p_pkt Y Y (dT h18) (tb ((and_l (q:=r'2.1.Int_=1) h18)))) (rn Y (dT h14) Y (p_pkf Y Y qq5 (tb ((or_l (p:=(e0.Op=15)∧(r'2.1.Int_=0)) (q:=(e0.Op=16)∧(r'2.1.Int_=1)) (fun h=>h15 h.1))))) (rn Y qq2 Y (p_pkt Y Y (dT h14) (tb ((and_l (q:=((e0.Op=15)∧(r'2.1.Int_=0))∨((e0.Op=16)∧(r'2.1.Int_=1))) h14)))) (rp Y (p_pkf Y Y qq2 (tb ((or_l (p:=(e0.Op=20)∧(r'2.1.Kind≠0)) (q:=(r'2.1.Kind=1)∧(((e0.Op=15)∧(r'2.1.Int_=0))∨((e0.Op=16)∧(r'2.1.Int_=1)))) (fun h=>h13 h.2))))) (rend Y Y)))))))
    iterate 3 (refine rO Y (dF h18) Y ?_)
    exact rn Y qq5 Y (p_pkf Y Y (dF h18) (tb (dF (p:=(e0.Op=16)∧(r'2.1.Int_=1)) (fun x=>h18 x.1)).symm)) (rn Y (dT h14) Y (p_pkf Y Y qq5 (tb ((or_l (p:=(e0.Op=15)∧(r'2.1.Int_=0)) (q:=(e0.Op=16)∧(r'2.1.Int_=1)) (fun h=>h15 h.1))))) (rn Y qq2 Y (p_pkt Y Y (dT h14) (tb ((and_l (q:=((e0.Op=15)∧(r'2.1.Int_=0))∨((e0.Op=16)∧(r'2.1.Int_=1))) h14)))) (rp Y (p_pkf Y Y qq2 (tb ((or_l (p:=(e0.Op=20)∧(r'2.1.Kind≠0)) (q:=(r'2.1.Kind=1)∧(((e0.Op=15)∧(r'2.1.Int_=0))∨((e0.Op=16)∧(r'2.1.Int_=1)))) (fun h=>h13 h.2))))) (rend Y Y))))
   iterate 4 (refine rO Y (dF h14) Y ?_)
   iterate 3 (refine r_off2 rfl rfl rfl rfl rfl rfl ?_)
   iterate 2 (refine rO Y (dF h14) Y ?_)
   iterate 8 (refine r_off2 rfl rfl rfl rfl rfl rfl ?_)
   exact rO Y (dF h14) Y (rn Y qq2 Y (p_pkf Y Y (dF h14) (tb (dF (p:=(r'2.1.Kind=1)∧(((e0.Op=15)∧(r'2.1.Int_=0))∨((e0.Op=16)∧(r'2.1.Int_=1)))) (fun x=>h14 x.1)).symm)) (rp Y (p_pkf Y Y qq2 (tb ((or_l (p:=(e0.Op=20)∧(r'2.1.Kind≠0)) (q:=(r'2.1.Kind=1)∧(((e0.Op=15)∧(r'2.1.Int_=0))∨((e0.Op=16)∧(r'2.1.Int_=1)))) (fun h=>h13 h.2))))) (rend Y Y)))
  iterate 3 (refine rO Y (dF h12) Y ?_)
  refine rp Y (p_pkf Y Y (dF h12) (tb (dF (p:=(e0.Op=20)∧(r'2.1.Kind≠0)) (fun x=>h12 x.1)).symm)) (rm Y ?_)
  have qq6:=dF (p:=(e0.Op=20)∧(r'2.1.Kind≠0)) (fun h=>h12 h.1)
  refine rn Y qq6 Y (uf U32 Y in_3 Y (GValue.len r'2.1)) (rn Y qq6 Y (pl U3 Y (GValue.sub0 r'2.1)) (rn Y qq6 Y (pi Y) (rn Y qq6 Y (p_move Y Y) ?_)))
  refine (Classical.em (r'2.1.Kind=1)).elim (fun h19=>?_) (fun h19=>?_)
  ·refine rn Y (dT h19) Y (uf U35 Y in_3 Y (GExpr.len e0)) (rn Y (dT h19) Y (pl U3 Y (GExpr.sub0 e0)) (rn Y (dT h19) Y (pi Y) (rn Y (dT h19) Y (p_move Y Y) ?_)))
   refine (Classical.em (e0.Op=15)).elim (fun h20=>?_) (fun h20=>?_)
   ·refine rn Y (dT h20) Y (uf U32 Y in_3 Y (GValue.len r'2.1)) (rn Y (dT h20) Y (pl U3 Y (GValue.sub1 r'2.1)) (rn Y (dT h20) Y (pi Y) (rn Y (dT h19) Y (p_pkt Y Y (dT h20) (tb ((and_l (q:=r'2.1.Int_=0) h20)))) (rn Y (dT h19) Y (p_move Y Y) ?_))))
    refine (Classical.em (r'2.1.Int_=0)).elim (fun h21=>?_) (fun h21=>?_)
    ·have qq7:=dT (p:=(e0.Op=15)∧(r'2.1.Int_=0)) ⟨h20,h21⟩
     iterate 4 (refine rO Y qq7 Y ?_)
     iterate 3 (refine r_off2 rfl rfl rfl rfl rfl rfl ?_)
     exact rO Y qq7 Y (rn Y (dT h19) Y (p_pkt Y Y qq7 (tb (dT (p:=((e0.Op=15)∧(r'2.1.Int_=0))∨((e0.Op=16)∧(r'2.1.Int_=1))) (Or.inl ⟨h20,h21⟩)).symm)) (rn Y qq6 Y (p_pkt Y Y (dT h19) (tb ((and_l (q:=((e0.Op=15)∧(r'2.1.Int_=0))∨((e0.Op=16)∧(r'2.1.Int_=1))) h19)))) (rp Y (p_pkf Y Y qq6 (tb ((or_l (p:=(e0.Op=20)∧(r'2.1.Kind≠0)) (q:=(r'2.1.Kind=1)∧(((e0.Op=15)∧(r'2.1.Int_=0))∨((e0.Op=16)∧(r'2.1.Int_=1)))) (fun h=>h12 h.1))))) (rend Y Y))))
    have qq8:=dF (p:=(e0.Op=15)∧(r'2.1.Int_=0)) (fun h=>h21 h.2)
    refine rn Y qq8 Y (uf U35 Y in_3 Y (GExpr.len e0)) (rn Y qq8 Y (pl U3 Y (GExpr.sub0 e0)) (rn Y qq8 Y (pi Y) (rn Y qq8 Y (p_move Y Y) ?_)))
    refine (Classical.em (e0.Op=16)).elim (fun h22=>?_) (fun h22=>?_)
    ·exact rn Y (dT h22) Y (uf U32 Y in_3 Y (GValue.len r'2.1)) (rn Y (dT h22) Y (pl U3 Y (GValue.sub1 r'2.1)) (rn Y (dT h22) Y (pi Y) (rn Y qq8 Y (p_pkt Y Y (dT h22) (tb ((and_l (q:=r'2.1.Int_=1) h22)))) (rn Y (dT h19) Y (p_pkf Y Y qq8 (tb ((or_l (p:=(e0.Op=15)∧(r'2.1.Int_=0)) (q:=(e0.Op=16)∧(r'2.1.Int_=1)) (fun h=>h21 h.2))))) (rn Y qq6 Y (p_pkt Y Y (dT h19) (tb ((and_l (q:=((e0.Op=15)∧(r'2.1.Int_=0))∨((e0.Op=16)∧(r'2.1.Int_=1))) h19)))) (rp Y (p_pkf Y Y qq6 (tb ((or_l (p:=(e0.Op=20)∧(r'2.1.Kind≠0)) (q:=(r'2.1.Kind=1)∧(((e0.Op=15)∧(r'2.1.Int_=0))∨((e0.Op=16)∧(r'2.1.Int_=1)))) (fun h=>h12 h.1))))) (rend Y Y)))))))
    iterate 3 (refine rO Y (dF h22) Y ?_)
    exact rn Y qq8 Y (p_pkf Y Y (dF h22) (tb (dF (p:=(e0.Op=16)∧(r'2.1.Int_=1)) (fun x=>h22 x.1)).symm)) (rn Y (dT h19) Y (p_pkf Y Y qq8 (tb ((or_l (p:=(e0.Op=15)∧(r'2.1.Int_=0)) (q:=(e0.Op=16)∧(r'2.1.Int_=1)) (fun h=>h21 h.2))))) (rn Y qq6 Y (p_pkt Y Y (dT h19) (tb ((and_l (q:=((e0.Op=15)∧(r'2.1.Int_=0))∨((e0.Op=16)∧(r'2.1.Int_=1))) h19)))) (rp Y (p_pkf Y Y qq6 (tb ((or_l (p:=(e0.Op=20)∧(r'2.1.Kind≠0)) (q:=(r'2.1.Kind=1)∧(((e0.Op=15)∧(r'2.1.Int_=0))∨((e0.Op=16)∧(r'2.1.Int_=1)))) (fun h=>h12 h.1))))) (rend Y Y))))
   iterate 3 (refine rO Y (dF h20) Y ?_)
   refine rn Y (dT h19) Y (p_pkf Y Y (dF h20) (tb (dF (p:=(e0.Op=15)∧(r'2.1.Int_=0)) (fun x=>h20 x.1)).symm)) (rn Y (dT h19) Y (p_move Y Y) ?_)
   have qq9:=dF (p:=(e0.Op=15)∧(r'2.1.Int_=0)) (fun h=>h20 h.1)
   refine rn Y qq9 Y (uf U35 Y in_3 Y (GExpr.len e0)) (rn Y qq9 Y (pl U3 Y (GExpr.sub0 e0)) (rn Y qq9 Y (pi Y) (rn Y qq9 Y (p_move Y Y) ?_)))
   refine (Classical.em (e0.Op=16)).elim (fun h23=>?_) (fun h23=>?_)
   ·exact rn Y (dT h23) Y (uf U32 Y in_3 Y (GValue.len r'2.1)) (rn Y (dT h23) Y (pl U3 Y (GValue.sub1 r'2.1)) (rn Y (dT h23) Y (pi Y) (rn Y qq9 Y (p_pkt Y Y (dT h23) (tb ((and_l (q:=r'2.1.Int_=1) h23)))) (rn Y (dT h19) Y (p_pkf Y Y qq9 (tb ((or_l (p:=(e0.Op=15)∧(r'2.1.Int_=0)) (q:=(e0.Op=16)∧(r'2.1.Int_=1)) (fun h=>h20 h.1))))) (rn Y qq6 Y (p_pkt Y Y (dT h19) (tb ((and_l (q:=((e0.Op=15)∧(r'2.1.Int_=0))∨((e0.Op=16)∧(r'2.1.Int_=1))) h19)))) (rp Y (p_pkf Y Y qq6 (tb ((or_l (p:=(e0.Op=20)∧(r'2.1.Kind≠0)) (q:=(r'2.1.Kind=1)∧(((e0.Op=15)∧(r'2.1.Int_=0))∨((e0.Op=16)∧(r'2.1.Int_=1)))) (fun h=>h12 h.1))))) (rend Y Y)))))))
   iterate 3 (refine rO Y (dF h23) Y ?_)
   exact rn Y qq9 Y (p_pkf Y Y (dF h23) (tb (dF (p:=(e0.Op=16)∧(r'2.1.Int_=1)) (fun x=>h23 x.1)).symm)) (rn Y (dT h19) Y (p_pkf Y Y qq9 (tb ((or_l (p:=(e0.Op=15)∧(r'2.1.Int_=0)) (q:=(e0.Op=16)∧(r'2.1.Int_=1)) (fun h=>h20 h.1))))) (rn Y qq6 Y (p_pkt Y Y (dT h19) (tb ((and_l (q:=((e0.Op=15)∧(r'2.1.Int_=0))∨((e0.Op=16)∧(r'2.1.Int_=1))) h19)))) (rp Y (p_pkf Y Y qq6 (tb ((or_l (p:=(e0.Op=20)∧(r'2.1.Kind≠0)) (q:=(r'2.1.Kind=1)∧(((e0.Op=15)∧(r'2.1.Int_=0))∨((e0.Op=16)∧(r'2.1.Int_=1)))) (fun h=>h12 h.1))))) (rend Y Y))))
  iterate 4 (refine rO Y (dF h19) Y ?_)
  iterate 3 (refine r_off2 rfl rfl rfl rfl rfl rfl ?_)
  iterate 2 (refine rO Y (dF h19) Y ?_)
  iterate 8 (refine r_off2 rfl rfl rfl rfl rfl rfl ?_)
  exact rO Y (dF h19) Y (rn Y qq6 Y (p_pkf Y Y (dF h19) (tb (dF (p:=(r'2.1.Kind=1)∧(((e0.Op=15)∧(r'2.1.Int_=0))∨((e0.Op=16)∧(r'2.1.Int_=1)))) (fun x=>h19 x.1)).symm)) (rp Y (p_pkf Y Y qq6 (tb ((or_l (p:=(e0.Op=20)∧(r'2.1.Kind≠0)) (q:=(r'2.1.Kind=1)∧(((e0.Op=15)∧(r'2.1.Int_=0))∨((e0.Op=16)∧(r'2.1.Int_=1)))) (fun h=>h12 h.1))))) (rend Y Y)))
 refine gen1 (fun t92'4=>(⟨[(1,.p (GColumn.ls cols1)),(2,.p (GValue.ls row2)),(3,.q 3 (0)),(6,.q 6 (0)),(9,.q 9 (0)),(92,.b t92'4)],[(3,.pure (GExpr.cs e0)),(6,.pure (GValue.cs GValue.zero)),(9,.pure (GValue.cs r'2.1))],115⟩:TS)) H ?_
 intro t92'4 H
 refine AW2_cond Y (fun h24=>?_) (fun h24=>?_)
 ·replace H:=ite_then h24 H
  refine sg 3 Y (rp Y (pL U32 Y in_32 (Sub.refl _) (GValue.len r'2.1)) (rq Y (u_sw Y Y in_32 (GValue.len r'2.1) (GValue.len GValue.zero)) (ra Y (rz [6,7] [.q 6 (0),.i 0] [6] [.pure (GValue.cs r'2.1)] Y (QR ?_)))))
  have z:=se H;subst z
  exact ⟨⟨rcw U32 Y in_32 Y (GValue.len r'2.1),rt,trivial⟩,trivial⟩
 replace H:=ite_else (ne_true h24) H
 refine as2 [1,2,3,6,9] [.p (GColumn.ls cols1),.p (GValue.ls row2),.q 3 (0),.q 6 (0),.q 9 (0)] [3,6,9] [.pure (GExpr.cs e0),.pure (GValue.cs GValue.zero),.pure (GValue.cs r'2.1)] Y (QK (sg 13 Y (rf Y U35 Y in_33 Y Y (GExpr.len e0) (rp Y (pl U33 Y (GExpr.sub3 e0)) (chkK H fun h25 H=>rp Y (u_ixl Y Y U33 in_35 Y Y Y h25 (fne GExpr.len (by decide) h25)) (rp Y (pL U35 Y in_35 (Sub.fm default GExpr.len h25) (GExpr.len (lrd e0.Args 1))) (rm Y (rm Y (bindK H fun r'5 h26 H=>rp Y (pc Y Tryz.func22 Y (hR h26) Y) (rm Y (rp Y (pe Y) (rp Y (pe Y) (rq Y (al 11 in_32 one_32 zc_32 Y) (rq Y (u_sw Y Y in_32 (GValue.len r'5.1) (GValue.len GValue.zero)) (ra Y (rz [3,6,9,10,11] [_,_,_,.i r'5.2,.q 11 (0)] [3,6,9,11] [_,_,_,.pure (GValue.cs r'5.1)] Y (QS (sg 2 Y (rm Y (rp Y (pn Y) (rz [3,6,9,10,11,105] [_,_,_,_,_,.b (decide (r'5.2≠0))] [3,6,9,11] [_,_,_,_] Y ?_)))))))))))))))))))))
 refine if2 H Y (fun h27 H=>?_) (fun h27 H=>?_)
 ·refine sg 4 Y (rp Y (u_bld Y in_32 one_32 zc_32 pl_32 Y Y) (rm Y (rq Y (u_sw Y Y in_32 (GValue.len GValue.zero) (GValue.len GValue.zero)) (ra Y (rz [6,7] [_,.i r'5.2] [6] [_] Y (QR ?_))))))
  have z:=se H;subst z
  exact ⟨⟨rcw U32 Y in_32 Y (GValue.len GValue.zero),rt,trivial⟩,trivial⟩
 refine as2 [3,6,9,11] [_,_,_,_] [3,6,9,11] [_,_,_,_] Y (QK (sg 9 Y (rf Y U35 Y in_3 Y Y (GExpr.len e0) (rp Y (pl U3 Y (GExpr.sub0 e0)) (rp Y (pL U32 Y in_32 (Sub.refl _) (GValue.len r'2.1)) (rp Y (pL U32 Y in_32 (Sub.refl _) (GValue.len r'5.1)) (bindK H fun r'6 h28 H=>rp Y (pc Y Tryz.func40 Y (g_ref_did_ac h28) Y) (rp Y (pe Y) (rp Y (pe Y) (rq Y (u_sw Y Y in_32 (GValue.len r'6.1) (GValue.len GValue.zero)) (ra Y (rz [6,7] [_,.i r'6.2] [6] [.pure (GValue.cs r'6.1)] Y (QR ?_)))))))))))))
 have z:=se H;subst z
 exact ⟨⟨rcw U32 Y in_32 Y (GValue.len r'6.1),rt,trivial⟩,trivial⟩
theorem g_ref_valued_acN:∀ (fu:Nat) {e0:GExpr} {cols1:List GColumn} {row2:List GValue} {r:GValue×Int},g_ref_valued fu e0 cols1 row2=some r→ACp Tryz.prog 22 [(.agg (GExpr.cs e0)),(GColumn.ls cols1),(GValue.ls row2)] (.tup [(.agg (GValue.cs r.1)),(AV.int r.2)])
 | 0,_,_,_,_,H=>(by cases H)
 | fu+1,_,_,_,_,H=>g_ref_valued_ac0 (g_ref_valued_acN fu) H
theorem g_ref_valued_ac {e0:GExpr} {cols1:List GColumn} {row2:List GValue} {r:GValue×Int} (H:g_ref_valued 100000 e0 cols1 row2=some r):ACp Tryz.prog 22 [(.agg (GExpr.cs e0)),(GColumn.ls cols1),(GValue.ls row2)] (.tup [(.agg (GValue.cs r.1)),(AV.int r.2)]):=g_ref_valued_acN 100000 H
def g_ref_True_r12:List (List (Nat×Option Nat)):=[[(10,none)],[]]
def g_ref_True_r12c:List (List Nat):=[[],[],[0,1],[0,1,2],[0,1,2,3]]
noncomputable def g_ref_True (e0:GExpr) (cols1:List GColumn) (r2:List GValue):Option (Bool×Int) :=
  (g_ref_ConditionFault e0 cols1).bind fun r'1=>(if r'1≠(0:Int) then some (false,r'1) else (g_ref_RowFault r2 cols1).bind fun r'2=>(if r'2≠(0:Int) then some (false,r'2) else (g_ref_noExpr e0).bind fun r'3=>(if r'3=true then some (true,(0:Int)) else (g_ref_valued 100000 e0 cols1 r2).bind fun r'4=>(if r'4.2≠(0:Int) then some (false,r'4.2) else (g_ref_boolOf (2:Int)).bind fun r'5=>some ((decide (r'4.1=r'5)),(0:Int))))))
theorem g_ref_True_ac {e0:GExpr} {cols1:List GColumn} {r2:List GValue} {r:Bool×Int} (H:g_ref_True e0 cols1 r2=some r):ACp Tryz.prog 15 [(.agg (GExpr.cs e0)),(GColumn.ls cols1),(GValue.ls r2)] (.tup [(AV.bool r.1),(AV.int r.2)]):=by
 refine ACp_of (AC2_of_body (vs:=[.b r.1,.i r.2]) Tryz.func15 Y Y (lb Y) Y ?_) (fun _=>.same _)
 unfold g_ref_True at H
 refine as2 [0,1,2] [.g (GExpr.cs e0),.p (GColumn.ls cols1),.p (GValue.ls r2)] [] [] Y (sg 3 Y (rq Y (bx 3 Y) (ra Y (ra Y (rz [1,2,3] [_,_,.q 3 (0)] [3] [.pure (GExpr.cs e0)] Y (QS (sg 4 Y (rp Y (pL U35 Y in_35 (Sub.refl _) (GExpr.len e0)) (rm Y (bindK H fun r'1 h1 H=>rp Y (pc Y Tryz.func14 Y (g_ref_ConditionFault_ac h1) Y) (ra Y (rz [1,2,3,8] [_,_,_,.i r'1] [3] [_] Y (sg 2 Y (rm Y (rp Y (pn Y) (rz [1,2,3,8,16] [_,_,_,_,.b (decide (r'1≠0))] [3] [_] Y (if2 H Y (fun h2 H=>?_) (fun h2 H=>?_))))))))))))))))))
 ·refine sg 3 Y (rm Y (ra Y (ra Y (rz [6,7] [.b false,.i r'1] [] [] Y (QR ?_)))))
  have z:=se H;subst z
  exact ⟨⟨rt,rt,trivial⟩,trivial⟩
 refine as2 [1,2,3] [_,_,_] [3] [_] Y (QK (QS (sg 4 Y (rm Y (rm Y (bindK H fun r'2 h3 H=>rp Y (pc Y Tryz.func36 Y (g_ref_RowFault_ac h3) Y) (ra Y (rz [1,2,3,9] [_,_,_,.i r'2] [3] [_] Y (sg 2 Y (rm Y (rp Y (pn Y) (rz [1,2,3,9,22] [_,_,_,_,.b (decide (r'2≠0))] [3] [_] Y (if2 H Y (fun h4 H=>?_) (fun h4 H=>?_))))))))))))))
 ·refine sg 3 Y (rm Y (ra Y (ra Y (rz [6,7] [.b false,.i r'2] [] [] Y (QR ?_)))))
  have z:=se H;subst z
  exact ⟨⟨rt,rt,trivial⟩,trivial⟩
 refine as2 [1,2,3] [_,_,_] [3] [_] Y (QK (QS (sg 2 Y (rp Y (pL U35 Y in_35 (Sub.refl _) (GExpr.len e0)) (bindK H fun r'3 h5 H=>rp Y (pc Y Tryz.func33 Y (g_ref_noExpr_ac h5) Y) (rz [1,2,3,25] [_,_,_,.b r'3] [3] [_] Y (AW2_cond Y (fun h6=>?_) (fun h6=>?_))))))))
 ·replace H:=ite_then h6 H
  refine sg 2 Y (ra Y (ra Y (rz [6,7] [.b true,.i 0] [] [] Y (QR ?_))))
  have z:=se H;subst z
  exact ⟨⟨rt,rt,trivial⟩,trivial⟩
 replace H:=ite_else (ne_true h6) H
 refine as2 [1,2,3] [.p (GColumn.ls cols1),.p (GValue.ls r2),.q 3 (0)] [3] [.pure (GExpr.cs e0)] Y (QK (sg 10 Y (rp Y (pL U35 Y in_35 (Sub.refl _) (GExpr.len e0)) (rm Y (rm Y (bindK H fun r'4 h7 H=>rp Y (pc Y Tryz.func22 Y (g_ref_valued_ac h7) Y) (rm Y (rp Y (pe Y) (rp Y (pe Y) (rq Y (al 10 in_32 one_32 zc_32 Y) (rq Y (u_sw Y Y in_32 (GValue.len r'4.1) (GValue.len GValue.zero)) (ra Y (rz [10,11] [.q 10 (0),.i r'4.2] [10] [.pure (GValue.cs r'4.1)] Y (QS (sg 2 Y (rm Y (rp Y (pn Y) (rz [10,11,34] [_,_,.b (decide (r'4.2≠0))] [10] [_] Y (if2 H Y (fun h8 H=>?_) (fun h8 H=>?_))))))))))))))))))))
 ·refine sg 3 Y (rm Y (ra Y (ra Y (rz [6,7] [.b false,.i r'4.2] [] [] Y (QR ?_)))))
  have z:=se H;subst z
  exact ⟨⟨rt,rt,trivial⟩,trivial⟩
 refine as2 [10] [_] [10] [_] Y (QK (QS (bindK H fun r'5 h9 H=>AW2_ghoQ (AW2_draw 2 [2,3,4] (fun k=>([.g (GValue.cs r'4.1),.g (GValue.cs r'5)]:List TV).getD k TV.any) (fun k=>g_ref_True_r12.getD k []) [(36,some 0),(37,some 1)] [] (fun k=>g_ref_True_r12c.getD k []) mixed (by kernel_rfl) Y Y (a_op (g_x Y (x_p Y (pL U32 Y in_32 (Sub.refl _) (GValue.len r'4.1)) Y)) (a_op (g_x Y (x_p Y (pc Y Tryz.func37 Y (g_ref_boolOf_ac h9) Y) Y)) (a_nil))) (t_op Y Y (PureD.opD (p_eqa (a:=r'4.1) (b:=r'5) Y eq_32 Y (by kernel_rfl) Y Y)) (t_op Y Y (PureD.opD (p_asg Y Y)) (t_op Y Y (PureD.opD (p_asg Y Y)) (t_gho (Gho_st (L:=[(6,.b (decide (r'4.1=r'5))),(7,.i 0)]) (H:=[]) (N:=39) Y ⟨TLes.same _,TLes.same _,trivial⟩ trivial) (QR ?_)))))))))
 have z:=se H;subst z
 exact ⟨⟨rt,rt,trivial⟩,trivial⟩
noncomputable def g_ref_Updated_l1 (drawer1:Int) (l3:List GSet) (i13_0:Int) (t4_0:GTable):Int×Int×(List GValue)→Option ((Int×Int×(List GValue))⊕((Int×(List GValue))))
  | (e11_1,t75_1,next17_1)=>(if t75_1 < (l3.length:Int) then if 0≤t75_1∧t75_1 < (l3.length:Int) then (g_ref_valued 100000 ((lrd l3 t75_1.toNat).Expr) t4_0.Cols ((vrd (vrd t4_0.Drawers drawer1.toNat) i13_0.toNat).Row)).bind fun r'9=>(g_ref_columnAt t4_0.Cols ((lrd l3 t75_1.toNat).Col)).bind fun r'10=>(((if e11_1=(0:Int) then (if r'9.2=(0:Int) then (if r'9.1.Kind=(0:Int) then if 0≤r'10∧r'10 < (t4_0.Cols.length:Int) then some (!((lrd t4_0.Cols r'10.toNat).Null)) else none else some false) else some false) else some false)).bind fun g'12=>(if g'12=true then some (12:Int) else some r'9.2)).bind fun j'11=>((if e11_1=(0:Int) then some j'11 else some e11_1)).bind fun j'13=>if 0≤r'10∧r'10 < (next17_1.length:Int) then some (.inl (j'13,w64 (t75_1+(1:Int)),(next17_1.set r'10.toNat r'9.1))) else none else none else some (.inr (e11_1,next17_1)))
noncomputable def g_ref_Updated_l0 (drawer1:Int) (where2:GExpr) (l3:List GSet):Int×Int×Int×GTable→Option ((Int×Int×Int×GTable)⊕((Int×Int×GTable)))
  | (e11_0,n12_0,i13_0,t4_0)=>(if (i13_0 < (4:Int))∧(e11_0=(0:Int)) then (if 0≤drawer1∧drawer1 < (2:Int) then if 0≤i13_0∧i13_0 < (4:Int) then (if (!((vrd (vrd t4_0.Drawers drawer1.toNat) i13_0.toNat).Full))=true then some (e11_0,n12_0,t4_0) else (g_ref_True where2 t4_0.Cols ((vrd (vrd t4_0.Drawers drawer1.toNat) i13_0.toNat).Row)).bind fun r'7=>(if (!r'7.1)=true then some (r'7.2,n12_0,t4_0) else if room (([]:List GValue).length+((vrd (vrd t4_0.Drawers drawer1.toNat) i13_0.toNat).Row).length) 40 then letO (([]:List GValue)++((vrd (vrd t4_0.Drawers drawer1.toNat) i13_0.toNat).Row)) fun next17'8=>(loopO (g_ref_Updated_l1 drawer1 l3 i13_0 t4_0) (r'7.2,(0:Int),next17'8)).bind fun y'17=>if 0≤drawer1∧drawer1 < (2:Int) then if 0≤i13_0∧i13_0 < (4:Int) then letO ({ t4_0 with Drawers:=(vwr t4_0.Drawers drawer1.toNat (vwr (vrd t4_0.Drawers drawer1.toNat) i13_0.toNat ({ (vrd (vrd t4_0.Drawers drawer1.toNat) i13_0.toNat) with Row:=y'17.2 }))) }) fun t4'18=>some (y'17.1,w64 (n12_0+(1:Int)),t4'18) else none else none else none)) else none else none).bind fun j'6=>some (.inl (j'6.1,j'6.2.1,w64 (i13_0+(1:Int)),j'6.2.2)) else some (.inr (e11_0,n12_0,t4_0)))
noncomputable def g_ref_Updated (t0:GTable) (drawer1:Int) (where2:GExpr) (l3:List GSet):Option (GTable×Int×Int) :=
  (g_ref_ready t0 drawer1).bind fun r'1=>((if r'1=(0:Int) then (g_ref_ConditionFault where2 t0.Cols).bind fun r'3=>some r'3 else some r'1)).bind fun j'2=>((if j'2=(0:Int) then (g_ref_setsFault l3 t0.Cols).bind fun r'5=>some r'5 else some j'2)).bind fun j'4=>(loopO (g_ref_Updated_l0 drawer1 where2 l3) (j'4,(0:Int),(0:Int),t0)).bind fun y'22=>((if y'22.1=(0:Int) then if 0≤drawer1∧drawer1 < (2:Int) then (g_ref_keysFault (vrd y'22.2.2.Drawers drawer1.toNat)).bind fun r'24=>some r'24 else none else some y'22.1)).bind fun j'23=>(if j'23≠(0:Int) then some (GTable.zero,(0:Int),j'23) else some (y'22.2.2,y'22.2.1,(0:Int)))
theorem g_ref_Updated_ac {t0:GTable} {drawer1:Int} {where2:GExpr} {l3:List GSet} {r:GTable×Int×Int} (H:g_ref_Updated t0 drawer1 where2 l3=some r):ACp Tryz.prog 9 [(.agg (GTable.cs t0)),(AV.int drawer1),(.agg (GExpr.cs where2)),(GSet.ls l3)] (.tup [(.agg (GTable.cs r.1)),(AV.int r.2.1),(AV.int r.2.2)]):=by
 refine ACp_of (AC2_of_body (vs:=[.g (GTable.cs r.1),.i r.2.1,.i r.2.2]) Tryz.func9 Y Y (lb Y) Y ?_) (fun _=>.same _)
 unfold g_ref_Updated at H
 refine as2 [0,1,2,3] [.g (GTable.cs t0),.i drawer1,.g (GExpr.cs where2),.p (GSet.ls l3)] [] [] Y (sg 5 Y (rq Y (bx 4 Y) (rq Y (bx 6 Y) (rq Y (al 8 in_29 one_29 zc_29 Y) (ra Y (ra Y (rz [1,3,4,6,8] [_,_,.q 4 (0),.q 6 (0),.q 8 (0)] [4,6,8] [.pure (GTable.cs t0),.pure (GExpr.cs where2),.pure (GTable.cs GTable.zero)] Y (sg 4 Y (rp Y (pL U29 Y in_29 (Sub.refl _) (GTable.len t0)) (rm Y (bindK H fun r'1 h1 H=>rp Y (pc Y Tryz.func13 Y (g_ref_ready_ac h1) Y) (ra Y (rz [1,3,4,6,8,11] [_,_,_,_,_,.i r'1] [4,6,8] [_,_,_] Y (QS (bindK H fun j'2 h2 H=>AW2_mid (⟨[(1,.i drawer1),(3,.p (GSet.ls l3)),(4,.q 4 (0)),(6,.q 6 (0)),(8,.q 8 (0)),(11,.i j'2)],[(4,.pure (GTable.cs t0)),(6,.pure (GExpr.cs where2)),(8,.pure (GTable.cs GTable.zero))],142⟩:TS) ?_ ?_)))))))))))))))
 ·clear H
  have H:=h2
  clear h2
  refine sg 2 Y (rm Y (rp Y (pi Y) (rz [1,3,4,6,8,11,27] [.i drawer1,.p (GSet.ls l3),.q 4 (0),.q 6 (0),.q 8 (0),.i r'1,.b (decide (r'1=0))] [4,6,8] [.pure (GTable.cs t0),.pure (GExpr.cs where2),.pure (GTable.cs GTable.zero)] Y (if2 H Y (fun h3 H=>?_) (fun h3 H=>?_)))))
  ·refine ar 5 Y (rp Y (pL U35 Y in_35 (Sub.refl _) (GExpr.len where2)) (rf Y U29 Y in_22 Y Y (GTable.len t0) (rp Y (pl U22 Y (GTable.sub2 t0)) (bindK H fun r'3 h4 H=>rp Y (pc Y Tryz.func14 Y (g_ref_ConditionFault_ac h4) Y) (ra Y (rz [1,3,4,6,8,11] [_,_,_,_,_,.i r'3] [4,6,8] [_,_,_] Y ?_))))))
   have z:=se H;subst z
   exact rfl
  refine as2 [1,3,4,6,8,11] [_,_,_,_,_,_] [4,6,8] [_,_,_] Y (QK ?_)
  have z:=se H;subst z
  exact rfl
 refine QS (bindK H fun j'4 h5 H=>AW2_mid (⟨[(1,.i drawer1),(3,.p (GSet.ls l3)),(4,.q 4 (0)),(6,.q 6 (0)),(8,.q 8 (0)),(11,.i j'4)],[(4,.pure (GTable.cs t0)),(6,.pure (GExpr.cs where2)),(8,.pure (GTable.cs GTable.zero))],142⟩:TS) ?_ ?_)
 ·clear H
  have H:=h5
  clear h5
  refine sg 2 Y (rm Y (rp Y (pi Y) (rz [1,3,4,6,8,11,33] [.i drawer1,.p (GSet.ls l3),.q 4 (0),.q 6 (0),.q 8 (0),.i j'2,.b (decide (j'2=0))] [4,6,8] [.pure (GTable.cs t0),.pure (GExpr.cs where2),.pure (GTable.cs GTable.zero)] Y (if2 H Y (fun h6 H=>?_) (fun h6 H=>?_)))))
  ·refine ar 5 Y (rm Y (rf Y U29 Y in_22 Y Y (GTable.len t0) (rp Y (pl U22 Y (GTable.sub2 t0)) (bindK H fun r'5 h7 H=>rp Y (pc Y Tryz.func21 Y (g_ref_setsFault_ac h7) Y) (ra Y (rz [1,3,4,6,8,11] [_,_,_,_,_,.i r'5] [4,6,8] [_,_,_] Y ?_))))))
   have z:=se H;subst z
   exact rfl
  refine as2 [1,3,4,6,8,11] [_,_,_,_,_,_] [4,6,8] [_,_,_] Y (QK ?_)
  have z:=se H;subst z
  exact rfl
 refine sg 1 Y (ra Y (rz [1,3,4,6,8,11,12] [_,_,_,_,_,_,.i 0] [4,6,8] [_,_,_] Y (QS (sg 1 Y (ra Y (rz [1,3,4,6,8,11,12,13] [_,_,_,_,_,_,_,.i 0] [4,6,8] [_,_,_] Y (QB (as2 [1,3,4,6,8,11,12,13] [_,_,_,_,_,_,_,_] [4,6,8] [_,_,_] Y (bindK H fun y'22 h36 H=>AW2_loopO (fun a'19:Int×Int×Int×GTable=>(⟨[(1,.i drawer1),(3,.p (GSet.ls l3)),(4,.q 4 (0)),(6,.q 6 (0)),(8,.q 8 (0)),(11,.i a'19.1),(12,.i a'19.2.1),(13,.i a'19.2.2.1)],[(4,.pure (GTable.cs a'19.2.2.2)),(6,.pure (GExpr.cs where2)),(8,.pure (GTable.cs GTable.zero))],142⟩:TS)) (fun (y'20:(Int×Int×GTable)) e s'=>e=Go.Exit.exit 0∧s'=(⟨[(1,.i drawer1),(4,.q 4 (0)),(8,.q 8 (0)),(11,.i y'20.1),(12,.i y'20.2.1)],[(4,.pure (GTable.cs y'20.2.2)),(8,.pure (GTable.cs GTable.zero))],142⟩:TS)) h36 Y (fun a x hx=>?_) (fun e s' hs=>?_))))))))))
 ·clear H
  obtain ⟨e11_0,n12_0,i13_0,t4_0⟩:=a
  have H:=hx
  clear hx
  unfold g_ref_Updated_l0 at H
  refine QS (QS (AW2_mid (⟨[(1,.i drawer1),(3,.p (GSet.ls l3)),(4,.q 4 (0)),(6,.q 6 (0)),(8,.q 8 (0)),(11,.i e11_0),(12,.i n12_0),(13,.i i13_0),(43,.b (decide ((i13_0 < 4)∧(e11_0=0))))],[(4,.pure (GTable.cs t4_0)),(6,.pure (GExpr.cs where2)),(8,.pure (GTable.cs GTable.zero))],142⟩:TS) ?_ ?_))
  ·refine ar 6 Y (rm Y (rp Y (pb Y Y) (rm Y ?_)))
   refine (Classical.em (i13_0 < 4)).elim (fun h8=>?_) (fun h8=>?_)
   ·exact rn Y (dT h8) Y (p_move Y Y) (rn Y (dT h8) Y (pi Y) (rp Y (p_pkt Y Y (dT h8) (tb ((and_l (q:=e11_0=0) h8)))) (rend Y Y)))
   iterate 2 (refine rO Y (dF h8) Y ?_)
   exact rp Y (p_pkf Y Y (dF h8) (tb (dF (p:=(i13_0 < 4)∧(e11_0=0)) (fun x=>h8 x.1)).symm)) (rend Y Y)
  refine if2 H Y (fun h9 H=>?_) (fun h9 H=>?_)
  ·refine as2 [1,3,4,6,8,11,12,13] [_,_,_,_,_,_,_,_] [4,6,8] [_,_,_] Y (QK (QS (bindK H fun j'6 h10 H=>AW2_mid (⟨[(1,.i drawer1),(3,.p (GSet.ls l3)),(4,.q 4 (0)),(6,.q 6 (0)),(8,.q 8 (0)),(11,.i j'6.1),(12,.i j'6.2.1),(13,.i i13_0)],[(4,.pure (GTable.cs j'6.2.2)),(6,.pure (GExpr.cs where2)),(8,.pure (GTable.cs GTable.zero))],142⟩:TS) ?_ ?_)))
   ·clear H
    have H:=h10
    clear h10
    refine QB (sg 8 Y (rm Y (rm Y (rf Y U29 Y in_27 Y Y (GTable.len t4_0) (chkK H fun h11 H=>rp Y (u_ixp Y Y U27 in_26 Y Y (nl (GTable.len t4_0)) Y (ixe h11) (ixn h11)) (chkK H fun h12 H=>rp Y (u_ixp Y Y U26 in_25 Y Y (nl (GTable.len t4_0)) Y (ixe h12) (ixn h12)) (rp Y (pL U25 Y in_25 (((GTable.sub3 t4_0).trans (Sub.vfm (fun x=>(vfm_len GCell.len x)) (ixn h11))).trans (Sub.vfm GCell.len (ixn h12))) (GCell.len (vrd (vrd t4_0.Drawers drawer1.toNat) i13_0.toNat))) (rq Y (al 14 in_25 one_25 zc_25 Y) (rq Y (u_sw Y Y in_25 (GCell.len (vrd (vrd t4_0.Drawers drawer1.toNat) i13_0.toNat)) (GCell.len GCell.zero)) (rz [1,3,4,6,8,11,12,13,14] [.i drawer1,.p (GSet.ls l3),.q 4 (0),.q 6 (0),.q 8 (0),.i e11_0,.i n12_0,.i i13_0,.q 14 (0)] [4,6,8,14] [.pure (GTable.cs t4_0),.pure (GExpr.cs where2),.pure (GTable.cs GTable.zero),.pure (GCell.cs (vrd (vrd t4_0.Drawers drawer1.toNat) i13_0.toNat))] Y (QS (sg 3 Y (rf Y U25 Y in_4 Y Y (GCell.len (vrd (vrd t4_0.Drawers drawer1.toNat) i13_0.toNat)) (rp Y (pl U4 Y (GCell.sub0 (vrd (vrd t4_0.Drawers drawer1.toNat) i13_0.toNat))) (rp Y (p_not Y Y) (rz [1,3,4,6,8,11,12,13,14,54] [_,_,_,_,_,_,_,_,_,.b (!((vrd (vrd t4_0.Drawers drawer1.toNat) i13_0.toNat).Full))] [4,6,8,14] [_,_,_,_] Y (AW2_cond Y (fun h13=>?_) (fun h13=>?_))))))))))))))))))
    ·replace H:=ite_then h13 H
     refine as2 [1,3,4,6,8,11,12,13] [.i drawer1,.p (GSet.ls l3),.q 4 (0),.q 6 (0),.q 8 (0),.i e11_0,.i n12_0,.i i13_0] [4,6,8] [.pure (GTable.cs t4_0),.pure (GExpr.cs where2),.pure (GTable.cs GTable.zero)] Y (AW2_exit (thenQ2_exit (blockQ2_exit ?_)))
     have z:=se H;subst z
     exact rfl
    replace H:=ite_else (ne_true h13) H
    refine as2 [1,3,4,6,8,12,13,14] [.i drawer1,.p (GSet.ls l3),.q 4 (0),.q 6 (0),.q 8 (0),.i n12_0,.i i13_0,.q 14 (0)] [4,6,8,14] [.pure (GTable.cs t4_0),.pure (GExpr.cs where2),.pure (GTable.cs GTable.zero),.pure (GCell.cs (vrd (vrd t4_0.Drawers drawer1.toNat) i13_0.toNat))] Y (QK (sg 11 Y (rp Y (pL U35 Y in_35 (Sub.refl _) (GExpr.len where2)) (rf Y U29 Y in_22 Y Y (GTable.len t4_0) (rp Y (pl U22 Y (GTable.sub2 t4_0)) (rf Y U25 Y in_23 Y Y (GCell.len (vrd (vrd t4_0.Drawers drawer1.toNat) i13_0.toNat)) (rp Y (pl U23 Y (GCell.sub1 (vrd (vrd t4_0.Drawers drawer1.toNat) i13_0.toNat))) (bindK H fun r'7 h14 H=>rp Y (pc Y Tryz.func15 Y (g_ref_True_ac h14) Y) (rm Y (rp Y (pe Y) (rp Y (pe Y) (ra Y (ra Y (rz [1,3,4,6,8,12,13,14,15,16] [_,_,_,_,_,_,_,_,.b r'7.1,.i r'7.2] [4,6,8,14] [_,_,_,_] Y (sg 2 Y (rm Y (ra Y (rz [1,3,4,6,8,11,12,13,14,15] [_,_,_,_,_,.i r'7.2,_,_,_,_] [4,6,8,14] [_,_,_,_] Y (QS (sg 2 Y (rm Y (rp Y (p_not Y Y) ?_))))))))))))))))))))))
    refine rz [1,3,4,6,8,11,12,13,14,66] [_,_,_,_,_,_,_,_,_,.b (!r'7.1)] [4,6,8,14] [_,_,_,_] Y (AW2_cond Y (fun h15=>?_) (fun h15=>?_))
    ·replace H:=ite_then h15 H
     refine as2 [1,3,4,6,8,11,12,13] [.i drawer1,.p (GSet.ls l3),.q 4 (0),.q 6 (0),.q 8 (0),.i r'7.2,.i n12_0,.i i13_0] [4,6,8] [.pure (GTable.cs t4_0),.pure (GExpr.cs where2),.pure (GTable.cs GTable.zero)] Y (AW2_exit (thenQ2_exit (blockQ2_exit ?_)))
     have z:=se H;subst z
     exact rfl
    replace H:=ite_else (ne_true h15) H
    refine as2 [1,3,4,6,8,11,12,13,14] [.i drawer1,.p (GSet.ls l3),.q 4 (0),.q 6 (0),.q 8 (0),.i r'7.2,.i n12_0,.i i13_0,.q 14 (0)] [4,6,8,14] [.pure (GTable.cs t4_0),.pure (GExpr.cs where2),.pure (GTable.cs GTable.zero),.pure (GCell.cs (vrd (vrd t4_0.Drawers drawer1.toNat) i13_0.toNat))] Y (QK (sg 3 Y (rm Y (rp Y (pb Y Y) (ra Y (rz [1,3,4,6,8,11,12,13,14] [_,_,_,_,_,_,.i (w64 (n12_0+1)),_,_] [4,6,8,14] [_,_,_,_] Y (sg 5 Y (rq Y (MakeD.opD (n_bs0 69 Y U23 in_32) Y Y Y Y) (rf Y U25 Y in_23 Y Y (GCell.len (vrd (vrd t4_0.Drawers drawer1.toNat) i13_0.toNat)) (rp Y (pl U23 Y (GCell.sub1 (vrd (vrd t4_0.Drawers drawer1.toNat) i13_0.toNat))) (chkK H fun h16 H=>rq Y (u_app [69] Y Y Y Y U23 U23 in_32 Y Y Y (fm_length GValue.len ([]:List GValue)) (by decide) Y (fm_length GValue.len ((vrd (vrd t4_0.Drawers drawer1.toNat) i13_0.toNat).Row)) h16 (by decide) Y Y (fapp GValue.cs ([]:List GValue) ((vrd (vrd t4_0.Drawers drawer1.toNat) i13_0.toNat).Row)) (lapp ([]:List GValue) ((vrd (vrd t4_0.Drawers drawer1.toNat) i13_0.toNat).Row))) (ra Y (rs [1,3,4,6,8,11,12,13,14,17] [_,_,_,_,_,_,_,_,_,.c (.own 69 (([]:List GValue)++((vrd (vrd t4_0.Drawers drawer1.toNat) i13_0.toNat).Row)).length 4)] [4,6,8,14,69] [_,_,_,_,.pure ((([]:List GValue)++((vrd (vrd t4_0.Drawers drawer1.toNat) i13_0.toNat).Row)).flatMap GValue.cs)] Y (RunW_gho (Gho_ren 69 17 Y Y Y Y Y) (rz [1,3,4,6,8,11,12,13,14,17] [.i drawer1,.p (GSet.ls l3),.q 4 (0),.q 6 (0),.q 8 (0),.i r'7.2,.i (w64 (n12_0+1)),.i i13_0,.q 14 (0),.c (.own 17 (([]:List GValue)++((vrd (vrd t4_0.Drawers drawer1.toNat) i13_0.toNat).Row)).length 4)] [4,6,8,14,17] [.pure (GTable.cs t4_0),.pure (GExpr.cs where2),.pure (GTable.cs GTable.zero),.pure (GCell.cs (vrd (vrd t4_0.Drawers drawer1.toNat) i13_0.toNat)),.pure ((([]:List GValue)++((vrd (vrd t4_0.Drawers drawer1.toNat) i13_0.toNat).Row)).flatMap GValue.cs)] Y (gen1 (fun next17'8=>(⟨[(1,.i drawer1),(3,.p (GSet.ls l3)),(4,.q 4 (0)),(6,.q 6 (0)),(8,.q 8 (0)),(11,.i r'7.2),(12,.i (w64 (n12_0+1))),(13,.i i13_0),(14,.q 14 (0)),(17,.c (.own 17 next17'8.length 4))],[(4,.pure (GTable.cs t4_0)),(6,.pure (GExpr.cs where2)),(8,.pure (GTable.cs GTable.zero)),(14,.pure (GCell.cs (vrd (vrd t4_0.Drawers drawer1.toNat) i13_0.toNat))),(17,.pure (next17'8.flatMap GValue.cs))],142⟩:TS)) H ?_))))))))))))))))
    intro next17'8 H
    refine QS (sg 3 Y (rm Y (rp Y (p_lenl Y U41 Y Y) (rm Y (rz [1,3,4,6,8,11,12,13,14,17,73,74,75] [.i drawer1,.p (GSet.ls l3),.q 4 (0),.q 6 (0),.q 8 (0),.i r'7.2,.i (w64 (n12_0+1)),.i i13_0,.q 14 (0),.c (.own 17 next17'8.length 4),.p (GSet.ls l3),.i (l3.length:Int),.i 0] [4,6,8,14,17] [.pure (GTable.cs t4_0),.pure (GExpr.cs where2),.pure (GTable.cs GTable.zero),.pure (GCell.cs (vrd (vrd t4_0.Drawers drawer1.toNat) i13_0.toNat)),.pure (next17'8.flatMap GValue.cs)] Y (QB (as2 [1,3,4,6,8,11,12,13,14,17,73,74,75] [_,_,_,_,_,_,_,_,_,_,_,_,_] [4,6,8,14,17] [_,_,_,_,_] Y (bindK H fun y'17 h33 H=>AW2_loopO (fun a'14:Int×Int×(List GValue)=>(⟨[(1,.i drawer1),(3,.p (GSet.ls l3)),(4,.q 4 (0)),(6,.q 6 (0)),(8,.q 8 (0)),(11,.i a'14.1),(12,.i (w64 (n12_0+1))),(13,.i i13_0),(14,.q 14 (0)),(17,.c (.own 17 a'14.2.2.length 4)),(73,.p (GSet.ls l3)),(74,.i (l3.length:Int)),(75,.i a'14.2.1)],[(4,.pure (GTable.cs t4_0)),(6,.pure (GExpr.cs where2)),(8,.pure (GTable.cs GTable.zero)),(14,.pure (GCell.cs (vrd (vrd t4_0.Drawers drawer1.toNat) i13_0.toNat))),(17,.pure (a'14.2.2.flatMap GValue.cs))],142⟩:TS)) (fun (y'15:(Int×(List GValue))) e s'=>e=Go.Exit.exit 2∧s'=(⟨[(1,.i drawer1),(3,.p (GSet.ls l3)),(4,.q 4 (0)),(6,.q 6 (0)),(8,.q 8 (0)),(11,.i y'15.1),(12,.i (w64 (n12_0+1))),(13,.i i13_0),(17,.c (.own 17 y'15.2.length 4))],[(4,.pure (GTable.cs t4_0)),(6,.pure (GExpr.cs where2)),(8,.pure (GTable.cs GTable.zero)),(17,.pure (y'15.2.flatMap GValue.cs))],142⟩:TS)) h33 Y (fun a x hx=>?_) (fun e s' hs=>?_)))))))))
    ·clear H
     obtain ⟨e11_1,t75_1,next17_1⟩:=a
     have H:=hx
     clear hx
     unfold g_ref_Updated_l1 at H
     refine sg 1 Y (rp Y (pb Y Y) (rz [1,3,4,6,8,11,12,13,14,17,73,74,75,76] [.i drawer1,.p (GSet.ls l3),.q 4 (0),.q 6 (0),.q 8 (0),.i e11_1,.i (w64 (n12_0+1)),.i i13_0,.q 14 (0),.c (.own 17 next17_1.length 4),.p (GSet.ls l3),.i (l3.length:Int),.i t75_1,.b (decide (t75_1 < (l3.length:Int)))] [4,6,8,14,17] [.pure (GTable.cs t4_0),.pure (GExpr.cs where2),.pure (GTable.cs GTable.zero),.pure (GCell.cs (vrd (vrd t4_0.Drawers drawer1.toNat) i13_0.toNat)),.pure (next17_1.flatMap GValue.cs)] Y (QS (if2 H Y (fun h17 H=>?_) (fun h17 H=>?_)))))
     ·refine as2 [1,3,4,6,8,11,12,13,14,17,73,74,75] [_,_,_,_,_,_,_,_,_,_,_,_,_] [4,6,8,14,17] [_,_,_,_,_] Y (QK (QS (QB (sg 4 Y (chkK H fun h18 H=>rp Y (u_ixl Y Y U41 in_58 Y Y (ixe h18) (ixn h18) (fne GSet.len (by decide) (ixn h18))) (rp Y (pL U58 Y in_58 (Sub.fm default GSet.len (ixn h18)) (GSet.len (lrd l3 t75_1.toNat))) (rq Y (al 19 in_58 one_58 zc_58 Y) (rq Y (u_sw Y Y in_58 (GSet.len (lrd l3 t75_1.toNat)) (GSet.len GSet.zero)) (rz [1,3,4,6,8,11,12,13,14,17,19,73,74,75] [_,_,_,_,_,_,_,_,_,_,.q 19 (0),_,_,_] [4,6,8,14,17,19] [_,_,_,_,_,.pure (GSet.cs (lrd l3 t75_1.toNat))] Y (sg 13 Y (rf Y U58 Y in_35 Y Y (GSet.len (lrd l3 t75_1.toNat)) (rp Y (pL U35 Y in_35 (GSet.sub1 (lrd l3 t75_1.toNat)) (GExpr.len ((lrd l3 t75_1.toNat).Expr))) (rf Y U29 Y in_22 Y Y (GTable.len t4_0) (rp Y (pl U22 Y (GTable.sub2 t4_0)) (rf Y U25 Y in_23 Y Y (GCell.len (vrd (vrd t4_0.Drawers drawer1.toNat) i13_0.toNat)) (rp Y (pl U23 Y (GCell.sub1 (vrd (vrd t4_0.Drawers drawer1.toNat) i13_0.toNat))) (bindK H fun r'9 h19 H=>rp Y (pc Y Tryz.func22 Y (g_ref_valued_ac h19) Y) (rm Y (rp Y (pe Y) (rp Y (pe Y) (rq Y (al 20 in_32 one_32 zc_32 Y) ?_)))))))))))))))))))))
      refine rq Y (u_sw Y Y in_32 (GValue.len r'9.1) (GValue.len GValue.zero)) (ra Y (rz [1,3,4,6,8,11,12,13,14,17,19,20,21,73,74,75] [_,_,_,_,_,_,_,_,_,_,_,.q 20 (0),.i r'9.2,_,_,_] [4,6,8,14,17,19,20] [_,_,_,_,_,_,.pure (GValue.cs r'9.1)] Y (sg 6 Y (rf Y U29 Y in_22 Y Y (GTable.len t4_0) (rp Y (pl U22 Y (GTable.sub2 t4_0)) (rf Y U58 Y in_9 Y Y (GSet.len (lrd l3 t75_1.toNat)) (rp Y (pl U9 Y (GSet.sub0 (lrd l3 t75_1.toNat))) (bindK H fun r'10 h20 H=>rp Y (pc Y Tryz.func23 Y (g_ref_columnAt_ac h20) Y) (ra Y (rz [1,3,4,6,8,11,12,13,14,17,20,21,22,73,74,75] [_,_,_,_,_,_,_,_,_,_,_,_,.i r'10,_,_,_] [4,6,8,14,17,20] [_,_,_,_,_,_] Y (QS (bindK H fun j'11 h21 H=>AW2_mid (⟨[(1,.i drawer1),(3,.p (GSet.ls l3)),(4,.q 4 (0)),(6,.q 6 (0)),(8,.q 8 (0)),(11,.i e11_1),(12,.i (w64 (n12_0+1))),(13,.i i13_0),(14,.q 14 (0)),(17,.c (.own 17 next17_1.length 4)),(20,.q 20 (0)),(21,.i j'11),(22,.i r'10),(73,.p (GSet.ls l3)),(74,.i (l3.length:Int)),(75,.i t75_1)],[(4,.pure (GTable.cs t4_0)),(6,.pure (GExpr.cs where2)),(8,.pure (GTable.cs GTable.zero)),(14,.pure (GCell.cs (vrd (vrd t4_0.Drawers drawer1.toNat) i13_0.toNat))),(17,.pure (next17_1.flatMap GValue.cs)),(20,.pure (GValue.cs r'9.1))],142⟩:TS) ?_ ?_))))))))))))
      ·clear H
       have H:=h21
       clear h21
       refine QS (bindK H fun g'12 h27 H=>AW2_mid (⟨[(1,.i drawer1),(3,.p (GSet.ls l3)),(4,.q 4 (0)),(6,.q 6 (0)),(8,.q 8 (0)),(11,.i e11_1),(12,.i (w64 (n12_0+1))),(13,.i i13_0),(14,.q 14 (0)),(17,.c (.own 17 next17_1.length 4)),(20,.q 20 (0)),(21,.i r'9.2),(22,.i r'10),(73,.p (GSet.ls l3)),(74,.i (l3.length:Int)),(75,.i t75_1),(113,.b g'12)],[(4,.pure (GTable.cs t4_0)),(6,.pure (GExpr.cs where2)),(8,.pure (GTable.cs GTable.zero)),(14,.pure (GCell.cs (vrd (vrd t4_0.Drawers drawer1.toNat) i13_0.toNat))),(17,.pure (next17_1.flatMap GValue.cs)),(20,.pure (GValue.cs r'9.1))],142⟩:TS) ?_ ?_)
       ·clear H
        have H:=h27
        clear h27
        refine ar 20 Y (rm Y (rp Y (pi Y) (rm Y (em2 H (fun h23 H=>?_) (fun h23 H=>?_)))))
        ·refine rn Y (dT h23) Y (p_move Y Y) (rn Y (dT h23) Y (pi Y) (rp Y (p_pkt Y Y (dT h23) (.same _)) (rm Y (em2 H (fun h24 H=>?_) (fun h24 H=>?_)))))
         ·refine rn Y (dT h24) Y (uf U32 Y in_3 Y (GValue.len r'9.1)) (rn Y (dT h24) Y (pl U3 Y (GValue.sub0 r'9.1)) (rn Y (dT h24) Y (pi Y) (rp Y (p_pkt Y Y (dT h24) (.same _)) (rm Y (em2 H (fun h25 H=>?_) (fun h25 H=>?_))))))
          ·refine rn Y (dT h25) Y (uf U29 Y in_22 Y (GTable.len t4_0)) (rn Y (dT h25) Y (pl U22 Y (GTable.sub2 t4_0)) (rn Y (dT h25) Y (p_move Y Y) (chkK H fun h26 H=>rn Y (dT h25) Y (u_ixl Y Y U22 in_63 Y Y (ixe h26) (ixn h26) (fne GColumn.len (by decide) (ixn h26))) (rn Y (dT h25) Y (u_far Y Y U63 Y in_4 nz Y) (rn Y (dT h25) Y (pl U4 Y ((Sub.fm default GColumn.len (ixn h26)).trans (GColumn.sub2 (lrd t4_0.Cols r'10.toNat)))) (rn Y (dT h25) Y (p_not Y Y) (rp Y (p_pkt Y Y (dT h25) (.same _)) (rs [1,3,4,6,8,11,12,13,14,17,20,21,22,73,74,75,113] [.i drawer1,.p (GSet.ls l3),.q 4 (0),.q 6 (0),.q 8 (0),.i e11_1,.i (w64 (n12_0+1)),.i i13_0,.q 14 (0),.c (.own 17 next17_1.length 4),.q 20 (0),.i r'9.2,.i r'10,.p (GSet.ls l3),.i (l3.length:Int),.i t75_1,.b (!((lrd t4_0.Cols r'10.toNat).Null))] [4,6,8,14,17,20] [.pure (GTable.cs t4_0),.pure (GExpr.cs where2),.pure (GTable.cs GTable.zero),.pure (GCell.cs (vrd (vrd t4_0.Drawers drawer1.toNat) i13_0.toNat)),.pure (next17_1.flatMap GValue.cs),.pure (GValue.cs r'9.1)] Y ?_))))))))
           have z:=se H;subst z
           exact RunW_nil rfl
          iterate 7 (refine rO Y (dF h25) Y ?_)
          refine rp Y (p_pkf Y Y (dF h25) (.same _)) (rs [1,3,4,6,8,11,12,13,14,17,20,21,22,73,74,75,113] [.i drawer1,.p (GSet.ls l3),.q 4 (0),.q 6 (0),.q 8 (0),.i e11_1,.i (w64 (n12_0+1)),.i i13_0,.q 14 (0),.c (.own 17 next17_1.length 4),.q 20 (0),.i r'9.2,.i r'10,.p (GSet.ls l3),.i (l3.length:Int),.i t75_1,.b false] [4,6,8,14,17,20] [.pure (GTable.cs t4_0),.pure (GExpr.cs where2),.pure (GTable.cs GTable.zero),.pure (GCell.cs (vrd (vrd t4_0.Drawers drawer1.toNat) i13_0.toNat)),.pure (next17_1.flatMap GValue.cs),.pure (GValue.cs r'9.1)] Y ?_)
          have z:=se H;subst z
          exact RunW_nil rfl
         iterate 3 (refine rO Y (dF h24) Y ?_)
         refine rp Y (p_pkf Y Y (dF h24) (.same _)) (rm Y ?_)
         iterate 7 (refine rO Y (bfalse (by decide)) Y ?_)
         refine rp Y (p_pkf Y Y (bfalse (by decide)) (.same _)) (rs [1,3,4,6,8,11,12,13,14,17,20,21,22,73,74,75,113] [.i drawer1,.p (GSet.ls l3),.q 4 (0),.q 6 (0),.q 8 (0),.i e11_1,.i (w64 (n12_0+1)),.i i13_0,.q 14 (0),.c (.own 17 next17_1.length 4),.q 20 (0),.i r'9.2,.i r'10,.p (GSet.ls l3),.i (l3.length:Int),.i t75_1,.b false] [4,6,8,14,17,20] [.pure (GTable.cs t4_0),.pure (GExpr.cs where2),.pure (GTable.cs GTable.zero),.pure (GCell.cs (vrd (vrd t4_0.Drawers drawer1.toNat) i13_0.toNat)),.pure (next17_1.flatMap GValue.cs),.pure (GValue.cs r'9.1)] Y ?_)
         have z:=se H;subst z
         exact RunW_nil rfl
        iterate 2 (refine rO Y (dF h23) Y ?_)
        refine rp Y (p_pkf Y Y (dF h23) (.same _)) (rm Y ?_)
        iterate 3 (refine rO Y (bfalse (by decide)) Y ?_)
        refine rp Y (p_pkf Y Y (bfalse (by decide)) (.same _)) (rm Y ?_)
        iterate 7 (refine rO Y (bfalse (by decide)) Y ?_)
        refine rp Y (p_pkf Y Y (bfalse (by decide)) (.same _)) (rs [1,3,4,6,8,11,12,13,14,17,20,21,22,73,74,75,113] [.i drawer1,.p (GSet.ls l3),.q 4 (0),.q 6 (0),.q 8 (0),.i e11_1,.i (w64 (n12_0+1)),.i i13_0,.q 14 (0),.c (.own 17 next17_1.length 4),.q 20 (0),.i r'9.2,.i r'10,.p (GSet.ls l3),.i (l3.length:Int),.i t75_1,.b false] [4,6,8,14,17,20] [.pure (GTable.cs t4_0),.pure (GExpr.cs where2),.pure (GTable.cs GTable.zero),.pure (GCell.cs (vrd (vrd t4_0.Drawers drawer1.toNat) i13_0.toNat)),.pure (next17_1.flatMap GValue.cs),.pure (GValue.cs r'9.1)] Y ?_)
        have z:=se H;subst z
        exact RunW_nil rfl
       refine AW2_cond Y (fun h28=>?_) (fun h28=>?_)
       ·replace H:=ite_then h28 H
        refine ar 1 Y (ra Y (rz [1,3,4,6,8,11,12,13,14,17,20,21,22,73,74,75] [.i drawer1,.p (GSet.ls l3),.q 4 (0),.q 6 (0),.q 8 (0),.i e11_1,.i (w64 (n12_0+1)),.i i13_0,.q 14 (0),.c (.own 17 next17_1.length 4),.q 20 (0),.i 12,.i r'10,.p (GSet.ls l3),.i (l3.length:Int),.i t75_1] [4,6,8,14,17,20] [.pure (GTable.cs t4_0),.pure (GExpr.cs where2),.pure (GTable.cs GTable.zero),.pure (GCell.cs (vrd (vrd t4_0.Drawers drawer1.toNat) i13_0.toNat)),.pure (next17_1.flatMap GValue.cs),.pure (GValue.cs r'9.1)] Y ?_))
        have z:=se H;subst z
        exact rfl
       replace H:=ite_else (ne_true h28) H
       refine as2 [1,3,4,6,8,11,12,13,14,17,20,21,22,73,74,75] [.i drawer1,.p (GSet.ls l3),.q 4 (0),.q 6 (0),.q 8 (0),.i e11_1,.i (w64 (n12_0+1)),.i i13_0,.q 14 (0),.c (.own 17 next17_1.length 4),.q 20 (0),.i r'9.2,.i r'10,.p (GSet.ls l3),.i (l3.length:Int),.i t75_1] [4,6,8,14,17,20] [.pure (GTable.cs t4_0),.pure (GExpr.cs where2),.pure (GTable.cs GTable.zero),.pure (GCell.cs (vrd (vrd t4_0.Drawers drawer1.toNat) i13_0.toNat)),.pure (next17_1.flatMap GValue.cs),.pure (GValue.cs r'9.1)] Y (QK ?_)
       have z:=se H;subst z
       exact rfl
      refine QS (bindK H fun j'13 h30 H=>AW2_mid (⟨[(1,.i drawer1),(3,.p (GSet.ls l3)),(4,.q 4 (0)),(6,.q 6 (0)),(8,.q 8 (0)),(11,.i j'13),(12,.i (w64 (n12_0+1))),(13,.i i13_0),(14,.q 14 (0)),(17,.c (.own 17 next17_1.length 4)),(20,.q 20 (0)),(22,.i r'10),(73,.p (GSet.ls l3)),(74,.i (l3.length:Int)),(75,.i t75_1)],[(4,.pure (GTable.cs t4_0)),(6,.pure (GExpr.cs where2)),(8,.pure (GTable.cs GTable.zero)),(14,.pure (GCell.cs (vrd (vrd t4_0.Drawers drawer1.toNat) i13_0.toNat))),(17,.pure (next17_1.flatMap GValue.cs)),(20,.pure (GValue.cs r'9.1))],142⟩:TS) ?_ ?_)
      ·clear H
       have H:=h30
       clear h30
       refine sg 2 Y (rm Y (rp Y (pi Y) (rz [1,3,4,6,8,11,12,13,14,17,20,21,22,73,74,75,115] [.i drawer1,.p (GSet.ls l3),.q 4 (0),.q 6 (0),.q 8 (0),.i e11_1,.i (w64 (n12_0+1)),.i i13_0,.q 14 (0),.c (.own 17 next17_1.length 4),.q 20 (0),.i j'11,.i r'10,.p (GSet.ls l3),.i (l3.length:Int),.i t75_1,.b (decide (e11_1=0))] [4,6,8,14,17,20] [.pure (GTable.cs t4_0),.pure (GExpr.cs where2),.pure (GTable.cs GTable.zero),.pure (GCell.cs (vrd (vrd t4_0.Drawers drawer1.toNat) i13_0.toNat)),.pure (next17_1.flatMap GValue.cs),.pure (GValue.cs r'9.1)] Y (if2 H Y (fun h31 H=>?_) (fun h31 H=>?_)))))
       ·refine ar 2 Y (rm Y (ra Y (rz [1,3,4,6,8,11,12,13,14,17,20,22,73,74,75] [_,_,_,_,_,.i j'11,_,_,_,_,_,_,_,_,_] [4,6,8,14,17,20] [_,_,_,_,_,_] Y ?_)))
        have z:=se H;subst z
        exact rfl
       refine as2 [1,3,4,6,8,11,12,13,14,17,20,22,73,74,75] [_,_,_,_,_,_,_,_,_,_,_,_,_,_,_] [4,6,8,14,17,20] [_,_,_,_,_,_] Y (QK ?_)
       have z:=se H;subst z
       exact rfl
      refine ar 5 Y (rm Y (rm Y (rp Y (pL U32 Y in_32 (Sub.refl _) (GValue.len r'9.1)) (chkK H fun h32 H=>rp Y (u_ixo Y Y U23 in_32 Y Y (fne GValue.len (by decide) (ixn h32)) Y (ixe h32) (ixn h32)) (rq Y (u_st Y Y Y Y Y in_32 (GValue.len r'9.1) (fne GValue.len (by decide) (ixn h32)) (Upd.trans (Sub.refl _) (Upd.fm GValue.len (ixn h32)) (Upd.refl ((fm_length GValue.len (next17_1.set r'10.toNat r'9.1)).trans ((congrArg (fun n=>n * 4) List.length_set).trans (fm_length GValue.len next17_1).symm))))) (RunW_st [(1,.i drawer1),(3,.p (GSet.ls l3)),(4,.q 4 (0)),(6,.q 6 (0)),(8,.q 8 (0)),(11,.i j'13),(12,.i (w64 (n12_0+1))),(13,.i i13_0),(14,.q 14 (0)),(17,.c (.own 17 (next17_1.set r'10.toNat r'9.1).length 4)),(73,.p (GSet.ls l3)),(74,.i (l3.length:Int)),(75,.i t75_1)] [(4,.pure (GTable.cs t4_0)),(6,.pure (GExpr.cs where2)),(8,.pure (GTable.cs GTable.zero)),(14,.pure (GCell.cs (vrd (vrd t4_0.Drawers drawer1.toNat) i13_0.toNat))),(17,.pure ((next17_1.set r'10.toNat r'9.1).flatMap GValue.cs))] Y ⟨TLes.same _,TLes.same _,TLes.same _,TLes.same _,TLes.same _,TLes.same _,TLes.same _,TLes.same _,TLes.same _,TLes.own (by simp only [List.length_set]),TLes.same _,TLes.same _,TLes.same _,trivial⟩ ⟨Y,Y,Y,Y,Y,trivial⟩ (RunW_nil (ar 2 Y (rp Y (pb Y Y) (rm Y (rz [1,3,4,6,8,11,12,13,14,17,73,74,75] [.i drawer1,.p (GSet.ls l3),.q 4 (0),.q 6 (0),.q 8 (0),.i j'13,.i (w64 (n12_0+1)),.i i13_0,.q 14 (0),.c (.own 17 (next17_1.set r'10.toNat r'9.1).length 4),.p (GSet.ls l3),.i (l3.length:Int),.i (w64 (t75_1+1))] [4,6,8,14,17] [.pure (GTable.cs t4_0),.pure (GExpr.cs where2),.pure (GTable.cs GTable.zero),.pure (GCell.cs (vrd (vrd t4_0.Drawers drawer1.toNat) i13_0.toNat)),.pure ((next17_1.set r'10.toNat r'9.1).flatMap GValue.cs)] Y ?_)))))))))))
      have z:=se H;subst z
      exact ⟨Y,Y⟩
     refine as2 [1,3,4,6,8,11,12,13,17] [_,_,_,_,_,_,_,_,_] [4,6,8,17] [_,_,_,_] Y (AW2_exit (thenQ2_exit ?_))
     have z:=se H;subst z
     exact ⟨Y,Y⟩
    obtain ⟨rfl,rfl⟩:=hs
    refine ⟨by simp,?_⟩
    refine blockQ2_exit (ar 8 Y (rm Y (rm Y (rm Y (rf Y U29 Y in_27 Y Y (GTable.len t4_0) (chkK H fun h34 H=>rp Y (u_ixp Y Y U27 in_26 Y Y (nl (GTable.len t4_0)) Y (ixe h34) (ixn h34)) (chkK H fun h35 H=>rp Y (u_ixp Y Y U26 in_25 Y Y (nl (GTable.len t4_0)) Y (ixe h35) (ixn h35)) (rf Y U25 Y in_23 Y Y (GTable.len t4_0) (RunW_gho (Gho_pubs [17,124] ⟨Y,Y,trivial⟩ Y (fm_length GValue.len y'17.2) (by decide)) (rq Y (u_st Y Y Y Y Y in_23 Y (nl (GTable.len t4_0)) (Upd.trans (((GTable.sub3 t4_0).trans (Sub.vfm (fun x=>(vfm_len GCell.len x)) (ixn h34))).trans (Sub.vfm GCell.len (ixn h35))) (GCell.upd1 (vrd (vrd t4_0.Drawers drawer1.toNat) i13_0.toNat) y'17.2) (Upd.trans ((GTable.sub3 t4_0).trans (Sub.vfm (fun x=>(vfm_len GCell.len x)) (ixn h34))) (Upd.vfm GCell.len (ixn h35)) (Upd.trans (GTable.sub3 t4_0) (Upd.vfm (fun x=>(vfm_len GCell.len x)) (ixn h34)) (Upd.trans (Sub.refl _) (GTable.upd3 t4_0 (vwr t4_0.Drawers drawer1.toNat (vwr (vrd t4_0.Drawers drawer1.toNat) i13_0.toNat ((GCell.w1 (vrd (vrd t4_0.Drawers drawer1.toNat) i13_0.toNat) y'17.2))))) (Upd.refl ((GTable.len ((GTable.w3 t4_0 (vwr t4_0.Drawers drawer1.toNat (vwr (vrd t4_0.Drawers drawer1.toNat) i13_0.toNat ((GCell.w1 (vrd (vrd t4_0.Drawers drawer1.toNat) i13_0.toNat) y'17.2))))))).trans (GTable.len t4_0).symm))))))) (rz [1,3,4,6,8,11,12,13] [.i drawer1,.p (GSet.ls l3),.q 4 (0),.q 6 (0),.q 8 (0),.i y'17.1,.i (w64 (n12_0+1)),.i i13_0] [4,6,8] [.pure (GTable.cs ((GTable.w3 t4_0 (vwr t4_0.Drawers drawer1.toNat (vwr (vrd t4_0.Drawers drawer1.toNat) i13_0.toNat ((GCell.w1 (vrd (vrd t4_0.Drawers drawer1.toNat) i13_0.toNat) y'17.2))))))),.pure (GExpr.cs where2),.pure (GTable.cs GTable.zero)] Y (gen1 (fun t4'18=>(⟨[(1,.i drawer1),(3,.p (GSet.ls l3)),(4,.q 4 (0)),(6,.q 6 (0)),(8,.q 8 (0)),(11,.i y'17.1),(12,.i (w64 (n12_0+1))),(13,.i i13_0)],[(4,.pure (GTable.cs t4'18)),(6,.pure (GExpr.cs where2)),(8,.pure (GTable.cs GTable.zero))],142⟩:TS)) H ?_))))))))))))
    intro t4'18 H
    have z:=se H;subst z
    exact rfl
   refine ar 3 Y (rm Y (rp Y (pb Y Y) (ra Y (rz [1,3,4,6,8,11,12,13] [_,_,_,_,_,_,_,.i (w64 (i13_0+1))] [4,6,8] [_,_,_] Y ?_))))
   have z:=se H;subst z
   exact ⟨Y,Y⟩
  refine as2 [1,4,8,11,12] [_,_,_,_,_] [4,8] [_,_] Y (AW2_exit (thenQ2_exit ?_))
  have z:=se H;subst z
  exact ⟨Y,Y⟩
 obtain ⟨rfl,rfl⟩:=hs
 refine ⟨by simp,?_⟩
 refine blockQ2_exit (QS (bindK H fun j'23 h37 H=>AW2_mid (⟨[(4,.q 4 (0)),(8,.q 8 (0)),(11,.i j'23),(12,.i y'22.2.1)],[(4,.pure (GTable.cs y'22.2.2)),(8,.pure (GTable.cs GTable.zero))],142⟩:TS) ?_ ?_))
 ·clear H
  have H:=h37
  clear h37
  refine sg 2 Y (rm Y (rp Y (pi Y) (rz [1,4,8,11,12,130] [.i drawer1,.q 4 (0),.q 8 (0),.i y'22.1,.i y'22.2.1,.b (decide (y'22.1=0))] [4,8] [.pure (GTable.cs y'22.2.2),.pure (GTable.cs GTable.zero)] Y (if2 H Y (fun h38 H=>?_) (fun h38 H=>?_)))))
  ·refine ar 6 Y (rm Y (rf Y U29 Y in_27 Y Y (GTable.len y'22.2.2) (chkK H fun h39 H=>rp Y (u_ixp Y Y U27 in_26 Y Y (nl (GTable.len y'22.2.2)) Y (ixe h39) (ixn h39)) (rp Y (pL U26 Y in_26 ((GTable.sub3 y'22.2.2).trans (Sub.vfm (fun x=>(vfm_len GCell.len x)) (ixn h39))) (vfm_len GCell.len (vrd y'22.2.2.Drawers drawer1.toNat))) (bindK H fun r'24 h40 H=>rp Y (pc Y Tryz.func24 Y (g_ref_keysFault_ac h40) Y) (ra Y (rz [4,8,11,12] [_,_,.i r'24,_] [4,8] [_,_] Y ?_)))))))
   have z:=se H;subst z
   exact rfl
  refine as2 [4,8,11,12] [_,_,_,_] [4,8] [_,_] Y (QK ?_)
  have z:=se H;subst z
  exact rfl
 refine QS (sg 2 Y (rm Y (rp Y (pn Y) (rz [4,8,11,12,137] [_,_,_,_,.b (decide (j'23≠0))] [4,8] [_,_] Y (if2 H Y (fun h41 H=>?_) (fun h41 H=>?_))))))
 ·refine sg 5 Y (rp Y (u_bld Y in_29 one_29 zc_29 pl_29 Y Y) (rm Y (rq Y (u_sw Y Y in_29 (GTable.len GTable.zero) (GTable.len GTable.zero)) (ra Y (ra Y (rz [8,9,10] [_,.i 0,.i j'23] [8] [_] Y (QR ?_)))))))
  have z:=se H;subst z
  exact ⟨⟨rcw U29 Y in_29 Y (GTable.len GTable.zero),rt,rt,trivial⟩,trivial⟩
 refine as2 [4,8,12] [_,_,_] [4,8] [_,_] Y (QK (sg 5 Y (rp Y (pL U29 Y in_29 (Sub.refl _) (GTable.len y'22.2.2)) (rm Y (rq Y (u_sw Y Y in_29 (GTable.len y'22.2.2) (GTable.len GTable.zero)) (ra Y (ra Y (rz [8,9,10] [_,.i y'22.2.1,.i 0] [8] [.pure (GTable.cs y'22.2.2)] Y (QR ?_)))))))))
 have z:=se H;subst z
 exact ⟨⟨rcw U29 Y in_29 Y (GTable.len y'22.2.2),rt,rt,trivial⟩,trivial⟩
def g_law_sameColumns_r6:List (List (Nat×Option Nat)):=[[(0,none)],[(5,none)],[(16,some 0),(17,some 1)],[(18,some 2)],[(1,none)],[(5,none)],[(20,some 4),(21,some 5)],[(22,some 6)]]
def g_law_sameColumns_r6c:List (List Nat):=[[],[],[0,1],[0,1,2],[],[],[4,5],[4,5,6],[0,1,2,3,4,5,6,7]]
noncomputable def g_law_sameColumns_l0 (a0:List GColumn) (b1:List GColumn):Int→Option (Int⊕(Bool⊕Unit))
  | t13_0=>(if t13_0 < (a0.length:Int) then if 0≤t13_0∧t13_0 < (a0.length:Int) then if 0≤t13_0∧t13_0 < (b1.length:Int) then (if (lrd a0 t13_0.toNat)≠(lrd b1 t13_0.toNat) then some (.inr (.inl false)) else some (.inl (w64 (t13_0+(1:Int))))) else none else none else some (.inr (.inr ())))
noncomputable def g_law_sameColumns (a0:List GColumn) (b1:List GColumn):Option (Bool) :=
  (if (a0.length:Int)≠(b1.length:Int) then some false else (loopO (g_law_sameColumns_l0 a0 b1) (0:Int)).bind fun o'4=>match o'4 with | .inl y'5=>some y'5 | .inr (y'6)=>some true)
theorem g_law_sameColumns_ac {a0:List GColumn} {b1:List GColumn} {r:Bool} (H:g_law_sameColumns a0 b1=some r):ACp Tryz.prog 16 [(GColumn.ls a0),(GColumn.ls b1)] (AV.bool r):=by
 refine ACp_of (AC2_of_body (vs:=[.b r]) Tryz.func16 Y Y (lb Y) Y ?_) (fun _=>.same _)
 unfold g_law_sameColumns at H
 refine as2 [0,1] [.p (GColumn.ls a0),.p (GColumn.ls b1)] [] [] Y (sg 1 Y (ra Y (rz [0,1] [_,_] [] [] Y (QS (sg 5 Y (rm Y (rp Y (p_lenl Y U22 Y Y) (rm Y (rp Y (p_lenl Y U22 Y Y) (rp Y (pn Y) (rz [0,1,10] [_,_,.b (decide ((a0.length:Int)≠(b1.length:Int)))] [] [] Y (if2 H Y (fun h1 H=>?_) (fun h1 H=>?_)))))))))))))
 ·refine sg 1 Y (ra Y (rz [4] [.b false] [] [] Y (QR ?_)))
  have z:=se H;subst z
  exact ⟨⟨rt,trivial⟩,trivial⟩
 refine as2 [0,1] [_,_] [] [] Y (QK (QS (sg 3 Y (rm Y (rp Y (p_lenl Y U22 Y Y) (rm Y (rz [0,1,12,13] [_,_,.i (a0.length:Int),.i 0] [] [] Y (QB (as2 [0,1,12,13] [_,_,_,_] [] [] Y (bindK H fun o'4 h6 H=>AW2_loopO (fun a'1:Int=>(⟨[(0,.p (GColumn.ls a0)),(1,.p (GColumn.ls b1)),(12,.i (a0.length:Int)),(13,.i a'1)],[],26⟩:TS)) (fun (o:Bool⊕Unit) e s'=>match o with | .inl y'2=>e=Go.Exit.ret∧ResAll Tryz.prog s' [ResultVar.tmp 4] [.b y'2]∧HFits s' [] | .inr (y'3)=>e=Go.Exit.exit 0∧s'=(⟨[],[],26⟩:TS)) h6 Y (fun t13_0 x hx=>?_) (fun e s' hs=>?_)))))))))))
 ·clear H
  have H:=hx
  clear hx
  unfold g_law_sameColumns_l0 at H
  refine sg 1 Y (rp Y (pb Y Y) (rz [0,1,12,13,14] [.p (GColumn.ls a0),.p (GColumn.ls b1),.i (a0.length:Int),.i t13_0,.b (decide (t13_0 < (a0.length:Int)))] [] [] Y (QS (if2 H Y (fun h2 H=>?_) (fun h2 H=>?_)))))
  ·refine as2 [0,1,12,13] [_,_,_,_] [] [] Y (QK (QS (QB (sg 2 Y (rm Y (ra Y (rz [0,1,5,12,13] [_,_,.i t13_0,_,_] [] [] Y (QS (chkK H fun h3 H=>chkK H fun h4 H=>AW2_ghoQ (AW2_draw 8 [8] (fun k=>([.p (GColumn.ls a0),.i t13_0,.p (.rptr (a0.flatMap GColumn.cs) (t13_0.toNat * 3)),.g (GColumn.cs (lrd a0 t13_0.toNat)),.p (GColumn.ls b1),.i t13_0,.p (.rptr (b1.flatMap GColumn.cs) (t13_0.toNat * 3)),.g (GColumn.cs (lrd b1 t13_0.toNat))]:List TV).getD k TV.any) (fun k=>g_law_sameColumns_r6.getD k []) [(0,none),(1,none),(12,none),(13,none),(19,some 3),(23,some 7)] [] (fun k=>g_law_sameColumns_r6c.getD k []) mixed (by kernel_rfl) Y Y (a_op (g_x Y (x_p Y (p_move Y Y) Y)) (a_op (g_x Y (x_p Y (p_move Y Y) Y)) (a_op (g_x Y (x_p Y (u_ixl Y Y U22 in_63 Y Y (ixe h3) (ixn h3) (fne GColumn.len (by decide) (ixn h3))) Y)) (a_op (g_x Y (x_p Y (pL U63 Y in_63 (Sub.fm default GColumn.len (ixn h3)) (GColumn.len (lrd a0 t13_0.toNat))) Y)) (a_op (g_x Y (x_p Y (p_move Y Y) Y)) (a_op (g_x Y (x_p Y (p_move Y Y) Y)) (a_op (g_x Y (x_p Y (u_ixl Y Y U22 in_63 Y Y (ixe h4) (ixn h4) (fne GColumn.len (by decide) (ixn h4))) Y)) (a_op (g_x Y (x_p Y (pL U63 Y in_63 (Sub.fm default GColumn.len (ixn h4)) (GColumn.len (lrd b1 t13_0.toNat))) Y)) (a_nil))))))))) (t_op Y Y (PureD.opD (p_nea (a:=(lrd a0 t13_0.toNat)) (b:=(lrd b1 t13_0.toNat)) Y eq_63 Y (by kernel_rfl) Y Y)) (t_gho (Gho_st (L:=[(0,.p (GColumn.ls a0)),(1,.p (GColumn.ls b1)),(12,.i (a0.length:Int)),(13,.i t13_0),(24,.b (decide ((lrd a0 t13_0.toNat)≠(lrd b1 t13_0.toNat))))]) (H:=[]) (N:=26) Y ⟨TLes.same _,TLes.same _,TLes.same _,TLes.same _,TLes.same _,trivial⟩ trivial) (if2 H Y (fun h5 H=>?_) (fun h5 H=>?_))))))))))))))
   ·refine sg 1 Y (ra Y (rz [4] [.b false] [] [] Y (QR ?_)))
    have z:=se H;subst z
    exact ⟨Y,⟨rt,trivial⟩,trivial⟩
   refine as2 [0,1,12,13] [.p (GColumn.ls a0),.p (GColumn.ls b1),.i (a0.length:Int),.i t13_0] [] [] Y (QK (ar 2 Y (rp Y (pb Y Y) (rm Y (rz [0,1,12,13] [_,_,_,.i (w64 (t13_0+1))] [] [] Y ?_)))))
   have z:=se H;subst z
   exact ⟨Y,Y⟩
  refine as2 [] [] [] [] Y (AW2_exit (thenQ2_exit ?_))
  have z:=se H;subst z
  exact ⟨Y,Y⟩
 rcases o'4 with y'5 | y'6
 ·obtain ⟨rfl,hs⟩:=hs
  refine ⟨by simp,?_⟩
  have z:=se H;subst z
  exact ⟨hs.1,hs.2⟩
 obtain ⟨rfl,rfl⟩:=hs
 refine ⟨by simp,?_⟩
 refine blockQ2_exit (sg 1 Y (ra Y (rz [4] [.b true] [] [] Y (QR ?_))))
 have z:=se H;subst z
 exact ⟨⟨rt,trivial⟩,trivial⟩
def g_law_sameRow_r6:List (List (Nat×Option Nat)):=[[(0,none)],[(5,none)],[(16,some 0),(17,some 1)],[(18,some 2)],[(1,none)],[(5,none)],[(20,some 4),(21,some 5)],[(22,some 6)]]
def g_law_sameRow_r6c:List (List Nat):=[[],[],[0,1],[0,1,2],[],[],[4,5],[4,5,6],[0,1,2,3,4,5,6,7]]
noncomputable def g_law_sameRow_l0 (a0:List GValue) (b1:List GValue):Int→Option (Int⊕(Bool⊕Unit))
  | t13_0=>(if t13_0 < (a0.length:Int) then if 0≤t13_0∧t13_0 < (a0.length:Int) then if 0≤t13_0∧t13_0 < (b1.length:Int) then (if (lrd a0 t13_0.toNat)≠(lrd b1 t13_0.toNat) then some (.inr (.inl false)) else some (.inl (w64 (t13_0+(1:Int))))) else none else none else some (.inr (.inr ())))
noncomputable def g_law_sameRow (a0:List GValue) (b1:List GValue):Option (Bool) :=
  (if (a0.length:Int)≠(b1.length:Int) then some false else (loopO (g_law_sameRow_l0 a0 b1) (0:Int)).bind fun o'4=>match o'4 with | .inl y'5=>some y'5 | .inr (y'6)=>some true)
theorem g_law_sameRow_ac {a0:List GValue} {b1:List GValue} {r:Bool} (H:g_law_sameRow a0 b1=some r):ACp Tryz.prog 17 [(GValue.ls a0),(GValue.ls b1)] (AV.bool r):=by
 refine ACp_of (AC2_of_body (vs:=[.b r]) Tryz.func17 Y Y (lb Y) Y ?_) (fun _=>.same _)
 unfold g_law_sameRow at H
 refine as2 [0,1] [.p (GValue.ls a0),.p (GValue.ls b1)] [] [] Y (sg 1 Y (ra Y (rz [0,1] [_,_] [] [] Y (QS (sg 5 Y (rm Y (rp Y (p_lenl Y U23 Y Y) (rm Y (rp Y (p_lenl Y U23 Y Y) (rp Y (pn Y) (rz [0,1,10] [_,_,.b (decide ((a0.length:Int)≠(b1.length:Int)))] [] [] Y (if2 H Y (fun h1 H=>?_) (fun h1 H=>?_)))))))))))))
 ·refine sg 1 Y (ra Y (rz [4] [.b false] [] [] Y (QR ?_)))
  have z:=se H;subst z
  exact ⟨⟨rt,trivial⟩,trivial⟩
 refine as2 [0,1] [_,_] [] [] Y (QK (QS (sg 3 Y (rm Y (rp Y (p_lenl Y U23 Y Y) (rm Y (rz [0,1,12,13] [_,_,.i (a0.length:Int),.i 0] [] [] Y (QB (as2 [0,1,12,13] [_,_,_,_] [] [] Y (bindK H fun o'4 h6 H=>AW2_loopO (fun a'1:Int=>(⟨[(0,.p (GValue.ls a0)),(1,.p (GValue.ls b1)),(12,.i (a0.length:Int)),(13,.i a'1)],[],26⟩:TS)) (fun (o:Bool⊕Unit) e s'=>match o with | .inl y'2=>e=Go.Exit.ret∧ResAll Tryz.prog s' [ResultVar.tmp 4] [.b y'2]∧HFits s' [] | .inr (y'3)=>e=Go.Exit.exit 0∧s'=(⟨[],[],26⟩:TS)) h6 Y (fun t13_0 x hx=>?_) (fun e s' hs=>?_)))))))))))
 ·clear H
  have H:=hx
  clear hx
  unfold g_law_sameRow_l0 at H
  refine sg 1 Y (rp Y (pb Y Y) (rz [0,1,12,13,14] [.p (GValue.ls a0),.p (GValue.ls b1),.i (a0.length:Int),.i t13_0,.b (decide (t13_0 < (a0.length:Int)))] [] [] Y (QS (if2 H Y (fun h2 H=>?_) (fun h2 H=>?_)))))
  ·refine as2 [0,1,12,13] [_,_,_,_] [] [] Y (QK (QS (QB (sg 2 Y (rm Y (ra Y (rz [0,1,5,12,13] [_,_,.i t13_0,_,_] [] [] Y (QS (chkK H fun h3 H=>chkK H fun h4 H=>AW2_ghoQ (AW2_draw 8 [8] (fun k=>([.p (GValue.ls a0),.i t13_0,.p (.rptr (a0.flatMap GValue.cs) (t13_0.toNat * 4)),.g (GValue.cs (lrd a0 t13_0.toNat)),.p (GValue.ls b1),.i t13_0,.p (.rptr (b1.flatMap GValue.cs) (t13_0.toNat * 4)),.g (GValue.cs (lrd b1 t13_0.toNat))]:List TV).getD k TV.any) (fun k=>g_law_sameRow_r6.getD k []) [(0,none),(1,none),(12,none),(13,none),(19,some 3),(23,some 7)] [] (fun k=>g_law_sameRow_r6c.getD k []) mixed (by kernel_rfl) Y Y (a_op (g_x Y (x_p Y (p_move Y Y) Y)) (a_op (g_x Y (x_p Y (p_move Y Y) Y)) (a_op (g_x Y (x_p Y (u_ixl Y Y U23 in_32 Y Y (ixe h3) (ixn h3) (fne GValue.len (by decide) (ixn h3))) Y)) (a_op (g_x Y (x_p Y (pL U32 Y in_32 (Sub.fm default GValue.len (ixn h3)) (GValue.len (lrd a0 t13_0.toNat))) Y)) (a_op (g_x Y (x_p Y (p_move Y Y) Y)) (a_op (g_x Y (x_p Y (p_move Y Y) Y)) (a_op (g_x Y (x_p Y (u_ixl Y Y U23 in_32 Y Y (ixe h4) (ixn h4) (fne GValue.len (by decide) (ixn h4))) Y)) (a_op (g_x Y (x_p Y (pL U32 Y in_32 (Sub.fm default GValue.len (ixn h4)) (GValue.len (lrd b1 t13_0.toNat))) Y)) (a_nil))))))))) (t_op Y Y (PureD.opD (p_nea (a:=(lrd a0 t13_0.toNat)) (b:=(lrd b1 t13_0.toNat)) Y eq_32 Y (by kernel_rfl) Y Y)) (t_gho (Gho_st (L:=[(0,.p (GValue.ls a0)),(1,.p (GValue.ls b1)),(12,.i (a0.length:Int)),(13,.i t13_0),(24,.b (decide ((lrd a0 t13_0.toNat)≠(lrd b1 t13_0.toNat))))]) (H:=[]) (N:=26) Y ⟨TLes.same _,TLes.same _,TLes.same _,TLes.same _,TLes.same _,trivial⟩ trivial) (if2 H Y (fun h5 H=>?_) (fun h5 H=>?_))))))))))))))
   ·refine sg 1 Y (ra Y (rz [4] [.b false] [] [] Y (QR ?_)))
    have z:=se H;subst z
    exact ⟨Y,⟨rt,trivial⟩,trivial⟩
   refine as2 [0,1,12,13] [.p (GValue.ls a0),.p (GValue.ls b1),.i (a0.length:Int),.i t13_0] [] [] Y (QK (ar 2 Y (rp Y (pb Y Y) (rm Y (rz [0,1,12,13] [_,_,_,.i (w64 (t13_0+1))] [] [] Y ?_)))))
   have z:=se H;subst z
   exact ⟨Y,Y⟩
  refine as2 [] [] [] [] Y (AW2_exit (thenQ2_exit ?_))
  have z:=se H;subst z
  exact ⟨Y,Y⟩
 rcases o'4 with y'5 | y'6
 ·obtain ⟨rfl,hs⟩:=hs
  refine ⟨by simp,?_⟩
  have z:=se H;subst z
  exact ⟨hs.1,hs.2⟩
 obtain ⟨rfl,rfl⟩:=hs
 refine ⟨by simp,?_⟩
 refine blockQ2_exit (sg 1 Y (ra Y (rz [4] [.b true] [] [] Y (QR ?_))))
 have z:=se H;subst z
 exact ⟨⟨rt,trivial⟩,trivial⟩
def g_law_sameTable_r9:List (List (Nat×Option Nat)):=[[(5,none)],[(6,none)],[(2,none)],[(35,some 0),(37,some 2)],[(36,some 1),(38,some 3)],[(39,some 4)],[(5,none)],[(6,none)],[(3,none)],[(41,some 6),(43,some 8)],[(42,some 7),(44,some 9)],[(45,some 10)],[],[],[(7,some 12),(40,some 5)]]
def g_law_sameTable_r9c:List (List Nat):=[[],[],[],[0,2],[0,1,2,3],[0,1,2,3,4],[],[],[],[6,8],[6,7,8,9],[6,7,8,9,10],[],[],[0,1,2,3,4,5,12,13],[0,1,2,3,4,5,6,7,8,9,10,11,12,13,14]]
noncomputable def g_law_sameTable_l1 (a0:GTable) (b1:GTable) (t29_0:Int):Int→Option (Int⊕(Bool⊕Unit))
  | t32_1=>(if t32_1 < (4:Int) then if 0≤t29_0∧t29_0 < (2:Int) then if 0≤t32_1∧t32_1 < (4:Int) then if 0≤t29_0∧t29_0 < (2:Int) then if 0≤t32_1∧t32_1 < (4:Int) then ((if ((vrd (vrd a0.Drawers t29_0.toNat) t32_1.toNat).Full)≠((vrd (vrd b1.Drawers t29_0.toNat) t32_1.toNat).Full) then some true else (g_law_sameRow ((vrd (vrd a0.Drawers t29_0.toNat) t32_1.toNat).Row) ((vrd (vrd b1.Drawers t29_0.toNat) t32_1.toNat).Row)).bind fun r'5=>some (!r'5))).bind fun g'6=>(if g'6=true then some (.inr (.inl false)) else some (.inl (w64 (t32_1+(1:Int))))) else none else none else none else none else some (.inr (.inr ())))
noncomputable def g_law_sameTable_l0 (a0:GTable) (b1:GTable):Int→Option (Int⊕(Bool⊕Unit))
  | t29_0=>(if t29_0 < (2:Int) then (loopO (g_law_sameTable_l1 a0 b1 t29_0) (0:Int)).bind fun o'10=>match o'10 with | .inl y'11=>some (.inr (.inl y'11)) | .inr (y'12)=>some (.inl (w64 (t29_0+(1:Int)))) else some (.inr (.inr ())))
noncomputable def g_law_sameTable (a0:GTable) (b1:GTable):Option (Bool) :=
  ((if a0.There≠b1.There then some true else (if a0.Name≠b1.Name then some true else (g_law_sameColumns a0.Cols b1.Cols).bind fun r'2=>some (!r'2)))).bind fun g'3=>(if g'3=true then some false else (loopO (g_law_sameTable_l0 a0 b1) (0:Int)).bind fun o'16=>match o'16 with | .inl y'17=>some y'17 | .inr (y'18)=>some true)
theorem g_law_sameTable_ac {a0:GTable} {b1:GTable} {r:Bool} (H:g_law_sameTable a0 b1=some r):ACp Tryz.prog 7 [(.agg (GTable.cs a0)),(.agg (GTable.cs b1))] (AV.bool r):=by
 refine ACp_of (AC2_of_body (vs:=[.b r]) Tryz.func7 Y Y (lb Y) Y ?_) (fun _=>.same _)
 unfold g_law_sameTable at H
 refine as2 [0,1] [.g (GTable.cs a0),.g (GTable.cs b1)] [] [] Y (sg 3 Y (rq Y (bx 2 Y) (rq Y (bx 3 Y) (ra Y (rz [2,3] [.q 2 (0),.q 3 (0)] [2,3] [.pure (GTable.cs a0),.pure (GTable.cs b1)] Y (QS (QS (bindK H fun g'3 h5 H=>AW2_mid (⟨[(2,.q 2 (0)),(3,.q 3 (0)),(28,.b g'3)],[(2,.pure (GTable.cs a0)),(3,.pure (GTable.cs b1))],62⟩:TS) ?_ ?_))))))))
 ·clear H
  have H:=h5
  clear h5
  refine ar 20 Y (rf Y U29 Y in_4 Y Y (GTable.len a0) (rp Y (pl U4 Y (GTable.sub0 a0)) (rf Y U29 Y in_4 Y Y (GTable.len b1) (rp Y (pl U4 Y (GTable.sub0 b1)) (rp Y (p_bnep Y U4 Y Y) (rm Y (em2 H (fun h2 H=>?_) (fun h2 H=>?_))))))))
  ·refine rO Y (dT h2) Y (rO Y (dT h2) Y (rO Y (dT h2) Y (rO Y (dT h2) Y (rO Y (dT h2) Y (rp Y (p_pkt Y Y (dT h2) (.same _)) (rm Y (rO Y Y Y (rO Y Y Y (rO Y Y Y (rO Y Y Y (rO Y Y Y (rO Y Y Y (rp Y (p_pkt Y Y Y (.same _)) (rs [2,3,28] [.q 2 (0),.q 3 (0),.b true] [2,3] [.pure (GTable.cs a0),.pure (GTable.cs b1)] Y ?_))))))))))))))
   have z:=se H;subst z
   exact RunW_nil rfl
  refine rn Y (dF h2) Y (uf U29 Y in_9 Y (GTable.len a0)) (rn Y (dF h2) Y (pl U9 Y (GTable.sub1 a0)) (rn Y (dF h2) Y (uf U29 Y in_9 Y (GTable.len b1)) (rn Y (dF h2) Y (pl U9 Y (GTable.sub1 b1)) (rn Y (dF h2) Y (p_sne Y Y Y) (rp Y (p_pkf Y Y (dF h2) (.same _)) (rm Y (em2 H (fun h3 H=>?_) (fun h3 H=>?_))))))))
  ·refine rO Y (dT h3) Y (rO Y (dT h3) Y (rO Y (dT h3) Y (rO Y (dT h3) Y (rO Y (dT h3) Y (rO Y (dT h3) Y (rp Y (p_pkt Y Y (dT h3) (.same _)) (rs [2,3,28] [.q 2 (0),.q 3 (0),.b true] [2,3] [.pure (GTable.cs a0),.pure (GTable.cs b1)] Y ?_)))))))
   have z:=se H;subst z
   exact RunW_nil rfl
  refine rn Y (dF h3) Y (uf U29 Y in_22 Y (GTable.len a0)) (rn Y (dF h3) Y (pl U22 Y (GTable.sub2 a0)) (rn Y (dF h3) Y (uf U29 Y in_22 Y (GTable.len b1)) (rn Y (dF h3) Y (pl U22 Y (GTable.sub2 b1)) (bindK H fun r'2 h4 H=>rn Y (dF h3) Y (pc Y Tryz.func16 Y (g_law_sameColumns_ac h4) Y) (rn Y (dF h3) Y (p_not Y Y) (rp Y (p_pkf Y Y (dF h3) (.same _)) (rs [2,3,28] [.q 2 (0),.q 3 (0),.b (!r'2)] [2,3] [.pure (GTable.cs a0),.pure (GTable.cs b1)] Y ?_)))))))
  have z:=se H;subst z
  exact RunW_nil rfl
 refine AW2_cond Y (fun h6=>?_) (fun h6=>?_)
 ·replace H:=ite_then h6 H
  refine sg 1 Y (ra Y (rz [4] [.b false] [] [] Y (QR ?_)))
  have z:=se H;subst z
  exact ⟨⟨rt,trivial⟩,trivial⟩
 replace H:=ite_else (ne_true h6) H
 refine as2 [2,3] [.q 2 (0),.q 3 (0)] [2,3] [.pure (GTable.cs a0),.pure (GTable.cs b1)] Y (QK (QS (sg 1 Y (rm Y (rz [2,3,29] [_,_,.i 0] [2,3] [_,_] Y (QB (as2 [2,3,29] [_,_,_] [2,3] [_,_] Y (bindK H fun o'16 h20 H=>AW2_loopO (fun a'13:Int=>(⟨[(2,.q 2 (0)),(3,.q 3 (0)),(29,.i a'13)],[(2,.pure (GTable.cs a0)),(3,.pure (GTable.cs b1))],62⟩:TS)) (fun (o:Bool⊕Unit) e s'=>match o with | .inl y'14=>e=Go.Exit.ret∧ResAll Tryz.prog s' [ResultVar.tmp 4] [.b y'14]∧HFits s' [] | .inr (y'15)=>e=Go.Exit.exit 0∧s'=(⟨[],[],62⟩:TS)) h20 Y (fun t29_0 x hx=>?_) (fun e s' hs=>?_)))))))))
 ·clear H
  have H:=hx
  clear hx
  unfold g_law_sameTable_l0 at H
  refine sg 1 Y (rp Y (pb Y Y) (rz [2,3,29,30] [.q 2 (0),.q 3 (0),.i t29_0,.b (decide (t29_0 < 2))] [2,3] [.pure (GTable.cs a0),.pure (GTable.cs b1)] Y (QS (if2 H Y (fun h7 H=>?_) (fun h7 H=>?_)))))
  ·refine as2 [2,3,29] [_,_,_] [2,3] [_,_] Y (QK (QS (QB (sg 2 Y (rm Y (ra Y (rz [2,3,5,29] [_,_,.i t29_0,_] [2,3] [_,_] Y (sg 1 Y (rm Y (rz [2,3,5,29,32] [_,_,_,_,.i 0] [2,3] [_,_] Y (QB (as2 [2,3,5,29,32] [_,_,_,_,_] [2,3] [_,_] Y (bindK H fun o'10 h19 H=>AW2_loopO (fun a'7:Int=>(⟨[(2,.q 2 (0)),(3,.q 3 (0)),(5,.i t29_0),(29,.i t29_0),(32,.i a'7)],[(2,.pure (GTable.cs a0)),(3,.pure (GTable.cs b1))],62⟩:TS)) (fun (o:Bool⊕Unit) e s'=>match o with | .inl y'8=>e=Go.Exit.ret∧ResAll Tryz.prog s' [ResultVar.tmp 4] [.b y'8]∧HFits s' [] | .inr (y'9)=>e=Go.Exit.exit 2∧s'=(⟨[(2,.q 2 (0)),(3,.q 3 (0)),(29,.i t29_0)],[(2,.pure (GTable.cs a0)),(3,.pure (GTable.cs b1))],62⟩:TS)) h19 Y (fun t32_1 x hx=>?_) (fun e s' hs=>?_))))))))))))))
   ·clear H
    have H:=hx
    clear hx
    unfold g_law_sameTable_l1 at H
    refine sg 1 Y (rp Y (pb Y Y) (rz [2,3,5,29,32,33] [.q 2 (0),.q 3 (0),.i t29_0,.i t29_0,.i t32_1,.b (decide (t32_1 < 4))] [2,3] [.pure (GTable.cs a0),.pure (GTable.cs b1)] Y (QS (if2 H Y (fun h8 H=>?_) (fun h8 H=>?_)))))
    ·refine as2 [2,3,5,29,32] [_,_,_,_,_] [2,3] [_,_] Y (QK (QS (QB (sg 2 Y (rm Y (ra Y (rz [2,3,5,6,29,32] [_,_,_,.i t32_1,_,_] [2,3] [_,_] Y (QS (chkK H fun h9 H=>chkK H fun h10 H=>chkK H fun h11 H=>chkK H fun h12 H=>AW2_ghoQ (AW2_drawU 15 [15] (fun k=>([.i t29_0,.i t32_1,.q 2 (0+3),.q 2 (0+3+t29_0.toNat * 8),.q 2 (0+3+t29_0.toNat * 8+t32_1.toNat * 2),.g (GCell.cs (vrd (vrd a0.Drawers t29_0.toNat) t32_1.toNat)),.i t29_0,.i t32_1,.q 3 (0+3),.q 3 (0+3+t29_0.toNat * 8),.q 3 (0+3+t29_0.toNat * 8+t32_1.toNat * 2),.g (GCell.cs (vrd (vrd b1.Drawers t29_0.toNat) t32_1.toNat)),.q 7 (0),.q 8 (0),.p (.tup [])]:List TV).getD k TV.any) (fun k=>g_law_sameTable_r9.getD k []) [(2,none),(3,none),(5,none),(7,some 12),(8,some 13),(29,none),(32,none),(46,some 11)] [(12,7,(GCell.cs GCell.zero)),(13,8,(GCell.cs GCell.zero))] [(14,7,.pure (GCell.cs (vrd (vrd a0.Drawers t29_0.toNat) t32_1.toNat)))] [] (fun k=>([[],[],[(2,false)],[(2,false)],[(2,false)],[(2,false)],[],[],[(3,false)],[(3,false)],[(3,false)],[(3,false)],[],[],[(7,false)]]:List (List (Nat×Bool))).getD k []) (fun k=>g_law_sameTable_r9c.getD k []) mixed (by kernel_rfl) Y Y Y (a_op (gu_x Y (y_p Y Y (p_move Y Y) Y)) (a_op (gu_x Y (y_p Y Y (p_move Y Y) Y)) (a_op (gu_x Y (y_p Y Y (uf U29 Y in_27 Y (GTable.len a0)) Y)) (a_op (gu_x Y (y_p Y Y (u_ixp Y Y U27 in_26 Y Y (nl (GTable.len a0)) Y (ixe h9) (ixn h9)) Y)) (a_op (gu_x Y (y_p Y Y (u_ixp Y Y U26 in_25 Y Y (nl (GTable.len a0)) Y (ixe h10) (ixn h10)) Y)) (a_op (gu_x Y (y_p Y Y (pL U25 Y in_25 (((GTable.sub3 a0).trans (Sub.vfm (fun x=>(vfm_len GCell.len x)) (ixn h9))).trans (Sub.vfm GCell.len (ixn h10))) (GCell.len (vrd (vrd a0.Drawers t29_0.toNat) t32_1.toNat))) Y)) (a_op (gu_x Y (y_p Y Y (p_move Y Y) Y)) (a_op (gu_x Y (y_p Y Y (p_move Y Y) Y)) (a_op (gu_x Y (y_p Y Y (uf U29 Y in_27 Y (GTable.len b1)) Y)) (a_op (gu_x Y (y_p Y Y (u_ixp Y Y U27 in_26 Y Y (nl (GTable.len b1)) Y (ixe h11) (ixn h11)) Y)) (a_op (gu_x Y (y_p Y Y (u_ixp Y Y U26 in_25 Y Y (nl (GTable.len b1)) Y (ixe h12) (ixn h12)) Y)) (a_op (gu_x Y (y_p Y Y (pL U25 Y in_25 (((GTable.sub3 b1).trans (Sub.vfm (fun x=>(vfm_len GCell.len x)) (ixn h11))).trans (Sub.vfm GCell.len (ixn h12))) (GCell.len (vrd (vrd b1.Drawers t29_0.toNat) t32_1.toNat))) Y)) (a_op (gu_x Y (y_m Y Y (u_alloc 7 Y in_25 one_25 zc_25) Y Y)) (a_op (gu_x Y (y_m Y Y (u_alloc 8 Y in_25 one_25 zc_25) Y Y)) (a_op (gu_x Y (y_u Y Y Y Y (UpdD_st Y Y Y Y Y in_25 (GCell.len (vrd (vrd a0.Drawers t29_0.toNat) t32_1.toNat)) (nl (GCell.len GCell.zero)) (Upd.refl ((GCell.len (vrd (vrd a0.Drawers t29_0.toNat) t32_1.toNat)).trans (GCell.len GCell.zero).symm))) Y Y)) (a_nil)))))))))))))))) (t_op Y Y (u_sw Y Y in_25 (GCell.len (vrd (vrd b1.Drawers t29_0.toNat) t32_1.toNat)) (GCell.len GCell.zero)) (t_gho (Gho_st (L:=[(2,.q 2 (0)),(3,.q 3 (0)),(5,.i t29_0),(7,.q 7 (0)),(8,.q 8 (0)),(29,.i t29_0),(32,.i t32_1)]) (H:=[(2,.pure (GTable.cs a0)),(3,.pure (GTable.cs b1)),(7,.pure (GCell.cs (vrd (vrd a0.Drawers t29_0.toNat) t32_1.toNat))),(8,.pure (GCell.cs (vrd (vrd b1.Drawers t29_0.toNat) t32_1.toNat)))]) (N:=62) Y ⟨TLes.same _,TLes.same _,TLes.same _,TLes.same _,TLes.same _,TLes.same _,TLes.same _,trivial⟩ ⟨Y,Y,Y,Y,trivial⟩) (QS (bindK H fun g'6 h16 H=>AW2_mid (⟨[(2,.q 2 (0)),(3,.q 3 (0)),(5,.i t29_0),(29,.i t29_0),(32,.i t32_1),(59,.b g'6)],[(2,.pure (GTable.cs a0)),(3,.pure (GTable.cs b1))],62⟩:TS) ?_ ?_))))))))))))))
     ·clear H
      have H:=h16
      clear h16
      refine ar 13 Y (rf Y U25 Y in_4 Y Y (GCell.len (vrd (vrd a0.Drawers t29_0.toNat) t32_1.toNat)) (rp Y (pl U4 Y (GCell.sub0 (vrd (vrd a0.Drawers t29_0.toNat) t32_1.toNat))) (rf Y U25 Y in_4 Y Y (GCell.len (vrd (vrd b1.Drawers t29_0.toNat) t32_1.toNat)) (rp Y (pl U4 Y (GCell.sub0 (vrd (vrd b1.Drawers t29_0.toNat) t32_1.toNat))) (rp Y (p_bnep Y U4 Y Y) (rm Y (em2 H (fun h14 H=>?_) (fun h14 H=>?_))))))))
      ·refine rO Y (dT h14) Y (rO Y (dT h14) Y (rO Y (dT h14) Y (rO Y (dT h14) Y (rO Y (dT h14) Y (rO Y (dT h14) Y (rp Y (p_pkt Y Y (dT h14) (.same _)) (rs [2,3,5,29,32,59] [.q 2 (0),.q 3 (0),.i t29_0,.i t29_0,.i t32_1,.b true] [2,3] [.pure (GTable.cs a0),.pure (GTable.cs b1)] Y ?_)))))))
       have z:=se H;subst z
       exact RunW_nil rfl
      refine rn Y (dF h14) Y (uf U25 Y in_23 Y (GCell.len (vrd (vrd a0.Drawers t29_0.toNat) t32_1.toNat))) (rn Y (dF h14) Y (pl U23 Y (GCell.sub1 (vrd (vrd a0.Drawers t29_0.toNat) t32_1.toNat))) (rn Y (dF h14) Y (uf U25 Y in_23 Y (GCell.len (vrd (vrd b1.Drawers t29_0.toNat) t32_1.toNat))) (rn Y (dF h14) Y (pl U23 Y (GCell.sub1 (vrd (vrd b1.Drawers t29_0.toNat) t32_1.toNat))) (bindK H fun r'5 h15 H=>rn Y (dF h14) Y (pc Y Tryz.func17 Y (g_law_sameRow_ac h15) Y) (rn Y (dF h14) Y (p_not Y Y) (rp Y (p_pkf Y Y (dF h14) (.same _)) (rs [2,3,5,29,32,59] [.q 2 (0),.q 3 (0),.i t29_0,.i t29_0,.i t32_1,.b (!r'5)] [2,3] [.pure (GTable.cs a0),.pure (GTable.cs b1)] Y ?_)))))))
      have z:=se H;subst z
      exact RunW_nil rfl
     refine AW2_cond Y (fun h17=>?_) (fun h17=>?_)
     ·replace H:=ite_then h17 H
      refine sg 1 Y (ra Y (rz [4] [.b false] [] [] Y (QR ?_)))
      have z:=se H;subst z
      exact ⟨Y,⟨rt,trivial⟩,trivial⟩
     replace H:=ite_else (ne_true h17) H
     refine as2 [2,3,5,29,32] [.q 2 (0),.q 3 (0),.i t29_0,.i t29_0,.i t32_1] [2,3] [.pure (GTable.cs a0),.pure (GTable.cs b1)] Y (QK (ar 2 Y (rp Y (pb Y Y) (rm Y (rz [2,3,5,29,32] [_,_,_,_,.i (w64 (t32_1+1))] [2,3] [_,_] Y ?_)))))
     have z:=se H;subst z
     exact ⟨Y,Y⟩
    refine as2 [2,3,29] [_,_,_] [2,3] [_,_] Y (AW2_exit (thenQ2_exit ?_))
    have z:=se H;subst z
    exact ⟨Y,Y⟩
   rcases o'10 with y'11 | y'12
   ·obtain ⟨rfl,hs⟩:=hs
    refine ⟨by simp,?_⟩
    have z:=se H;subst z
    exact ⟨Y,hs.1,hs.2⟩
   obtain ⟨rfl,rfl⟩:=hs
   refine ⟨by simp,?_⟩
   refine blockQ2_exit (ar 2 Y (rp Y (pb Y Y) (rm Y (rz [2,3,29] [.q 2 (0),.q 3 (0),.i (w64 (t29_0+1))] [2,3] [.pure (GTable.cs a0),.pure (GTable.cs b1)] Y ?_))))
   have z:=se H;subst z
   exact ⟨Y,Y⟩
  refine as2 [] [] [] [] Y (AW2_exit (thenQ2_exit ?_))
  have z:=se H;subst z
  exact ⟨Y,Y⟩
 rcases o'16 with y'17 | y'18
 ·obtain ⟨rfl,hs⟩:=hs
  refine ⟨by simp,?_⟩
  have z:=se H;subst z
  exact ⟨hs.1,hs.2⟩
 obtain ⟨rfl,rfl⟩:=hs
 refine ⟨by simp,?_⟩
 refine blockQ2_exit (sg 1 Y (ra Y (rz [4] [.b true] [] [] Y (QR ?_))))
 have z:=se H;subst z
 exact ⟨⟨rt,trivial⟩,trivial⟩
noncomputable def g_law_TableUpdates (t0:GTable) (drawer1:Int) (x2:GExpr) (l3:List GSet):Option (Bool) :=
  (g_table_Update t0 drawer1 x2 l3).bind fun r'1=>(g_ref_Updated t0 drawer1 x2 l3).bind fun r'2=>((if r'1.2.2=r'2.2.2 then (if r'1.2.1=r'2.2.1 then (g_law_sameTable r'1.1 r'2.1).bind fun r'4=>some r'4 else some false) else some false)).bind fun g'5=>some g'5
theorem g_law_TableUpdates_ac {t0:GTable} {drawer1:Int} {x2:GExpr} {l3:List GSet} {r:Bool} (H:g_law_TableUpdates t0 drawer1 x2 l3=some r):ACp Tryz.prog 4 [(.agg (GTable.cs t0)),(AV.int drawer1),(.agg (GExpr.cs x2)),(GSet.ls l3)] (AV.bool r):=by
 refine ACp_of (AC2_of_body (vs:=[.b r]) Tryz.func4 Y Y (lb Y) Y ?_) (fun _=>.same _)
 unfold g_law_TableUpdates at H
 refine as2 [0,1,2,3] [.g (GTable.cs t0),.i drawer1,.g (GExpr.cs x2),.p (GSet.ls l3)] [] [] Y (sg 3 Y (rq Y (bx 4 Y) (rq Y (bx 6 Y) (ra Y (rz [1,3,4,6] [_,_,.q 4 (0),.q 6 (0)] [4,6] [.pure (GTable.cs t0),.pure (GExpr.cs x2)] Y (sg 13 Y (rp Y (pL U29 Y in_29 (Sub.refl _) (GTable.len t0)) (rm Y (rp Y (pL U35 Y in_35 (Sub.refl _) (GExpr.len x2)) (rm Y (bindK H fun r'1 h1 H=>rp Y (pc Y Tryz.func8 Y (g_table_Update_ac h1) Y) (rm Y (rp Y (pe Y) (rp Y (pe Y) (rp Y (pe Y) (rq Y (al 9 in_29 one_29 zc_29 Y) (rq Y (u_sw Y Y in_29 (GTable.len r'1.1) (GTable.len GTable.zero)) (ra Y (ra Y (rz [1,3,4,6,9,10,11] [_,_,_,_,.q 9 (0),.i r'1.2.1,.i r'1.2.2] [4,6,9] [_,_,.pure (GTable.cs r'1.1)] Y (sg 13 Y (rp Y (pL U29 Y in_29 (Sub.refl _) (GTable.len t0)) ?_))))))))))))))))))))))
 refine rm Y (rp Y (pL U35 Y in_35 (Sub.refl _) (GExpr.len x2)) (rm Y (bindK H fun r'2 h2 H=>rp Y (pc Y Tryz.func9 Y (g_ref_Updated_ac h2) Y) (rm Y (rp Y (pe Y) (rp Y (pe Y) (rp Y (pe Y) (rq Y (al 12 in_29 one_29 zc_29 Y) (rq Y (u_sw Y Y in_29 (GTable.len r'2.1) (GTable.len GTable.zero)) (ra Y (ra Y (rz [9,10,11,12,13,14] [_,_,_,.q 12 (0),.i r'2.2.1,.i r'2.2.2] [9,12] [_,.pure (GTable.cs r'2.1)] Y (QS (bindK H fun g'5 h7 H=>AW2_mid (⟨[(8,.b g'5)],[],46⟩:TS) ?_ ?_))))))))))))))
 ·clear H
  have H:=h7
  clear h7
  refine ar 14 Y (rm Y (rm Y (rp Y (pi Y) (rm Y (em2 H (fun h4 H=>?_) (fun h4 H=>?_))))))
  ·refine rn Y (dT h4) Y (p_move Y Y) (rn Y (dT h4) Y (p_move Y Y) (rn Y (dT h4) Y (pi Y) (rp Y (p_pkt Y Y (dT h4) (.same _)) (rm Y (em2 H (fun h5 H=>?_) (fun h5 H=>?_))))))
   ·refine rn Y (dT h5) Y (pL U29 Y in_29 (Sub.refl _) (GTable.len r'1.1)) (rn Y (dT h5) Y (pL U29 Y in_29 (Sub.refl _) (GTable.len r'2.1)) (bindK H fun r'4 h6 H=>rn Y (dT h5) Y (pc Y Tryz.func7 Y (g_law_sameTable_ac h6) Y) (rp Y (p_pkt Y Y (dT h5) (.same _)) (ra Y (rs [8] [.b r'4] [] [] Y ?_)))))
    have z:=se H;subst z
    exact RunW_nil rfl
   refine rO Y (dF h5) Y (rO Y (dF h5) Y (rO Y (dF h5) Y (rp Y (p_pkf Y Y (dF h5) (.same _)) (ra Y (rs [8] [.b false] [] [] Y ?_)))))
   have z:=se H;subst z
   exact RunW_nil rfl
  refine rO Y (dF h4) Y (rO Y (dF h4) Y (rO Y (dF h4) Y (rp Y (p_pkf Y Y (dF h4) (.same _)) (rm Y (rO Y (bfalse (by decide)) Y (rO Y (bfalse (by decide)) Y (rO Y (bfalse (by decide)) Y (rp Y (p_pkf Y Y (bfalse (by decide)) (.same _)) (ra Y (rs [8] [.b false] [] [] Y ?_))))))))))
  have z:=se H;subst z
  exact RunW_nil rfl
 refine QR ?_
 have z:=se H;subst z
 exact ⟨⟨rt,trivial⟩,trivial⟩
end Go.Proofs.YthnkbagmaljjjaaGreatDoor.VM
