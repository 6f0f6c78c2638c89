/- Words and rules that the proof uses. -/
import Derived.Test.YtglgdaeimfdpfaaVtTyped
import Derived.Test.YtglgdaeimfdpfaaVtShort
import Derived.Test.YtglgdaeimfdpfaaVtDrawC
namespace Go.Proofs.Ytglgdaeimfdpfaa.VM
open Go Go.RowKit
set_option maxHeartbeats 4000000
set_option maxRecDepth 100000
abbrev U3:=@Try.underlying3
abbrev U5:=@Try.underlying5
abbrev U22:=@Try.underlying22
abbrev U23:=@Try.underlying23
abbrev U25:=@Try.underlying25
abbrev U32:=@Try.underlying32
abbrev U70:=@Try.underlying70
structure GPut where
  At:Int
  Data:Vector UInt8 32
deriving DecidableEq,Inhabited
def GPut.zero:GPut:=⟨(0:Int),(Vector.replicate 32 (0:UInt8))⟩
def GPut.cs (x:GPut):List AV:=([(AV.int x.At)])++(bcells x.Data.toList)
abbrev GPut.ls (q:List GPut):AV:=AV.lst (q.flatMap GPut.cs) q.length
theorem GPut.len (x:GPut):(GPut.cs x).length=33:=by
  simp only [GPut.cs,List.length_append]
  rw [show ([(AV.int x.At)]).length=1 from (show ([(AV.int x.At)]).length=1 from rfl),show (bcells x.Data.toList).length=32 from ((bcells_length _).trans (vlen x.Data))]
theorem GPut.sub0 (x:GPut):Sub (GPut.cs x) 0 ([(AV.int x.At)]):=Sub.head _ _
abbrev GPut.w0 (x:GPut) (y:Int):GPut:={ x with At:=y }
theorem GPut.upd0 (x:GPut) (y:Int):Upd (GPut.cs x) 0 ([(AV.int y)]) (GPut.cs { x with At:=y }):=Upd.head (show ([(AV.int y)]).length=([(AV.int x.At)]).length from rfl)
theorem GPut.sub1 (x:GPut):Sub (GPut.cs x) 1 (bcells x.Data.toList):=Sub.skip (k:=1) (show ([(AV.int x.At)]).length=1 from rfl) (Sub.refl _)
abbrev GPut.w1 (x:GPut) (y:Vector UInt8 32):GPut:={ x with Data:=y }
theorem GPut.upd1 (x:GPut) (y:Vector UInt8 32):Upd (GPut.cs x) 1 (bcells y.toList) (GPut.cs { x with Data:=y }):=Upd.skip (k:=1) (show ([(AV.int x.At)]).length=1 from rfl) (Upd.refl (((bcells_length _).trans (vlen y)).trans ((bcells_length _).trans (vlen x.Data)).symm))
structure GDisk where
  Lasts:List (Vector UInt8 32)
  Writes:List GPut
deriving DecidableEq,Inhabited
def GDisk.zero:GDisk:=⟨[],[]⟩
def GDisk.cs (x:GDisk):List AV:=([((fun q:List (Vector UInt8 32)=>AV.lst (q.flatMap (fun v:Vector UInt8 32=>bcells v.toList)) q.length) x.Lasts)])++([((fun q:List GPut=>AV.lst (q.flatMap GPut.cs) q.length) x.Writes)])
theorem GDisk.len (x:GDisk):(GDisk.cs x).length=2:=rfl
theorem GDisk.sub0 (x:GDisk):Sub (GDisk.cs x) 0 ([((fun q:List (Vector UInt8 32)=>AV.lst (q.flatMap (fun v:Vector UInt8 32=>bcells v.toList)) q.length) x.Lasts)]):=⟨lb rfl,rfl⟩
abbrev GDisk.w0 (x:GDisk) (y:List (Vector UInt8 32)):GDisk:={ x with Lasts:=y }
theorem GDisk.upd0 (x:GDisk) (y:List (Vector UInt8 32)):Upd (GDisk.cs x) 0 ([((fun q:List (Vector UInt8 32)=>AV.lst (q.flatMap (fun v:Vector UInt8 32=>bcells v.toList)) q.length) y)]) (GDisk.cs { x with Lasts:=y }):=⟨lb rfl,rfl⟩
theorem GDisk.sub1 (x:GDisk):Sub (GDisk.cs x) 1 ([((fun q:List GPut=>AV.lst (q.flatMap GPut.cs) q.length) x.Writes)]):=⟨lb rfl,rfl⟩
abbrev GDisk.w1 (x:GDisk) (y:List GPut):GDisk:={ x with Writes:=y }
theorem GDisk.upd1 (x:GDisk) (y:List GPut):Upd (GDisk.cs x) 1 ([((fun q:List GPut=>AV.lst (q.flatMap GPut.cs) q.length) y)]) (GDisk.cs { x with Writes:=y }):=⟨lb rfl,rfl⟩
theorem in_22:Info Try.prog 22 1 24 (.slice none 0 0):=by unfold Info; kernel_rfl
theorem in_23:Info Try.prog 23 1 24 (.slice none 0 0):=by unfold Info; kernel_rfl
theorem in_70:Info Try.prog 70 33 40 (.agg #[.int .i64 0,.int .u8 0,.int .u8 0,.int .u8 0,.int .u8 0,.int .u8 0,.int .u8 0,.int .u8 0,.int .u8 0,.int .u8 0,.int .u8 0,.int .u8 0,.int .u8 0,.int .u8 0,.int .u8 0,.int .u8 0,.int .u8 0,.int .u8 0,.int .u8 0,.int .u8 0,.int .u8 0,.int .u8 0,.int .u8 0,.int .u8 0,.int .u8 0,.int .u8 0,.int .u8 0,.int .u8 0,.int .u8 0,.int .u8 0,.int .u8 0,.int .u8 0,.int .u8 0]):=by unfold Info; kernel_rfl
theorem one_70:(.agg #[.int .i64 0,.int .u8 0,.int .u8 0,.int .u8 0,.int .u8 0,.int .u8 0,.int .u8 0,.int .u8 0,.int .u8 0,.int .u8 0,.int .u8 0,.int .u8 0,.int .u8 0,.int .u8 0,.int .u8 0,.int .u8 0,.int .u8 0,.int .u8 0,.int .u8 0,.int .u8 0,.int .u8 0,.int .u8 0,.int .u8 0,.int .u8 0,.int .u8 0,.int .u8 0,.int .u8 0,.int .u8 0,.int .u8 0,.int .u8 0,.int .u8 0,.int .u8 0,.int .u8 0]:Value).cells.all (·.oneCell')=true:=by kernel_rfl
theorem zc_70:((.agg #[.int .i64 0,.int .u8 0,.int .u8 0,.int .u8 0,.int .u8 0,.int .u8 0,.int .u8 0,.int .u8 0,.int .u8 0,.int .u8 0,.int .u8 0,.int .u8 0,.int .u8 0,.int .u8 0,.int .u8 0,.int .u8 0,.int .u8 0,.int .u8 0,.int .u8 0,.int .u8 0,.int .u8 0,.int .u8 0,.int .u8 0,.int .u8 0,.int .u8 0,.int .u8 0,.int .u8 0,.int .u8 0,.int .u8 0,.int .u8 0,.int .u8 0,.int .u8 0,.int .u8 0]:Value).cells.toList.map zcell)=GPut.cs GPut.zero:=by rfl
theorem pl_70:placesOf Try.prog 70=some [(0,1),(1,32)]:=by kernel_rfl
theorem in_3:Info Try.prog 3 1 8 (.int .i64 0):=by unfold Info; kernel_rfl
theorem in_25:Info Try.prog 25 2 48 (.agg #[.slice none 0 0,.slice none 0 0]):=by unfold Info; kernel_rfl
theorem one_25:(.agg #[.slice none 0 0,.slice none 0 0]:Value).cells.all (·.oneCell')=true:=by kernel_rfl
theorem zc_25:((.agg #[.slice none 0 0,.slice none 0 0]:Value).cells.toList.map zcell)=GDisk.cs GDisk.zero:=by rfl
theorem pl_25:placesOf Try.prog 25=some [(0,1),(1,1)]:=by kernel_rfl
theorem in_32:Info Try.prog 32 32 32 (.agg #[.int .u8 0,.int .u8 0,.int .u8 0,.int .u8 0,.int .u8 0,.int .u8 0,.int .u8 0,.int .u8 0,.int .u8 0,.int .u8 0,.int .u8 0,.int .u8 0,.int .u8 0,.int .u8 0,.int .u8 0,.int .u8 0,.int .u8 0,.int .u8 0,.int .u8 0,.int .u8 0,.int .u8 0,.int .u8 0,.int .u8 0,.int .u8 0,.int .u8 0,.int .u8 0,.int .u8 0,.int .u8 0,.int .u8 0,.int .u8 0,.int .u8 0,.int .u8 0]):=by unfold Info; kernel_rfl
theorem in_5:Info Try.prog 5 1 1 (.int .u8 0):=by unfold Info; kernel_rfl
theorem eq_32:EqT Try.prog 32 2 (fun x:Vector UInt8 32=>.agg (bcells x.toList)):=eqt_arr1 U32 in_5 (by kernel_rfl) U5 rfl (eqt_b8 U5)
theorem eq_70:EqT Try.prog 70 3 (fun x:GPut=>.agg (GPut.cs x)) :=
  eqt_struct [fun a b=>a.At=b.At,fun a b=>a.Data=b.Data] U70 (by kernel_rfl) ⟨(FieldEq.more (fe_one (by decide) U3 rfl (eqt_int U3) (fun a=>GPut.sub0 a)) (by decide:1≤2)),(FieldEq.more (fe_agg (g:=fun y:Vector UInt8 32=>bcells y.toList) (by decide) U32 rfl in_32 eq_32 (fun a=>GPut.sub1 a) (fun x=>((bcells_length _).trans (vlen x)))) (by decide:2≤2)),trivial⟩ (fun a b=>by
    cases a; cases b
    simp)
set_option maxRecDepth 100000 in
theorem ty_5 {d:Nat} {cs:List AV} (h:Typed Try.prog d 5 cs):∃ x:UInt8,cs=[(AV.b8 x)]∧okA x:=match d,h with
  | 0,h=>False.elim h
  | d+1,h=>ty_u8 U5 h
set_option maxRecDepth 100000 in
theorem ty_32 {d:Nat} {cs:List AV} (h:Typed Try.prog d 32 cs):∃ x:Vector UInt8 32,cs=bcells x.toList∧(okV okA) x:=match d,h with
  | 0,h=>False.elim h
  | d+1,h=>ty_array (f:=AV.b8) U32 (fun _ hx=>ty_5 hx) h
set_option maxRecDepth 100000 in
theorem ty_22 {d:Nat} {cs:List AV} (h:Typed Try.prog d 22 cs):∃ x:List (Vector UInt8 32),cs=[((fun q:List (Vector UInt8 32)=>AV.lst (q.flatMap (fun v:Vector UInt8 32=>bcells v.toList)) q.length) x)]∧(okL 32 (okV okA)) x:=match d,h with
  | 0,h=>False.elim h
  | d+1,h=>ty_slicef (g:=fun b:Vector UInt8 32=>bcells b.toList) U22 (bytes_of in_32) (fun _ hx=>ty_32 hx) h
set_option maxRecDepth 100000 in
theorem ty_3 {d:Nat} {cs:List AV} (h:Typed Try.prog d 3 cs):∃ x:Int,cs=[(AV.int x)]∧okI x:=match d,h with
  | 0,h=>False.elim h
  | d+1,h=>ty_int U3 h
def GPut.ok (x:GPut):Prop:=okI x.At∧(okV okA) x.Data
set_option maxRecDepth 100000 in
theorem ty_70 {d:Nat} {cs:List AV} (h:Typed Try.prog d 70 cs):∃ x:GPut,cs=GPut.cs x∧GPut.ok x:=match d,h with
  | 0,h=>False.elim h
  | d+1,h=>by
    obtain ⟨es,rfl,hl,hf⟩:=ty_struct U70 h
    match es,hl,hf with
    | [e0,e1],_,hf =>
    obtain ⟨x0,h0,q0⟩:=ty_3 (hf 0 _ e0 rfl rfl)
    obtain ⟨x1,h1,q1⟩:=ty_32 (hf 1 _ e1 rfl rfl)
    refine ⟨⟨x0,x1⟩,?_,⟨q0,q1⟩⟩
    rw [h0,h1]
    simp only [List.flatten_cons,List.flatten_nil,List.append_nil,GPut.cs]
set_option maxRecDepth 100000 in
theorem ty_23 {d:Nat} {cs:List AV} (h:Typed Try.prog d 23 cs):∃ x:List GPut,cs=[((fun q:List GPut=>AV.lst (q.flatMap GPut.cs) q.length) x)]∧(okL 40 GPut.ok) x:=match d,h with
  | 0,h=>False.elim h
  | d+1,h=>ty_slicef (g:=fun b:GPut=>GPut.cs b) U23 (bytes_of in_70) (fun _ hx=>ty_70 hx) h
def GDisk.ok (x:GDisk):Prop:=(okL 32 (okV okA)) x.Lasts∧(okL 40 GPut.ok) x.Writes
set_option maxRecDepth 100000 in
theorem ty_25 {d:Nat} {cs:List AV} (h:Typed Try.prog d 25 cs):∃ x:GDisk,cs=GDisk.cs x∧GDisk.ok x:=match d,h with
  | 0,h=>False.elim h
  | d+1,h=>by
    obtain ⟨es,rfl,hl,hf⟩:=ty_struct U25 h
    match es,hl,hf with
    | [e0,e1],_,hf =>
    obtain ⟨x0,h0,q0⟩:=ty_22 (hf 0 _ e0 rfl rfl)
    obtain ⟨x1,h1,q1⟩:=ty_23 (hf 1 _ e1 rfl rfl)
    refine ⟨⟨x0,x1⟩,?_,⟨q0,q1⟩⟩
    rw [h0,h1]
    simp only [List.flatten_cons,List.flatten_nil,List.append_nil,GDisk.cs]
noncomputable def g_disk_Check_l0 (d0:GDisk):Int→Option (Int⊕(Int⊕Unit))
  | t24_0=>(if t24_0 < (d0.Writes.length:Int) then if 0≤t24_0∧t24_0 < (d0.Writes.length:Int) then (if ((lrd d0.Writes t24_0.toNat).At < (0:Int))∨((lrd d0.Writes t24_0.toNat).At≥(d0.Lasts.length:Int)) then some (.inr (.inl (6:Int))) else some (.inl (w64 (t24_0+(1:Int))))) else none else some (.inr (.inr ())))
noncomputable def g_disk_Check (d0:GDisk):Option (Int) :=
  (if (((d0.Lasts.length:Int) < (1:Int))∨((d0.Lasts.length:Int) > (400:Int)))∨((d0.Writes.length:Int) > (60:Int)) then some (1:Int) else (loopO (g_disk_Check_l0 d0) (0:Int)).bind fun o'4=>match o'4 with | .inl y'5=>some y'5 | .inr (y'6)=>some (0:Int))
theorem g_disk_Check_ac {d0:GDisk} {r:Int} (H:g_disk_Check d0=some r):ACp Try.prog 10 [(.agg (GDisk.cs d0))] (AV.int r):=by
 refine ACp_of (AC2_of_body (vs:=[.i r]) Try.func10 Y Y (lb Y) Y ?_) (fun _=>.same _)
 unfold g_disk_Check at H
 refine as2 [0] [.g (GDisk.cs d0)] [] [] Y (sg 2 Y (rq Y (bx 1 Y) (ra Y (rz [1] [.q 1 (0)] [1] [.pure (GDisk.cs d0)] Y (QS (QS (AW2_mid (⟨[(1,.q 1 (0)),(20,.b (decide ((((d0.Lasts.length:Int) < 1)∨((d0.Lasts.length:Int) > 400))∨((d0.Writes.length:Int) > 60))))],[(1,.pure (GDisk.cs d0))],40⟩:TS) ?_ ?_)))))))
 ·refine ar 16 Y (rf Y U25 Y in_22 Y Y (GDisk.len d0) (rp Y (pl U22 Y (GDisk.sub0 d0)) (rp Y (p_lenl Y U22 Y Y) (rp Y (pb Y Y) (rm Y ?_)))))
  refine (Classical.em ((d0.Lasts.length:Int) < 1)).elim (fun h1=>?_) (fun h1=>?_)
  ·exact rO Y (dT h1) Y (rO Y (dT h1) Y (rO Y (dT h1) Y (rO Y (dT h1) Y (rp Y (p_pkt Y Y (dT h1) (tb (dT (p:=((d0.Lasts.length:Int) < 1)∨((d0.Lasts.length:Int) > 400)) (Or.inl h1)).symm)) (rm Y (rO Y (dT (p:=((d0.Lasts.length:Int) < 1)∨((d0.Lasts.length:Int) > 400)) (Or.inl h1)) Y (rO Y (dT (p:=((d0.Lasts.length:Int) < 1)∨((d0.Lasts.length:Int) > 400)) (Or.inl h1)) Y (rO Y (dT (p:=((d0.Lasts.length:Int) < 1)∨((d0.Lasts.length:Int) > 400)) (Or.inl h1)) Y (rO Y (dT (p:=((d0.Lasts.length:Int) < 1)∨((d0.Lasts.length:Int) > 400)) (Or.inl h1)) Y (rp Y (p_pkt Y Y (dT (p:=((d0.Lasts.length:Int) < 1)∨((d0.Lasts.length:Int) > 400)) (Or.inl h1)) (tb (dT (p:=(((d0.Lasts.length:Int) < 1)∨((d0.Lasts.length:Int) > 400))∨((d0.Writes.length:Int) > 60)) (Or.inl (Or.inl h1))).symm)) (rend Y Y)))))))))))
  refine rn Y (dF h1) Y (uf U25 Y in_22 Y (GDisk.len d0)) (rn Y (dF h1) Y (pl U22 Y (GDisk.sub0 d0)) (rn Y (dF h1) Y (p_lenl Y U22 Y Y) (rn Y (dF h1) Y (pb Y Y) (rp Y (p_pkf Y Y (dF h1) (tb ((or_l (q:=(d0.Lasts.length:Int) > 400) h1)))) (rm Y ?_)))))
  refine (Classical.em ((d0.Lasts.length:Int) > 400)).elim (fun h2=>?_) (fun h2=>?_)
  ·exact rO Y (dT (p:=((d0.Lasts.length:Int) < 1)∨((d0.Lasts.length:Int) > 400)) (Or.inr h2)) Y (rO Y (dT (p:=((d0.Lasts.length:Int) < 1)∨((d0.Lasts.length:Int) > 400)) (Or.inr h2)) Y (rO Y (dT (p:=((d0.Lasts.length:Int) < 1)∨((d0.Lasts.length:Int) > 400)) (Or.inr h2)) Y (rO Y (dT (p:=((d0.Lasts.length:Int) < 1)∨((d0.Lasts.length:Int) > 400)) (Or.inr h2)) Y (rp Y (p_pkt Y Y (dT (p:=((d0.Lasts.length:Int) < 1)∨((d0.Lasts.length:Int) > 400)) (Or.inr h2)) (tb (dT (p:=(((d0.Lasts.length:Int) < 1)∨((d0.Lasts.length:Int) > 400))∨((d0.Writes.length:Int) > 60)) (Or.inl (Or.inr h2))).symm)) (rend Y Y)))))
  exact rn Y (dF (p:=((d0.Lasts.length:Int) < 1)∨((d0.Lasts.length:Int) > 400)) (not_or.2 ⟨h1,h2⟩)) Y (uf U25 Y in_23 Y (GDisk.len d0)) (rn Y (dF (p:=((d0.Lasts.length:Int) < 1)∨((d0.Lasts.length:Int) > 400)) (not_or.2 ⟨h1,h2⟩)) Y (pl U23 Y (GDisk.sub1 d0)) (rn Y (dF (p:=((d0.Lasts.length:Int) < 1)∨((d0.Lasts.length:Int) > 400)) (not_or.2 ⟨h1,h2⟩)) Y (p_lenl Y U23 Y Y) (rn Y (dF (p:=((d0.Lasts.length:Int) < 1)∨((d0.Lasts.length:Int) > 400)) (not_or.2 ⟨h1,h2⟩)) Y (pb Y Y) (rp Y (p_pkf Y Y (dF (p:=((d0.Lasts.length:Int) < 1)∨((d0.Lasts.length:Int) > 400)) (not_or.2 ⟨h1,h2⟩)) (tb ((or_l (p:=((d0.Lasts.length:Int) < 1)∨((d0.Lasts.length:Int) > 400)) (q:=(d0.Writes.length:Int) > 60) (not_or.2 ⟨h1,h2⟩))))) (rend Y Y)))))
 refine if2 H Y (fun h3 H=>?_) (fun h3 H=>?_)
 ·refine sg 1 Y (ra Y (rz [2] [.i 1] [] [] Y (QR ?_)))
  have z:=se H;subst z
  exact ⟨⟨rt,trivial⟩,trivial⟩
 refine as2 [1] [_] [1] [_] Y (QK (QS (sg 4 Y (rf Y U25 Y in_23 Y Y (GDisk.len d0) (rp Y (pl U23 Y (GDisk.sub1 d0)) (rp Y (p_lenl Y U23 Y Y) (rm Y (rz [1,22,23,24] [_,.p (GPut.ls d0.Writes),.i (d0.Writes.length:Int),.i 0] [1] [_] Y (QB (as2 [1,22,23,24] [_,_,_,_] [1] [_] Y (bindK H fun o'4 h8 H=>AW2_loopO (fun a'1:Int=>(⟨[(1,.q 1 (0)),(22,.p (GPut.ls d0.Writes)),(23,.i (d0.Writes.length:Int)),(24,.i a'1)],[(1,.pure (GDisk.cs d0))],40⟩:TS)) (fun (o:Int⊕Unit) e s'=>match o with | .inl y'2=>e=Go.Exit.ret∧ResAll Try.prog s' [ResultVar.tmp 2] [.i y'2]∧HFits s' [] | .inr (y'3)=>e=Go.Exit.exit 0∧s'=(⟨[],[],40⟩:TS)) h8 Y (fun t24_0 x hx=>?_) (fun e s' hs=>?_))))))))))))
 ·clear H
  have H:=hx
  clear hx
  unfold g_disk_Check_l0 at H
  refine sg 1 Y (rp Y (pb Y Y) (rz [1,22,23,24,25] [.q 1 (0),.p (GPut.ls d0.Writes),.i (d0.Writes.length:Int),.i t24_0,.b (decide (t24_0 < (d0.Writes.length:Int)))] [1] [.pure (GDisk.cs d0)] Y (QS (if2 H Y (fun h4 H=>?_) (fun h4 H=>?_)))))
  ·refine as2 [1,22,23,24] [_,_,_,_] [1] [_] Y (QK (QS (QB (sg 4 Y (chkK H fun h5 H=>rp Y (u_ixl Y Y U23 in_70 Y Y (ixe h5) (ixn h5) (fne GPut.len (by decide) (ixn h5))) (rp Y (pL U70 Y in_70 (Sub.fm default GPut.len (ixn h5)) (GPut.len (lrd d0.Writes t24_0.toNat))) (rq Y (al 4 in_70 one_70 zc_70 Y) (rq Y (u_sw Y Y in_70 (GPut.len (lrd d0.Writes t24_0.toNat)) (GPut.len GPut.zero)) (rz [1,4,22,23,24] [_,.q 4 (0),_,_,_] [1,4] [_,.pure (GPut.cs (lrd d0.Writes t24_0.toNat))] Y (QS (AW2_mid (⟨[(1,.q 1 (0)),(22,.p (GPut.ls d0.Writes)),(23,.i (d0.Writes.length:Int)),(24,.i t24_0),(38,.b (decide (((lrd d0.Writes t24_0.toNat).At < 0)∨((lrd d0.Writes t24_0.toNat).At≥(d0.Lasts.length:Int)))))],[(1,.pure (GDisk.cs d0))],40⟩:TS) ?_ ?_)))))))))))
   ·refine ar 11 Y (rf Y U70 Y in_3 Y Y (GPut.len (lrd d0.Writes t24_0.toNat)) (rp Y (pl U3 Y (GPut.sub0 (lrd d0.Writes t24_0.toNat))) (rp Y (pb Y Y) (rm Y ?_))))
    refine (Classical.em ((lrd d0.Writes t24_0.toNat).At < 0)).elim (fun h6=>?_) (fun h6=>?_)
    ·exact rO Y (dT h6) Y (rO Y (dT h6) Y (rO Y (dT h6) Y (rO Y (dT h6) Y (rO Y (dT h6) Y (rO Y (dT h6) Y (rp Y (p_pkt Y Y (dT h6) (tb (dT (p:=((lrd d0.Writes t24_0.toNat).At < 0)∨((lrd d0.Writes t24_0.toNat).At≥(d0.Lasts.length:Int))) (Or.inl h6)).symm)) (rend Y Y)))))))
    exact rn Y (dF h6) Y (uf U70 Y in_3 Y (GPut.len (lrd d0.Writes t24_0.toNat))) (rn Y (dF h6) Y (pl U3 Y (GPut.sub0 (lrd d0.Writes t24_0.toNat))) (rn Y (dF h6) Y (uf U25 Y in_22 Y (GDisk.len d0)) (rn Y (dF h6) Y (pl U22 Y (GDisk.sub0 d0)) (rn Y (dF h6) Y (p_lenl Y U22 Y Y) (rn Y (dF h6) Y (pb Y Y) (rp Y (p_pkf Y Y (dF h6) (tb ((or_l (q:=(lrd d0.Writes t24_0.toNat).At≥(d0.Lasts.length:Int)) h6)))) (rend Y Y)))))))
   refine if2 H Y (fun h7 H=>?_) (fun h7 H=>?_)
   ·refine sg 1 Y (ra Y (rz [2] [.i 6] [] [] Y (QR ?_)))
    have z:=se H;subst z
    exact ⟨Y,⟨rt,trivial⟩,trivial⟩
   refine as2 [1,22,23,24] [_,_,_,_] [1] [_] Y (QK (ar 2 Y (rp Y (pb Y Y) (rm Y (rz [1,22,23,24] [_,_,_,.i (w64 (t24_0+1))] [1] [_] Y ?_)))))
   have z:=se H;subst z
   exact ⟨Y,Y⟩
  refine as2 [] [] [] [] Y (AW2_exit (thenQ2_exit ?_))
  have z:=se H;subst z
  exact ⟨Y,Y⟩
 rcases o'4 with y'5 | y'6
 ·obtain ⟨rfl,hs⟩:=hs
  refine ⟨by simp,?_⟩
  have z:=se H;subst z
  exact ⟨hs.1,hs.2⟩
 obtain ⟨rfl,rfl⟩:=hs
 refine ⟨by simp,?_⟩
 refine blockQ2_exit (sg 1 Y (ra Y (rz [2] [.i 0] [] [] Y (QR ?_))))
 have z:=se H;subst z
 exact ⟨⟨rt,trivial⟩,trivial⟩
def g_disk_fresh_r1:List (List (Nat×Option Nat)):=[[],[(1,none)],[(4,some 1)],[(3,some 0),(5,some 2)],[],[(1,none)],[(8,some 5)]]
def g_disk_fresh_r1c:List (List Nat):=[[],[],[1],[0,1,2],[],[],[5],[0,1,2,3,4,5,6],[0,1,2,3,4,5,6,7],[0,1,2,3,4,5,6,7,8]]
noncomputable def g_disk_fresh (d0:GDisk):Option (GDisk) :=
  if room (([]:List (Vector UInt8 32)).length+d0.Lasts.length) 32 then if room (([]:List GPut).length+d0.Writes.length) 40 then some ({ Lasts:=([]:List (Vector UInt8 32))++d0.Lasts,Writes:=([]:List GPut)++d0.Writes }:GDisk) else none else none
theorem g_disk_fresh_ac2 {d0:GDisk} {r:GDisk} (H:g_disk_fresh d0=some r):AC2 Try.prog 33 (pureT [(.agg (GDisk.cs d0))]) [] (.agg [.own 3 r.Lasts.length 32,.own 7 r.Writes.length 33]) [(3,.pure (r.Lasts.flatMap (fun v:Vector UInt8 32=>bcells v.toList))),(7,.pure (r.Writes.flatMap GPut.cs))]:=by
 refine AC2_of_body (vs:=[.agg [.own 3 r.Lasts.length 32,.own 7 r.Writes.length 33]]) Try.func33 Y Y (lb Y) Y ?_
 unfold g_disk_fresh at H
 refine as2 [0] [.g (GDisk.cs d0)] [] [] Y (sg 2 Y (rq Y (bx 1 Y) (rq Y (al 2 in_25 one_25 zc_25 Y) (rz [1,2] [.q 1 (0),.q 2 (0)] [1,2] [.pure (GDisk.cs d0),.pure (GDisk.cs GDisk.zero)] Y (QS (chkK H fun h1 H=>chkK H fun h2 H=>AW2_ghoQ (AW2_drawU 7 [7,8,9] (fun k=>([.c (.own 3 0 32),.q 1 (0+0),.p ((fun q:List (Vector UInt8 32)=>AV.lst (q.flatMap (fun v:Vector UInt8 32=>bcells v.toList)) q.length) d0.Lasts),.c (.own 3 (([]:List (Vector UInt8 32))++d0.Lasts).length 32),.c (.own 7 0 33),.q 1 (0+1),.p (GPut.ls d0.Writes)]:List TV).getD k TV.any) (fun k=>g_disk_fresh_r1.getD k []) [(2,none),(6,some 3),(7,some 4),(9,some 6)] [(0,3,(([]:List (Vector UInt8 32)).flatMap (fun v:Vector UInt8 32=>bcells v.toList))),(4,7,(([]:List GPut).flatMap GPut.cs))] [(3,3,.pure ((([]:List (Vector UInt8 32))++d0.Lasts).flatMap (fun v:Vector UInt8 32=>bcells v.toList)))] [3] (fun k=>([[],[(1,false)],[(1,false)],[(3,false)],[],[(1,false)],[(1,false)]]:List (List (Nat×Bool))).getD k []) (fun k=>g_disk_fresh_r1c.getD k []) mixed (by kernel_rfl) Y Y Y (a_op (gu_x Y (y_m Y Y (n_bs0 3 Y U22 in_32) Y Y)) (a_op (gu_x Y (y_p Y Y (uf U25 Y in_22 Y (GDisk.len d0)) Y)) (a_op (gu_x Y (y_p Y Y (pl U22 Y (GDisk.sub0 d0)) Y)) (a_op (gu_x Y (y_a Y Y Y Y (AppD_app Y Y Y U22 U22 in_32 Y Y Y (fm_length (fun x=>((bcells_length _).trans (vlen x))) ([]:List (Vector UInt8 32))) (by decide) Y (fm_length (fun x=>((bcells_length _).trans (vlen x))) d0.Lasts) h1 (by decide) (fapp (fun v:Vector UInt8 32=>bcells v.toList) ([]:List (Vector UInt8 32)) d0.Lasts) (lapp ([]:List (Vector UInt8 32)) d0.Lasts)) Y Y)) (a_op (gu_x Y (y_m Y Y (n_bs0 7 Y U23 in_70) Y Y)) (a_op (gu_x Y (y_p Y Y (uf U25 Y in_23 Y (GDisk.len d0)) Y)) (a_op (gu_x Y (y_p Y Y (pl U23 Y (GDisk.sub1 d0)) Y)) (a_nil)))))))) (t_op Y Y (u_app [7] Y Y Y Y U23 U23 in_70 Y Y Y (fm_length GPut.len ([]:List GPut)) (by decide) Y (fm_length GPut.len d0.Writes) h2 (by decide) Y Y (fapp GPut.cs ([]:List GPut) d0.Writes) (lapp ([]:List GPut) d0.Writes)) (t_op Y Y (PureD.opD (u_bldm (ps:=[(0,[.own 3 (([]:List (Vector UInt8 32))++d0.Lasts).length 32]),(1,[.own 7 (([]:List GPut)++d0.Writes).length 33])]) (cs:=[.own 3 (([]:List (Vector UInt8 32))++d0.Lasts).length 32,.own 7 (([]:List GPut)++d0.Writes).length 33]) Y in_25 one_25 zc_25 pl_25 Y (fun _=>Y))) (t_op Y Y (d_stm (o:=[.p (((fun q:List (Vector UInt8 32)=>AV.lst (q.flatMap (fun v:Vector UInt8 32=>bcells v.toList)) q.length) GDisk.zero.Lasts)),.p ((GPut.ls GDisk.zero.Writes))]) (xs:=[.own 3 (([]:List (Vector UInt8 32))++d0.Lasts).length 32,.own 7 (([]:List GPut)++d0.Writes).length 33]) (o':=[.own 3 (([]:List (Vector UInt8 32))++d0.Lasts).length 32,.own 7 (([]:List GPut)++d0.Writes).length 33]) Y Y Y Y (fun _=>Y) Y (in_25).sz (lb Y) (List.cons_ne_nil _ _) (fun _=>Y)) (t_gho (Gho_st (L:=[(2,.q 2 (0))]) (H:=[(2,.mix [.own 3 (([]:List (Vector UInt8 32))++d0.Lasts).length 32,.own 7 (([]:List GPut)++d0.Writes).length 33]),(3,.pure ((([]:List (Vector UInt8 32))++d0.Lasts).flatMap (fun v:Vector UInt8 32=>bcells v.toList))),(7,.pure ((([]:List GPut)++d0.Writes).flatMap GPut.cs))]) (N:=12) Y ⟨TLes.same _,trivial⟩ ⟨Y,Y,Y,trivial⟩) (QR ?_))))))))))))
 have z:=se H;subst z
 exact ⟨⟨res_cellam U25 Y in_25.sz Y Y (lb Y) np Y,trivial⟩,⟨Y,Y,trivial⟩⟩
noncomputable def g_disk_Write (d0:GDisk) (i1:Int) (b2:Vector UInt8 32):Option (GDisk×Int) :=
  (g_disk_Check d0).bind fun r'1=>(if r'1≠(0:Int) then some (GDisk.zero,r'1) else (if (i1 < (0:Int))∨(i1≥(d0.Lasts.length:Int)) then some (GDisk.zero,(6:Int)) else (if (d0.Writes.length:Int)=(60:Int) then some (GDisk.zero,(9:Int)) else (g_disk_fresh d0).bind fun r'2=>if room (r'2.Writes.length+([{ { GPut.zero with At:=i1 } with Data:=b2 }]:List GPut).length) 40 then letO (r'2.Writes++([{ { GPut.zero with At:=i1 } with Data:=b2 }]:List GPut)) fun t1001'3=>some (({ Lasts:=r'2.Lasts,Writes:=t1001'3 }:GDisk),(0:Int)) else none)))
theorem g_disk_Write_ac {d0:GDisk} {i1:Int} {b2:Vector UInt8 32} {r:GDisk×Int} (H:g_disk_Write d0 i1 b2=some r):ACp Try.prog 19 [(.agg (GDisk.cs d0)),(AV.int i1),(.agg (bcells b2.toList))] (.tup [(.agg (GDisk.cs r.1)),(AV.int r.2)]):=by
 refine ACp_of (AC2_of_body (vs:=[.g (GDisk.cs r.1),.i r.2]) Try.func19 Y Y (lb Y) Y ?_) (fun _=>.same _)
 unfold g_disk_Write at H
 refine as2 [0,1,2] [.g (GDisk.cs d0),.i i1,.g (bcells b2.toList)] [] [] Y (sg 4 Y (rq Y (bx 3 Y) (rq Y (bx 5 Y) (rq Y (al 6 in_25 one_25 zc_25 Y) (ra Y (rz [1,3,5,6] [_,.q 3 (0),.q 5 (0),.q 6 (0)] [3,5,6] [.pure (GDisk.cs d0),.pure (bcells b2.toList),.pure (GDisk.cs GDisk.zero)] Y (QS (sg 3 Y (rp Y (pL U25 Y in_25 (Sub.refl _) (GDisk.len d0)) (bindK H fun r'1 h1 H=>rp Y (pc Y Try.func10 Y (g_disk_Check_ac h1) Y) (ra Y (rz [1,3,5,6,8] [_,_,_,_,.i r'1] [3,5,6] [_,_,_] Y (sg 2 Y (rm Y (rp Y (pn Y) (rz [1,3,5,6,8,12] [_,_,_,_,_,.b (decide (r'1≠0))] [3,5,6] [_,_,_] Y (if2 H Y (fun h2 H=>?_) (fun h2 H=>?_))))))))))))))))))
 ·refine sg 4 Y (rp Y (u_bld Y in_25 one_25 zc_25 pl_25 Y Y) (rm Y (rq Y (u_sw Y Y in_25 (GDisk.len GDisk.zero) (GDisk.len GDisk.zero)) (ra Y (rz [6,7] [_,.i r'1] [6] [_] Y (QR ?_))))))
  have z:=se H;subst z
  exact ⟨⟨rcw U25 Y in_25 Y (GDisk.len GDisk.zero),rt,trivial⟩,trivial⟩
 refine as2 [1,3,5,6] [_,_,_,_] [3,5,6] [_,_,_] Y (QK (QS (QS (AW2_mid (⟨[(1,.i i1),(3,.q 3 (0)),(5,.q 5 (0)),(6,.q 6 (0)),(23,.b (decide ((i1 < 0)∨(i1≥(d0.Lasts.length:Int)))))],[(3,.pure (GDisk.cs d0)),(5,.pure (bcells b2.toList)),(6,.pure (GDisk.cs GDisk.zero))],41⟩:TS) ?_ ?_))))
 ·refine ar 9 Y (rm Y (rp Y (pb Y Y) (rm Y ?_)))
  refine (Classical.em (i1 < 0)).elim (fun h3=>?_) (fun h3=>?_)
  ·exact rO Y (dT h3) Y (rO Y (dT h3) Y (rO Y (dT h3) Y (rO Y (dT h3) Y (rO Y (dT h3) Y (rp Y (p_pkt Y Y (dT h3) (tb (dT (p:=(i1 < 0)∨(i1≥(d0.Lasts.length:Int))) (Or.inl h3)).symm)) (rend Y Y))))))
  exact rn Y (dF h3) Y (p_move Y Y) (rn Y (dF h3) Y (uf U25 Y in_22 Y (GDisk.len d0)) (rn Y (dF h3) Y (pl U22 Y (GDisk.sub0 d0)) (rn Y (dF h3) Y (p_lenl Y U22 Y Y) (rn Y (dF h3) Y (pb Y Y) (rp Y (p_pkf Y Y (dF h3) (tb ((or_l (q:=i1≥(d0.Lasts.length:Int)) h3)))) (rend Y Y))))))
 refine if2 H Y (fun h4 H=>?_) (fun h4 H=>?_)
 ·refine sg 3 Y (rp Y (u_bld Y in_25 one_25 zc_25 pl_25 Y Y) (rq Y (u_sw Y Y in_25 (GDisk.len GDisk.zero) (GDisk.len GDisk.zero)) (ra Y (rz [6,7] [_,.i 6] [6] [_] Y (QR ?_)))))
  have z:=se H;subst z
  exact ⟨⟨rcw U25 Y in_25 Y (GDisk.len GDisk.zero),rt,trivial⟩,trivial⟩
 refine as2 [1,3,5,6] [_,_,_,_] [3,5,6] [_,_,_] Y (QK (QS (sg 4 Y (rf Y U25 Y in_23 Y Y (GDisk.len d0) (rp Y (pl U23 Y (GDisk.sub1 d0)) (rp Y (p_lenl Y U23 Y Y) (rp Y (pi Y) (rz [1,3,5,6,28] [_,_,_,_,.b (decide ((d0.Writes.length:Int)=60))] [3,5,6] [_,_,_] Y (if2 H Y (fun h5 H=>?_) (fun h5 H=>?_))))))))))
 ·refine sg 3 Y (rp Y (u_bld Y in_25 one_25 zc_25 pl_25 Y Y) (rq Y (u_sw Y Y in_25 (GDisk.len GDisk.zero) (GDisk.len GDisk.zero)) (ra Y (rz [6,7] [_,.i 9] [6] [_] Y (QR ?_)))))
  have z:=se H;subst z
  exact ⟨⟨rcw U25 Y in_25 Y (GDisk.len GDisk.zero),rt,trivial⟩,trivial⟩
 refine as2 [1,3,5,6] [_,_,_,_] [3,5,6] [_,_,_] Y (QK (sg 3 Y (rp Y (pL U25 Y in_25 (Sub.refl _) (GDisk.len d0)) (bindK H fun r'2 h6 H=>rq Y (d_callh [(3,1000),(7,1001)] Y Y Y Try.func33 Y Y (g_disk_fresh_ac2 h6) ⟨TLes.same _,trivial⟩ trivial Y Y) (rq Y (d_stm (o:=[.p (((fun q:List (Vector UInt8 32)=>AV.lst (q.flatMap (fun v:Vector UInt8 32=>bcells v.toList)) q.length) d0.Lasts)),.p ((GPut.ls d0.Writes))]) (xs:=[.own 1000 r'2.Lasts.length 32,.own 1001 r'2.Writes.length 33]) (o':=[.own 1000 r'2.Lasts.length 32,.own 1001 r'2.Writes.length 33]) Y Y Y Y (fun _=>Y) Y (in_25).sz (lb Y) (List.cons_ne_nil _ _) (fun _=>Y)) (rz [1,3,5,6] [_,_,_,_] [3,5,6,1000,1001] [.mix [.own 1000 r'2.Lasts.length 32,.own 1001 r'2.Writes.length 33],_,_,.pure (r'2.Lasts.flatMap (fun v:Vector UInt8 32=>bcells v.toList)),.pure (r'2.Writes.flatMap GPut.cs)] Y (sg 9 Y (rp Y (p_fa Y Y U25 Y (in_23).sz nz Y Y (fun _=>List.cons_ne_nil _ _)) (rp Y (p_ldm Y Y U23 Y Y Y Y) (rm Y (rp Y (pL U32 Y in_32 (Sub.refl _) ((bcells_length _).trans (vlen b2))) (rp Y (u_bld Y in_70 one_70 zc_70 pl_70 Y (af_cons Y Y (GPut.upd0 GPut.zero i1) (af_cons Y ((bcells_length _).trans (vlen b2)) (GPut.upd1 ((GPut.w0 GPut.zero i1)) b2) Y))) (rq Y (MakeD.opD (u_bs 37 Y U23 in_70 Y one_70 (by decide) (by decide) zc_70 Y (af_lit (g:=GPut.cs) GPut.len (GPut.len GPut.zero) [(GPut.w1 (GPut.w0 GPut.zero i1) b2)])) Y Y Y Y) (RunW_st [(1,.i i1),(3,.q 3 (0)),(5,.q 5 (0)),(6,.q 6 (0)),(32,.q 3 (0+1)),(33,.c (.own 1001 r'2.Writes.length 33)),(34,.i i1),(35,.g (bcells b2.toList)),(36,.g (GPut.cs ((GPut.w1 (GPut.w0 GPut.zero i1) b2)))),(37,.c (.own 37 ([(GPut.w1 (GPut.w0 GPut.zero i1) b2)]:List GPut).length 33))] [(3,.mix [.own 1000 r'2.Lasts.length 32,.own 1001 r'2.Writes.length 33]),(5,.pure (bcells b2.toList)),(6,.pure (GDisk.cs GDisk.zero)),(37,.pure (([(GPut.w1 (GPut.w0 GPut.zero i1) b2)]:List GPut).flatMap GPut.cs)),(1000,.pure (r'2.Lasts.flatMap (fun v:Vector UInt8 32=>bcells v.toList))),(1001,.pure (r'2.Writes.flatMap GPut.cs))] Y ⟨TLes.same _,TLes.same _,TLes.same _,TLes.same _,TLes.same _,TLes.same _,TLes.same _,TLes.same _,TLes.same _,TLes.own Y,trivial⟩ ⟨Y,Y,Y,Y,Y,Y,trivial⟩ (RunW_gho (Gho_blk (b:=3) (k:=.mix [.own 1000 r'2.Lasts.length 32,.own 1001 r'2.Writes.length 33]) (k':=.mix [.own 1000 r'2.Lasts.length 32,.p .any]) Y (AnyL.cles ⟨(.inl Y),(.inr Y),trivial⟩)) (rs [1,3,5,6,32,33,34,35,36,37] [.i i1,.q 3 (0),.q 5 (0),.q 6 (0),.q 3 (0+1),.c (.own 1001 r'2.Writes.length 33),.i i1,.g (bcells b2.toList),.g (GPut.cs ((GPut.w1 (GPut.w0 GPut.zero i1) b2))),.c (.own 37 ([(GPut.w1 (GPut.w0 GPut.zero i1) b2)]:List GPut).length 33)] [3,5,6,37,1000,1001] [.mix [.own 1000 r'2.Lasts.length 32,.p .any],.pure (bcells b2.toList),.pure (GDisk.cs GDisk.zero),.pure (([(GPut.w1 (GPut.w0 GPut.zero i1) b2)]:List GPut).flatMap GPut.cs),.pure (r'2.Lasts.flatMap (fun v:Vector UInt8 32=>bcells v.toList)),.pure (r'2.Writes.flatMap GPut.cs)] Y (chkK H fun h7 H=>rq Y (u_app [33] Y Y Y Y U23 U23 in_70 Y Y Y (fm_length GPut.len r'2.Writes) (by decide) (srcT_o Y Y (fm_length GPut.len ([(GPut.w1 (GPut.w0 GPut.zero i1) b2)]:List GPut)) (by decide)) (fm_length GPut.len ([(GPut.w1 (GPut.w0 GPut.zero i1) b2)]:List GPut)) h7 (by decide) Y Y (fapp GPut.cs r'2.Writes ([(GPut.w1 (GPut.w0 GPut.zero i1) b2)]:List GPut)) (lapp r'2.Writes ([(GPut.w1 (GPut.w0 GPut.zero i1) b2)]:List GPut))) (rp Y (p_fa Y Y U25 Y (in_23).sz nz Y Y (fun _=>List.cons_ne_nil _ _)) (rq Y (d_stm (o:=[.own 1000 r'2.Lasts.length 32,.p .any]) (xs:=[.own 1001 (r'2.Writes++([(GPut.w1 (GPut.w0 GPut.zero i1) b2)]:List GPut)).length 33]) (o':=[.own 1000 r'2.Lasts.length 32,.own 1001 (r'2.Writes++([(GPut.w1 (GPut.w0 GPut.zero i1) b2)]:List GPut)).length 33]) Y Y Y Y (fun _=>Y) Y (in_23).sz (lb Y) (List.cons_ne_nil _ _) (fun _=>Y)) (rz [3,6] [_,_] [3,6,1000,1001] [.mix [.own 1000 r'2.Lasts.length 32,.own 1001 (r'2.Writes++([(GPut.w1 (GPut.w0 GPut.zero i1) b2)]:List GPut)).length 33],_,_,.pure ((r'2.Writes++([(GPut.w1 (GPut.w0 GPut.zero i1) b2)]:List GPut)).flatMap GPut.cs)] Y (gen1 (fun t1001'3=>(⟨[(3,.q 3 (0)),(6,.q 6 (0))],[(3,.mix [.own 1000 r'2.Lasts.length 32,.own 1001 t1001'3.length 33]),(6,.pure (GDisk.cs GDisk.zero)),(1000,.pure (r'2.Lasts.flatMap (fun v:Vector UInt8 32=>bcells v.toList))),(1001,.pure (t1001'3.flatMap GPut.cs))],41⟩:TS)) H ?_)))))))))))))))))))))
 intro t1001'3 H
 refine sg 3 Y (rp Y (p_ldam Y Y U25 Y (in_25).sz Y Y (lb Y) np Y) (rs [6,40] [.q 6 (0),.agg [.own 1000 r'2.Lasts.length 32,.own 1001 t1001'3.length 33]] [6,1000,1001] [.pure (GDisk.cs GDisk.zero),.pure (r'2.Lasts.flatMap (fun v:Vector UInt8 32=>bcells v.toList)),.pure (t1001'3.flatMap GPut.cs)] Y (RunW_gho (Gho_puba (b:=1000) [(40,.agg [.p (((fun q:List (Vector UInt8 32)=>AV.lst (q.flatMap (fun v:Vector UInt8 32=>bcells v.toList)) q.length) r'2.Lasts)),.own 1001 t1001'3.length 33])] ⟨⟨(.inr (.inl ⟨Y,Y⟩)),(.inl Y),trivial⟩,trivial⟩ Y (fm_length (fun x=>((bcells_length _).trans (vlen x))) r'2.Lasts) (by decide)) (RunW_gho (Gho_puba (b:=1001) [(40,.agg [.p (((fun q:List (Vector UInt8 32)=>AV.lst (q.flatMap (fun v:Vector UInt8 32=>bcells v.toList)) q.length) r'2.Lasts)),.p ((GPut.ls t1001'3))])] ⟨⟨(.inl Y),(.inr (.inl ⟨Y,Y⟩)),trivial⟩,trivial⟩ Y (fm_length GPut.len t1001'3) (by decide)) (RunW_st [(6,.q 6 (0)),(40,.g (GDisk.cs ({ Lasts:=r'2.Lasts,Writes:=t1001'3 }:GDisk)))] [(6,.pure (GDisk.cs GDisk.zero))] Y ⟨TLes.same _,(fun _=>.same _),trivial⟩ ⟨Y,trivial⟩ (rq Y (u_sw Y Y in_25 (GDisk.len ({ Lasts:=r'2.Lasts,Writes:=t1001'3 }:GDisk)) (GDisk.len GDisk.zero)) (ra Y (rz [6,7] [.q 6 (0),.i 0] [6] [.pure (GDisk.cs ({ Lasts:=r'2.Lasts,Writes:=t1001'3 }:GDisk))] Y (QR ?_)))))))))
 have z:=se H;subst z
 exact ⟨⟨rcw U25 Y in_25 Y (GDisk.len ({ Lasts:=r'2.Lasts,Writes:=t1001'3 }:GDisk)),rt,trivial⟩,trivial⟩
noncomputable def g_ref_DiskFault_l0 (d0:GDisk):Int→Option (Int⊕(Int⊕Unit))
  | t24_0=>(if t24_0 < (d0.Writes.length:Int) then if 0≤t24_0∧t24_0 < (d0.Writes.length:Int) then (if ((lrd d0.Writes t24_0.toNat).At < (0:Int))∨((lrd d0.Writes t24_0.toNat).At≥(d0.Lasts.length:Int)) then some (.inr (.inl (6:Int))) else some (.inl (w64 (t24_0+(1:Int))))) else none else some (.inr (.inr ())))
noncomputable def g_ref_DiskFault (d0:GDisk):Option (Int) :=
  (if (((d0.Lasts.length:Int)=(0:Int))∨((d0.Lasts.length:Int) > (400:Int)))∨((d0.Writes.length:Int) > (60:Int)) then some (1:Int) else (loopO (g_ref_DiskFault_l0 d0) (0:Int)).bind fun o'4=>match o'4 with | .inl y'5=>some y'5 | .inr (y'6)=>some (0:Int))
theorem g_ref_DiskFault_ac {d0:GDisk} {r:Int} (H:g_ref_DiskFault d0=some r):ACp Try.prog 12 [(.agg (GDisk.cs d0))] (AV.int r):=by
 refine ACp_of (AC2_of_body (vs:=[.i r]) Try.func12 Y Y (lb Y) Y ?_) (fun _=>.same _)
 unfold g_ref_DiskFault at H
 refine as2 [0] [.g (GDisk.cs d0)] [] [] Y (sg 2 Y (rq Y (bx 1 Y) (ra Y (rz [1] [.q 1 (0)] [1] [.pure (GDisk.cs d0)] Y (sg 4 Y (rf Y U25 Y in_22 Y Y (GDisk.len d0) (rp Y (pl U22 Y (GDisk.sub0 d0)) (rp Y (p_lenl Y U22 Y Y) (ra Y (rz [1,3] [_,.i (d0.Lasts.length:Int)] [1] [_] Y (QS (QS (AW2_mid (⟨[(1,.q 1 (0)),(3,.i (d0.Lasts.length:Int)),(20,.b (decide ((((d0.Lasts.length:Int)=0)∨((d0.Lasts.length:Int) > 400))∨((d0.Writes.length:Int) > 60))))],[(1,.pure (GDisk.cs d0))],38⟩:TS) ?_ ?_)))))))))))))
 ·refine ar 12 Y (rm Y (rp Y (pi Y) (rm Y ?_)))
  refine (Classical.em ((d0.Lasts.length:Int)=0)).elim (fun h1=>?_) (fun h1=>?_)
  ·exact rO Y (dT h1) Y (rO Y (dT h1) Y (rp Y (p_pkt Y Y (dT h1) (tb (dT (p:=((d0.Lasts.length:Int)=0)∨((d0.Lasts.length:Int) > 400)) (Or.inl h1)).symm)) (rm Y (rO Y (dT (p:=((d0.Lasts.length:Int)=0)∨((d0.Lasts.length:Int) > 400)) (Or.inl h1)) Y (rO Y (dT (p:=((d0.Lasts.length:Int)=0)∨((d0.Lasts.length:Int) > 400)) (Or.inl h1)) Y (rO Y (dT (p:=((d0.Lasts.length:Int)=0)∨((d0.Lasts.length:Int) > 400)) (Or.inl h1)) Y (rO Y (dT (p:=((d0.Lasts.length:Int)=0)∨((d0.Lasts.length:Int) > 400)) (Or.inl h1)) Y (rp Y (p_pkt Y Y (dT (p:=((d0.Lasts.length:Int)=0)∨((d0.Lasts.length:Int) > 400)) (Or.inl h1)) (tb (dT (p:=(((d0.Lasts.length:Int)=0)∨((d0.Lasts.length:Int) > 400))∨((d0.Writes.length:Int) > 60)) (Or.inl (Or.inl h1))).symm)) (rend Y Y)))))))))
  refine rn Y (dF h1) Y (p_move Y Y) (rn Y (dF h1) Y (pb Y Y) (rp Y (p_pkf Y Y (dF h1) (tb ((or_l (q:=(d0.Lasts.length:Int) > 400) h1)))) (rm Y ?_)))
  refine (Classical.em ((d0.Lasts.length:Int) > 400)).elim (fun h2=>?_) (fun h2=>?_)
  ·exact rO Y (dT (p:=((d0.Lasts.length:Int)=0)∨((d0.Lasts.length:Int) > 400)) (Or.inr h2)) Y (rO Y (dT (p:=((d0.Lasts.length:Int)=0)∨((d0.Lasts.length:Int) > 400)) (Or.inr h2)) Y (rO Y (dT (p:=((d0.Lasts.length:Int)=0)∨((d0.Lasts.length:Int) > 400)) (Or.inr h2)) Y (rO Y (dT (p:=((d0.Lasts.length:Int)=0)∨((d0.Lasts.length:Int) > 400)) (Or.inr h2)) Y (rp Y (p_pkt Y Y (dT (p:=((d0.Lasts.length:Int)=0)∨((d0.Lasts.length:Int) > 400)) (Or.inr h2)) (tb (dT (p:=(((d0.Lasts.length:Int)=0)∨((d0.Lasts.length:Int) > 400))∨((d0.Writes.length:Int) > 60)) (Or.inl (Or.inr h2))).symm)) (rend Y Y)))))
  exact rn Y (dF (p:=((d0.Lasts.length:Int)=0)∨((d0.Lasts.length:Int) > 400)) (not_or.2 ⟨h1,h2⟩)) Y (uf U25 Y in_23 Y (GDisk.len d0)) (rn Y (dF (p:=((d0.Lasts.length:Int)=0)∨((d0.Lasts.length:Int) > 400)) (not_or.2 ⟨h1,h2⟩)) Y (pl U23 Y (GDisk.sub1 d0)) (rn Y (dF (p:=((d0.Lasts.length:Int)=0)∨((d0.Lasts.length:Int) > 400)) (not_or.2 ⟨h1,h2⟩)) Y (p_lenl Y U23 Y Y) (rn Y (dF (p:=((d0.Lasts.length:Int)=0)∨((d0.Lasts.length:Int) > 400)) (not_or.2 ⟨h1,h2⟩)) Y (pb Y Y) (rp Y (p_pkf Y Y (dF (p:=((d0.Lasts.length:Int)=0)∨((d0.Lasts.length:Int) > 400)) (not_or.2 ⟨h1,h2⟩)) (tb ((or_l (p:=((d0.Lasts.length:Int)=0)∨((d0.Lasts.length:Int) > 400)) (q:=(d0.Writes.length:Int) > 60) (not_or.2 ⟨h1,h2⟩))))) (rend Y Y)))))
 refine if2 H Y (fun h3 H=>?_) (fun h3 H=>?_)
 ·refine sg 1 Y (ra Y (rz [2] [.i 1] [] [] Y (QR ?_)))
  have z:=se H;subst z
  exact ⟨⟨rt,trivial⟩,trivial⟩
 refine as2 [1,3] [_,_] [1] [_] Y (QK (QS (sg 4 Y (rf Y U25 Y in_23 Y Y (GDisk.len d0) (rp Y (pl U23 Y (GDisk.sub1 d0)) (rp Y (p_lenl Y U23 Y Y) (rm Y (rz [3,22,23,24] [_,.p (GPut.ls d0.Writes),.i (d0.Writes.length:Int),.i 0] [] [] Y (QB (as2 [3,22,23,24] [_,_,_,_] [] [] Y (bindK H fun o'4 h8 H=>AW2_loopO (fun a'1:Int=>(⟨[(3,.i (d0.Lasts.length:Int)),(22,.p (GPut.ls d0.Writes)),(23,.i (d0.Writes.length:Int)),(24,.i a'1)],[],38⟩:TS)) (fun (o:Int⊕Unit) e s'=>match o with | .inl y'2=>e=Go.Exit.ret∧ResAll Try.prog s' [ResultVar.tmp 2] [.i y'2]∧HFits s' [] | .inr (y'3)=>e=Go.Exit.exit 0∧s'=(⟨[],[],38⟩:TS)) h8 Y (fun t24_0 x hx=>?_) (fun e s' hs=>?_))))))))))))
 ·clear H
  have H:=hx
  clear hx
  unfold g_ref_DiskFault_l0 at H
  refine sg 1 Y (rp Y (pb Y Y) (rz [3,22,23,24,25] [.i (d0.Lasts.length:Int),.p (GPut.ls d0.Writes),.i (d0.Writes.length:Int),.i t24_0,.b (decide (t24_0 < (d0.Writes.length:Int)))] [] [] Y (QS (if2 H Y (fun h4 H=>?_) (fun h4 H=>?_)))))
  ·refine as2 [3,22,23,24] [_,_,_,_] [] [] Y (QK (QS (QB (sg 4 Y (chkK H fun h5 H=>rp Y (u_ixl Y Y U23 in_70 Y Y (ixe h5) (ixn h5) (fne GPut.len (by decide) (ixn h5))) (rp Y (pL U70 Y in_70 (Sub.fm default GPut.len (ixn h5)) (GPut.len (lrd d0.Writes t24_0.toNat))) (rq Y (al 5 in_70 one_70 zc_70 Y) (rq Y (u_sw Y Y in_70 (GPut.len (lrd d0.Writes t24_0.toNat)) (GPut.len GPut.zero)) (rz [3,5,22,23,24] [_,.q 5 (0),_,_,_] [5] [.pure (GPut.cs (lrd d0.Writes t24_0.toNat))] Y (QS (AW2_mid (⟨[(3,.i (d0.Lasts.length:Int)),(22,.p (GPut.ls d0.Writes)),(23,.i (d0.Writes.length:Int)),(24,.i t24_0),(36,.b (decide (((lrd d0.Writes t24_0.toNat).At < 0)∨((lrd d0.Writes t24_0.toNat).At≥(d0.Lasts.length:Int)))))],[],38⟩:TS) ?_ ?_)))))))))))
   ·refine ar 9 Y (rf Y U70 Y in_3 Y Y (GPut.len (lrd d0.Writes t24_0.toNat)) (rp Y (pl U3 Y (GPut.sub0 (lrd d0.Writes t24_0.toNat))) (rp Y (pb Y Y) (rm Y ?_))))
    refine (Classical.em ((lrd d0.Writes t24_0.toNat).At < 0)).elim (fun h6=>?_) (fun h6=>?_)
    ·exact rO Y (dT h6) Y (rO Y (dT h6) Y (rO Y (dT h6) Y (rO Y (dT h6) Y (rp Y (p_pkt Y Y (dT h6) (tb (dT (p:=((lrd d0.Writes t24_0.toNat).At < 0)∨((lrd d0.Writes t24_0.toNat).At≥(d0.Lasts.length:Int))) (Or.inl h6)).symm)) (rend Y Y)))))
    exact rn Y (dF h6) Y (uf U70 Y in_3 Y (GPut.len (lrd d0.Writes t24_0.toNat))) (rn Y (dF h6) Y (pl U3 Y (GPut.sub0 (lrd d0.Writes t24_0.toNat))) (rn Y (dF h6) Y (p_move Y Y) (rn Y (dF h6) Y (pb Y Y) (rp Y (p_pkf Y Y (dF h6) (tb ((or_l (q:=(lrd d0.Writes t24_0.toNat).At≥(d0.Lasts.length:Int)) h6)))) (rend Y Y)))))
   refine if2 H Y (fun h7 H=>?_) (fun h7 H=>?_)
   ·refine sg 1 Y (ra Y (rz [2] [.i 6] [] [] Y (QR ?_)))
    have z:=se H;subst z
    exact ⟨Y,⟨rt,trivial⟩,trivial⟩
   refine as2 [3,22,23,24] [_,_,_,_] [] [] Y (QK (ar 2 Y (rp Y (pb Y Y) (rm Y (rz [3,22,23,24] [_,_,_,.i (w64 (t24_0+1))] [] [] Y ?_)))))
   have z:=se H;subst z
   exact ⟨Y,Y⟩
  refine as2 [] [] [] [] Y (AW2_exit (thenQ2_exit ?_))
  have z:=se H;subst z
  exact ⟨Y,Y⟩
 rcases o'4 with y'5 | y'6
 ·obtain ⟨rfl,hs⟩:=hs
  refine ⟨by simp,?_⟩
  have z:=se H;subst z
  exact ⟨hs.1,hs.2⟩
 obtain ⟨rfl,rfl⟩:=hs
 refine ⟨by simp,?_⟩
 refine blockQ2_exit (sg 1 Y (ra Y (rz [2] [.i 0] [] [] Y (QR ?_))))
 have z:=se H;subst z
 exact ⟨⟨rt,trivial⟩,trivial⟩
noncomputable def g_ref_sectorFault (d0:GDisk) (i1:Int):Option (Int) :=
  (g_ref_DiskFault d0).bind fun r'1=>(if r'1≠(0:Int) then some r'1 else (if (i1 < (0:Int))∨(i1≥(d0.Lasts.length:Int)) then some (6:Int) else some (0:Int)))
theorem g_ref_sectorFault_ac {d0:GDisk} {i1:Int} {r:Int} (H:g_ref_sectorFault d0 i1=some r):ACp Try.prog 29 [(.agg (GDisk.cs d0)),(AV.int i1)] (AV.int r):=by
 refine ACp_of (AC2_of_body (vs:=[.i r]) Try.func29 Y Y (lb Y) Y ?_) (fun _=>.same _)
 unfold g_ref_sectorFault at H
 refine as2 [0,1] [.g (GDisk.cs d0),.i i1] [] [] Y (sg 2 Y (rq Y (bx 2 Y) (ra Y (rz [1,2] [_,.q 2 (0)] [2] [.pure (GDisk.cs d0)] Y (QS (sg 3 Y (rp Y (pL U25 Y in_25 (Sub.refl _) (GDisk.len d0)) (bindK H fun r'1 h1 H=>rp Y (pc Y Try.func12 Y (g_ref_DiskFault_ac h1) Y) (ra Y (rz [1,2,5] [_,_,.i r'1] [2] [_] Y (sg 2 Y (rm Y (rp Y (pn Y) (rz [1,2,5,9] [_,_,_,.b (decide (r'1≠0))] [2] [_] Y (if2 H Y (fun h2 H=>?_) (fun h2 H=>?_))))))))))))))))
 ·refine sg 2 Y (rm Y (ra Y (rz [4] [.i r'1] [] [] Y (QR ?_))))
  have z:=se H;subst z
  exact ⟨⟨rt,trivial⟩,trivial⟩
 refine as2 [1,2] [_,_] [2] [_] Y (QK (QS (QS (AW2_mid (⟨[(19,.b (decide ((i1 < 0)∨(i1≥(d0.Lasts.length:Int)))))],[],20⟩:TS) ?_ ?_))))
 ·refine ar 9 Y (rm Y (rp Y (pb Y Y) (rm Y ?_)))
  refine (Classical.em (i1 < 0)).elim (fun h3=>?_) (fun h3=>?_)
  ·exact rO Y (dT h3) Y (rO Y (dT h3) Y (rO Y (dT h3) Y (rO Y (dT h3) Y (rO Y (dT h3) Y (rp Y (p_pkt Y Y (dT h3) (tb (dT (p:=(i1 < 0)∨(i1≥(d0.Lasts.length:Int))) (Or.inl h3)).symm)) (rend Y Y))))))
  exact rn Y (dF h3) Y (p_move Y Y) (rn Y (dF h3) Y (uf U25 Y in_22 Y (GDisk.len d0)) (rn Y (dF h3) Y (pl U22 Y (GDisk.sub0 d0)) (rn Y (dF h3) Y (p_lenl Y U22 Y Y) (rn Y (dF h3) Y (pb Y Y) (rp Y (p_pkf Y Y (dF h3) (tb ((or_l (q:=i1≥(d0.Lasts.length:Int)) h3)))) (rend Y Y))))))
 refine if2 H Y (fun h4 H=>?_) (fun h4 H=>?_)
 ·refine sg 1 Y (ra Y (rz [4] [.i 6] [] [] Y (QR ?_)))
  have z:=se H;subst z
  exact ⟨⟨rt,trivial⟩,trivial⟩
 refine as2 [] [] [] [] Y (QK (sg 1 Y (ra Y (rz [4] [.i 0] [] [] Y (QR ?_)))))
 have z:=se H;subst z
 exact ⟨⟨rt,trivial⟩,trivial⟩
def g_ref_Wrote_r6:List (List (Nat×Option Nat)):=[[(3,none)],[(21,some 0)],[],[(3,none)],[(24,some 3)],[(23,some 2),(25,some 4)],[(1,none)],[(5,none)],[(27,some 6),(28,some 7)],[(29,some 8)],[(26,some 5),(30,some 9)]]
def g_ref_Wrote_r6c:List (List Nat):=[[],[0],[],[],[3],[2,3,4],[],[],[6,7],[6,7,8],[2,3,4,5,6,7,8,9],[0,1,2,3,4,5,6,7,8,9,10],[0,1,2,3,4,5,6,7,8,9,10,11],[0,1,2,3,4,5,6,7,8,9,10,11,12]]
noncomputable def g_ref_Wrote (d0:GDisk) (i1:Int) (b2:Vector UInt8 32):Option (GDisk×Int) :=
  (g_ref_sectorFault d0 i1).bind fun r'1=>(if r'1≠(0:Int) then some (GDisk.zero,r'1) else (if (d0.Writes.length:Int)=(60:Int) then some (GDisk.zero,(9:Int)) else if room (([]:List GPut).length+d0.Writes.length) 40 then if room ((([]:List GPut)++d0.Writes).length+([{ { GPut.zero with At:=i1 } with Data:=b2 }]:List GPut).length) 40 then letO ({ { GDisk.zero with Lasts:=d0.Lasts } with Writes:=(([]:List GPut)++d0.Writes)++([{ { GPut.zero with At:=i1 } with Data:=b2 }]:List GPut) }) fun t6'2=>some (t6'2,(0:Int)) else none else none))
theorem g_ref_Wrote_ac {d0:GDisk} {i1:Int} {b2:Vector UInt8 32} {r:GDisk×Int} (H:g_ref_Wrote d0 i1 b2=some r):ACp Try.prog 20 [(.agg (GDisk.cs d0)),(AV.int i1),(.agg (bcells b2.toList))] (.tup [(.agg (GDisk.cs r.1)),(AV.int r.2)]):=by
 refine ACp_of (AC2_of_body (vs:=[.g (GDisk.cs r.1),.i r.2]) Try.func20 Y Y (lb Y) Y ?_) (fun _=>.same _)
 unfold g_ref_Wrote at H
 refine as2 [0,1,2] [.g (GDisk.cs d0),.i i1,.g (bcells b2.toList)] [] [] Y (sg 4 Y (rq Y (bx 3 Y) (rq Y (bx 5 Y) (rq Y (al 6 in_25 one_25 zc_25 Y) (ra Y (rz [1,3,5,6] [_,.q 3 (0),.q 5 (0),.q 6 (0)] [3,5,6] [.pure (GDisk.cs d0),.pure (bcells b2.toList),.pure (GDisk.cs GDisk.zero)] Y (QS (sg 4 Y (rp Y (pL U25 Y in_25 (Sub.refl _) (GDisk.len d0)) (rm Y (bindK H fun r'1 h1 H=>rp Y (pc Y Try.func29 Y (g_ref_sectorFault_ac h1) Y) (ra Y (rz [1,3,5,6,8] [_,_,_,_,.i r'1] [3,5,6] [_,_,_] Y (sg 2 Y (rm Y (rp Y (pn Y) (rz [1,3,5,6,8,13] [_,_,_,_,_,.b (decide (r'1≠0))] [3,5,6] [_,_,_] Y (if2 H Y (fun h2 H=>?_) (fun h2 H=>?_)))))))))))))))))))
 ·refine sg 4 Y (rp Y (u_bld Y in_25 one_25 zc_25 pl_25 Y Y) (rm Y (rq Y (u_sw Y Y in_25 (GDisk.len GDisk.zero) (GDisk.len GDisk.zero)) (ra Y (rz [6,7] [_,.i r'1] [6] [_] Y (QR ?_))))))
  have z:=se H;subst z
  exact ⟨⟨rcw U25 Y in_25 Y (GDisk.len GDisk.zero),rt,trivial⟩,trivial⟩
 refine as2 [1,3,5,6] [_,_,_,_] [3,5,6] [_,_,_] Y (QK (QS (sg 4 Y (rf Y U25 Y in_23 Y Y (GDisk.len d0) (rp Y (pl U23 Y (GDisk.sub1 d0)) (rp Y (p_lenl Y U23 Y Y) (rp Y (pi Y) (rz [1,3,5,6,19] [_,_,_,_,.b (decide ((d0.Writes.length:Int)=60))] [3,5,6] [_,_,_] Y (if2 H Y (fun h3 H=>?_) (fun h3 H=>?_))))))))))
 ·refine sg 3 Y (rp Y (u_bld Y in_25 one_25 zc_25 pl_25 Y Y) (rq Y (u_sw Y Y in_25 (GDisk.len GDisk.zero) (GDisk.len GDisk.zero)) (ra Y (rz [6,7] [_,.i 9] [6] [_] Y (QR ?_)))))
  have z:=se H;subst z
  exact ⟨⟨rcw U25 Y in_25 Y (GDisk.len GDisk.zero),rt,trivial⟩,trivial⟩
 refine as2 [1,3,5,6] [_,_,_,_] [3,5,6] [_,_,_] Y (QK (QS (chkK H fun h4 H=>chkK H fun h5 H=>AW2_ghoQ (AW2_drawC 11 [11,12,13] (fun k=>([.q 3 (0+0),.p ((fun q:List (Vector UInt8 32)=>AV.lst (q.flatMap (fun v:Vector UInt8 32=>bcells v.toList)) q.length) d0.Lasts),.c (.own 23 0 33),.q 3 (0+1),.p (GPut.ls d0.Writes),.c (.own 23 (([]:List GPut)++d0.Writes).length 33),.i i1,.g (bcells b2.toList),.g (GPut.cs ((GPut.w1 (GPut.w0 GPut.zero i1) b2))),.c (.own 30 1 33),.c (.own 23 ((([]:List GPut)++d0.Writes)++([(GPut.w1 (GPut.w0 GPut.zero i1) b2)]:List GPut)).length 33)]:List TV).getD k TV.any) (fun k=>g_ref_Wrote_r6.getD k []) [(6,none),(22,some 1),(31,some 10)] [(2,23,(([]:List GPut).flatMap GPut.cs)),(9,30,(([(GPut.w1 (GPut.w0 GPut.zero i1) b2)]:List GPut).flatMap GPut.cs))] [(10,23,.pure (((([]:List GPut)++d0.Writes)++([(GPut.w1 (GPut.w0 GPut.zero i1) b2)]:List GPut)).flatMap GPut.cs)),(5,23,.pure ((([]:List GPut)++d0.Writes).flatMap GPut.cs))] [5,10] (fun k=>([[(3,none)],[(3,none)],[],[(3,none)],[(3,none)],[(23,none)],[],[(5,none)],[],[],[(23,some 5),(30,none)]]:List (List (Nat×Option Nat))).getD k []) (fun k=>g_ref_Wrote_r6c.getD k []) mixed (by kernel_rfl) Y Y Y (a_op (gu_x Y (y_p Y Y (uf U25 Y in_22 Y (GDisk.len d0)) Y)) (a_op (gu_x Y (y_p Y Y (pl U22 Y (GDisk.sub0 d0)) Y)) (a_op (gu_x Y (y_m Y Y (n_bs0 23 Y U23 in_70) Y Y)) (a_op (gu_x Y (y_p Y Y (uf U25 Y in_23 Y (GDisk.len d0)) Y)) (a_op (gu_x Y (y_p Y Y (pl U23 Y (GDisk.sub1 d0)) Y)) (a_op (gu_x Y (y_a Y Y Y Y (AppD_app Y Y Y U23 U23 in_70 Y Y Y (fm_length GPut.len ([]:List GPut)) (by decide) Y (fm_length GPut.len d0.Writes) h4 (by decide) (fapp GPut.cs ([]:List GPut) d0.Writes) (lapp ([]:List GPut) d0.Writes)) Y Y)) (a_op (gu_x Y (y_p Y Y (p_move Y Y) Y)) (a_op (gu_x Y (y_p Y Y (pL U32 Y in_32 (Sub.refl _) ((bcells_length _).trans (vlen b2))) Y)) (a_op (gu_x Y (y_p Y Y (u_bld Y in_70 one_70 zc_70 pl_70 Y (af_cons Y Y (GPut.upd0 GPut.zero i1) (af_cons Y ((bcells_length _).trans (vlen b2)) (GPut.upd1 ((GPut.w0 GPut.zero i1)) b2) Y))) Y)) (a_op (gu_x Y (y_m Y Y (u_bs 30 Y U23 in_70 Y one_70 (by decide) (by decide) zc_70 Y (af_lit (g:=GPut.cs) GPut.len (GPut.len GPut.zero) [(GPut.w1 (GPut.w0 GPut.zero i1) b2)])) Y Y)) (a_op (gu_x Y (y_a Y Y Y Y (AppD_app Y Y Y U23 U23 in_70 Y Y Y (fm_length GPut.len (([]:List GPut)++d0.Writes)) (by decide) (srcT_o Y Y (fm_length GPut.len ([(GPut.w1 (GPut.w0 GPut.zero i1) b2)]:List GPut)) (by decide)) (fm_length GPut.len ([(GPut.w1 (GPut.w0 GPut.zero i1) b2)]:List GPut)) h5 (by decide) (fapp GPut.cs (([]:List GPut)++d0.Writes) ([(GPut.w1 (GPut.w0 GPut.zero i1) b2)]:List GPut)) (lapp (([]:List GPut)++d0.Writes) ([(GPut.w1 (GPut.w0 GPut.zero i1) b2)]:List GPut))) Y Y)) (a_nil)))))))))))) (t_op Y Y (OpD_gho (Gho_pubs [31] ⟨Y,trivial⟩ Y (fm_length GPut.len ((([]:List GPut)++d0.Writes)++([(GPut.w1 (GPut.w0 GPut.zero i1) b2)]:List GPut))) (by decide)) (PureD.opD (u_bld Y in_25 one_25 zc_25 pl_25 Y (af_cons Y Y (GDisk.upd0 GDisk.zero d0.Lasts) (af_cons Y Y (GDisk.upd1 ((GDisk.w0 GDisk.zero d0.Lasts)) ((([]:List GPut)++d0.Writes)++([(GPut.w1 (GPut.w0 GPut.zero i1) b2)]:List GPut))) Y))))) (t_op Y Y (u_sw Y Y in_25 (GDisk.len ((GDisk.w1 (GDisk.w0 GDisk.zero d0.Lasts) ((([]:List GPut)++d0.Writes)++([(GPut.w1 (GPut.w0 GPut.zero i1) b2)]:List GPut))))) (GDisk.len GDisk.zero)) (t_op Y Y (PureD.opD (p_asg Y Y)) (t_gho (Gho_st (L:=[(6,.q 6 (0)),(7,.i 0)]) (H:=[(6,.pure (GDisk.cs ((GDisk.w1 (GDisk.w0 GDisk.zero d0.Lasts) ((([]:List GPut)++d0.Writes)++([(GPut.w1 (GPut.w0 GPut.zero i1) b2)]:List GPut))))))]) (N:=33) Y ⟨TLes.same _,TLes.same _,trivial⟩ ⟨Y,trivial⟩) (gen1 (fun t6'2=>(⟨[(6,.q 6 (0)),(7,.i 0)],[(6,.pure (GDisk.cs t6'2))],33⟩:TS)) H ?_)))))))))
 intro t6'2 H
 refine QR ?_
 have z:=se H;subst z
 exact ⟨⟨rcw U25 Y in_25 Y (GDisk.len t6'2),rt,trivial⟩,trivial⟩
def g_law_sameDisk_r6:List (List (Nat×Option Nat)):=[[(2,none)],[(29,some 0)],[(5,none)],[(30,some 1),(31,some 2)],[(32,some 3)],[(3,none)],[(34,some 5)],[(5,none)],[(35,some 6),(36,some 7)],[(37,some 8)]]
def g_law_sameDisk_r6c:List (List Nat):=[[],[0],[],[0,1,2],[0,1,2,3],[],[5],[],[5,6,7],[5,6,7,8],[0,1,2,3,4,5,6,7,8,9]]
def g_law_sameDisk_r12:List (List (Nat×Option Nat)):=[[(2,none)],[(47,some 0)],[(6,none)],[(48,some 1),(49,some 2)],[(50,some 3)],[(3,none)],[(52,some 5)],[(6,none)],[(53,some 6),(54,some 7)],[(55,some 8)]]
def g_law_sameDisk_r12c:List (List Nat):=[[],[0],[],[0,1,2],[0,1,2,3],[],[5],[],[5,6,7],[5,6,7,8],[0,1,2,3,4,5,6,7,8,9]]
noncomputable def g_law_sameDisk_l0 (a0:GDisk) (b1:GDisk):Int→Option (Int⊕(Bool⊕Unit))
  | t26_0=>(if t26_0 < (a0.Lasts.length:Int) then if 0≤t26_0∧t26_0 < (a0.Lasts.length:Int) then if 0≤t26_0∧t26_0 < (b1.Lasts.length:Int) then (if (lrd a0.Lasts t26_0.toNat)≠(lrd b1.Lasts t26_0.toNat) then some (.inr (.inl false)) else some (.inl (w64 (t26_0+(1:Int))))) else none else none else some (.inr (.inr ())))
noncomputable def g_law_sameDisk_l1 (a0:GDisk) (b1:GDisk):Int→Option (Int⊕(Bool⊕Unit))
  | t44_1=>(if t44_1 < (a0.Writes.length:Int) then if 0≤t44_1∧t44_1 < (a0.Writes.length:Int) then if 0≤t44_1∧t44_1 < (b1.Writes.length:Int) then (if (lrd a0.Writes t44_1.toNat)≠(lrd b1.Writes t44_1.toNat) then some (.inr (.inl false)) else some (.inl (w64 (t44_1+(1:Int))))) else none else none else some (.inr (.inr ())))
noncomputable def g_law_sameDisk (a0:GDisk) (b1:GDisk):Option (Bool) :=
  (if ((a0.Lasts.length:Int)≠(b1.Lasts.length:Int))∨((a0.Writes.length:Int)≠(b1.Writes.length:Int)) then some false else (loopO (g_law_sameDisk_l0 a0 b1) (0:Int)).bind fun o'4=>match o'4 with | .inl y'5=>some y'5 | .inr (y'6)=>(loopO (g_law_sameDisk_l1 a0 b1) (0:Int)).bind fun o'10=>match o'10 with | .inl y'11=>some y'11 | .inr (y'12)=>some true)
theorem g_law_sameDisk_ac {a0:GDisk} {b1:GDisk} {r:Bool} (H:g_law_sameDisk a0 b1=some r):ACp Try.prog 13 [(.agg (GDisk.cs a0)),(.agg (GDisk.cs b1))] (AV.bool r):=by
 refine ACp_of (AC2_of_body (vs:=[.b r]) Try.func13 Y Y (lb Y) Y ?_) (fun _=>.same _)
 unfold g_law_sameDisk at H
 refine as2 [0,1] [.g (GDisk.cs a0),.g (GDisk.cs b1)] [] [] Y (sg 3 Y (rq Y (bx 2 Y) (rq Y (bx 3 Y) (ra Y (rz [2,3] [.q 2 (0),.q 3 (0)] [2,3] [.pure (GDisk.cs a0),.pure (GDisk.cs b1)] Y (QS (QS (AW2_mid (⟨[(2,.q 2 (0)),(3,.q 3 (0)),(22,.b (decide (((a0.Lasts.length:Int)≠(b1.Lasts.length:Int))∨((a0.Writes.length:Int)≠(b1.Writes.length:Int)))))],[(2,.pure (GDisk.cs a0)),(3,.pure (GDisk.cs b1))],59⟩:TS) ?_ ?_))))))))
 ·refine ar 16 Y (rf Y U25 Y in_22 Y Y (GDisk.len a0) (rp Y (pl U22 Y (GDisk.sub0 a0)) (rp Y (p_lenl Y U22 Y Y) (rf Y U25 Y in_22 Y Y (GDisk.len b1) (rp Y (pl U22 Y (GDisk.sub0 b1)) (rp Y (p_lenl Y U22 Y Y) (rp Y (pn Y) (rm Y ?_))))))))
  refine (Classical.em ((a0.Lasts.length:Int)≠(b1.Lasts.length:Int))).elim (fun h1=>?_) (fun h1=>?_)
  ·exact rO Y (dT h1) Y (rO Y (dT h1) Y (rO Y (dT h1) Y (rO Y (dT h1) Y (rO Y (dT h1) Y (rO Y (dT h1) Y (rO Y (dT h1) Y (rp Y (p_pkt Y Y (dT h1) (tb (dT (p:=((a0.Lasts.length:Int)≠(b1.Lasts.length:Int))∨((a0.Writes.length:Int)≠(b1.Writes.length:Int))) (Or.inl h1)).symm)) (rend Y Y))))))))
  exact rn Y (dF h1) Y (uf U25 Y in_23 Y (GDisk.len a0)) (rn Y (dF h1) Y (pl U23 Y (GDisk.sub1 a0)) (rn Y (dF h1) Y (p_lenl Y U23 Y Y) (rn Y (dF h1) Y (uf U25 Y in_23 Y (GDisk.len b1)) (rn Y (dF h1) Y (pl U23 Y (GDisk.sub1 b1)) (rn Y (dF h1) Y (p_lenl Y U23 Y Y) (rn Y (dF h1) Y (pn Y) (rp Y (p_pkf Y Y (dF h1) (tb ((or_l (q:=(a0.Writes.length:Int)≠(b1.Writes.length:Int)) h1)))) (rend Y Y))))))))
 refine if2 H Y (fun h2 H=>?_) (fun h2 H=>?_)
 ·refine sg 1 Y (ra Y (rz [4] [.b false] [] [] Y (QR ?_)))
  have z:=se H;subst z
  exact ⟨⟨rt,trivial⟩,trivial⟩
 refine as2 [2,3] [_,_] [2,3] [_,_] Y (QK (QS (sg 4 Y (rf Y U25 Y in_22 Y Y (GDisk.len a0) (rp Y (pl U22 Y (GDisk.sub0 a0)) (rp Y (p_lenl Y U22 Y Y) (rm Y (rz [2,3,25,26] [_,_,.i (a0.Lasts.length:Int),.i 0] [2,3] [_,_] Y (QB (as2 [2,3,25,26] [_,_,_,_] [2,3] [_,_] Y (bindK H fun o'4 h7 H=>AW2_loopO (fun a'1:Int=>(⟨[(2,.q 2 (0)),(3,.q 3 (0)),(25,.i (a0.Lasts.length:Int)),(26,.i a'1)],[(2,.pure (GDisk.cs a0)),(3,.pure (GDisk.cs b1))],59⟩:TS)) (fun (o:Bool⊕Unit) e s'=>match o with | .inl y'2=>e=Go.Exit.ret∧ResAll Try.prog s' [ResultVar.tmp 4] [.b y'2]∧HFits s' [] | .inr (y'3)=>e=Go.Exit.exit 0∧s'=(⟨[(2,.q 2 (0)),(3,.q 3 (0))],[(2,.pure (GDisk.cs a0)),(3,.pure (GDisk.cs b1))],59⟩:TS)) h7 Y (fun t26_0 x hx=>?_) (fun e s' hs=>?_))))))))))))
 ·clear H
  have H:=hx
  clear hx
  unfold g_law_sameDisk_l0 at H
  refine sg 1 Y (rp Y (pb Y Y) (rz [2,3,25,26,27] [.q 2 (0),.q 3 (0),.i (a0.Lasts.length:Int),.i t26_0,.b (decide (t26_0 < (a0.Lasts.length:Int)))] [2,3] [.pure (GDisk.cs a0),.pure (GDisk.cs b1)] Y (QS (if2 H Y (fun h3 H=>?_) (fun h3 H=>?_)))))
  ·refine as2 [2,3,25,26] [_,_,_,_] [2,3] [_,_] Y (QK (QS (QB (sg 2 Y (rm Y (ra Y (rz [2,3,5,25,26] [_,_,.i t26_0,_,_] [2,3] [_,_] Y (QS (chkK H fun h4 H=>chkK H fun h5 H=>AW2_ghoQ (AW2_draw 10 [10] (fun k=>([.q 2 (0+0),.p ((fun q:List (Vector UInt8 32)=>AV.lst (q.flatMap (fun v:Vector UInt8 32=>bcells v.toList)) q.length) a0.Lasts),.i t26_0,.p (.rptr (a0.Lasts.flatMap (fun v:Vector UInt8 32=>bcells v.toList)) (t26_0.toNat * 32)),.g (bcells ((lrd a0.Lasts t26_0.toNat).toList)),.q 3 (0+0),.p ((fun q:List (Vector UInt8 32)=>AV.lst (q.flatMap (fun v:Vector UInt8 32=>bcells v.toList)) q.length) b1.Lasts),.i t26_0,.p (.rptr (b1.Lasts.flatMap (fun v:Vector UInt8 32=>bcells v.toList)) (t26_0.toNat * 32)),.g (bcells ((lrd b1.Lasts t26_0.toNat).toList))]:List TV).getD k TV.any) (fun k=>g_law_sameDisk_r6.getD k []) [(2,none),(3,none),(25,none),(26,none),(33,some 4),(38,some 9)] [] (fun k=>g_law_sameDisk_r6c.getD k []) mixed (by kernel_rfl) Y Y (a_op (g_x Y (x_p Y (uf U25 Y in_22 Y (GDisk.len a0)) Y)) (a_op (g_x Y (x_p Y (pl U22 Y (GDisk.sub0 a0)) Y)) (a_op (g_x Y (x_p Y (p_move Y Y) Y)) (a_op (g_x Y (x_p Y (u_ixl Y Y U22 in_32 Y Y (ixe h4) (ixn h4) (fne (fun x=>((bcells_length _).trans (vlen x))) (by decide) (ixn h4))) Y)) (a_op (g_x Y (x_p Y (pL U32 Y in_32 (Sub.fm default (fun x=>((bcells_length _).trans (vlen x))) (ixn h4)) ((bcells_length _).trans (vlen (lrd a0.Lasts t26_0.toNat)))) Y)) (a_op (g_x Y (x_p Y (uf U25 Y in_22 Y (GDisk.len b1)) Y)) (a_op (g_x Y (x_p Y (pl U22 Y (GDisk.sub0 b1)) Y)) (a_op (g_x Y (x_p Y (p_move Y Y) Y)) (a_op (g_x Y (x_p Y (u_ixl Y Y U22 in_32 Y Y (ixe h5) (ixn h5) (fne (fun x=>((bcells_length _).trans (vlen x))) (by decide) (ixn h5))) Y)) (a_op (g_x Y (x_p Y (pL U32 Y in_32 (Sub.fm default (fun x=>((bcells_length _).trans (vlen x))) (ixn h5)) ((bcells_length _).trans (vlen (lrd b1.Lasts t26_0.toNat)))) Y)) (a_nil))))))))))) (t_op Y Y (PureD.opD (p_nea (a:=(lrd a0.Lasts t26_0.toNat)) (b:=(lrd b1.Lasts t26_0.toNat)) Y eq_32 Y (by kernel_rfl) Y Y)) (t_gho (Gho_st (L:=[(2,.q 2 (0)),(3,.q 3 (0)),(25,.i (a0.Lasts.length:Int)),(26,.i t26_0),(39,.b (decide ((lrd a0.Lasts t26_0.toNat)≠(lrd b1.Lasts t26_0.toNat))))]) (H:=[(2,.pure (GDisk.cs a0)),(3,.pure (GDisk.cs b1))]) (N:=59) Y ⟨TLes.same _,TLes.same _,TLes.same _,TLes.same _,TLes.same _,trivial⟩ ⟨Y,Y,trivial⟩) (if2 H Y (fun h6 H=>?_) (fun h6 H=>?_))))))))))))))
   ·refine sg 1 Y (ra Y (rz [4] [.b false] [] [] Y (QR ?_)))
    have z:=se H;subst z
    exact ⟨Y,⟨rt,trivial⟩,trivial⟩
   refine as2 [2,3,25,26] [.q 2 (0),.q 3 (0),.i (a0.Lasts.length:Int),.i t26_0] [2,3] [.pure (GDisk.cs a0),.pure (GDisk.cs b1)] Y (QK (ar 2 Y (rp Y (pb Y Y) (rm Y (rz [2,3,25,26] [_,_,_,.i (w64 (t26_0+1))] [2,3] [_,_] Y ?_)))))
   have z:=se H;subst z
   exact ⟨Y,Y⟩
  refine as2 [2,3] [_,_] [2,3] [_,_] Y (AW2_exit (thenQ2_exit ?_))
  have z:=se H;subst z
  exact ⟨Y,Y⟩
 rcases o'4 with y'5 | y'6
 ·obtain ⟨rfl,hs⟩:=hs
  refine ⟨by simp,?_⟩
  have z:=se H;subst z
  exact ⟨hs.1,hs.2⟩
 obtain ⟨rfl,rfl⟩:=hs
 refine ⟨by simp,?_⟩
 refine blockQ2_exit (QS (sg 4 Y (rf Y U25 Y in_23 Y Y (GDisk.len a0) (rp Y (pl U23 Y (GDisk.sub1 a0)) (rp Y (p_lenl Y U23 Y Y) (rm Y (rz [2,3,43,44] [.q 2 (0),.q 3 (0),.i (a0.Writes.length:Int),.i 0] [2,3] [.pure (GDisk.cs a0),.pure (GDisk.cs b1)] Y (QB (as2 [2,3,43,44] [_,_,_,_] [2,3] [_,_] Y (bindK H fun o'10 h12 H=>AW2_loopO (fun a'7:Int=>(⟨[(2,.q 2 (0)),(3,.q 3 (0)),(43,.i (a0.Writes.length:Int)),(44,.i a'7)],[(2,.pure (GDisk.cs a0)),(3,.pure (GDisk.cs b1))],59⟩:TS)) (fun (o:Bool⊕Unit) e s'=>match o with | .inl y'8=>e=Go.Exit.ret∧ResAll Try.prog s' [ResultVar.tmp 4] [.b y'8]∧HFits s' [] | .inr (y'9)=>e=Go.Exit.exit 2∧s'=(⟨[],[],59⟩:TS)) h12 Y (fun t44_1 x hx=>?_) (fun e s' hs=>?_)))))))))))
 ·clear H
  have H:=hx
  clear hx
  unfold g_law_sameDisk_l1 at H
  refine sg 1 Y (rp Y (pb Y Y) (rz [2,3,43,44,45] [.q 2 (0),.q 3 (0),.i (a0.Writes.length:Int),.i t44_1,.b (decide (t44_1 < (a0.Writes.length:Int)))] [2,3] [.pure (GDisk.cs a0),.pure (GDisk.cs b1)] Y (QS (if2 H Y (fun h8 H=>?_) (fun h8 H=>?_)))))
  ·refine as2 [2,3,43,44] [_,_,_,_] [2,3] [_,_] Y (QK (QS (QB (sg 2 Y (rm Y (ra Y (rz [2,3,6,43,44] [_,_,.i t44_1,_,_] [2,3] [_,_] Y (QS (chkK H fun h9 H=>chkK H fun h10 H=>AW2_ghoQ (AW2_draw 10 [10] (fun k=>([.q 2 (0+1),.p (GPut.ls a0.Writes),.i t44_1,.p (.rptr (a0.Writes.flatMap GPut.cs) (t44_1.toNat * 33)),.g (GPut.cs (lrd a0.Writes t44_1.toNat)),.q 3 (0+1),.p (GPut.ls b1.Writes),.i t44_1,.p (.rptr (b1.Writes.flatMap GPut.cs) (t44_1.toNat * 33)),.g (GPut.cs (lrd b1.Writes t44_1.toNat))]:List TV).getD k TV.any) (fun k=>g_law_sameDisk_r12.getD k []) [(2,none),(3,none),(43,none),(44,none),(51,some 4),(56,some 9)] [] (fun k=>g_law_sameDisk_r12c.getD k []) mixed (by kernel_rfl) Y Y (a_op (g_x Y (x_p Y (uf U25 Y in_23 Y (GDisk.len a0)) Y)) (a_op (g_x Y (x_p Y (pl U23 Y (GDisk.sub1 a0)) Y)) (a_op (g_x Y (x_p Y (p_move Y Y) Y)) (a_op (g_x Y (x_p Y (u_ixl Y Y U23 in_70 Y Y (ixe h9) (ixn h9) (fne GPut.len (by decide) (ixn h9))) Y)) (a_op (g_x Y (x_p Y (pL U70 Y in_70 (Sub.fm default GPut.len (ixn h9)) (GPut.len (lrd a0.Writes t44_1.toNat))) Y)) (a_op (g_x Y (x_p Y (uf U25 Y in_23 Y (GDisk.len b1)) Y)) (a_op (g_x Y (x_p Y (pl U23 Y (GDisk.sub1 b1)) Y)) (a_op (g_x Y (x_p Y (p_move Y Y) Y)) (a_op (g_x Y (x_p Y (u_ixl Y Y U23 in_70 Y Y (ixe h10) (ixn h10) (fne GPut.len (by decide) (ixn h10))) Y)) (a_op (g_x Y (x_p Y (pL U70 Y in_70 (Sub.fm default GPut.len (ixn h10)) (GPut.len (lrd b1.Writes t44_1.toNat))) Y)) (a_nil))))))))))) (t_op Y Y (PureD.opD (p_nea (a:=(lrd a0.Writes t44_1.toNat)) (b:=(lrd b1.Writes t44_1.toNat)) Y eq_70 Y (by kernel_rfl) Y Y)) (t_gho (Gho_st (L:=[(2,.q 2 (0)),(3,.q 3 (0)),(43,.i (a0.Writes.length:Int)),(44,.i t44_1),(57,.b (decide ((lrd a0.Writes t44_1.toNat)≠(lrd b1.Writes t44_1.toNat))))]) (H:=[(2,.pure (GDisk.cs a0)),(3,.pure (GDisk.cs b1))]) (N:=59) Y ⟨TLes.same _,TLes.same _,TLes.same _,TLes.same _,TLes.same _,trivial⟩ ⟨Y,Y,trivial⟩) (if2 H Y (fun h11 H=>?_) (fun h11 H=>?_))))))))))))))
   ·refine sg 1 Y (ra Y (rz [4] [.b false] [] [] Y (QR ?_)))
    have z:=se H;subst z
    exact ⟨Y,⟨rt,trivial⟩,trivial⟩
   refine as2 [2,3,43,44] [.q 2 (0),.q 3 (0),.i (a0.Writes.length:Int),.i t44_1] [2,3] [.pure (GDisk.cs a0),.pure (GDisk.cs b1)] Y (QK (ar 2 Y (rp Y (pb Y Y) (rm Y (rz [2,3,43,44] [_,_,_,.i (w64 (t44_1+1))] [2,3] [_,_] Y ?_)))))
   have z:=se H;subst z
   exact ⟨Y,Y⟩
  refine as2 [] [] [] [] Y (AW2_exit (thenQ2_exit ?_))
  have z:=se H;subst z
  exact ⟨Y,Y⟩
 rcases o'10 with y'11 | y'12
 ·obtain ⟨rfl,hs⟩:=hs
  refine ⟨by simp,?_⟩
  have z:=se H;subst z
  exact ⟨hs.1,hs.2⟩
 obtain ⟨rfl,rfl⟩:=hs
 refine ⟨by simp,?_⟩
 refine blockQ2_exit (sg 1 Y (ra Y (rz [4] [.b true] [] [] Y (QR ?_))))
 have z:=se H;subst z
 exact ⟨⟨rt,trivial⟩,trivial⟩
noncomputable def g_law_DiskWrites (d0:GDisk) (i1:Int) (s2:Vector UInt8 32):Option (Bool) :=
  (g_disk_Write d0 i1 s2).bind fun r'1=>(g_ref_Wrote d0 i1 s2).bind fun r'2=>((if r'1.2=r'2.2 then (g_law_sameDisk r'1.1 r'2.1).bind fun r'4=>some r'4 else some false)).bind fun g'5=>some g'5
theorem g_law_DiskWrites_ac {d0:GDisk} {i1:Int} {s2:Vector UInt8 32} {r:Bool} (H:g_law_DiskWrites d0 i1 s2=some r):ACp Try.prog 6 [(.agg (GDisk.cs d0)),(AV.int i1),(.agg (bcells s2.toList))] (AV.bool r):=by
 refine ACp_of (AC2_of_body (vs:=[.b r]) Try.func6 Y Y (lb Y) Y ?_) (fun _=>.same _)
 unfold g_law_DiskWrites at H
 refine as2 [0,1,2] [.g (GDisk.cs d0),.i i1,.g (bcells s2.toList)] [] [] Y (sg 3 Y (rq Y (bx 3 Y) (rq Y (bx 5 Y) (ra Y (rz [1,3,5] [_,.q 3 (0),.q 5 (0)] [3,5] [.pure (GDisk.cs d0),.pure (bcells s2.toList)] Y (sg 10 Y (rp Y (pL U25 Y in_25 (Sub.refl _) (GDisk.len d0)) (rm Y (rp Y (pL U32 Y in_32 (Sub.refl _) ((bcells_length _).trans (vlen s2))) (bindK H fun r'1 h1 H=>rp Y (pc Y Try.func19 Y (g_disk_Write_ac h1) Y) (rm Y (rp Y (pe Y) (rp Y (pe Y) (rq Y (al 7 in_25 one_25 zc_25 Y) (rq Y (u_sw Y Y in_25 (GDisk.len r'1.1) (GDisk.len GDisk.zero)) (ra Y (rz [1,3,5,7,8] [_,_,_,.q 7 (0),.i r'1.2] [3,5,7] [_,_,.pure (GDisk.cs r'1.1)] Y (sg 10 Y (rp Y (pL U25 Y in_25 (Sub.refl _) (GDisk.len d0)) (rm Y (rp Y (pL U32 Y in_32 (Sub.refl _) ((bcells_length _).trans (vlen s2))) (bindK H fun r'2 h2 H=>?_))))))))))))))))))))))
 refine rp Y (pc Y Try.func20 Y (g_ref_Wrote_ac h2) Y) (rm Y (rp Y (pe Y) (rp Y (pe Y) (rq Y (al 9 in_25 one_25 zc_25 Y) (rq Y (u_sw Y Y in_25 (GDisk.len r'2.1) (GDisk.len GDisk.zero)) (ra Y (rz [7,8,9,10] [_,_,.q 9 (0),.i r'2.2] [7,9] [_,.pure (GDisk.cs r'2.1)] Y (QS (bindK H fun g'5 h6 H=>AW2_mid (⟨[(6,.b g'5)],[],33⟩:TS) ?_ ?_)))))))))
 ·clear H
  have H:=h6
  clear h6
  refine ar 9 Y (rm Y (rm Y (rp Y (pi Y) (rm Y (em2 H (fun h4 H=>?_) (fun h4 H=>?_))))))
  ·refine rn Y (dT h4) Y (pL U25 Y in_25 (Sub.refl _) (GDisk.len r'1.1)) (rn Y (dT h4) Y (pL U25 Y in_25 (Sub.refl _) (GDisk.len r'2.1)) (bindK H fun r'4 h5 H=>rn Y (dT h4) Y (pc Y Try.func13 Y (g_law_sameDisk_ac h5) Y) (rp Y (p_pkt Y Y (dT h4) (.same _)) (ra Y (rs [6] [.b r'4] [] [] Y ?_)))))
   have z:=se H;subst z
   exact RunW_nil rfl
  refine rO Y (dF h4) Y (rO Y (dF h4) Y (rO Y (dF h4) Y (rp Y (p_pkf Y Y (dF h4) (.same _)) (ra Y (rs [6] [.b false] [] [] Y ?_)))))
  have z:=se H;subst z
  exact RunW_nil rfl
 refine QR ?_
 have z:=se H;subst z
 exact ⟨⟨rt,trivial⟩,trivial⟩
end Go.Proofs.Ytglgdaeimfdpfaa.VM
