/- Words and rules that the proof uses. -/
import Derived.Test.YthnkbagmaljjjaaGreatDoorTu4
namespace Go.Proofs.YthnkbagmaljjjaaGreatDoor.VM
open Go Go.RowKit
structure GSet where
  Col:List UInt8
  Expr:GExpr
def GSet.zero:GSet:=⟨[],GExpr.zero⟩
instance : Inhabited GSet := ⟨GSet.zero⟩
set_option maxRecDepth 100000 in
theorem ty_4 {d:Nat} {cs:List AV} (h:Typed Tryz.prog d 4 cs):∃ x:Bool,cs=[(AV.bool x)]∧okA x:=match d,h with
  | 0,h=>False.elim h
  | d+1,h=>ty_bool U4 h
set_option maxRecDepth 100000 in
theorem ty_9 {d:Nat} {cs:List AV} (h:Typed Tryz.prog d 9 cs):∃ x:List UInt8,cs=[(AV.txt x)]∧okT x:=match d,h with
  | 0,h=>False.elim h
  | d+1,h=>ty_text U9 h
set_option maxRecDepth 100000 in
theorem ty_3 {d:Nat} {cs:List AV} (h:Typed Tryz.prog d 3 cs):∃ x:Int,cs=[(AV.int x)]∧okI x:=match d,h with
  | 0,h=>False.elim h
  | d+1,h=>ty_int U3 h
def GColumn.ok (x:GColumn):Prop:=okT x.Name∧okI x.Kind∧okA x.Null
set_option maxRecDepth 100000 in
theorem ty_63 {d:Nat} {cs:List AV} (h:Typed Tryz.prog d 63 cs):∃ x:GColumn,cs=GColumn.cs x∧GColumn.ok x:=match d,h with
  | 0,h=>False.elim h
  | d+1,h=>by
    obtain ⟨es,rfl,hl,hf⟩:=ty_struct U63 h
    match es,hl,hf with
    | [e0,e1,e2],_,hf =>
    obtain ⟨x0,h0,q0⟩:=ty_9 (hf 0 _ e0 rfl rfl)
    obtain ⟨x1,h1,q1⟩:=ty_3 (hf 1 _ e1 rfl rfl)
    obtain ⟨x2,h2,q2⟩:=ty_4 (hf 2 _ e2 rfl rfl)
    refine ⟨⟨x0,x1,x2⟩,?_,⟨q0,q1,q2⟩⟩
    rw [h0,h1,h2]
    simp only [List.flatten_cons,List.flatten_nil,List.append_nil,GColumn.cs]
set_option maxRecDepth 100000 in
theorem ty_22 {d:Nat} {cs:List AV} (h:Typed Tryz.prog d 22 cs):∃ x:List GColumn,cs=[((fun q:List GColumn=>AV.lst (q.flatMap GColumn.cs) q.length) x)]∧(okL 32 GColumn.ok) x:=match d,h with
  | 0,h=>False.elim h
  | d+1,h=>ty_slicef (g:=fun b:GColumn=>GColumn.cs b) U22 (bytes_of in_63) (fun _ hx=>ty_63 hx) h
set_option maxRecDepth 100000 in
theorem ty_30 {d:Nat} {cs:List AV} (h:Typed Tryz.prog d 30 cs):∃ x:UInt64,cs=[(AV.u64 x)]∧okA x:=match d,h with
  | 0,h=>False.elim h
  | d+1,h=>ty_u64 U30 h
def GValue.ok (x:GValue):Prop:=okI x.Kind∧okI x.Int_∧okA x.Bits∧okT x.Text
set_option maxRecDepth 100000 in
theorem ty_32 {d:Nat} {cs:List AV} (h:Typed Tryz.prog d 32 cs):∃ x:GValue,cs=GValue.cs x∧GValue.ok x:=match d,h with
  | 0,h=>False.elim h
  | d+1,h=>by
    obtain ⟨es,rfl,hl,hf⟩:=ty_struct U32 h
    match es,hl,hf with
    | [e0,e1,e2,e3],_,hf =>
    obtain ⟨x0,h0,q0⟩:=ty_3 (hf 0 _ e0 rfl rfl)
    obtain ⟨x1,h1,q1⟩:=ty_3 (hf 1 _ e1 rfl rfl)
    obtain ⟨x2,h2,q2⟩:=ty_30 (hf 2 _ e2 rfl rfl)
    obtain ⟨x3,h3,q3⟩:=ty_9 (hf 3 _ e3 rfl rfl)
    refine ⟨⟨x0,x1,x2,x3⟩,?_,⟨q0,q1,q2,q3⟩⟩
    rw [h0,h1,h2,h3]
    simp only [List.flatten_cons,List.flatten_nil,List.append_nil,GValue.cs]
set_option maxRecDepth 100000 in
theorem ty_23 {d:Nat} {cs:List AV} (h:Typed Tryz.prog d 23 cs):∃ x:List GValue,cs=[((fun q:List GValue=>AV.lst (q.flatMap GValue.cs) q.length) x)]∧(okL 40 GValue.ok) x:=match d,h with
  | 0,h=>False.elim h
  | d+1,h=>ty_slicef (g:=fun b:GValue=>GValue.cs b) U23 (bytes_of in_32) (fun _ hx=>ty_32 hx) h
def GCell.ok (x:GCell):Prop:=okA x.Full∧(okL 40 GValue.ok) x.Row
set_option maxRecDepth 100000 in
theorem ty_25 {d:Nat} {cs:List AV} (h:Typed Tryz.prog d 25 cs):∃ x:GCell,cs=GCell.cs x∧GCell.ok x:=match d,h with
  | 0,h=>False.elim h
  | d+1,h=>by
    obtain ⟨es,rfl,hl,hf⟩:=ty_struct U25 h
    match es,hl,hf with
    | [e0,e1],_,hf =>
    obtain ⟨x0,h0,q0⟩:=ty_4 (hf 0 _ e0 rfl rfl)
    obtain ⟨x1,h1,q1⟩:=ty_23 (hf 1 _ e1 rfl rfl)
    refine ⟨⟨x0,x1⟩,?_,⟨q0,q1⟩⟩
    rw [h0,h1]
    simp only [List.flatten_cons,List.flatten_nil,List.append_nil,GCell.cs]
set_option maxRecDepth 100000 in
theorem ty_26 {d:Nat} {cs:List AV} (h:Typed Tryz.prog d 26 cs):∃ x:Vector GCell 4,cs=x.toList.flatMap GCell.cs∧(okV GCell.ok) x:=match d,h with
  | 0,h=>False.elim h
  | d+1,h=>ty_arrayf (g:=fun b:GCell=>GCell.cs b) U26 (fun _ hx=>ty_25 hx) h
set_option maxRecDepth 100000 in
theorem ty_27 {d:Nat} {cs:List AV} (h:Typed Tryz.prog d 27 cs):∃ x:Vector (Vector GCell 4) 2,cs=x.toList.flatMap (fun v:Vector GCell 4=>v.toList.flatMap GCell.cs)∧(okV (okV GCell.ok)) x:=match d,h with
  | 0,h=>False.elim h
  | d+1,h=>ty_arrayf (g:=fun b:Vector GCell 4=>b.toList.flatMap GCell.cs) U27 (fun _ hx=>ty_26 hx) h
def GTable.ok (x:GTable):Prop:=okA x.There∧okT x.Name∧(okL 32 GColumn.ok) x.Cols∧(okV (okV GCell.ok)) x.Drawers
set_option maxRecDepth 100000 in
theorem ty_29 {d:Nat} {cs:List AV} (h:Typed Tryz.prog d 29 cs):∃ x:GTable,cs=GTable.cs x∧GTable.ok x:=match d,h with
  | 0,h=>False.elim h
  | d+1,h=>by
    obtain ⟨es,rfl,hl,hf⟩:=ty_struct U29 h
    match es,hl,hf with
    | [e0,e1,e2,e3],_,hf =>
    obtain ⟨x0,h0,q0⟩:=ty_4 (hf 0 _ e0 rfl rfl)
    obtain ⟨x1,h1,q1⟩:=ty_9 (hf 1 _ e1 rfl rfl)
    obtain ⟨x2,h2,q2⟩:=ty_22 (hf 2 _ e2 rfl rfl)
    obtain ⟨x3,h3,q3⟩:=ty_27 (hf 3 _ e3 rfl rfl)
    refine ⟨⟨x0,x1,x2,x3⟩,?_,⟨q0,q1,q2,q3⟩⟩
    rw [h0,h1,h2,h3]
    simp only [List.flatten_cons,List.flatten_nil,List.append_nil,GTable.cs]
inductive GExpr.ok:GExpr→Prop
  | mk {x:GExpr}:okI x.Op→GValue.ok x.Value→okT x.Name→x.Args.length * 88≤reachBytes→x.Args.length≤maxLen→(∀ y∈x.Args,GExpr.ok y)→GExpr.ok x
set_option maxRecDepth 100000 in
theorem ty_35_ (N:Nat):∀ (d:Nat) (cs:List AV),d≤N→Typed Tryz.prog d 35 cs→∃ x:GExpr,cs=GExpr.cs x∧GExpr.ok x:=by
  induction N with
  | zero =>
    intro d cs hd h
    obtain rfl:d=0:=by omega
    exact False.elim h
  | succ N ih =>
    intro d cs hd h
    match d,hd,h with
    | 0,_,h=>exact False.elim h
    | d+1,hd,h =>
    obtain ⟨es,rfl,hl,hf⟩:=ty_struct U35 h
    match es,hl,hf with
    | [e0,e1,e2,e3],_,hf =>
    obtain ⟨x0,h0,q0⟩:=ty_3 (hf 0 _ e0 rfl rfl)
    obtain ⟨x1,h1,q1⟩:=ty_32 (hf 1 _ e1 rfl rfl)
    obtain ⟨x2,h2,q2⟩:=ty_9 (hf 2 _ e2 rfl rfl)
    obtain ⟨x3,h3,q3⟩:∃ l:List GExpr,e3=[.lst (l.flatMap GExpr.cs) l.length]∧okL 88 GExpr.ok l:=by
      have h9:=hf 3 _ e3 rfl rfl
      match d,hd,h9 with
      | 0,_,h=>exact False.elim h
      | k+1,hd,h=>exact ty_slicef (g:=fun b:GExpr=>GExpr.cs b) U33 (bytes_of in_35) (fun x hx=>ih k x (by omega) hx) h
    refine ⟨⟨x0,x1,x2,x3⟩,?_,.mk q0 q1 q2 q3.1 q3.2.1 q3.2.2⟩
    rw [h0,h1,h2,h3,GExpr.cs_eq]
    simp only [List.flatten_cons,List.flatten_nil,List.append_nil]
theorem ty_35 {d:Nat} {cs:List AV} (h:Typed Tryz.prog d 35 cs):∃ x:GExpr,cs=GExpr.cs x∧GExpr.ok x:=ty_35_ d d cs (Nat.le_refl _) h
end Go.Proofs.YthnkbagmaljjjaaGreatDoor.VM
