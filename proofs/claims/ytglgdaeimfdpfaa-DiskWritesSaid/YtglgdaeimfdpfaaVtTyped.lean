/- Words and rules that the proof uses. -/
import Derived.Test.YtglgdaeimfdpfaaVmLaw
import Derived.Test.YtglgdaeimfdpfaaVtEq
namespace Go.Proofs.Ytglgdaeimfdpfaa.VM
open Go Go.RowKit Go.ChangeShapes Go.WideShapes
def okI (n:Int):Prop := -9223372036854775808≤n∧n≤9223372036854775807
def okL {β:Type} (B:Nat) (q:β→Prop) (l:List β):Prop:=l.length * B≤reachBytes∧l.length≤maxLen∧∀ b∈l,q b
def okV {β:Type} {n:Nat} (q:β→Prop) (v:Vector β n):Prop:=∀ b∈v.toList,q b
def okA {β:Type} (_:β):Prop:=True
variable {P:Program} {d:Nat} {t:TypeId} {cs:List AV}
theorem ty_int (hu:P.underlying t=some (.int .i64)) (h:Typed P (d+1) t cs):∃ n:Int,cs=[.int n]∧okI n:=by
 simp only [Typed,hu] at h
 obtain ⟨n,h1,h2⟩:=h
 refine ⟨n,h1,?_⟩
 simp only [Lit.wf,Bool.and_eq_true,decide_eq_true_eq] at h2
 exact h2
theorem ty_u8 (hu:P.underlying t=some (.int .u8)) (h:Typed P (d+1) t cs):∃ b:UInt8,cs=[AV.b8 b]∧okA b:=by
 simp only [Typed,hu] at h
 obtain ⟨n,h1,h2⟩:=h
 refine ⟨UInt8.ofNat n.toNat,?_,trivial⟩
 simp only [Lit.wf,Bool.and_eq_true,decide_eq_true_eq] at h2
 have h3:0≤n∧n≤255:=h2
 rw [h1]
 unfold AV.b8
 congr 3
 simp
 omega
theorem fm_list {β:Type} {g:β→List AV} {q:β→Prop}:∀ (l:List (List AV)),(∀ x∈l,∃ b,x=g b∧q b)→∃ bs:List β,l.flatten=bs.flatMap g∧l.length=bs.length∧∀ b∈bs,q b
 | [],_=>⟨[],rfl,rfl,by simp⟩
 | x::l,h=>by
  obtain ⟨bs,h1,h2,h3⟩:=fm_list l (fun y hy=>h y (List.mem_cons_of_mem _ hy))
  obtain ⟨b,rfl,hb⟩:=h x List.mem_cons_self
  refine ⟨b::bs,by simp [h1],by simp [h2],fun c hc=>?_⟩
  rcases List.mem_cons.1 hc with rfl | hc
  ·exact hb
  ·exact h3 c hc
theorem ty_slicef {β:Type} {e:TypeId} {g:β→List AV} {q:β→Prop} {B:Nat} (hu:P.underlying t=some (.slice e)) (hB:P.bytesOf e=B) (hf:∀ x,Typed P d e x→∃ b,x=g b∧q b) (h:Typed P (d+1) t cs) :
  ∃ l:List β,cs=[.lst (l.flatMap g) l.length]∧okL B q l:=by
 simp only [Typed,hu] at h
 obtain ⟨es,h1,h2,h3,h4⟩:=h
 obtain ⟨bs,e1,e2,e3⟩:=fm_list (g:=g) es (fun x hx=>hf x (h4 x hx).2)
 exact ⟨bs,by rw [h1,e1,e2],by rw [← e2,← hB]; exact h2,by rw [← e2]; exact h3,e3⟩
theorem ty_array {β:Type} {e:TypeId} {n:Nat} {f:β→AV} {q:β→Prop} (hu:P.underlying t=some (.array n e)) (hf:∀ x,Typed P d e x→∃ b,x=[f b]∧q b) (h:Typed P (d+1) t cs) :
  ∃ v:Vector β n,cs=v.toList.map f∧okV q v:=by
 simp only [Typed,hu] at h
 obtain ⟨es,h1,h2,h4⟩:=h
 obtain ⟨bs,e1,e2,e3⟩:=map_list (f:=f) es (fun x hx=>hf x (h4 x hx).2)
 exact ⟨⟨bs.toArray,by simp; omega⟩,by rw [h1,e1]; rfl,e3⟩
theorem ty_struct {fs:Array Field} (hu:P.underlying t=some (.struct fs)) (h:Typed P (d+1) t cs):∃ es:List (List AV),cs=es.flatten∧es.length=fs.size∧∀ (i:Nat) (f:Field) (x:List AV),fs[i]?=some f→es[i]?=some x→Typed P d f.type x:=by
 simp only [Typed,hu] at h
 obtain ⟨es,h1,h2,h3⟩:=h
 exact ⟨es,h1,h2,fun i f x hf hx=>(h3 i f x hf hx).2⟩
theorem bytes_of {P:Program} {t:TypeId} {z B:Nat} {zv:Value} (h:Info P t z B zv):P.bytesOf t=B:=by
 obtain ⟨i,h1,_,h3,_⟩:=h.get
 unfold Program.bytesOf
 rw [h1]
 exact h3
theorem one_inj {a b:AV} (h:[a]=[b]):a=b:=(List.cons.inj h).1
end Go.Proofs.Ytglgdaeimfdpfaa.VM
