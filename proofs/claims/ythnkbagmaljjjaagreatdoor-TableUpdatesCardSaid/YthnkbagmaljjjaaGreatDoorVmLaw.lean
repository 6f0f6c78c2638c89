/- Words and rules that the proof uses. -/
import Derived.Test.YthnkbagmaljjjaaGreatDoorVmRead
import Derived.Carry
import Derived.Below
import Derived.ChangeOld
import Derived.SizedLaws
namespace Go.Proofs.YthnkbagmaljjjaaGreatDoor.VM
open Go Go.RowKit Go.ChangeShapes Go.WideShapes
def ArgTyped (P:Program) (d:Nat) (t:TypeId) (a:AV):Prop:=match P.underlying t with
 | some (.struct _)=>∃ cs,a=.agg cs∧Typed P d t cs
 | some (.array _ _)=>∃ cs,a=.agg cs∧Typed P d t cs
 | _=>Typed P d t [a]
theorem ArgTyped.one {P:Program} {d:Nat} {t:TypeId} {a:AV} {u:TypeDesc} (h:ArgTyped P d t a) (hu:P.underlying t=some u) (hs:isAggD u=false):Typed P d t [a]:=by
 unfold ArgTyped at h
 rw [hu] at h
 cases u<;>first | exact h | cases hs
theorem ArgTyped.struct {P:Program} {d:Nat} {t:TypeId} {a:AV} {fs:Array Field} (h:ArgTyped P d t a) (hu:P.underlying t=some (.struct fs)):∃ cs,a=.agg cs∧Typed P d t cs:=by
 unfold ArgTyped at h
 rw [hu] at h
 exact h
theorem okWide_array {P:Program} {W:World} {base:Nat} {t:TypeId} {v:Value} {n:Nat} {e:TypeId} (ht:P.underlying t=some (.array n e)) (h:Value.okWide P W .any base t v):∃ cs,v=.agg cs∧cs.size=P.cellsOf t:=by
 simp only [Value.okWide,ht] at h
 obtain ⟨cs,h1,h2,_⟩:=h
 exact ⟨cs,h1,h2⟩
theorem argsBack {H:Type} {enc:TypeId×Value→H} {P:Program} {W W':World} (hl:laidOutB P=true) (hb:Below W.heap.size W W'):∀ (ts:List TypeId) (vs:List Value) (ds:List (DataW H)) (p:List MemPlace),
  ts.all (fun t=>P.readableRec t && decide (t < P.types.size))=true→DataW.TrodAll enc P W 0 (fun _=>true) true ts vs ds p→DataW.TrodAll enc P W' 0 (fun b=>decide (b < W.heap.size)) true ts vs ds p
 | [],vs,ds,p,_,h=>by
  obtain ⟨rfl,rfl,rfl⟩:=trodAll_nil h
  rfl
 | t::ts,vs,ds,p,hr,h=>by
  obtain ⟨v,vs,y,ds,p0,q0,rfl,rfl,rfl,h0,hr0⟩:=trodAll_cons h
  simp only [List.all_cons,Bool.and_eq_true,decide_eq_true_eq] at hr
  refine ⟨p0,q0,Below.trod hl hr.1.1 hr.1.2 h0 hb ?_,argsBack hl hb ts vs ds q0 hr.2 hr0,rfl⟩
  obtain ⟨m,hm⟩:=h0
  exact DataW.trod_lt m _ _ _ hm
theorem trodAll_len {H:Type} {enc:TypeId×Value→H} {P:Program} {W:World} {sp:Nat→Bool} {base:Nat} {held:Bool}:∀ (ts:List TypeId) (vs:List Value) (ds:List (DataW H)) (p:List MemPlace),DataW.TrodAll enc P W base sp held ts vs ds p→ds.length=ts.length
 | [],vs,ds,p,h=>by
  obtain ⟨rfl,rfl,rfl⟩:=trodAll_nil h
  rfl
 | t::ts,vs,ds,p,h=>by
  obtain ⟨v,vs,y,ds,p0,q0,rfl,rfl,rfl,h0,hr0⟩:=trodAll_cons h
  rw [List.length_cons,List.length_cons,trodAll_len ts vs ds q0 hr0]
theorem map_list {α β:Type} {f:β→α} {q:β→Prop}:∀ (l:List (List α)),(∀ x∈l,∃ b,x=[f b]∧q b)→∃ bs:List β,l.flatten=bs.map f∧l.length=bs.length∧∀ b∈bs,q b
 | [],_=>⟨[],rfl,rfl,by simp⟩
 | x::l,h=>by
  obtain ⟨bs,h1,h2,h3⟩:=map_list l (fun y hy=>h y (List.mem_cons_of_mem _ hy))
  obtain ⟨b,rfl,hb⟩:=h x List.mem_cons_self
  refine ⟨b::bs,by simp [h1],by simp [h2],fun c hc=>?_⟩
  rcases List.mem_cons.1 hc with rfl | hc
  ·exact hb
  ·exact h3 c hc
end Go.Proofs.YthnkbagmaljjjaaGreatDoor.VM
