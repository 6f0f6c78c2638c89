/- Words and rules that the proof uses. -/
import Derived.Test.YtglgdaeimfdpfaaVmRead
import Derived.Carry
import Derived.Below
import Derived.ChangeOld
import Derived.SizedLaws
namespace Go.Proofs.Ytglgdaeimfdpfaa.VM
open Go Go.RowKit Go.ChangeShapes Go.WideShapes
def ArgTyped (P:Program) (d:Nat) (t:TypeId) (a:AV):Prop:=match P.underlying t with
 | some (.struct _)=>∃ cs,a=.agg cs∧Typed P d t cs
 | some (.array _ _)=>∃ cs,a=.agg cs∧Typed P d t cs
 | _=>Typed P d t [a]
theorem ArgTyped.one {P:Program} {d:Nat} {t:TypeId} {a:AV} {u:TypeDesc} (h:ArgTyped P d t a) (hu:P.underlying t=some u) (hs:isAggD u=false):Typed P d t [a]:=by
 unfold ArgTyped at h
 rw [hu] at h
 cases u<;>first | exact h | cases hs
theorem ArgTyped.struct {P:Program} {d:Nat} {t:TypeId} {a:AV} {fs:Array Field} (h:ArgTyped P d t a) (hu:P.underlying t=some (.struct fs)):∃ cs,a=.agg cs∧Typed P d t cs:=by
 unfold ArgTyped at h
 rw [hu] at h
 exact h
theorem ArgTyped.array {P:Program} {d:Nat} {t:TypeId} {a:AV} {n:Nat} {e:TypeId} (h:ArgTyped P d t a) (hu:P.underlying t=some (.array n e)):∃ cs,a=.agg cs∧Typed P d t cs:=by
 unfold ArgTyped at h
 rw [hu] at h
 exact h
theorem okWide_array {P:Program} {W:World} {base:Nat} {t:TypeId} {v:Value} {n:Nat} {e:TypeId} (ht:P.underlying t=some (.array n e)) (h:Value.okWide P W .any base t v):∃ cs,v=.agg cs∧cs.size=P.cellsOf t:=by
 simp only [Value.okWide,ht] at h
 obtain ⟨cs,h1,h2,_⟩:=h
 exact ⟨cs,h1,h2⟩
theorem plain_cells {P:Program} {W:World} {base d:Nat} {t:TypeId} {v:Value} (hp:plainB P d t=true) (hv:Value.okWide P W .any base t v) :
  (v.cells.toList=[v]∧∃ u,P.underlying t=some u∧isAggD u=false)∨∃ u cs,P.underlying t=some u∧isAggD u=true∧v=.agg cs:=by
 cases d with
 | zero=>simp [plainB] at hp
 | succ d =>
  unfold plainB at hp
  cases hu:P.underlying t with
  | none=>simp [hu] at hp
  | some u =>
   cases u with
   | bool=>obtain ⟨b,rfl⟩:=okWide_bool hu hv; exact .inl ⟨rfl,_,rfl,rfl⟩
   | int k=>obtain ⟨n,rfl⟩:=okWide_int hu hv; exact .inl ⟨rfl,_,rfl,rfl⟩
   | string=>obtain ⟨s,rfl⟩:=okWide_string hu hv; exact .inl ⟨rfl,_,rfl,rfl⟩
   | slice e=>obtain ⟨a,l,c,rfl⟩:=okWide_slice hu hv; exact .inl ⟨rfl,_,rfl,rfl⟩
   | struct fs=>obtain ⟨cs,rfl,_⟩:=okWide_struct hu hv; exact .inr ⟨_,cs,rfl,rfl,rfl⟩
   | array n e=>obtain ⟨cs,rfl,_⟩:=okWide_array hu hv; exact .inr ⟨_,cs,rfl,rfl,rfl⟩
   | _=>simp [hu] at hp
theorem argsRead {H:Type} {enc:TypeId×Value→H} {P:Program} {W:World} {base d:Nat} {sp:Nat→Bool} (hlaid:laidOutB P=true):∀ (ts:List TypeId) (vs:List Value) (ds:List (DataW H)) (p:List MemPlace) (us:List TypeId) (gs:List (DataW H)),
  DataW.TrodAll enc P W 0 sp true ts vs ds p→ts.all (plainB P d)=true→(DataW.weightsEach P (ts++us) (ds++gs)).all (·≤reachBytes)=true→(∀ (j:Nat) t v,ts[j]?=some t→vs[j]?=some v→Value.okWide P W .any base t v) →
  ∃ avs:List AV,avs.length=vs.length∧vs.length=ts.length∧(∀ (i:Nat) (a:AV) (v:Value),avs[i]?=some a→vs[i]?=some v→Rel (fun b=>b < W.heap.size) W a v)∧(∀ (i:Nat) (t:TypeId) (a:AV),ts[i]?=some t→avs[i]?=some a→ArgTyped P d t a)∧avBulkL avs≤Rows.uptoBulkAll ds
 | [],vs,ds,p,us,gs,h,_,_,_=>by
  obtain ⟨rfl,rfl,rfl⟩:=trodAll_nil h
  exact ⟨[],rfl,rfl,by simp,by simp,by simp [avBulkL]⟩
 | t::ts,vs,ds,p,us,gs,h,hp,hw,hv=>by
  obtain ⟨v,vs,y,ds,p0,q0,rfl,rfl,rfl,h0,hr⟩:=trodAll_cons h
  simp only [List.all_cons,Bool.and_eq_true] at hp
  simp only [List.cons_append,DataW.weightsEach,List.all_append,Bool.and_eq_true] at hw
  have hv0:=hv 0 t v rfl rfl
  obtain ⟨fuel,hf⟩:=h0
  have key:∃ a:AV,ArgTyped P d t a∧Rel (fun b=>b < W.heap.size) W a v∧avBulk a≤Rows.uptoBulk y:=by
   rcases plain_cells hp.1 hv0 with ⟨hc,u,hu,hns⟩ | ⟨u,cs,hu,hag,rfl⟩
   ·rw [hc] at hf
    obtain ⟨av,hl,hty,hrel,hbk⟩:=reads hlaid d fuel t [v] _ hp.1 hf hw.1
    obtain ⟨a,rfl⟩:∃ a,av=[a]:=by
     match av,hl with
     | [a],_=>exact ⟨a,rfl⟩
    refine ⟨a,?_,(hrel 0 _ _ rfl rfl).1,by simp only [avBulkL] at hbk; omega⟩
    unfold ArgTyped
    rw [hu]
    cases u<;>first | exact hty | cases hns
   ·obtain ⟨av,hl,hty,hrel,hbk⟩:=reads hlaid d fuel t cs.toList _ hp.1 hf hw.1
    refine ⟨.agg av,?_,.agg av cs (by simpa using hl) (fun u hmem=>?_) (fun i a u ha hu'=>(hrel i a u ha (by simpa using hu')).1),by simpa only [avBulk] using hbk⟩
    ·unfold ArgTyped
     rw [hu]
     cases u<;>first | exact ⟨av,rfl,hty⟩ | cases hag
    ·obtain ⟨i,hi,he⟩:=Array.getElem_of_mem hmem
     have hi2:i < av.length:=by rw [hl]; simpa using hi
     exact (hrel i av[i] u (List.getElem?_eq_getElem hi2) (by simp [hi,he])).2
  obtain ⟨a,hty,hrel,hbk⟩:=key
  obtain ⟨avs,h1,h2,h3,h4,h5⟩:=argsRead hlaid ts vs ds q0 us gs hr hp.2 hw.2 (fun j t' v' ht hv'=>hv (j+1) t' v' (by simpa using ht) (by simpa using hv'))
  refine ⟨a::avs,by simp [h1],by simp [h2],fun i b u hb hu=>?_,fun i t' b ht hb=>?_,by simp only [avBulkL]; rw [Rows.uptoBulkAll]; omega⟩
  ·cases i with
   | zero =>
    simp only [List.getElem?_cons_zero,Option.some.injEq] at hb hu
    subst hb
    subst hu
    exact hrel
   | succ i=>exact h3 i b u (by simpa using hb) (by simpa using hu)
  ·cases i with
   | zero =>
    simp only [List.getElem?_cons_zero,Option.some.injEq] at hb ht
    subst hb
    subst ht
    exact hty
   | succ i=>exact h4 i t' b (by simpa using ht) (by simpa using hb)
theorem argsBack {H:Type} {enc:TypeId×Value→H} {P:Program} {W W':World} (hl:laidOutB P=true) (hb:Below W.heap.size W W'):∀ (ts:List TypeId) (vs:List Value) (ds:List (DataW H)) (p:List MemPlace),
  ts.all (fun t=>P.readableRec t && decide (t < P.types.size))=true→DataW.TrodAll enc P W 0 (fun _=>true) true ts vs ds p→DataW.TrodAll enc P W' 0 (fun b=>decide (b < W.heap.size)) true ts vs ds p
 | [],vs,ds,p,_,h=>by
  obtain ⟨rfl,rfl,rfl⟩:=trodAll_nil h
  rfl
 | t::ts,vs,ds,p,hr,h=>by
  obtain ⟨v,vs,y,ds,p0,q0,rfl,rfl,rfl,h0,hr0⟩:=trodAll_cons h
  simp only [List.all_cons,Bool.and_eq_true,decide_eq_true_eq] at hr
  refine ⟨p0,q0,Below.trod hl hr.1.1 hr.1.2 h0 hb ?_,argsBack hl hb ts vs ds q0 hr.2 hr0,rfl⟩
  obtain ⟨m,hm⟩:=h0
  exact DataW.trod_lt m _ _ _ hm
theorem trodAll_len {H:Type} {enc:TypeId×Value→H} {P:Program} {W:World} {sp:Nat→Bool} {base:Nat} {held:Bool}:∀ (ts:List TypeId) (vs:List Value) (ds:List (DataW H)) (p:List MemPlace),DataW.TrodAll enc P W base sp held ts vs ds p→ds.length=ts.length
 | [],vs,ds,p,h=>by
  obtain ⟨rfl,rfl,rfl⟩:=trodAll_nil h
  rfl
 | t::ts,vs,ds,p,h=>by
  obtain ⟨v,vs,y,ds,p0,q0,rfl,rfl,rfl,h0,hr0⟩:=trodAll_cons h
  rw [List.length_cons,List.length_cons,trodAll_len ts vs ds q0 hr0]
theorem tabs_none {Z:Nat→Prop} {w:World} (h:tabs=[]) (h2:openInts=[]:=by rfl):Tabs Z w:=by
 refine ⟨fun g=>?_,fun k hk=>?_⟩
 ·rw [h]
  exact .any _
 ·rw [h2] at hk
  cases hk
theorem rowCall {H:Type} {enc:TypeId×Value→H} {P:Program} {F:FuncId} {W:World} {base d:Nat} {args:Array Value} {ts us:List TypeId} {ds gs:List (DataW H)} {p:List MemPlace} (hlaid:laidOutB P=true) (hts:ts.all (fun t=>P.readableRec t && decide (t < P.types.size))=true)
  (hA:DataW.TrodAll enc P W 0 (fun _=>true) true ts args.toList ds p) (hpl:ts.all (plainB P d)=true) (hsz:(DataW.weightsEach P (ts++us) (ds++gs)).all (·≤reachBytes)=true)
  (hval:∀ (j:Nat) t v,ts[j]?=some t→args[j]?=some v→Value.okWide P W .any base t v) (htab:Tabs (fun b=>b < W.heap.size) W)
  (hac:∀ avs:List AV,avs.length=ts.length→(∀ (i:Nat) (t:TypeId) (a:AV),ts[i]?=some t→avs[i]?=some a→ArgTyped P d t a)→avBulkL avs≤Rows.uptoBulkAll ds→AC P F avs Heap.empty (fun r _=>r=.bool true)) :
  Calls P F args W fun e W'=>e=.returned (.bool true)∧Below W.heap.size W W'∧DataW.TrodAll enc P W' 0 (fun b=>decide (b < W.heap.size)) true ts args.toList ds p:=by
 obtain ⟨avs,h1,h2,h3,h4,h5⟩:=argsRead (d:=d) hlaid ts args.toList ds p us gs hA hpl hsz (fun j t v ht hv=>hval j t v ht (by simpa using hv))
 have hc:=hac avs (h1.trans h2) h4 h5
 refine (hc (fun b=>b < W.heap.size) W args ⟨fun b hb=>hb,(fun b o hb=>by cases hb),(fun b o hb=>by cases hb),htab⟩ (by simpa using h1) (fun i a v ha hv=>h3 i a v ha (by simpa using hv))).mono ?_
 rintro e W' ⟨v,r,h',Z',rfl,rfl,hrel,_,ex⟩
 refine ⟨by rw [hrel.sc_inv],ex.below,argsBack hlaid ex.below ts _ _ _ hts hA⟩
theorem map_list {α β:Type} {f:β→α} {q:β→Prop}:∀ (l:List (List α)),(∀ x∈l,∃ b,x=[f b]∧q b)→∃ bs:List β,l.flatten=bs.map f∧l.length=bs.length∧∀ b∈bs,q b
 | [],_=>⟨[],rfl,rfl,by simp⟩
 | x::l,h=>by
  obtain ⟨bs,h1,h2,h3⟩:=map_list l (fun y hy=>h y (List.mem_cons_of_mem _ hy))
  obtain ⟨b,rfl,hb⟩:=h x List.mem_cons_self
  refine ⟨b::bs,by simp [h1],by simp [h2],fun c hc=>?_⟩
  rcases List.mem_cons.1 hc with rfl | hc
  ·exact hb
  ·exact h3 c hc
end Go.Proofs.Ytglgdaeimfdpfaa.VM
