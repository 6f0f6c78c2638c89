/- Words and rules that the proof uses. -/
import Derived.Test.YtglgdaeimfdpfaaVmRows
import Derived.Great.BuildSlice
import Derived.Laws.Slices
import Derived.Laws.OwnMore
namespace Go.Proofs.Ytglgdaeimfdpfaa.VM
open Go Go.RowKit
def afill (place:Nat→Option (Nat×Nat)) (cells:List AV):List (Nat×List AV)→Option (List AV)
 | []=>some cells
 | (i,xs)::rest=>match place i with
  | none=>none
  | some (off,size)=>if xs.length=size∧off+xs.length≤cells.length then afill place (wCells cells off xs) rest else none
def partRel (Z:Nat→Prop) (w:World) (p:Nat×List AV) (q:Nat×Value):Prop :=
 p.1=q.1∧p.2.length=q.2.cells.size∧∀ (i:Nat) (c:AV) (u:Value),p.2[i]?=some c→q.2.cells[i]?=some u→Rel Z w c u∧u.oneCell'=true
inductive PartsRel (Z:Nat→Prop) (w:World):List (Nat×List AV)→List (Nat×Value)→Prop where
 | nil:PartsRel Z w [] []
 | cons {p:Nat×List AV} {q:Nat×Value} {ps:List (Nat×List AV)} {qs:List (Nat×Value)} (h:partRel Z w p q) (r:PartsRel Z w ps qs):PartsRel Z w (p::ps) (q::qs)
def cellsRel (Z:Nat→Prop) (w:World) (cs:List AV) (arr:Array Value):Prop :=
 cs.length=arr.size∧∀ (i:Nat) (c:AV) (u:Value),cs[i]?=some c→arr[i]?=some u→Rel Z w c u∧u.oneCell'=true
theorem fold_wArr:∀ (vs:List Value) (k:Nat) (arr:Array Value) (off:Nat),(vs.zipIdx k).foldl (fun cs (x:Value×Nat)=>cs.setIfInBounds (off+x.2) x.1) arr=wArr arr (off+k) vs
 | [],_,_,_=>rfl
 | v::r,k,arr,off=>by
  simp only [List.zipIdx_cons,List.foldl_cons,wArr]
  rw [fold_wArr r (k+1)]
  rfl
theorem cellsRel.write {Z:Nat→Prop} {w:World} {cs xs:List AV} {arr:Array Value} {vs:List Value} {off:Nat} (h:cellsRel Z w cs arr) (hl:off+xs.length≤cs.length) (hx:xs.length=vs.length)
  (hr:∀ (i:Nat) (c:AV) (u:Value),xs[i]?=some c→vs[i]?=some u→Rel Z w c u∧u.oneCell'=true):cellsRel Z w (wCells cs off xs) (wArr arr off vs):=by
 refine ⟨by rw [wCells_length hl,wArr_size]; exact h.1,fun i c u hc hu=>?_⟩
 by_cases hi:i < off∨off+xs.length≤i
 ·rw [wCells_out hl hi] at hc
  rw [wArr_out vs arr off i (by omega)] at hu
  exact h.2 i c u hc hu
 ·obtain ⟨j,rfl⟩:∃ j,i=off+j:=⟨i - off,by omega⟩
  have hj:j < xs.length:=by omega
  have hj':j < vs.length:=by omega
  rw [wCells_in hl hj] at hc
  rw [wArr_in vs arr off j vs[j] (by have:=h.1; omega) (List.getElem?_eq_getElem hj')] at hu
  exact hr j c u hc (by rw [List.getElem?_eq_getElem hj']; exact hu)
theorem fill_rel {Z:Nat→Prop} {w:World} (place:Nat→Option (Nat×Nat)):∀ (ps:List (Nat×List AV)) (qs:List (Nat×Value)) (cs cs':List AV) (arr:Array Value),
  PartsRel Z w ps qs→cellsRel Z w cs arr→afill place cs ps=some cs'→∃ arr',Instr.fill place arr qs=some arr'∧cellsRel Z w cs' arr'
 | [],_,cs,cs',arr,hf,hc,h=>by
  cases hf
  simp only [afill,Option.some.injEq] at h
  subst h
  exact ⟨arr,rfl,hc⟩
 | (i,xs)::ps,_,cs,cs',arr,hf,hc,h=>by
  cases hf with
  | @cons _ q _ qs hp hf =>
   obtain ⟨j,v⟩:=q
   obtain ⟨hij,hxl,hxr⟩:=hp
   simp only at hij hxl hxr
   subst hij
   simp only [afill] at h
   cases hpl:place i with
   | none=>simp [hpl] at h
   | some os =>
    obtain ⟨off,size⟩:=os
    simp only [hpl] at h
    split at h
    ·rename_i hcond
     obtain ⟨hs,hle⟩:=hcond
     have hvl:xs.length=v.cells.toList.length:=by simpa using hxl
     obtain ⟨arr',h1,h2⟩:=fill_rel place ps qs _ cs' _ hf (hc.write (vs:=v.cells.toList) hle hvl (fun k c u h1 h2=>hxr k c u h1 (by simpa using h2))) h
     refine ⟨arr',?_,h2⟩
     unfold Instr.fill
     simp only [hpl]
     have hn:(decide (v.cells.size≠size) || decide (off+v.cells.size > arr.size))=false:=by
      have:=hc.1
      simp
      omega
     rw [if_neg (by simpa using hn)]
     rw [← h1]
     congr 1
     have hz:=fold_wArr v.cells.toList 0 arr off
     rw [Nat.add_zero] at hz
     rw [← hz]
     rw [← Array.foldl_toList,Array.toList_zipIdx]
    ·cases h
theorem afill_length (place:Nat→Option (Nat×Nat)):∀ (ps:List (Nat×List AV)) (cs cs':List AV),afill place cs ps=some cs'→cs'.length=cs.length
 | [],cs,cs',h=>by
  simp only [afill,Option.some.injEq] at h
  rw [h]
 | (i,xs)::ps,cs,cs',h=>by
  simp only [afill] at h
  cases hpl:place i with
  | none=>simp [hpl] at h
  | some os =>
   obtain ⟨off,size⟩:=os
   simp only [hpl] at h
   split at h
   ·rename_i hcond
    rw [afill_length place ps _ _ h,wCells_length hcond.2]
   ·cases h
def aparts (s:AS):List (Nat×Operand)→Option (List (Nat×List AV))
 | []=>some []
 | (i,x)::r=>match acells (aev s x),aparts s r with
  | some cs,some ps=>some ((i,cs)::ps)
  | _,_=>none
theorem cellsRel.agg {Z:Nat→Prop} {w:World} {cs:List AV} {arr:Array Value} (h:cellsRel Z w cs arr):Rel Z w (.agg cs) (.agg arr):=by
 refine .agg cs arr h.1 (fun v hv=>?_) (fun i c u hc hu=>(h.2 i c u hc hu).1)
 obtain ⟨i,hi,he⟩:=Array.getElem_of_mem hv
 have hlt:i < cs.length:=by rw [h.1]; exact hi
 exact (h.2 i _ v (List.getElem?_eq_getElem hlt) (by rw [Array.getElem?_eq_getElem hi,he])).2
def placesOf (P:Program) (t:TypeId):Option (List (Nat×Nat)):=match P.underlying t with
 | some (.struct fields)=>fields.toList.mapM (fun f=>(P.info? f.type).map fun i=>(f.offset,i.size))
 | _=>none
def azeros (n:Nat) (zs:List AV):List AV:=(List.replicate n zs).flatten
theorem azeros_length (n:Nat) (zs:List AV):(azeros n zs).length=n * zs.length:=by
 simp [azeros]
theorem azeros_get:∀ (n:Nat) (zs:List AV) (i:Nat),i < n * zs.length→(azeros n zs)[i]?=zs[i % zs.length]?
 | 0,zs,i,h=>by simp at h
 | n+1,zs,i,h=>by
  have hs:azeros (n+1) zs=zs++azeros n zs:=by simp [azeros,List.replicate_succ]
  rw [hs]
  by_cases hi:i < zs.length
  ·rw [List.getElem?_append_left hi,Nat.mod_eq_of_lt hi]
  ·have hpos:0 < zs.length:=by
    rcases Nat.eq_zero_or_pos zs.length with h0 | h0
    ·rw [h0,Nat.mul_zero] at h; omega
    ·exact h0
   rw [List.getElem?_append_right (by omega),azeros_get n zs (i - zs.length) (by rw [Nat.add_mul,Nat.one_mul] at h; omega)]
   congr 1
   rw [Nat.mod_eq_sub_mod (by omega:i≥zs.length)]
section ops
variable {P:Program} {K:AS→Prop} {s:AS} {dst:Option Tmp} {ty:TypeId} {pos:String} {after:Array Edge}
theorem shape_push {w w':World} {arr:Array Value} {e:Nat} {fz:Nat×Nat} (h:w'.heap=w.heap.push (.cells arr e fz)):w'.shape? w.heap.size=some (e,arr.size):=by
 unfold World.shape?
 rw [h]
 simp
variable {t tx e:TypeId} {i:TypeInfo} {zv:Value} {x y:Operand}
theorem OpW_append_nil {z m:Nat} {ys:List AV} (hx:aev s x=.nil) (hy:asrc s (aev s y)=some (ys,m)) (hyl:ys.length=m * z) (hm0:0 < m)
  (hk2:(∃ e',P.underlying tx=some (.slice e')∧acont s (aev s y)=some (ys,m))∨(P.underlying tx=some .string∧z=1∧∃ b,aev s y=.sc (.string b)))
  (ht:P.underlying t=some (.slice e)) (hi:P.info? e=some i) (hz:i.zero=some zv) (hsz:i.size=z) (hzc:zv.cells.size=z) (hroom:m * i.bytes≤140737488355328) (hmax:m≤9223372036854775807) (hd:dOk s dst=true)
  (hk:∀ b,s.n≤b→K ((s.new b ys).put dst (.sl b 0 m z))) :
  OpW P ⟨dst,.call { callee:=.builtin .append,args:=#[x,y],argTypes:=#[t,tx] },ty,pos,after,none⟩ K s:=by
 refine OpW_new hd (fun Z a w r=>?_) hk
 have hxv:=aev_rel r x
 rw [hx] at hxv
 have hxe:a.eval x=.slice none 0 0:=by
  generalize hu:a.eval x=u at hxv
  cases hxv
  rfl
 obtain ⟨news,hsrc,hnl,hnr,_⟩:=src_any (P:=P) r.gd hy (aev_rel r y) hk2 hyl
 have hfit:Builtin.nextslicecap (0+m) 0 * i.bytes≤281474976710656:=growslice_fits (by omega) (by rw [Nat.zero_add]; exact hroom)
 have hrun:=run_append_grow_src (P:=P) w t tx ty e i zv ht hi hz none 0 0 [] (run_firstCells_none w.drew i.size 0 0 0) (a.eval y) m news (by rw [hsz]; exact hsrc) (by omega) (by omega) hfit
 rw [Nat.zero_add,List.nil_append] at hrun
 have hgc:m≤grownCap w m 0 e:=by unfold grownCap Question.cut; exact Nat.le_add_right _ _
 refine ⟨.slice (some ⟨w.heap.size,0,none⟩) m (grownCap w m 0 e),w.drew.alloc (.cells (news.toArray++Builtin.zeroCells zv.cells (grownCap w m 0 e - m)) e),news.toArray++Builtin.zeroCells zv.cells (grownCap w m 0 e - m),e,0,0,?_,by simp; omega,fun j c u hc hu=>?_,.inl (Nat.le_refl _),rfl,rfl,rfl,rfl,?_⟩
 ·simp only [execOp,resolve,invoke,builtin]
  simp [hxe,hrun]
 ·have hlt:=(List.getElem?_eq_some_iff.1 hc).1
  rw [Array.getElem?_append_left (by simp; omega)] at hu
  exact hnr j c u hc (by simpa using hu)
 ·refine .sl _ 0 m z (grownCap w m 0 e) e (news.toArray++Builtin.zeroCells zv.cells (grownCap w m 0 e - m)).size hgc (shape_push (w:=w) (fz:=(0,0)) rfl) ?_
  rw [Array.size_append,size_zeroCells,hzc]
  have h2:news.toArray.size=m * z:=by simp [hnl]
  rw [h2,← Nat.add_mul,Nat.zero_add]
  exact Nat.mul_le_mul_right _ (by omega)
theorem OpW_append_nil0 {z:Nat} {ys:List AV} (hx:aev s x=.nil) (hy:asrc s (aev s y)=some (ys,0)) (hyl:ys.length=0 * z)
  (hk2:(∃ e',P.underlying tx=some (.slice e')∧acont s (aev s y)=some (ys,0))∨(P.underlying tx=some .string∧z=1∧∃ b,aev s y=.sc (.string b)))
  (ht:P.underlying t=some (.slice e)) (hi:P.info? e=some i) (hsz:i.size=z) (hd:dOk s dst=true)
  (hk:K (s.put dst .nil)) :
  OpW P ⟨dst,.call { callee:=.builtin .append,args:=#[x,y],argTypes:=#[t,tx] },ty,pos,after,none⟩ K s:=by
 refine OpW_same hd (fun Z a w r=>⟨.slice none 0 0,?_,.nil⟩) hk
 have hxv:=aev_rel r x
 rw [hx] at hxv
 have hxe:a.eval x=.slice none 0 0:=by
  generalize hu:a.eval x=u at hxv
  cases hxv
  rfl
 obtain ⟨news,hsrc,hnl,hnr,_⟩:=src_any (P:=P) r.gd hy (aev_rel r y) hk2 hyl
 have hnil:news=[]:=by
  rw [Nat.zero_mul] at hnl
  exact List.length_eq_zero_iff.1 hnl
 subst hnil
 have hc:=hsrc.cells
 rcases hsrc.kind with ⟨e',hk⟩ | hk <;>
  simp [execOp,resolve,invoke,builtin,hxe,Builtin.append_,run_underlying ht,run_underlying hk,sizeOf,typeInfo,hi,hsrc.len,hsz,hc]
end ops
end Go.Proofs.Ytglgdaeimfdpfaa.VM
