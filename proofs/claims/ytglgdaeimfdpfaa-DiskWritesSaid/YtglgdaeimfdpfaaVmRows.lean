/- Words and rules that the proof uses. -/
import Derived.Test.YtglgdaeimfdpfaaVmMem
import Derived.Laws.IdiomCopy
import Derived.Deep.AppendSrc
import Derived.Laws.MakeOwn
import Derived.Laws.BytesString
import Derived.Lib.ConvBytes
namespace Go.Proofs.Ytglgdaeimfdpfaa.VM
open Go Go.RowKit
def wArr:Array Value→Nat→List Value→Array Value
 | arr,_,[]=>arr
 | arr,o,v::r=>wArr (arr.setIfInBounds o v) (o+1) r
theorem wArr_size:∀ (vs:List Value) (arr:Array Value) (o:Nat),(wArr arr o vs).size=arr.size
 | [],_,_=>rfl
 | v::r,arr,o=>by rw [wArr,wArr_size r]; simp
theorem wArr_out:∀ (vs:List Value) (arr:Array Value) (o i:Nat),i < o∨o+vs.length≤i→(wArr arr o vs)[i]?=arr[i]?
 | [],_,_,_,_=>rfl
 | v::r,arr,o,i,h=>by
  simp only [List.length_cons] at h
  rw [wArr,wArr_out r _ _ _ (by omega),Array.getElem?_setIfInBounds,if_neg (by omega)]
theorem wArr_in:∀ (vs:List Value) (arr:Array Value) (o j:Nat) (v:Value),o+vs.length≤arr.size→vs[j]?=some v→(wArr arr o vs)[o+j]?=some v
 | [],_,_,_,_,_,hv=>by simp at hv
 | u::r,arr,o,0,v,hl,hv=>by
  simp only [List.length_cons] at hl
  simp only [List.getElem?_cons_zero,Option.some.injEq] at hv
  subst hv
  rw [wArr,Nat.add_zero,wArr_out r _ _ _ (by omega),Array.getElem?_setIfInBounds,if_pos (by omega),if_pos (by omega)]
 | u::r,arr,o,j+1,v,hl,hv=>by
  simp only [List.length_cons] at hl
  rw [wArr,show o+(j+1)=o+1+j by omega]
  exact wArr_in r _ _ j v (by simp; omega) (by simpa using hv)
theorem setCells_block (b:Nat):∀ (vs:List Value) (o:Nat) (w:World) (arr:Array Value) (e:Nat) (fz:Nat×Nat),w.heap[b]?=some (.cells arr e fz)→(w.setCells b o vs).heap[b]?=some (.cells (wArr arr o vs) e fz)
 | [],_,_,_,_,_,h=>h
 | v::r,o,w,arr,e,fz,h=>by
  rw [World.setCells,wArr]
  refine setCells_block b r (o+1) _ _ e fz ?_
  have hlt:b < w.heap.size:=(Array.getElem?_eq_some_iff.1 h).1
  have hv:w.heap[b]=.cells arr e fz:=(Array.getElem?_eq_some_iff.1 h).2
  unfold World.setCell
  rw [Array.getElem?_eq_getElem (by simpa using hlt),Array.getElem_modify]
  simp [hv]
theorem setCells_other (b k:Nat) (hk:k≠b):∀ (vs:List Value) (o:Nat) (w:World),(w.setCells b o vs).heap[k]?=w.heap[k]?
 | [],_,_=>rfl
 | v::r,o,w=>by
  rw [World.setCells,setCells_other b k hk r]
  simp [World.setCell,Array.getElem?_modify,Ne.symm hk]
theorem setCells_rest (b:Nat):∀ (vs:List Value) (o:Nat) (w:World),(w.setCells b o vs).os=w.os∧(w.setCells b o vs).tape=w.tape∧(w.setCells b o vs).output=w.output∧(w.setCells b o vs).heap.size=w.heap.size
 | [],_,_=>⟨rfl,rfl,rfl,rfl⟩
 | v::r,o,w=>by
  obtain ⟨h1,h2,h3,h4⟩:=setCells_rest b r (o+1) (w.setCell ⟨b,o,none⟩ v)
  exact ⟨h1,h2,h3,by rw [World.setCells,h4]; simp [World.setCell]⟩
theorem writeBlock {Z:Nat→Prop} {h:Heap} {w:World} {b off:Nat} {o o':List AV} {vs:List Value} {arr:Array Value} {e lo hi:Nat} (g:Good Z h w) (hb:h b=some o)
  (hh:w.heap[b]?=some (.cells arr e (lo,hi))) (hf:hi≤lo∨arr.size≤lo) (hl:off+vs.length≤arr.size) (hl':o'.length≤arr.size) (h1:∀ v∈vs,v.oneCell'=true)
  (hin:∀ (j:Nat) (c:AV) (u:Value),o'[off+j]?=some c→vs[j]?=some u→Rel Z w c u)
  (hout:∀ (i:Nat) (c:AV),(i < off∨off+vs.length≤i)→o'[i]?=some c→o[i]?=some c) :
  Ext h Z w (h.set b (some o')) Z (w.setCells b off vs)∧Good Z (h.set b (some o')) (w.setCells b off vs):=by
 obtain ⟨e1,e2,e3,e4⟩:=setCells_rest b vs off w
 have hblk:=setCells_block b vs off w arr e (lo,hi) hh
 have hoth:=fun k hk=>setCells_other b k hk vs off w
 have x:Ext h Z w (h.set b (some o')) Z (w.setCells b off vs):=by
  refine ⟨e1,e2,e3,by rw [e4]; exact Nat.le_refl _,fun k _ hn=>hoth k (fun he=>?_),fun k _=>?_,fun k hk=>?_,fun _ hz=>hz,fun _ hz=>.inl hz⟩
  ·rw [he,hb] at hn
   cases hn
  ·by_cases hk:k=b
   ·subst hk
    simp [World.shape?,hblk,hh,wArr_size]
   ·simp [World.shape?,hoth k hk]
  ·left
   by_cases hk':k=b
   ·subst hk'
    rw [hb]
    simp
   ·rwa [Heap.set_ne _ _ _ _ hk'] at hk
 refine ⟨x,fun k hk=>by rw [e4]; exact g.zb k hk,fun k q hk=>?_,fun k q hk=>?_,g.tb.step g x⟩
 ·by_cases hk':k=b
  ·subst hk'
   exact g.hz _ o hb
  ·rw [Heap.set_ne _ _ _ _ hk'] at hk
   exact g.hz k q hk
 ·by_cases hk':k=b
  ·subst hk'
   rw [Heap.set_eq] at hk
   simp only [Option.some.injEq] at hk
   subst hk
   obtain ⟨arr0,e0,lo0,hi0,hh0,hl0,hr0,hf0⟩:=(g.hb _ o hb).cells (x:=(e,arr.size)) (by simp [World.shape?,hh])
   rw [hh] at hh0
   simp only [Option.some.injEq,Obj.cells.injEq,Prod.mk.injEq] at hh0
   obtain ⟨rfl,rfl,rfl,rfl⟩:=hh0
   refine .inl ⟨wArr arr off vs,e,lo,hi,hblk,by rw [wArr_size]; exact hl',fun i c u hc hu=>?_,by rw [wArr_size]; exact hf⟩
   by_cases hi2:i < off∨off+vs.length≤i
   ·rw [wArr_out vs arr off i hi2] at hu
    obtain ⟨h2,h3⟩:=hr0 i c u (hout i c hi2 hc) hu
    exact ⟨h2.step g x,h3⟩
   ·obtain ⟨j,rfl⟩:∃ j,i=off+j:=⟨i - off,by omega⟩
    have hj:j < vs.length:=by omega
    have hvj:vs[j]?=some vs[j]:=List.getElem?_eq_getElem hj
    rw [wArr_in vs arr off j _ hl hvj] at hu
    simp only [Option.some.injEq] at hu
    subst hu
    exact ⟨(hin j c _ hc hvj).step g x,h1 _ (List.getElem_mem hj)⟩
  ·rw [Heap.set_ne _ _ _ _ hk'] at hk
   exact (g.hb k q hk).step g x (hoth k hk')
def wCells (cs:List AV) (off:Nat) (xs:List AV):List AV:=cs.take off++xs++cs.drop (off+xs.length)
theorem wCells_length {cs xs:List AV} {off:Nat} (h:off+xs.length≤cs.length):(wCells cs off xs).length=cs.length:=by
 simp [wCells]; omega
theorem wCells_in {cs xs:List AV} {off j:Nat} (h:off+xs.length≤cs.length) (hj:j < xs.length):(wCells cs off xs)[off+j]?=xs[j]?:=by
 unfold wCells
 rw [List.append_assoc,List.getElem?_append_right (by simp; omega),List.getElem?_append_left (by simp; omega)]
 congr 1
 simp
 omega
theorem wCells_out {cs xs:List AV} {off i:Nat} (h:off+xs.length≤cs.length) (hi:i < off∨off+xs.length≤i):(wCells cs off xs)[i]?=cs[i]?:=by
 unfold wCells
 rcases hi with hi | hi
 ·rw [List.append_assoc,List.getElem?_append_left (by simp; omega),List.getElem?_take,if_pos hi]
 ·rw [List.getElem?_append_right (by simp; omega),List.getElem?_drop]
  congr 1
  simp
  omega
def AS.wr (s:AS) (b:Nat) (cs:List AV):AS:=⟨s.t,s.h.set b (some cs),s.n,s.sz⟩
theorem frozen_no {w:World} {b:Nat} {arr:Array Value} {e lo hi:Nat} (hh:w.heap[b]?=some (.cells arr e (lo,hi))) (hf:hi≤lo∨arr.size≤lo) (i:Nat) (hi2:i < arr.size):w.frozen? ⟨b,i,none⟩=false:=by
 simp only [World.frozen?,hh,Bool.and_eq_false_iff,decide_eq_false_iff_not]
 omega
theorem SR.hl_set {s:AS} {Z:Nat→Prop} {a:Act} {w:World} (r:SR Z s a w) {b:Nat} {o o':List AV} (hb:s.h b=some o):∀ k q,(s.h.set b (some o')) k=some q→k < s.n:=by
 intro k q hk
 by_cases hk':k=b
 ·subst hk'
  exact r.hl _ o hb
 ·rw [Heap.set_ne _ _ _ _ hk'] at hk
  exact r.hl k q hk
section ops
variable {P:Program} {K:AS→Prop} {s:AS} {dst:Option Tmp} {ty:TypeId} {pos:String} {after:Array Edge}
def acont (s:AS):AV→Option (List AV×Nat)
 | .nil=>some ([],0)
 | .lst cs n=>some (cs,n)
 | .sl b off n z=>match s.h b with
  | some o=>if off+n * z≤o.length then some ((o.drop off).take (n * z),n) else none
  | none=>none
 | _=>none
theorem acont_rel {Z:Nat→Prop} {s:AS} {w:World} {x:AV} {v:Value} {cs:List AV} {n:Nat} (g:Good Z s.h w) (h:acont s x=some (cs,n)) (r:Rel Z w x v) :
  ∃ A c,v=.slice A n c∧n≤c∧(cs=[]∧(A=none→n=0)∨∃ b base,A=some ⟨b,base,none⟩∧∀ (i:Nat) (c:AV),cs[i]?=some c→∃ u,w.cell? ⟨b,base+i,none⟩=some u∧Rel Z w c u∧u.oneCell'=true):=by
 cases r with
 | nil =>
  simp only [acont,Option.some.injEq,Prod.mk.injEq] at h
  obtain ⟨rfl,rfl⟩:=h
  exact ⟨none,0,rfl,Nat.le_refl _,.inl ⟨rfl,fun _=>rfl⟩⟩
 | lnil n' c A hc hA =>
  simp only [acont,Option.some.injEq,Prod.mk.injEq] at h
  obtain ⟨rfl,rfl⟩:=h
  exact ⟨A,c,rfl,hc,.inl ⟨rfl,hA⟩⟩
 | lst cs' n' c b off f hc hz hs hr =>
  simp only [acont,Option.some.injEq,Prod.mk.injEq] at h
  obtain ⟨rfl,rfl⟩:=h
  exact ⟨_,c,rfl,hc,.inr ⟨b,off,rfl,fun i c hc=>⟨f i,(hs i c hc).1,hr i c hc,(hs i c hc).2⟩⟩⟩
 | sl b off n' z c e m hc hs hm =>
  simp only [acont] at h
  split at h
  ·rename_i o ho
   split at h
   ·rename_i hle
    simp only [Option.some.injEq,Prod.mk.injEq] at h
    obtain ⟨rfl,rfl⟩:=h
    obtain ⟨arr,e',lo,hi,hh,hl,hr,hf⟩:=(g.hb b o ho).cells hs
    refine ⟨_,c,rfl,hc,.inr ⟨b,off,rfl,fun i c hc=>?_⟩⟩
    rw [List.getElem?_take] at hc
    split at hc
    ·rw [List.getElem?_drop] at hc
     have hlt:off+i < arr.size:=Nat.lt_of_lt_of_le (List.getElem?_eq_some_iff.1 hc).1 hl
     obtain ⟨h1,h2⟩:=hr _ c arr[off+i] hc (Array.getElem?_eq_getElem hlt)
     exact ⟨arr[off+i],by simp [World.cell?,hh,hlt],h1,h2⟩
    ·cases hc
   ·cases h
  ·cases h
 | _=>simp [acont] at h
theorem src_of {Z:Nat→Prop} {w:World} {x:AV} {v:Value} {cs:List AV} {n z:Nat} {tx e':TypeId} (g:Good Z s.h w) (h:acont s x=some (cs,n)) (r:Rel Z w x v) (hk:P.underlying tx=some (.slice e')) (hcl:cs.length=n * z) :
  ∃ news:List Value,Src P z tx v n news w∧news.length=n * z∧(∀ (i:Nat) (c:AV) (u:Value),cs[i]?=some c→news[i]?=some u→Rel Z w c u∧u.oneCell'=true) ∧
   ∀ k,k≤n→(Builtin.firstCells z k v).run P w=.ok (news.take (k * z)).toArray w:=by
 obtain ⟨A,c,rfl,hc,hcase⟩:=acont_rel g h r
 rcases hcase with ⟨rfl,hA⟩ | ⟨b,base,rfl,hcs⟩
 ·have hnz:n * z=0:=by simpa using hcl.symm
  cases A with
  | none =>
   obtain rfl:=hA rfl
   refine ⟨[],Src.ofNil w hk c,by simp,fun i c u hc _=>by simp at hc,fun k hk0=>?_⟩
   obtain rfl:k=0:=by omega
   rw [List.take_nil]
   exact run_firstCells_none w z 0 0 c
  | some A =>
   refine ⟨[],Src.ofSlice w hk A n c [] (by simpa using hnz.symm) (fun j u hu=>by simp at hu) (fun u hu=>by cases hu),by simpa using hnz.symm,fun i c u hc _=>by simp at hc,fun k hk0=>?_⟩
   have hle:k * z≤n * z:=Nat.mul_le_mul_right _ hk0
   rw [List.take_nil]
   exact run_firstCells_some w z k A n c [] (by simp; omega) (fun j u hu=>by simp at hu)
 ·obtain ⟨us,hul,hrun,hcell,hrel⟩:=run_cells (P:=P) (off:=0) (z:=n * z) (cs:=cs) (by omega) hcs
  have hall:((cs.drop 0).take (n * z))=cs:=by rw [List.drop_zero,← hcl,List.take_length]
  rw [hall] at hrel
  have hone:∀ u∈us,u.oneCell'=true:=by
   intro u hu
   obtain ⟨i,hi,he⟩:=List.getElem_of_mem hu
   have hlt:i < cs.length:=by omega
   exact (hrel i _ u (List.getElem?_eq_getElem hlt) (by rw [← he]; exact List.getElem?_eq_getElem hi)).2
  have hcell':∀ (j:Nat) (u:Value),us[j]?=some u→w.cell? ((⟨b,base,none⟩:Addr).add j)=some u:=fun j u hu=>by
   rw [add_none]
   simpa using hcell j u hu
  refine ⟨us,Src.ofSlice w hk _ n c us hul hcell' hone,hul,hrel,fun k hk0=>?_⟩
  have hle:k * z≤n * z:=Nat.mul_le_mul_right _ hk0
  refine run_firstCells_some w z k _ n c _ (by rw [List.length_take]; omega) (fun j u hu=>hcell' j u ?_)
  rw [List.getElem?_take] at hu
  split at hu
  ·exact hu
  ·cases hu
def AS.mv (s:AS) (b b' n:Nat) (cs:List AV):AS:=⟨s.t,(s.h.set b none).set b' (some cs),n,s.sz⟩
theorem Good.sub {Z:Nat→Prop} {h h':Heap} {w:World} (g:Good Z h w) (hs:∀ b o,h' b=some o→h b=some o):Good Z h' w :=
 ⟨g.zb,fun b o hb=>g.hz b o (hs b o hb),fun b o hb=>g.hb b o (hs b o hb),g.tb⟩
theorem Ext.sub {h h1 h2:Heap} {Z Z':Nat→Prop} {w w':World} (x:Ext h Z w h1 Z' w') (hs:∀ b o,h2 b=some o→h1 b=some o):Ext h Z w h2 Z' w' :=
 ⟨x.os,x.tape,x.output,x.size,x.keep,x.shp,fun b hb=>x.own b (by
  rcases Option.eq_none_or_eq_some (h2 b) with e | ⟨o,e⟩
  ·exact absurd e hb
  ·rw [hs b o e]; simp),x.zz,x.zf⟩
theorem Ext.drew {h:Heap} {Z:Nat→Prop} {w:World}:Ext h Z w h Z w.drew :=
 ⟨rfl,rfl,rfl,Nat.le_refl _,fun _ _ _=>rfl,fun _ _=>rfl,fun _ hb=>.inl hb,fun _ hb=>hb,fun _ hb=>.inl hb⟩
theorem Good.drew {h:Heap} {Z:Nat→Prop} {w:World} (g:Good Z h w):Good Z h w.drew :=
 ⟨g.zb,g.hz,fun b o hb=>(g.hb b o hb).step g Ext.drew rfl,g.tb.step g Ext.drew⟩
theorem SR.drew {Z:Nat→Prop} {s:AS} {a:Act} {w:World} (r:SR Z s a w):SR Z s a w.drew :=
 ⟨fun t=>(r.tm t).step r.gd Ext.drew,r.ts,r.df,r.gd.drew,r.hn,r.hl⟩
theorem append_new {Z:Nat→Prop} {a:Act} {w:World} {olds news:List Value} {os ys:List AV} {e k:Nat} {zv:Array Value} (r:SR Z s a w)
  (ho:os.length=olds.length) (hor:∀ (i:Nat) (c:AV) (u:Value),os[i]?=some c→olds[i]?=some u→Rel Z w c u∧u.oneCell'=true)
  (hy:ys.length=news.length) (hyr:∀ (i:Nat) (c:AV) (u:Value),ys[i]?=some c→news[i]?=some u→Rel Z w c u∧u.oneCell'=true) :
  Ext s.h Z w (s.h.set w.heap.size (some (os++ys))) Z (w.drew.alloc (.cells ((olds++news).toArray++Builtin.zeroCells zv k) e)) ∧
   Good Z (s.h.set w.heap.size (some (os++ys))) (w.drew.alloc (.cells ((olds++news).toArray++Builtin.zeroCells zv k) e)):=by
 refine newBlock (lo:=0) (hi:=0) (e:=e) (arr:=(olds++news).toArray++Builtin.zeroCells zv k) r.gd (by simp; omega) (fun i c u hc hu=>?_) (.inl (Nat.le_refl _)) rfl rfl rfl rfl
 have hlt:i < os.length+ys.length:=by
  have:=(List.getElem?_eq_some_iff.1 hc).1
  simpa using this
 rw [Array.getElem?_append_left (by simp; omega)] at hu
 have hu':(olds++news)[i]?=some u:=by simpa using hu
 by_cases hi:i < os.length
 ·rw [List.getElem?_append_left hi] at hc
  rw [List.getElem?_append_left (by omega)] at hu'
  exact hor i c u hc hu'
 ·rw [List.getElem?_append_right (by omega)] at hc
  rw [List.getElem?_append_right (by omega)] at hu'
  rw [ho] at hc
  exact hyr _ c u hc hu'
def asrc (s:AS):AV→Option (List AV×Nat)
 | .sc (.string b)=>some ((byteCells b).map .sc,b.size)
 | x=>acont s x
theorem src_any {Z:Nat→Prop} {w:World} {x:AV} {v:Value} {cs:List AV} {n z:Nat} {tx:TypeId} (g:Good Z s.h w) (h:asrc s x=some (cs,n)) (r:Rel Z w x v)
  (hk:(∃ e',P.underlying tx=some (.slice e')∧acont s x=some (cs,n))∨(P.underlying tx=some .string∧z=1∧∃ b,x=.sc (.string b))) (hcl:cs.length=n * z) :
  ∃ news:List Value,Src P z tx v n news w∧news.length=n * z∧(∀ (i:Nat) (c:AV) (u:Value),cs[i]?=some c→news[i]?=some u→Rel Z w c u∧u.oneCell'=true) ∧
   ∀ k,k≤n→(Builtin.firstCells z k v).run P w=.ok (news.take (k * z)).toArray w:=by
 rcases hk with ⟨e',hk,hx⟩ | ⟨hk,rfl,b,rfl⟩
 ·exact src_of g hx r hk hcl
 ·simp only [asrc,Option.some.injEq,Prod.mk.injEq] at h
  obtain ⟨rfl,rfl⟩:=h
  obtain rfl:=r.sc_inv
  refine ⟨byteCells b,Src.ofString w hk b,by rw [byteCells_length,Nat.mul_one],fun i c u hc hu=>?_,fun k hk0=>?_⟩
  ·rw [List.getElem?_map,hu] at hc
   simp only [Option.map_some,Option.some.injEq] at hc
   subst hc
   have h1:u.oneCell'=true:=by
    obtain ⟨x,_,rfl⟩:=List.mem_map.1 (List.mem_of_getElem? hu)
    rfl
   exact ⟨.sc u h1,h1⟩
  ·simp only [Builtin.firstCells,byteCells,Nat.mul_one]
   rw [Sem.run_pure]
   congr 1
   apply Array.ext'
   have hd:(b.extract 0 k).data=b.data.extract 0 k:=by simp [ByteArray.data_extract]
   rw [hd]
   simp [Array.toList_extract,List.map_take]
variable {t tx e:TypeId} {i:TypeInfo} {zv:Value} {x y:Operand}
theorem OpW_append {b n z m:Nat} {o ys:List AV} (hx:aev s x=.sl b 0 n z) (ho:s.h b=some o) (hol:o.length=n * z) (hy:asrc s (aev s y)=some (ys,m)) (hyl:ys.length=m * z)
  (hk2:(∃ e',P.underlying tx=some (.slice e')∧acont s (aev s y)=some (ys,m))∨(P.underlying tx=some .string∧z=1∧∃ b,aev s y=.sc (.string b)))
  (ht:P.underlying t=some (.slice e)) (hi:P.info? e=some i) (hz:i.zero=some zv) (hsz:i.size=z) (hzc:zv.cells.size=z) (hroom:(n+m) * i.bytes≤140737488355328) (hmax:n+m≤9223372036854775807) (hd:dOk s dst=true)
  (hk:∀ b' n',(b'=b∨s.n≤b')→b' < n'→s.n≤n'→K ((s.mv b b' n' (o++ys)).put dst (.sl b' 0 (n+m) z))) :
  OpW P ⟨dst,.call { callee:=.builtin .append,args:=#[x,y],argTypes:=#[t,tx] },ty,pos,after,none⟩ K s:=by
 intro Z a w r next Q hn
 have hxv:=aev_rel r x
 rw [hx] at hxv
 obtain ⟨c,e0,m0,hxe,hnc,hs,hm⟩:∃ c e0 m0,a.eval x=.slice (some ⟨b,0,none⟩) n c∧n≤c∧w.shape? b=some (e0,m0)∧0+c * z≤m0:=by
  generalize hu:a.eval x=u at hxv
  cases hxv with
  | sl _ _ _ _ c e0 m0 hc hs hm=>exact ⟨c,e0,m0,rfl,hc,hs,hm⟩
 obtain ⟨news,hsrc,hnl,hnr,_⟩:=src_any (P:=P) r.gd hy (aev_rel r y) hk2 hyl
 obtain ⟨arr,e',lo,hi',hh,hl0,hr0,hf⟩:=(r.gd.hb b o ho).cells hs
 have hm0:m0=arr.size:=by
  simp only [World.shape?,hh,Option.some.injEq,Prod.mk.injEq] at hs
  exact hs.2.symm
 have hexec:execOp a.eval ⟨dst,.call { callee:=.builtin .append,args:=#[x,y],argTypes:=#[t,tx] },ty,pos,after,none⟩=(do pure (.value (← Builtin.append_ #[t,tx] ty #[a.eval x,a.eval y]))):=by
  simp [execOp,resolve,invoke,builtin]
 by_cases hcap:n+m≤c
 ·have hle:(n+m) * z≤c * z:=Nat.mul_le_mul_right _ hcap
  rw [Nat.add_mul] at hle
  have hrun:=run_append_room_src (P:=P) w t tx ty e i ht hi b 0 n c (a.eval y) m news (by rw [hsz]; exact hsrc) hcap
   (fun j hj=>by rw [hsz]; simp [World.cell?,hh]; omega) (fun j hj=>by rw [hsz]; exact frozen_no hh hf _ (by omega))
  rw [hsz,Nat.zero_add] at hrun
  obtain ⟨ex,gd⟩:=writeBlock (off:=n * z) (vs:=news) (o':=o++ys) r.gd ho hh hf (by omega) (by simp; omega) hsrc.one
   (fun j cc u hc hu=>by
    rw [List.getElem?_append_right (by omega),show n * z+j - o.length=j by omega] at hc
    exact (hnr j cc u hc hu).1)
   (fun j cc hj hc=>by
    have hlt:=(List.getElem?_eq_some_iff.1 hc).1
    simp only [List.length_append] at hlt
    rwa [List.getElem?_append_left (by omega)] at hc)
  have hset:(s.h.set b none).set b (some (o++ys))=s.h.set b (some (o++ys)):=by
   funext k
   simp only [Heap.set]
   split<;>rfl
  unfold Oper.wp
  rw [hexec,Sem.run_bind,hxe,hrun]
  have hK:=hk b s.n (.inl rfl) (r.hl b o ho) (Nat.le_refl _)
  unfold AS.mv at hK
  rw [hset] at hK
  refine hn _ Z _ _ hK (r.next ex gd (by rw [(setCells_rest _ _ _ _).2.2.2]; exact r.hn) (r.hl_set ho) hd (.sl b 0 (n+m) z c e0 m0 hcap ?_ hm)) ?_
  ·rw [ex.shp b (shape_lt hs)]
   exact hs
  ·cases dst<;>exact ex
 ·have hfit:Builtin.nextslicecap (n+m) c * i.bytes≤281474976710656:=growslice_fits (by omega) hroom
  obtain ⟨olds,hol2,holr⟩:∃ olds:List Value,(Builtin.firstCells i.size n (.slice (some ⟨b,0,none⟩) n c)).run P w.drew=.ok olds.toArray w.drew∧(o.length=olds.length∧∀ (i:Nat) (c:AV) (u:Value),o[i]?=some c→olds[i]?=some u→Rel Z w c u∧u.oneCell'=true):=by
   obtain ⟨us,hul,_,hcell,hrel⟩:=run_cells (P:=P) (Z:=Z) (w:=w) (b:=b) (base:=0) (off:=0) (z:=n * z) (cs:=o) (by omega) (fun i c hc=>by
    have hlt:i < arr.size:=Nat.lt_of_lt_of_le (List.getElem?_eq_some_iff.1 hc).1 hl0
    obtain ⟨h1,h2⟩:=hr0 i c arr[i] hc (Array.getElem?_eq_getElem hlt)
    exact ⟨arr[i],by simp [World.cell?,hh,hlt],h1,h2⟩)
   have hall:((o.drop 0).take (n * z))=o:=by rw [List.drop_zero,← hol,List.take_length]
   rw [hall] at hrel
   refine ⟨us,?_,by omega,hrel⟩
   rw [hsz]
   exact run_firstCells_some w.drew z n ⟨b,0,none⟩ n c us hul (fun j u hu=>by rw [add_none]; simpa using hcell j u hu)
  have hrun:=run_append_grow_src (P:=P) w t tx ty e i zv ht hi hz (some ⟨b,0,none⟩) n c olds hol2 (a.eval y) m news (by rw [hsz]; exact hsrc) (by omega) (by omega) hfit
  obtain ⟨ex,gd⟩:=append_new (e:=e) (k:=grownCap w (n+m) c e - (n+m)) (zv:=zv.cells) r holr.1 holr.2 (by rw [hnl]; exact hyl) hnr
  have hbn:b≠w.heap.size:=by
   have:=r.gd.lt ho
   omega
  have hsub:∀ k q,((s.h.set b none).set w.heap.size (some (o++ys))) k=some q→(s.h.set w.heap.size (some (o++ys))) k=some q:=by
   intro k q hkq
   simp only [Heap.set] at hkq ⊢
   split
   ·rename_i hk1
    rw [if_pos hk1] at hkq
    exact hkq
   ·rename_i hk1
    rw [if_neg hk1] at hkq
    split at hkq
    ·cases hkq
    ·exact hkq
  have ex2:=ex.sub hsub
  have gd2:=gd.sub hsub
  unfold Oper.wp
  rw [hexec,Sem.run_bind,hxe,hrun]
  have hpush:∀ O,(w.drew.alloc O).heap=w.heap.push O:=fun _=>rfl
  refine hn _ Z _ _ (hk w.heap.size (w.heap.size+1) (.inr r.hn) (Nat.lt_succ_self _) (by have:=r.hn; omega)) (r.next ex2 gd2 (by rw [hpush,Array.size_push]; exact Nat.le_refl _) (fun k q hkq=>?_) hd ?_) ?_
  ·have:=gd2.lt hkq
   rwa [hpush,Array.size_push] at this
  ·have hgc:n+m≤grownCap w (n+m) c e:=by unfold grownCap Question.cut; exact Nat.le_add_right _ _
   refine .sl w.heap.size 0 (n+m) z (grownCap w (n+m) c e) e ((olds++news).toArray++Builtin.zeroCells zv.cells (grownCap w (n+m) c e - (n+m))).size hgc ?_ ?_
   ·unfold World.shape?
    rw [hpush]
    simp
   ·have h1:=holr.1
    rw [Array.size_append,size_zeroCells,hzc]
    have h2:(olds++news).toArray.size=(n+m) * z:=by simp [hnl,← h1,hol,Nat.add_mul]
    rw [h2,← Nat.add_mul,Nat.zero_add]
    exact Nat.mul_le_mul_right _ (by omega)
  ·cases dst<;>exact ex2
end ops
end Go.Proofs.Ytglgdaeimfdpfaa.VM
