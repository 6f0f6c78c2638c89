/- Words and rules that the proof uses. -/
import Derived.Test.YtglgdaeimfdpfaaVmOps
import Derived.ChangeKeysEq
namespace Go.Proofs.Ytglgdaeimfdpfaa.VM
open Go Go.RowKit
def acells:AV→Option (List AV)
 | .agg cs=>some cs
 | .tup _=>none
 | .any=>none
 | .mp _=>none
 | x=>some [x]
theorem acells_rel {Z:Nat→Prop} {w:World} {a:AV} {v:Value} {cs:List AV} (h:acells a=some cs) (r:Rel Z w a v) :
  cs.length=v.cells.size∧∀ (i:Nat) (c:AV) (u:Value),cs[i]?=some c→v.cells[i]?=some u→Rel Z w c u∧u.oneCell'=true:=by
 have key:∀ (hv:v.cells=#[v]) (h1:v.oneCell'=true),cs=[a]→cs.length=v.cells.size∧∀ (i:Nat) (c:AV) (u:Value),cs[i]?=some c→v.cells[i]?=some u→Rel Z w c u∧u.oneCell'=true:=by
  intro hv h1 hcs
  subst hcs
  rw [hv]
  refine ⟨rfl,fun i c u hc hu=>?_⟩
  cases i with
  | zero =>
   simp only [List.getElem?_cons_zero,Option.some.injEq] at hc
   have hu':v=u:=by simpa using hu
   subst hc
   subst hu'
   exact ⟨r,h1⟩
  | succ i=>simp at hc
 cases r with
 | sc v h1 =>
  simp only [acells,Option.some.injEq] at h
  exact key (by cases v<;>first | rfl | simp [Value.oneCell'] at h1) h1 h.symm
 | agg cs' vs hl h1 hr =>
  simp only [acells,Option.some.injEq] at h
  subst h
  exact ⟨hl,fun i c u hc hu=>⟨hr i c u hc hu,h1 u (Array.mem_of_getElem? hu)⟩⟩
 | tup cs' vs=>simp [acells] at h
 | any v=>simp [acells] at h
 | mp es=>simp [acells] at h
 | mref b=>simp only [acells,Option.some.injEq] at h; exact key rfl rfl h.symm
 | nil=>simp only [acells,Option.some.injEq] at h; exact key rfl rfl h.symm
 | lnil n c A=>simp only [acells,Option.some.injEq] at h; exact key rfl rfl h.symm
 | lst cs' n c b off f=>simp only [acells,Option.some.injEq] at h; exact key rfl rfl h.symm
 | sl b off n z c e m=>simp only [acells,Option.some.injEq] at h; exact key rfl rfl h.symm
 | ptr b off=>simp only [acells,Option.some.injEq] at h; exact key rfl rfl h.symm
 | rptr cs' o b off f=>simp only [acells,Option.some.injEq] at h; exact key rfl rfl h.symm
 | clo f cs' vs=>simp only [acells,Option.some.injEq] at h; exact key rfl rfl h.symm
theorem shape_alloc (w:World) (cs:Array Value) (e:TypeId):(w.alloc (.cells cs e)).shape? w.heap.size=some (e,cs.size):=by
 have h:(w.alloc (.cells cs e)).heap[w.heap.size]?=some (.cells cs e):=by
  show (w.heap.push _)[w.heap.size]?=_
  simp
 unfold World.shape?
 rw [h]
theorem newBlock {Z:Nat→Prop} {h:Heap} {w w':World} {cs:List AV} {arr:Array Value} {e lo hi:Nat} (g:Good Z h w) (hl:cs.length≤arr.size)
  (hr:∀ (i:Nat) (c:AV) (u:Value),cs[i]?=some c→arr[i]?=some u→Rel Z w c u∧u.oneCell'=true) (hf:hi≤lo∨arr.size≤lo)
  (hw:w'.heap=w.heap.push (.cells arr e (lo,hi))) (h1:w'.os=w.os) (h2:w'.tape=w.tape) (h3:w'.output=w.output) :
  Ext h Z w (h.set w.heap.size (some cs)) Z w'∧Good Z (h.set w.heap.size (some cs)) w':=by
 have hold:∀ b,b < w.heap.size→w'.heap[b]?=w.heap[b]?:=by
  intro b hb
  rw [hw,Array.getElem?_push]
  simp [Nat.ne_of_lt hb]
 have x:Ext h Z w (h.set w.heap.size (some cs)) Z w':=by
  refine ⟨h1,h2,h3,by rw [hw]; simp,fun b hb _=>hold b hb,fun b hb=>by simp [World.shape?,hold b hb],fun b hb=>?_,fun _ hz=>hz,fun _ hz=>.inl hz⟩
  by_cases hbe:b=w.heap.size
  ·exact .inr (by omega)
  ·left
   rwa [Heap.set_ne _ _ _ _ hbe] at hb
 refine ⟨x,fun b hb=>by rw [hw]; have:=g.zb b hb; simp; omega,fun b o hb hz=>?_,fun b o hb=>?_,g.tb.step g x⟩
 ·by_cases hbe:b=w.heap.size
  ·subst hbe
   exact Nat.lt_irrefl _ (g.zb _ hz)
  ·rw [Heap.set_ne _ _ _ _ hbe] at hb
   exact g.hz b o hb hz
 ·by_cases hbe:b=w.heap.size
  ·subst hbe
   rw [Heap.set_eq] at hb
   simp only [Option.some.injEq] at hb
   subst hb
   exact .inl ⟨arr,e,lo,hi,by rw [hw]; simp,hl,fun i c u hc hu=>⟨(hr i c u hc hu).1.step g x,(hr i c u hc hu).2⟩,hf⟩
  ·rw [Heap.set_ne _ _ _ _ hbe] at hb
   exact (g.hb b o hb).step g x (hold b (g.lt hb))
def AS.new (s:AS) (b:Nat) (cs:List AV):AS:=⟨s.t,s.h.set b (some cs),b+1,s.sz⟩
theorem OpW_new {P:Program} {o:Oper} {K:AS→Prop} {s:AS} {cs:List AV} {av:Nat→AV} (hd:dOk s o.dst=true)
  (h:∀ Z a w,SR Z s a w→∃ v w' arr e lo hi,(execOp a.eval o).run P w=.ok (.value v) w'∧cs.length≤arr.size ∧
   (∀ (i:Nat) (c:AV) (u:Value),cs[i]?=some c→arr[i]?=some u→Rel Z w c u∧u.oneCell'=true)∧(hi≤lo∨arr.size≤lo) ∧
   w'.heap=w.heap.push (.cells arr e (lo,hi))∧w'.os=w.os∧w'.tape=w.tape∧w'.output=w.output∧Rel Z w' (av w.heap.size) v)
  (hk:∀ b,s.n≤b→K ((s.new b cs).put o.dst (av b))):OpW P o K s:=by
 intro Z a w r next Q hn
 obtain ⟨v,w',arr,e,lo,hi,hrun,hl,hr,hf,hw,h1,h2,h3,hv⟩:=h Z a w r
 obtain ⟨x,g⟩:=newBlock r.gd hl hr hf hw h1 h2 h3
 unfold Oper.wp
 rw [hrun]
 refine hn _ Z _ w' (hk w.heap.size r.hn) (r.next x g (by rw [hw]; simp) (fun b o hb=>?_) hd hv) ?_
 ·by_cases hbe:b=w.heap.size
  ·omega
  ·rw [Heap.set_ne _ _ _ _ hbe] at hb
   have:=r.gd.lt hb
   omega
 ·have he:((s.new w.heap.size cs).put o.dst (av w.heap.size)).h=s.h.set w.heap.size (some cs):=by cases o.dst<;>rfl
  rw [he]
  exact x
def atp (s:AS):AV→Option (List AV×Nat)
 | .ptr b off=>(s.h b).map fun o=>(o,off)
 | .rptr cs off=>some (cs,off)
 | _=>none
theorem atp_rel {Z:Nat→Prop} {s:AS} {w:World} {p:AV} {v:Value} {cs:List AV} {off:Nat} (g:Good Z s.h w) (h:atp s p=some (cs,off)) (r:Rel Z w p v) :
  ∃ b base,v=.pointer (some ⟨b,base+off,none⟩)∧∀ (i:Nat) (c:AV),cs[i]?=some c→∃ u,w.cell? ⟨b,base+i,none⟩=some u∧Rel Z w c u∧u.oneCell'=true:=by
 cases r with
 | ptr b off' e0 m0 hs0 =>
  simp only [atp] at h
  rw [Option.map_eq_some_iff] at h
  obtain ⟨o,ho,he⟩:=h
  simp only [Prod.mk.injEq] at he
  obtain ⟨rfl,rfl⟩:=he
  refine ⟨b,0,by rw [Nat.zero_add],fun i c hc=>?_⟩
  obtain ⟨arr,e,lo,hi,hh,hl,hr,hf⟩:=(g.hb b o ho).cells hs0
  have hlt:i < arr.size:=Nat.lt_of_lt_of_le (List.getElem?_eq_some_iff.1 hc).1 hl
  obtain ⟨h1,h2⟩:=hr i c arr[i] hc (Array.getElem?_eq_getElem hlt)
  exact ⟨arr[i],by simp [World.cell?,hh,hlt],h1,h2⟩
 | rptr cs' o b off' f hz hs hr =>
  simp only [atp,Option.some.injEq,Prod.mk.injEq] at h
  obtain ⟨rfl,rfl⟩:=h
  exact ⟨b,off',rfl,fun i c hc=>⟨f i,(hs i c hc).1,hr i c hc,(hs i c hc).2⟩⟩
 | _=>simp [atp] at h
theorem add_none (b o n:Nat):(⟨b,o,none⟩:Addr).add n=⟨b,o+n,none⟩:=by unfold Addr.add; split<;>simp_all
theorem run_cells {P:Program} {Z:Nat→Prop} {w:World} {b base off z:Nat} {cs:List AV} (hz:off+z≤cs.length)
  (hc:∀ (i:Nat) (c:AV),cs[i]?=some c→∃ u,w.cell? ⟨b,base+i,none⟩=some u∧Rel Z w c u∧u.oneCell'=true) :
  ∃ us:List Value,us.length=z∧(loadCells ⟨b,base+off,none⟩ z).run P w=.ok us.toArray w∧(∀ (i:Nat) (u:Value),us[i]?=some u→w.cell? ⟨b,base+off+i,none⟩=some u) ∧
   ∀ (i:Nat) (c:AV) (u:Value),((cs.drop off).take z)[i]?=some c→us[i]?=some u→Rel Z w c u∧u.oneCell'=true:=by
 have hex:∀ i,i < z→∃ u,w.cell? ⟨b,base+(off+i),none⟩=some u∧∀ c,cs[off+i]?=some c→Rel Z w c u∧u.oneCell'=true:=by
  intro i hi
  have hlt:off+i < cs.length:=by omega
  obtain ⟨u,h1,h2⟩:=hc (off+i) cs[off+i] (List.getElem?_eq_getElem hlt)
  refine ⟨u,h1,fun c hc'=>?_⟩
  rw [List.getElem?_eq_getElem hlt] at hc'
  simp only [Option.some.injEq] at hc'
  subst hc'
  exact h2
 let f:Nat→Value:=fun i=>if hi:i < z then (hex i hi).choose else undef
 have hf:∀ i (hi:i < z),w.cell? ⟨b,base+(off+i),none⟩=some (f i)∧∀ c,cs[off+i]?=some c→Rel Z w c (f i)∧(f i).oneCell'=true:=by
  intro i hi
  simp only [f,hi,dif_pos]
  exact (hex i hi).choose_spec
 refine ⟨(List.range z).map f,by simp,?_,fun i u hu=>?_,fun i c u hc' hu=>?_⟩
 ·have:=run_loadCells (P:=P) w ⟨b,base+off,none⟩ z f (fun j hj=>by rw [add_none,Nat.add_assoc]; exact (hf j hj).1)
  exact this
 ·obtain ⟨hi,he⟩:=List.getElem?_eq_some_iff.1 hu
  simp only [List.length_map,List.length_range] at hi
  simp only [List.getElem_map,List.getElem_range] at he
  subst he
  rw [Nat.add_assoc]
  exact (hf i hi).1
 ·obtain ⟨hi,he⟩:=List.getElem?_eq_some_iff.1 hu
  simp only [List.length_map,List.length_range] at hi
  simp only [List.getElem_map,List.getElem_range] at he
  subst he
  rw [List.getElem?_take,if_pos hi,List.getElem?_drop] at hc'
  exact (hf i hi).2 c hc'
theorem info_run {P:Program} {t:TypeId} {z:Nat} (h:(P.info? t).map (·.size)=some z) (w:World):(Go.sizeOf t).run P w=.ok z w:=by
 obtain ⟨i,hi,hz⟩:=Option.map_eq_some_iff.1 h
 have h1:=run_typeInfo (P:=P) w hi
 unfold Go.sizeOf
 simp [h1,hz]
def isAggD:TypeDesc→Bool
 | .struct _=>true
 | .array _ _=>true
 | _=>false
theorem isAgg_run {P:Program} {t:TypeId} {d:TypeDesc} (h:P.underlying t=some d) (w:World):(isAgg t).run P w=.ok (isAggD d) w:=by
 unfold isAgg
 cases d<;>simp [run_underlying h,isAggD]
section ops
variable {P:Program} {K:AS→Prop} {s:AS} {dst:Option Tmp} {ty:TypeId} {pos:String} {after:Array Edge}
theorem OpW_load_agg {t:TypeId} {p:Operand} {cs:List AV} {off z:Nat} {d:TypeDesc} (hp:atp s (aev s p)=some (cs,off)) (ht:P.underlying t=some d) (hag:isAggD d=true) (hz:(P.info? t).map (·.size)=some z) (hb:off+z≤cs.length) (hd:dOk s dst=true)
  (hk:K (s.put dst (.agg ((cs.drop off).take z)))):OpW P ⟨dst,.load t p,ty,pos,after,none⟩ K s:=by
 refine OpW_same hd (fun Z a w r=>?_) hk
 obtain ⟨b,base,hv,hc⟩:=atp_rel r.gd hp (aev_rel r p)
 obtain ⟨us,hul,hrun,_,hrel⟩:=run_cells (P:=P) hb hc
 refine ⟨.agg us.toArray,?_,.agg _ _ (by simp [hul]; omega) (fun v hv'=>?_) (fun i c u hc' hu=>(hrel i c u hc' (by simpa using hu)).1)⟩
 ·simp only [execOp,Instr.loadAt,hv,Instr.sureAddr,loadVar]
  simp [isAgg_run ht,hag,info_run hz,hrun]
 ·obtain ⟨i,hi,he⟩:=Array.getElem_of_mem hv'
  have hi':i < us.length:=by simpa using hi
  have hlt:i < ((cs.drop off).take z).length:=by simp; omega
  exact (hrel i _ v (List.getElem?_eq_getElem hlt) (by rw [List.getElem?_eq_getElem hi',← he]; simp)).2
theorem OpW_load {t:TypeId} {p:Operand} {cs:List AV} {off:Nat} {c:AV} {d:TypeDesc} (hp:atp s (aev s p)=some (cs,off)) (ht:P.underlying t=some d) (hag:isAggD d=false) (hc:cs[off]?=some c) (hd:dOk s dst=true)
  (hk:K (s.put dst c)):OpW P ⟨dst,.load t p,ty,pos,after,none⟩ K s:=by
 refine OpW_same hd (fun Z a w r=>?_) hk
 obtain ⟨b,base,hv,hcs⟩:=atp_rel r.gd hp (aev_rel r p)
 obtain ⟨u,hu,hrel,_⟩:=hcs off c hc
 refine ⟨u,?_,hrel⟩
 simp only [execOp,Instr.loadAt,hv,Instr.sureAddr,loadVar]
 simp [isAgg_run ht,hag,load,Sem.run,hu]
theorem OpW_fieldAddr {t:TypeId} {p:Operand} {f:Nat} {b off:Nat} {fs:Array Field} {fd:Field} {z:Nat} (hp:aev s p=.ptr b off) (ht:P.underlying t=some (.struct fs)) (hf:fs[f]?=some fd) (hz:(P.info? fd.type).map (·.size)=some z) (hz0:z≠0) (hd:dOk s dst=true)
  (hk:K (s.put dst (.ptr b (off+fd.offset)))):OpW P ⟨dst,.fieldAddr t p f,ty,pos,after,none⟩ K s:=by
 refine OpW_same hd (fun Z a w r=>?_) hk
 have hv:=aev_rel r p
 rw [hp] at hv
 generalize hu:a.eval p=u at hv
 obtain ⟨e0,m0,hs0,rfl⟩:=hv.ptr_inv
 refine ⟨_,?_,.ptr _ _ e0 m0 hs0⟩
 simp only [execOp,Instr.fieldAt,hu,Instr.sureAddr,fieldPlace]
 simp [run_underlying ht,hf,info_run hz,hz0,add_none]
theorem OpW_indexAddr_l {t e:TypeId} {x y:Operand} {cs:List AV} {n z:Nat} {k:IntKind} {i:Int} {j:Nat} (hx:aev s x=.lst cs n) (hy:aev s y=.sc (.int k i)) (hi:i=(j:Int)) (hj:j < n) (ht:P.underlying t=some (.slice e)) (hz:(P.info? e).map (·.size)=some z)
  (hne:cs≠[]) (hd:dOk s dst=true) (hk:K (s.put dst (.rptr cs (j * z)))):OpW P ⟨dst,.indexAddr t x y,ty,pos,after,none⟩ K s:=by
 subst hi
 refine OpW_same hd (fun Z a w r=>?_) hk
 have hv:=aev_rel r x
 have hv2:=aev_rel r y
 rw [hx] at hv
 rw [hy] at hv2
 have hv2:=hv2.sc_inv
 generalize hu:a.eval x=u at hv
 cases hv with
 | lnil=>exact absurd rfl hne
 | lst _ _ c b off f hc hzb hs hr =>
  refine ⟨.pointer (some ⟨b,off+j * z,none⟩),?_,.rptr cs _ b off f hzb hs hr⟩
  simp only [execOp,Instr.indexAt,hu,hv2,asIntOf]
  simp [run_underlying ht,info_run hz,add_none,hj]
theorem extract_rel {Z:Nat→Prop} {w:World} {cs:List AV} {vs:Array Value} {o z:Nat} (hl:cs.length=vs.size) (h1:∀ v∈vs,v.oneCell'=true) (hr:∀ (i:Nat) (a:AV) (u:Value),cs[i]?=some a→vs[i]?=some u→Rel Z w a u) :
  Rel Z w (.agg ((cs.drop o).take z)) (.agg (vs.extract o (o+z))):=by
 refine .agg _ _ (by simp; omega) (fun v hv=>?_) (fun i c u hc hu=>?_)
 ·obtain ⟨i,hi,he⟩:=Array.getElem_of_mem hv
  rw [Array.getElem_extract] at he
  rw [← he]
  exact h1 _ (Array.getElem_mem _)
 ·rw [List.getElem?_take] at hc
  split at hc
  ·rename_i hiz
   rw [List.getElem?_drop] at hc
   rw [Array.getElem?_extract] at hu
   split at hu
   ·exact hr _ _ _ hc hu
   ·cases hu
  ·cases hc
end ops
end Go.Proofs.Ytglgdaeimfdpfaa.VM
