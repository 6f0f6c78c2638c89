/- Words and rules that the proof uses. -/
import Derived.Test.YtglgdaeimfdpfaaVtCall
namespace Go.Proofs.Ytglgdaeimfdpfaa.VM
open Go Go.RowKit
theorem OpW_frameT {P:Program} {o:Oper} {t0:Nat→AV} {d:Nat} {s:AS} {K0 K:AS→Prop} (hf:∀ u,Les (s.t u) (t0 u)) (hd:o.dst=some d) (h:OpW P o K0 ⟨t0,s.h,s.n,s.sz⟩)
  (hK:∀ s',K0 s'→∃ v h' n',s'=(AS.mk t0 h' n' s.sz).put (some d) v∧K ((AS.mk s.t h' n' s.sz).put (some d) v)):OpW P o K s:=by
 intro Z a w r next Q hn
 have r0:SR Z ⟨t0,s.h,s.n,s.sz⟩ a w:=⟨fun t=>hf t _ _ _ (r.tm t),r.ts,r.df,r.gd,r.hn,r.hl⟩
 refine wp_put ?_ ?_ (h Z a w r0 (fun a' w'=>∃ s' Z',K0 s'∧SR Z' s' a' w'∧Ext s.h Z w s'.h Z' w') Q (fun s' Z' a' w' k r' x=>⟨s',Z',k,r',x⟩))
 ·rintro v w' ⟨s',Z',k,r',x⟩
  obtain ⟨v',h',n',rfl,hk⟩:=hK s' k
  refine hn _ Z' _ w' hk ⟨fun t=>?_,?_,r'.df,r'.gd,r'.hn,r'.hl⟩ x
  ·by_cases ht:t=d
   ·subst ht
    have:=r'.tm t
    simpa [AS.put,AS.set] using this
   ·have h1:=(r.tm t).step r.gd x
    have h2:((AS.mk s.t h' n' s.sz).put (some d) v').t t=s.t t:=by simp [AS.put,AS.set,ht]
    have h3:(a.put o.dst v).tmps.getD t undef=a.tmps.getD t undef:=by
     rw [hd]
     simp [Act.put,Array.getD_eq_getD_getElem?,Array.getElem?_setIfInBounds,Ne.symm ht]
    rw [h2,h3]
    exact h1
  ·have:=r'.ts
   exact this
 ·rintro dd w' ⟨s',Z',k,r',x⟩
  have:=r'.df
  cases hod:o.dst<;>simp [hod,Act.put] at this
theorem AW_anyT {P:Program} {id:Nat} {ops:Array Oper} {Q:Go.Exit→AS→Prop} {s:AS} (hm:P.follows .mixedOrders=true) (h:AnyW P ops (Q .normal) ops.size (Array.replicate ops.size false) s):AW P (.region id ops true) Q s:=by
 intro Z a w r
 refine wp_region_any hm ?_
 have rd:SR Z s a { w with drawn:=w.drawn+1 }:=r.drew
 refine h Z a _ rd _ ?_
 rintro s' Z' a' w' hq r' x
 exact ⟨_,Z',hq,r',⟨x.os,x.tape,x.output,x.size,x.keep,x.shp,x.own,x.zz,x.zf⟩⟩
def OpG (P:Program) (ops:Array Oper) (o:Oper) (K:AS→Prop) (s:AS):Prop :=
 ∀ Z a w,SR Z s a w→∀ (Q:Go.Exit→Act→World→Prop) (next:Act→World→Prop),(∀ s' Z' a' w',K s'→SR Z' s' a' w'→Ext s.h Z w s'.h Z' w'→next a' w') →
  if Region.wanted o (yielded ops a.tmps)=true then o.wp P a w next Q∨(o.asks P a w∧LetsOut Q) else next (a.put o.dst undef) w
theorem OpG_none {P:Program} {ops:Array Oper} {o:Oper} {K:AS→Prop} {s:AS} (hg:o.guard=none) (h:OpW P o K s):OpG P ops o K s:=by
 intro Z a w r Q next hn
 have hw:Region.wanted o (yielded ops a.tmps)=true:=by simp [Region.wanted,hg]
 rw [if_pos hw]
 exact .inl (h Z a w r next Q hn)
theorem OpG_on {P:Program} {ops:Array Oper} {o:Oper} {K:AS→Prop} {s:AS} {j d:Nat} {want:Bool} (hg:o.guard=some (j,want)) (hj:((ops[j]?).bind (·.dst))=some d) (hv:Les (s.t d) (.sc (.bool want))) (hd:d < s.sz) (h:OpW P { o with guard:=none } K s):OpG P ops o K s:=by
 intro Z a w r Q next hn
 have ht:=hv _ _ _ (r.tm d)
 have hval:a.tmps.getD d undef=.bool want:=by
  generalize a.tmps.getD d undef=u at ht
  cases ht
  rfl
 have hsome:a.tmps[d]?=some (.bool want):=by
  have hlt:d < a.tmps.size:=by rw [r.ts]; exact hd
  rw [Array.getD_eq_getD_getElem?,Array.getElem?_eq_getElem hlt,Option.getD_some] at hval
  rw [Array.getElem?_eq_getElem hlt,hval]
 have hy:yielded ops a.tmps j=some want:=by
  unfold yielded
  rw [hj,Option.bind_some,hsome]
 have hw:Region.wanted o (yielded ops a.tmps)=true:=by
  unfold Region.wanted
  rw [hg]
  simp [hy]
 rw [if_pos hw]
 exact .inl (h Z a w r next Q hn)
theorem OpG_off {P:Program} {ops:Array Oper} {o:Oper} {K:AS→Prop} {s:AS} {j d:Nat} {want:Bool} (hg:o.guard=some (j,want)) (hj:((ops[j]?).bind (·.dst))=some d) (hv:Les (s.t d) (.sc (.bool (!want)))∨Les (s.t d) (.tup [])) (hd:d < s.sz) (hdst:dOk s o.dst=true) (h:K (s.put o.dst (.tup []))):OpG P ops o K s:=by
 intro Z a w r Q next hn
 have ht0:=r.tm d
 have hlt:d < a.tmps.size:=by rw [r.ts]; exact hd
 have hget:a.tmps.getD d undef=a.tmps[d]:=by rw [Array.getD_eq_getD_getElem?,Array.getElem?_eq_getElem hlt,Option.getD_some]
 have hw:Region.wanted o (yielded ops a.tmps)=false:=by
  unfold Region.wanted yielded
  rw [hg]
  simp only [hj,Option.bind_some,Array.getElem?_eq_getElem hlt]
  rw [hget] at ht0
  rcases hv with hv | hv
  ·have ht:=hv _ _ _ ht0
   generalize a.tmps[d]=u at ht
   cases ht
   cases want<;>rfl
  ·have ht:=hv _ _ _ ht0
   generalize a.tmps[d]=u at ht
   cases ht
   cases want<;>rfl
 rw [if_neg (by rw [hw]; decide)]
 have r2:=r.next (Ext.refl _ _ _) r.gd r.hn r.hl hdst (Rel.tup (w:=w) (Z:=Z) [] #[] rfl (fun i a v ha _=>by simp at ha))
 refine hn _ Z _ w h r2 ?_
 cases hdd:o.dst with
 | none=>exact Ext.refl _ _ _
 | some d'=>exact Ext.refl _ _ _
theorem AnyW_of_inv2 {P:Program} {ops:Array Oper} {K:AS→Prop} (J:Array Bool→AS→Prop)
  (hstep:∀ listed s i o,J listed s→i∈Region.ready .any ops listed→ops[i]?=some o→OpG P ops o (J (listed.setIfInBounds i true)) s)
  (hend:∀ listed s,J listed s→Region.ready .any ops listed=[]→K s) :
  ∀ (fuel:Nat) (listed:Array Bool) (s:AS),listed.size=ops.size→ops.size≤fuel+listed.toList.count true→J listed s→AnyW P ops K fuel listed s:=by
 have rd:∀ listed i,i∈Region.ready .any ops listed→i < ops.size∧listed.getD i true=false:=by
  intro listed i hi
  simp only [Region.ready,List.mem_filter,List.mem_range,Bool.and_eq_true,Bool.not_eq_true'] at hi
  exact ⟨hi.1,hi.2.1⟩
 intro fuel
 induction fuel with
 | zero =>
  intro listed s hsz hc hJ Z a w r Q hq
  have hnil:Region.ready .any ops listed=[]:=by
   apply List.eq_nil_iff_forall_not_mem.2
   intro i hi
   obtain ⟨h1,h2⟩:=rd listed i hi
   have hlt:i < listed.size:=by omega
   have h3:listed[i]=false:=by simpa [Array.getD_eq_getD_getElem?,Array.getElem?_eq_getElem hlt] using h2
   have hle:listed.toList.count true≤listed.toList.length:=List.count_le_length
   have hll:listed.toList.length=ops.size:=by simp [hsz]
   have heq:listed.toList.count true=listed.toList.length:=Nat.le_antisymm hle (by rw [hll]; omega)
   have hall:=List.count_eq_length.1 heq
   have:=hall listed[i] (by simp)
   rw [h3] at this
   cases this
  exact ⟨hnil,hq s Z a w (hend listed s hJ hnil) r (Ext.refl _ _ _)⟩
 | succ fuel ih =>
  intro listed s hsz hc hJ Z a w r Q hq
  refine ⟨fun hnil=>hq s Z a w (hend listed s hJ hnil) r (Ext.refl _ _ _),fun i hi=>?_⟩
  obtain ⟨h1,h2⟩:=rd listed i hi
  have hlt:i < listed.size:=by omega
  have h3:listed[i]=false:=by simpa [Array.getD_eq_getD_getElem?,Array.getElem?_eq_getElem hlt] using h2
  have ho:ops[i]?=some ops[i]:=Array.getElem?_eq_getElem h1
  have hop:=hstep listed s i ops[i] hJ hi ho
  unfold wpOp
  simp only [ho]
  refine hop Z a w r _ _ fun s' Z' a' w' k r' x=>?_
  refine ih (listed.setIfInBounds i true) s' (by simp [hsz]) ?_ k Z' a' w' r' Q (fun s2 Z2 a2 w2 k2 r2 x2=>hq s2 Z2 a2 w2 k2 r2 (x.trans x2))
  have hcount:(listed.setIfInBounds i true).toList.count true=listed.toList.count true+1:=by
   rw [Array.toList_setIfInBounds,List.count_set (by simpa using hlt)]
   simp [h3]
  omega
def OpDG (P:Program) (ops:Array Oper) (o:Oper) (s s':TS):Prop:=match o.guard with
 | none=>OpD P o s s'
 | some (j,want)=>∃ d,((ops[j]?).bind (·.dst))=some d∧dOk2 s (some d)=true∧((s.t d=.c (.p (.sc (.bool want)))∧OpD P { o with guard:=none } s s') ∨
   ((s.t d=.c (.p (.sc (.bool (!want))))∨s.t d=.c (.p (.tup [])))∧dOk2 s o.dst=true∧s'=s.put o.dst (.c (.p (.tup [])))))
def TailD (P:Program) (ops:Array Oper) (K:TS→Prop):List Nat→TS→Prop
 | [],s=>K s
 | i::l,s=>∃ o s',ops[i]?=some o∧OpDG P ops o s s'∧TailD P ops K l s'
theorem t_op {P:Program} {ops:Array Oper} {K:TS→Prop} {s s':TS} {i:Nat} {l:List Nat} {o:Oper} (ho:ops[i]?=some o) (hg:o.guard=none) (h:OpD P o s s') (hk:TailD P ops K l s'):TailD P ops K (i::l) s:=⟨o,s',ho,by unfold OpDG; rw [hg]; exact h,hk⟩
def drawT (s:TS) (vals:Nat→TV):List (Nat×Option Nat)→List (Nat×TV)
 | []=>[]
 | (u,none)::r=>(u,s.t u)::drawT s vals r
 | (u,some j)::r=>(u,vals j)::drawT s vals r
theorem drawT_look {s:TS} {vals:Nat→TV}:∀ (l:List (Nat×Option Nat)) (u:Nat),look TV.any (drawT s vals l) u=TV.any∨(∃ p∈l,p.1=u∧p.2=none∧look TV.any (drawT s vals l) u=s.t u)∨∃ p∈l,∃ j,p.1=u∧p.2=some j∧look TV.any (drawT s vals l) u=vals j
 | [],u=>.inl rfl
 | (k,none)::r,u=>by
  simp only [drawT]
  rw [look_cons]
  by_cases h:u=k
  ·subst h
   rw [if_pos rfl]
   exact .inr (.inl ⟨_,List.mem_cons_self,rfl,rfl,rfl⟩)
  ·rw [if_neg h]
   rcases drawT_look (s:=s) (vals:=vals) r u with h1 | ⟨p,h2,h3⟩ | ⟨p,h2,h3⟩
   ·exact .inl h1
   ·exact .inr (.inl ⟨p,List.mem_cons_of_mem _ h2,h3⟩)
   ·exact .inr (.inr ⟨p,List.mem_cons_of_mem _ h2,h3⟩)
 | (k,some j)::r,u=>by
  simp only [drawT]
  rw [look_cons]
  by_cases h:u=k
  ·subst h
   rw [if_pos rfl]
   exact .inr (.inr ⟨_,List.mem_cons_self,j,rfl,rfl,rfl⟩)
  ·rw [if_neg h]
   rcases drawT_look (s:=s) (vals:=vals) r u with h1 | ⟨p,h2,h3⟩ | ⟨p,h2,h3⟩
   ·exact .inl h1
   ·exact .inr (.inl ⟨p,List.mem_cons_of_mem _ h2,h3⟩)
   ·exact .inr (.inr ⟨p,List.mem_cons_of_mem _ h2,h3⟩)
def clB (ops:Array Oper) (cl:Nat→List Nat):Bool :=
 (List.range ops.size).all fun i=>(cl i).all fun j=>waitB ops i j || (List.range i).any fun l=>waitB ops i l && (cl l).contains j
def drawB2 (ops:Array Oper) (cl:Nat→List Nat) (p:Nat) (rd:Nat→List (Nat×Option Nat)) (fin:List (Nat×Option Nat)):Bool :=
 decide (p≤ops.size) &&
 ((List.range ops.size).all fun i=>match ops[i]? with
  | none=>false
  | some o=>(o.after.all fun e => !Region.binds .any e || decide (e.on < i)) &&
   (if i < p then o.dst.isSome && ((List.range p).all fun j=>decide (j=i) || decide (dstAt ops j≠o.dst)) &&
    ((rd i).all fun q=>match q.2 with
     | some j=>decide (j < p) && (cl i).contains j && decide (dstAt ops j=some q.1)
     | none=>(List.range p).all fun j=>decide (dstAt ops j≠some q.1) || decide (j=i) || (cl j).contains i)
   else (List.range i).all fun j=>(cl i).contains j)) && clB ops cl &&
 fin.all fun q=>match q.2 with
  | some j=>decide (j < p) && decide (dstAt ops j=some q.1)
  | none=>(List.range p).all fun j=>decide (dstAt ops j≠some q.1)
abbrev News:=List (Nat×Nat×List AV)
def newOp (nws:News) (i:Nat):Option (Nat×List AV):=look none (nws.map fun e=>(e.1,some e.2)) i
def newAt (nws:News) (c:Nat):Option (Nat×List AV):=look none (nws.map fun e=>(e.2.1,some (e.1,e.2.2))) c
def gA (nws:News) (h:Hp) (D:Nat→Bool) (c:Nat):Option Blk:=match newAt nws c with
 | some (i,cs)=>if D i then some (.pure cs) else h.get c
 | none=>h.get c
theorem newOp_mem:∀ {nws:News} {i:Nat} {x:Nat×List AV},newOp nws i=some x→(i,x)∈nws
 | [],i,x,h=>by cases h
 | (j,y)::l,i,x,h=>by
  unfold newOp at h
  rw [List.map_cons,look_cons] at h
  split at h
  ·rename_i hij
   cases h
   rw [hij]
   exact List.mem_cons_self
  ·exact List.mem_cons_of_mem _ (newOp_mem (nws:=l) h)
theorem newAt_mem:∀ {nws:News} {c:Nat} {x:Nat×List AV},newAt nws c=some x→(x.1,c,x.2)∈nws
 | [],c,x,h=>by cases h
 | (j,b,cs)::l,c,x,h=>by
  unfold newAt at h
  rw [List.map_cons,look_cons] at h
  split at h
  ·rename_i hcb
   cases h
   rw [hcb]
   exact List.mem_cons_self
  ·exact List.mem_cons_of_mem _ (newAt_mem (nws:=l) h)
theorem newAt_of_mem:∀ {nws:News} {i c:Nat} {cs:List AV},(i,c,cs)∈nws→∃ x,newAt nws c=some x
 | [],i,c,cs,h=>by cases h
 | (j,b,ds)::l,i,c,cs,h=>by
  unfold newAt
  rw [List.map_cons,look_cons]
  split
  ·exact ⟨_,rfl⟩
  ·rename_i hcb
   rcases List.mem_cons.1 h with h1 | h1
   ·cases h1
    exact absurd rfl hcb
   ·exact newAt_of_mem (nws:=l) h1
def OpX (P:Program) (o:Oper) (s:TS) (v:TV):Option (Nat×List AV)→Prop
 | none=>PureD P o s v
 | some (b,cs)=>MakeD P o s v b cs
theorem x_p {P:Program} {o:Oper} {s:TS} {v v':TV} {nws:News} {i:Nat} (h:newOp nws i=none) (hp:PureD P o s v) (hv:v=v'):OpX P o s v' (newOp nws i):=by subst hv; rw [h]; exact hp
def OpGX (P:Program) (ops:Array Oper) (o:Oper) (s:TS) (v:TV) (nw:Option (Nat×List AV)):Prop:=match o.guard with
 | none=>OpX P o s v nw
 | some (j,want)=>∃ d,((ops[j]?).bind (·.dst))=some d∧dOk2 s (some d)=true∧((s.t d=.c (.p (.sc (.bool want)))∧OpX P { o with guard:=none } s v nw) ∨
   ((s.t d=.c (.p (.sc (.bool (!want))))∨s.t d=.c (.p (.tup [])))∧dOk2 s o.dst=true∧v=.c (.p (.tup []))∧nw=none))
theorem g_x {P:Program} {ops:Array Oper} {o:Oper} {s:TS} {v:TV} {nw:Option (Nat×List AV)} (hg:o.guard=none) (h:OpX P o s v nw):OpGX P ops o s v nw:=by unfold OpGX; rw [hg]; exact h
structure HMf (m:Nm) (g:Nat→Option Blk) (h1:Heap):Prop where
 blk:∀ b k,g b=some k→(∃ r,m b=some r∧h1 r=some (k.cells m))∨(m b=none∧k.cells m=[])
 inj:∀ b b' r,g b≠none→g b'≠none→m b=some r→m b'=some r→b=b'
theorem HM.toF {m:Nm} {h:Hp} {h1:Heap} (hm:HM m h h1):HMf m h.get h1:=⟨hm.blk,hm.inj⟩
def newB (cl:Nat→List Nat) (p:Nat) (nws:News) (vals:Nat→TV) (s:TS):Bool :=
 nws.all fun e=>Nat.blt e.1 p && Nat.blt e.2.1 2000 && (s.h.get e.2.1).isNone && lno e.2.1 s.l && hno e.2.1 s.h &&
  (nws.all fun f=>(!(Nat.beq f.1 e.1) && !(Nat.beq f.2.1 e.2.1)) || (Nat.beq f.1 e.1 && Nat.beq f.2.1 e.2.1)) &&
  (List.range p).all fun j=>(vals j).no e.2.1 || Nat.beq j e.1 || (cl j).contains e.1
theorem AW2_draw {P:Program} {id:Nat} {ops:Array Oper} {Q:Go.Exit→TS→Prop} {s:TS} (p:Nat) (tl:List Nat) (vals:Nat→TV) (rd:Nat→List (Nat×Option Nat)) (fin:List (Nat×Option Nat)) (nws:News) (cl:Nat→List Nat) (hm0:P.follows .mixedOrders=true) (hB:drawB2 ops cl p rd fin=true) (hN:newB cl p nws vals s=true) (htl:List.range' p (ops.size - p)=tl)
  (hops:AllOps (fun i o=>OpGX P ops o ⟨drawT s vals (rd i),s.h,s.sz⟩ (vals i) (newOp nws i)) 0 (ops.toList.take p)) (hk:TailD P ops (Q .normal) tl ⟨drawT s vals fin,(nws.map fun e=>(e.2.1,Blk.pure e.2.2))++s.h,s.sz⟩):AW2 P (.region id ops true) Q s:=by
 subst htl
 unfold drawB2 at hB
 simp only [Bool.and_eq_true] at hB
 obtain ⟨⟨⟨hB0,hB1⟩,hBc⟩,hB2⟩:=hB
 have hp:p≤ops.size:=of_decide_eq_true hB0
 unfold clB at hBc
 rw [List.all_eq_true] at hB1 hB2 hBc
 have hcls:∀ i j,i < ops.size→(cl i).contains j=true→waitB ops i j=true∨∃ l,l < i∧waitB ops i l=true∧(cl l).contains j=true:=by
  intro i j hi hj
  have h1:=List.all_eq_true.1 (hBc i (List.mem_range.2 hi)) j (by simpa using hj)
  simp only [Bool.or_eq_true,List.any_eq_true,Bool.and_eq_true] at h1
  rcases h1 with h1 | ⟨l,hl,h2,h3⟩
  ·exact .inl h1
  ·exact .inr ⟨l,List.mem_range.1 hl,h2,h3⟩
 have hnew:∀ i b cs,(i,b,cs)∈nws→i < p∧b < 2000∧s.h.get b=none∧lno b s.l=true∧hno b s.h=true∧(∀ i' b' cs',(i',b',cs')∈nws→(i'=i↔b'=b))∧∀ j,j < p→(vals j).no b=true∨j=i∨(cl j).contains i=true:=by
  intro i b cs he
  unfold newB at hN
  rw [List.all_eq_true] at hN
  have h1:=hN _ he
  simp only [Bool.and_eq_true] at h1
  obtain ⟨⟨⟨⟨⟨⟨h2,h3⟩,h4⟩,h5⟩,h6⟩,h7⟩,h8⟩:=h1
  refine ⟨Nat.lt_of_succ_le (Nat.le_of_ble_eq_true h2),Nat.lt_of_succ_le (Nat.le_of_ble_eq_true h3),by simpa using h4,h5,h6,fun i' b' cs' he'=>?_,fun j hj=>?_⟩
  ·have h9:=List.all_eq_true.1 h7 _ he'
   simp only [Bool.or_eq_true,Bool.and_eq_true,Bool.not_eq_true'] at h9
   rcases h9 with ⟨h10,h11⟩ | ⟨h10,h11⟩
   ·constructor
    ·rintro rfl; simp at h10
    ·rintro rfl; simp at h11
   ·exact ⟨fun _=>Nat.eq_of_beq_eq_true h11,fun _=>Nat.eq_of_beq_eq_true h10⟩
  ·have h9:=List.all_eq_true.1 h8 j (List.mem_range.2 hj)
   simp only [Bool.or_eq_true] at h9
   rcases h9 with (h10 | h10) | h10
   ·exact .inl h10
   ·exact .inr (.inl (Nat.eq_of_beq_eq_true h10))
   ·exact .inr (.inr h10)
 have each:∀ i o,ops[i]?=some o→(∀ x∈o.after,Region.binds .any x=true→x.on < i) ∧
   (i < p→o.dst.isSome=true∧(∀ j,j < p→j≠i→dstAt ops j≠o.dst)∧∀ q∈rd i,(∀ j,q.2=some j→j < p∧(cl i).contains j=true∧dstAt ops j=some q.1)∧(q.2=none→∀ j,j < p→dstAt ops j=some q.1→j=i∨(cl j).contains i=true)) ∧
   (¬ i < p→∀ j,j < i→(cl i).contains j=true):=by
  intro i o ho
  have hi:i < ops.size:=(Array.getElem?_eq_some_iff.1 ho).1
  have h1:=hB1 i (List.mem_range.2 hi)
  rw [ho] at h1
  simp only [Bool.and_eq_true] at h1
  obtain ⟨h4,h5⟩:=h1
  refine ⟨fun x hx hbx=>?_,fun hip=>?_,fun hip j hj=>?_⟩
  ·have:=Array.all_eq_true'.1 h4 x hx
   simpa [hbx] using this
  ·rw [if_pos hip] at h5
   simp only [Bool.and_eq_true] at h5
   obtain ⟨⟨h6,h7⟩,h8⟩:=h5
   refine ⟨h6,fun j hj hne=>?_,fun q hq=>?_⟩
   ·have:=List.all_eq_true.1 h7 j (List.mem_range.2 hj)
    simpa [hne] using this
   ·have h9:=List.all_eq_true.1 h8 q hq
    refine ⟨fun j hj=>?_,fun hn j hj hd=>?_⟩
    ·rw [hj] at h9
     simp only [Bool.and_eq_true,decide_eq_true_eq] at h9
     exact ⟨h9.1.1,h9.1.2,h9.2⟩
    ·rw [hn] at h9
     have:=List.all_eq_true.1 h9 j (List.mem_range.2 hj)
     simp only [Bool.or_eq_true,decide_eq_true_eq] at this
     rcases this with (h10 | h10) | h10
     ·exact absurd hd h10
     ·exact .inl h10
     ·exact .inr h10
  ·rw [if_neg hip] at h5
   exact List.all_eq_true.1 h5 j (List.mem_range.2 hj)
 have wait1:∀ {j i:Nat} {listed:Array Bool},(∀ j o,ops[j]?=some o→listed.getD j false=true→∀ x∈o.after,Region.binds .any x=true→listed.getD x.on false=true)→waitB ops j i=true→listed.getD j false=true→listed.getD i false=true:=by
  intro j i listed hc hw hl
  unfold waitB at hw
  split at hw
  ·rename_i o ho
   obtain ⟨x,hx,hx2⟩:=Array.any_eq_true'.1 hw
   simp only [Bool.and_eq_true,beq_iff_eq] at hx2
   rw [← hx2.2]
   exact hc j o ho hl x hx hx2.1
  ·cases hw
 have wait:∀ {j i:Nat} {listed:Array Bool},j < ops.size→(∀ j o,ops[j]?=some o→listed.getD j false=true→∀ x∈o.after,Region.binds .any x=true→listed.getD x.on false=true)→(cl j).contains i=true→listed.getD j false=true→listed.getD i false=true:=by
  intro j
  induction j using Nat.strongRecOn with
  | _ j ih =>
   intro i listed hj hc hw hl
   rcases hcls j i hj hw with h1 | ⟨l,h1,h2,h3⟩
   ·exact wait1 hc h1 hl
   ·exact ih l h1 (by omega) hc h3 (wait1 hc h2 hl)
 have setD:∀ (listed:Array Bool) (i k:Nat),i < listed.size→(listed.setIfInBounds i true).getD k false=if k=i then true else listed.getD k false:=by
  intro listed i k hi
  simp only [Array.getD_eq_getD_getElem?,Array.getElem?_setIfInBounds]
  by_cases h:i=k
  ·subst h; simp [hi]
  ·simp [h,Ne.symm h]
 have sub:∀ (D:Nat→Bool) c k,s.h.get c=some k→gA nws s.h D c=some k:=by
  intro D c k hk
  unfold gA
  split
  ·rename_i i cs he
   have:=(hnew _ _ _ (newAt_mem he)).2.2.1
   rw [this] at hk
   cases hk
  ·exact hk
 intro m h1 n hm
 refine AW_anyT hm0 ?_
 let K1:AS→Prop:=fun s1=>∃ s' m',Q .normal s'∧Pin m m'∧Fit m' s' s1
 let JA:Array Bool→AS→Prop:=fun listed s1=>(∀ i,p≤i→listed.getD i false=false)∧∃ m2,Pin m m2∧HMf m2 (gA nws s.h (fun i=>listed.getD i false)) s1.h∧s1.sz=s.sz ∧
  (∀ j d,j < p→listed.getD j false=true→dstAt ops j=some d→Les (s1.t d) ((vals j).rn m2))∧(∀ u,(∀ j,j < p→dstAt ops j=some u→listed.getD j false=false)→Les (s1.t u) ((s.t u).rn m2))
 let JB:Array Bool→AS→Prop:=fun listed s1=>∃ q s' m',p≤q∧q≤ops.size∧(∀ i,i < ops.size→(listed.getD i false=true↔i < q))∧TailD P ops (Q .normal) (List.range' q (ops.size - q)) s'∧Pin m m'∧Fit m' s' s1
 have toB:∀ listed s1,listed.size=ops.size→(∀ i,i < p→listed.getD i false=true)→JA listed s1→JB listed s1:=by
  rintro listed s1 hsz hall ⟨h2,m2,pn,h3,h4,h5,h6⟩
  refine ⟨p,_,m2,Nat.le_refl _,hp,fun i hi=>⟨fun h=>?_,fun h=>hall i h⟩,hk,pn,h4,?_,fun u=>?_⟩
  ·rcases Nat.lt_or_ge i p with h7 | h7
   ·exact h7
   ·rw [h2 i h7] at h; cases h
  ·have hget:∀ (l:News) (c:Nat),(∀ e∈l,e∈nws)→Hp.get ((l.map fun e=>(e.2.1,Blk.pure e.2.2))++s.h) c=match newAt l c with | some (_,cs)=>some (.pure cs) | none=>s.h.get c:=by
    intro l c
    induction l with
    | nil=>intro _; rfl
    | cons e l ih =>
     intro hl
     rw [List.map_cons,List.cons_append,Hp.get_cons]
     unfold newAt
     rw [List.map_cons,look_cons]
     by_cases hc:c=e.2.1
     ·rw [if_pos hc,if_pos hc]
     ·rw [if_neg hc,if_neg hc]
      exact ih (fun x hx=>hl x (List.mem_cons_of_mem _ hx))
   have hgA:∀ c,Hp.get ((nws.map fun e=>(e.2.1,Blk.pure e.2.2))++s.h) c=gA nws s.h (fun i=>listed.getD i false) c:=by
    intro c
    rw [hget nws c (fun e he=>he)]
    unfold gA
    split
    ·rename_i i cs he
     exact (if_pos (hall i (hnew _ _ _ (newAt_mem he)).1)).symm
    ·rfl
   refine ⟨fun b k hb=>h3.blk b k (by rw [← hgA]; exact hb),fun b b' r hb hb'=>h3.inj b b' r (by rw [← hgA]; exact hb) (by rw [← hgA]; exact hb')⟩
  ·show Les (s1.t u) ((look TV.any (drawT s vals fin) u).rn m2)
   rcases drawT_look (s:=s) (vals:=vals) fin u with h7 | ⟨q,hq,h8,h9,h10⟩ | ⟨q,hq,j,h8,h9,h10⟩
   ·rw [h7]; exact .any _
   ·rw [h10]
    refine h6 u (fun j hj hd=>?_)
    have:=hB2 q hq
    rw [h9] at this
    have:=List.all_eq_true.1 this j (List.mem_range.2 hj)
    rw [h8] at this
    simp [hd] at this
   ·rw [h10]
    have:=hB2 q hq
    rw [h9] at this
    simp only [Bool.and_eq_true,decide_eq_true_eq] at this
    rw [h8] at this
    exact h5 j u this.1 (hall j this.1) this.2
 refine AnyW_of_inv2 (fun listed s1=>listed.size=ops.size∧(∀ j o,ops[j]?=some o→listed.getD j false=true→∀ x∈o.after,Region.binds .any x=true→listed.getD x.on false=true)∧(JA listed s1∨JB listed s1)) ?_ ?_ ops.size _ _ (by simp) (by omega) ?_
 ·rintro listed s1 i o ⟨hsz,hcl,hJ⟩ hi ho
  obtain ⟨hfw,hpre,htl⟩:=each i o ho
  have hilt:i < ops.size:=(Array.getElem?_eq_some_iff.1 ho).1
  have hisz:i < listed.size:=by omega
  simp only [Region.ready,List.mem_filter,List.mem_range,Bool.and_eq_true,Bool.not_eq_true'] at hi
  obtain ⟨_,hun,haf⟩:=hi
  have hun2:listed.getD i false=false:=by
   simp only [Array.getD_eq_getD_getElem?,Array.getElem?_eq_getElem hisz,Option.getD_some] at hun ⊢
   exact hun
  rw [ho] at haf
  simp only [Option.map_some,Option.getD_some] at haf
  have haf2:∀ x∈o.after,Region.binds .any x=true→listed.getD x.on false=true:=by
   intro x hx hbx
   have:=Array.all_eq_true'.1 haf x hx
   simpa [hbx] using this
  have haf3:∀ j,(cl i).contains j=true→listed.getD j false=true:=by
   intro j hj
   have h1:∀ l,waitB ops i l=true→listed.getD l false=true:=by
    intro l hl
    unfold waitB at hl
    rw [ho] at hl
    obtain ⟨x,hx,hx2⟩:=Array.any_eq_true'.1 hl
    simp only [Bool.and_eq_true,beq_iff_eq] at hx2
    rw [← hx2.2]
    exact haf2 x hx hx2.1
   rcases hcls i j hilt hj with h2 | ⟨l,h2,h3,h4⟩
   ·exact h1 j h2
   ·exact wait (by omega) hcl h4 (h1 l h3)
  have hcl':∀ j o,ops[j]?=some o→(listed.setIfInBounds i true).getD j false=true→∀ x∈o.after,Region.binds .any x=true→(listed.setIfInBounds i true).getD x.on false=true:=by
   intro j oj hoj hlj x hx hbx
   rw [setD _ _ _ hisz] at hlj ⊢
   by_cases hji:j=i
   ·subst hji
    rw [ho] at hoj
    cases hoj
    rw [haf2 x hx hbx]
    simp
   ·rw [if_neg hji] at hlj
    rw [hcl j oj hoj hlj x hx hbx]
    simp
  have tail:JB listed s1→OpG P ops o (fun s2=>(listed.setIfInBounds i true).size=ops.size∧(∀ j o,ops[j]?=some o→(listed.setIfInBounds i true).getD j false=true→∀ x∈o.after,Region.binds .any x=true→(listed.setIfInBounds i true).getD x.on false=true)∧(JA (listed.setIfInBounds i true) s2∨JB (listed.setIfInBounds i true) s2)) s1:=by
   rintro ⟨q,s',m',hpq,hqs,hiff,htail,pn,ft⟩
   have hqi:q≤i:=by
    rcases Nat.lt_or_ge i q with h | h
    ·rw [(hiff i hilt).2 h] at hun2; cases hun2
    ·exact h
   have hiq:i=q:=by
    rcases Nat.lt_or_ge q i with h | h
    ·exfalso
     have h2:=haf3 q (htl (by omega) q h)
     have h3:=(hiff q (by omega)).1 h2
     omega
    ·omega
   subst hiq
   have hr:List.range' i (ops.size - i)=i::List.range' (i+1) (ops.size - (i+1)):=by
    rw [show ops.size - i=(ops.size - (i+1))+1 by omega,List.range'_succ]
   rw [hr] at htail
   obtain ⟨o',s2,ho',hop,hrest⟩:=htail
   rw [ho] at ho'
   cases ho'
   have hend:∀ s3,(∃ m2,Pin m' m2∧Fit m2 s2 s3)→(listed.setIfInBounds i true).size=ops.size∧(∀ j o,ops[j]?=some o→(listed.setIfInBounds i true).getD j false=true→∀ x∈o.after,Region.binds .any x=true→(listed.setIfInBounds i true).getD x.on false=true)∧(JA (listed.setIfInBounds i true) s3∨JB (listed.setIfInBounds i true) s3):=by
    rintro s3 ⟨m2,pn2,ft2⟩
    refine ⟨by simp [hsz],hcl',.inr ⟨i+1,s2,m2,by omega,by omega,fun k hk2=>?_,hrest,pn.trans pn2,ft2⟩⟩
    rw [setD _ _ _ hisz]
    by_cases hki:k=i
    ·subst hki; simp
    ·rw [if_neg hki]
     rw [hiff k hk2]
     omega
   have core:∀ oc:Oper,OpD P oc s' s2→OpW P oc (fun s2=>(listed.setIfInBounds i true).size=ops.size∧(∀ j o,ops[j]?=some o→(listed.setIfInBounds i true).getD j false=true→∀ x∈o.after,Region.binds .any x=true→(listed.setIfInBounds i true).getD x.on false=true)∧(JA (listed.setIfInBounds i true) s2∨JB (listed.setIfInBounds i true) s2)) s1:=by
    intro oc hop
    have h2:OpW P oc (fun s1=>∃ m2,Pin m' m2∧Fit m2 s2 s1) s1:=by
     intro Z a w r next Qx hn
     have:=hop m' s1.h s1.n ft.hm Z a w ⟨fun u=>ft.tm u _ _ _ (r.tm u),by rw [r.ts,ft.sz]; rfl,r.df,r.gd,r.hn,r.hl⟩ next Qx hn
     exact this
    exact h2.mono hend
   unfold OpDG at hop
   cases hgd:o.guard with
   | none =>
    rw [hgd] at hop
    exact OpG_none hgd (core o hop)
   | some g =>
    obtain ⟨j,want⟩:=g
    rw [hgd] at hop
    obtain ⟨d,hj,hd,⟨hv,hop⟩ | ⟨hv,hdst,hs2⟩⟩:=hop
    ·exact OpG_on hgd hj (by have:=ft.tm d; rw [hv] at this; exact this) (by rw [ft.sz]; exact Nat.lt_of_succ_le (Nat.le_of_ble_eq_true hd)) (core _ hop)
    ·refine OpG_off hgd hj ?_ (by rw [ft.sz]; exact Nat.lt_of_succ_le (Nat.le_of_ble_eq_true hd)) ?_ (hend _ ⟨m',.refl _,?_⟩)
     ·rcases hv with hv | hv
      ·exact .inl (by have:=ft.tm d; rw [hv] at this; exact this)
      ·exact .inr (by have:=ft.tm d; rw [hv] at this; exact this)
     ·have:=dOk_can (m:=m') (h1:=s1.h) (n:=s1.n) hdst
      unfold dOk at this ⊢
      rw [ft.sz]
      exact this
     ·subst hs2
      have:=put_fit (m:=m') (s:=s') (t:=s1.t) (h1:=s1.h) (n:=s1.n) (d:=o.dst) (v:=.c (.p (.tup []))) (av:=.tup []) ft.hm (fun u _=>ft.tm u) (.same _)
      rw [← ft.sz] at this
      exact this
  rcases hJ with hA | hB'
  ·rcases Nat.lt_or_ge i p with hip | hip
   ·obtain ⟨h2,m2,pn,h3,h4,h5,h6⟩:=hA
    obtain ⟨hds,hdd,hrd⟩:=hpre hip
    obtain ⟨d,hd⟩:=Option.isSome_iff_exists.1 hds
    have hop0:=AllOps.get _ _ hops i o (by rw [List.getElem?_take,if_pos hip]; simpa using ho)
    rw [Nat.zero_add] at hop0
    have h3s:HM m2 s.h s1.h:=⟨fun b k hb=>h3.blk b k (sub _ b k hb),fun b b' r hb hb'=>by
     obtain ⟨k,hk⟩:=Option.ne_none_iff_exists'.1 hb
     obtain ⟨k',hk'⟩:=Option.ne_none_iff_exists'.1 hb'
     exact h3.inj b b' r (by rw [sub _ b k hk]; simp) (by rw [sub _ b' k' hk']; simp)⟩
    have hread:∀ u,Les (s1.t u) ((look TV.any (drawT s vals (rd i)) u).rn m2):=by
     intro u
     rcases drawT_look (s:=s) (vals:=vals) (rd i) u with h7 | ⟨q,hq,h8,h9,h10⟩ | ⟨q,hq,j,h8,h9,h10⟩
     ·rw [h7]; exact .any _
     ·rw [h10]
      refine h6 u (fun j hj hdj=>?_)
      rcases (hrd q hq).2 h9 j hj (by rw [hdj,h8]) with rfl | hw
      ·exact hun2
      ·rcases Bool.eq_false_or_eq_true (listed.getD j false) with hb | hb
       ·have:=wait (by omega) hcl hw hb
        rw [hun2] at this
        cases this
       ·exact hb
     ·rw [h10]
      obtain ⟨h11,h12,h13⟩:=(hrd q hq).1 j h9
      rw [h8] at h13
      exact h5 j u h11 (haf3 j h12) h13
    have hDi:∀ k,p≤k→(listed.setIfInBounds i true).getD k false=false:=fun k hk2=>by
     rw [setD _ _ _ hisz,if_neg (by omega)]
     exact h2 k hk2
    have dstd:∀ d',dstAt ops i=some d'→d'=d:=by
     intro d' hdj
     unfold dstAt at hdj
     rw [ho] at hdj
     simp only [Option.bind_some,hd,Option.some.injEq] at hdj
     exact hdj.symm
    -- the slots behind
    have slots:∀ (m3:Nm) (av:AV) (h':Heap) (n':Nat),(∀ j,j < p→j≠i→listed.getD j false=true→(vals j).rn m3=(vals j).rn m2)→(∀ u,(s.t u).rn m3=(s.t u).rn m2)→Les av ((vals i).rn m3) →
      (∀ j d',j < p→(listed.setIfInBounds i true).getD j false=true→dstAt ops j=some d'→Les (((AS.mk s1.t h' n' s1.sz).put (some d) av).t d') ((vals j).rn m3)) ∧
      (∀ u,(∀ j,j < p→dstAt ops j=some u→(listed.setIfInBounds i true).getD j false=false)→Les (((AS.mk s1.t h' n' s1.sz).put (some d) av).t u) ((s.t u).rn m3)):=by
     intro m3 av h' n' hv1 hv2 hav
     refine ⟨fun j d' hj hlj hdj=>?_,fun u hno=>?_⟩
     ·rw [setD _ _ _ hisz] at hlj
      by_cases hji:j=i
      ·subst hji
       have:=dstd d' hdj
       subst this
       show Les (if d'=d' then av else s1.t d') _
       rw [if_pos rfl]
       exact hav
      ·rw [if_neg hji] at hlj
       have hne:d'≠d:=by
        rintro rfl
        exact hdd j hj hji (by rw [hdj,hd])
       show Les (if d'=d then av else s1.t d') _
       rw [if_neg hne,hv1 j hj hji hlj]
       exact h5 j d' hj hlj hdj
     ·have hne:u≠d:=by
       rintro rfl
       have:=hno i hip (by unfold dstAt; rw [ho]; exact hd)
       rw [setD _ _ _ hisz,if_pos rfl] at this
       cases this
      show Les (if u=d then av else s1.t u) _
      rw [if_neg hne,hv2]
      refine h6 u (fun j hj hdj=>?_)
      have:=hno j hj hdj
      rw [setD _ _ _ hisz] at this
      split at this
      ·cases this
      ·exact this
    have hsame:newOp nws i=none→gA nws s.h (fun k=>(listed.setIfInBounds i true).getD k false)=gA nws s.h (fun k=>listed.getD k false):=by
      intro hnw
      funext c
      unfold gA
      split
      ·rename_i i' cs he
       have hne:i'≠i:=by
        rintro rfl
        have h7:=newAt_mem he
        have:∀ (l:News) (x:Nat×List AV),(i',x)∈l→newOp l i'≠none:=by
         intro l x
         induction l with
         | nil=>intro h; cases h
         | cons e l ih =>
          intro h
          unfold newOp
          rw [List.map_cons,look_cons]
          split
          ·simp
          ·rename_i hne
           rcases List.mem_cons.1 h with h8 | h8
           ·rw [← h8] at hne; exact absurd rfl hne
           ·exact ih h8
        exact this nws _ h7 hnw
       show (if (listed.setIfInBounds i true).getD i' false=true then _ else _)=if listed.getD i' false=true then _ else _
       rw [setD _ _ _ hisz,if_neg hne]
      ·rfl
    have core:∀ oc:Oper,oc.dst=some d→OpX P oc ⟨drawT s vals (rd i),s.h,s.sz⟩ (vals i) (newOp nws i)→OpW P oc (fun s2=>(listed.setIfInBounds i true).size=ops.size∧(∀ j o,ops[j]?=some o→(listed.setIfInBounds i true).getD j false=true→∀ x∈o.after,Region.binds .any x=true→(listed.setIfInBounds i true).getD x.on false=true)∧(JA (listed.setIfInBounds i true) s2∨JB (listed.setIfInBounds i true) s2)) s1:=by
     intro oc hdc hop
     cases hnw:newOp nws i with
     | none =>
      rw [hnw] at hop
      have hop2:=hop m2 s1.h s1.n h3s
      rw [show s.sz=s1.sz from h4.symm] at hop2
      refine OpW_frameT (t0:=(can m2 ⟨drawT s vals (rd i),s.h,s1.sz⟩ s1.h s1.n).t) hread hdc hop2 ?_
      rintro s' ⟨h',n',av,hlt',hkeep,rfl,hav⟩
      obtain ⟨hs1,hs2⟩:=slots m2 av h' n' (fun _ _ _ _=>rfl) (fun _=>rfl) hav
      refine ⟨av,h',n',by rw [hdc],by simp [hsz],hcl',.inl ⟨hDi,m2,pn,?_,h4,hs1,hs2⟩⟩
      rw [hsame hnw]
      exact ⟨fun b k hb=>(h3.blk b k hb).imp (fun ⟨r,h7,h8⟩=>⟨r,h7,hkeep r _ h8⟩) (fun x=>x),h3.inj⟩
     | some x =>
      obtain ⟨b,cs⟩:=x
      rw [hnw] at hop
      have hmem:=newOp_mem hnw
      obtain ⟨_,hb2,hgn,hln,hhn,huniq,hvn⟩:=hnew i b cs hmem
      have hop2:=hop m2 s1.h s1.n h3s
      rw [show s.sz=s1.sz from h4.symm] at hop2
      refine OpW_frameT (t0:=(can m2 ⟨drawT s vals (rd i),s.h,s1.sz⟩ s1.h s1.n).t) hread hdc hop2 ?_
      rintro s' ⟨r,n',av,hr,hfree,hlt',rfl,hav⟩
      obtain ⟨hs1,hs2⟩:=slots (nset m2 b (some r)) av (s1.h.set r (some cs)) n' (fun j hj hji hlj=>by
       rcases hvn j hj with h7 | h7 | h7
       ·exact TV.rn_no h7
       ·exact absurd h7 hji
       ·have:=wait (by omega) hcl h7 hlj
        rw [hun2] at this
        cases this) (fun u=>TV.rn_no (look_no hln u)) (hav _ (nset_eq _ _ _))
      refine ⟨av,_,n',by rw [hdc],by simp [hsz],hcl',.inl ⟨hDi,nset m2 b (some r),pn.trans (pin_set hb2),?_,h4,hs1,hs2⟩⟩
      have hat:newAt nws b=some (i,cs):=by
       obtain ⟨x,hx⟩:=newAt_of_mem hmem
       have h7:=newAt_mem hx
       have h8:=(huniq _ _ _ h7).2 rfl
       obtain ⟨i',cs'⟩:=x
       simp only at h7 h8
       subst h8
       have key:∀ (l:News),(∀ e∈l,e∈nws)→newOp l i'=some (b,cs)→newAt l b=some (i',cs')→cs'=cs:=by
        intro l hl e1 e2
        induction l with
        | nil=>cases e1
        | cons e l ih =>
         unfold newOp at e1
         unfold newAt at e2
         rw [List.map_cons,look_cons] at e1 e2
         obtain ⟨ei,eb,ec⟩:=e
         simp only at e1 e2
         have h9:=huniq _ _ _ (hl _ List.mem_cons_self)
         by_cases h10:ei=i'
         ·have h11:=h9.1 h10
          rw [if_pos h10.symm] at e1
          rw [if_pos h11.symm] at e2
          cases e1; cases e2; rfl
         ·have h11:eb≠b:=fun h=>h10 (h9.2 h)
          rw [if_neg (fun h=>h10 h.symm)] at e1
          rw [if_neg (fun h=>h11 h.symm)] at e2
          exact ih (fun x hx=>hl x (List.mem_cons_of_mem _ hx)) e1 e2
       have:=key nws (fun e he=>he) hnw hx
       subst this
       exact hx
      have hgb:∀ D:Nat→Bool,gA nws s.h D b=if D i then some (.pure cs) else none:=by
       intro D
       unfold gA
       rw [hat]
       simp only
       rw [hgn]
      have hgo:∀ c,c≠b→gA nws s.h (fun k=>(listed.setIfInBounds i true).getD k false) c=gA nws s.h (fun k=>listed.getD k false) c:=by
       intro c hc
       unfold gA
       split
       ·rename_i i' cs' he
        have hne:i'≠i:=fun h=>hc ((huniq _ _ _ (newAt_mem he)).1 h)
        show (if (listed.setIfInBounds i true).getD i' false=true then _ else _)=if listed.getD i' false=true then _ else _
        rw [setD _ _ _ hisz,if_neg hne]
       ·rfl
      have hcell:∀ c k,c≠b→gA nws s.h (fun k=>listed.getD k false) c=some k→k.cells (nset m2 b (some r))=k.cells m2:=by
       intro c k hc hk
       unfold gA at hk
       split at hk
       ·split at hk
        ·cases hk; rfl
        ·exact Blk.cells_no (hp_no hhn c k hk)
       ·exact Blk.cells_no (hp_no hhn c k hk)
      have hfr:∀ c,gA nws s.h (fun k=>listed.getD k false) c≠none→m2 c≠some r:=by
       intro c hc he
       obtain ⟨k,hk⟩:=Option.ne_none_iff_exists'.1 hc
       rcases h3.blk c k hk with ⟨r',h7,h8⟩ | ⟨h7,_⟩
       ·rw [he] at h7
        cases h7
        rw [hfree] at h8
        cases h8
       ·rw [he] at h7; cases h7
      refine ⟨fun c k hk=>?_,fun c c' q hc hc' f1 f2=>?_⟩
      ·by_cases hcb:c=b
       ·subst hcb
        rw [hgb] at hk
        rw [setD _ _ _ hisz,if_pos rfl,if_pos rfl] at hk
        cases hk
        exact .inl ⟨r,nset_eq _ _ _,Heap.set_eq _ _ _⟩
       ·rw [hgo c hcb] at hk
        rw [nset_ne _ _ hcb,hcell c k hcb hk]
        rcases h3.blk c k hk with ⟨r',h7,h8⟩ | h7
        ·left
         refine ⟨r',h7,?_⟩
         have hne:r'≠r:=by
          rintro rfl
          exact hfr c (by rw [hk]; simp) h7
         show s1.h.set r (some cs) r'=_
         rw [Heap.set_ne _ _ _ _ hne]
         exact h8
        ·exact .inr h7
      ·by_cases hcb:c=b
       ·subst hcb
        rw [nset_eq] at f1
        cases f1
        by_cases hcb':c'=c
        ·exact hcb'.symm
        ·rw [nset_ne _ _ hcb'] at f2
         rw [hgo c' hcb'] at hc'
         exact absurd f2 (hfr c' hc')
       ·rw [nset_ne _ _ hcb] at f1
        rw [hgo c hcb] at hc
        by_cases hcb':c'=b
        ·subst hcb'
         rw [nset_eq] at f2
         cases f2
         exact absurd f1 (hfr c hc)
        ·rw [nset_ne _ _ hcb'] at f2
         rw [hgo c' hcb'] at hc'
         exact h3.inj c c' q hc hc' f1 f2
    unfold OpGX at hop0
    cases hgd:o.guard with
    | none =>
     rw [hgd] at hop0
     exact OpG_none hgd (core o hd hop0)
    | some g =>
     obtain ⟨j,want⟩:=g
     rw [hgd] at hop0
     obtain ⟨e,hj,he,⟨hv,hop⟩ | ⟨hv,hdst,hvi,hno⟩⟩:=hop0
     ·exact OpG_on hgd hj (by have:=hread e; rw [show look TV.any (drawT s vals (rd i)) e=_ from hv] at this; exact this) (by rw [h4]; exact Nat.lt_of_succ_le (Nat.le_of_ble_eq_true he)) (core _ hd hop)
     ·obtain ⟨hs1,hs2⟩:=slots m2 (.tup []) s1.h s1.n (fun _ _ _ _=>rfl) (fun _=>rfl) (by rw [hvi]; exact .same _)
      refine OpG_off hgd hj ?_ (by rw [h4]; exact Nat.lt_of_succ_le (Nat.le_of_ble_eq_true he)) ?_ ?_
      ·rcases hv with hv | hv
       ·exact .inl (by have:=hread e; rw [show look TV.any (drawT s vals (rd i)) e=_ from hv] at this; exact this)
       ·exact .inr (by have:=hread e; rw [show look TV.any (drawT s vals (rd i)) e=_ from hv] at this; exact this)
      ·rw [hd] at hdst ⊢
       exact decide_eq_true (by rw [h4]; exact Nat.lt_of_succ_le (Nat.le_of_ble_eq_true hdst))
      ·rw [hd]
       refine ⟨by simp [hsz],hcl',.inl ⟨hDi,m2,pn,?_,h4,hs1,hs2⟩⟩
       rw [hsame hno]
       exact h3
   ·refine tail (toB listed s1 hsz (fun k hk2=>?_) hA)
    exact haf3 k (htl (by omega) k (by omega))
  ·exact tail hB'
 ·rintro listed s1 ⟨hsz,hcl,hJ⟩ hnil
  have hall:∀ i,i < ops.size→listed.getD i false=true:=by
   intro i
   induction i using Nat.strongRecOn with
   | _ i ih =>
    intro hi
    rcases Bool.eq_false_or_eq_true (listed.getD i false) with h | h
    ·exact h
    ·exfalso
     have ho:ops[i]?=some ops[i]:=Array.getElem?_eq_getElem hi
     have hmem:i∈Region.ready .any ops listed:=by
      simp only [Region.ready,List.mem_filter,List.mem_range,Bool.and_eq_true,Bool.not_eq_true']
      refine ⟨hi,?_,?_⟩
      ·have:i < listed.size:=by omega
       simp only [Array.getD_eq_getD_getElem?,Array.getElem?_eq_getElem this,Option.getD_some] at h ⊢
       exact h
      ·rw [ho]
       simp only [Option.map_some,Option.getD_some]
       rw [Array.all_eq_true']
       intro x hx
       rcases Bool.eq_false_or_eq_true (Region.binds .any x) with hb | hb
       ·have hlt2:=(each i _ ho).1 x hx hb
        have:=ih x.on hlt2 (by omega)
        simp only [hb,this]
        rfl
       ·simp [hb]
     rw [hnil] at hmem
     cases hmem
  have hB':JB listed s1:=by
   rcases hJ with hA | hB'
   ·exact toB listed s1 hsz (fun i hi=>hall i (by omega)) hA
   ·exact hB'
  obtain ⟨q,s',m',hpq,hqs,hiff,htail,pn,ft⟩:=hB'
  have hq:q=ops.size:=by
   rcases Nat.lt_or_ge q ops.size with h | h
   ·have:=(hiff q h).1 (hall q h)
    omega
   ·omega
  subst hq
  rw [Nat.sub_self] at htail
  exact ⟨s',m',htail,pn,ft⟩
 ·have h0:gA nws s.h (fun k=>(Array.replicate ops.size false).getD k false)=s.h.get:=by
   funext c
   unfold gA
   split
   ·exact if_neg (fun e=>Bool.noConfusion ((repl_false _ _).symm.trans e))
   ·rfl
  refine ⟨by simp,fun j o ho hl=>?_,.inl ⟨fun i hi=>repl_false _ _,m,.refl m,by rw [h0]; exact hm.toF,rfl,fun j d hj hl _=>?_,fun u hu=>.same _⟩⟩
  ·rw [repl_false] at hl; cases hl
  ·rw [repl_false] at hl; cases hl
end Go.Proofs.Ytglgdaeimfdpfaa.VM
