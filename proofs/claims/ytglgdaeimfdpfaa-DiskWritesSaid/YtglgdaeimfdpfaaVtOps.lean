/- Words and rules that the proof uses. -/
import Derived.Test.YtglgdaeimfdpfaaVtPure
namespace Go.Proofs.Ytglgdaeimfdpfaa.VM
open Go Go.RowKit
def T1.no (b:Nat):T1→Bool
 | .p _=>true
 | .own c _ _ => !(Nat.beq c b)
 | .sl c _ _ _ => !(Nat.beq c b)
 | .ptr c _ => !(Nat.beq c b)
 | .mref c => !(Nat.beq c b)
def TV.no (b:Nat):TV→Bool
 | .c x=>x.no b
 | .tup vs=>vs.all (T1.no b)
 | .agg cs=>cs.all (T1.no b)
 | .clo _ cap=>cap.all (T1.no b)
def Blk.no (b:Nat):Blk→Bool
 | .pure _=>true
 | .mix cs=>cs.all (T1.no b)
def lno (b:Nat) (l:List (Nat×TV)):Bool:=l.all fun p=>p.2.no b
def hno (b:Nat) (h:Hp):Bool:=h.all fun p=>p.2.no b
theorem pin_set {m:Nm} {b:Nat} {r:Option Nat} (h:b < 2000):Pin m (fun k=>if k=b then r else m k):=fun x hx=>if_neg (by omega)
def nset (m:Nm) (b:Nat) (r:Option Nat):Nm:=fun k=>if k=b then r else m k
theorem nset_eq (m:Nm) (b:Nat) (r:Option Nat):nset m b r b=r:=by simp [nset]
theorem nset_ne (m:Nm) {b k:Nat} (r:Option Nat) (h:k≠b):nset m b r k=m k:=by simp [nset,h]
theorem T1.rn_no {m:Nm} {b:Nat} {r:Option Nat} {x:T1} (h:x.no b=true):x.rn (nset m b r)=x.rn m:=by
 have key:∀ c:Nat,(!(Nat.beq c b))=true→nset m b r c=m c:=fun c hc=>nset_ne m r (by
  rintro rfl
  simp at hc)
 cases x with
 | p x=>rfl
 | own c n z=>simp only [T1.rn,key c h]
 | sl c o n z=>simp only [T1.rn,key c h]
 | ptr c o=>simp only [T1.rn,key c h]
 | mref c=>simp only [T1.rn,key c h]
theorem map_rn_no {m:Nm} {b:Nat} {r:Option Nat} {l:List T1} (h:l.all (T1.no b)=true):l.map (T1.rn (nset m b r))=l.map (T1.rn m):=by
 rw [List.all_eq_true] at h
 exact List.map_congr_left fun x hx=>T1.rn_no (h x hx)
theorem TV.rn_no {m:Nm} {b:Nat} {r:Option Nat} {v:TV} (h:v.no b=true):v.rn (nset m b r)=v.rn m:=by
 cases v with
 | c x=>exact T1.rn_no h
 | tup vs=>simp only [TV.rn,map_rn_no h]
 | agg vs=>simp only [TV.rn,map_rn_no h]
 | clo f vs=>simp only [TV.rn,map_rn_no h]
theorem Blk.cells_no {m:Nm} {b:Nat} {r:Option Nat} {k:Blk} (h:k.no b=true):k.cells (nset m b r)=k.cells m:=by
 cases k with
 | pure cs=>rfl
 | mix cs=>exact map_rn_no h
theorem look_no {b:Nat}:∀ {l:List (Nat×TV)} (_:lno b l=true) (u:Nat),(look TV.any l u).no b=true
 | [],_,_=>rfl
 | (k,v)::l,h,u=>by
  simp only [lno,List.all_cons,Bool.and_eq_true] at h
  rw [look_cons]
  split
  ·exact h.1
  ·exact look_no (l:=l) h.2 u
theorem hp_no {b:Nat}:∀ {h:Hp} (_:hno b h=true) (c:Nat) (k:Blk),h.get c=some k→k.no b=true
 | [],_,_,_,hk=>by cases hk
 | (d,v)::l,h,c,k,hk=>by
  simp only [hno,List.all_cons,Bool.and_eq_true] at h
  rw [Hp.get_cons] at hk
  split at hk
  ·cases hk; exact h.1
  ·exact hp_no (h:=l) h.2 c k hk
def TS.wr (s:TS) (b:Nat) (k:Blk):TS:=⟨s.l,s.h.set b k,s.sz⟩
theorem look_foldl (ds:List Nat):∀ (l:List (Nat×TV)) (u:Nat),look TV.any (ds.foldl ldel l) u=look TV.any l u∨look TV.any (ds.foldl ldel l) u=TV.any:=by
 induction ds with
 | nil=>exact fun l u=>.inl rfl
 | cons d ds ih =>
  intro l u
  rcases ih (ldel l d) u with h | h
  ·rw [List.foldl_cons,h,look_ldel]
   split
   ·exact .inr rfl
   ·exact .inl rfl
  ·exact .inr (by rw [List.foldl_cons,h])
theorem HM.new {m:Nm} {h:Hp} {h1:Heap} {b r:Nat} {k:Blk} {cs:List AV} (hm:HM m h h1) (hno':hno b (h.del b)=true) (hk:k.cells (nset m b (some r))=cs) (hfresh:∀ c,h.get c≠none→m c≠some r) :
  HM (nset m b (some r)) (h.set b k) (h1.set r (some cs)):=by
 refine ⟨fun c q hq=>?_,fun c c' q hc hc' e1 e2=>?_⟩
 ·rw [Hp.get_set] at hq
  by_cases hcb:c=b
  ·subst hcb
   rw [if_pos rfl] at hq
   cases hq
   left
   exact ⟨r,nset_eq _ _ _,by rw [Heap.set_eq,hk]⟩
  ·rw [if_neg hcb] at hq
   have hq2:(h.del b).get c=some q:=by rw [Hp.get_del,if_neg hcb]; exact hq
   have hno2:=hp_no hno' c q hq2
   rw [nset_ne _ _ hcb,Blk.cells_no hno2]
   rcases hm.blk c q hq with ⟨r',h2,h3⟩ | h2
   ·left
    refine ⟨r',h2,?_⟩
    have hne:r'≠r:=by
     rintro rfl
     exact hfresh c (by rw [hq]; simp) h2
    rw [Heap.set_ne _ _ _ _ hne]
    exact h3
   ·exact .inr h2
 ·have nn:∀ x,(h.set b k).get x≠none→x≠b→h.get x≠none:=fun x hx hxb=>by
   rwa [Hp.get_set,if_neg hxb] at hx
  by_cases hcb:c=b
  ·subst hcb
   rw [nset_eq] at e1
   by_cases hcb':c'=c
   ·exact hcb'.symm
   ·rw [nset_ne _ _ hcb'] at e2
    cases e1
    exact absurd e2 (hfresh c' (nn c' hc' hcb'))
  ·rw [nset_ne _ _ hcb] at e1
   by_cases hcb':c'=b
   ·subst hcb'
    rw [nset_eq] at e2
    cases e2
    exact absurd e1 (hfresh c (nn c hc hcb))
   ·rw [nset_ne _ _ hcb'] at e2
    exact hm.inj c c' q (nn c hc hcb) (nn c' hc' hcb') e1 e2
section ops
variable {P:Program} {s:TS} {dst:Option Tmp} {ty:TypeId} {pos:String} {after:Array Edge}
def MakeD (P:Program) (o:Oper) (s:TS) (v:TV) (b:Nat) (cs:List AV):Prop :=
 ∀ m h1 n,HM m s.h h1→OpW P o (fun s1=>∃ r n' av,n≤r∧h1 r=none∧(∀ q o,(h1.set r (some cs)) q=some o→q < n')∧s1=(AS.mk (can m s h1 n).t (h1.set r (some cs)) n' s.sz).put o.dst av∧∀ m':Nm,m' b=some r→Les av (v.rn m')) (can m s h1 n)
theorem MakeD.opD {o:Oper} {d b:Nat} {cs:List AV} {v:TV} (h:MakeD P o s v b cs) (hb2:Nat.blt b 2000=true) (hdst:o.dst=some d) (hl:lno b (ldel s.l d)=true) (hh:hno b (s.h.del b)=true):OpD P o s ((TS.wr s b (.pure cs)).put (some d) v):=by
 intro m h1 n hm
 refine (h m h1 n hm).mono ?_
 rintro s1 ⟨r,n',av,hr,hfree,hlt,rfl,hav⟩
 refine ⟨nset m b (some r),pin_set (Nat.lt_of_succ_le (Nat.le_of_ble_eq_true hb2)),?_⟩
 have hm':HM (nset m b (some r)) (s.h.set b (.pure cs)) (h1.set r (some cs)):=hm.new hh rfl (fun c hc he=>by
  obtain ⟨q,hq⟩:=Option.ne_none_iff_exists'.1 hc
  rcases hm.blk c q hq with ⟨r',h2,h3⟩ | ⟨h2,_⟩
  ·rw [he] at h2
   cases h2
   rw [hfree] at h3
   cases h3
  ·rw [he] at h2; cases h2)
 rw [hdst]
 refine put_fit (s:=s.wr b (.pure cs)) hm' (fun u hu=>?_) (hav _ (nset_eq _ _ _))
 have hud:u≠d:=fun e=>hu (by rw [e])
 show Les ((s.t u).rn m) ((s.t u).rn _)
 have:(s.t u).no b=true:=by
  have:=look_no hl u
  rwa [look_ldel,if_neg hud] at this
 rw [TV.rn_no this]
 exact .same _
theorem MakeD_new {o:Oper} {b:Nat} {cs:List AV} {v:TV} {av:Nat→AV} (hd:dOk2 s o.dst=true) (hv:∀ (m:Nm) r,m b=some r→Les (av r) (v.rn m))
  (h:∀ Z a w (s1:AS),(∀ x u,tev s x=u→∃ m,Rel Z w (u.rn m) (a.eval x))→SR Z s1 a w→∃ v w' arr e lo hi,(execOp a.eval o).run P w=.ok (.value v) w'∧cs.length≤arr.size ∧
   (∀ (i:Nat) (c:AV) (u:Value),cs[i]?=some c→arr[i]?=some u→Rel Z w c u∧u.oneCell'=true)∧(hi≤lo∨arr.size≤lo) ∧
   w'.heap=w.heap.push (.cells arr e (lo,hi))∧w'.os=w.os∧w'.tape=w.tape∧w'.output=w.output∧Rel Z w' (av w.heap.size) v) :
  MakeD P o s v b cs:=by
 intro m h1 n hm
 refine OpW_hl fun hlt=>OpW_new (cs:=cs) (av:=av) (dOk_can hd) (fun Z a w r=>h Z a w _ (fun x u hu=>⟨m,by rw [← hu]; exact aev_les x _ _ _ (aev_rel r x)⟩) r) (fun r hr=>?_)
 have hr':n≤r:=hr
 have hlt':∀ q o,h1 q=some o→q < n:=hlt
 refine ⟨r,r+1,av r,hr',?_,fun q o hq=>?_,rfl,fun m' hm'=>hv m' r hm'⟩
 ·rcases Option.eq_none_or_eq_some (h1 r) with e | ⟨o,e⟩
  ·exact e
  ·have:=hlt' r o e
   omega
 ·by_cases hqr:q=r
  ·omega
  ·rw [Heap.set_ne _ _ _ _ hqr] at hq
   have:=hlt' q o hq
   omega
theorem n_alloc {e:TypeId} {z:Value} {d:Nat} (b:Nat) (hd:dOk2 s (some d)=true) (hz:(P.info? e).map (·.zero)=some (some z)) (h1:z.cells.all (·.oneCell')=true) {cs:List AV} (hcs:z.cells.toList.map zcell=cs) :
  MakeD P ⟨some d,.alloc e,ty,pos,after,none⟩ s (.c (.ptr b 0)) b cs:=by
 subst hcs
 refine MakeD_new (cs:=z.cells.toList.map zcell) (av:=fun r=>.ptr r 0) hd (fun m r hr=>by simp only [TV.rn,T1.rn,hr]; exact .same _) (fun Z a w s1 hx r=>?_)
 obtain ⟨i,hi,hz'⟩:=Option.map_eq_some_iff.1 hz
 have hti:=run_typeInfo (P:=P) w hi
 refine ⟨.pointer (some ⟨w.heap.size,0,none⟩),w.alloc (.cells z.cells e),z.cells,e,0,0,?_,by simp,fun j c u hc hu=>?_,.inl (Nat.le_refl _),rfl,rfl,rfl,rfl,.ptr _ _ e z.cells.size (shape_alloc w _ _)⟩
 ·simp only [execOp,Instr.alloc,zeroValue]
  simp [hti,hz',newVar,newRow,newObj,Sem.run]
 ·rw [List.getElem?_map] at hc
  have hu':z.cells.toList[j]?=some u:=by simpa using hu
  rw [hu'] at hc
  simp only [Option.map_some,Option.some.injEq] at hc
  subst hc
  rw [Array.all_eq_true] at h1
  obtain ⟨hj,he⟩:=Array.getElem?_eq_some_iff.1 hu
  have h2:u.oneCell'=true:=by rw [← he]; exact h1 j hj
  exact ⟨zcell_rel h2,h2⟩
def pcells:TV→Option (List AV)
 | .c (.p x)=>acells x
 | _=>none
theorem pcells_rel {Z:Nat→Prop} {w:World} {m:Nm} {u:TV} {v:Value} {cs:List AV} (h:pcells u=some cs) (r:Rel Z w (u.rn m) v) :
  cs.length=v.cells.size∧∀ (i:Nat) (c:AV) (q:Value),cs[i]?=some c→v.cells[i]?=some q→Rel Z w c q∧q.oneCell'=true:=by
 unfold pcells at h
 split at h
 ·exact acells_rel h r
 ·cases h
theorem n_box {e:TypeId} {x:Operand} {d:Nat} {cs:List AV} (b:Nat) (hd:dOk2 s (some d)=true) (hx:pcells (tev s x)=some cs) :
  MakeD P ⟨some d,.box e x,ty,pos,after,none⟩ s (.c (.ptr b 0)) b cs:=by
 refine MakeD_new (cs:=cs) (av:=fun r=>.ptr r 0) hd (fun m r hr=>by simp only [TV.rn,T1.rn,hr]; exact .same _) (fun Z a w s1 hev r=>?_)
 obtain ⟨m,hrel⟩:=hev x _ rfl
 obtain ⟨hl,hr⟩:=pcells_rel hx hrel
 refine ⟨.pointer (some ⟨w.heap.size,0,none⟩),w.alloc (.cells (a.eval x).cells e),(a.eval x).cells,e,0,0,?_,by rw [hl]; exact Nat.le_refl _,hr,.inl (Nat.le_refl _),rfl,rfl,rfl,rfl,.ptr _ _ e (a.eval x).cells.size (shape_alloc w _ _)⟩
 simp [execOp,Instr.box,newVar,newRow,newObj,Sem.run]
theorem OpW_storeL {K:AS→Prop} {s:AS} {t:TypeId} {p x:Operand} {b off:Nat} {o xs o':List AV} {xv:AV} (hp:aev s p=.ptr b off) (ho:s.h b=some o) (hxl:Les (aev s x) xv) (hx:acells xv=some xs) (hz:(P.info? t).map (·.size)=some xs.length) (hl:off+xs.length≤o.length) (ho':wCells o off xs=o') (hd:dOk s dst=true)
  (hk:K ((s.wr b o').put dst (.tup []))):OpW P ⟨dst,.store t p x,ty,pos,after,none⟩ K s:=by
 subst ho'
 intro Z a w r next Q hn
 have hpv:=aev_rel r p
 rw [hp] at hpv
 obtain ⟨e1,m1,hs1,hpe⟩:=hpv.ptr_inv
 obtain ⟨hxl,hxr⟩:=acells_rel hx (hxl _ _ _ (aev_rel r x))
 obtain ⟨arr,e,lo,hi,hh,hl0,hr0,hf⟩:=(r.gd.hb b o ho).cells hs1
 have hvl:(a.eval x).cells.toList.length=xs.length:=by simp [hxl]
 have h1:∀ v∈(a.eval x).cells.toList,v.oneCell'=true:=by
  intro v hv
  obtain ⟨i,hi',he⟩:=List.getElem_of_mem hv
  have hlt:i < xs.length:=by rw [← hvl]; exact hi'
  exact (hxr i _ v (List.getElem?_eq_getElem hlt) (by rw [← he]; simp [show i < (a.eval x).cells.size by simpa using hi'])).2
 have hst:=run_storeCells_cells (P:=P) b off (a.eval x).cells.toList 0 w (fun j hj=>by have hj':j < xs.length:=(by rw [← hvl]; exact hj); simp [World.cell?,hh]; omega) (fun j hj=>frozen_no hh hf _ (by omega)) h1
 simp only [Nat.add_zero] at hst
 have hrun:(execOp a.eval ⟨dst,.store t p x,ty,pos,after,none⟩).run P w=.ok .skip (w.setCells b off (a.eval x).cells.toList):=by
  simp only [execOp,Instr.storeAt,hpe,Instr.sureAddr,storeVar]
  simp [info_run hz,← hxl,hst]
 obtain ⟨ex,gd⟩:=writeBlock (off:=off) (vs:=(a.eval x).cells.toList) (o':=wCells o off xs) r.gd ho hh hf (by rw [hvl]; omega) (by rw [wCells_length hl]; exact hl0) h1
  (fun j c u hc hu=>by
   have hj:j < xs.length:=by rw [← hvl]; exact (List.getElem?_eq_some_iff.1 hu).1
   rw [wCells_in hl hj] at hc
   exact (hxr j c u hc (by simpa using hu)).1)
  (fun i c hi' hc=>by rw [hvl] at hi'; rwa [wCells_out hl hi'] at hc)
 unfold Oper.wp
 rw [hrun]
 refine hn _ Z _ _ hk (r.next ex gd (by rw [(setCells_rest _ _ _ _).2.2.2]; exact r.hn) (r.hl_set ho) hd (.tup [] #[] rfl (fun i c u hc _=>by simp at hc))) ?_
 cases dst<;>exact ex
theorem HM.write {m:Nm} {h:Hp} {h1:Heap} {b r:Nat} {k k':Blk} (hm:HM m h h1) (hb:h.get b=some k) (hr:m b=some r):HM m (h.set b k') (h1.set r (some (k'.cells m))):=by
 refine ⟨fun c q hq=>?_,fun c c' q hc hc' e1 e2=>?_⟩
 ·rw [Hp.get_set] at hq
  by_cases hcb:c=b
  ·subst hcb
   rw [if_pos rfl] at hq
   cases hq
   exact .inl ⟨r,hr,Heap.set_eq _ _ _⟩
  ·rw [if_neg hcb] at hq
   rcases hm.blk c q hq with ⟨r',h2,h3⟩ | h2
   ·left
    refine ⟨r',h2,?_⟩
    have hne:r'≠r:=by
     rintro rfl
     exact hcb (hm.inj c b r' (by rw [hq]; simp) (by rw [hb]; simp) h2 hr)
    rw [Heap.set_ne _ _ _ _ hne]
    exact h3
   ·exact .inr h2
 ·have nn:∀ x,(h.set b k').get x≠none→h.get x≠none:=fun x hx=>by
   rw [Hp.get_set] at hx
   by_cases hxb:x=b
   ·rw [hxb,hb]; simp
   ·rwa [if_neg hxb] at hx
  exact hm.inj c c' q (nn c hc) (nn c' hc') e1 e2
theorem d_st {t:TypeId} {p x:Operand} {b off:Nat} {o xs o':List AV} (hx0:isConst p=false) (hd:dOk2 s dst=true) (hp:tev s p=.c (.ptr b off)) (hb:s.h.get b=some (.pure o)) (hx:pcells (tev s x)=some xs) (hz:(P.info? t).map (·.size)=some xs.length) (hl:off+xs.length≤o.length) (h0:o≠[]) (ho:wCells o off xs=o') :
  OpD P ⟨dst,.store t p x,ty,pos,after,none⟩ s ((s.wr b (.pure o')).put dst (.c (.p (.tup [])))):=by
 intro m h1 n hm
 obtain ⟨r,hr,hh⟩:=blk_real hm hb (by simpa [Blk.cells] using h0)
 obtain ⟨xv,hxv⟩:∃ xv,tev s x=.c (.p xv):=by
  unfold pcells at hx
  split at hx
  ·exact ⟨_,by assumption⟩
  ·cases hx
 rw [hxv] at hx
 refine OpW_storeL (b:=r) (off:=off) (xv:=xv) (by rw [aev_eq hx0,hp]; simp only [TV.rn,T1.rn,hr]) hh (by have:=aev_les (s:=s) (m:=m) (h1:=h1) (n:=n) x; rw [hxv] at this; exact this) hx hz hl ho (dOk_can hd) ⟨m,.refl m,?_⟩
 exact put_fit (s:=s.wr b (.pure o')) (hm.write hb hr) (fun _ _=>.same _) (.same _)
def tparts (s:TS):List (Nat×Operand)→Option (List (Nat×List AV))
 | []=>some []
 | (i,x)::r=>match pcells (tev s x),tparts s r with
  | some cs,some ps=>some ((i,cs)::ps)
  | _,_=>none
theorem tparts_rel {Z:Nat→Prop} {a:Act} {w:World} (r:∀ x u,tev s x=u→∃ m,Rel Z w (u.rn m) (a.eval x)):∀ (l:List (Nat×Operand)) (ps:List (Nat×List AV)),tparts s l=some ps→PartsRel Z w ps (l.map fun p=>(p.1,a.eval p.2))
 | [],ps,h=>by
  simp only [tparts,Option.some.injEq] at h
  subst h
  exact .nil
 | (i,x)::l,ps,h=>by
  simp only [tparts] at h
  split at h
  ·rename_i cs ps' h1 h2
   simp only [Option.some.injEq] at h
   subst h
   obtain ⟨m,hm⟩:=r x _ rfl
   obtain ⟨hl,hr⟩:=pcells_rel h1 hm
   exact .cons ⟨rfl,hl,hr⟩ (tparts_rel r l ps' h2)
  ·cases h
theorem zero_relZ {Z:Nat→Prop} {w:World} {z:Value} (h1:z.cells.all (·.oneCell')=true):cellsRel Z w (z.cells.toList.map zcell) z.cells:=by
 refine ⟨by simp,fun j c u hc hu=>?_⟩
 rw [List.getElem?_map] at hc
 have hu':z.cells.toList[j]?=some u:=by simpa using hu
 rw [hu'] at hc
 simp only [Option.map_some,Option.some.injEq] at hc
 subst hc
 rw [Array.all_eq_true] at h1
 obtain ⟨hj,he⟩:=Array.getElem?_eq_some_iff.1 hu
 have h2:u.oneCell'=true:=by rw [← he]; exact h1 j hj
 exact ⟨zcell_rel h2,h2⟩
theorem made_relZ {Z:Nat→Prop} {w:World} {z:Value} {n:Nat} (h1:z.cells.all (·.oneCell')=true):cellsRel Z w (azeros n (z.cells.toList.map zcell)) (madeCells z.cells (n * z.cells.size)):=by
 have hz:=zero_relZ (Z:=Z) (w:=w) h1
 refine ⟨by rw [azeros_length,size_madeCells]; simp,fun i c u hc hu=>?_⟩
 have hi:i < n * z.cells.size:=by
  have:=(Array.getElem?_eq_some_iff.1 hu).1
  rwa [size_madeCells] at this
 have hpos:0 < z.cells.size:=by
  rcases Nat.eq_zero_or_pos z.cells.size with h0 | h0
  ·rw [h0,Nat.mul_zero] at hi; omega
  ·exact h0
 rw [azeros_get _ _ _ (by simpa using hi)] at hc
 have hlt:i % z.cells.size < z.cells.size:=Nat.mod_lt _ hpos
 refine hz.2 (i % z.cells.size) c u (by simpa using hc) ?_
 unfold madeCells at hu
 rw [Array.getElem?_map,Array.getElem?_range] at hu
 simp only [hi,if_true,Option.map_some,Option.some.injEq] at hu
 rw [Array.getElem?_eq_getElem hlt,← hu,getElem!_pos z.cells _ hlt]
theorem PureD_val {o:Oper} {v:TV} (hd:dOk2 s o.dst=true) {av:AV} (hav:∀ m,Les av (v.rn m)) (h:∀ (Z:Nat→Prop) (a:Act) (w:World),(∀ x u,tev s x=u→∃ m,Rel Z w (u.rn m) (a.eval x))→∃ v,(execOp a.eval o).run P w=.ok (.value v) w∧Rel Z w av v):PureD P o s v:=by
 refine PureD_same fun m h1 n hm K hk=>OpW_same (av:=av) (dOk_can hd) (fun Z a w r=>h Z a w (fun x u hu=>⟨m,by rw [← hu]; exact aev_les x _ _ _ (aev_rel r x)⟩)) (hk _ (hav m))
theorem p_bld {t:TypeId} {parts:Array (Nat×Operand)} {it:TypeInfo} {z:Value} {pl:List (Nat×Nat)} {ps:List (Nat×List AV)} {cs:List AV} (hd:dOk2 s dst=true) (hi:P.info? t=some it) (hz:it.zero=some z) (h1:z.cells.all (·.oneCell')=true)
  (hpl:placesOf P t=some pl) (hp:tparts s parts.toList=some ps) (hf:afill (fun i=>pl[i]?) (z.cells.toList.map zcell) ps=some cs):PureD P ⟨dst,.build t parts,ty,pos,after,none⟩ s (.c (.p (.agg cs))):=by
 refine PureD_val hd (av:=.agg cs) (fun _=>.same _) (fun Z a w r=>?_)
 obtain ⟨arr,hfill,hrel⟩:=fill_rel (fun i=>pl[i]?) ps _ _ cs z.cells (tparts_rel r _ _ hp) (zero_relZ h1) hf
 refine ⟨.agg arr,?_,hrel.agg⟩
 have hb:P.built t (parts.map fun (x:Nat×Operand)=>(x.1,a.eval x.2)).toList=some arr:=by
  unfold Program.built
  unfold placesOf at hpl
  rw [hi]
  cases hu:P.underlying t with
  | none=>simp [hu] at hpl
  | some d =>
   cases d<;>simp only [hu] at hpl<;>try (cases hpl; done)
   rename_i fields
   simp only [hz]
   rw [hpl]
   simp only [Array.toList_map]
   rw [← hfill]
   congr 1
   funext k
   simp
 have hrun:=run_build (P:=P) w t _ arr hb
 simp only [execOp]
 rw [Sem.run_bind,hrun]
 rfl
theorem n_bs {t e:TypeId} {len z d:Nat} {parts:Array (Nat×Operand)} {by':Nat} {zv:Value} {ps:List (Nat×List AV)} {cs:List AV} (b:Nat) (hd:dOk2 s (some d)=true) (hu:P.underlying t=some (.slice e)) (hI:Info P e z by' zv)
  (hzc:zv.cells.size=z) (h1:zv.cells.all (·.oneCell')=true) (hpos:len * z≠0) (hsmall:len * z≤16777216) (hp:tparts s parts.toList=some ps) (hf:afill (fun i=>some (i * z,z)) (azeros len (zv.cells.toList.map zcell)) ps=some cs) :
  MakeD P ⟨some d,.buildSlice t len parts,ty,pos,after,none⟩ s (.c (.own b len z)) b cs:=by
 obtain ⟨ie,hie,hsz,_,hz⟩:=hI.get
 refine MakeD_new (cs:=cs) (av:=fun r=>.sl r 0 len z) hd (fun m r hr=>by simp only [TV.rn,T1.rn,hr]; exact .same _) (fun Z a w s1 hev r=>?_)
 obtain ⟨arr,hfill,hrel⟩:=fill_rel _ ps _ _ cs _ (tparts_rel hev _ _ hp) (made_relZ (n:=len) h1) hf
 have hrun:=run_buildSlice (P:=P) w t e len (parts.map fun (x:Nat×Operand)=>(x.1,a.eval x.2)) arr ie zv hu hie hz (by rw [hsz]; omega) (by rw [hsz]; exact hpos)
  (by rw [hsz,Array.toList_map,← hzc]; rw [← hzc] at hfill; exact hfill)
 have hcl:cs.length=len * z:=by
  have h2:=afill_length _ ps _ _ hf
  rw [h2,azeros_length]
  simp [hzc]
 refine ⟨.slice (some ⟨w.heap.size,0,none⟩) len len,w.alloc (.cells arr e),arr,e,0,0,?_,by rw [hrel.1]; exact Nat.le_refl _,hrel.2,.inl (Nat.le_refl _),rfl,rfl,rfl,rfl,?_⟩
 ·simp only [execOp]
  rw [Sem.run_bind,hrun]
  rfl
 ·exact .sl _ 0 len z len e arr.size (Nat.le_refl _) (shape_push (w:=w) (fz:=(0,0)) rfl) (by rw [← hrel.1,hcl]; omega)
theorem n_bs0 {t e:TypeId} {d z by':Nat} {zv:Value} (b:Nat) (hd:dOk2 s (some d)=true) (hu:P.underlying t=some (.slice e)) (hI:Info P e z by' zv) :
  MakeD P ⟨some d,.buildSlice t 0 #[],ty,pos,after,none⟩ s (.c (.own b 0 z)) b []:=by
 obtain ⟨ie,hie,hsz,_,hz⟩:=hI.get
 refine MakeD_new (cs:=[]) (av:=fun r=>.sl r 0 0 z) hd (fun m r hr=>by simp only [TV.rn,T1.rn,hr]; exact .same _) (fun Z a w s1 hev r=>?_)
 refine ⟨.slice (some ⟨w.heap.size,0,none⟩) 0 0,w.alloc (.cells #[] e),#[],e,0,0,?_,by simp,fun i c u hc _=>by simp at hc,.inl (Nat.le_refl _),rfl,rfl,rfl,rfl,.sl _ 0 0 z 0 e 0 (Nat.le_refl _) (shape_push (w:=w) (arr:=#[]) (fz:=(0,0)) rfl) (by omega)⟩
 simp [execOp,Instr.buildSlice,run_underlying hu,sizeOf,typeInfo,hie,Instr.fill,newRow,Array.range_zero']
def srcT (s:TS):TV→Option (List AV×Nat)
 | .c (.p (.lst cs n))=>some (cs,n)
 | .c (.own b n z)=>match s.h.get b with
  | some (.pure cs)=>if cs.length=n * z∧0 < z then some (cs,n) else none
  | _=>none
 | .c (.sl b off n z)=>match s.h.get b with
  | some (.pure o)=>if off+n * z≤o.length∧o≠[] then some ((o.drop off).take (n * z),n) else none
  | _=>none
 | _=>none
theorem srcT_cont {m:Nm} {h1:Heap} {n':Nat} {x:Operand} {cs:List AV} {n:Nat} (hm:HM m s.h h1) (hx0:isConst x=false) (h:srcT s (tev s x)=some (cs,n)):acont (can m s h1 n') (aev (can m s h1 n') x)=some (cs,n):=by
 rw [aev_eq hx0]
 unfold srcT at h
 split at h
 ·rename_i he; rw [he]; exact h
 ·rename_i b n0 z he
  rw [he]
  split at h
  ·rename_i cs' hb
   split at h
   ·rename_i hc
    cases h
    exact Row.cont (s:=can m s h1 n') (own_cont (n':=n') hm hb hc.1 hc.2)
   ·cases h
  ·cases h
 ·rename_i b off n0 z he
  rw [he]
  split at h
  ·rename_i o hb
   split at h
   ·rename_i hc
    cases h
    obtain ⟨r,hr,hh⟩:=blk_real hm hb (by simpa [Blk.cells] using hc.2)
    simp only [TV.rn,T1.rn,hr,acont]
    show (match h1 r with | some o=>_ | none=>none)=_
    rw [hh]
    simp only [Blk.cells]
    exact if_pos hc.1
   ·cases h
  ·cases h
 ·cases h
theorem d_app {x y:Operand} {t tx e e':TypeId} {by':Nat} {zv:Value} {b n z k d:Nat} {cs ys cs':List AV} (ds:List Nat) (hb2:Nat.blt b 2000=true) (hd:dOk2 s (some d)=true) (hx0:isConst x=false) (hy0:isConst y=false) (ht:P.underlying t=some (.slice e)) (htx:P.underlying tx=some (.slice e')) (hI:Info P e z by' zv) (hzc:zv.cells.size=z)
  (hx:tev s x=.c (.own b n z)) (hb:s.h.get b=some (.pure cs)) (hcl:cs.length=n * z) (hz0:0 < z) (hy:srcT s (tev s y)=some (ys,k)) (hyl:ys.length=k * z) (hroom:(n+k) * by'≤140737488355328) (hmax:n+k≤9223372036854775807)
  (hl:lno b (ldel (ds.foldl ldel s.l) d)=true) (hh:hno b (s.h.del b)=true) (hcs:cs++ys=cs') :
  OpD P ⟨some d,.call { callee:=.builtin .append,args:=#[x,y],argTypes:=#[t,tx] },ty,pos,after,none⟩ s ((TS.mk (ds.foldl ldel s.l) (s.h.set b (.pure cs')) s.sz).put (some d) (.c (.own b (n+k) z))):=by
 subst hcs
 intro m h1 n' hm
 obtain ⟨i,hi,hsz,rfl,hz⟩:=hI.get
 have hrow:Row h1 (aev (can m s h1 n') x) cs n z:=by rw [aev_eq hx0,hx]; exact own_cont (n':=n') hm hb hcl hz0
 have hcont:=srcT_cont (n':=n') hm hy0 hy
 refine OpW_app (s:=can m s h1 n') hrow ?_ hyl (.inl ⟨e',htx,hcont⟩) ht hi hz hsz hzc hroom hmax (dOk_can hd) (fun v' h' n2 hr' hlt' hoth=>?_)
 ·have hns:∀ q,aev (can m s h1 n') y≠.sc (.string q):=by
   intro q hq
   rw [hq] at hcont
   cases hcont
  unfold asrc
  split
  ·rename_i q hq
   exact absurd hq (hns q)
  ·exact hcont
 have hold:∀ c q,c≠b→s.h.get c=some q→∀ r,m c=some r→h1 r=some (q.cells m)→h' r=some (q.cells m)∧blk v'≠some r:=by
  intro c q hcb hq r hr hh1
  obtain ⟨h2,h3⟩:=hoth r (by show h1 r≠none; rw [hh1]; simp) (by
   rw [aev_eq hx0,hx]
   simp only [TV.rn,T1.rn]
   rcases hm.blk b _ hb with ⟨rb,hrb,_⟩ | ⟨hrb,_⟩
   ·rw [hrb]
    simp only [blk,ne_eq,Option.some.injEq]
    rintro rfl
    exact hcb (hm.inj c b rb (by rw [hq]; simp) (by rw [hb]; simp) hr hrb)
   ·rw [hrb]
    simp [blk])
  exact ⟨by rw [h2]; exact hh1,h3⟩
 obtain ⟨hl',hcase⟩:=hr'
 let m':Nm:=nset m b (blk v')
 have hv':Les v' ((TV.c (.own b (n+k) z)).rn m'):=by
  simp only [TV.rn,T1.rn,m',nset_eq]
  rcases hcase with ⟨h1,h2⟩ | ⟨r,h1,h2⟩
  ·subst h1; exact .same _
  ·subst h1; exact .same _
 have hm':HM m' (s.h.set b (.pure (cs++ys))) h':=by
  refine ⟨fun c q hq=>?_,fun c c' q hc hc' e1 e2=>?_⟩
  ·rw [Hp.get_set] at hq
   by_cases hcb:c=b
   ·subst hcb
    rw [if_pos rfl] at hq
    cases hq
    simp only [m',nset_eq,Blk.cells]
    rcases hcase with ⟨h1,h2⟩ | ⟨r,h1,h2⟩
    ·right
     subst h1
     refine ⟨rfl,List.eq_nil_of_length_eq_zero ?_⟩
     rw [hl',h2,Nat.zero_mul]
    ·left
     subst h1
     exact ⟨r,rfl,h2⟩
   ·rw [if_neg hcb] at hq
    have hq2:(s.h.del b).get c=some q:=by rw [Hp.get_del,if_neg hcb]; exact hq
    have hno2:=hp_no hh c q hq2
    simp only [m']
    rw [nset_ne _ _ hcb,Blk.cells_no hno2]
    rcases hm.blk c q hq with ⟨r',h2,h3⟩ | h2
    ·exact .inl ⟨r',h2,(hold c q hcb hq r' h2 h3).1⟩
    ·exact .inr h2
  ·have nn:∀ x,(s.h.set b (.pure (cs++ys))).get x≠none→x≠b→s.h.get x≠none:=fun x hx hxb=>by
    rwa [Hp.get_set,if_neg hxb] at hx
   have key:∀ x,x≠b→s.h.get x≠none→m x=some q→blk v'≠some q:=by
    intro x hxb hx hmx
    obtain ⟨kx,hkx⟩:=Option.ne_none_iff_exists'.1 hx
    rcases hm.blk x kx hkx with ⟨r',h2,h3⟩ | ⟨h2,_⟩
    ·rw [hmx] at h2
     cases h2
     exact (hold x kx hxb hkx q hmx h3).2
    ·rw [hmx] at h2; cases h2
   simp only [m'] at e1 e2
   by_cases hcb:c=b
   ·subst hcb
    rw [nset_eq] at e1
    by_cases hcb':c'=c
    ·exact hcb'.symm
    ·rw [nset_ne _ _ hcb'] at e2
     exact absurd e1 (key c' hcb' (nn c' hc' hcb') e2)
   ·rw [nset_ne _ _ hcb] at e1
    by_cases hcb':c'=b
    ·subst hcb'
     rw [nset_eq] at e2
     exact absurd e2 (key c hcb (nn c hc hcb) e1)
    ·rw [nset_ne _ _ hcb'] at e2
     exact hm.inj c c' q (nn c hc hcb) (nn c' hc' hcb') e1 e2
 refine ⟨m',pin_set (Nat.lt_of_succ_le (Nat.le_of_ble_eq_true hb2)),put_fit (s:=⟨ds.foldl ldel s.l,s.h.set b (.pure (cs++ys)),s.sz⟩) hm' (fun u hu=>?_) hv'⟩
 have hud:u≠d:=fun e=>hu (by rw [e])
 have h2:=look_no hl u
 rw [look_ldel,if_neg hud] at h2
 show Les ((s.t u).rn m) ((look TV.any (ds.foldl ldel s.l) u).rn m')
 simp only [m']
 rw [TV.rn_no h2]
 rcases look_foldl ds s.l u with h3 | h3
 ·rw [h3]; exact .same _
 ·rw [h3]; exact .any _
end ops
end Go.Proofs.Ytglgdaeimfdpfaa.VM
