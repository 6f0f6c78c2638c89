/- Words and rules that the proof uses. -/
import Derived.Test.YtglgdaeimfdpfaaVmHeavy
namespace Go.Proofs.Ytglgdaeimfdpfaa.VM
open Go Go.RowKit
inductive T1 where
 | p (x:AV)
 | own (b n z:Nat)
 | sl (b off n z:Nat)
 | ptr (b off:Nat)
 | mref (b:Nat)
inductive TV where
 | c (x:T1)
 | tup (vs:List T1)
 | agg (cs:List T1)
 | clo (f:FuncId) (cap:List T1)
abbrev Nm:=Nat→Option Nat
def T1.rn (m:Nm):T1→AV
 | .p x=>x
 | .own b n z=>match m b with | some r=>.sl r 0 n z | none=>.nil
 | .sl b off n z=>match m b with | some r=>.sl r off n z | none=>.any
 | .ptr b off=>match m b with | some r=>.ptr r off | none=>.any
 | .mref b=>match m b with | some r=>.mref r | none=>.any
def TV.rn (m:Nm):TV→AV
 | .c x=>x.rn m
 | .tup vs=>.tup (vs.map (T1.rn m))
 | .agg cs=>.agg (cs.map (T1.rn m))
 | .clo f cap=>.clo f (cap.map (T1.rn m))
inductive Blk where
 | pure (cs:List AV)
 | mix (cs:List T1)
def Blk.cells (m:Nm):Blk→List AV
 | .pure cs=>cs
 | .mix cs=>cs.map (T1.rn m)
abbrev Hp:=List (Nat×Blk)
def look {α:Type} (d:α):List (Nat×α)→Nat→α
 | [],_=>d
 | (k,v)::l,u=>match Nat.beq u k with | true=>v | false=>look d l u
def ldel {α:Type}:List (Nat×α)→Nat→List (Nat×α)
 | [],_=>[]
 | (k,v)::l,u=>match Nat.beq u k with | true=>ldel l u | false=>(k,v)::ldel l u
theorem look_cons {α:Type} (d:α) (k:Nat) (v:α) (l:List (Nat×α)) (u:Nat):look d ((k,v)::l) u=if u=k then v else look d l u:=by
 simp only [look]
 by_cases h:u=k
 ·subst h; simp
 ·have:Nat.beq u k=false:=Bool.eq_false_iff.2 fun e=>h (Nat.eq_of_beq_eq_true e)
  rw [this,if_neg h]
theorem look_ldel {α:Type} (d:α):∀ (l:List (Nat×α)) (k u:Nat),look d (ldel l k) u=if u=k then d else look d l u
 | [],k,u=>by simp [ldel,look]
 | (j,v)::l,k,u=>by
  simp only [ldel]
  by_cases hk:k=j
  ·subst hk
   have:Nat.beq k k=true:=by simp
   rw [this]
   simp only
   rw [look_ldel d l k u,look_cons]
   split<;>rfl
  ·have:Nat.beq k j=false:=Bool.eq_false_iff.2 fun e=>hk (Nat.eq_of_beq_eq_true e)
   rw [this]
   simp only
   rw [look_cons,look_cons,look_ldel d l k u]
   by_cases hu:u=j
   ·subst hu; rw [if_pos rfl,if_pos rfl,if_neg (by omega)]
   ·rw [if_neg hu,if_neg hu]
def Hp.get (h:Hp) (b:Nat):Option Blk:=look none (h.map fun p=>(p.1,some p.2)) b
def Hp.del (h:Hp) (b:Nat):Hp:=ldel h b
def Hp.set (h:Hp) (b:Nat) (k:Blk):Hp:=(b,k)::ldel h b
theorem map_ldel {α β:Type} (f:α→β):∀ (l:List (Nat×α)) (k:Nat),(ldel l k).map (fun p=>(p.1,f p.2))=ldel (l.map fun p=>(p.1,f p.2)) k
 | [],_=>rfl
 | (j,v)::l,k=>by
  simp only [ldel,List.map_cons]
  cases Nat.beq k j with
  | true=>exact map_ldel f l k
  | false=>simp only [List.map_cons]; rw [map_ldel f l k]
theorem Hp.get_del (h:Hp) (b c:Nat):(h.del b).get c=if c=b then none else h.get c:=by
 unfold Hp.del Hp.get
 rw [map_ldel,look_ldel]
theorem Hp.get_set (h:Hp) (b c:Nat) (k:Blk):(h.set b k).get c=if c=b then some k else h.get c:=by
 unfold Hp.set
 show look none ((b,some k)::(ldel h b).map _) c=_
 rw [look_cons]
 have:=Hp.get_del h b c
 unfold Hp.del Hp.get at this
 rw [this]
 by_cases hc:c=b
 ·rw [if_pos hc,if_pos hc]
 ·rw [if_neg hc,if_neg hc,if_neg hc]; rfl
structure TS where
 l:List (Nat×TV)
 h:Hp
 sz:Nat
abbrev TV.any:TV:=.c (.p .any)
abbrev TS.t (s:TS) (u:Nat):TV:=look .any s.l u
def TS.put (s:TS) (d:Option Nat) (v:TV):TS:=match d with | some d=>⟨(d,v)::s.l,s.h,s.sz⟩ | none=>s
theorem TS.put_t (s:TS) (d u:Nat) (v:TV):(s.put (some d) v).t u=if u=d then v else s.t u:=by
 show look TV.any ((d,v)::s.l) u=_
 rw [look_cons]
structure HM (m:Nm) (h:Hp) (h1:Heap):Prop where
 blk:∀ b k,h.get b=some k→(∃ r,m b=some r∧h1 r=some (k.cells m))∨(m b=none∧k.cells m=[])
 inj:∀ b b' r,h.get b≠none→h.get b'≠none→m b=some r→m b'=some r→b=b'
def can (m:Nm) (s:TS) (h1:Heap) (n:Nat):AS:=⟨fun u=>(s.t u).rn m,h1,n,s.sz⟩
def Les (a a':AV):Prop:=∀ Z w v,Rel Z w a v→Rel Z w a' v
theorem Les.same (a:AV):Les a a:=fun _ _ _ h=>h
theorem Les.any (a:AV):Les a .any:=fun _ _ v _=>.any v
theorem Les.nil:Les .nil (.lst [] 0):=fun _ _ _ h=>by cases h; exact .lnil 0 0 none (Nat.le_refl _) (fun _=>rfl)
theorem Les.trans {a b c:AV} (h:Les a b) (k:Les b c):Les a c:=fun Z w v r=>k Z w v (h Z w v r)
def TLes (v v':TV):Prop:=∀ m:Nm,Les (v.rn m) (v'.rn m)
theorem TLes.same (v:TV):TLes v v:=fun _=>.same _
def Pin (m m':Nm):Prop:=∀ b,2000≤b→m' b=m b
theorem Pin.refl (m:Nm):Pin m m:=fun _ _=>rfl
theorem Pin.trans {a b c:Nm} (h:Pin a b) (k:Pin b c):Pin a c:=fun x hx=>(k x hx).trans (h x hx)
structure Fit (m:Nm) (s:TS) (s1:AS):Prop where
 sz:s1.sz=s.sz
 hm:HM m s.h s1.h
 tm:∀ u,Les (s1.t u) ((s.t u).rn m)
theorem fit_can {m:Nm} {s:TS} {h1:Heap} {n:Nat} (hm:HM m s.h h1):Fit m s (can m s h1 n):=⟨rfl,hm,fun _=>.same _⟩
theorem AW_weakT {P:Program} {c:Code} {Q:Go.Exit→AS→Prop} {s:AS} {t:Nat→AV} (hf:∀ u,Les (s.t u) (t u)) (h:AW P c Q ⟨t,s.h,s.n,s.sz⟩):AW P c Q s :=
 fun Z a w r=>h Z a w ⟨fun u=>hf u _ _ _ (r.tm u),r.ts,r.df,r.gd,r.hn,r.hl⟩
theorem OpsW_weakT {P:Program} {ops:Array Oper} {li:List Nat} {K:AS→Prop} {s:AS} {t:Nat→AV} (hf:∀ u,Les (s.t u) (t u)) (h:OpsW P ops li K ⟨t,s.h,s.n,s.sz⟩):OpsW P ops li K s :=
 fun Z a w r=>h Z a w ⟨fun u=>hf u _ _ _ (r.tm u),r.ts,r.df,r.gd,r.hn,r.hl⟩
def AW2 (P:Program) (c:Code) (Q:Go.Exit→TS→Prop) (s:TS):Prop :=
 ∀ m h1 n,HM m s.h h1→AW P c (fun e s1=>∃ s' m',Q e s'∧Pin m m'∧Fit m' s' s1) (can m s h1 n)
def RunW (P:Program) (ops:Array Oper) (l:List Nat) (K:TS→Prop) (s:TS):Prop :=
 ∀ m h1 n,HM m s.h h1→OpsW P ops l (fun s1=>∃ s' m',K s'∧Pin m m'∧Fit m' s' s1) (can m s h1 n)
def OpD (P:Program) (o:Oper) (s s':TS):Prop :=
 ∀ m h1 n,HM m s.h h1→OpW P o (fun s1=>∃ m',Pin m m'∧Fit m' s' s1) (can m s h1 n)
def Keeps (h h':Heap):Prop:=∀ r o,h r=some o→h' r=some o
theorem Keeps.refl (h:Heap):Keeps h h:=fun _ _ h=>h
theorem HM.keeps {m:Nm} {h:Hp} {h1 h2:Heap} (hm:HM m h h1) (k:Keeps h1 h2):HM m h h2 :=
 ⟨fun b q hq=>(hm.blk b q hq).imp (fun ⟨r,h3,h4⟩=>⟨r,h3,k r _ h4⟩) id,hm.inj⟩
def PureD (P:Program) (o:Oper) (s:TS) (v:TV):Prop :=
 ∀ m h1 n,HM m s.h h1→OpW P o (fun s1=>∃ h1' n' av,(∀ b o,h1' b=some o→b < n')∧Keeps h1 h1'∧s1=(AS.mk (can m s h1 n).t h1' n' s.sz).put o.dst av∧Les av (v.rn m)) (can m s h1 n)
def Gho (s s':TS):Prop :=
 ∀ m h1 n,HM m s.h h1→∀ Z a w,SR Z (can m s h1 n) a w→∃ m' s1 Z',Pin m m'∧Fit m' s' s1∧SR Z' s1 a w∧Ext h1 Z w s1.h Z' w
theorem Fit.aw {P:Program} {c:Code} {Q:Go.Exit→TS→Prop} {m:Nm} {s:TS} {s1:AS} (f:Fit m s s1) (h:AW2 P c Q s):AW P c (fun e s1=>∃ s' m',Q e s'∧Pin m m'∧Fit m' s' s1) s1:=by
 refine AW_weakT f.tm ?_
 have:=h m s1.h s1.n f.hm
 rw [f.sz]
 exact this
theorem Fit.run {P:Program} {ops:Array Oper} {l:List Nat} {K:TS→Prop} {m:Nm} {s:TS} {s1:AS} (f:Fit m s s1) (h:RunW P ops l K s):OpsW P ops l (fun s1=>∃ s' m',K s'∧Pin m m'∧Fit m' s' s1) s1:=by
 refine OpsW_weakT f.tm ?_
 have:=h m s1.h s1.n f.hm
 rw [f.sz]
 exact this
theorem put_fit {m:Nm} {s:TS} {t:Nat→AV} {h1:Heap} {n:Nat} {d:Option Nat} {v:TV} {av:AV} (hm:HM m s.h h1) (ht:∀ u,some u≠d→Les (t u) ((s.t u).rn m)) (hv:Les av (v.rn m)):Fit m (s.put d v) ((AS.mk t h1 n s.sz).put d av):=by
 cases d with
 | none=>exact ⟨rfl,hm,fun u=>ht u (by simp)⟩
 | some d =>
  refine ⟨rfl,hm,fun u=>?_⟩
  rw [TS.put_t]
  show Les (if u=d then av else t u) _
  by_cases hu:u=d
  ·rw [if_pos hu,if_pos hu]; exact hv
  ·rw [if_neg hu,if_neg hu]; exact ht u (by simpa using hu)
theorem PureD.opD {P:Program} {o:Oper} {s:TS} {v:TV} (h:PureD P o s v):OpD P o s (s.put o.dst v):=by
 intro m h1 n hm
 refine (h m h1 n hm).mono ?_
 rintro s1 ⟨h1',n',av,_,hk,rfl,hav⟩
 exact ⟨m,.refl m,put_fit (hm.keeps hk) (fun _ _=>.same _) hav⟩
def zcell:Value→AV
 | .slice none 0 0=>.lst [] 0
 | u=>.sc u
def cAV2:Value→AV
 | .slice none 0 0=>.lst [] 0
 | .slice a n c=>.any
 | .agg vs=>if vs.all (·.oneCell') then .agg (vs.toList.map zcell) else .any
 | .tuple _=>.any
 | v=>.sc v
theorem zcell_rel {Z:Nat→Prop} {w:World} {u:Value} (h1:u.oneCell'=true):Rel Z w (zcell u) u:=by
 unfold zcell
 split
 ·exact .lnil 0 0 none (Nat.le_refl _) (fun _=>rfl)
 ·exact .sc _ h1
theorem cAV2_sc {v u:Value} (h:cAV2 v=.sc u):cAV v=.sc u:=by
 unfold cAV2 at h
 split at h<;>try (cases h; done)
 ·split at h<;>cases h
 ·cases h
  rename_i h1 h2 h3 h4
  cases v<;>first | rfl | exact absurd rfl (h3 _) | exact absurd rfl (h4 _) | exact absurd rfl (h2 _ _ _)
theorem cAV2_les (v:Value):Les (cAV v) (cAV2 v):=by
 unfold cAV2
 split
 ·exact .nil
 ·exact .any _
 ·rename_i vs
  split
  ·rename_i h
   intro Z w v hv
   have he:cAV (.agg vs)=.agg (vs.toList.map .sc):=if_pos h
   rw [he] at hv
   obtain ⟨vs',rfl,hl,h1,hr⟩:=hv.agg_inv
   refine .agg _ vs' (by simpa using hl) h1 ?_
   intro i a u ha hu
   rw [List.getElem?_map,Option.map_eq_some_iff] at ha
   obtain ⟨q,hq,rfl⟩:=ha
   have:=hr i (.sc q) u (by rw [List.getElem?_map,hq]; rfl) hu
   have:=this.sc_inv
   subst this
   exact zcell_rel (h1 _ (Array.mem_of_getElem? hu))
  ·exact .any _
 ·exact .any _
 ·rename_i h1 h2 h3 h4
  have:cAV v=.sc v:=by cases v<;>first | rfl | exact absurd rfl (h3 _) | exact absurd rfl (h4 _) | exact absurd rfl (h2 _ _ _)
  rw [this]
  exact .same _
theorem OpsW.mono {P:Program} {ops:Array Oper} {l:List Nat} {K K':AS→Prop} {s:AS} (h:OpsW P ops l K s) (hk:∀ s',K s'→K' s'):OpsW P ops l K' s :=
 fun Z a w r Q hq=>h Z a w r Q fun s' Z' a' w' k=>hq s' Z' a' w' (hk s' k)
section codes
variable {P:Program} {Q:Go.Exit→TS→Prop} {s:TS}
theorem AW2.mono {c:Code} {Q':Go.Exit→TS→Prop} (h:AW2 P c Q s) (hq:∀ e s',Q e s'→Q' e s'):AW2 P c Q' s :=
 fun m h1 n hm=>(h m h1 n hm).mono fun _ _ ⟨s',m',q,pn,f⟩=>⟨s',m',hq _ _ q,pn,f⟩
theorem AW2_skip (h:Q .normal s):AW2 P .skip Q s:=fun m _ _ hm=>AW_skip ⟨s,m,h,.refl m,fit_can hm⟩
theorem AW2_exit {id:Nat} (h:Q (.exit id) s):AW2 P (.exit id) Q s:=fun m _ _ hm=>AW_exit ⟨s,m,h,.refl m,fit_can hm⟩
theorem AW2_ret (h:Q .ret s):AW2 P .ret Q s:=fun m _ _ hm=>AW_ret ⟨s,m,h,.refl m,fit_can hm⟩
def thenQ2 (next:TS→Prop) (Q:Go.Exit→TS→Prop):Go.Exit→TS→Prop
 | .normal,s=>next s
 | e,s=>Q e s
theorem AW2_seq {x y:Code} (h:AW2 P x (thenQ2 (AW2 P y Q) Q) s):AW2 P (.seq x y) Q s:=by
 intro m h1 n hm
 refine AW_seq ((h m h1 n hm).mono ?_)
 rintro e s1 ⟨s',m',q,pn,f⟩
 cases e with
 | normal=>exact (f.aw q).mono fun _ _ ⟨s2,m2,q2,pn2,f2⟩=>⟨s2,m2,q2,pn.trans pn2,f2⟩
 | _=>exact ⟨s',m',q,pn,f⟩
def blockQ2 (id:Nat) (Q:Go.Exit→TS→Prop):Go.Exit→TS→Prop
 | .exit id',s=>if id'=id then Q .normal s else Q (.exit id') s
 | e,s=>Q e s
theorem AW2_block {id:Nat} {c:Code} (h:AW2 P c (blockQ2 id Q) s):AW2 P (.block id c) Q s:=by
 intro m h1 n hm
 refine AW_block ((h m h1 n hm).mono ?_)
 rintro e s1 ⟨s',m',q,pn,f⟩
 cases e with
 | exit id' =>
  simp only [blockQ2] at q
  simp only [blockQ]
  split
  ·rename_i he
   rw [if_pos he] at q
   exact ⟨s',m',q,pn,f⟩
  ·rename_i he
   rw [if_neg he] at q
   exact ⟨s',m',q,pn,f⟩
 | _=>exact ⟨s',m',q,pn,f⟩
theorem AW2_loop {c:Code} {α:Type} (S:α→TS) (I:Nat→α→Prop) {n:Nat} {a:α} (h0:I n a) (hs:S a=s)
  (round:∀ n a,I n a→AW2 P c (thenQ2 (fun s'=>∃ k b,k < n∧I k b∧s'=S b) Q) (S a)):AW2 P (.loop c) Q s:=by
 subst hs
 intro m h1 k hm
 refine AW_loop (fun n s1=>∃ a m2,I n a∧Pin m m2∧Fit m2 (S a) s1) (n:=n) ⟨a,m,h0,.refl m,fit_can hm⟩ ?_
 rintro n s1 ⟨a,m2,hi,pn,f⟩
 refine (f.aw (round n a hi)).mono ?_
 rintro e s2 ⟨s',m',q,pn',f'⟩
 cases e with
 | normal =>
  obtain ⟨j,b,hj,hb,rfl⟩:=q
  exact ⟨j,hj,b,m',hb,pn.trans pn',f'⟩
 | _=>exact ⟨s',m',q,pn.trans pn',f'⟩
theorem AW2_gho {c:Code} {s':TS} (g:Gho s s') (h:AW2 P c Q s'):AW2 P c Q s:=by
 intro m h1 n hm Z a w r
 obtain ⟨m',s1,Z',pn,f,r',x⟩:=g m h1 n hm Z a w r
 exact wp_mono (f.aw h Z' a w r') fun _ _ _ ⟨s2,Z2,⟨s3,m3,q,pn3,f3⟩,r2,x2⟩=>⟨s2,Z2,⟨s3,m3,q,pn.trans pn3,f3⟩,r2,x.trans x2⟩
theorem RunW_gho {ops:Array Oper} {l:List Nat} {K:TS→Prop} {s':TS} (g:Gho s s') (h:RunW P ops l K s'):RunW P ops l K s:=by
 intro m h1 n hm Z a w r Q hq
 obtain ⟨m',s1,Z',pn,f,r',x⟩:=g m h1 n hm Z a w r
 exact f.run h Z' a w r' Q fun s2 Z2 a2 w2 ⟨s3,m3,q,pn3,f3⟩ r2 x2=>hq s2 Z2 a2 w2 ⟨s3,m3,q,pn.trans pn3,f3⟩ r2 (x.trans x2)
theorem RunW_nil {ops:Array Oper} {K:TS→Prop} (h:K s):RunW P ops [] K s:=fun m _ _ hm=>OpsW_nil ⟨s,m,h,.refl m,fit_can hm⟩
theorem r_op {ops:Array Oper} {K:TS→Prop} {i:Nat} {l:List Nat} {o:Oper} {s':TS} (ho:ops[i]?=some o) (hg:o.guard=none) (h:OpD P o s s') (hk:RunW P ops l K s'):RunW P ops (i::l) K s:=by
 intro m h1 n hm
 refine OpsW_cons ho hg ((h m h1 n hm).mono ?_)
 rintro s1 ⟨m',pn,f⟩
 exact (f.run hk).mono fun s2 ⟨s3,m3,q,pn3,f3⟩=>⟨s3,m3,q,pn.trans pn3,f3⟩
theorem AW2_reg {id:Nat} {ops:Array Oper} (l:List Nat) (hn:List.range ops.size=l) (h:RunW P ops l (Q .normal) s):AW2 P (.region id ops false) Q s :=
 fun m h1 n hm=>AW_reg l hn (h m h1 n hm)
def dOk2 (s:TS) (d:Option Nat):Bool:=match d with | some d=>Nat.blt d s.sz | none=>true
theorem dOk_can {m:Nm} {h1:Heap} {n:Nat} {d:Option Nat} (h:dOk2 s d=true):dOk (can m s h1 n) d=true:=by
 cases d with
 | none=>rfl
 | some d =>
  exact decide_eq_true (Nat.lt_of_succ_le (Nat.le_of_ble_eq_true h))
def tev (s:TS):Operand→TV
 | .tmp t=>s.t t
 | .const v=>.c (.p (cAV2 v))
 | .func f=>.clo f []
 | .global g=>.c (.p (tabOf tabs g))
theorem aev_les {m:Nm} {h1:Heap} {n:Nat} (x:Operand):Les (aev (can m s h1 n) x) ((tev s x).rn m):=by
 cases x with
 | const v=>exact cAV2_les v
 | tmp t=>exact .same _
 | func f=>exact .same _
 | global g=>exact .same _
theorem aev_sc {m:Nm} {h1:Heap} {n:Nat} {x:Operand} {u:Value} (h:tev s x=.c (.p (.sc u))):aev (can m s h1 n) x=.sc u:=by
 cases x with
 | const v =>
  simp only [tev,TV.c.injEq,T1.p.injEq] at h
  exact cAV2_sc h
 | tmp t=>show TV.rn m (s.t t)=_; rw [show s.t t=_ from h]; rfl
 | func f=>cases h
 | global g =>
  have h2:tabOf tabs g=.sc u:=T1.p.inj (TV.c.inj h)
  rcases tabOf_kind tabs g with e | ⟨vs,e⟩
  ·rw [e] at h2; cases h2
  ·rw [e] at h2; cases h2
def isConst:Operand→Bool
 | .const _=>true
 | _=>false
theorem aev_eq {m:Nm} {h1:Heap} {n:Nat} {x:Operand} (h:isConst x=false):aev (can m s h1 n) x=(tev s x).rn m:=by
 cases x with
 | const v=>cases h
 | _=>rfl
theorem AW2_cond {x y:Code} {c:Operand} {b:Bool} (hc:tev s c=.c (.p (.sc (.bool b)))) (h1:b=true→AW2 P x Q s) (h2:b=false→AW2 P y Q s):AW2 P (.cond c x y) Q s :=
 fun m hp n hm=>AW_cond (b:=b) (aev_sc hc) (fun h=>h1 h m hp n hm) (fun h=>h2 h m hp n hm)
theorem AW2_if {x y:Code} {c:Operand} {p:Prop} [Decidable p] (hc:tev s c=.c (.p (.sc (.bool (decide p))))) (h1:p→AW2 P x Q s) (h2:¬ p→AW2 P y Q s):AW2 P (.cond c x y) Q s :=
 AW2_cond hc (fun h=>h1 (of_decide_eq_true h)) (fun h=>h2 (of_decide_eq_false h))
def TFits (s:TS):List (Nat×TV)→Prop
 | []=>True
 | (k,v)::l=>TLes (s.t k) v∧TFits s l
def HFits (s:TS):Hp→Prop
 | []=>True
 | (k,v)::l=>s.h.get k=some v∧HFits s l
theorem TFits.get {s:TS} {m:Nm}:∀ {l:List (Nat×TV)} (_:TFits s l) (u:Nat),Les ((s.t u).rn m) ((look TV.any l u).rn m)
 | [],_,_=>.any _
 | (k,v)::l,h,u=>by
  rw [look_cons]
  split
  ·rename_i hu
   subst hu
   exact h.1 m
  ·exact TFits.get h.2 u
theorem Hp.get_cons (b:Nat) (k:Blk) (h:Hp) (c:Nat):Hp.get ((b,k)::h) c=if c=b then some k else h.get c:=by
 show look none ((b,some k)::h.map _) c=_
 rw [look_cons]
 rfl
theorem HFits.get {s:TS}:∀ {l:Hp} (_:HFits s l) (b:Nat) (k:Blk),l.get b=some k→s.h.get b=some k
 | [],_,_,_,hk=>by cases hk
 | (c,v)::l,h,b,k,hk=>by
  rw [Hp.get_cons] at hk
  split at hk
  ·rename_i hb
   cases hk
   rw [hb]
   exact h.1
  ·exact HFits.get h.2 b k hk
theorem Gho_same {s s':TS} (hsz:s'.sz=s.sz) (h:∀ m h1,HM m s.h h1→∃ m',Pin m m'∧HM m' s'.h h1∧∀ u,Les ((s.t u).rn m) ((s'.t u).rn m')):Gho s s':=by
 intro m h1 n hm Z a w r
 obtain ⟨m',pn,hm',hw⟩:=h m h1 hm
 refine ⟨m',can m' s' h1 n,Z,pn,fit_can hm',⟨fun u=>hw u _ _ _ (r.tm u),?_,r.df,r.gd,r.hn,r.hl⟩,Ext.refl _ _ _⟩
 show a.tmps.size=s'.sz
 rw [hsz]
 exact r.ts
theorem Gho_st {s:TS} {L:List (Nat×TV)} {H:Hp} {N:Nat} (hN:s.sz=N) (hl:TFits s L) (hh:HFits s H):Gho s ⟨L,H,N⟩:=by
 subst hN
 refine Gho_same rfl fun m h1 hm=>⟨m,.refl m,⟨fun b k hk=>hm.blk b k (hh.get b k hk),fun b b' r hb hb'=>hm.inj b b' r ?_ ?_⟩,fun u=>hl.get u⟩
 ·obtain ⟨k,hk⟩:=Option.ne_none_iff_exists'.1 hb
  rw [hh.get b k hk]; simp
 ·obtain ⟨k,hk⟩:=Option.ne_none_iff_exists'.1 hb'
  rw [hh.get b' k hk]; simp
theorem AW2_st {c:Code} (L:List (Nat×TV)) (H:Hp) {N:Nat} (hN:s.sz=N) (hl:TFits s L) (hh:HFits s H) (h:AW2 P c Q ⟨L,H,N⟩):AW2 P c Q s:=AW2_gho (Gho_st hN hl hh) h
theorem RunW_st {ops:Array Oper} {l:List Nat} {K:TS→Prop} (L:List (Nat×TV)) (H:Hp) {N:Nat} (hN:s.sz=N) (hl:TFits s L) (hh:HFits s H) (h:RunW P ops l K ⟨L,H,N⟩):RunW P ops l K s:=RunW_gho (Gho_st hN hl hh) h
end codes
def loopN {α β:Type} (step:α→Option (α⊕β)):Nat→α→Option β
 | 0,_=>none
 | k+1,a=>match step a with
  | none=>none
  | some (.inl b)=>loopN step k b
  | some (.inr r)=>some r
theorem loopN_more {α β:Type} {step:α→Option (α⊕β)}:∀ {k:Nat} {a:α} {r:β} (d:Nat),loopN step k a=some r→loopN step (k+d) a=some r
 | 0,_,_,_,h=>by cases h
 | k+1,a,r,d,h=>by
  rw [show k+1+d=(k+d)+1 by omega]
  simp only [loopN] at h ⊢
  split at h
  ·cases h
  ·exact loopN_more d h
  ·exact h
open Classical in
noncomputable def loopO {α β:Type} (step:α→Option (α⊕β)) (a:α):Option β :=
 if h:∃ k r,loopN step k a=some r then some h.choose_spec.choose else none
theorem loopO_of {α β:Type} {step:α→Option (α⊕β)} {k:Nat} {a:α} {r:β} (h:loopN step k a=some r):loopO step a=some r:=by
 have hex:∃ k r,loopN step k a=some r:=⟨k,r,h⟩
 unfold loopO
 rw [dif_pos hex]
 have h2:=hex.choose_spec.choose_spec
 have h3:=loopN_more hex.choose h
 have h4:=loopN_more k h2
 rw [Nat.add_comm] at h4
 rw [h4] at h3
 exact h3
theorem loopO_to {α β:Type} {step:α→Option (α⊕β)} {a:α} {r:β} (h:loopO step a=some r):∃ k,loopN step k a=some r:=by
 unfold loopO at h
 split at h
 ·rename_i hex
  cases h
  exact ⟨_,hex.choose_spec.choose_spec⟩
 ·cases h
theorem loopO_next {α β:Type} {step:α→Option (α⊕β)} {a b:α} (h:step a=some (.inl b)):loopO step a=loopO step b:=by
 rcases ho:loopO step b with _ | r
 ·rcases ho2:loopO step a with _ | r
  ·rfl
  ·obtain ⟨k,hk⟩:=loopO_to ho2
   cases k with
   | zero=>cases hk
   | succ k =>
    simp only [loopN,h] at hk
    rw [loopO_of hk] at ho
    cases ho
 ·obtain ⟨k,hk⟩:=loopO_to ho
  exact loopO_of (k:=k+1) (by simp only [loopN,h]; exact hk)
theorem loopO_done {α β:Type} {step:α→Option (α⊕β)} {a:α} {r:β} (h:step a=some (.inr r)):loopO step a=some r :=
 loopO_of (k:=1) (by simp only [loopN,h])
def loopQ {α β:Type} (S:α→TS) (R:β→Go.Exit→TS→Prop):α⊕β→Go.Exit→TS→Prop
 | .inl b,e,s=>e=.normal∧s=S b
 | .inr y,e,s=>R y e s
theorem AW2_loopO {P:Program} {c:Code} {Q:Go.Exit→TS→Prop} {s:TS} {α β:Type} (S:α→TS) (R:β→Go.Exit→TS→Prop) {step:α→Option (α⊕β)} {a:α} {r:β} (H:loopO step a=some r) (hs:S a=s)
  (round:∀ a x,step a=some x→AW2 P c (loopQ S R x) (S a)) (hq:∀ e s',R r e s'→e≠.normal∧Q e s'):AW2 P (.loop c) Q s:=by
 obtain ⟨k,hk⟩:=loopO_to H
 refine AW2_loop S (fun n a=>loopN step n a=some r) hk hs ?_
 intro n a hn
 cases n with
 | zero=>cases hn
 | succ n =>
  simp only [loopN] at hn
  split at hn
  ·cases hn
  ·rename_i b hb
   refine (round a _ hb).mono ?_
   rintro e s' ⟨rfl,rfl⟩
   exact ⟨n,b,by omega,hn,rfl⟩
  ·rename_i y hy
   cases hn
   refine (round a _ hy).mono ?_
   intro e s' q
   obtain ⟨h1,h2⟩:=hq e s' q
   cases e with
   | normal=>exact absurd rfl h1
   | _=>exact h2
theorem chk_elim {α:Type} {c:Prop} [Decidable c] {e:Option α} {r:α} (h:(if c then e else none)=some r):c∧e=some r:=by
 by_cases hc:c
 ·rw [if_pos hc] at h; exact ⟨hc,h⟩
 ·rw [if_neg hc] at h; cases h
theorem ite_then {α:Type} {c:Prop} [Decidable c] {a b:α} {r:α} (hc:c) (h:(if c then a else b)=r):a=r:=by rwa [if_pos hc] at h
theorem ite_else {α:Type} {c:Prop} [Decidable c] {a b:α} {r:α} (hc:¬ c) (h:(if c then a else b)=r):b=r:=by rwa [if_neg hc] at h
theorem bind_elim {α β:Type} {e:Option α} {f:α→Option β} {r:β} (h:e.bind f=some r):∃ x,e=some x∧f x=some r:=Option.bind_eq_some_iff.1 h
theorem some_elim {α:Type} {a b:α} (h:some a=some b):a=b:=by cases h; rfl
end Go.Proofs.Ytglgdaeimfdpfaa.VM
