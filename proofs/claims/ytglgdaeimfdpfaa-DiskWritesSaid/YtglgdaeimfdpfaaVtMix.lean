/- Words and rules that the proof uses. -/
import Derived.Test.YtglgdaeimfdpfaaVtMin
namespace Go.Proofs.Ytglgdaeimfdpfaa.VM
open Go Go.RowKit
def ocells:TV→Option (List T1)
 | .c (.p x)=>(acells x).map (List.map T1.p)
 | .c (.own b n z)=>some [.own b n z]
 | .agg cs=>some cs
 | _=>none
theorem map_rn_p (m:Nm) (ys:List AV):(ys.map T1.p).map (T1.rn m)=ys:=by
 rw [List.map_map,show (T1.rn m ∘ T1.p)=id from rfl,List.map_id]
theorem ocells_ac {u:TV} {cs:List T1} (m:Nm) (h:ocells u=some cs):acells (u.rn m)=some (cs.map (T1.rn m)):=by
 unfold ocells at h
 split at h
 ·rename_i x
  cases hx:acells x with
  | none=>rw [hx] at h; cases h
  | some ys =>
   rw [hx] at h
   cases h
   show acells x=_
   rw [hx,map_rn_p]
 ·rename_i b n z
  cases h
  show acells (T1.rn m (.own b n z))=some [T1.rn m (.own b n z)]
  unfold T1.rn
  dsimp only
  cases m b<;>rfl
 ·cases h
  rfl
 ·cases h
def oparts (s:TS):List (Nat×Operand)→Option (List (Nat×List T1))
 | []=>some []
 | (i,x)::r=>match ocells (tev s x),oparts s r with
  | some cs,some ps=>some ((i,cs)::ps)
  | _,_=>none
def prn (m:Nm) (p:Nat×List T1):Nat×List AV:=(p.1,p.2.map (T1.rn m))
section
variable {P:Program} {s:TS} {dst:Option Tmp} {ty:TypeId} {pos:String} {after:Array Edge}
theorem oparts_rel {Z:Nat→Prop} {m:Nm} {h1:Heap} {n:Nat} {a:Act} {w:World} (r:SR Z (can m s h1 n) a w):∀ (l:List (Nat×Operand)) (ps:List (Nat×List T1)),oparts s l=some ps→PartsRel Z w (ps.map (prn m)) (l.map fun p=>(p.1,a.eval p.2))
 | [],ps,h=>by
  simp only [oparts,Option.some.injEq] at h
  subst h
  exact .nil
 | (i,x)::l,ps,h=>by
  simp only [oparts] at h
  split at h
  ·rename_i cs ps' h1 h2
   simp only [Option.some.injEq] at h
   subst h
   obtain ⟨hl,hr⟩:=acells_rel (ocells_ac m h1) (aev_les x _ _ _ (aev_rel r x))
   exact .cons ⟨rfl,hl,hr⟩ (oparts_rel r l ps' h2)
  ·cases h
theorem u_bldm {t:TypeId} {parts:Array (Nat×Operand)} {z by':Nat} {zv:Value} {pl:List (Nat×Nat)} {ps:List (Nat×List T1)} {zs:List AV} {cs:List T1} (hd:dOk2 s dst=true) (hI:Info P t z by' zv) (h1:zv.cells.all (·.oneCell')=true) (hzs:zv.cells.toList.map zcell=zs)
  (hpl:placesOf P t=some pl) (hp:oparts s parts.toList=some ps) (hf:∀ m,afill (fun i=>pl[i]?) zs (ps.map (prn m))=some (cs.map (T1.rn m))):PureD P ⟨dst,.build t parts,ty,pos,after,none⟩ s (.agg cs):=by
 subst hzs
 obtain ⟨i,hi,_,_,hz⟩:=hI.get
 refine PureD_same fun m h1' n hm K hk=>OpW_same (av:=.agg (cs.map (T1.rn m))) (dOk_can hd) (fun Z a w r=>?_) (hk _ (.same _))
 obtain ⟨arr,hfill,hrel⟩:=fill_rel (fun i=>pl[i]?) _ _ _ _ zv.cells (oparts_rel r _ _ hp) (zero_relZ h1) (hf m)
 refine ⟨.agg arr,?_,hrel.agg⟩
 have hb:P.built t (parts.map fun (x:Nat×Operand)=>(x.1,a.eval x.2)).toList=some arr:=by
  unfold Program.built
  unfold placesOf at hpl
  rw [hi]
  cases hu:P.underlying t with
  | none=>simp [hu] at hpl
  | some d =>
   cases d<;>simp only [hu] at hpl<;>try (cases hpl; done)
   rename_i fields
   simp only [hz]
   rw [hpl]
   simp only [Array.toList_map]
   rw [← hfill]
   congr 1
   funext k
   simp
 have hrun:=run_build (P:=P) w t _ arr hb
 simp only [execOp]
 rw [Sem.run_bind,hrun]
 rfl
theorem d_stm {t:TypeId} {p x:Operand} {b off:Nat} {k:Blk} {o xs o':List T1} (hx0:isConst p=false) (hd:dOk2 s dst=true) (hp:tev s p=.c (.ptr b off)) (hb:s.h.get b=some k) (hk:∀ m,k.cells m=o.map (T1.rn m)) (hx:ocells (tev s x)=some xs) (hz:(P.info? t).map (·.size)=some xs.length) (hl:off+xs.length≤o.length) (h0:o≠[])
  (ho:∀ m,wCells (o.map (T1.rn m)) off (xs.map (T1.rn m))=o'.map (T1.rn m)):OpD P ⟨dst,.store t p x,ty,pos,after,none⟩ s ((s.wr b (.mix o')).put dst (.c (.p (.tup [])))):=by
 intro m h1 n hm
 obtain ⟨r,hr,hh⟩:=blk_real hm hb (by rw [hk]; simpa using h0)
 rw [hk] at hh
 refine OpW_storeL (b:=r) (off:=off) (xv:=(tev s x).rn m) (by rw [aev_eq hx0,hp]; simp only [TV.rn,T1.rn,hr]) hh (aev_les (s:=s) (m:=m) (h1:=h1) (n:=n) x) (ocells_ac m hx) (by rw [List.length_map]; exact hz) (by rw [List.length_map,List.length_map]; exact hl) (ho m) (dOk_can hd) ⟨m,.refl m,?_⟩
 exact put_fit (s:=s.wr b (.mix o')) (hm.write hb hr) (fun _ _=>.same _) (.same _)
end
def one (b:Nat) (o:List AV):Heap:=fun k=>if k=b then some o else none
theorem SR.pub2 {Z:Nat→Prop} {s:AS} {a:Act} {w:World} {b:Nat} {o:List AV} (r:SR Z s a w) (hb:s.h b=some o) (t:Nat→AV) (ht:∀ u,Lent (one b o) (s.t u) (t u)) :
  SR (fun k=>Z k∨k=b) ⟨t,s.h.set b none,s.n,s.sz⟩ a w∧Ext s.h Z w (s.h.set b none) (fun k=>Z k∨k=b) w:=by
 obtain ⟨r2,x2⟩:=r.pub hb s.t (fun u=>.inl rfl)
 refine ⟨⟨fun u=>?_,r2.ts,r2.df,r2.gd,r2.hn,r2.hl⟩,x2⟩
 have g1:Good Z (one b o) w:=by
  refine ⟨r.gd.zb,fun k q hq=>?_,fun k q hq=>?_,r.gd.tb⟩
  ·unfold one at hq
   split at hq
   ·rename_i hkb
    rw [hkb]
    exact r.gd.hz b o hb
   ·cases hq
  ·unfold one at hq
   split at hq
   ·rename_i hkb
    cases hq
    rw [hkb]
    exact r.gd.hb b o hb
   ·cases hq
 have h3:=(ht u).rel g1 (r.tm u)
 have hZ:(fun k=>Z k∨one b o k≠none)=(fun k=>Z k∨k=b):=by
  funext k
  refine propext ⟨fun h=>h.imp id (fun h=>?_),fun h=>h.imp id (fun h=>?_)⟩
  ·unfold one at h
   split at h
   ·assumption
   ·exact absurd rfl h
  ·unfold one
   rw [if_pos h]
   simp
 rw [hZ] at h3
 exact h3
def PubT (b n z:Nat) (cs:List AV) (x y:T1):Prop:=x=y∨(x=.own b n z∧y=.p (.lst cs n))∨∃ off,x=.ptr b off∧y=.p (.rptr cs off)∧cs≠[]
def PubL (b n z:Nat) (cs:List AV):List T1→List T1→Prop
 | [],[]=>True
 | x::l,y::m=>PubT b n z cs x y∧PubL b n z cs l m
 | _,_=>False
def PubR (b n z:Nat) (cs:List AV):TV→TV→Prop
 | .c x,.c y=>PubT b n z cs x y
 | .agg l,.agg m=>PubL b n z cs l m
 | .clo f l,.clo g m=>f=g∧PubL b n z cs l m
 | _,_=>False
theorem PubL.len {b n z:Nat} {cs:List AV}:∀ {l m:List T1},PubL b n z cs l m→l.length=m.length
 | [],[],_=>rfl
 | _::_,_::_,h=>by rw [List.length_cons,List.length_cons,PubL.len h.2]
 | [],_::_,h=>h.elim
 | _::_,[],h=>h.elim
theorem PubL.get {b n z:Nat} {cs:List AV}:∀ {l m:List T1},PubL b n z cs l m→∀ (i:Nat) (x y:T1),l[i]?=some x→m[i]?=some y→PubT b n z cs x y
 | [],[],_,i,x,y,h1,_=>by simp at h1
 | a::l,c::m,h,i,x,y,h1,h2=>by
  cases i with
  | zero =>
   simp only [List.getElem?_cons_zero,Option.some.injEq] at h1 h2
   subst h1 h2
   exact h.1
  | succ i=>exact PubL.get h.2 i x y (by simpa using h1) (by simpa using h2)
 | [],_::_,h,_,_,_,_,_=>h.elim
 | _::_,[],h,_,_,_,_,_=>h.elim
theorem pubT_lent {b n z rb:Nat} {cs:List AV} {m:Nm} (hm:m b=some rb) (hl:cs.length=n * z) {x y:T1} (h:PubT b n z cs x y):Lent (one rb cs) (x.rn m) (y.rn m):=by
 rcases h with rfl | ⟨rfl,rfl⟩ | ⟨off,rfl,rfl,_⟩
 ·exact .same _
 ·simp only [T1.rn,hm]
  have:=Lent.sl (h:=one rb cs) rb 0 n z cs (by unfold one; rw [if_pos rfl]) (by omega)
  rwa [List.drop_zero,← hl,List.take_length] at this
 ·simp only [T1.rn,hm]
  exact .ptr rb off cs (by unfold one; rw [if_pos rfl])
theorem pubR_lent {b n z rb:Nat} {cs:List AV} {m:Nm} (hm:m b=some rb) (hl:cs.length=n * z) {v v':TV} (h:PubR b n z cs v v'):Lent (one rb cs) (v.rn m) (v'.rn m):=by
 cases v with
 | c x =>
  cases v' with
  | c y=>exact pubT_lent hm hl h
  | _=>exact h.elim
 | agg l =>
  cases v' with
  | agg l' =>
   refine .agg _ _ (by rw [List.length_map,List.length_map]; exact PubL.len h) (fun i a a' e1 e2=>?_)
   rw [List.getElem?_map] at e1 e2
   obtain ⟨x,hx,rfl⟩:=Option.map_eq_some_iff.1 e1
   obtain ⟨y,hy,rfl⟩:=Option.map_eq_some_iff.1 e2
   exact pubT_lent hm hl (PubL.get h i x y hx hy)
  | _=>exact h.elim
 | tup l=>exact h.elim
 | clo f l =>
  cases v' with
  | clo f' l' =>
   obtain ⟨rfl,h⟩:=h
   refine .clo _ _ _ (by rw [List.length_map,List.length_map]; exact PubL.len h) (fun i a a' e1 e2=>?_)
   rw [List.getElem?_map] at e1 e2
   obtain ⟨x,hx,rfl⟩:=Option.map_eq_some_iff.1 e1
   obtain ⟨y,hy,rfl⟩:=Option.map_eq_some_iff.1 e2
   exact pubT_lent hm hl (PubL.get h i x y hx hy)
  | _=>exact h.elim
theorem pubT_nil {b z:Nat} {m:Nm} (hm:m b=none) {x y:T1} (h:PubT b 0 z [] x y):Les (x.rn m) (y.rn m):=by
 rcases h with rfl | ⟨rfl,rfl⟩ | ⟨off,_,_,h⟩
 ·exact .same _
 ·simp only [T1.rn,hm]
  exact .nil
 ·exact absurd rfl h
theorem pubR_nil {b z:Nat} {m:Nm} (hm:m b=none) {v v':TV} (h:PubR b 0 z [] v v'):Les (v.rn m) (v'.rn m):=by
 cases v with
 | c x =>
  cases v' with
  | c y=>exact pubT_nil hm h
  | _=>exact h.elim
 | agg l =>
  cases v' with
  | agg l' =>
   intro Z w u r
   have hlen:=PubL.len h
   generalize hg:(TV.agg l).rn m=g at r
   cases r with
   | agg cs vs hl h1 h2 =>
    cases hg
    refine .agg _ vs (by rw [List.length_map,← hlen,← hl,List.length_map]) h1 (fun i a v e1 e2=>?_)
    rw [List.getElem?_map] at e1
    obtain ⟨y,hy,rfl⟩:=Option.map_eq_some_iff.1 e1
    have hi:i < l.length:=by rw [hlen]; exact (List.getElem?_eq_some_iff.1 hy).1
    exact pubT_nil hm (PubL.get h i l[i] y (List.getElem?_eq_getElem hi) hy) Z w v (h2 i _ v (by rw [List.getElem?_map,List.getElem?_eq_getElem hi]; rfl) e2)
   | _=>cases hg
  | _=>exact h.elim
 | tup l=>exact h.elim
 | clo f l =>
  cases v' with
  | clo f' l' =>
   obtain ⟨rfl,h⟩:=h
   intro Z w u r
   have hlen:=PubL.len h
   generalize hg:(TV.clo f l).rn m=g at r
   cases r with
   | clo _ cs vs hl h2 =>
    cases hg
    refine .clo _ _ vs (by rw [List.length_map,← hlen,← hl,List.length_map]) (fun i a v e1 e2=>?_)
    rw [List.getElem?_map] at e1
    obtain ⟨y,hy,rfl⟩:=Option.map_eq_some_iff.1 e1
    have hi:i < l.length:=by rw [hlen]; exact (List.getElem?_eq_some_iff.1 hy).1
    exact pubT_nil hm (PubL.get h i l[i] y (List.getElem?_eq_getElem hi) hy) Z w v (h2 i _ v (by rw [List.getElem?_map,List.getElem?_eq_getElem hi]; rfl) e2)
   | _=>cases hg
  | _=>exact h.elim
def PAll (s:TS) (b n z:Nat) (cs:List AV):List (Nat×TV)→Prop
 | []=>True
 | (u,v)::ds=>PubR b n z cs (s.t u) v∧PAll s b n z cs ds
theorem look_app {α:Type} (d:α):∀ (ds l:List (Nat×α)) (u:Nat),look d (ds++l) u=look (look d l u) ds u
 | [],_,_=>rfl
 | (k,v)::ds,l,u=>by rw [List.cons_append,look_cons,look_cons,look_app d ds l u]
theorem PAll.get {s:TS} {b n z:Nat} {cs:List AV}:∀ {ds:List (Nat×TV)},PAll s b n z cs ds→∀ u,look (s.t u) ds u=s.t u∨PubR b n z cs (s.t u) (look (s.t u) ds u)
 | [],_,_=>.inl rfl
 | (k,v)::ds,h,u=>by
  rw [look_cons]
  by_cases hu:u=k
  ·rw [if_pos hu,hu]
   exact .inr h.1
  ·rw [if_neg hu]
   exact PAll.get h.2 u
theorem Gho_puba {s:TS} {b n z:Nat} {cs:List AV} (ds:List (Nat×TV)) (hx:PAll s b n z cs ds) (hb:s.h.get b=some (.pure cs)) (hcl:cs.length=n * z) (hz:0 < z):Gho s ⟨ds++s.l,s.h.del b,s.sz⟩:=by
 intro m h1 n' hm Z a w r
 have hlook:∀ u,(⟨ds++s.l,s.h.del b,s.sz⟩:TS).t u=look (s.t u) ds u:=fun u=>look_app TV.any ds s.l u
 rcases hm.blk b _ hb with ⟨rb,hr,hh⟩ | ⟨hr,hc⟩
 ·have hh1:(can m s h1 n').h rb=some cs:=hh
  obtain ⟨r2,x2⟩:=r.pub2 hh1 (fun u=>(look (s.t u) ds u).rn m) (fun u=>by
   show Lent (one rb cs) ((s.t u).rn m) ((look (s.t u) ds u).rn m)
   rcases hx.get u with h | h
   ·rw [h]; exact .same _
   ·exact pubR_lent hr hcl h)
  refine ⟨m,_,_,.refl m,⟨rfl,?_,fun u=>?_⟩,r2,x2⟩
  ·refine hm.drop hb hr _ (fun q hq=>?_)
   show h1.set rb none q=_
   exact Heap.set_ne _ _ _ _ hq
  ·rw [hlook]
   exact .same _
 ·simp only [Blk.cells] at hc
  subst hc
  have hn:n=0:=by
   rcases Nat.eq_zero_or_pos n with h0 | h0
   ·exact h0
   ·have:=Nat.mul_pos h0 hz
    simp at hcl
    omega
  subst hn
  refine ⟨m,can m s h1 n',Z,.refl m,⟨rfl,⟨fun c q hq=>?_,fun c c' q hc hc'=>?_⟩,fun u=>?_⟩,r,Ext.refl _ _ _⟩
  ·rw [Hp.get_del] at hq
   split at hq
   ·cases hq
   ·exact hm.blk c q hq
  ·rw [Hp.get_del] at hc hc'
   split at hc
   ·exact absurd rfl hc
   ·split at hc'
    ·exact absurd rfl hc'
    ·exact hm.inj c c' q hc hc'
  ·rw [hlook]
   show Les ((s.t u).rn m) _
   rcases hx.get u with h | h
   ·rw [h]; exact .same _
   ·exact pubR_nil hr h
section calls
variable {P:Program} {s:TS} {dst:Option Tmp} {ty:TypeId} {pos:String} {after:Array Edge}
end calls
section zero
variable {P:Program} {s:TS} {dst:Option Tmp} {ty:TypeId} {pos:String} {after:Array Edge}
end zero
def AnyL:List T1→List T1→Prop
 | [],[]=>True
 | x::l,y::m=>(x=y∨y=.p .any)∧AnyL l m
 | _,_=>False
theorem AnyL.len:∀ {l m:List T1},AnyL l m→l.length=m.length
 | [],[],_=>rfl
 | _::_,_::_,h=>by rw [List.length_cons,List.length_cons,AnyL.len h.2]
 | [],_::_,h=>h.elim
 | _::_,[],h=>h.elim
theorem AnyL.get:∀ {l m:List T1},AnyL l m→∀ (i:Nat) (x y:T1),l[i]?=some x→m[i]?=some y→x=y∨y=.p .any
 | [],[],_,i,x,y,h1,_=>by simp at h1
 | a::l,c::m,h,i,x,y,h1,h2=>by
  cases i with
  | zero =>
   simp only [List.getElem?_cons_zero,Option.some.injEq] at h1 h2
   subst h1 h2
   exact h.1
  | succ i=>exact AnyL.get h.2 i x y (by simpa using h1) (by simpa using h2)
 | [],_::_,h,_,_,_,_,_=>h.elim
 | _::_,[],h,_,_,_,_,_=>h.elim
theorem AnyL.cles {l l':List T1} (h:AnyL l l') (m:Nm):CLes ((Blk.mix l).cells m) ((Blk.mix l').cells m):=by
 refine ⟨by show (l'.map _).length≤(l.map _).length; rw [List.length_map,List.length_map,h.len]; exact Nat.le_refl _,fun i a a' e1 e2=>?_⟩
 have e1':(l.map (T1.rn m))[i]?=some a:=e1
 have e2':(l'.map (T1.rn m))[i]?=some a':=e2
 rw [List.getElem?_map] at e1' e2'
 obtain ⟨x,hx,rfl⟩:=Option.map_eq_some_iff.1 e1'
 obtain ⟨y,hy,rfl⟩:=Option.map_eq_some_iff.1 e2'
 rcases h.get i x y hx hy with rfl | rfl
 ·exact .same _
 ·exact .any _
section calls
variable {P:Program} {s:TS} {ty:TypeId} {pos:String} {after:Array Edge}
end calls
end Go.Proofs.Ytglgdaeimfdpfaa.VM
