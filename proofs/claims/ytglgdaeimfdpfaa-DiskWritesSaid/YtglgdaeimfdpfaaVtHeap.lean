/- Words and rules that the proof uses. -/
import Derived.Test.YtglgdaeimfdpfaaVtRule
namespace Go.Proofs.Ytglgdaeimfdpfaa.VM
open Go Go.RowKit
def hdiff (h hc:Heap):Heap:=fun b=>match hc b with
 | some _=>none
 | none=>h b
theorem hdiff_some {h hc:Heap} {b:Nat} {o:List AV} (e:hdiff h hc b=some o):hc b=none∧h b=some o:=by
 unfold hdiff at e
 split at e
 ·cases e
 ·exact ⟨‹_›,e⟩
theorem hdiff_of {h hc:Heap} {b:Nat} (e:hc b=none):hdiff h hc b=h b:=by
 unfold hdiff
 rw [e]
theorem merge_goodH {Z Z':Nat→Prop} {h hc hr:Heap} {w w':World} (g:Good Z h w) (hsub:∀ b o,hc b=some o→h b=some o) (gr:Good Z' hr w') (ex:Ext hc Z w hr Z' w') :
  Good Z' ((hdiff h hc).merge hr) w'∧Ext h Z w ((hdiff h hc).merge hr) Z' w'∧∀ b,hr b≠none→hdiff h hc b=none:=by
 have hdis:∀ b,hr b≠none→hdiff h hc b=none:=by
  intro b hb
  rcases Option.eq_none_or_eq_some (hdiff h hc b) with e | ⟨o,e⟩
  ·exact e
  ·obtain ⟨e1,e2⟩:=hdiff_some e
   rcases ex.own b hb with h1 | h1
   ·exact absurd e1 h1
   ·have:=g.lt e2
    omega
 have hz:∀ b,Z' b→hdiff h hc b=none:=by
  intro b hb
  rcases Option.eq_none_or_eq_some (hdiff h hc b) with e | ⟨o,e⟩
  ·exact e
  ·obtain ⟨e1,e2⟩:=hdiff_some e
   rcases ex.zf b hb with h1 | h1 | h1
   ·exact absurd h1 (g.hz b o e2)
   ·exact absurd e1 h1
   ·have:=g.lt e2
    omega
 have gc:Good Z hc w:=⟨g.zb,fun b o hb=>g.hz b o (hsub b o hb),fun b o hb=>g.hb b o (hsub b o hb),g.tb⟩
 have hm:∀ b o,((hdiff h hc).merge hr) b=some o→hr b=some o∨(hr b=none∧hc b=none∧h b=some o):=by
  intro b o hb
  unfold Heap.merge at hb
  split at hb
  ·rename_i q hq
   cases hb
   exact .inl hq
  ·rename_i hq
   obtain ⟨e1,e2⟩:=hdiff_some hb
   exact .inr ⟨hq,e1,e2⟩
 refine ⟨⟨gr.zb,fun b o hb=>?_,fun b o hb=>?_,gr.tb⟩,⟨ex.os,ex.tape,ex.output,ex.size,fun b hb hn=>ex.keep b hb ?_,ex.shp,fun b hb=>?_,ex.zz,fun b hb=>?_⟩,hdis⟩
 ·rcases hm b o hb with h1 | ⟨_,h1,h2⟩
  ·exact gr.hz b o h1
  ·intro hzb
   have:=hz b hzb
   rw [hdiff_of h1,h2] at this
   cases this
 ·rcases hm b o hb with h1 | ⟨_,h1,h2⟩
  ·exact gr.hb b o h1
  ·exact (g.hb b o h2).step gc ex (ex.keep b (g.lt h2) h1)
 ·rcases Option.eq_none_or_eq_some (hc b) with e | ⟨o,e⟩
  ·exact e
  ·rw [hsub b o e] at hn
   cases hn
 ·obtain ⟨o,ho⟩:=Option.ne_none_iff_exists'.1 hb
  rcases hm b o ho with h1 | ⟨_,_,h2⟩
  ·rcases ex.own b (by rw [h1]; simp) with h3 | h3
   ·obtain ⟨o2,h4⟩:=Option.ne_none_iff_exists'.1 h3
    exact .inl (by rw [hsub b o2 h4]; simp)
   ·exact .inr h3
  ·exact .inl (by rw [h2]; simp)
 ·rcases ex.zf b hb with h1 | h1 | h1
  ·exact .inl h1
  ·obtain ⟨o2,h4⟩:=Option.ne_none_iff_exists'.1 h1
   exact .inr (.inl (by rw [hsub b o2 h4]; simp))
  ·exact .inr (.inr h1)
theorem AC.frameH {P:Program} {f:FuncId} {args:List AV} {R:AV→Heap→Prop} {h hc:Heap} (c:AC P f args hc R) (hsub:∀ b o,hc b=some o→h b=some o) :
  AC P f args h (fun r h'=>∃ hr,R r hr∧h'=(hdiff h hc).merge hr∧∀ b,hr b≠none→hdiff h hc b=none):=by
 intro Z w vs g hl hv
 refine (c Z w vs ⟨g.zb,fun b o hb=>g.hz b o (hsub b o hb),fun b o hb=>g.hb b o (hsub b o hb),g.tb⟩ hl hv).mono ?_
 rintro e w' ⟨v,r,hr,Z',rfl,hR,hrel,gr,ex⟩
 obtain ⟨g2,x2,hd⟩:=merge_goodH g hsub gr ex
 exact ⟨v,r,_,Z',rfl,⟨hr,hR,rfl,hd⟩,hrel,g2,x2⟩
def rnm (ρ:List (Nat×Nat)) (b:Nat):Nat:=look b ρ b
def T1.ren (ρ:List (Nat×Nat)):T1→T1
 | .p x=>.p x
 | .own b n z=>.own (rnm ρ b) n z
 | .sl b off n z=>.sl (rnm ρ b) off n z
 | .ptr b off=>.ptr (rnm ρ b) off
 | .mref b=>.mref (rnm ρ b)
def TV.ren (ρ:List (Nat×Nat)):TV→TV
 | .c x=>.c (x.ren ρ)
 | .tup vs=>.tup (vs.map (T1.ren ρ))
 | .agg cs=>.agg (cs.map (T1.ren ρ))
 | .clo f cap=>.clo f (cap.map (T1.ren ρ))
def Blk.ren (ρ:List (Nat×Nat)):Blk→Blk
 | .pure cs=>.pure cs
 | .mix cs=>.mix (cs.map (T1.ren ρ))
def T1.inn (L:List Nat):T1→Bool
 | .p _=>true
 | .own b _ _=>L.any (Nat.beq b)
 | .sl b _ _ _=>L.any (Nat.beq b)
 | .ptr b _=>L.any (Nat.beq b)
 | .mref b=>L.any (Nat.beq b)
def TV.inn (L:List Nat):TV→Bool
 | .c x=>x.inn L
 | .tup vs=>vs.all (T1.inn L)
 | .agg cs=>cs.all (T1.inn L)
 | .clo _ cap=>cap.all (T1.inn L)
def Blk.inn (L:List Nat):Blk→Bool
 | .pure _=>true
 | .mix cs=>cs.all (T1.inn L)
theorem any_beq {L:List Nat} {b:Nat} (h:L.any (Nat.beq b)=true):b∈L:=by
 obtain ⟨c,hc,he⟩:=List.any_eq_true.1 h
 rw [Nat.eq_of_beq_eq_true he]
 exact hc
theorem T1.ren_rn {ρ:List (Nat×Nat)} {m m2:Nm} {L:List Nat} (hm:∀ b∈L,m (rnm ρ b)=m2 b) {x:T1} (h:x.inn L=true):(x.ren ρ).rn m=x.rn m2:=by
 cases x with
 | p x=>rfl
 | own b n z=>simp only [T1.ren,T1.rn]; rw [hm b (any_beq h)]
 | sl b off n z=>simp only [T1.ren,T1.rn]; rw [hm b (any_beq h)]
 | ptr b off=>simp only [T1.ren,T1.rn]; rw [hm b (any_beq h)]
 | mref b=>simp only [T1.ren,T1.rn]; rw [hm b (any_beq h)]
theorem T1.ren_map {ρ:List (Nat×Nat)} {m m2:Nm} {L:List Nat} (hm:∀ b∈L,m (rnm ρ b)=m2 b):∀ {cs:List T1} (_:cs.all (T1.inn L)=true),(cs.map (T1.ren ρ)).map (T1.rn m)=cs.map (T1.rn m2)
 | [],_=>rfl
 | x::cs,h=>by
  rw [List.all_cons,Bool.and_eq_true] at h
  rw [List.map_cons,List.map_cons,List.map_cons,T1.ren_rn hm h.1,T1.ren_map hm h.2]
theorem TV.ren_rn {ρ:List (Nat×Nat)} {m m2:Nm} {L:List Nat} (hm:∀ b∈L,m (rnm ρ b)=m2 b) {x:TV} (h:x.inn L=true):(x.ren ρ).rn m=x.rn m2:=by
 cases x with
 | c x=>exact T1.ren_rn hm h
 | tup vs=>simp only [TV.ren,TV.rn]; rw [T1.ren_map hm h]
 | agg cs=>simp only [TV.ren,TV.rn]; rw [T1.ren_map hm h]
 | clo f cap=>simp only [TV.ren,TV.rn]; rw [T1.ren_map hm h]
theorem Blk.ren_cells {ρ:List (Nat×Nat)} {m m2:Nm} {L:List Nat} (hm:∀ b∈L,m (rnm ρ b)=m2 b) {k:Blk} (h:k.inn L=true):(k.ren ρ).cells m=k.cells m2:=by
 cases k with
 | pure cs=>rfl
 | mix cs=>exact T1.ren_map hm h
theorem T1.ren_rn' {ρ:List (Nat×Nat)} {m:Nm} (x:T1):(x.ren ρ).rn m=x.rn fun b=>m (rnm ρ b):=by cases x<;>rfl
theorem T1.ren_map' {ρ:List (Nat×Nat)} {m:Nm} (cs:List T1):(cs.map (T1.ren ρ)).map (T1.rn m)=cs.map (T1.rn fun b=>m (rnm ρ b)):=by
 rw [List.map_map]
 exact List.map_congr_left fun x _=>T1.ren_rn' x
theorem TV.ren_rn' {ρ:List (Nat×Nat)} {m:Nm} (x:TV):(x.ren ρ).rn m=x.rn fun b=>m (rnm ρ b):=by
 cases x with
 | c x=>exact T1.ren_rn' x
 | tup vs=>simp only [TV.ren,TV.rn]; rw [T1.ren_map']
 | agg cs=>simp only [TV.ren,TV.rn]; rw [T1.ren_map']
 | clo f cap=>simp only [TV.ren,TV.rn]; rw [T1.ren_map']
theorem Blk.ren_cells' {ρ:List (Nat×Nat)} {m:Nm} (k:Blk):(k.ren ρ).cells m=k.cells fun b=>m (rnm ρ b):=by
 cases k with
 | pure cs=>rfl
 | mix cs=>exact T1.ren_map' cs
def hsets (ρ:List (Nat×Nat)):Hp→Hp→Hp
 | [],h=>h
 | (b,k)::l,h=>(hsets ρ l h).set (rnm ρ b) (k.ren ρ)
def hdels (ρ:List (Nat×Nat)):Hp→Hp→Hp
 | [],h=>h
 | (b,_)::l,h=>(hdels ρ l h).del (rnm ρ b)
def nodupB:List Nat→Bool
 | []=>true
 | b::l => !(l.any (Nat.beq b)) && nodupB l
theorem nodupB_inj {ρ:List (Nat×Nat)}:∀ {l:List Nat} (_:nodupB (l.map (rnm ρ))=true) {b c:Nat},b∈l→c∈l→rnm ρ b=rnm ρ c→b=c
 | [],_,_,_,hb,_,_=>by cases hb
 | a::l,h,b,c,hb,hc,e=>by
  simp only [List.map_cons,nodupB,Bool.and_eq_true,Bool.not_eq_true'] at h
  have hna:∀ x∈l,rnm ρ a≠rnm ρ x:=by
   intro x hx hax
   have:(l.map (rnm ρ)).any (Nat.beq (rnm ρ a))=true:=List.any_eq_true.2 ⟨rnm ρ x,List.mem_map.2 ⟨x,hx,rfl⟩,by rw [hax]; simp⟩
   rw [h.1] at this
   cases this
  rcases List.mem_cons.1 hb with hb1 | hb1
  ·rcases List.mem_cons.1 hc with hc1 | hc1
   ·rw [hb1,hc1]
   ·rw [hb1] at e
    exact absurd e (hna c hc1)
  ·rcases List.mem_cons.1 hc with hc1 | hc1
   ·rw [hc1] at e
    exact absurd e.symm (hna b hb1)
   ·exact nodupB_inj h.2 hb1 hc1 e
theorem get_mem:∀ {h:Hp} {b:Nat} {k:Blk},h.get b=some k→(b,k)∈h
 | [],_,_,e=>by cases e
 | (c,v)::l,b,k,e=>by
  rw [Hp.get_cons] at e
  split at e
  ·rename_i hb
   cases e
   rw [hb]
   exact List.mem_cons_self
  ·exact List.mem_cons_of_mem _ (get_mem e)
theorem mem_get:∀ {h:Hp} {b:Nat} {k:Blk},nodupB (h.map Prod.fst)=true→(b,k)∈h→h.get b=some k
 | [],_,_,_,e=>by cases e
 | (c,v)::l,b,k,hn,e=>by
  simp only [List.map_cons,nodupB,Bool.and_eq_true,Bool.not_eq_true'] at hn
  rw [Hp.get_cons]
  rcases List.mem_cons.1 e with e1 | e1
  ·cases e1
   rw [if_pos rfl]
  ·split
   ·rename_i hb
    have:(l.map Prod.fst).any (Nat.beq c)=true:=List.any_eq_true.2 ⟨b,List.mem_map.2 ⟨(b,k),e1,rfl⟩,by rw [hb]; simp⟩
    rw [hn.1] at this
    cases this
   ·exact mem_get hn.2 e1
theorem get_hsets {ρ:List (Nat×Nat)}:∀ {L:Hp} {h:Hp} {c:Nat} {k:Blk},(hsets ρ L h).get c=some k→(∃ b k0,(b,k0)∈L∧c=rnm ρ b∧k=k0.ren ρ)∨(h.get c=some k∧∀ p∈L,c≠rnm ρ p.1)
 | [],h,c,k,e=>.inr ⟨e,fun p hp=>by cases hp⟩
 | (b,k1)::L,h,c,k,e=>by
  simp only [hsets] at e
  rw [Hp.get_set] at e
  split at e
  ·rename_i hc
   cases e
   exact .inl ⟨b,k1,List.mem_cons_self,hc,rfl⟩
  ·rename_i hc
   rcases get_hsets e with ⟨b2,k2,h1,h2,h3⟩ | ⟨h1,h2⟩
   ·exact .inl ⟨b2,k2,List.mem_cons_of_mem _ h1,h2,h3⟩
   ·refine .inr ⟨h1,fun p hp=>?_⟩
    rcases List.mem_cons.1 hp with rfl | hp
    ·exact hc
    ·exact h2 p hp
theorem get_hdels {ρ:List (Nat×Nat)}:∀ {L:Hp} {h:Hp} {c:Nat} {k:Blk},(hdels ρ L h).get c=some k→h.get c=some k∧∀ p∈L,c≠rnm ρ p.1
 | [],h,c,k,e=>⟨e,fun p hp=>by cases hp⟩
 | (b,k1)::L,h,c,k,e=>by
  simp only [hdels] at e
  rw [Hp.get_del] at e
  split at e
  ·cases e
  ·rename_i hc
   obtain ⟨h1,h2⟩:=get_hdels e
   refine ⟨h1,fun p hp=>?_⟩
   rcases List.mem_cons.1 hp with rfl | hp
   ·exact hc
   ·exact h2 p hp
def HFitsR (s:TS) (ρ:List (Nat×Nat)):Hp→Prop
 | []=>True
 | (b,k)::l=>s.h.get (rnm ρ b)=some (k.ren ρ)∧HFitsR s ρ l
theorem HFitsR.mem {s:TS} {ρ:List (Nat×Nat)}:∀ {L:Hp} (_:HFitsR s ρ L) {b:Nat} {k:Blk},(b,k)∈L→s.h.get (rnm ρ b)=some (k.ren ρ)
 | [],_,_,_,e=>by cases e
 | (c,v)::l,h,b,k,e=>by
  rcases List.mem_cons.1 e with e | e
  ·cases e; exact h.1
  ·exact HFitsR.mem h.2 e
def ArgsT (s:TS) (ρ:List (Nat×Nat)):List Operand→List T1→List TV→Prop
 | [],[],[]=>True
 | [],c::cs,v::vs=>TLes (.c c) (v.ren ρ)∧ArgsT s ρ [] cs vs
 | x::xs,caps,v::vs=>TLes (tev s x) (v.ren ρ)∧ArgsT s ρ xs caps vs
 | _,_,_=>False
theorem argsT_len {s:TS} {ρ:List (Nat×Nat)}:∀ {xs:List Operand} {caps:List T1} {vs:List TV},ArgsT s ρ xs caps vs→xs.length+caps.length=vs.length
 | [],[],[],_=>rfl
 | [],c::cs,v::vs,h=>by have:=argsT_len h.2; simp at this ⊢; omega
 | x::xs,caps,v::vs,h=>by have:=argsT_len h.2; simp at this ⊢; omega
 | [],[],_::_,h=>h.elim
 | [],_::_,[],h=>h.elim
 | _::_,_,[],h=>h.elim
theorem argsT_les {s:TS} {ρ:List (Nat×Nat)} {m:Nm} {h1:Heap} {n:Nat}:∀ {xs:List Operand} {caps:List T1} {vs:List TV},ArgsT s ρ xs caps vs→∀ (i:Nat) (a a':AV),(xs.map (aev (can m s h1 n))++caps.map (T1.rn m))[i]?=some a→(vs.map (TV.rn fun b=>m (rnm ρ b)))[i]?=some a'→Les a a'
 | [],[],[],_,i,a,a',h,_=>by simp at h
 | [],c::cs,v::vs,h,i,a,a',e1,e2=>by
  cases i with
  | zero =>
   simp only [List.map_nil,List.nil_append,List.map_cons,List.getElem?_cons_zero,Option.some.injEq] at e1 e2
   subst e1 e2
   rw [← TV.ren_rn']
   exact h.1 m
  | succ i=>exact argsT_les (n:=n) (h1:=h1) h.2 i a a' (by simpa using e1) (by simpa using e2)
 | x::xs,caps,v::vs,h,i,a,a',e1,e2=>by
  cases i with
  | zero =>
   simp only [List.map_cons,List.cons_append,List.getElem?_cons_zero,Option.some.injEq] at e1 e2
   subst e1 e2
   rw [← TV.ren_rn']
   exact (aev_les x).trans (h.1 m)
  | succ i=>exact argsT_les (n:=n) (h1:=h1) h.2 i a a' (by simpa using e1) (by simpa using e2)
 | [],[],_::_,h,_,_,_,_,_=>h.elim
 | [],_::_,[],h,_,_,_,_,_=>h.elim
 | _::_,_,[],h,_,_,_,_,_=>h.elim
def newNm (m m2:Nm) (ρ:List (Nat×Nat)):List Nat→Nm
 | []=>m
 | b::bs=>nset (newNm m m2 ρ bs) (rnm ρ b) (m2 b)
theorem newNm_out {m m2:Nm} {ρ:List (Nat×Nat)} {c:Nat}:∀ {bs:List Nat},(∀ b∈bs,c≠rnm ρ b)→newNm m m2 ρ bs c=m c
 | [],_=>rfl
 | b::bs,h=>by
  simp only [newNm]
  rw [nset_ne _ _ (h b List.mem_cons_self)]
  exact newNm_out fun x hx=>h x (List.mem_cons_of_mem _ hx)
theorem newNm_in {m m2:Nm} {ρ:List (Nat×Nat)}:∀ {bs:List Nat},nodupB (bs.map (rnm ρ))=true→∀ b∈bs,newNm m m2 ρ bs (rnm ρ b)=m2 b
 | [],_,b,hb=>by cases hb
 | a::bs,hn,b,hb=>by
  simp only [newNm]
  by_cases hab:rnm ρ b=rnm ρ a
  ·have:b=a:=nodupB_inj hn hb List.mem_cons_self hab
   rw [this,nset_eq]
  ·rw [nset_ne _ _ hab]
   rcases List.mem_cons.1 hb with rfl | hb
   ·exact absurd rfl hab
   ·simp only [List.map_cons,nodupB,Bool.and_eq_true] at hn
    exact newNm_in hn.2 b hb
theorem TV.newNm_no {m m2:Nm} {ρ:List (Nat×Nat)} {x:TV}:∀ {bs:List Nat},(∀ b∈bs,x.no (rnm ρ b)=true)→x.rn (newNm m m2 ρ bs)=x.rn m
 | [],_=>rfl
 | b::bs,h=>by
  simp only [newNm]
  rw [TV.rn_no (h b List.mem_cons_self)]
  exact TV.newNm_no fun y hy=>h y (List.mem_cons_of_mem _ hy)
theorem Blk.newNm_no {m m2:Nm} {ρ:List (Nat×Nat)} {x:Blk}:∀ {bs:List Nat},(∀ b∈bs,x.no (rnm ρ b)=true)→x.cells (newNm m m2 ρ bs)=x.cells m
 | [],_=>rfl
 | b::bs,h=>by
  simp only [newNm]
  rw [Blk.cells_no (h b List.mem_cons_self)]
  exact Blk.newNm_no fun y hy=>h y (List.mem_cons_of_mem _ hy)
def bsOf (ch:Hp):List Nat:=(ch.map Prod.fst).filter fun b=>Nat.blt b 2000
def freeOk (s:TS) (ρ:List (Nat×Nat)) (d:Nat) (ch ch':Hp):Bool :=
 nodupB (ch.map Prod.fst) && nodupB ((ch.map Prod.fst).map (rnm ρ)) && nodupB (ch'.map Prod.fst) && nodupB ((ch'.map Prod.fst).map (rnm ρ)) &&
 ((bsOf ch').all fun b=>Nat.blt (rnm ρ b) 2000 && lno (rnm ρ b) (ldel s.l d) && hno (rnm ρ b) (hdels ρ ch s.h)) &&
 (ch'.all fun p=>((hdels ρ ch s.h).all fun q => !(Nat.beq q.1 (rnm ρ p.1)))) && (ch'.all fun p=>p.2.inn (ch'.map Prod.fst))
theorem mem_names {h:Hp} {b:Nat} {k:Blk} (e:(b,k)∈h):b∈h.map Prod.fst:=List.mem_map.2 ⟨(b,k),e,rfl⟩
theorem nodupB_filter {ρ:List (Nat×Nat)} (p:Nat→Bool):∀ {l:List Nat},nodupB (l.map (rnm ρ))=true→nodupB ((l.filter p).map (rnm ρ))=true
 | [],_=>rfl
 | a::l,h=>by
  simp only [List.map_cons,nodupB,Bool.and_eq_true,Bool.not_eq_true'] at h
  rw [List.filter_cons]
  split
  ·simp only [List.map_cons,nodupB,Bool.and_eq_true,Bool.not_eq_true']
   refine ⟨?_,nodupB_filter p h.2⟩
   rcases hq:((l.filter p).map (rnm ρ)).any (Nat.beq (rnm ρ a)) with _ | _
   ·rfl
   ·obtain ⟨x,hx,he⟩:=List.any_eq_true.1 hq
    obtain ⟨y,hy,rfl⟩:=List.mem_map.1 hx
    have:(l.map (rnm ρ)).any (Nat.beq (rnm ρ a))=true:=List.any_eq_true.2 ⟨_,List.mem_map.2 ⟨y,(List.mem_filter.1 hy).1,rfl⟩,he⟩
    rw [h.1] at this
    cases this
  ·exact nodupB_filter p h.2
open Classical in
noncomputable def partH (ch:Hp) (mc:Nm) (h1:Heap):Heap:=fun q=>if ∃ b k,ch.get b=some k∧mc b=some q then h1 q else none
theorem partH_sub {ch:Hp} {mc:Nm} {h1:Heap}:∀ b o,partH ch mc h1 b=some o→h1 b=some o:=by
 intro b o h
 unfold partH at h
 split at h
 ·exact h
 ·cases h
section calls
variable {P:Program} {s:TS} {ty:TypeId} {pos:String} {after:Array Edge}
theorem after_call {ρ:List (Nat×Nat)} {d n:Nat} {ch ch':Hp} {r:TV} {m mc':Nm} {h1 hr:Heap} {n':Nat} (hm:HM m s.h h1) (hch:HFitsR s ρ ch) (hfree:freeOk s ρ d ch ch'=true) (hrin:r.inn (ch'.map Prod.fst)=true)
  (hpin:Pin (fun b=>m (rnm ρ b)) mc') (hmr:HM mc' ch' hr) (hdis:∀ b,hr b≠none→hdiff h1 (partH ch (fun b=>m (rnm ρ b)) h1) b=none) :
  ∃ m',Pin m m'∧Fit m' ⟨(d,r.ren ρ)::ldel s.l d,hsets ρ ch' (hdels ρ ch s.h),s.sz⟩ ((AS.mk (can m s h1 n).t ((hdiff h1 (partH ch (fun b=>m (rnm ρ b)) h1)).merge hr) n' s.sz).put (some d) (r.rn mc')):=by
 unfold freeOk at hfree
 simp only [Bool.and_eq_true] at hfree
 obtain ⟨⟨⟨⟨⟨⟨n1,n2⟩,n3⟩,n4⟩,n5⟩,n6⟩,n7⟩:=hfree
 rw [List.all_eq_true] at n5 n6 n7
 have nb:∀ b∈bsOf ch',rnm ρ b < 2000∧lno (rnm ρ b) (ldel s.l d)=true∧hno (rnm ρ b) (hdels ρ ch s.h)=true:=by
  intro b hb
  have:=n5 b hb
  simp only [Bool.and_eq_true] at this
  exact ⟨Nat.lt_of_succ_le (Nat.le_of_ble_eq_true this.1.1),this.1.2,this.2⟩
 have nout:∀ {c k},(hdels ρ ch s.h).get c=some k→∀ p∈ch',c≠rnm ρ p.1:=by
  intro c k hc p hp he
  have h2:=n6 p hp
  rw [List.all_eq_true] at h2
  have h3:=h2 (c,k) (get_mem hc)
  simp only [he] at h3
  simp at h3
 have bsnd:nodupB ((bsOf ch').map (rnm ρ))=true:=nodupB_filter _ n4
 have hin:∀ b∈ch'.map Prod.fst,newNm m mc' ρ (bsOf ch') (rnm ρ b)=mc' b:=by
  intro b hb
  by_cases h2:b < 2000
  ·exact newNm_in bsnd b (List.mem_filter.2 ⟨hb,Nat.ble_eq_true_of_le h2⟩)
  ·rw [newNm_out fun x hx he=>?_]
   ·exact (hpin b (by omega)).symm
   ·have hx2:=(List.mem_filter.1 hx).1
    have:=nodupB_inj n4 hb hx2 he
    subst this
    have hx3:=(List.mem_filter.1 hx).2
    have:=Nat.lt_of_succ_le (Nat.le_of_ble_eq_true hx3)
    omega
 have hold:∀ {c k},(hdels ρ ch s.h).get c=some k→newNm m mc' ρ (bsOf ch') c=m c:=by
  intro c k hc
  refine newNm_out fun b hb he=>?_
  obtain ⟨p,hp,rfl⟩:=List.mem_map.1 (List.mem_filter.1 hb).1
  exact nout hc p hp he
 have hnopart:∀ {c k q},(hdels ρ ch s.h).get c=some k→m c=some q→partH ch (fun b=>m (rnm ρ b)) h1 q=none:=by
  intro c k q hc hq
  unfold partH
  split
  ·rename_i hex
   obtain ⟨b,k2,h2,h3⟩:=hex
   obtain ⟨h4,h5⟩:=get_hdels hc
   have h6:=hch.mem (get_mem h2)
   have:c=rnm ρ b:=hm.inj c (rnm ρ b) q (by rw [h4]; simp) (by rw [h6]; simp) hq h3
   exact absurd this (h5 _ (get_mem h2))
  ·rfl
 refine ⟨newNm m mc' ρ (bsOf ch'),fun x hx=>newNm_out fun b hb he=>?_,rfl,⟨fun c k hk=>?_,fun c c' q hc hc' e1 e2=>?_⟩,fun u=>?_⟩
 ·have:=(nb b hb).1
  omega
 ·rcases get_hsets hk with ⟨b,k0,h2,rfl,rfl⟩ | ⟨h2,_⟩
  ·rw [hin b (mem_names h2),Blk.ren_cells hin (n7 _ h2)]
   rcases hmr.blk b k0 (mem_get n3 h2) with ⟨q,h3,h4⟩ | ⟨h3,h4⟩
   ·refine .inl ⟨q,h3,?_⟩
    show Heap.merge _ _ q=_
    unfold Heap.merge
    rw [h4]
   ·exact .inr ⟨h3,h4⟩
  ·rw [hold h2,Blk.newNm_no fun b hb=>?_]
   ·obtain ⟨h4,_⟩:=get_hdels h2
    rcases hm.blk c k h4 with ⟨q,h5,h6⟩ | h5
    ·refine .inl ⟨q,h5,?_⟩
     have h7:=hnopart h2 h5
     show Heap.merge _ _ q=_
     unfold Heap.merge
     have h8:hr q=none:=by
      rcases Option.eq_none_or_eq_some (hr q) with e | ⟨o,e⟩
      ·exact e
      ·have:=hdis q (by rw [e]; simp)
       rw [hdiff_of h7,h6] at this
       cases this
     rw [h8]
     simp only
     rw [hdiff_of h7,h6]
    ·exact .inr h5
   ·have:=(nb b hb).2.2
    unfold hno at this
    rw [List.all_eq_true] at this
    exact this (c,k) (get_mem h2)
 ·obtain ⟨k,hk⟩:=Option.ne_none_iff_exists'.1 hc
  obtain ⟨k',hk'⟩:=Option.ne_none_iff_exists'.1 hc'
  rcases get_hsets hk with ⟨b,k0,h2,rfl,rfl⟩ | ⟨h2,_⟩
  ·rw [hin b (mem_names h2)] at e1
   rcases get_hsets hk' with ⟨b',k0',h2',rfl,rfl⟩ | ⟨h2',_⟩
   ·rw [hin b' (mem_names h2')] at e2
    rw [hmr.inj b b' q (by rw [mem_get n3 h2]; simp) (by rw [mem_get n3 h2']; simp) e1 e2]
   ·rw [hold h2'] at e2
    exfalso
    rcases hmr.blk b k0 (mem_get n3 h2) with ⟨q',h3,h4⟩ | ⟨h3,_⟩
    ·rw [h3] at e1
     cases e1
     have h7:=hnopart h2' e2
     have h8:=hdis q (by rw [h4]; simp)
     obtain ⟨h9,_⟩:=get_hdels h2'
     rcases hm.blk _ _ h9 with ⟨q2,h10,h11⟩ | ⟨h10,_⟩
     ·rw [e2] at h10
      cases h10
      rw [hdiff_of h7,h11] at h8
      cases h8
     ·rw [e2] at h10; cases h10
    ·rw [h3] at e1; cases e1
  ·rw [hold h2] at e1
   rcases get_hsets hk' with ⟨b',k0',h2',rfl,rfl⟩ | ⟨h2',_⟩
   ·rw [hin b' (mem_names h2')] at e2
    exfalso
    rcases hmr.blk b' k0' (mem_get n3 h2') with ⟨q',h3,h4⟩ | ⟨h3,_⟩
    ·rw [h3] at e2
     cases e2
     have h7:=hnopart h2 e1
     have h8:=hdis q (by rw [h4]; simp)
     obtain ⟨h9,_⟩:=get_hdels h2
     rcases hm.blk _ _ h9 with ⟨q2,h10,h11⟩ | ⟨h10,_⟩
     ·rw [e1] at h10
      cases h10
      rw [hdiff_of h7,h11] at h8
      cases h8
     ·rw [e1] at h10; cases h10
    ·rw [h3] at e2; cases e2
   ·rw [hold h2'] at e2
    obtain ⟨h3,_⟩:=get_hdels h2
    obtain ⟨h3',_⟩:=get_hdels h2'
    exact hm.inj c c' q (by rw [h3]; simp) (by rw [h3']; simp) e1 e2
 ·show Les (if u=d then r.rn mc' else (s.t u).rn m) ((look TV.any ((d,r.ren ρ)::ldel s.l d) u).rn _)
  rw [look_cons]
  by_cases hu:u=d
  ·rw [if_pos hu,if_pos hu,TV.ren_rn hin hrin]
   exact .same _
  ·rw [if_neg hu,if_neg hu,look_ldel,if_neg hu]
   show Les ((s.t u).rn m) ((s.t u).rn _)
   rw [TV.newNm_no fun b hb=>?_]
   ·exact .same _
   ·have:=(nb b hb).2.1
    have h2:=look_no this u
    rw [look_ldel,if_neg hu] at h2
    exact h2
theorem d_callh {f : FuncId} {fn : Func} {x : Operand} {xs : Array Operand} {ts : Array TypeId} {caps : List T1} {cargs : List TV} {ch ch' : Hp} {r : TV} {d : Nat} (ρ : List (Nat × Nat)) (hd : dOk2 s (some d) = true) (hf : tev s x = .clo f caps) (hx0 : isConst x = false) (hfn : P.funcs[f]? = some fn) (hb : fn.body.isSome = true) (hname : (fn.name == "runtime.NumGoroutine") = false)
  (hc:AC2 P f cargs ch r ch') (hargs:ArgsT s ρ xs.toList caps cargs) (hch:HFitsR s ρ ch) (hfree:freeOk s ρ d ch ch'=true) (hrin:r.inn (ch'.map Prod.fst)=true) :
  OpD P ⟨some d,.call { callee:=.value x,args:=xs,argTypes:=ts },ty,pos,after,none⟩ s ⟨(d,r.ren ρ)::ldel s.l d,hsets ρ ch' (hdels ρ ch s.h),s.sz⟩:=by
 intro m h1 n hm
 have hcl:aev (can m s h1 n) x=.clo f (caps.map (T1.rn m)):=by rw [aev_eq hx0,hf]; rfl
 have hfree0:=hfree
 unfold freeOk at hfree0
 simp only [Bool.and_eq_true] at hfree0
 have hmc:HM (fun b=>m (rnm ρ b)) ch (partH ch (fun b=>m (rnm ρ b)) h1):=by
  refine ⟨fun b k hk=>?_,fun b b' q hb hb' e1 e2=>?_⟩
  ·have h2:=hch.mem (get_mem hk)
   rcases hm.blk _ _ h2 with ⟨q,h3,h4⟩ | ⟨h3,h4⟩
   ·refine .inl ⟨q,h3,?_⟩
    unfold partH
    rw [if_pos ⟨b,k,hk,h3⟩,h4,Blk.ren_cells']
   ·exact .inr ⟨h3,by rw [← Blk.ren_cells']; exact h4⟩
  ·obtain ⟨k,hk⟩:=Option.ne_none_iff_exists'.1 hb
   obtain ⟨k',hk'⟩:=Option.ne_none_iff_exists'.1 hb'
   have h2:=hch.mem (get_mem hk)
   have h2':=hch.mem (get_mem hk')
   have h3:=hm.inj _ _ q (by rw [h2]; simp) (by rw [h2']; simp) e1 e2
   exact nodupB_inj hfree0.1.1.1.1.1.2 (mem_names (get_mem hk)) (mem_names (get_mem hk')) h3
 have hac:=hc (fun b=>m (rnm ρ b)) _ hmc (fun q o hq=>by
  unfold partH at hq
  split at hq
  ·rename_i hex
   exact hex
  ·cases hq)
 refine OpW_call hcl hfn hb hname rfl ((hac.frameH partH_sub).arg ?_ (argsT_les hargs)) (dOk_can hd) ?_
 ·have:=argsT_len hargs
  simp only [List.length_append,List.length_map,Array.length_toList] at this ⊢
  omega
 ·rintro v h' n' ⟨hr,⟨mc',hpin,hmr,rfl⟩,rfl,hdis⟩ hn' hlt' _
  exact after_call hm hch hfree hrin hpin hmr hdis
end calls
end Go.Proofs.Ytglgdaeimfdpfaa.VM
