/- Words and rules that the proof uses. -/
import Derived.Test.YtglgdaeimfdpfaaVmCut
namespace Go.Proofs.Ytglgdaeimfdpfaa.VM
open Go Go.RowKit
section ops
variable {P:Program} {K:AS→Prop} {s:AS} {dst:Option Tmp} {ty:TypeId} {pos:String} {after:Array Edge}
theorem OpW_call {f : FuncId} {fn : Func} {x : Operand} {xs : Array Operand} {ts : Array TypeId} {caps args : List AV} {R : AV → Heap → Prop} (hf : aev s x = .clo f caps) (hfn : P.funcs[f]? = some fn) (hb : fn.body.isSome = true) (hname : (fn.name == "runtime.NumGoroutine") = false)
  (ha:xs.toList.map (aev s)++caps=args) (hc:AC P f args s.h R) (hd:dOk s dst=true)
  (hk:∀ r h' n',R r h'→s.n≤n'→(∀ b o,h' b=some o→b < n')→(∀ b,h' b≠none→s.h b≠none∨s.n≤b)→K ((AS.mk s.t h' n' s.sz).put dst r)) :
  OpW P ⟨dst,.call { callee:=.value x,args:=xs,argTypes:=ts },ty,pos,after,none⟩ K s:=by
 intro Z a w r next Q hn
 have hfv:=aev_rel r x
 rw [hf] at hfv
 obtain ⟨cv,hxe,hcl,hcr⟩:=hfv.clo_inv
 have hvals:∀ (i:Nat) (c:AV) (v:Value),args[i]?=some c→((xs.map a.eval)++cv)[i]?=some v→Rel Z w c v:=by
  intro i c v hc hv
  subst ha
  by_cases hi:i < xs.size
  ·rw [List.getElem?_append_left (by simpa using hi),List.getElem?_map] at hc
   rw [Array.getElem?_append_left (by simpa using hi),Array.getElem?_map] at hv
   have hx:xs.toList[i]?=some xs[i]:=by simp [hi]
   have hx2:xs[i]?=some xs[i]:=by simp [hi]
   rw [hx] at hc
   rw [hx2] at hv
   simp only [Option.map_some,Option.some.injEq] at hc hv
   subst hc
   subst hv
   exact aev_rel r _
  ·rw [List.getElem?_append_right (by simpa using Nat.le_of_not_lt hi)] at hc
   rw [Array.getElem?_append_right (by simpa using Nat.le_of_not_lt hi)] at hv
   simp only [List.length_map,Array.length_toList,Array.size_map] at hc hv
   exact hcr _ c v hc hv
 have hlen:args.length=((xs.map a.eval)++cv).size:=by
  subst ha
  simp [hcl]
 have hcall:=hc Z w _ r.gd hlen hvals
 have hexec:(execOp a.eval ⟨dst,.call { callee:=.value x,args:=xs,argTypes:=ts },ty,pos,after,none⟩).run P w=.ok (.enter f ((xs.map a.eval)++cv)) w:=by
  have hbn:fn.body.isNone=false:=by
   cases hb2:fn.body with
   | none=>rw [hb2] at hb; cases hb
   | some c=>rfl
  have hn1 : ¬ fn.name = "runtime.NumGoroutine" := by simpa using hname
  have hb1:¬ fn.body=none:=by
   intro e
   rw [e] at hbn
   cases hbn
  simp only [execOp,resolve,hxe,Deferred.ofValue,invoke,callFunc]
  simp [hfn,hn1,hb1,program,Sem.run]
 unfold Oper.wp
 rw [hexec]
 refine hcall.mono ?_
 rintro e w' ⟨v,rv,h',Z',rfl,hR,hrel,gd,ex⟩
 show next (a.put dst v) w'
 have hlt:∀ b o,h' b=some o→b < w'.heap.size:=fun b o hb=>gd.lt hb
 refine hn _ Z' _ _ (hk rv h' w'.heap.size hR (Nat.le_trans r.hn ex.size) hlt (fun b hb2=>?_)) (r.next ex gd (Nat.le_refl _) hlt hd hrel) ?_
 ·rcases ex.own b hb2 with h1 | h1
  ·exact .inl h1
  ·exact .inr (Nat.le_trans r.hn h1)
 ·cases dst<;>exact ex
end ops
def Heap.merge (h hr:Heap):Heap:=fun b=>match hr b with
 | some o=>some o
 | none=>h b
abbrev Heap.empty:Heap:=fun _=>none
theorem merge_good {Z Z':Nat→Prop} {h hr:Heap} {w w':World} (g:Good Z h w) (gr:Good Z' hr w') (ex:Ext Heap.empty Z w hr Z' w') (hz:∀ b,Z' b→h b=none) :
  Good Z' (h.merge hr) w'∧Ext h Z w (h.merge hr) Z' w'∧∀ b,hr b≠none→h b=none:=by
 have hdis:∀ b,hr b≠none→h b=none:=by
  intro b hb
  rcases ex.own b hb with h1 | h1
  ·exact absurd rfl h1
  ·rcases Option.eq_none_or_eq_some (h b) with e | ⟨o,e⟩
   ·exact e
   ·have:=g.lt e
    omega
 have x2:Ext h Z w h Z' w':=⟨ex.os,ex.tape,ex.output,ex.size,fun b hb _=>ex.keep b hb rfl,ex.shp,fun b hb=>.inl hb,ex.zz,fun b hb=>by
  rcases ex.zf b hb with h1 | h1 | h1
  ·exact .inl h1
  ·exact absurd rfl h1
  ·exact .inr (.inr h1)⟩
 refine ⟨⟨gr.zb,fun b o hb hzb=>?_,fun b o hb=>?_,gr.tb⟩,⟨ex.os,ex.tape,ex.output,ex.size,fun b hb _=>ex.keep b hb rfl,ex.shp,fun b hb=>?_,ex.zz,fun b hb=>?_⟩,hdis⟩
 ·unfold Heap.merge at hb
  cases hrb:hr b with
  | some q =>
   rw [hrb] at hb
   exact gr.hz b q hrb hzb
  | none =>
   rw [hrb] at hb
   have:=hz b hzb
   rw [this] at hb
   cases hb
 ·unfold Heap.merge at hb
  cases hrb:hr b with
  | some q =>
   rw [hrb] at hb
   simp only [Option.some.injEq] at hb
   subst hb
   exact gr.hb b q hrb
  | none =>
   rw [hrb] at hb
   exact (g.hb b o hb).step g x2 (ex.keep b (g.lt hb) rfl)
 ·unfold Heap.merge at hb
  cases hrb:hr b with
  | some q =>
   rcases ex.own b (by rw [hrb]; simp) with h1 | h1
   ·exact absurd rfl h1
   ·exact .inr h1
  | none =>
   rw [hrb] at hb
   exact .inl hb
 ·rcases ex.zf b hb with h1 | h1 | h1
  ·exact .inl h1
  ·exact absurd rfl h1
  ·exact .inr (.inr h1)
theorem AC.frame {P:Program} {f:FuncId} {args:List AV} {R:AV→Heap→Prop} (c:AC P f args Heap.empty R) (h:Heap) :
  AC P f args h (fun r h'=>∃ hr,R r hr∧h'=h.merge hr∧∀ b,hr b≠none→h b=none):=by
 intro Z w vs g hl hv
 refine (c Z w vs ⟨g.zb,(fun b o hb=>by cases hb),(fun b o hb=>by cases hb),g.tb⟩ hl hv).mono ?_
 rintro e w' ⟨v,r,hr,Z',rfl,hR,hrel,gr,ex⟩
 have hz:∀ b,Z' b→h b=none:=by
  intro b hb
  rcases ex.zf b hb with h1 | h1 | h1
  ·exact (g.none b h1).2
  ·exact absurd rfl h1
  ·rcases Option.eq_none_or_eq_some (h b) with e | ⟨o,e⟩
   ·exact e
   ·have:=g.lt e
    omega
 obtain ⟨g2,x2,hdis⟩:=merge_good g gr ex hz
 exact ⟨v,r,h.merge hr,Z',rfl,⟨hr,hR,rfl,hdis⟩,hrel,g2,x2⟩
inductive Lent (h:Heap):AV→AV→Prop where
 | same (a:AV):Lent h a a
 | sl (b off n z:Nat) (o:List AV) (ho:h b=some o) (hl:off+n * z≤o.length):Lent h (.sl b off n z) (.lst ((o.drop off).take (n * z)) n)
 | ptr (b off:Nat) (o:List AV) (ho:h b=some o):Lent h (.ptr b off) (.rptr o off)
 | nil:Lent h .nil (.lst [] 0)
 | clo (f:FuncId) (cs cs':List AV) (hl:cs.length=cs'.length) (hr:∀ (i:Nat) (a a':AV),cs[i]?=some a→cs'[i]?=some a'→Lent h a a'):Lent h (.clo f cs) (.clo f cs')
 | agg (cs cs':List AV) (hl:cs.length=cs'.length) (hr:∀ (i:Nat) (a a':AV),cs[i]?=some a→cs'[i]?=some a'→Lent h a a'):Lent h (.agg cs) (.agg cs')
 | tup (cs cs':List AV) (hl:cs.length=cs'.length) (hr:∀ (i:Nat) (a a':AV),cs[i]?=some a→cs'[i]?=some a'→Lent h a a'):Lent h (.tup cs) (.tup cs')
theorem Lent.rel {Z:Nat→Prop} {h:Heap} {w:World} {a a':AV} {v:Value} (l:Lent h a a') (g:Good Z h w) (r:Rel Z w a v):Rel (fun b=>Z b∨h b≠none) w a' v:=by
 have x:Ext h Z w h (fun b=>Z b∨h b≠none) w:=⟨rfl,rfl,rfl,Nat.le_refl _,fun _ _ _=>rfl,fun _ _=>rfl,fun _ hb=>.inl hb,fun _ hb=>.inl hb,fun b hb=>by
  rcases hb with h1 | h1
  ·exact .inl h1
  ·exact .inr (.inl h1)⟩
 induction l generalizing v with
 | same a=>exact r.step g x
 | nil=>cases r with | nil=>exact .lnil 0 0 none (Nat.le_refl _) (fun _=>rfl)
 | sl b off n z o ho hl =>
  cases r with
  | sl _ _ _ _ c e0 m hc hs hm =>
   obtain ⟨arr,e,lo,hi,hh,hl0,hr0,hf⟩:=(g.hb b o ho).cells hs
   have hget:∀ (i:Nat) (a:AV),((o.drop off).take (n * z))[i]?=some a→∃ u,arr[off+i]?=some u∧Rel (fun b=>Z b∨h b≠none) w a u∧u.oneCell'=true:=by
    intro i a ha
    rw [List.getElem?_take] at ha
    split at ha
    ·rw [List.getElem?_drop] at ha
     have hlt:off+i < arr.size:=Nat.lt_of_lt_of_le (List.getElem?_eq_some_iff.1 ha).1 hl0
     obtain ⟨h1,h2⟩:=hr0 _ a arr[off+i] ha (Array.getElem?_eq_getElem hlt)
     exact ⟨arr[off+i],Array.getElem?_eq_getElem hlt,h1.step g x,h2⟩
    ·cases ha
   refine .lst _ n c b off (fun i=>arr.getD (off+i) undef) hc (.inr (by rw [ho]; simp)) (fun i a ha=>?_) (fun i a ha=>?_)
   ·obtain ⟨u,h1,h2,h3⟩:=hget i a ha
    rw [Array.getD_eq_getD_getElem?,h1]
    exact ⟨by simp [World.cell?,hh,h1],h3⟩
   ·obtain ⟨u,h1,h2,h3⟩:=hget i a ha
    rw [Array.getD_eq_getD_getElem?,h1]
    exact h2
 | ptr b off o ho =>
  obtain ⟨e0,m0,hs0,rfl⟩:=r.ptr_inv
  obtain ⟨arr,e,lo,hi,hh,hl0,hr0,hf⟩:=(g.hb b o ho).cells hs0
  have hget:∀ (i:Nat) (a:AV),o[i]?=some a→∃ u,arr[i]?=some u∧Rel (fun b=>Z b∨h b≠none) w a u∧u.oneCell'=true:=by
   intro i a ha
   have hlt:i < arr.size:=Nat.lt_of_lt_of_le (List.getElem?_eq_some_iff.1 ha).1 hl0
   obtain ⟨h1,h2⟩:=hr0 _ a arr[i] ha (Array.getElem?_eq_getElem hlt)
   exact ⟨arr[i],Array.getElem?_eq_getElem hlt,h1.step g x,h2⟩
  have hrp:=Rel.rptr (Z:=fun b=>Z b∨h b≠none) (w:=w) o off b 0 (fun i=>arr.getD i undef) (.inr (by rw [ho]; simp)) (fun i a ha=>by
    obtain ⟨u,h1,h2,h3⟩:=hget i a ha
    rw [Array.getD_eq_getD_getElem?,h1,Nat.zero_add]
    exact ⟨by simp [World.cell?,hh,h1],h3⟩) (fun i a ha=>by
    obtain ⟨u,h1,h2,h3⟩:=hget i a ha
    rw [Array.getD_eq_getD_getElem?,h1]
    exact h2)
  rw [Nat.zero_add] at hrp
  exact hrp
 | clo f cs cs' hl _ ih =>
  cases r with
  | clo _ _ vs hvl hvr =>
   refine .clo f cs' vs (by omega) (fun i a' v ha' hv=>?_)
   have hlt:i < cs.length:=by rw [hl]; exact (List.getElem?_eq_some_iff.1 ha').1
   exact ih i _ a' (List.getElem?_eq_getElem hlt) ha' (hvr i _ v (List.getElem?_eq_getElem hlt) hv)
 | agg cs cs' hl _ ih =>
  cases r with
  | agg _ vs hvl h1 hvr =>
   refine .agg cs' vs (by omega) h1 (fun i a' v ha' hv=>?_)
   have hlt:i < cs.length:=by rw [hl]; exact (List.getElem?_eq_some_iff.1 ha').1
   exact ih i _ a' (List.getElem?_eq_getElem hlt) ha' (hvr i _ v (List.getElem?_eq_getElem hlt) hv)
 | tup cs cs' hl _ ih =>
  cases r with
  | tup _ vs hvl hvr =>
   refine .tup cs' vs (by omega) (fun i a' v ha' hv=>?_)
   have hlt:i < cs.length:=by rw [hl]; exact (List.getElem?_eq_some_iff.1 ha').1
   exact ih i _ a' (List.getElem?_eq_getElem hlt) ha' (hvr i _ v (List.getElem?_eq_getElem hlt) hv)
theorem SR.pub {Z:Nat→Prop} {s:AS} {a:Act} {w:World} {b:Nat} {o:List AV} (r:SR Z s a w) (hb:s.h b=some o) (t:Nat→AV) (ht:∀ u,t u=s.t u∨Lent s.h (s.t u) (t u)∧(∃ off n z,s.t u=.sl b off n z)∨∃ off,s.t u=.ptr b off∧t u=.rptr o off) :
  SR (fun k=>Z k∨k=b) ⟨t,s.h.set b none,s.n,s.sz⟩ a w∧Ext s.h Z w (s.h.set b none) (fun k=>Z k∨k=b) w:=by
 have x:Ext s.h Z w (s.h.set b none) (fun k=>Z k∨k=b) w:=⟨rfl,rfl,rfl,Nat.le_refl _,fun _ _ _=>rfl,fun _ _=>rfl,fun k hk=>by
   left
   intro hn
   apply hk
   by_cases hkb:k=b
   ·rw [hkb,Heap.set_eq]
   ·rw [Heap.set_ne _ _ _ _ hkb]; exact hn,fun _ hz=>.inl hz,fun k hk=>by
   rcases hk with h1 | h1
   ·exact .inl h1
   ·exact .inr (.inl (by rw [h1,hb]; simp))⟩
 have gd:Good (fun k=>Z k∨k=b) (s.h.set b none) w:=by
  refine ⟨fun k hk=>?_,fun k q hk hz=>?_,fun k q hk=>?_,r.gd.tb.mono (fun _ h=>.inl h)⟩
  ·rcases hk with h1 | h1
   ·exact r.gd.zb k h1
   ·rw [h1]; exact r.gd.lt hb
  ·by_cases hkb:k=b
   ·rw [hkb,Heap.set_eq] at hk; cases hk
   ·rw [Heap.set_ne _ _ _ _ hkb] at hk
    rcases hz with h1 | h1
    ·exact r.gd.hz k q hk h1
    ·exact hkb h1
  ·by_cases hkb:k=b
   ·rw [hkb,Heap.set_eq] at hk; cases hk
   ·rw [Heap.set_ne _ _ _ _ hkb] at hk
    exact (r.gd.hb k q hk).step r.gd x rfl
 have sub:∀ {y:AV} {v:Value} {off n z:Nat},Lent s.h (.sl b off n z) y→Rel Z w (.sl b off n z) v→Rel (fun k=>Z k∨k=b) w y v:=by
  intro y v off n z hl hr
  cases hl with
  | same=>exact hr.step r.gd x
  | sl _ _ _ _ o2 ho2 hl2 =>
   cases hr with
   | sl _ _ _ _ c e0 m hc hs hm =>
    obtain ⟨arr,e,lo,hi,hh,hl0,hr0,hf⟩:=(r.gd.hb b o2 ho2).cells hs
    have hget:∀ (i:Nat) (a:AV),((o2.drop off).take (n * z))[i]?=some a→∃ u,arr[off+i]?=some u∧Rel (fun k=>Z k∨k=b) w a u∧u.oneCell'=true:=by
     intro i a ha
     rw [List.getElem?_take] at ha
     split at ha
     ·rw [List.getElem?_drop] at ha
      have hlt:off+i < arr.size:=Nat.lt_of_lt_of_le (List.getElem?_eq_some_iff.1 ha).1 hl0
      obtain ⟨h1,h2⟩:=hr0 _ a arr[off+i] ha (Array.getElem?_eq_getElem hlt)
      exact ⟨arr[off+i],Array.getElem?_eq_getElem hlt,h1.step r.gd x,h2⟩
     ·cases ha
    refine .lst _ n c b off (fun i=>arr.getD (off+i) undef) hc (.inr rfl) (fun i a ha=>?_) (fun i a ha=>?_)
    ·obtain ⟨u,h1,h2,h3⟩:=hget i a ha
     rw [Array.getD_eq_getD_getElem?,h1]
     exact ⟨by simp [World.cell?,hh,h1],h3⟩
    ·obtain ⟨u,h1,h2,h3⟩:=hget i a ha
     rw [Array.getD_eq_getD_getElem?,h1]
     exact h2
 refine ⟨⟨fun u=>?_,r.ts,r.df,gd,r.hn,fun k q hk=>?_⟩,x⟩
 ·have hu:=r.tm u
  rcases ht u with h1 | ⟨h1,off,n,z,h2⟩ | ⟨off,h1,h2⟩
  ·show Rel _ w (t u) _
   rw [h1]
   exact hu.step r.gd x
  ·rw [h2] at h1 hu
   exact sub h1 hu
  ·show Rel _ w (t u) _
   rw [h2]
   rw [h1] at hu
   generalize a.tmps.getD u undef=v at hu
   obtain ⟨e0,m0,hs0,rfl⟩:=hu.ptr_inv
   obtain ⟨arr,e,lo,hi,hh,hl0,hr0,hf⟩:=(r.gd.hb b o hb).cells hs0
   have hget:∀ (i:Nat) (a:AV),o[i]?=some a→∃ u,arr[i]?=some u∧Rel (fun k=>Z k∨k=b) w a u∧u.oneCell'=true:=by
    intro i a ha
    have hlt:i < arr.size:=Nat.lt_of_lt_of_le (List.getElem?_eq_some_iff.1 ha).1 hl0
    obtain ⟨h1,h2⟩:=hr0 _ a arr[i] ha (Array.getElem?_eq_getElem hlt)
    exact ⟨arr[i],Array.getElem?_eq_getElem hlt,h1.step r.gd x,h2⟩
   have hrp:=Rel.rptr (Z:=fun k=>Z k∨k=b) (w:=w) o off b 0 (fun i=>arr.getD i undef) (.inr rfl) (fun i a ha=>by
     obtain ⟨u,h1,h2,h3⟩:=hget i a ha
     rw [Array.getD_eq_getD_getElem?,h1,Nat.zero_add]
     exact ⟨by simp [World.cell?,hh,h1],h3⟩) (fun i a ha=>by
     obtain ⟨u,h1,h2,h3⟩:=hget i a ha
     rw [Array.getD_eq_getD_getElem?,h1]
     exact h2)
   rw [Nat.zero_add] at hrp
   exact hrp
 ·have hk2:s.h.set b none k=some q:=hk
  by_cases hkb:k=b
  ·rw [hkb,Heap.set_eq] at hk2; cases hk2
  ·rw [Heap.set_ne _ _ _ _ hkb] at hk2
   exact r.hl k q hk2
end Go.Proofs.Ytglgdaeimfdpfaa.VM
