/- Words and rules that the proof uses. -/
import Derived.Test.YtglgdaeimfdpfaaVtWrap
namespace Go.Proofs.Ytglgdaeimfdpfaa.VM
open Go Go.RowKit
def lput (v:TV):List Nat→List (Nat×TV)→List (Nat×TV)
 | [],l=>l
 | d::ds,l=>(d,v)::lput v ds l
theorem look_lput (v:TV):∀ (ds:List Nat) (l:List (Nat×TV)) (u:Nat),look TV.any (lput v ds l) u=if u∈ds then v else look TV.any l u
 | [],l,u=>by simp [lput]
 | d::ds,l,u=>by
  simp only [lput]
  rw [look_cons,look_lput v ds l u]
  by_cases h:u=d
  ·subst h; simp
  ·simp [h]
def TAll (s:TS) (v:TV):List Nat→Prop
 | []=>True
 | d::ds=>s.t d=v∧TAll s v ds
theorem TAll.get {s:TS} {v:TV}:∀ {ds:List Nat},TAll s v ds→∀ d∈ds,s.t d=v
 | _::_,h,d,hd=>by
  rcases List.mem_cons.1 hd with rfl | h2
  ·exact h.1
  ·exact TAll.get h.2 d h2
theorem Gho_pubs {s:TS} {b n z:Nat} {cs:List AV} (ds:List Nat) (hx:TAll s (.c (.own b n z)) ds) (hb:s.h.get b=some (.pure cs)) (hcl:cs.length=n * z) (hz:0 < z):Gho s ⟨lput (.c (.p (.lst cs n))) ds s.l,s.h.del b,s.sz⟩:=by
 intro m h1 n' hm Z a w r
 rcases hm.blk b _ hb with ⟨rb,hr,hh⟩ | ⟨hr,hc⟩
 ·have hh1:(can m s h1 n').h rb=some cs:=hh
  have hl:Lent (can m s h1 n').h (.sl rb 0 n z) (.lst cs n):=by
   have:=Lent.sl (h:=(can m s h1 n').h) rb 0 n z cs hh1 (by omega)
   rwa [List.drop_zero,← hcl,List.take_length] at this
  have hslot:∀ u,u∈ds→(can m s h1 n').t u=.sl rb 0 n z:=by
   intro u hu
   show (s.t u).rn m=_
   rw [hx.get u hu]
   simp only [TV.rn,T1.rn,hr]
  obtain ⟨r2,x2⟩:=r.pub hh1 (fun u=>if u∈ds then .lst cs n else (can m s h1 n').t u) (fun u=>by
   by_cases hu:u∈ds
   ·right; left
    simp only [hu,if_true]
    rw [hslot u hu]
    exact ⟨hl,0,n,z,rfl⟩
   ·left; simp only [hu,if_false])
  refine ⟨m,_,_,.refl m,⟨rfl,?_,fun u=>?_⟩,r2,x2⟩
  ·refine hm.drop hb hr _ (fun q hq=>?_)
   show h1.set rb none q=_
   exact Heap.set_ne _ _ _ _ hq
  ·show Les (if u∈ds then AV.lst cs n else (s.t u).rn m) ((look TV.any (lput _ ds s.l) u).rn m)
   rw [look_lput]
   by_cases hu:u∈ds
   ·rw [if_pos hu,if_pos hu]; exact .same _
   ·rw [if_neg hu,if_neg hu]; exact .same _
 ·simp only [Blk.cells] at hc
  subst hc
  have hn:n=0:=by
   rcases Nat.eq_zero_or_pos n with h0 | h0
   ·exact h0
   ·have:=Nat.mul_pos h0 hz
    simp at hcl
    omega
  subst hn
  refine ⟨m,can m s h1 n',Z,.refl m,⟨rfl,⟨fun c q hq=>?_,fun c c' q hc hc'=>?_⟩,fun u=>?_⟩,r,Ext.refl _ _ _⟩
  ·rw [Hp.get_del] at hq
   split at hq
   ·cases hq
   ·exact hm.blk c q hq
  ·rw [Hp.get_del] at hc hc'
   split at hc
   ·exact absurd rfl hc
   ·split at hc'
    ·exact absurd rfl hc'
    ·exact hm.inj c c' q hc hc'
  ·show Les ((s.t u).rn m) ((look TV.any (lput _ ds s.l) u).rn m)
   rw [look_lput]
   by_cases hu:u∈ds
   ·rw [if_pos hu,hx.get u hu]
    simp only [TV.rn,T1.rn,hr]
    exact .nil
   ·rw [if_neg hu]
    exact .same _
section ops
variable {P:Program} {s:TS} {dst:Option Tmp} {ty:TypeId} {pos:String} {after:Array Edge}
end ops
section calls
variable {P:Program} {s:TS} {dst:Option Tmp} {ty:TypeId} {pos:String} {after:Array Edge}
def ArgsAre (s:TS):List Operand→List AV→Prop
 | [],[]=>True
 | x::xs,a::l=>tev s x=.c (.p a)∧ArgsAre s xs l
 | _,_=>False
theorem args_get {s:TS}:∀ {xs:List Operand} {l:List AV},ArgsAre s xs l→l.length=xs.length∧∀ (i:Nat) (x:Operand),xs[i]?=some x→∃ a,l[i]?=some a∧tev s x=.c (.p a)
 | [],[],_=>⟨rfl,fun i x h=>by simp at h⟩
 | [],_::_,h=>h.elim
 | _::_,[],h=>h.elim
 | x::xs,a::l,h=>by
  obtain ⟨h1,h2⟩:=args_get h.2
  refine ⟨by simp [h1],fun i y hy=>?_⟩
  cases i with
  | zero=>simp at hy; subst hy; exact ⟨a,rfl,h.1⟩
  | succ i=>exact h2 i y (by simpa using hy)
theorem p_callp {f : FuncId} {fn : Func} {x : Operand} {xs : Array Operand} {ts : Array TypeId} {args : List AV} {r : AV} (hd : dOk2 s dst = true) (hf : tev s x = .clo f []) (hx0 : isConst x = false) (hfn : P.funcs[f]? = some fn) (hb : fn.body.isSome = true) (hname : (fn.name == "runtime.NumGoroutine") = false)
  (hc:ACp P f args r) (ha:ArgsAre s xs.toList args) :
  PureD P ⟨dst,.call { callee:=.value x,args:=xs,argTypes:=ts },ty,pos,after,none⟩ s (.c (.p r)):=by
 obtain ⟨h1,h2⟩:=args_get ha
 exact p_call (caps:=[]) hd hf hx0 hfn hb hname h2 (by simpa using h1) (by rw [List.append_nil]; exact hc)
end calls
section quo
variable {P:Program} {s:TS} {dst:Option Tmp} {ty:TypeId} {pos:String} {after:Array Edge}
end quo
theorem OpD_gho {P:Program} {o:Oper} {s s1 s':TS} (g:Gho s s1) (h:OpD P o s1 s'):OpD P o s s':=by
 intro m h1 n hm Z a w r next Q hn
 obtain ⟨m1,q,Z1,pn,f,r1,x1⟩:=g m h1 n hm Z a w r
 have r2:SR Z1 (can m1 s1 q.h q.n) a w:=⟨fun u=>f.tm u _ _ _ (r1.tm u),by rw [r1.ts,f.sz]; rfl,r1.df,r1.gd,r1.hn,r1.hl⟩
 exact h m1 q.h q.n f.hm Z1 a w r2 next Q fun s2 Z2 a2 w2 ⟨m2,pn2,f2⟩ r3 x2=>hn s2 Z2 a2 w2 ⟨m2,pn.trans pn2,f2⟩ r3 (x1.trans x2)
theorem AW2_ghoQ {P:Program} {c:Code} {Q:Go.Exit→TS→Prop} {s:TS} (h:AW2 P c (fun e s1=>∃ s2,Gho s1 s2∧Q e s2) s):AW2 P c Q s:=by
 intro m h1 n hm Z a w r
 refine wp_mono (h m h1 n hm Z a w r) fun _ _ _ ⟨s1',Z',⟨s3,m',⟨s2,g,q⟩,pn,f⟩,r',x⟩=>?_
 have r2:SR Z' (can m' s3 s1'.h s1'.n) _ _:=⟨fun u=>f.tm u _ _ _ (r'.tm u),by rw [r'.ts,f.sz]; rfl,r'.df,r'.gd,r'.hn,r'.hl⟩
 obtain ⟨m2,s2',Z2,pn2,f2,r3,x2⟩:=g m' s1'.h s1'.n f.hm Z' _ _ r2
 exact ⟨s2',Z2,⟨s2,m2,q,pn.trans pn2,f2⟩,r3,x.trans x2⟩
theorem t_gho {P:Program} {ops:Array Oper} {K:TS→Prop} {s s2:TS} (g:Gho s s2) (h:K s2):TailD P ops (fun s1=>∃ s2,Gho s1 s2∧K s2) [] s:=⟨s2,g,h⟩
end Go.Proofs.Ytglgdaeimfdpfaa.VM
