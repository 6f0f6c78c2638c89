/- Words and rules that the proof uses. -/
import Derived.Test.YthnkbagmaljjjaaGreatDoorVtWrap
namespace Go.Proofs.YthnkbagmaljjjaaGreatDoor.VM
open Go Go.RowKit
def T1.re (b c:Nat):T1→T1
 | .p x=>.p x
 | .own k n z=>.own (if Nat.beq k b then c else k) n z
 | .sl k o n z=>.sl (if Nat.beq k b then c else k) o n z
 | .ptr k o=>.ptr (if Nat.beq k b then c else k) o
 | .mref k=>.mref (if Nat.beq k b then c else k)
def TV.re (b c:Nat):TV→TV
 | .c x=>.c (x.re b c)
 | .tup vs=>.tup (vs.map (T1.re b c))
 | .agg vs=>.agg (vs.map (T1.re b c))
 | .clo f vs=>.clo f (vs.map (T1.re b c))
def Blk.re (b c:Nat):Blk→Blk
 | .pure cs=>.pure cs
 | .mix cs=>.mix (cs.map (T1.re b c))
def lre (b c:Nat):List (Nat×TV)→List (Nat×TV)
 | []=>[]
 | (k,v)::l=>(k,v.re b c)::lre b c l
def hre (b c:Nat):Hp→Hp
 | []=>[]
 | (k,v)::l=>(if Nat.beq k b then c else k,v.re b c)::hre b c l
theorem T1.rn_re {m m':Nm} {b c:Nat} (hc:m' c=m b) (ho:∀ k,k≠b→k≠c→m' k=m k) {x:T1} (h:x.no c=true):(x.re b c).rn m'=x.rn m:=by
 have key:∀ k:Nat,(!(Nat.beq k c))=true→m' (if Nat.beq k b then c else k)=m k:=by
  intro k hk
  have hkc:k≠c:=by rintro rfl; simp at hk
  by_cases hkb:k=b
  ·subst hkb; simp [hc]
  ·have:Nat.beq k b=false:=Bool.eq_false_iff.2 fun e=>hkb (Nat.eq_of_beq_eq_true e)
   rw [this]
   exact ho k hkb hkc
 cases x with
 | p x=>rfl
 | own k n z=>simp only [T1.re,T1.rn,key k h]
 | sl k o n z=>simp only [T1.re,T1.rn,key k h]
 | ptr k o=>simp only [T1.re,T1.rn,key k h]
 | mref k=>simp only [T1.re,T1.rn,key k h]
theorem map_re {m m':Nm} {b c:Nat} (hc:m' c=m b) (ho:∀ k,k≠b→k≠c→m' k=m k) {l:List T1} (h:l.all (T1.no c)=true):(l.map (T1.re b c)).map (T1.rn m')=l.map (T1.rn m):=by
 rw [List.map_map]
 rw [List.all_eq_true] at h
 exact List.map_congr_left fun x hx=>T1.rn_re hc ho (h x hx)
theorem TV.rn_re {m m':Nm} {b c:Nat} (hc:m' c=m b) (ho:∀ k,k≠b→k≠c→m' k=m k) {v:TV} (h:v.no c=true):(v.re b c).rn m'=v.rn m:=by
 cases v with
 | c x=>exact T1.rn_re hc ho h
 | tup vs=>simp only [TV.re,TV.rn,map_re hc ho h]
 | agg vs=>simp only [TV.re,TV.rn,map_re hc ho h]
 | clo f vs=>simp only [TV.re,TV.rn,map_re hc ho h]
theorem Blk.cells_re {m m':Nm} {b c:Nat} (hc:m' c=m b) (ho:∀ k,k≠b→k≠c→m' k=m k) {k:Blk} (h:k.no c=true):(k.re b c).cells m'=k.cells m:=by
 cases k with
 | pure cs=>rfl
 | mix cs=>exact map_re hc ho h
theorem look_lre {b c:Nat}:∀ (l:List (Nat×TV)) (u:Nat),look TV.any (lre b c l) u=(look TV.any l u).re b c
 | [],u=>rfl
 | (k,v)::l,u=>by
  simp only [lre]
  rw [look_cons,look_cons]
  split
  ·rfl
  ·exact look_lre l u
theorem get_hre {b c:Nat}:∀ {h:Hp} (_:h.get c=none) (k:Nat) (q:Blk),(hre b c h).get k=some q→∃ k0 q0,h.get k0=some q0∧q=q0.re b c∧k=(if k0=b then c else k0)
 | [],_,k,q,hq=>by cases hq
 | (j,v)::l,hn,k,q,hq=>by
  rw [Hp.get_cons] at hn
  have hjc:c≠j:=by
   intro e
   rw [if_pos e] at hn
   cases hn
  rw [if_neg hjc] at hn
  simp only [hre] at hq
  rw [Hp.get_cons] at hq
  have hj:(if Nat.beq j b then c else j)=(if j=b then c else j):=by
   by_cases hjb:j=b
   ·subst hjb; simp
   ·have:Nat.beq j b=false:=Bool.eq_false_iff.2 fun e=>hjb (Nat.eq_of_beq_eq_true e)
    rw [this,if_neg hjb]; rfl
  rw [hj] at hq
  by_cases hk:k=(if j=b then c else j)
  ·rw [if_pos hk] at hq
   cases hq
   exact ⟨j,v,by rw [Hp.get_cons,if_pos rfl],rfl,hk⟩
  ·rw [if_neg hk] at hq
   obtain ⟨k0,q0,h1,h2,h3⟩:=get_hre hn k q hq
   refine ⟨k0,q0,?_,h2,h3⟩
   rw [Hp.get_cons]
   have:k0≠j:=by
    rintro rfl
    exact hk h3
   rw [if_neg this]
   exact h1
theorem Gho_ren {s:TS} (b c:Nat) (hc2:Nat.blt c 2000=true) (hb2:Nat.blt b 2000=true) (hl:lno c s.l=true) (hh:hno c s.h=true) (hg:s.h.get c=none):Gho s ⟨lre b c s.l,hre b c s.h,s.sz⟩:=by
 have hc3:=Nat.lt_of_succ_le (Nat.le_of_ble_eq_true hc2)
 have hb3:=Nat.lt_of_succ_le (Nat.le_of_ble_eq_true hb2)
 refine Gho_same rfl fun m h1 hm=>?_
 have e1:nset m c (m b) c=m b:=nset_eq _ _ _
 have e2:∀ k,k≠b→k≠c→nset m c (m b) k=m k:=fun k _ hk=>nset_ne _ _ hk
 refine ⟨nset m c (m b),pin_set hc3,⟨fun k q hq=>?_,fun k k' r hk hk' f1 f2=>?_⟩,fun u=>?_⟩
 ·obtain ⟨k0,q0,h2,rfl,rfl⟩:=get_hre hg k q hq
  have h3:=hp_no hh k0 q0 h2
  have hk0c:k0≠c:=by rintro rfl; rw [hg] at h2; cases h2
  have hmk:nset m c (m b) (if k0=b then c else k0)=m k0:=by
   by_cases hkb:k0=b
   ·rw [if_pos hkb,e1,hkb]
   ·rw [if_neg hkb]; exact nset_ne _ _ hk0c
  rw [hmk,Blk.cells_re e1 e2 h3]
  exact hm.blk k0 q0 h2
 ·obtain ⟨q,hq⟩:=Option.ne_none_iff_exists'.1 hk
  obtain ⟨q',hq'⟩:=Option.ne_none_iff_exists'.1 hk'
  obtain ⟨k0,q0,h2,_,rfl⟩:=get_hre hg k q hq
  obtain ⟨k1,q1,h3,_,rfl⟩:=get_hre hg k' q' hq'
  have fix:∀ k0 q0,s.h.get k0=some q0→nset m c (m b) (if k0=b then c else k0)=m k0:=by
   intro k0 q0 h2
   have hk0c:k0≠c:=by rintro rfl; rw [hg] at h2; cases h2
   by_cases hkb:k0=b
   ·rw [if_pos hkb,e1,hkb]
   ·rw [if_neg hkb]; exact nset_ne _ _ hk0c
  rw [fix k0 q0 h2] at f1
  rw [fix k1 q1 h3] at f2
  rw [hm.inj k0 k1 r (by rw [h2]; simp) (by rw [h3]; simp) f1 f2]
 ·show Les ((s.t u).rn m) ((look TV.any (lre b c s.l) u).rn _)
  rw [look_lre,TV.rn_re e1 e2 (look_no hl u)]
  exact .same _
def lput (v:TV):List Nat→List (Nat×TV)→List (Nat×TV)
 | [],l=>l
 | d::ds,l=>(d,v)::lput v ds l
theorem look_lput (v:TV):∀ (ds:List Nat) (l:List (Nat×TV)) (u:Nat),look TV.any (lput v ds l) u=if u∈ds then v else look TV.any l u
 | [],l,u=>by simp [lput]
 | d::ds,l,u=>by
  simp only [lput]
  rw [look_cons,look_lput v ds l u]
  by_cases h:u=d
  ·subst h; simp
  ·simp [h]
def TAll (s:TS) (v:TV):List Nat→Prop
 | []=>True
 | d::ds=>s.t d=v∧TAll s v ds
theorem TAll.get {s:TS} {v:TV}:∀ {ds:List Nat},TAll s v ds→∀ d∈ds,s.t d=v
 | _::_,h,d,hd=>by
  rcases List.mem_cons.1 hd with rfl | h2
  ·exact h.1
  ·exact TAll.get h.2 d h2
theorem Gho_pubs {s:TS} {b n z:Nat} {cs:List AV} (ds:List Nat) (hx:TAll s (.c (.own b n z)) ds) (hb:s.h.get b=some (.pure cs)) (hcl:cs.length=n * z) (hz:0 < z):Gho s ⟨lput (.c (.p (.lst cs n))) ds s.l,s.h.del b,s.sz⟩:=by
 intro m h1 n' hm Z a w r
 rcases hm.blk b _ hb with ⟨rb,hr,hh⟩ | ⟨hr,hc⟩
 ·have hh1:(can m s h1 n').h rb=some cs:=hh
  have hl:Lent (can m s h1 n').h (.sl rb 0 n z) (.lst cs n):=by
   have:=Lent.sl (h:=(can m s h1 n').h) rb 0 n z cs hh1 (by omega)
   rwa [List.drop_zero,← hcl,List.take_length] at this
  have hslot:∀ u,u∈ds→(can m s h1 n').t u=.sl rb 0 n z:=by
   intro u hu
   show (s.t u).rn m=_
   rw [hx.get u hu]
   simp only [TV.rn,T1.rn,hr]
  obtain ⟨r2,x2⟩:=r.pub hh1 (fun u=>if u∈ds then .lst cs n else (can m s h1 n').t u) (fun u=>by
   by_cases hu:u∈ds
   ·right; left
    simp only [hu,if_true]
    rw [hslot u hu]
    exact ⟨hl,0,n,z,rfl⟩
   ·left; simp only [hu,if_false])
  refine ⟨m,_,_,.refl m,⟨rfl,?_,fun u=>?_⟩,r2,x2⟩
  ·refine hm.drop hb hr _ (fun q hq=>?_)
   show h1.set rb none q=_
   exact Heap.set_ne _ _ _ _ hq
  ·show Les (if u∈ds then AV.lst cs n else (s.t u).rn m) ((look TV.any (lput _ ds s.l) u).rn m)
   rw [look_lput]
   by_cases hu:u∈ds
   ·rw [if_pos hu,if_pos hu]; exact .same _
   ·rw [if_neg hu,if_neg hu]; exact .same _
 ·simp only [Blk.cells] at hc
  subst hc
  have hn:n=0:=by
   rcases Nat.eq_zero_or_pos n with h0 | h0
   ·exact h0
   ·have:=Nat.mul_pos h0 hz
    simp at hcl
    omega
  subst hn
  refine ⟨m,can m s h1 n',Z,.refl m,⟨rfl,⟨fun c q hq=>?_,fun c c' q hc hc'=>?_⟩,fun u=>?_⟩,r,Ext.refl _ _ _⟩
  ·rw [Hp.get_del] at hq
   split at hq
   ·cases hq
   ·exact hm.blk c q hq
  ·rw [Hp.get_del] at hc hc'
   split at hc
   ·exact absurd rfl hc
   ·split at hc'
    ·exact absurd rfl hc'
    ·exact hm.inj c c' q hc hc'
  ·show Les ((s.t u).rn m) ((look TV.any (lput _ ds s.l) u).rn m)
   rw [look_lput]
   by_cases hu:u∈ds
   ·rw [if_pos hu,hx.get u hu]
    simp only [TV.rn,T1.rn,hr]
    exact .nil
   ·rw [if_neg hu]
    exact .same _
section ops
variable {P:Program} {s:TS} {dst:Option Tmp} {ty:TypeId} {pos:String} {after:Array Edge}
theorem p_asgn (hd:dOk2 s dst=true):PureD P ⟨dst,.assign (.const (.slice none 0 0)),ty,pos,after,none⟩ s (.c (.p .nil)) :=
 PureD_same fun m h1 n hm K hk=>OpW_assign (dOk_can hd) (hk _ (.same _))
end ops
section calls
variable {P:Program} {s:TS} {dst:Option Tmp} {ty:TypeId} {pos:String} {after:Array Edge}
def ArgsAre (s:TS):List Operand→List AV→Prop
 | [],[]=>True
 | x::xs,a::l=>tev s x=.c (.p a)∧ArgsAre s xs l
 | _,_=>False
theorem args_get {s:TS}:∀ {xs:List Operand} {l:List AV},ArgsAre s xs l→l.length=xs.length∧∀ (i:Nat) (x:Operand),xs[i]?=some x→∃ a,l[i]?=some a∧tev s x=.c (.p a)
 | [],[],_=>⟨rfl,fun i x h=>by simp at h⟩
 | [],_::_,h=>h.elim
 | _::_,[],h=>h.elim
 | x::xs,a::l,h=>by
  obtain ⟨h1,h2⟩:=args_get h.2
  refine ⟨by simp [h1],fun i y hy=>?_⟩
  cases i with
  | zero=>simp at hy; subst hy; exact ⟨a,rfl,h.1⟩
  | succ i=>exact h2 i y (by simpa using hy)
theorem p_callp {f : FuncId} {fn : Func} {x : Operand} {xs : Array Operand} {ts : Array TypeId} {args : List AV} {r : AV} (hd : dOk2 s dst = true) (hf : tev s x = .clo f []) (hx0 : isConst x = false) (hfn : P.funcs[f]? = some fn) (hb : fn.body.isSome = true) (hname : (fn.name == "runtime.NumGoroutine") = false)
  (hc:ACp P f args r) (ha:ArgsAre s xs.toList args) :
  PureD P ⟨dst,.call { callee:=.value x,args:=xs,argTypes:=ts },ty,pos,after,none⟩ s (.c (.p r)):=by
 obtain ⟨h1,h2⟩:=args_get ha
 exact p_call (caps:=[]) hd hf hx0 hfn hb hname h2 (by simpa using h1) (by rw [List.append_nil]; exact hc)
end calls
section quo
variable {P:Program} {s:TS} {dst:Option Tmp} {ty:TypeId} {pos:String} {after:Array Edge}
theorem p_iquo {t yt:TypeId} {x y:Operand} {k:IntKind} {a b:Int} (hd:dOk2 s dst=true) (hx:tev s x=.c (.p (.sc (.int k a)))) (hy:tev s y=.c (.p (.sc (.int k b)))) (hb:b≠0):PureD P ⟨dst,.binOp .quo t x y yt,ty,pos,after,none⟩ s (.c (.p (.sc (.int k (k.wrap (a.tdiv b)))))) :=
 p_bin hd hx hy (if_neg hb)
end quo
theorem ne_true {b:Bool} (h:b=false):¬ b=true:=by subst h; decide
theorem bdec (e:Bool):e=decide (e=true):=by cases e<;>rfl
theorem bfalse {e:Bool} (h:¬ e=true):e=false:=by cases e<;>simp_all
theorem AW2_ghoQ {P:Program} {c:Code} {Q:Go.Exit→TS→Prop} {s:TS} (h:AW2 P c (fun e s1=>∃ s2,Gho s1 s2∧Q e s2) s):AW2 P c Q s:=by
 intro m h1 n hm Z a w r
 refine wp_mono (h m h1 n hm Z a w r) fun _ _ _ ⟨s1',Z',⟨s3,m',⟨s2,g,q⟩,pn,f⟩,r',x⟩=>?_
 have r2:SR Z' (can m' s3 s1'.h s1'.n) _ _:=⟨fun u=>f.tm u _ _ _ (r'.tm u),by rw [r'.ts,f.sz]; rfl,r'.df,r'.gd,r'.hn,r'.hl⟩
 obtain ⟨m2,s2',Z2,pn2,f2,r3,x2⟩:=g m' s1'.h s1'.n f.hm Z' _ _ r2
 exact ⟨s2',Z2,⟨s2,m2,q,pn.trans pn2,f2⟩,r3,x.trans x2⟩
theorem t_gho {P:Program} {ops:Array Oper} {K:TS→Prop} {s s2:TS} (g:Gho s s2) (h:K s2):TailD P ops (fun s1=>∃ s2,Gho s1 s2∧K s2) [] s:=⟨s2,g,h⟩
end Go.Proofs.YthnkbagmaljjjaaGreatDoor.VM
