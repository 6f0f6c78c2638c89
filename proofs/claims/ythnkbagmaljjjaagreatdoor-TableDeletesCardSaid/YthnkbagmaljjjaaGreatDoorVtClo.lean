import Derived.Test.YthnkbagmaljjjaaGreatDoorVtTyped
import Derived.ScopeJumps
/- Words and rules that the proof uses. -/
namespace Go.Proofs.YthnkbagmaljjjaaGreatDoor.VM
open Go Go.RowKit
theorem w64_id {n:Int} (h:-9223372036854775808≤n∧n≤9223372036854775807):w64 n=n:=wrap64 h
theorem loopO_rule {α β:Type} {step:α→Option (α⊕β)} (I:α→Prop) (Q:β→Prop) (m:α→Nat) (h:∀ a,I a→(∃ b,step a=some (.inl b)∧I b∧m b < m a)∨∃ r,step a=some (.inr r)∧Q r) {a:α} (ha:I a):∃ r,loopO step a=some r∧Q r:=by
 generalize hn:m a=n
 induction n using Nat.strongRecOn generalizing a with
 | ind n ih =>
  rcases h a ha with ⟨b,h1,h2,h3⟩ | ⟨r,h1,h2⟩
  ·obtain ⟨r,h4,h5⟩:=ih (m b) (by omega) h2 rfl
   exact ⟨r,by rw [loopO_next h1]; exact h4,h5⟩
  ·exact ⟨r,loopO_done h1,h2⟩
theorem loopO_two {α γ β:Type} {step:α→Option (α⊕β)} {step2:γ→Option (γ⊕β)} (R:α→γ→Prop) (m:α→Nat) (h:∀ a c,R a c→(∃ b d,step a=some (.inl b)∧step2 c=some (.inl d)∧R b d∧m b < m a)∨∃ r,step a=some (.inr r)∧step2 c=some (.inr r)) {a:α} {c:γ} (ha:R a c):∃ r,loopO step a=some r∧loopO step2 c=some r:=by
 generalize hn:m a=n
 induction n using Nat.strongRecOn generalizing a c with
 | ind n ih =>
  rcases h a c ha with ⟨b,d,h1,h2,h3,h4⟩ | ⟨r,h1,h2⟩
  ·obtain ⟨r,h5,h6⟩:=ih (m b) (by omega) h3 rfl
   exact ⟨r,by rw [loopO_next h1]; exact h5,by rw [loopO_next h2]; exact h6⟩
  ·exact ⟨r,loopO_done h1,loopO_done h2⟩
theorem lrd_at {α:Type} [Inhabited α] {l:List α} {j:Nat} (h:j < l.length):lrd l j=l[j]:=by simp [lrd,List.getD,h]
theorem take_step {α:Type} [Inhabited α] {l:List α} {j:Nat} (h:j < l.length):l.take (j+1)=l.take j++[lrd l j]:=by
 rw [lrd_at h,List.take_append_getElem h]
theorem drop_step {α:Type} [Inhabited α] {l:List α} {j:Nat} (h:j < l.length):l.drop j=lrd l j::l.drop (j+1):=by
 rw [lrd_at h,List.drop_eq_getElem_cons h]
theorem lrd_mem {α:Type} [Inhabited α] {l:List α} {j:Nat} (h:j < l.length):lrd l j∈l:=by
 rw [lrd_at h]; exact List.getElem_mem h
end Go.Proofs.YthnkbagmaljjjaaGreatDoor.VM

/- Words and rules that the proof uses. -/
namespace Go.Proofs.YthnkbagmaljjjaaGreatDoor.VM
open Go Go.RowKit
theorem thenQ2_exit {next:TS→Prop} {Q:Go.Exit→TS→Prop} {id:Nat} {s:TS} (h:Q (.exit id) s):thenQ2 next Q (.exit id) s:=h
theorem chkK {α:Type} {c:Prop} [Decidable c] {e:Option α} {r:α} {p:Prop} (h:(if c then e else none)=some r) (k:c→e=some r→p):p:=k (chk_elim h).1 (chk_elim h).2
theorem bindK {α β:Type} {e:Option α} {f:α→Option β} {r:β} {p:Prop} (h:e.bind f=some r) (k:∀ x,e=some x→f x=some r→p):p:=by
 obtain ⟨x,h1,h2⟩:=bind_elim h
 exact k x h1 h2
end Go.Proofs.YthnkbagmaljjjaaGreatDoor.VM

/- Words and rules that the proof uses. -/
namespace Go.Proofs.YthnkbagmaljjjaaGreatDoor.VM
open Go Go.RowKit
theorem loopO_rel {α γ β δ:Type} {step:α→Option (α⊕β)} {step2:γ→Option (γ⊕δ)} (R:α→γ→Prop) (S:β→δ→Prop) (m:α→Nat) (h:∀ a c,R a c→(∃ b d,step a=some (.inl b)∧step2 c=some (.inl d)∧R b d∧m b < m a)∨∃ r q,step a=some (.inr r)∧step2 c=some (.inr q)∧S r q) {a:α} {c:γ} (ha:R a c):∃ r q,loopO step a=some r∧loopO step2 c=some q∧S r q:=by
 generalize hn:m a=n
 induction n using Nat.strongRecOn generalizing a c with
 | ind n ih =>
  rcases h a c ha with ⟨b,d,h1,h2,h3,h4⟩ | ⟨r,q,h1,h2,h3⟩
  ·obtain ⟨r,q,h5,h6,h7⟩:=ih (m b) (by omega) h3 rfl
   exact ⟨r,q,by rw [loopO_next h1]; exact h5,by rw [loopO_next h2]; exact h6,h7⟩
  ·exact ⟨r,q,loopO_done h1,loopO_done h2,h3⟩
theorem vrd_at {α:Type} [Inhabited α] {n:Nat} {v:Vector α n} {j:Nat} (h:j < n):vrd v j=v[j]:=by
 simp [vrd,List.getD,h]
theorem vrd_vwr_eq {α:Type} [Inhabited α] {n:Nat} {v:Vector α n} {j:Nat} {x:α} (h:j < n):vrd (vwr v j x) j=x:=by
 rw [vrd_at h]; simp [vwr]
theorem vrd_vwr_ne {α:Type} [Inhabited α] {n:Nat} {v:Vector α n} {i j:Nat} {x:α} (hi:i < n) (h:i≠j):vrd (vwr v j x) i=vrd v i:=by
 rw [vrd_at hi,vrd_at hi]; simp [vwr,Vector.getElem_setIfInBounds,Ne.symm h]
theorem vec_eq_of {α:Type} [Inhabited α] {n:Nat} {v w:Vector α n} (h:∀ j,j < n→vrd v j=vrd w j):v=w:=by
 ext i hi
 have:=h i hi
 rwa [vrd_at hi,vrd_at hi] at this
theorem lrd_vec {α:Type} [Inhabited α] {n:Nat} (v:Vector α n) (j:Nat):lrd v.toList j=vrd v j:=rfl
theorem w64_succ {k:Nat} (h:k < 9223372036854775807):w64 ((k:Int)+1)=((k+1:Nat):Int):=by
 rw [w64_id (by omega)]; omega
theorem natIn {k n:Nat} (h:k < n):(0:Int)≤(k:Int)∧(k:Int) < (n:Int):=by omega
theorem natLt {k n:Nat} (h:k < n):(k:Int) < (n:Int):=by omega
theorem natNlt {n:Nat}:¬ ((n:Int) < (n:Int)):=by omega
def goL {α σ β:Type} (f:Nat→α→σ→σ⊕β) (fin:σ→β):List α→Nat→σ→β
 | [],_,s=>fin s
 | x::l,k,s=>match f k x s with | .inl s'=>goL f fin l (k+1) s' | .inr r=>r
theorem loopO_goL {τ σ β α:Type} [Inhabited α] {step:τ→Option (τ⊕β)} (l:List α) (enc:Nat→σ→τ) (f:Nat→α→σ→σ⊕β) (fin:σ→β) (I:Nat→σ→Prop)
  (hs:∀ k s,k < l.length→I k s→step (enc k s)=some (match f k (lrd l k) s with | .inl s'=>.inl (enc (k+1) s') | .inr r=>.inr r)∧∀ s',f k (lrd l k) s=.inl s'→I (k+1) s')
  (he:∀ s,I l.length s→step (enc l.length s)=some (.inr (fin s))) {s:σ} (h0:I 0 s):loopO step (enc 0 s)=some (goL f fin l 0 s):=by
 have key:∀ (m:List α) (k:Nat) (s:σ),l.drop k=m→k≤l.length→I k s→loopO step (enc k s)=some (goL f fin m k s):=by
  intro m
  induction m with
  | nil =>
   intro k s hm hk hi
   have:k=l.length:=by
    have:=congrArg List.length hm
    simp at this
    omega
   subst this
   exact loopO_done (he s hi)
  | cons x m ih =>
   intro k s hm hk hi
   have hlt:k < l.length:=by
    rcases Nat.lt_or_ge k l.length with h | h
    ·exact h
    ·rw [List.drop_eq_nil_of_le h] at hm
     cases hm
   rw [drop_step hlt] at hm
   obtain ⟨hx,hm⟩:=List.cons.inj hm
   obtain ⟨h1,h2⟩:=hs k s hlt hi
   rw [hx] at h1 h2
   simp only [goL]
   cases hf:f k x s with
   | inl s' =>
    rw [hf] at h1
    rw [loopO_next h1]
    exact ih (k+1) s' hm hlt (h2 s' hf)
   | inr r =>
    rw [hf] at h1
    exact loopO_done h1
 exact key l 0 s rfl (Nat.zero_le _) h0
theorem loopO_times {τ σ β:Type} {step:τ→Option (τ⊕β)} (n:Nat) (enc:Nat→σ→τ) (I:Nat→σ→Prop) (Q:β→Prop)
  (hs:∀ k s,k < n→I k s→(∃ s',step (enc k s)=some (.inl (enc (k+1) s'))∧I (k+1) s')∨∃ r,step (enc k s)=some (.inr r)∧Q r)
  (he:∀ s,I n s→∃ r,step (enc n s)=some (.inr r)∧Q r) {s:σ} (h0:I 0 s):∃ r,loopO step (enc 0 s)=some r∧Q r:=by
 have key:∀ (m k:Nat) (s:σ),k+m=n→I k s→∃ r,loopO step (enc k s)=some r∧Q r:=by
  intro m
  induction m with
  | zero =>
   intro k s hk hi
   have:k=n:=by omega
   subst this
   obtain ⟨r,h1,h2⟩:=he s hi
   exact ⟨r,loopO_done h1,h2⟩
  | succ m ih =>
   intro k s hk hi
   rcases hs k s (by omega) hi with ⟨s',h1,h2⟩ | ⟨r,h1,h2⟩
   ·obtain ⟨r,h3,h4⟩:=ih (k+1) s' (by omega) h2
    exact ⟨r,by rw [loopO_next h1]; exact h3,h4⟩
   ·exact ⟨r,loopO_done h1,h2⟩
 exact key n 0 s (by omega) h0
end Go.Proofs.YthnkbagmaljjjaaGreatDoor.VM

/- Words and rules that the proof uses. -/
namespace Go.Proofs.YthnkbagmaljjjaaGreatDoor.VM
open Go Go.RowKit
def nodupB:List Nat→Bool
 | []=>true
 | b::l=>!(l.any (Nat.beq b)) && nodupB l
def rnm (ρ : List (Nat × Nat)) (b : Nat) : Nat := look b ρ b
def T1.ren (ρ : List (Nat × Nat)) : T1 → T1
  | .p x => .p x
  | .own b n z => .own (rnm ρ b) n z
  | .sl b off n z => .sl (rnm ρ b) off n z
  | .ptr b off => .ptr (rnm ρ b) off
  | .mref b => .mref (rnm ρ b)
def TV.ren (ρ : List (Nat × Nat)) : TV → TV
  | .c x => .c (x.ren ρ)
  | .tup vs => .tup (vs.map (T1.ren ρ))
  | .agg cs => .agg (cs.map (T1.ren ρ))
  | .clo f cap => .clo f (cap.map (T1.ren ρ))
def ArgsT (s:TS) (ρ:List (Nat×Nat)):List Operand→List T1→List TV→Prop
 | [],[],[]=>True
 | [],c::cs,v::vs=>TLes (.c c) (v.ren ρ)∧ArgsT s ρ [] cs vs
 | x::xs,caps,v::vs=>TLes (tev s x) (v.ren ρ)∧ArgsT s ρ xs caps vs
 | _,_,_=>False
section calls
variable {P:Program} {s:TS} {ty:TypeId} {pos:String} {after:Array Edge}
def LendC (s:TS) (c:T1) (a:AV):Prop:=∀ m h1,HM m s.h h1→Lent h1 (c.rn m) a
theorem lendc_ptr {b off:Nat} {cs:List AV} (hb:s.h.get b=some (.pure cs)) (hne:cs≠[]):LendC s (.ptr b off) (.rptr cs off):=by
 intro m h1 hm
 obtain ⟨r,hr,hh⟩:=blk_real hm hb hne
 simp only [T1.rn,hr]
 exact .ptr r off cs hh
def LendsC (s:TS):List Operand→List T1→List AV→Prop
 | [],[],[]=>True
 | [],c::cs,a::gs=>LendC s c a∧LendsC s [] cs gs
 | x::xs,caps,a::gs=>Lend s x a∧LendsC s xs caps gs
 | _,_,_=>False
theorem lendsC_get {m:Nm} {h1:Heap} {n:Nat} (hm:HM m s.h h1):∀ {xs:List Operand} {caps:List T1} {gs:List AV},LendsC s xs caps gs→∃ as':List AV,as'.length=xs.length+caps.length∧as'.length=gs.length∧(∀ (i:Nat) (a a':AV),(xs.map (aev (can m s h1 n))++caps.map (T1.rn m))[i]?=some a→as'[i]?=some a'→Les a a')∧∀ (i:Nat) (a a':AV),as'[i]?=some a→gs[i]?=some a'→Lent h1 a a'
 | [],[],[],_=>⟨[],rfl,rfl,fun i a a' h _=>by simp at h,fun i a a' h _=>by simp at h⟩
 | [],c::cs,g::gs,h=>by
  obtain ⟨as',h1',h2,h3,h4⟩:=lendsC_get (n:=n) hm h.2
  refine ⟨c.rn m::as',by simp at h1' ⊢; omega,by simp [h2],fun i a a' ha ha'=>?_,fun i a a' ha ha'=>?_⟩
  ·cases i with
   | zero =>
    simp only [List.map_nil,List.nil_append,List.map_cons,List.getElem?_cons_zero,Option.some.injEq] at ha ha'
    subst ha ha'
    exact .same _
   | succ i=>exact h3 i a a' (by simpa using ha) (by simpa using ha')
  ·cases i with
   | zero =>
    simp only [List.getElem?_cons_zero,Option.some.injEq] at ha ha'
    subst ha ha'
    exact h.1 m h1 hm
   | succ i=>exact h4 i a a' (by simpa using ha) (by simpa using ha')
 | x::xs,caps,g::gs,h=>by
  obtain ⟨as',h1',h2,h3,h4⟩:=lendsC_get (n:=n) hm h.2
  obtain ⟨b,hb1,hb2⟩:=h.1 m h1 n hm
  refine ⟨b::as',by simp at h1' ⊢; omega,by simp [h2],fun i a a' ha ha'=>?_,fun i a a' ha ha'=>?_⟩
  ·cases i with
   | zero =>
    simp only [List.map_cons,List.cons_append,List.getElem?_cons_zero,Option.some.injEq] at ha ha'
    subst ha ha'
    exact hb1
   | succ i=>exact h3 i a a' (by simpa using ha) (by simpa using ha')
  ·cases i with
   | zero =>
    simp only [List.getElem?_cons_zero,Option.some.injEq] at ha ha'
    subst ha ha'
    exact hb2
   | succ i=>exact h4 i a a' (by simpa using ha) (by simpa using ha')
 | [],[],_::_,h=>h.elim
 | [],_::_,[],h=>h.elim
 | _::_,_,[],h=>h.elim
theorem p_callc {dst : Option Tmp} {f : FuncId} {fn : Func} {x : Operand} {xs : Array Operand} {ts : Array TypeId} {caps : List T1} {args : List AV} {r : AV} (hd : dOk2 s dst = true) (hf : tev s x = .clo f caps) (hx0 : isConst x = false) (hfn : P.funcs[f]? = some fn) (hb : fn.body.isSome = true) (hname : (fn.name == "runtime.NumGoroutine") = false)
  (hc:ACp P f args r) (hno:noLst r=true) (ha:LendsC s xs.toList caps args) :
  PureD P ⟨dst,.call { callee:=.value x,args:=xs,argTypes:=ts },ty,pos,after,none⟩ s (.c (.p r)):=by
 intro m h1 n hm
 have hcl:aev (can m s h1 n) x=.clo f (caps.map (T1.rn m)):=by rw [aev_eq hx0,hf]; rfl
 obtain ⟨as',h3,h4,h5,h6⟩:=lendsC_get (n:=n) hm ha
 refine OpW_hl fun hlt=>OpW_call hcl hfn hb hname rfl ((AC.lend hc (args:=as') h4 h6 (fun v hr hv=>by rw [hv]; exact hno)).arg (by simp [h3]) h5) (dOk_can hd) ?_
 rintro v h' n' ⟨hr,rfl,rfl,hdis⟩ hn' hlt' _
 exact ⟨h1.merge hr.clean,n',_,hlt',keeps_merge (fun b hb=>hdis b (Heap.clean_ne hb)),rfl,.same _⟩
end calls
theorem lent_own {m:Nm} {h:Hp} {h1:Heap} {b n z:Nat} {cs:List AV} (hm:HM m h h1) (hb:h.get b=some (.pure cs)) (hl:cs.length=n * z) (hz:0 < z):Lent h1 ((T1.own b n z).rn m) (.lst cs n):=by
 rcases hm.blk b _ hb with ⟨r,hr,hh⟩ | ⟨hr,hc⟩
 ·simp only [T1.rn,hr]
  have:=Lent.sl (h:=h1) r 0 n z cs hh (by omega)
  rwa [List.drop_zero,List.take_of_length_le (by omega)] at this
 ·simp only [T1.rn,hr]
  have hc2:cs=[]:=hc
  subst hc2
  have:n=0:=by
   rcases Nat.eq_zero_or_pos n with h0 | h0
   ·exact h0
   ·have:=Nat.mul_pos h0 hz
    simp at hl
    omega
  subst this
  exact .nil
theorem ACp_pub {P:Program} {f:FuncId} {args:List AV} {r:TV} {ch':Hp} {av:AV} (h:AC2 P f (pureT args) [] r ch') (hp:∀ m h1,HM m ch' h1→Lent h1 (r.rn m) av):ACp P f args av:=by
 have h2:=h (fun _=>none) Heap.empty (hm_nil _) (fun q o hq=>by cases hq)
 have hpt:(pureT args).map (TV.rn fun _=>none)=args:=by
  simp only [pureT,List.map_map]
  rw [show (TV.rn (fun _=>none) ∘ fun x=>TV.c (.p x))=id from rfl]
  simp
 rw [hpt] at h2
 intro Z w vs g hl hv
 refine (h2 Z w vs g hl hv).mono ?_
 rintro e w' ⟨v,r1,h1',Z',rfl,⟨m',_,hm',rfl⟩,hrel,gr,ex⟩
 refine ⟨v,av,Heap.empty,fun b=>Z' b∨h1' b≠none,rfl,rfl,(hp m' h1' hm').rel gr hrel,⟨fun b hb=>?_,(fun b o hb=>by cases hb),(fun b o hb=>by cases hb),gr.tb.mono fun _ h=>.inl h⟩,ex.os,ex.tape,ex.output,ex.size,ex.keep,ex.shp,fun b hb=>absurd rfl hb,fun b hb=>.inl (ex.zz b hb),fun b hb=>?_⟩
 ·rcases hb with h3 | h3
  ·exact gr.zb b h3
  ·obtain ⟨o,ho⟩:=Option.ne_none_iff_exists'.1 h3
   exact gr.lt ho
 ·rcases hb with h3 | h3
  ·exact ex.zf b h3
  ·exact .inr (ex.own b h3)
end Go.Proofs.YthnkbagmaljjjaaGreatDoor.VM

/- Words and rules that the proof uses. -/
namespace Go.Proofs.YthnkbagmaljjjaaGreatDoor.VM
open Go Go.RowKit
section ops
variable {P:Program} {ty:TypeId} {pos:String} {after:Array Edge} {dst:Option Tmp}
theorem OpW_mkfn {s:AS} {K:AS→Prop} {f:FuncId} {xs:Array Operand} (hd:dOk s dst=true) (hk:K (s.put dst (.clo f (xs.toList.map (aev s))))):OpW P ⟨dst,.makeFunc (.func f) #[] xs,ty,pos,after,none⟩ K s :=
 OpW_same hd (fun Z a w r=>⟨.func (.func f) #[] (xs.map a.eval),(by simp [execOp,Instr.makeFunc]),.clo f _ _ (by simp) (fun i c v hc hv=>by
  rw [List.getElem?_map] at hc
  rw [Array.getElem?_map] at hv
  obtain ⟨x,hx,rfl⟩:=Option.map_eq_some_iff.1 hc
  have hx2:xs[i]?=some x:=by simpa using hx
  rw [hx2] at hv
  simp only [Option.map_some,Option.some.injEq] at hv
  subst hv
  exact aev_rel r x)⟩) hk
def CapsT (s:TS):List Operand→List T1→Prop
 | [],[]=>True
 | x::xs,c::cs=>(isConst x=false∧tev s x=.c c)∧CapsT s xs cs
 | _,_=>False
theorem capsT_eq {s:TS} {m:Nm} {h1:Heap} {n:Nat}:∀ {xs:List Operand} {cs:List T1},CapsT s xs cs→xs.map (aev (can m s h1 n))=cs.map (T1.rn m)
 | [],[],_=>rfl
 | x::xs,c::cs,h=>by
  rw [List.map_cons,List.map_cons,capsT_eq h.2,aev_eq h.1.1,h.1.2]
  rfl
 | [],_::_,h=>h.elim
 | _::_,[],h=>h.elim
theorem p_mkfn {s:TS} {f:FuncId} {xs:Array Operand} {caps:List T1} (hd:dOk2 s dst=true) (hx:CapsT s xs.toList caps):PureD P ⟨dst,.makeFunc (.func f) #[] xs,ty,pos,after,none⟩ s (.clo f caps) :=
 PureD_same fun m h1 n hm K hk=>OpW_mkfn (dOk_can hd) (hk _ (by rw [capsT_eq hx]; exact .same _))
def LendCs (s:TS):List T1→List AV→Prop
 | [],[]=>True
 | c::cs,a::gs=>LendC s c a∧LendCs s cs gs
 | _,_=>False
theorem lendCs_get {s:TS} {m:Nm} {h1:Heap} (hm:HM m s.h h1):∀ {cs:List T1} {gs:List AV},LendCs s cs gs→cs.length=gs.length∧∀ (i:Nat) (a a':AV),(cs.map (T1.rn m))[i]?=some a→gs[i]?=some a'→Lent h1 a a'
 | [],[],_=>⟨rfl,fun i a a' h _=>by simp at h⟩
 | c::cs,g::gs,h=>by
  obtain ⟨h2,h3⟩:=lendCs_get hm h.2
  refine ⟨by simp [h2],fun i a a' ha ha'=>?_⟩
  cases i with
  | zero =>
   simp only [List.map_cons,List.getElem?_cons_zero,Option.some.injEq] at ha ha'
   subst ha ha'
   exact h.1 m h1 hm
  | succ i=>exact h3 i a a' (by simpa using ha) (by simpa using ha')
 | [],_::_,h=>h.elim
 | _::_,[],h=>h.elim
theorem lend_clo {s:TS} {x:Operand} {f:FuncId} {caps:List T1} {gs:List AV} (hx0:isConst x=false) (h:tev s x=.clo f caps) (hc:LendCs s caps gs):Lend s x (.clo f gs):=by
 intro m h1 n hm
 refine ⟨.clo f (caps.map (T1.rn m)),by rw [aev_eq hx0,h]; exact .same _,?_⟩
 obtain ⟨h2,h3⟩:=lendCs_get hm hc
 exact .clo f _ _ (by simpa using h2) h3
end ops
end Go.Proofs.YthnkbagmaljjjaaGreatDoor.VM

