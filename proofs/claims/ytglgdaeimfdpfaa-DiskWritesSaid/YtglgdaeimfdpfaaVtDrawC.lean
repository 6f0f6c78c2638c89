/- Words and rules that the proof uses. -/
import Derived.Test.YtglgdaeimfdpfaaVtDrawU
namespace Go.Proofs.Ytglgdaeimfdpfaa.VM
open Go Go.RowKit
def upD (D:Nat→Bool):Ups→Nat→Option (Nat×Blk)
 | [],_=>none
 | (j,b,k)::l,c=>if c=b∧D j=true then some (j,k) else upD D l c
def gC (nws:News) (ups:Ups) (h:Hp) (D:Nat→Bool) (c:Nat):Option Blk:=match upD D ups c with
 | some (_,k)=>some k
 | none=>gA nws h D c
theorem upD_mem {D:Nat→Bool}:∀ {ups:Ups} {c j:Nat} {k:Blk},upD D ups c=some (j,k)→(j,c,k)∈ups∧D j=true
 | [],_,_,_,h=>by cases h
 | (i,b,x)::l,c,j,k,h=>by
  unfold upD at h
  split at h
  ·rename_i hc
   cases h
   rw [hc.1]
   exact ⟨List.mem_cons_self,hc.2⟩
  ·obtain ⟨h1,h2⟩:=upD_mem h
   exact ⟨List.mem_cons_of_mem _ h1,h2⟩
theorem upD_none {D:Nat→Bool}:∀ {ups:Ups} {c:Nat},(∀ j k,(j,c,k)∈ups→D j=false)→upD D ups c=none
 | [],_,_=>rfl
 | (i,b,x)::l,c,h=>by
  unfold upD
  rw [if_neg (fun q=>by
   obtain ⟨rfl,q2⟩:=q
   rw [h i x List.mem_cons_self] at q2
   cases q2)]
  exact upD_none fun j k hk=>h j k (List.mem_cons_of_mem _ hk)
theorem upD_same {D D':Nat→Bool}:∀ {ups:Ups} {c:Nat},(∀ j k,(j,c,k)∈ups→D' j=D j)→upD D' ups c=upD D ups c
 | [],_,_=>rfl
 | (i,b,x)::l,c,h=>by
  unfold upD
  rw [upD_same (ups:=l) fun j k hk=>h j k (List.mem_cons_of_mem _ hk)]
  by_cases hc:c=b
  ·subst hc
   rw [h i x List.mem_cons_self]
  ·rw [if_neg (fun q=>hc q.1),if_neg (fun q=>hc q.1)]
def chainU (cl:Nat→List Nat):Ups→Bool
 | []=>true
 | e::l=>(l.all fun f => !(Nat.beq f.2.1 e.2.1) || (cl e.1).contains f.1) && chainU cl l
theorem upD_here {cl:Nat→List Nat} {D:Nat→Bool}:∀ {ups:Ups} {i b:Nat} {k:Blk},chainU cl ups=true→(i,b,k)∈ups→D i=true→(∀ j c x,(j,c,x)∈ups→(cl j).contains i=true→D j=false)→upD D ups b=some (i,k)
 | [],_,_,_,_,h,_,_=>by cases h
 | (j,c,x)::l,i,b,k,hc,h,hi,hw=>by
  simp only [chainU,Bool.and_eq_true] at hc
  unfold upD
  rcases List.mem_cons.1 h with h1 | h1
  ·cases h1
   rw [if_pos ⟨rfl,hi⟩]
  ·rw [if_neg (fun q=>?_)]
   ·exact upD_here hc.2 h1 hi fun j c x hm=>hw j c x (List.mem_cons_of_mem _ hm)
   ·obtain ⟨rfl,q2⟩:=q
    have:=List.all_eq_true.1 hc.1 _ h1
    simp only [Bool.or_eq_true,Bool.not_eq_true'] at this
    rcases this with h2 | h2
    ·simp at h2
    ·rw [hw j b x List.mem_cons_self h2] at q2
     cases q2
theorem gC_none {nws:News} {ups:Ups} {h:Hp} {D:Nat→Bool} {c:Nat} (hD:∀ j k,(j,c,k)∈ups→D j=false):gC nws ups h D c=gA nws h D c:=by
 unfold gC
 rw [upD_none hD]
theorem gC_some {nws:News} {ups:Ups} {h:Hp} {D:Nat→Bool} {c:Nat} {k:Blk} (e:gC nws ups h D c=some k):(∃ j,(j,c,k)∈ups)∨gA nws h D c=some k:=by
 unfold gC at e
 split at e
 ·rename_i j k' he
  cases e
  exact .inl ⟨j,(upD_mem he).1⟩
 ·exact .inr e
theorem gC_same2 {nws:News} {ups:Ups} {h:Hp} {D D':Nat→Bool} {c i:Nat} (hD:∀ j,j≠i→D' j=D j) (hn:newOp nws i=none) (hu:∀ j k,(j,c,k)∈ups→j≠i):gC nws ups h D' c=gC nws ups h D c:=by
 have ha:gA nws h D' c=gA nws h D c:=by
  unfold gA
  split
  ·rename_i j cs he
   rw [hD j (by rintro rfl; exact newOp_ne (newAt_mem he) hn)]
  ·rfl
 unfold gC
 rw [upD_same fun j k hk=>hD j (hu j k hk),ha]
theorem gC_same {nws:News} {ups:Ups} {h:Hp} {D D':Nat→Bool} {c i:Nat} (hD:∀ j,j≠i→D' j=D j) (hn:newOp nws i=none) (hu:upOp ups i=none):gC nws ups h D' c=gC nws ups h D c :=
 gC_same2 hD hn fun j k he=>by rintro rfl; exact upOp_of_mem he hu
theorem gC_same3 {nws:News} {ups:Ups} {h:Hp} {D D':Nat→Bool} {c i:Nat} (hD:∀ j,j≠i→D' j=D j) (hu:upOp ups i=none) (hn:∀ j cs,newAt nws c=some (j,cs)→j≠i):gC nws ups h D' c=gC nws ups h D c:=by
 have ha:gA nws h D' c=gA nws h D c:=by
  unfold gA
  split
  ·rename_i j cs he
   rw [hD j (hn j cs he)]
  ·rfl
 unfold gC
 rw [upD_same fun j k hk=>hD j (by rintro rfl; exact upOp_of_mem hk hu),ha]
def upSel:Ups→Nat→Nat→Option Blk
 | [],_,_=>none
 | e::l,c,j=>if Nat.beq e.2.1 c && Nat.beq e.1 j then some e.2.2 else upSel l c j
def viewBC (nws:News) (ups:Ups) (h:Hp) (c:Nat):Option Nat→Option Blk
 | some j=>upSel ups c j
 | none=>match newAt nws c with
  | some (_,cs)=>some (.pure cs)
  | none=>h.get c
def viewC (nws:News) (ups:Ups) (h:Hp):List (Nat×Option Nat)→Hp
 | []=>[]
 | (c,u)::l=>match viewBC nws ups h c u with
  | some k=>(c,k)::viewC nws ups h l
  | none=>viewC nws ups h l
theorem viewC_get {nws:News} {ups:Ups} {h:Hp}:∀ {l:List (Nat×Option Nat)} {c:Nat} {k:Blk},(viewC nws ups h l).get c=some k→∃ u,(c,u)∈l∧viewBC nws ups h c u=some k
 | [],c,k,e=>by cases e
 | (b,u)::l,c,k,e=>by
  unfold viewC at e
  split at e
  ·rename_i k' hk
   rw [Hp.get_cons] at e
   split at e
   ·rename_i hcb
    cases e
    rw [hcb]
    exact ⟨u,List.mem_cons_self,hk⟩
   ·obtain ⟨u',h1,h2⟩:=viewC_get e
    exact ⟨u',List.mem_cons_of_mem _ h1,h2⟩
  ·obtain ⟨u',h1,h2⟩:=viewC_get e
   exact ⟨u',List.mem_cons_of_mem _ h1,h2⟩
def seenB (cl:Nat→List Nat) (i c j:Nat):Ups→Bool
 | []=>false
 | e::l=>if Nat.beq e.2.1 c then (if Nat.beq e.1 j then true else (Nat.beq e.1 i || (cl e.1).contains i) && seenB cl i c j l) else seenB cl i c j l
theorem seen_ok {cl:Nat→List Nat} {D:Nat→Bool} {i c j:Nat}:∀ {ups:Ups} {k:Blk},seenB cl i c j ups=true→upSel ups c j=some k→D j=true→(∀ e b x,(e,b,x)∈ups→e=i∨(cl e).contains i=true→D e=false)→upD D ups c=some (j,k)
 | [],_,h,_,_,_=>by cases h
 | (e,b,x)::l,k,h,hs,hj,hw=>by
  unfold seenB at h
  unfold upSel at hs
  unfold upD
  dsimp only at h hs
  by_cases hb:Nat.beq b c=true
  ·have hbc:=Nat.eq_of_beq_eq_true hb
   subst hbc
   rw [if_pos hb] at h
   by_cases he:Nat.beq e j=true
   ·have hej:=Nat.eq_of_beq_eq_true he
    subst hej
    rw [hb,he] at hs
    rw [if_pos ⟨rfl,hj⟩]
    simp only [Bool.and_true,if_true,Option.some.injEq] at hs
    rw [hs]
   ·rw [if_neg he] at h
    rw [show (Nat.beq b b && Nat.beq e j)=false by rw [Bool.eq_false_iff.2 he,Bool.and_false]] at hs
    simp only [Bool.and_eq_true,Bool.or_eq_true] at h
    have hd:=hw e b x List.mem_cons_self (h.1.imp Nat.eq_of_beq_eq_true id)
    rw [if_neg (fun q=>by rw [hd] at q; cases q.2)]
    exact seen_ok h.2 (by simpa using hs) hj fun e b x hm=>hw e b x (List.mem_cons_of_mem _ hm)
  ·rw [if_neg hb] at h
   rw [show (Nat.beq b c && Nat.beq e j)=false by rw [Bool.eq_false_iff.2 hb,Bool.false_and]] at hs
   rw [if_neg (fun q=>hb (by rw [q.1]; simp))]
   exact seen_ok h (by simpa using hs) hj fun e b x hm=>hw e b x (List.mem_cons_of_mem _ hm)
def ToldC (cl:Nat→List Nat) (ups:Ups) (apps:List Nat) (vals:Nat→TV) (D:Nat→Bool) (j:Nat):Prop:=∀ c a k,(c,a,k)∈ups→apps.contains c=true→D c=true→(vals j).no a=true∨j=c∨(cl j).contains c=true
def upsBC (cl:Nat→List Nat) (p:Nat) (nws:News) (ups:Ups) (hv:Nat→List (Nat×Option Nat)) (apps:List Nat) (vals:Nat→TV) (rd:Nat→List (Nat×Option Nat)) (fin:List (Nat×Option Nat)):Bool :=
 (ups.all fun e => !(apps.contains e.1) || (nws.any fun f=>Nat.beq f.2.1 e.2.1) && ((List.range p).all fun i=>(rd i).all fun q=>match q.2 with
   | none=>true
   | some j=>(vals j).no e.2.1 || Nat.beq j e.1 || Nat.beq e.1 i || (cl e.1).contains i || (cl j).contains e.1) &&
  (fin.all fun q=>match q.2 with
   | none=>true
   | some j=>(vals j).no e.2.1 || Nat.beq j e.1 || (cl j).contains e.1)) &&
 (ups.all fun e=>Nat.blt e.1 p && (ups.all fun f => !(Nat.beq f.1 e.1) || Nat.beq f.2.1 e.2.1) &&
  (nws.all fun f=>e.2.2.no f.2.1 && (!(Nat.beq f.2.1 e.2.1) || (cl e.1).contains f.1))) &&
 chainU cl ups &&
 (List.range p).all fun i=>(hv i).all fun q =>
  (match q.2 with
   | some j=>(cl i).contains j && seenB cl i q.1 j ups
   | none=>(ups.all fun e => !(Nat.beq e.2.1 q.1) || Nat.beq e.1 i || (cl e.1).contains i)) &&
  (match newAt nws q.1 with
   | none=>true
   | some (e,_)=>(cl i).contains e)
structure UpsOkC (cl:Nat→List Nat) (p:Nat) (nws:News) (ups:Ups) (hv:Nat→List (Nat×Option Nat)) (apps:List Nat) (vals:Nat→TV) (rd:Nat→List (Nat×Option Nat)) (fin:List (Nat×Option Nat)):Prop where
 anew:∀ {c a k},(c,a,k)∈ups→apps.contains c=true→∃ i cs,(i,a,cs)∈nws
 rdT:∀ {c a k i q j},(c,a,k)∈ups→apps.contains c=true→i < p→q∈rd i→q.2=some j→(vals j).no a=true∨j=c∨c=i∨(cl c).contains i=true∨(cl j).contains c=true
 finT:∀ {c a k q j},(c,a,k)∈ups→apps.contains c=true→q∈fin→q.2=some j→(vals j).no a=true∨j=c∨(cl j).contains c=true
 lt:∀ {j c k},(j,c,k)∈ups→j < p
 op:∀ {j c k c' k'},(j,c,k)∈ups→(j,c',k')∈ups→c=c'
 chain:chainU cl ups=true
 after:∀ {j c k i cs},(j,c,k)∈ups→(i,c,cs)∈nws→(cl j).contains i=true
 no:∀ {j c k i b cs},(j,c,k)∈ups→(i,b,cs)∈nws→k.no b=true
 view:∀ {i c u},i < p→(c,u)∈hv i→(match u with
   | some j=>(cl i).contains j=true∧seenB cl i c j ups=true
   | none=>∀ e k,(e,c,k)∈ups→e=i∨(cl e).contains i=true)∧∀ e cs,newAt nws c=some (e,cs)→(cl i).contains e=true
theorem upsBC_ok {cl:Nat→List Nat} {p:Nat} {nws:News} {ups:Ups} {hv:Nat→List (Nat×Option Nat)} {apps:List Nat} {vals:Nat→TV} {rd:Nat→List (Nat×Option Nat)} {fin:List (Nat×Option Nat)} (h:upsBC cl p nws ups hv apps vals rd fin=true):UpsOkC cl p nws ups hv apps vals rd fin:=by
 unfold upsBC at h
 simp only [Bool.and_eq_true] at h
 obtain ⟨⟨⟨h0,h1⟩,h2⟩,h3⟩:=h
 rw [List.all_eq_true] at h0
 have h00:∀ {c a k},(c,a,k)∈ups→apps.contains c=true→(nws.any fun f=>Nat.beq f.2.1 a)=true∧((List.range p).all fun i=>(rd i).all fun q=>match q.2 with
   | none=>true
   | some j=>(vals j).no a || Nat.beq j c || Nat.beq c i || (cl c).contains i || (cl j).contains c)=true ∧
  (fin.all fun q=>match q.2 with
   | none=>true
   | some j=>(vals j).no a || Nat.beq j c || (cl j).contains c)=true:=by
  intro c a k hm hap
  have:=h0 _ hm
  simp only [hap,Bool.not_true,Bool.false_or,Bool.and_eq_true] at this
  exact ⟨this.1.1,this.1.2,this.2⟩
 rw [List.all_eq_true] at h1 h3
 refine ⟨fun hm hap=>?_,fun hm hap hi hq hj=>?_,fun hm hap hq hj=>?_,fun hm=>?_,fun hm hm'=>?_,h2,fun hm hn=>?_,fun hm hn=>?_,fun hi hq=>?_⟩
 ·obtain ⟨f,hf,he⟩:=List.any_eq_true.1 (h00 hm hap).1
  have:=Nat.eq_of_beq_eq_true he
  obtain ⟨i,b,cs⟩:=f
  exact ⟨i,cs,by rw [← show b=_ from this]; exact hf⟩
 ·have:=List.all_eq_true.1 (List.all_eq_true.1 (h00 hm hap).2.1 _ (List.mem_range.2 hi)) _ hq
  rw [hj] at this
  simp only [Bool.or_eq_true] at this
  rcases this with (((h4 | h4) | h4) | h4) | h4
  ·exact .inl h4
  ·exact .inr (.inl (Nat.eq_of_beq_eq_true h4))
  ·exact .inr (.inr (.inl (Nat.eq_of_beq_eq_true h4)))
  ·exact .inr (.inr (.inr (.inl h4)))
  ·exact .inr (.inr (.inr (.inr h4)))
 ·have:=List.all_eq_true.1 (h00 hm hap).2.2 _ hq
  rw [hj] at this
  simp only [Bool.or_eq_true] at this
  rcases this with (h4 | h4) | h4
  ·exact .inl h4
  ·exact .inr (.inl (Nat.eq_of_beq_eq_true h4))
  ·exact .inr (.inr h4)
 ·have:=h1 _ hm
  simp only [Bool.and_eq_true] at this
  exact Nat.lt_of_succ_le (Nat.le_of_ble_eq_true this.1.1)
 ·have:=h1 _ hm
  simp only [Bool.and_eq_true] at this
  have:=List.all_eq_true.1 this.1.2 _ hm'
  simp only [Bool.or_eq_true,Bool.not_eq_true'] at this
  rcases this with h4 | h4
  ·simp at h4
  ·exact (Nat.eq_of_beq_eq_true h4).symm
 ·have:=h1 _ hm
  simp only [Bool.and_eq_true] at this
  have:=List.all_eq_true.1 this.2 _ hn
  simp only [Bool.and_eq_true,Bool.or_eq_true,Bool.not_eq_true'] at this
  rcases this.2 with h4 | h4
  ·simp at h4
  ·exact h4
 ·have:=h1 _ hm
  simp only [Bool.and_eq_true] at this
  have:=List.all_eq_true.1 this.2 _ hn
  simp only [Bool.and_eq_true] at this
  exact this.1
 ·have h4:=List.all_eq_true.1 (h3 _ (List.mem_range.2 hi)) _ hq
  simp only [Bool.and_eq_true] at h4
  obtain ⟨h5,h6⟩:=h4
  constructor
  ·split
   ·simp only [Bool.and_eq_true] at h5
    exact h5
   ·intro e k hk
    have:=List.all_eq_true.1 h5 _ hk
    simp only [Bool.or_eq_true,Bool.not_eq_true'] at this
    rcases this with (h7 | h7) | h7
    ·simp at h7
    ·exact .inl (Nat.eq_of_beq_eq_true h7)
    ·exact .inr h7
  ·intro e cs he
   rw [he] at h6
   exact h6
theorem viewC_ok {cl:Nat→List Nat} {p i:Nat} {nws:News} {ups:Ups} {hv:Nat→List (Nat×Option Nat)} {h:Hp} {D:Nat→Bool} {c:Nat} {k:Blk} {apps:List Nat} {vals:Nat→TV} {rd:Nat→List (Nat×Option Nat)} {fin:List (Nat×Option Nat)} (ok:UpsOkC cl p nws ups hv apps vals rd fin) (hi:i < p) (e:(viewC nws ups h (hv i)).get c=some k) (hbef:∀ j,(cl i).contains j=true→D j=true) (haft:∀ j,j < p→(cl j).contains i=true→D j=false) (hun:D i=false):gC nws ups h D c=some k:=by
 obtain ⟨u,h1,h2⟩:=viewC_get e
 obtain ⟨h3,h4⟩:=ok.view hi h1
 unfold gC
 cases u with
 | some j =>
  rw [seen_ok h3.2 h2 (hbef j h3.1) (fun e b x hm hc=>by
   rcases hc with rfl | hc
   ·exact hun
   ·exact haft e (ok.lt hm) hc)]
 | none =>
  rw [upD_none (fun j x hm=>by
   rcases h3 j x hm with rfl | hc
   ·exact hun
   ·exact haft j (ok.lt hm) hc)]
  simp only [viewBC] at h2
  unfold gA
  split at h2
  ·rename_i j cs he
   rw [he]
   simp only
   rw [if_pos (hbef _ (h4 _ _ he))]
   exact h2
  ·rename_i he
   rw [he]
   exact h2
theorem get_upsC {D:Nat→Bool} {h:Hp}:∀ (ups:Ups) (c:Nat),(∀ j b k,(j,b,k)∈ups→D j=true)→Hp.get ((ups.map fun e=>(e.2.1,e.2.2))++h) c=match upD D ups c with | some (_,k)=>some k | none=>h.get c
 | [],c,_=>rfl
 | (j,b,k)::l,c,hd=>by
  rw [List.map_cons,List.cons_append,Hp.get_cons]
  unfold upD
  by_cases hc:c=b
  ·rw [if_pos hc,if_pos ⟨hc,hd _ _ _ List.mem_cons_self⟩]
  ·rw [if_neg hc,if_neg (fun q=>hc q.1)]
   exact get_upsC l c fun j b k hm=>hd j b k (List.mem_cons_of_mem _ hm)
theorem AW2_drawC {P:Program} {id:Nat} {ops:Array Oper} {Q:Go.Exit→TS→Prop} {s:TS} (p:Nat) (tl:List Nat) (vals:Nat→TV) (rd:Nat→List (Nat×Option Nat)) (fin:List (Nat×Option Nat)) (nws:News) (ups:Ups) (apps:List Nat) (hv:Nat→List (Nat×Option Nat)) (cl:Nat→List Nat) (hm0:P.follows .mixedOrders=true) (hB:drawB3 ops cl p rd fin=true) (hN:newB cl p nws vals s=true) (hU:upsBC cl p nws ups hv apps vals rd fin=true) (htl:List.range' p (ops.size - p)=tl)
  (hops:AllOps (fun i o=>OpGXU P ops o ⟨drawT s vals (rd i),viewC nws ups s.h (hv i),s.sz⟩ (vals i) (apps.contains i) (newOp nws i) (upOp ups i)) 0 (ops.toList.take p)) (hk:TailD P ops (Q .normal) tl ⟨drawT s vals fin,(ups.map fun e=>(e.2.1,e.2.2))++((nws.map fun e=>(e.2.1,Blk.pure e.2.2))++s.h),s.sz⟩):AW2 P (.region id ops true) Q s:=by
 subst htl
 unfold drawB3 at hB
 simp only [Bool.and_eq_true] at hB
 obtain ⟨⟨⟨hB0,hB1⟩,hBc⟩,hB2⟩:=hB
 have hp:p≤ops.size:=of_decide_eq_true hB0
 unfold clB at hBc
 rw [List.all_eq_true] at hB1 hB2 hBc
 have hcls:∀ i j,i < ops.size→(cl i).contains j=true→waitB ops i j=true∨∃ l,l < i∧waitB ops i l=true∧(cl l).contains j=true:=by
  intro i j hi hj
  have h1:=List.all_eq_true.1 (hBc i (List.mem_range.2 hi)) j (by simpa using hj)
  simp only [Bool.or_eq_true,List.any_eq_true,Bool.and_eq_true] at h1
  rcases h1 with h1 | ⟨l,hl,h2,h3⟩
  ·exact .inl h1
  ·exact .inr ⟨l,List.mem_range.1 hl,h2,h3⟩
 have hnew:∀ i b cs,(i,b,cs)∈nws→i < p∧b < 2000∧s.h.get b=none∧lno b s.l=true∧hno b s.h=true∧(∀ i' b' cs',(i',b',cs')∈nws→(i'=i↔b'=b))∧∀ j,j < p→(vals j).no b=true∨j=i∨(cl j).contains i=true:=by
  intro i b cs he
  unfold newB at hN
  rw [List.all_eq_true] at hN
  have h1:=hN _ he
  simp only [Bool.and_eq_true] at h1
  obtain ⟨⟨⟨⟨⟨⟨h2,h3⟩,h4⟩,h5⟩,h6⟩,h7⟩,h8⟩:=h1
  refine ⟨Nat.lt_of_succ_le (Nat.le_of_ble_eq_true h2),Nat.lt_of_succ_le (Nat.le_of_ble_eq_true h3),by simpa using h4,h5,h6,fun i' b' cs' he'=>?_,fun j hj=>?_⟩
  ·have h9:=List.all_eq_true.1 h7 _ he'
   simp only [Bool.or_eq_true,Bool.and_eq_true,Bool.not_eq_true'] at h9
   rcases h9 with ⟨h10,h11⟩ | ⟨h10,h11⟩
   ·constructor
    ·rintro rfl; simp at h10
    ·rintro rfl; simp at h11
   ·exact ⟨fun _=>Nat.eq_of_beq_eq_true h11,fun _=>Nat.eq_of_beq_eq_true h10⟩
  ·have h9:=List.all_eq_true.1 h8 j (List.mem_range.2 hj)
   simp only [Bool.or_eq_true] at h9
   rcases h9 with (h10 | h10) | h10
   ·exact .inl h10
   ·exact .inr (.inl (Nat.eq_of_beq_eq_true h10))
   ·exact .inr (.inr h10)
 have hups:=upsBC_ok hU
 have each:∀ i o,ops[i]?=some o→(∀ x∈o.after,Region.binds .any x=true→x.on < i) ∧
   (i < p→(∀ d,o.dst=some d→∀ j,j < p→j≠i→dstAt ops j≠some d)∧∀ q∈rd i,(∀ j,q.2=some j→j < p∧(cl i).contains j=true∧dstAt ops j=some q.1)∧(q.2=none→∀ j,j < p→dstAt ops j=some q.1→j=i∨(cl j).contains i=true)) ∧
   (¬ i < p→∀ j,j < i→(cl i).contains j=true):=by
  intro i o ho
  have hi:i < ops.size:=(Array.getElem?_eq_some_iff.1 ho).1
  have h1:=hB1 i (List.mem_range.2 hi)
  rw [ho] at h1
  simp only [Bool.and_eq_true] at h1
  obtain ⟨h4,h5⟩:=h1
  refine ⟨fun x hx hbx=>?_,fun hip=>?_,fun hip j hj=>?_⟩
  ·have:=Array.all_eq_true'.1 h4 x hx
   simpa [hbx] using this
  ·rw [if_pos hip] at h5
   simp only [Bool.and_eq_true] at h5
   obtain ⟨h7,h8⟩:=h5
   refine ⟨fun d hdd j hj hne=>?_,fun q hq=>?_⟩
   ·rw [hdd] at h7
    simp only [reduceCtorEq,decide_false,Bool.false_or] at h7
    have:=List.all_eq_true.1 h7 j (List.mem_range.2 hj)
    simpa [hne] using this
   ·have h9:=List.all_eq_true.1 h8 q hq
    refine ⟨fun j hj=>?_,fun hn j hj hd=>?_⟩
    ·rw [hj] at h9
     simp only [Bool.and_eq_true,decide_eq_true_eq] at h9
     exact ⟨h9.1.1,h9.1.2,h9.2⟩
    ·rw [hn] at h9
     have:=List.all_eq_true.1 h9 j (List.mem_range.2 hj)
     simp only [Bool.or_eq_true,decide_eq_true_eq] at this
     rcases this with (h10 | h10) | h10
     ·exact absurd hd h10
     ·exact .inl h10
     ·exact .inr h10
  ·rw [if_neg hip] at h5
   exact List.all_eq_true.1 h5 j (List.mem_range.2 hj)
 have wait1:∀ {j i:Nat} {listed:Array Bool},(∀ j o,ops[j]?=some o→listed.getD j false=true→∀ x∈o.after,Region.binds .any x=true→listed.getD x.on false=true)→waitB ops j i=true→listed.getD j false=true→listed.getD i false=true:=by
  intro j i listed hc hw hl
  unfold waitB at hw
  split at hw
  ·rename_i o ho
   obtain ⟨x,hx,hx2⟩:=Array.any_eq_true'.1 hw
   simp only [Bool.and_eq_true,beq_iff_eq] at hx2
   rw [← hx2.2]
   exact hc j o ho hl x hx hx2.1
  ·cases hw
 have wait:∀ {j i:Nat} {listed:Array Bool},j < ops.size→(∀ j o,ops[j]?=some o→listed.getD j false=true→∀ x∈o.after,Region.binds .any x=true→listed.getD x.on false=true)→(cl j).contains i=true→listed.getD j false=true→listed.getD i false=true:=by
  intro j
  induction j using Nat.strongRecOn with
  | _ j ih =>
   intro i listed hj hc hw hl
   rcases hcls j i hj hw with h1 | ⟨l,h1,h2,h3⟩
   ·exact wait1 hc h1 hl
   ·exact ih l h1 (by omega) hc h3 (wait1 hc h2 hl)
 have setD:∀ (listed:Array Bool) (i k:Nat),i < listed.size→(listed.setIfInBounds i true).getD k false=if k=i then true else listed.getD k false:=by
  intro listed i k hi
  simp only [Array.getD_eq_getD_getElem?,Array.getElem?_setIfInBounds]
  by_cases h:i=k
  ·subst h; simp [hi]
  ·simp [h,Ne.symm h]
 have upsame:∀ D c,(∀ j k,(j,c,k)∈ups→D j=false)→gC nws ups s.h D c=gA nws s.h D c:=fun D c h=>gC_none h
 intro m h1 n hm
 refine AW_anyT hm0 ?_
 let K1:AS→Prop:=fun s1=>∃ s' m',Q .normal s'∧Pin m m'∧Fit m' s' s1
 let JA:Array Bool→AS→Prop:=fun listed s1=>(∀ i,p≤i→listed.getD i false=false)∧∃ m2,Pin m m2∧HMf m2 (gC nws ups s.h (fun i=>listed.getD i false)) s1.h∧s1.sz=s.sz ∧
  (∀ j d,j < p→listed.getD j false=true→ToldC cl ups apps vals (fun i=>listed.getD i false) j→dstAt ops j=some d→Les (s1.t d) ((vals j).rn m2))∧(∀ u,(∀ j,j < p→dstAt ops j=some u→listed.getD j false=false)→Les (s1.t u) ((s.t u).rn m2))
 let JB:Array Bool→AS→Prop:=fun listed s1=>∃ q s' m',p≤q∧q≤ops.size∧(∀ i,i < ops.size→(listed.getD i false=true↔i < q))∧TailD P ops (Q .normal) (List.range' q (ops.size - q)) s'∧Pin m m'∧Fit m' s' s1
 have toB:∀ listed s1,listed.size=ops.size→(∀ i,i < p→listed.getD i false=true)→JA listed s1→JB listed s1:=by
  rintro listed s1 hsz hall ⟨h2,m2,pn,h3,h4,h5,h6⟩
  refine ⟨p,_,m2,Nat.le_refl _,hp,fun i hi=>⟨fun h=>?_,fun h=>hall i h⟩,hk,pn,h4,?_,fun u=>?_⟩
  ·rcases Nat.lt_or_ge i p with h7 | h7
   ·exact h7
   ·rw [h2 i h7] at h; cases h
  ·have hgA:∀ c,Hp.get ((ups.map fun e=>(e.2.1,e.2.2))++((nws.map fun e=>(e.2.1,Blk.pure e.2.2))++s.h)) c=gC nws ups s.h (fun i=>listed.getD i false) c:=by
    intro c
    rw [get_upsC (D:=fun i=>listed.getD i false) _ _ (fun j b k hm=>hall j (hups.lt hm))]
    unfold gC
    split
    ·rfl
    ·rw [get_news]
     unfold gA
     cases he:newAt nws c with
     | none=>rfl
     | some x =>
      obtain ⟨i,cs⟩:=x
      exact (if_pos (hall i (hnew _ _ _ (newAt_mem he)).1)).symm
   refine ⟨fun b k hb=>h3.blk b k (by rw [← hgA]; exact hb),fun b b' r hb hb'=>h3.inj b b' r (by rw [← hgA]; exact hb) (by rw [← hgA]; exact hb')⟩
  ·show Les (s1.t u) ((look TV.any (drawT s vals fin) u).rn m2)
   rcases drawT_look (s:=s) (vals:=vals) fin u with h7 | ⟨q,hq,h8,h9,h10⟩ | ⟨q,hq,j,h8,h9,h10⟩
   ·rw [h7]; exact .any _
   ·rw [h10]
    refine h6 u (fun j hj hd=>?_)
    have:=hB2 q hq
    rw [h9] at this
    have:=List.all_eq_true.1 this j (List.mem_range.2 hj)
    rw [h8] at this
    simp [hd] at this
   ·rw [h10]
    have:=hB2 q hq
    rw [h9] at this
    simp only [Bool.and_eq_true,decide_eq_true_eq] at this
    rw [h8] at this
    exact h5 j u this.1 (hall j this.1) (fun c a k hm hap _=>hups.finT hm hap hq h9) this.2
 refine AnyW_of_inv2 (fun listed s1=>listed.size=ops.size∧(∀ j o,ops[j]?=some o→listed.getD j false=true→∀ x∈o.after,Region.binds .any x=true→listed.getD x.on false=true)∧(JA listed s1∨JB listed s1)) ?_ ?_ ops.size _ _ (by simp) (by omega) ?_
 ·rintro listed s1 i o ⟨hsz,hcl,hJ⟩ hi ho
  obtain ⟨hfw,hpre,htl⟩:=each i o ho
  have hilt:i < ops.size:=(Array.getElem?_eq_some_iff.1 ho).1
  have hisz:i < listed.size:=by omega
  simp only [Region.ready,List.mem_filter,List.mem_range,Bool.and_eq_true,Bool.not_eq_true'] at hi
  obtain ⟨_,hun,haf⟩:=hi
  have hun2:listed.getD i false=false:=by
   simp only [Array.getD_eq_getD_getElem?,Array.getElem?_eq_getElem hisz,Option.getD_some] at hun ⊢
   exact hun
  rw [ho] at haf
  simp only [Option.map_some,Option.getD_some] at haf
  have haf2:∀ x∈o.after,Region.binds .any x=true→listed.getD x.on false=true:=by
   intro x hx hbx
   have:=Array.all_eq_true'.1 haf x hx
   simpa [hbx] using this
  have haf3:∀ j,(cl i).contains j=true→listed.getD j false=true:=by
   intro j hj
   have h1:∀ l,waitB ops i l=true→listed.getD l false=true:=by
    intro l hl
    unfold waitB at hl
    rw [ho] at hl
    obtain ⟨x,hx,hx2⟩:=Array.any_eq_true'.1 hl
    simp only [Bool.and_eq_true,beq_iff_eq] at hx2
    rw [← hx2.2]
    exact haf2 x hx hx2.1
   rcases hcls i j hilt hj with h2 | ⟨l,h2,h3,h4⟩
   ·exact h1 j h2
   ·exact wait (by omega) hcl h4 (h1 l h3)
  have hcl':∀ j o,ops[j]?=some o→(listed.setIfInBounds i true).getD j false=true→∀ x∈o.after,Region.binds .any x=true→(listed.setIfInBounds i true).getD x.on false=true:=by
   intro j oj hoj hlj x hx hbx
   rw [setD _ _ _ hisz] at hlj ⊢
   by_cases hji:j=i
   ·subst hji
    rw [ho] at hoj
    cases hoj
    rw [haf2 x hx hbx]
    simp
   ·rw [if_neg hji] at hlj
    rw [hcl j oj hoj hlj x hx hbx]
    simp
  have tail:JB listed s1→OpG P ops o (fun s2=>(listed.setIfInBounds i true).size=ops.size∧(∀ j o,ops[j]?=some o→(listed.setIfInBounds i true).getD j false=true→∀ x∈o.after,Region.binds .any x=true→(listed.setIfInBounds i true).getD x.on false=true)∧(JA (listed.setIfInBounds i true) s2∨JB (listed.setIfInBounds i true) s2)) s1:=by
   rintro ⟨q,s',m',hpq,hqs,hiff,htail,pn,ft⟩
   have hqi:q≤i:=by
    rcases Nat.lt_or_ge i q with h | h
    ·rw [(hiff i hilt).2 h] at hun2; cases hun2
    ·exact h
   have hiq:i=q:=by
    rcases Nat.lt_or_ge q i with h | h
    ·exfalso
     have h2:=haf3 q (htl (by omega) q h)
     have h3:=(hiff q (by omega)).1 h2
     omega
    ·omega
   subst hiq
   have hr:List.range' i (ops.size - i)=i::List.range' (i+1) (ops.size - (i+1)):=by
    rw [show ops.size - i=(ops.size - (i+1))+1 by omega,List.range'_succ]
   rw [hr] at htail
   obtain ⟨o',s2,ho',hop,hrest⟩:=htail
   rw [ho] at ho'
   cases ho'
   have hend:∀ s3,(∃ m2,Pin m' m2∧Fit m2 s2 s3)→(listed.setIfInBounds i true).size=ops.size∧(∀ j o,ops[j]?=some o→(listed.setIfInBounds i true).getD j false=true→∀ x∈o.after,Region.binds .any x=true→(listed.setIfInBounds i true).getD x.on false=true)∧(JA (listed.setIfInBounds i true) s3∨JB (listed.setIfInBounds i true) s3):=by
    rintro s3 ⟨m2,pn2,ft2⟩
    refine ⟨by simp [hsz],hcl',.inr ⟨i+1,s2,m2,by omega,by omega,fun k hk2=>?_,hrest,pn.trans pn2,ft2⟩⟩
    rw [setD _ _ _ hisz]
    by_cases hki:k=i
    ·subst hki; simp
    ·rw [if_neg hki]
     rw [hiff k hk2]
     omega
   have core:∀ oc:Oper,OpD P oc s' s2→OpW P oc (fun s2=>(listed.setIfInBounds i true).size=ops.size∧(∀ j o,ops[j]?=some o→(listed.setIfInBounds i true).getD j false=true→∀ x∈o.after,Region.binds .any x=true→(listed.setIfInBounds i true).getD x.on false=true)∧(JA (listed.setIfInBounds i true) s2∨JB (listed.setIfInBounds i true) s2)) s1:=by
    intro oc hop
    have h2:OpW P oc (fun s1=>∃ m2,Pin m' m2∧Fit m2 s2 s1) s1:=by
     intro Z a w r next Qx hn
     have:=hop m' s1.h s1.n ft.hm Z a w ⟨fun u=>ft.tm u _ _ _ (r.tm u),by rw [r.ts,ft.sz]; rfl,r.df,r.gd,r.hn,r.hl⟩ next Qx hn
     exact this
    exact h2.mono hend
   unfold OpDG at hop
   cases hgd:o.guard with
   | none =>
    rw [hgd] at hop
    exact OpG_none hgd (core o hop)
   | some g =>
    obtain ⟨j,want⟩:=g
    rw [hgd] at hop
    obtain ⟨d,hj,hd,⟨hv,hop⟩ | ⟨hv,hdst,hs2⟩⟩:=hop
    ·exact OpG_on hgd hj (by have:=ft.tm d; rw [hv] at this; exact this) (by rw [ft.sz]; exact Nat.lt_of_succ_le (Nat.le_of_ble_eq_true hd)) (core _ hop)
    ·refine OpG_off hgd hj ?_ (by rw [ft.sz]; exact Nat.lt_of_succ_le (Nat.le_of_ble_eq_true hd)) ?_ (hend _ ⟨m',.refl _,?_⟩)
     ·rcases hv with hv | hv
      ·exact .inl (by have:=ft.tm d; rw [hv] at this; exact this)
      ·exact .inr (by have:=ft.tm d; rw [hv] at this; exact this)
     ·have:=dOk_can (m:=m') (h1:=s1.h) (n:=s1.n) hdst
      unfold dOk at this ⊢
      rw [ft.sz]
      exact this
     ·subst hs2
      have:=put_fit (m:=m') (s:=s') (t:=s1.t) (h1:=s1.h) (n:=s1.n) (d:=o.dst) (v:=.c (.p (.tup []))) (av:=.tup []) ft.hm (fun u _=>ft.tm u) (.same _)
      rw [← ft.sz] at this
      exact this
  rcases hJ with hA | hB'
  ·rcases Nat.lt_or_ge i p with hip | hip
   ·obtain ⟨h2,m2,pn,h3,h4,h5,h6⟩:=hA
    obtain ⟨hdd,hrd⟩:=hpre hip
    have hop0:=AllOps.get _ _ hops i o (by rw [List.getElem?_take,if_pos hip]; simpa using ho)
    rw [Nat.zero_add] at hop0
    have hview:∀ c k,(viewC nws ups s.h (hv i)).get c=some k→gC nws ups s.h (fun i=>listed.getD i false) c=some k:=by
     intro c k hk2
     refine viewC_ok hups hip hk2 (fun j hj=>haf3 j hj) (fun j hjp hj=>?_) hun2
     rcases Bool.eq_false_or_eq_true (listed.getD j false) with hb | hb
     ·have:=wait (by omega) hcl hj hb
      rw [hun2] at this
      cases this
     ·exact hb
    have h3s:HM m2 (viewC nws ups s.h (hv i)) s1.h:=⟨fun b k hb=>h3.blk b k (hview b k hb),fun b b' r hb hb'=>by
     obtain ⟨k,hk⟩:=Option.ne_none_iff_exists'.1 hb
     obtain ⟨k',hk'⟩:=Option.ne_none_iff_exists'.1 hb'
     exact h3.inj b b' r (by rw [hview b k hk]; simp) (by rw [hview b' k' hk']; simp)⟩
    have hread:∀ u,Les (s1.t u) ((look TV.any (drawT s vals (rd i)) u).rn m2):=by
     intro u
     rcases drawT_look (s:=s) (vals:=vals) (rd i) u with h7 | ⟨q,hq,h8,h9,h10⟩ | ⟨q,hq,j,h8,h9,h10⟩
     ·rw [h7]; exact .any _
     ·rw [h10]
      refine h6 u (fun j hj hdj=>?_)
      rcases (hrd q hq).2 h9 j hj (by rw [hdj,h8]) with rfl | hw
      ·exact hun2
      ·rcases Bool.eq_false_or_eq_true (listed.getD j false) with hb | hb
       ·have:=wait (by omega) hcl hw hb
        rw [hun2] at this
        cases this
       ·exact hb
     ·rw [h10]
      obtain ⟨h11,h12,h13⟩:=(hrd q hq).1 j h9
      rw [h8] at h13
      refine h5 j u h11 (haf3 j h12) (fun c a k hm hap hDc=>?_) h13
      rcases hups.rdT hm hap hip hq h9 with h14 | h14 | h14 | h14 | h14
      ·exact .inl h14
      ·exact .inr (.inl h14)
      ·subst h14
       rw [show listed.getD c false=true from hDc] at hun2
       cases hun2
      ·have:=wait (by have:=hups.lt hm; omega) hcl h14 hDc
       rw [hun2] at this
       cases this
      ·exact .inr (.inr h14)
    have hDi:∀ k,p≤k→(listed.setIfInBounds i true).getD k false=false:=fun k hk2=>by
     rw [setD _ _ _ hisz,if_neg (by omega)]
     exact h2 k hk2
    have dstd:∀ d',dstAt ops i=some d'→o.dst=some d':=by
     intro d' hdj
     unfold dstAt at hdj
     rw [ho] at hdj
     exact hdj
    -- the slots behind
    have slots:∀ (m3:Nm) (av:AV) (h':Heap) (n':Nat),(∀ j,j < p→j≠i→listed.getD j false=true→ToldC cl ups apps vals (fun k=>(listed.setIfInBounds i true).getD k false) j→(vals j).rn m3=(vals j).rn m2)→(∀ u,(s.t u).rn m3=(s.t u).rn m2)→Les av ((vals i).rn m3) →
      (∀ j d',j < p→(listed.setIfInBounds i true).getD j false=true→ToldC cl ups apps vals (fun k=>(listed.setIfInBounds i true).getD k false) j→dstAt ops j=some d'→Les (((AS.mk s1.t h' n' s1.sz).put o.dst av).t d') ((vals j).rn m3)) ∧
      (∀ u,(∀ j,j < p→dstAt ops j=some u→(listed.setIfInBounds i true).getD j false=false)→Les (((AS.mk s1.t h' n' s1.sz).put o.dst av).t u) ((s.t u).rn m3)):=by
     intro m3 av h' n' hv1 hv2 hav
     refine ⟨fun j d' hj hlj htd hdj=>?_,fun u hno=>?_⟩
     ·rw [setD _ _ _ hisz] at hlj
      by_cases hji:j=i
      ·subst hji
       rw [putO_eq (dstd d' hdj)]
       exact hav
      ·rw [if_neg hji] at hlj
       rw [putO_ne (fun e=>hdd d' e j hj hji hdj),hv1 j hj hji hlj htd]
       exact h5 j d' hj hlj (fun c a k hm hap hDc=>htd c a k hm hap (by
        show (listed.setIfInBounds i true).getD c false=true
        rw [setD _ _ _ hisz]
        split
        ·rfl
        ·exact hDc)) hdj
     ·rw [putO_ne (fun e=>?_),hv2]
      ·refine h6 u (fun j hj hdj=>?_)
       have:=hno j hj hdj
       rw [setD _ _ _ hisz] at this
       split at this
       ·cases this
       ·exact this
      ·have:=hno i hip (by unfold dstAt; rw [ho]; exact e)
       rw [setD _ _ _ hisz,if_pos rfl] at this
       cases this
    have hsame:newOp nws i=none→upOp ups i=none→gC nws ups s.h (fun k=>(listed.setIfInBounds i true).getD k false)=gC nws ups s.h (fun k=>listed.getD k false):=by
      intro hnw hup
      funext c
      refine gC_same (fun j hj=>?_) hnw hup
      show (listed.setIfInBounds i true).getD j false=listed.getD j false
      rw [setD _ _ _ hisz,if_neg hj]
    have core:∀ oc:Oper,oc.dst=o.dst→OpXU P oc ⟨drawT s vals (rd i),viewC nws ups s.h (hv i),s.sz⟩ (vals i) (apps.contains i) (newOp nws i) (upOp ups i)→OpW P oc (fun s2=>(listed.setIfInBounds i true).size=ops.size∧(∀ j o,ops[j]?=some o→(listed.setIfInBounds i true).getD j false=true→∀ x∈o.after,Region.binds .any x=true→(listed.setIfInBounds i true).getD x.on false=true)∧(JA (listed.setIfInBounds i true) s2∨JB (listed.setIfInBounds i true) s2)) s1:=by
     intro oc hdc hop
     cases hnw:newOp nws i with
     | none =>
      cases hup:upOp ups i with
      | none =>
       rw [hnw,hup] at hop
       have hop2:=hop m2 s1.h s1.n h3s
       rw [show s.sz=s1.sz from h4.symm] at hop2
       refine OpW_frameO (t0:=(can m2 ⟨drawT s vals (rd i),viewC nws ups s.h (hv i),s1.sz⟩ s1.h s1.n).t) hread hop2 ?_
       rintro s' ⟨h',n',av,hlt',hkeep,rfl,hav⟩
       obtain ⟨hs1,hs2⟩:=slots m2 av h' n' (fun _ _ _ _ _=>rfl) (fun _=>rfl) hav
       refine ⟨av,h',n',rfl,by simp [hsz],hcl',.inl ⟨hDi,m2,pn,?_,by rw [putO_sz]; exact h4,by rw [hdc]; exact hs1,by rw [hdc]; exact hs2⟩⟩
       rw [hsame hnw hup,putO_h]
       exact ⟨fun b k hb=>(h3.blk b k hb).imp (fun ⟨r,h7,h8⟩=>⟨r,h7,hkeep r _ h8⟩) (fun x=>x),h3.inj⟩
      | some x =>
       obtain ⟨b,k2⟩:=x
       rw [hnw,hup] at hop
       have hmem:=upOp_mem hup
       have hgn:gC nws ups s.h (fun k=>(listed.setIfInBounds i true).getD k false) b=some k2:=by
        unfold gC
        rw [upD_here hups.chain hmem (show (listed.setIfInBounds i true).getD i false=true by rw [setD _ _ _ hisz,if_pos rfl]) (fun j c x hm hw=>by
         show (listed.setIfInBounds i true).getD j false=false
         have hji:j≠i:=by
          rintro rfl
          have:=haf3 j hw
          rw [hun2] at this
          cases this
         rw [setD _ _ _ hisz,if_neg hji]
         rcases Bool.eq_false_or_eq_true (listed.getD j false) with hb | hb
         ·have:=wait (by have:=hups.lt hm; omega) hcl hw hb
          rw [hun2] at this
          cases this
         ·exact hb)]
       have hgo:∀ c,c≠b→gC nws ups s.h (fun k=>(listed.setIfInBounds i true).getD k false) c=gC nws ups s.h (fun k=>listed.getD k false) c:=by
        intro c hc
        refine gC_same2 (fun j hj=>?_) hnw (fun j k he hji=>?_)
        ·show (listed.setIfInBounds i true).getD j false=listed.getD j false
         rw [setD _ _ _ hisz,if_neg hj]
        ·subst hji
         exact hc (hups.op he hmem)
       have hgb0:∃ k0,gC nws ups s.h (fun i=>listed.getD i false) b=some k0:=by
        obtain ⟨k0,hk0⟩:=Option.ne_none_iff_exists'.1 hop.1
        exact ⟨k0,hview b k0 hk0⟩
       obtain ⟨k0,hk0⟩:=hgb0
       have old:∀ c,gC nws ups s.h (fun k=>(listed.setIfInBounds i true).getD k false) c≠none→gC nws ups s.h (fun k=>listed.getD k false) c≠none:=by
        intro c hc
        by_cases hcb:c=b
        ·subst hcb; rw [hk0]; simp
        ·rwa [hgo c hcb] at hc
       cases hap:apps.contains i with
       | true =>
        rw [hap] at hop
        obtain ⟨i0,cs0,hn0⟩:=hups.anew hmem hap
        obtain ⟨_,hb2,_,hln,hhn,_,_⟩:=hnew i0 b cs0 hn0
        have hop2:AppD P oc _ (vals i) b k2:=hop.2
        have hop2:=hop2 m2 s1.h s1.n h3s
        rw [show s.sz=s1.sz from h4.symm] at hop2
        refine OpW_frameO (t0:=(can m2 ⟨drawT s vals (rd i),viewC nws ups s.h (hv i),s1.sz⟩ s1.h s1.n).t) hread hop2 ?_
        rintro s' ⟨ro,h',n',av,rfl,hav,hcase,hoth⟩
        have hin:(fun k=>(listed.setIfInBounds i true).getD k false) i=true:=by
         show (listed.setIfInBounds i true).getD i false=true
         rw [setD _ _ _ hisz,if_pos rfl]
        obtain ⟨hs1,hs2⟩:=slots (nset m2 b ro) av h' n' (fun j hj hji hlj htd=>by
         rcases htd i b k2 hmem hap hin with h7 | h7 | h7
         ·exact TV.rn_no h7
         ·exact absurd h7 hji
         ·have:=wait (by omega) hcl h7 hlj
          rw [hun2] at this
          cases this) (fun u=>TV.rn_no (look_no hln u)) hav
        refine ⟨av,_,n',rfl,by simp [hsz],hcl',.inl ⟨hDi,nset m2 b ro,pn.trans (pin_set hb2),?_,by rw [putO_sz]; exact h4,by rw [hdc]; exact hs1,by rw [hdc]; exact hs2⟩⟩
        rw [putO_h]
        have hcell:∀ c k,c≠b→gC nws ups s.h (fun k=>listed.getD k false) c=some k→k.cells (nset m2 b ro)=k.cells m2:=by
         intro c k hc hk
         rcases gC_some hk with ⟨j,he⟩ | he
         ·exact Blk.cells_no (hups.no he hn0)
         ·unfold gA at he
          split at he
          ·split at he
           ·cases he; rfl
           ·exact Blk.cells_no (hp_no hhn c k he)
          ·exact Blk.cells_no (hp_no hhn c k he)
        have hoth2:∀ c k q,c≠b→gC nws ups s.h (fun k=>listed.getD k false) c=some k→m2 c=some q→s1.h q=some (k.cells m2)→h' q=s1.h q∧ro≠some q:=by
         intro c k q hc hk hq hh
         exact hoth q (by rw [hh]; simp) (fun e=>hc (h3.inj c b q (by rw [hk]; simp) (by rw [hk0]; simp) hq e))
        refine ⟨fun c k hk2=>?_,fun c c' q hc hc' f1 f2=>?_⟩
        ·by_cases hcb:c=b
         ·subst hcb
          rw [hgn] at hk2
          cases hk2
          rw [nset_eq]
          exact hcase
         ·rw [hgo c hcb] at hk2
          rw [nset_ne _ _ hcb,hcell c k hcb hk2]
          rcases h3.blk c k hk2 with ⟨r',h7,h8⟩ | h7
          ·exact .inl ⟨r',h7,(hoth2 c k r' hcb hk2 h7 h8).1.trans h8⟩
          ·exact .inr h7
        ·have noq:∀ c,c≠b→gC nws ups s.h (fun k=>listed.getD k false) c≠none→m2 c=some q→ro≠some q:=by
          intro c hcb hc hq
          obtain ⟨k,hk⟩:=Option.ne_none_iff_exists'.1 hc
          rcases h3.blk c k hk with ⟨r',h7,h8⟩ | ⟨h7,_⟩
          ·rw [hq] at h7
           cases h7
           exact (hoth2 c k q hcb hk hq h8).2
          ·rw [hq] at h7; cases h7
         by_cases hcb:c=b
         ·subst hcb
          rw [nset_eq] at f1
          by_cases hcb':c'=c
          ·exact hcb'.symm
          ·rw [nset_ne _ _ hcb'] at f2
           exact absurd f1 (noq c' hcb' (old c' hc') f2)
         ·rw [nset_ne _ _ hcb] at f1
          by_cases hcb':c'=b
          ·subst hcb'
           rw [nset_eq] at f2
           exact absurd f2 (noq c hcb (old c hc) f1)
          ·rw [nset_ne _ _ hcb'] at f2
           exact h3.inj c c' q (old c hc) (old c' hc') f1 f2
       | false =>
       rw [hap] at hop
       have hop2:UpdD P oc _ (vals i) b k2:=hop.2
       have hop2:=hop2 m2 s1.h s1.n h3s
       rw [show s.sz=s1.sz from h4.symm] at hop2
       refine OpW_frameO (t0:=(can m2 ⟨drawT s vals (rd i),viewC nws ups s.h (hv i),s1.sz⟩ s1.h s1.n).t) hread hop2 ?_
       rintro s' ⟨r,n',av,hr,rfl,hav⟩
       obtain ⟨hs1,hs2⟩:=slots m2 av (s1.h.set r (some (k2.cells m2))) n' (fun _ _ _ _ _=>rfl) (fun _=>rfl) hav
       refine ⟨av,_,n',rfl,by simp [hsz],hcl',.inl ⟨hDi,m2,pn,?_,by rw [putO_sz]; exact h4,by rw [hdc]; exact hs1,by rw [hdc]; exact hs2⟩⟩
       rw [putO_h]
       refine ⟨fun c k hk2=>?_,fun c c' q hc hc' f1 f2=>?_⟩
       ·by_cases hcb:c=b
        ·subst hcb
         rw [hgn] at hk2
         cases hk2
         exact .inl ⟨r,hr,Heap.set_eq _ _ _⟩
        ·rw [hgo c hcb] at hk2
         rcases h3.blk c k hk2 with ⟨r',h7,h8⟩ | h7
         ·left
          refine ⟨r',h7,?_⟩
          have hne:r'≠r:=by
           rintro rfl
           exact hcb (h3.inj c b r' (by rw [hk2]; simp) (by rw [hk0]; simp) h7 hr)
          show s1.h.set r (some _) r'=_
          rw [Heap.set_ne _ _ _ _ hne]
          exact h8
         ·exact .inr h7
       ·exact h3.inj c c' q (old c hc) (old c' hc') f1 f2
     | some x =>
      obtain ⟨b,cs⟩:=x
      have hup:upOp ups i=none:=by
       cases hup:upOp ups i with
       | none=>rfl
       | some y=>rw [hnw,hup] at hop; exact hop.elim
      rw [hnw,hup] at hop
      have hmem:=newOp_mem hnw
      obtain ⟨_,hb2,hgn,hln,hhn,huniq,hvn⟩:=hnew i b cs hmem
      have hop2:=hop m2 s1.h s1.n h3s
      rw [show s.sz=s1.sz from h4.symm] at hop2
      refine OpW_frameO (t0:=(can m2 ⟨drawT s vals (rd i),viewC nws ups s.h (hv i),s1.sz⟩ s1.h s1.n).t) hread hop2 ?_
      rintro s' ⟨r,n',av,hr,hfree,hlt',rfl,hav⟩
      obtain ⟨hs1,hs2⟩:=slots (nset m2 b (some r)) av (s1.h.set r (some cs)) n' (fun j hj hji hlj _=>by
       rcases hvn j hj with h7 | h7 | h7
       ·exact TV.rn_no h7
       ·exact absurd h7 hji
       ·have:=wait (by omega) hcl h7 hlj
        rw [hun2] at this
        cases this) (fun u=>TV.rn_no (look_no hln u)) (hav _ (nset_eq _ _ _))
      refine ⟨av,_,n',rfl,by simp [hsz],hcl',.inl ⟨hDi,nset m2 b (some r),pn.trans (pin_set hb2),?_,by rw [putO_sz]; exact h4,by rw [hdc]; exact hs1,by rw [hdc]; exact hs2⟩⟩
      rw [putO_h]
      have hat:newAt nws b=some (i,cs):=by
       obtain ⟨x,hx⟩:=newAt_of_mem hmem
       have h7:=newAt_mem hx
       have h8:=(huniq _ _ _ h7).2 rfl
       obtain ⟨i',cs'⟩:=x
       simp only at h7 h8
       subst h8
       have key:∀ (l:News),(∀ e∈l,e∈nws)→newOp l i'=some (b,cs)→newAt l b=some (i',cs')→cs'=cs:=by
        intro l hl e1 e2
        induction l with
        | nil=>cases e1
        | cons e l ih =>
         unfold newOp at e1
         unfold newAt at e2
         rw [List.map_cons,look_cons] at e1 e2
         obtain ⟨ei,eb,ec⟩:=e
         simp only at e1 e2
         have h9:=huniq _ _ _ (hl _ List.mem_cons_self)
         by_cases h10:ei=i'
         ·have h11:=h9.1 h10
          rw [if_pos h10.symm] at e1
          rw [if_pos h11.symm] at e2
          cases e1; cases e2; rfl
         ·have h11:eb≠b:=fun h=>h10 (h9.2 h)
          rw [if_neg (fun h=>h10 h.symm)] at e1
          rw [if_neg (fun h=>h11 h.symm)] at e2
          exact ih (fun x hx=>hl x (List.mem_cons_of_mem _ hx)) e1 e2
       have:=key nws (fun e he=>he) hnw hx
       subst this
       exact hx
      have hupb:∀ j k,(j,b,k)∈ups→listed.getD j false=false∧j≠i:=by
       intro j k h7
       have h8:=hups.after h7 hmem
       refine ⟨?_,fun e=>?_⟩
       ·rcases Bool.eq_false_or_eq_true (listed.getD j false) with hb | hb
        ·have:=wait (by have:=hups.lt h7; omega) hcl h8 hb
         rw [hun2] at this
         cases this
        ·exact hb
       ·subst e
        have:=upOp_of_mem h7
        rw [hup] at this
        exact this rfl
      have hgb:∀ D:Nat→Bool,(∀ j k,(j,b,k)∈ups→D j=false)→gC nws ups s.h D b=if D i then some (.pure cs) else none:=by
       intro D hD
       rw [upsame D b hD]
       unfold gA
       rw [hat]
       simp only
       rw [hgn]
      have hgo:∀ c,c≠b→gC nws ups s.h (fun k=>(listed.setIfInBounds i true).getD k false) c=gC nws ups s.h (fun k=>listed.getD k false) c:=by
       intro c hc
       refine gC_same3 (fun j hj=>?_) hup (fun j cs' he hji=>?_)
       ·show (listed.setIfInBounds i true).getD j false=listed.getD j false
        rw [setD _ _ _ hisz,if_neg hj]
       ·exact hc ((huniq _ _ _ (newAt_mem he)).1 hji)
      have hcell:∀ c k,c≠b→gC nws ups s.h (fun k=>listed.getD k false) c=some k→k.cells (nset m2 b (some r))=k.cells m2:=by
       intro c k hc hk
       rcases gC_some hk with ⟨j,he⟩ | he
       ·exact Blk.cells_no (hups.no he hmem)
       ·unfold gA at he
        split at he
        ·split at he
         ·cases he; rfl
         ·exact Blk.cells_no (hp_no hhn c k he)
        ·exact Blk.cells_no (hp_no hhn c k he)
      have hfr:∀ c,gC nws ups s.h (fun k=>listed.getD k false) c≠none→m2 c≠some r:=by
       intro c hc he
       obtain ⟨k,hk⟩:=Option.ne_none_iff_exists'.1 hc
       rcases h3.blk c k hk with ⟨r',h7,h8⟩ | ⟨h7,_⟩
       ·rw [he] at h7
        cases h7
        rw [hfree] at h8
        cases h8
       ·rw [he] at h7; cases h7
      refine ⟨fun c k hk=>?_,fun c c' q hc hc' f1 f2=>?_⟩
      ·by_cases hcb:c=b
       ·subst hcb
        rw [hgb _ (fun j k he=>by
         obtain ⟨h7,h8⟩:=hupb j k he
         show (listed.setIfInBounds i true).getD j false=false
         rw [setD _ _ _ hisz,if_neg h8]
         exact h7)] at hk
        rw [setD _ _ _ hisz,if_pos rfl,if_pos rfl] at hk
        cases hk
        exact .inl ⟨r,nset_eq _ _ _,Heap.set_eq _ _ _⟩
       ·rw [hgo c hcb] at hk
        rw [nset_ne _ _ hcb,hcell c k hcb hk]
        rcases h3.blk c k hk with ⟨r',h7,h8⟩ | h7
        ·left
         refine ⟨r',h7,?_⟩
         have hne:r'≠r:=by
          rintro rfl
          exact hfr c (by rw [hk]; simp) h7
         show s1.h.set r (some cs) r'=_
         rw [Heap.set_ne _ _ _ _ hne]
         exact h8
        ·exact .inr h7
      ·by_cases hcb:c=b
       ·subst hcb
        rw [nset_eq] at f1
        cases f1
        by_cases hcb':c'=c
        ·exact hcb'.symm
        ·rw [nset_ne _ _ hcb'] at f2
         rw [hgo c' hcb'] at hc'
         exact absurd f2 (hfr c' hc')
       ·rw [nset_ne _ _ hcb] at f1
        rw [hgo c hcb] at hc
        by_cases hcb':c'=b
        ·subst hcb'
         rw [nset_eq] at f2
         cases f2
         exact absurd f1 (hfr c hc)
        ·rw [nset_ne _ _ hcb'] at f2
         rw [hgo c' hcb'] at hc'
         exact h3.inj c c' q hc hc' f1 f2
    unfold OpGXU at hop0
    cases hgd:o.guard with
    | none =>
     rw [hgd] at hop0
     exact OpG_none hgd (core o rfl hop0)
    | some g =>
     obtain ⟨j,want⟩:=g
     rw [hgd] at hop0
     obtain ⟨e,hj,he,⟨hv,hop⟩ | ⟨hv,hdst,hvi,hno,hno2⟩⟩:=hop0
     ·exact OpG_on hgd hj (by have:=hread e; rw [show look TV.any (drawT s vals (rd i)) e=_ from hv] at this; exact this) (by rw [h4]; exact Nat.lt_of_succ_le (Nat.le_of_ble_eq_true he)) (core _ rfl hop)
     ·obtain ⟨hs1,hs2⟩:=slots m2 (.tup []) s1.h s1.n (fun _ _ _ _ _=>rfl) (fun _=>rfl) (by rw [hvi]; exact .same _)
      refine OpG_off hgd hj ?_ (by rw [h4]; exact Nat.lt_of_succ_le (Nat.le_of_ble_eq_true he)) ?_ ?_
      ·rcases hv with hv | hv
       ·exact .inl (by have:=hread e; rw [show look TV.any (drawT s vals (rd i)) e=_ from hv] at this; exact this)
       ·exact .inr (by have:=hread e; rw [show look TV.any (drawT s vals (rd i)) e=_ from hv] at this; exact this)
      ·unfold dOk
       unfold dOk2 at hdst
       cases hod:o.dst with
       | none=>rfl
       | some d =>
        rw [hod] at hdst
        exact decide_eq_true (by rw [h4]; exact Nat.lt_of_succ_le (Nat.le_of_ble_eq_true hdst))
      ·refine ⟨by simp [hsz],hcl',.inl ⟨hDi,m2,pn,?_,by rw [putO_sz]; exact h4,hs1,hs2⟩⟩
       rw [hsame hno hno2,putO_h]
       exact h3
   ·refine tail (toB listed s1 hsz (fun k hk2=>?_) hA)
    exact haf3 k (htl (by omega) k (by omega))
  ·exact tail hB'
 ·rintro listed s1 ⟨hsz,hcl,hJ⟩ hnil
  have hall:∀ i,i < ops.size→listed.getD i false=true:=by
   intro i
   induction i using Nat.strongRecOn with
   | _ i ih =>
    intro hi
    rcases Bool.eq_false_or_eq_true (listed.getD i false) with h | h
    ·exact h
    ·exfalso
     have ho:ops[i]?=some ops[i]:=Array.getElem?_eq_getElem hi
     have hmem:i∈Region.ready .any ops listed:=by
      simp only [Region.ready,List.mem_filter,List.mem_range,Bool.and_eq_true,Bool.not_eq_true']
      refine ⟨hi,?_,?_⟩
      ·have:i < listed.size:=by omega
       simp only [Array.getD_eq_getD_getElem?,Array.getElem?_eq_getElem this,Option.getD_some] at h ⊢
       exact h
      ·rw [ho]
       simp only [Option.map_some,Option.getD_some]
       rw [Array.all_eq_true']
       intro x hx
       rcases Bool.eq_false_or_eq_true (Region.binds .any x) with hb | hb
       ·have hlt2:=(each i _ ho).1 x hx hb
        have:=ih x.on hlt2 (by omega)
        simp only [hb,this]
        rfl
       ·simp [hb]
     rw [hnil] at hmem
     cases hmem
  have hB':JB listed s1:=by
   rcases hJ with hA | hB'
   ·exact toB listed s1 hsz (fun i hi=>hall i (by omega)) hA
   ·exact hB'
  obtain ⟨q,s',m',hpq,hqs,hiff,htail,pn,ft⟩:=hB'
  have hq:q=ops.size:=by
   rcases Nat.lt_or_ge q ops.size with h | h
   ·have:=(hiff q h).1 (hall q h)
    omega
   ·omega
  subst hq
  rw [Nat.sub_self] at htail
  exact ⟨s',m',htail,pn,ft⟩
 ·have h0:gC nws ups s.h (fun k=>(Array.replicate ops.size false).getD k false)=s.h.get:=by
   funext c
   rw [upsame _ _ (fun _ _ _=>repl_false _ _)]
   unfold gA
   split
   ·exact if_neg (fun e=>Bool.noConfusion ((repl_false _ _).symm.trans e))
   ·rfl
  refine ⟨by simp,fun j o ho hl=>?_,.inl ⟨fun i hi=>repl_false _ _,m,.refl m,by rw [h0]; exact hm.toF,rfl,fun j d hj hl _ _=>?_,fun u hu=>.same _⟩⟩
  ·rw [repl_false] at hl; cases hl
  ·rw [repl_false] at hl; cases hl
end Go.Proofs.Ytglgdaeimfdpfaa.VM
