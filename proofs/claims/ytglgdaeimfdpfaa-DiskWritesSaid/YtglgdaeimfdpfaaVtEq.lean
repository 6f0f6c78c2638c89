/- Words and rules that the proof uses. -/
import Derived.Test.YtglgdaeimfdpfaaVtMore
import Derived.Laws.StructEq
import Derived.ChangeKeysEq
namespace Go.Proofs.Ytglgdaeimfdpfaa.VM
open Go Go.RowKit
def EqT {α:Type} (P:Program) (t:TypeId) (k:Nat) (f:α→AV):Prop :=
 ∀ (d:Nat) (a b:α) (Z:Nat→Prop) (w:World) (va vb:Value),k≤d→Rel Z w (f a) va→Rel Z w (f b) vb→∃ r:Bool,(Op.equalIn d t va vb).run P w=.ok r w∧(r=true↔a=b)
section base
variable {P:Program} {t:TypeId}
theorem eqt_int {k':IntKind} (h:P.underlying t=some (.int k')):EqT P t 1 AV.int:=by
 intro d a b Z w va vb hd ha hb
 obtain ⟨d,rfl⟩:∃ m,d=m+1:=⟨d - 1,by omega⟩
 rw [ha.sc_inv,hb.sc_inv]
 exact ⟨_,run_equalIn_int w d t _ k' a b h,by simp⟩
theorem eqt_b8 {k':IntKind} (h:P.underlying t=some (.int k')):EqT P t 1 AV.b8:=by
 intro d a b Z w va vb hd ha hb
 obtain ⟨d,rfl⟩:∃ m,d=m+1:=⟨d - 1,by omega⟩
 rw [ha.sc_inv,hb.sc_inv]
 refine ⟨_,run_equalIn_int w d t _ k' _ _ h,?_⟩
 rw [← UInt8.toNat_inj]
 simp only [beq_iff_eq]
 exact ⟨fun h=>by exact_mod_cast h,fun h=>by rw [h]⟩
end base
theorem part_rel {P:Program} {Z:Nat→Prop} {w:World} {t:TypeId} {d:TypeDesc} {z by':Nat} {zv:Value} {cs sub:List AV} {vs:Array Value} {off:Nat} (hu:P.underlying t=some d) (hag:isAggD d=true) (hI:Info P t z by' zv) (h:Rel Z w (.agg cs) (.agg vs)) (S:Sub cs off sub) (hl:sub.length=z) :
  ∃ v,(part t vs off).run P w=.ok v w∧Rel Z w (.agg sub) v:=by
 obtain ⟨vs',hv,hlen,h1,hr⟩:=h.agg_inv
 cases hv
 refine ⟨.agg (vs.extract off (off+z)),?_,?_⟩
 ·simp [part,isAgg_run hu,hag,info_run hI.sz]
 ·have:=extract_rel (o:=off) (z:=z) hlen h1 hr
  rwa [S.take hl] at this
theorem part_rel1 {P:Program} {Z:Nat→Prop} {w:World} {t:TypeId} {d:TypeDesc} {cs:List AV} {c:AV} {vs:Array Value} {off:Nat} (hu:P.underlying t=some d) (hag:isAggD d=false) (h:Rel Z w (.agg cs) (.agg vs)) (S:Sub cs off [c]) :
  ∃ v,(part t vs off).run P w=.ok v w∧Rel Z w c v:=by
 obtain ⟨vs',hv,hlen,h1,hr⟩:=h.agg_inv
 cases hv
 have hc:=S.one
 have hlt:off < vs.size:=by rw [← hlen]; exact (List.getElem?_eq_some_iff.1 hc).1
 exact ⟨vs[off],by simp [part,isAgg_run hu,hag,Array.getElem?_eq_getElem hlt],hr _ _ _ hc (Array.getElem?_eq_getElem hlt)⟩
def FieldEq {α:Type} (P:Program) (k:Nat) (cs:α→List AV) (f:Field) (p:α→α→Prop):Prop :=
 f.name ≠ "_" ∧ ∀ (d : Nat) (a b : α) (Z : Nat → Prop) (w : World) (va vb : Array Value), k ≤ d → Rel Z w (.agg (cs a)) (.agg va) → Rel Z w (.agg (cs b)) (.agg vb) →
  ∃ x y r,(part f.type va f.offset).run P w=.ok x w∧(part f.type vb f.offset).run P w=.ok y w∧(Op.equalIn d f.type x y).run P w=.ok r w∧(r=true↔p a b)
theorem fe_one {α β : Type} {P : Program} {k : Nat} {cs : α → List AV} {f : Field} {d : TypeDesc} {g : β → AV} {pr : α → β} (hn : f.name ≠ "_") (hu : P.underlying f.type = some d) (hag : isAggD d = false) (he : EqT P f.type k g) (S : ∀ a, Sub (cs a) f.offset [g (pr a)]) : FieldEq P k cs f (fun a b => pr a = pr b) := by
 refine ⟨hn,fun d a b Z w va vb hd ha hb=>?_⟩
 obtain ⟨x,h1,h2⟩:=part_rel1 hu hag ha (S a)
 obtain ⟨y,h3,h4⟩:=part_rel1 hu hag hb (S b)
 obtain ⟨r,h5,h6⟩:=he d (pr a) (pr b) Z w x y hd h2 h4
 exact ⟨x,y,r,h1,h3,h5,h6⟩
theorem fe_agg {α β : Type} {P : Program} {k z by' : Nat} {zv : Value} {cs : α → List AV} {f : Field} {d : TypeDesc} {g : β → List AV} {pr : α → β} (hn : f.name ≠ "_") (hu : P.underlying f.type = some d) (hag : isAggD d = true) (hI : Info P f.type z by' zv) (he : EqT P f.type k (fun x => .agg (g x))) (S : ∀ a, Sub (cs a) f.offset (g (pr a))) (hl : ∀ x, (g x).length = z) : FieldEq P k cs f (fun a b => pr a = pr b) := by
 refine ⟨hn,fun d a b Z w va vb hd ha hb=>?_⟩
 obtain ⟨x,h1,h2⟩:=part_rel hu hag hI ha (S a) (hl _)
 obtain ⟨y,h3,h4⟩:=part_rel hu hag hI hb (S b) (hl _)
 obtain ⟨r,h5,h6⟩:=he d (pr a) (pr b) Z w x y hd h2 h4
 exact ⟨x,y,r,h1,h3,h5,h6⟩
theorem FieldEq.more {α:Type} {P:Program} {k k':Nat} {cs:α→List AV} {f:Field} {p:α→α→Prop} (h:FieldEq P k cs f p) (hk:k≤k'):FieldEq P k' cs f p :=
 ⟨h.1,fun d a b Z w va vb hd ha hb=>h.2 d a b Z w va vb (by omega) ha hb⟩
def FieldsEq {α:Type} (P:Program) (k:Nat) (cs:α→List AV):List Field→List (α→α→Prop)→Prop
 | [],[]=>True
 | f::fs,p::ps=>FieldEq P k cs f p∧FieldsEq P k cs fs ps
 | _,_=>False
theorem eqFields_run {α:Type} {P:Program} {k:Nat} {cs:α→List AV} {a b:α} {Z:Nat→Prop} {w:World} {va vb:Array Value} {d:Nat} (hd:k≤d) (ha:Rel Z w (.agg (cs a)) (.agg va)) (hb:Rel Z w (.agg (cs b)) (.agg vb)):∀ (fs:List Field) (ps:List (α→α→Prop)),FieldsEq P k cs fs ps →
  ∃ r:Bool,(Op.eqFields d va vb fs).run P w=.ok r w∧(r=true↔∀ p∈ps,p a b)
 | [],[],_=>⟨true,by simp [Op.eqFields],by simp⟩
 | [],_::_,h=>h.elim
 | _::_,[],h=>h.elim
 | f::fs,p::ps,h=>by
  obtain ⟨x,y,r,h1,h2,h3,h4⟩:=h.1.2 d a b Z w va vb hd ha hb
  obtain ⟨r',h5,h6⟩:=eqFields_run hd ha hb fs ps h.2
  simp only [Op.eqFields,h.1.1,ne_eq,not_false_eq_true,if_true,Sem.run_bind,h1,h2,h3,Result.andThen_ok]
  cases r
  ·refine ⟨false,by simp,?_⟩
   simp only [Bool.false_eq_true,false_iff]
   intro hall
   exact absurd (h4.2 (hall p (by simp))) (by simp)
  ·refine ⟨r',by simpa using h5,?_⟩
   rw [h6]
   simp [h4.1 rfl]
theorem eqt_struct {α:Type} {P:Program} {t:TypeId} {k:Nat} {cs:α→List AV} {fsA:Array Field} (ps:List (α→α→Prop)) (hu0:P.underlying t=some (.struct fsA)) (hp:P.stoodInHeld t=false) (hf:FieldsEq P k cs fsA.toList ps) (hab:∀ a b,(∀ p∈ps,p a b)↔a=b):EqT P t (k+1) (fun x=>.agg (cs x)):=by
 intro d a b Z w va vb hd ha hb
 obtain ⟨d,rfl⟩:∃ m,d=m+1:=⟨d - 1,by omega⟩
 obtain ⟨xs,rfl,_,_⟩:=ha.agg_inv
 obtain ⟨ys,rfl,_,_⟩:=hb.agg_inv
 have hfs:P.fieldsOf t=fsA:=by simp [Program.fieldsOf,hu0]
 rw [run_equalIn_struct w d t xs ys (by rw [hfs]; exact hu0) hp,hfs]
 obtain ⟨r,h1,h2⟩:=eqFields_run (d:=d) (by omega) ha hb fsA.toList ps hf
 exact ⟨r,h1,h2.trans (hab a b)⟩
theorem eqItems_run {P:Program} {e:TypeId} {c d:Nat} {w:World} {xs ys:Array Value} {p:Nat→Prop}:∀ (l:List Nat),(∀ i∈l,∃ x y r,(part e xs (i * c)).run P w=.ok x w∧(part e ys (i * c)).run P w=.ok y w∧(Op.equalIn d e x y).run P w=.ok r w∧(r=true↔p i)) →
  ∃ r:Bool,(Op.eqItems d e c xs ys l).run P w=.ok r w∧(r=true↔∀ i∈l,p i)
 | [],_=>⟨true,by simp [Op.eqItems],by simp⟩
 | i::l,h=>by
  obtain ⟨x,y,r,h1,h2,h3,h4⟩:=h i (by simp)
  obtain ⟨r',h5,h6⟩:=eqItems_run (p:=p) l (fun j hj=>h j (by simp [hj]))
  simp only [Op.eqItems,Sem.run_bind,h1,h2,h3,Result.andThen_ok]
  cases r
  ·refine ⟨false,by simp,?_⟩
   simp only [Bool.false_eq_true,false_iff]
   intro hall
   exact absurd (h4.2 (hall i (by simp))) (by simp)
  ·refine ⟨r',by simpa using h5,?_⟩
   rw [h6]
   simp [h4.1 rfl]
theorem vec_ext {α:Type} [Inhabited α] {n:Nat} (a b:Vector α n):(∀ i∈List.range n,vrd a i=vrd b i)↔a=b:=by
 constructor
 ·intro h
  apply Vector.toList_inj.1
  apply List.ext_getElem?
  intro i
  by_cases hi:i < n
  ·have:=h i (List.mem_range.2 hi)
   simp only [vrd,List.getD] at this
   rw [List.getElem?_eq_getElem (by simpa using hi),List.getElem?_eq_getElem (by simpa using hi)] at this ⊢
   simpa using this
  ·rw [List.getElem?_eq_none (by simpa using hi),List.getElem?_eq_none (by simpa using hi)]
 ·rintro rfl i _; rfl
theorem eqt_arr1 {α:Type} [Inhabited α] {P:Program} {t e:TypeId} {k n by':Nat} {zv:Value} {d':TypeDesc} {g:α→AV} (hu:P.underlying t=some (.array n e)) (hI:Info P e 1 by' zv) (hc:P.cellsOf e=1) (hue:P.underlying e=some d') (hag:isAggD d'=false) (he:EqT P e k g):EqT P t (k+1) (fun v:Vector α n=>.agg (v.toList.map g)):=by
 intro d a b Z w va vb hd ha hb
 obtain ⟨d,rfl⟩:∃ m,d=m+1:=⟨d - 1,by omega⟩
 obtain ⟨xs,rfl,_,_⟩:=ha.agg_inv
 obtain ⟨ys,rfl,_,_⟩:=hb.agg_inv
 obtain ⟨ie,hie,_⟩:=hI.get
 rw [run_equalIn_array w d xs ys hu hie,hc]
 obtain ⟨r,h1,h2⟩:=eqItems_run (P:=P) (e:=e) (c:=1) (d:=d) (w:=w) (xs:=xs) (ys:=ys) (p:=fun i=>vrd a i=vrd b i) (List.range n) (fun i hi=>by
  have hi':=List.mem_range.1 hi
  obtain ⟨x,h3,h4⟩:=part_rel1 hue hag ha (Sub.vmap (v:=a) hi')
  obtain ⟨y,h5,h6⟩:=part_rel1 hue hag hb (Sub.vmap (v:=b) hi')
  obtain ⟨r,h7,h8⟩:=he d _ _ Z w x y (by omega) h4 h6
  exact ⟨x,y,r,h3,h5,h7,h8⟩)
 exact ⟨r,h1,h2.trans (vec_ext a b)⟩
section ops
variable {P:Program} {s:TS} {dst:Option Tmp} {ty:TypeId} {pos:String} {after:Array Edge}
theorem eqGuard_aggs {op:BinOp} {t:TypeId} {x y:Operand} {xs ys:Array Value} {w:World} (hm:P.eqGuardType P.depth t=false):(eqGuard op t x y (.agg xs) (.agg ys)).run P w=.ok () w:=run_eqGuard_agg w op t x y xs ys hm
theorem p_nea {α:Type} [DecidableEq α] {t yt:TypeId} {x y:Operand} {k:Nat} {cs:α→List AV} {a b:α} (hd:dOk2 s dst=true) (he:EqT P t k (fun x=>.agg (cs x))) (hk:Nat.ble k 10000=true) (hm:P.eqGuardType P.depth t=false) (hx:tev s x=.c (.p (.agg (cs a)))) (hy:tev s y=.c (.p (.agg (cs b)))):PureD P ⟨dst,.binOp .neq t x y yt,ty,pos,after,none⟩ s (.c (.p (.bool (decide (a≠b))))):=by
 refine PureD_val hd (av:=.bool (decide (a≠b))) (fun _=>.same _) (fun Z ac w r=>?_)
 obtain ⟨m1,h1⟩:=r x _ hx
 obtain ⟨m2,h2⟩:=r y _ hy
 obtain ⟨xs,h3,_,_⟩:=Rel.agg_inv h1
 obtain ⟨ys,h4,_,_⟩:=Rel.agg_inv h2
 rw [h3] at h1
 rw [h4] at h2
 obtain ⟨rr,h5,h6⟩:=he 10000 a b Z w _ _ (Nat.le_of_ble_eq_true hk) h1 h2
 have hr:rr=decide (a=b):=by
  by_cases hab:a=b
  ·rw [decide_eq_true hab]; exact h6.2 hab
  ·rw [decide_eq_false hab]
   cases rr with
   | false=>rfl
   | true=>exact absurd (h6.1 rfl) hab
 subst hr
 refine ⟨.bool (decide (a≠b)),?_,.sc _ rfl⟩
 simp only [execOp,h3,h4]
 rw [Sem.run_bind,Sem.run_bind,eqGuard_aggs hm]
 simp [binOp,Op.equal,Op.maxDepth,h5]
end ops
end Go.Proofs.Ytglgdaeimfdpfaa.VM
