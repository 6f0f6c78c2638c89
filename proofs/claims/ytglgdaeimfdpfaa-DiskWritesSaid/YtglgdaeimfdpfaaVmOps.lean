/- Words and rules that the proof uses. -/
import Derived.Test.YtglgdaeimfdpfaaVmCore
import Derived.Laws.Entries
namespace Go.Proofs.Ytglgdaeimfdpfaa.VM
open Go Go.RowKit
def dOk (s:AS) (d:Option Nat):Bool:=match d with | some d=>decide (d < s.sz) | none=>true
def OpW (P:Program) (o:Oper) (K:AS→Prop) (s:AS):Prop :=
 ∀ Z a w,SR Z s a w→∀ (next:Act→World→Prop) (Q:Go.Exit→Act→World→Prop),
  (∀ s' Z' a' w',K s'→SR Z' s' a' w'→Ext s.h Z w s'.h Z' w'→next a' w')→o.wp P a w next Q
def OpsW (P:Program) (ops:Array Oper) (l:List Nat) (K:AS→Prop) (s:AS):Prop :=
 ∀ Z a w,SR Z s a w→∀ (Q:Go.Exit→Act→World→Prop),
  (∀ s' Z' a' w',K s'→SR Z' s' a' w'→Ext s.h Z w s'.h Z' w'→Q .normal a' w')→wpOps P ops Q l a w
theorem OpW.mono {P:Program} {o:Oper} {K K':AS→Prop} {s:AS} (h:OpW P o K s) (hk:∀ s',K s'→K' s'):OpW P o K' s :=
 fun Z a w r next Q hn=>h Z a w r next Q fun s' Z' a' w' q=>hn s' Z' a' w' (hk s' q)
theorem OpsW_nil {P:Program} {ops:Array Oper} {K:AS→Prop} {s:AS} (h:K s):OpsW P ops [] K s :=
 fun Z a w r _ hq=>hq s Z a w h r (Ext.refl _ _ _)
theorem OpsW_cons {P:Program} {ops:Array Oper} {K:AS→Prop} {s:AS} {i:Nat} {l:List Nat} {o:Oper} (ho:ops[i]?=some o) (hg:o.guard=none)
  (h:OpW P o (OpsW P ops l K) s):OpsW P ops (i::l) K s:=by
 intro Z a w r Q hq
 simp only [wpOps,ho,Region.wanted,hg,if_true]
 refine .inl (h Z a w r _ _ fun s' Z' a' w' k r' x=>?_)
 exact k Z' a' w' r' Q fun s2 Z2 a2 w2 k2 r2 x2=>hq s2 Z2 a2 w2 k2 r2 (x.trans x2)
theorem SR.next {Z Z':Nat→Prop} {s:AS} {a:Act} {w w':World} {h':Heap} {n':Nat} {d:Option Nat} {av:AV} {v:Value} (r:SR Z s a w) (x:Ext s.h Z w h' Z' w') (g:Good Z' h' w')
  (hn:n'≤w'.heap.size) (hl:∀ b o,h' b=some o→b < n') (hd:dOk s d=true) (hv:Rel Z' w' av v) :
  SR Z' ((AS.mk s.t h' n' s.sz).put d av) (a.put d v) w':=by
 cases d with
 | none=>exact ⟨fun t=>(r.tm t).step r.gd x,r.ts,r.df,g,hn,hl⟩
 | some d =>
  have hd':d < s.sz:=by simpa [dOk] using hd
  refine ⟨fun t=>?_,by simpa [Act.put,AS.put,AS.set] using r.ts,r.df,g,hn,hl⟩
  simp only [AS.put,AS.set,Act.put]
  by_cases ht:t=d
  ·subst ht
   simp only [if_true]
   have:(a.tmps.setIfInBounds t v).getD t undef=v:=by
    simp [Array.getD_eq_getD_getElem?,r.ts,hd']
   rw [this]
   exact hv
  ·simp only [ht,if_false]
   have:(a.tmps.setIfInBounds d v).getD t undef=a.tmps.getD t undef:=by
    simp [Array.getD_eq_getD_getElem?,Array.getElem?_setIfInBounds,Ne.symm ht]
   rw [this]
   exact (r.tm t).step r.gd x
theorem OpW_same {P:Program} {o:Oper} {K:AS→Prop} {s:AS} {av:AV} (hd:dOk s o.dst=true)
  (h:∀ Z a w,SR Z s a w→∃ v,(execOp a.eval o).run P w=.ok (.value v) w∧Rel Z w av v) (hk:K (s.put o.dst av)):OpW P o K s:=by
 intro Z a w r next Q hn
 obtain ⟨v,hrun,hv⟩:=h Z a w r
 unfold Oper.wp
 rw [hrun]
 exact hn _ Z _ w hk (r.next (Ext.refl _ _ _) r.gd r.hn r.hl hd hv) (by cases o.dst<;>exact Ext.refl _ _ _)
theorem OpsW_guard_on {P:Program} {ops:Array Oper} {K:AS→Prop} {s:AS} {i:Nat} {l:List Nat} {o:Oper} {j d:Nat} {want:Bool} (ho:ops[i]?=some o) (hg:o.guard=some (j,want))
  (hj:((ops[j]?).bind (·.dst))=some d) (hv:s.t d=.sc (.bool want)) (hd:d < s.sz) (h:OpW P { o with guard:=none } (OpsW P ops l K) s):OpsW P ops (i::l) K s:=by
 intro Z a w r Q hq
 have ht:=r.tm d
 rw [hv] at ht
 have hval:a.tmps.getD d undef=.bool want:=by
  generalize a.tmps.getD d undef=u at ht
  cases ht
  rfl
 have hsome:a.tmps[d]?=some (.bool want):=by
  have hlt:d < a.tmps.size:=by rw [r.ts]; exact hd
  rw [Array.getD_eq_getD_getElem?,Array.getElem?_eq_getElem hlt,Option.getD_some] at hval
  rw [Array.getElem?_eq_getElem hlt,hval]
 have hy:yielded ops a.tmps j=some want:=by
  unfold yielded
  rw [hj,Option.bind_some,hsome]
 have hw:Region.wanted o (yielded ops a.tmps)=true:=by
  unfold Region.wanted
  rw [hg]
  simp [hy]
 simp only [wpOps,ho,hw,if_true]
 refine .inl (h Z a w r _ _ fun s' Z' a' w' k r' x=>?_)
 exact k Z' a' w' r' Q fun s2 Z2 a2 w2 k2 r2 x2=>hq s2 Z2 a2 w2 k2 r2 (x.trans x2)
theorem OpsW_guard_off {P:Program} {ops:Array Oper} {K:AS→Prop} {s:AS} {i:Nat} {l:List Nat} {o:Oper} {j d:Nat} {want:Bool} (ho:ops[i]?=some o) (hg:o.guard=some (j,want))
  (hj:((ops[j]?).bind (·.dst))=some d) (hv:s.t d=.sc (.bool (!want))∨s.t d=.tup []) (hd:d < s.sz) (hdst:dOk s o.dst=true) (h:OpsW P ops l K (s.put o.dst (.tup []))):OpsW P ops (i::l) K s:=by
 intro Z a w r Q hq
 have ht:=r.tm d
 have hlt:d < a.tmps.size:=by rw [r.ts]; exact hd
 have hget:a.tmps.getD d undef=a.tmps[d]:=by rw [Array.getD_eq_getD_getElem?,Array.getElem?_eq_getElem hlt,Option.getD_some]
 have hw:Region.wanted o (yielded ops a.tmps)=false:=by
  unfold Region.wanted yielded
  rw [hg]
  simp only [hj,Option.bind_some,Array.getElem?_eq_getElem hlt]
  rw [hget] at ht
  rcases hv with hv | hv
  ·rw [hv] at ht
   generalize a.tmps[d]=u at ht
   cases ht
   cases want<;>rfl
  ·rw [hv] at ht
   generalize a.tmps[d]=u at ht
   cases ht
   cases want<;>rfl
 simp only [wpOps,ho,hw,Bool.false_eq_true,if_false]
 have r2:=r.next (Ext.refl _ _ _) r.gd r.hn r.hl hdst (Rel.tup (w:=w) (Z:=Z) [] #[] rfl (fun i a v ha _=>by simp at ha))
 refine h Z _ w r2 Q fun s2 Z2 a2 w2 k2 r2 x2=>hq s2 Z2 a2 w2 k2 r2 ?_
 cases hdd:o.dst with
 | none=>rw [hdd] at x2; exact x2
 | some d'=>rw [hdd] at x2; exact x2
theorem AW_region {P:Program} {id:Nat} {ops:Array Oper} {Q:Go.Exit→AS→Prop} {s:AS} {n:Nat} (hn:ops.size=n) (h:OpsW P ops (List.range n) (Q .normal) s):AW P (.region id ops false) Q s:=by
 subst hn
 exact fun Z a w r=>wp_region (h Z a w r _ fun s' Z' a' w' k r' x=>⟨s',Z',k,r',x⟩)
def cAV:Value→AV
 | .slice none 0 0=>.nil
 | .slice a n c=>.any
 | .agg vs=>if vs.all (·.oneCell') then .agg (vs.toList.map .sc) else .any
 | .tuple _=>.any
 | v=>.sc v
theorem cAV_rel (Z:Nat→Prop) (w:World) (v:Value):Rel Z w (cAV v) v:=by
 cases v with
 | slice a n c =>
  cases a with
  | none =>
   cases n with
   | zero =>
    cases c with
    | zero=>exact .nil
    | succ c=>exact .any _
   | succ n=>exact .any _
  | some a=>exact .any _
 | agg vs =>
  simp only [cAV]
  by_cases h:(vs.all fun x=>x.oneCell')=true
  ·rw [if_pos h]
   have h1:∀ v∈vs,v.oneCell'=true:=by
    intro v hv
    rw [Array.all_eq_true] at h
    obtain ⟨i,hi,rfl⟩:=Array.getElem_of_mem hv
    exact h i hi
   refine .agg _ vs (by simp) h1 ?_
   intro i a v ha hv
   rw [List.getElem?_map] at ha
   have:vs.toList[i]?=some v:=by simpa using hv
   rw [this] at ha
   simp only [Option.map_some,Option.some.injEq] at ha
   subst ha
   exact .sc v (h1 v (Array.mem_of_getElem? hv))
  ·rw [if_neg h]
   exact .any _
 | tuple vs=>exact .any _
 | _=>exact .sc _ rfl
def aev (s:AS):Operand→AV
 | .tmp t=>s.t t
 | .const v=>cAV v
 | .func f=>.clo f []
 | .global g=>tabOf tabs g
theorem aev_rel {Z:Nat→Prop} {s:AS} {a:Act} {w:World} (r:SR Z s a w) (x:Operand):Rel Z w (aev s x) (a.eval x):=by
 cases x with
 | tmp t=>exact r.tm t
 | const v=>exact cAV_rel Z w v
 | func f=>exact .clo f [] #[] rfl (fun i a v ha _=>by simp at ha)
 | global g=>exact r.gd.tb.1 g
section inv
variable {Z:Nat→Prop} {w:World} {v:Value}
theorem Rel.sc_inv {u:Value} (h:Rel Z w (.sc u) v):v=u:=by cases h; rfl
theorem Rel.clo_inv {f:FuncId} {cs:List AV} (h:Rel Z w (.clo f cs) v):∃ vs,v=.func (.func f) #[] vs∧cs.length=vs.size∧∀ (i:Nat) (a:AV) (u:Value),cs[i]?=some a→vs[i]?=some u→Rel Z w a u:=by
 cases h with | clo _ _ vs hl h=>exact ⟨vs,rfl,hl,h⟩
theorem Rel.agg_inv {cs:List AV} (h:Rel Z w (.agg cs) v):∃ vs,v=.agg vs∧cs.length=vs.size∧(∀ v∈vs,v.oneCell'=true)∧∀ (i:Nat) (a:AV) (u:Value),cs[i]?=some a→vs[i]?=some u→Rel Z w a u:=by
 cases h with | agg _ vs hl h1 h=>exact ⟨vs,rfl,hl,h1,h⟩
theorem Rel.tup_inv {cs:List AV} (h:Rel Z w (.tup cs) v):∃ vs,v=.tuple vs∧cs.length=vs.size∧∀ (i:Nat) (a:AV) (u:Value),cs[i]?=some a→vs[i]?=some u→Rel Z w a u:=by
 cases h with | tup _ vs hl h=>exact ⟨vs,rfl,hl,h⟩
end inv
section ops
variable {P:Program} {K:AS→Prop} {s:AS} {dst:Option Tmp} {ty:TypeId} {pos:String} {after:Array Edge}
theorem OpW_move {x:Operand} (hd:dOk s dst=true) (hk:K (s.put dst (aev s x))):OpW P ⟨dst,.move x,ty,pos,after,none⟩ K s :=
 OpW_same hd (fun Z a w r=>⟨a.eval x,rfl,aev_rel r x⟩) hk
theorem OpW_assign {x:Operand} (hd:dOk s dst=true) (hk:K (s.put dst (aev s x))):OpW P ⟨dst,.assign x,ty,pos,after,none⟩ K s :=
 OpW_same hd (fun Z a w r=>⟨a.eval x,rfl,aev_rel r x⟩) hk
theorem OpW_pick {c x y:Operand} {b:Bool} (hc:aev s c=.sc (.bool b)) (hd:dOk s dst=true) (hk:K (s.put dst (if b then aev s x else aev s y))):OpW P ⟨dst,.pick c x y,ty,pos,after,none⟩ K s:=by
 refine OpW_same hd (fun Z a w r=>?_) hk
 have hcv:=aev_rel r c
 rw [hc] at hcv
 have hcv:=hcv.sc_inv
 cases b with
 | true=>exact ⟨a.eval x,by simp [execOp,hcv,asBool],by simpa using aev_rel r x⟩
 | false=>exact ⟨a.eval y,by simp [execOp,hcv,asBool],by simpa using aev_rel r y⟩
def ibin (op:BinOp) (k:IntKind) (a b:Int):Option Value :=
 match op with
 | .add=>some (.int k (k.wrap (a+b)))
 | .sub=>some (.int k (k.wrap (a - b)))
 | .mul=>some (.int k (k.wrap (a * b)))
 | .quo=>if b=0 then none else some (.int k (k.wrap (a.tdiv b)))
 | .rem=>if b=0 then none else some (.int k (a.tmod b))
 | .and=>some (.int k (Go.bits .and k a b))
 | .or=>some (.int k (Go.bits .or k a b))
 | .xor=>some (.int k (Go.bits .xor k a b))
 | .andNot=>some (.int k (Go.bits .andNot k a b))
 | .eql=>some (.bool (a == b))
 | .neq=>some (.bool (a != b))
 | .lss=>some (.bool (decide (a < b)))
 | .leq=>some (.bool (decide (a≤b)))
 | .gtr=>some (.bool (decide (a > b)))
 | .geq=>some (.bool (decide (a≥b)))
 | .shl=>if b < 0 then none else some (.int k (k.wrap (a * 2 ^ min b.toNat k.bits)))
 | .shr=>if b < 0 then none else some (.int k (a.fdiv (2 ^ min b.toNat k.bits)))
theorem run_ibin {op:BinOp} {k:IntKind} {a b:Int} {v:Value} (h:ibin op k a b=some v) (t:TypeId) (x y:Operand) (w:World) :
  ((do eqGuard op t x y (.int k a) (.int k b); binOp op t (.int k a) (.int k b)):Sem Value).run P w=.ok v w:=by
 cases op<;>simp only [ibin] at h<;>(try split at h) <;>
  first
   | (cases h; done)
   | (simp only [Option.some.injEq] at h; subst h; simp_all [eqGuard,binOp,Op.intArith,Op.intDiv,Op.intBits,Op.intCmp,Op.shift,Go.bits]; try (intro hlt; omega))
theorem ibin_one {op:BinOp} {k:IntKind} {a b:Int} {v:Value} (h:ibin op k a b=some v):v.oneCell'=true:=by
 cases op<;>simp only [ibin] at h<;>(try split at h) <;>
  first
   | (cases h; done)
   | (simp only [Option.some.injEq] at h; subst h; rfl)
theorem OpW_ibin {op:BinOp} {t yt:TypeId} {x y:Operand} {k:IntKind} {a b:Int} {v:Value} (hx:aev s x=.sc (.int k a)) (hy:aev s y=.sc (.int k b)) (hv:ibin op k a b=some v) (hd:dOk s dst=true)
  (hk:K (s.put dst (.sc v))):OpW P ⟨dst,.binOp op t x y yt,ty,pos,after,none⟩ K s:=by
 refine OpW_same hd (fun Z a' w r=>⟨v,?_,.sc v (ibin_one hv)⟩) hk
 have h1:=aev_rel r x
 have h2:=aev_rel r y
 rw [hx] at h1
 rw [hy] at h2
 have h3:=run_ibin (P:=P) hv t x y w
 simp only [execOp,h1.sc_inv,h2.sc_inv]
 rw [Sem.run_bind,h3]
 rfl
theorem OpW_extract {x:Operand} {i:Nat} {cs:List AV} {c:AV} (hx:aev s x=.tup cs) (hi:cs[i]?=some c) (hd:dOk s dst=true) (hk:K (s.put dst c)):OpW P ⟨dst,.extract x i,ty,pos,after,none⟩ K s:=by
 refine OpW_same hd (fun Z a' w r=>?_) hk
 have h1:=aev_rel r x
 rw [hx] at h1
 obtain ⟨vs,hv,hl,h⟩:=h1.tup_inv
 have hlt:i < vs.size:=by rw [← hl]; exact (List.getElem?_eq_some_iff.1 hi).1
 exact ⟨vs[i],by simp [execOp,hv,Instr.extract,Array.getElem?_eq_getElem hlt],h i c _ hi (Array.getElem?_eq_getElem hlt)⟩
def lenOf:AV→Option Nat
 | .nil=>some 0
 | .lst _ n=>some n
 | .sl _ _ n _=>some n
 | _=>none
theorem lenOf_rel {Z:Nat→Prop} {w:World} {a:AV} {v:Value} {n:Nat} (h:lenOf a=some n) (r:Rel Z w a v):∃ A c,v=.slice A n c:=by
 cases r with
 | nil=>simp only [lenOf,Option.some.injEq] at h; subst h; exact ⟨_,_,rfl⟩
 | lnil n' c A=>simp only [lenOf,Option.some.injEq] at h; subst h; exact ⟨_,_,rfl⟩
 | lst cs n' c b off f=>simp only [lenOf,Option.some.injEq] at h; subst h; exact ⟨_,_,rfl⟩
 | sl b off n' z c e m=>simp only [lenOf,Option.some.injEq] at h; subst h; exact ⟨_,_,rfl⟩
 | _=>simp [lenOf] at h
theorem OpW_len {x:Operand} {t e:TypeId} {n:Nat} (ht:P.underlying t=some (.slice e)) (hx:lenOf (aev s x)=some n) (hd:dOk s dst=true) (hk:K (s.put dst (.sc (.int .i64 n)))) :
  OpW P ⟨dst,.call { callee:=.builtin .len,args:=#[x],argTypes:=#[t] },ty,pos,after,none⟩ K s:=by
 refine OpW_same hd (fun Z a' w r=>⟨_,?_,.sc _ rfl⟩) hk
 obtain ⟨A,c,hv⟩:=lenOf_rel hx (aev_rel r x)
 simp [execOp,resolve,invoke,builtin,hv,Builtin.len_,run_underlying ht,goInt]
end ops
end Go.Proofs.Ytglgdaeimfdpfaa.VM
