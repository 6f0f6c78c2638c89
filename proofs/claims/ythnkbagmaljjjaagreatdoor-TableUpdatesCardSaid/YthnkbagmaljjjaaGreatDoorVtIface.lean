/- Words and rules that the proof uses. -/
import Derived.Test.YthnkbagmaljjjaaGreatDoorVtMore
namespace Go.Proofs.YthnkbagmaljjjaaGreatDoor.VM
open Go Go.RowKit
def AV.out:AV→Value
 | .sc v=>v
 | _=>undef
def isSc:AV→Bool
 | .sc v=>v.oneCell'
 | _=>false
theorem isSc_out {Z:Nat→Prop} {w:World} {a:AV} {v:Value} (h:isSc a=true) (r:Rel Z w a v):v=a.out:=by
 cases a<;>first | cases h | skip
 exact r.sc_inv
theorem isSc_rel {Z:Nat→Prop} {w:World} {a:AV} (h:isSc a=true):Rel Z w a a.out∧a.out.oneCell'=true:=by
 cases a<;>first | cases h | skip
 exact ⟨.sc _ h,h⟩
abbrev outs (cs:List AV):Value:=.agg (cs.map AV.out).toArray
theorem agg_out {Z:Nat→Prop} {w:World} {cs:List AV} {v:Value} (h:cs.all isSc=true) (r:Rel Z w (.agg cs) v):v=outs cs:=by
 obtain ⟨vs,rfl,hl,h1,hr⟩:=r.agg_inv
 refine congrArg Value.agg (Array.ext (by simp [hl]) fun i h2 h3=>?_)
 have hi:i < cs.length:=by rw [hl]; exact h2
 have:=isSc_out (List.all_eq_true.1 h _ (List.getElem_mem hi)) (hr i _ _ (List.getElem?_eq_getElem hi) (Array.getElem?_eq_getElem h2))
 simpa using this
theorem out_agg {Z:Nat→Prop} {w:World} {cs:List AV} (h:cs.all isSc=true):Rel Z w (.agg cs) (outs cs):=by
 refine .agg _ _ (by simp) (fun v hv=>?_) (fun i a v ha hv=>?_)
 ·simp only [List.mem_toArray,List.mem_map] at hv
  obtain ⟨a,ha,rfl⟩:=hv
  exact (isSc_rel (List.all_eq_true.1 h _ ha) (Z:=Z) (w:=w)).2
 ·simp only [List.getElem?_toArray,List.getElem?_map,ha,Option.map_some,Option.some.injEq] at hv
  subst hv
  exact (isSc_rel (List.all_eq_true.1 h _ (List.mem_of_getElem? ha))).1
theorem run_ti {P:Program} {t:TypeId} {i:TypeInfo} (h:P.info? t=some i) (w:World):(typeInfo t).run P w=.ok i w:=by
 simp [typeInfo,h]
theorem run_method {P:Program} {t:TypeId} {i:TypeInfo} {m:Method} {v:Value} {name:String} {f:FuncId} {fs:Array Field} {n:Nat} (hi:P.info? t=some i) (ht:P.underlying t=some (.struct fs)) (hm:i.methods.find? (·.name == name)=some m) (hp:m.path.toList=[]) (hf:m.func=some (f,false)) (w:World) :
  (Go.method (n+1) t v name).run P w=.ok (f,v) w:=by
 simp [Go.method,run_ti hi,hm,hp,hf,follow,receiverAt,run_underlying ht,Place.get]
def IC (P:Program) (V:Value) (name:String) (args:List AV) (r:AV):Prop :=
 ∃ (t : TypeId) (v : Value) (f : FuncId) (fn : Func) (ra : AV), V = .iface t v ∧ P.funcs[f]? = some fn ∧ fn.body.isSome = true ∧ (fn.name == "runtime.NumGoroutine") = false ∧ (∀ w, (Go.method (P.types.size + Made.depth) t v name).run P w = .ok (f, v) w) ∧
  (∀ Z w,Rel Z w ra v)∧ACp P f (ra::args) r
theorem IC_of {P:Program} {t:TypeId} {name:String} {f:FuncId} {fn:Func} {fs:Array Field} {cs:List AV} {args:List AV} {r:AV} (ht:P.underlying t=some (.struct fs)) (hi:((P.info? t).bind fun i=>(i.methods.find? (·.name == name)).map fun m=>(m.path.size,m.func))=some (0,some (f,false)))
  (hfn : P.funcs[f]? = some fn) (hb : fn.body.isSome = true) (hname : (fn.name == "runtime.NumGoroutine") = false) (hcs : cs.all isSc = true) (hc : ACp P f (.agg cs :: args) r) : IC P (.iface t (outs cs)) name args r := by
 obtain ⟨i,h1,h2⟩:=Option.bind_eq_some_iff.1 hi
 obtain ⟨m,h3,h4⟩:=Option.map_eq_some_iff.1 h2
 simp only [Prod.mk.injEq] at h4
 exact ⟨t,outs cs,f,fn,.agg cs,rfl,hfn,hb,hname,fun w=>run_method (n:=P.types.size+99) h1 ht h3 (by rw [Array.size_eq_zero_iff.1 h4.1]) h4.2 w,fun _ _=>out_agg hcs,hc⟩
section ops
variable {P:Program} {K:AS→Prop} {s:AS} {dst:Option Tmp} {ty:TypeId} {pos:String} {after:Array Edge}
theorem OpW_calli {f : FuncId} {fn : Func} {x : Operand} {xs : Array Operand} {ts : Array TypeId} {name : String} {t : TypeId} {v : Value} {ra : AV} {args : List AV} {R : AV → Heap → Prop} (hf : aev s x = .sc (.iface t v)) (hfn : P.funcs[f]? = some fn) (hb : fn.body.isSome = true) (hname : (fn.name == "runtime.NumGoroutine") = false)
  (hm:∀ w,(Go.method (P.types.size+Made.depth) t v name).run P w=.ok (f,v) w) (hra:∀ Z w,Rel Z w ra v)
  (ha:ra::xs.toList.map (aev s)=args) (hc:AC P f args s.h R) (hd:dOk s dst=true)
  (hk:∀ r h' n',R r h'→s.n≤n'→(∀ b o,h' b=some o→b < n')→(∀ b,h' b≠none→s.h b≠none∨s.n≤b)→K ((AS.mk s.t h' n' s.sz).put dst r)) :
  OpW P ⟨dst,.call { callee:=.invoke x name,args:=xs,argTypes:=ts },ty,pos,after,none⟩ K s:=by
 intro Z a w r next Q hn
 have hfv:=aev_rel r x
 rw [hf] at hfv
 have hxe:=hfv.sc_inv
 have hvals:∀ (i:Nat) (c:AV) (u:Value),args[i]?=some c→(#[v]++xs.map a.eval)[i]?=some u→Rel Z w c u:=by
  intro i c u hc hv
  subst ha
  cases i with
  | zero =>
   rw [Array.getElem?_append_left (by simp)] at hv
   simp at hc hv
   subst hc
   subst hv
   exact hra Z w
  | succ i =>
   rw [List.getElem?_cons_succ,List.getElem?_map] at hc
   rw [Array.getElem?_append_right (by simp),Array.getElem?_map] at hv
   simp only [List.size_toArray,List.length_cons,List.length_nil,Nat.zero_add,Nat.add_sub_cancel] at hv
   by_cases hi:i < xs.size
   ·have hx:xs.toList[i]?=some xs[i]:=by simp [hi]
    have hx2:xs[i]?=some xs[i]:=by simp [hi]
    rw [hx] at hc
    rw [hx2] at hv
    simp only [Option.map_some,Option.some.injEq] at hc hv
    subst hc
    subst hv
    exact aev_rel r _
   ·rw [List.getElem?_eq_none (by simpa using Nat.le_of_not_lt hi)] at hc
    cases hc
 have hlen:args.length=(#[v]++xs.map a.eval).size:=by
  subst ha
  simp
  omega
 have hcall:=hc Z w _ r.gd hlen hvals
 have hexec:(execOp a.eval ⟨dst,.call { callee:=.invoke x name,args:=xs,argTypes:=ts },ty,pos,after,none⟩).run P w=.ok (.enter f (#[v]++xs.map a.eval)) w:=by
  have hn1 : ¬ fn.name = "runtime.NumGoroutine" := by simpa using hname
  have hb1:¬ fn.body=none:=by
   intro e
   rw [e] at hb
   cases hb
  have hm2:=hm w
  have e0:(#[Value.iface t v]++xs.map a.eval)[0]?=some (.iface t v):=by rw [Array.getElem?_append_left (by simp)]; rfl
  have e1:(#[Value.iface t v]++xs.map a.eval).extract 1 (#[Value.iface t v]++xs.map a.eval).size=xs.map a.eval:=by simp
  have hcm:(callMethod (.iface t v) name (xs.map a.eval)).run P w=.ok (.enter f (#[v]++xs.map a.eval)) w:=by
   unfold callMethod
   simp only [Sem.run_bind]
   rw [show (program).run P w=.ok P w from rfl]
   simp only [Result.andThen_ok,hm2,callFunc]
   simp [hfn,hn1,hb1,program,Sem.run]
  simp only [execOp,resolve,hxe,invoke]
  simp only [Sem.run_bind,Sem.run_pure,Result.andThen_ok,e0,e1,hcm]
 unfold Oper.wp
 rw [hexec]
 refine hcall.mono ?_
 rintro e w' ⟨u,rv,h',Z',rfl,hR,hrel,gd,ex⟩
 show next (a.put dst u) w'
 have hlt:∀ b o,h' b=some o→b < w'.heap.size:=fun b o hb=>gd.lt hb
 refine hn _ Z' _ _ (hk rv h' w'.heap.size hR (Nat.le_trans r.hn ex.size) hlt (fun b hb2=>?_)) (r.next ex gd (Nat.le_refl _) hlt hd hrel) ?_
 ·rcases ex.own b hb2 with h1 | h1
  ·exact .inl h1
  ·exact .inr (Nat.le_trans r.hn h1)
 ·cases dst<;>exact ex
end ops
section ops
variable {P:Program} {s:TS} {dst:Option Tmp} {ty:TypeId} {pos:String} {after:Array Edge}
theorem p_mki {t:TypeId} {x:Operand} {cs:List AV} {fs:Array Field} {V:Value} (hd:dOk2 s dst=true) (hx0:isConst x=false) (ht:P.underlying t=some (.struct fs)) (hx:tev s x=.c (.p (.agg cs))) (hcs:cs.all isSc=true) (hV:Value.iface t (outs cs)=V) :
  PureD P ⟨dst,.makeInterface t x,ty,pos,after,none⟩ s (.c (.p (.sc V))):=by
 subst hV
 refine PureD_same fun m h1 n hm K hk=>OpW_same (av:=.sc (.iface t (outs cs))) (dOk_can hd) (fun Z a w r=>⟨_,?_,.sc _ rfl⟩) (hk _ (.same _))
 have h:=aev_rel r x
 rw [aev_eq hx0,hx] at h
 have e:=agg_out hcs h
 simp [execOp,Instr.makeInterface,run_underlying ht,e]
theorem p_calli {x:Operand} {xs:Array Operand} {ts:Array TypeId} {name:String} {V:Value} {args:List AV} {r:AV} (hd:dOk2 s dst=true) (hx:tev s x=.c (.p (.sc V))) (hc:IC P V name args r) (ha:ArgsAre s xs.toList args) :
  PureD P ⟨dst,.call { callee:=.invoke x name,args:=xs,argTypes:=ts },ty,pos,after,none⟩ s (.c (.p r)):=by
 obtain ⟨t,v,f,fn,ra,rfl,hfn,hb,hname,hm,hra,hc⟩:=hc
 obtain ⟨g1,g2⟩:=args_get ha
 intro m h1 n hm2
 refine OpW_hl fun hlt=>OpW_calli (aev_sc hx) hfn hb hname hm hra rfl ((AC.frame hc h1).arg (by simp [g1]) (fun i a a' h2 h3=>?_)) (dOk_can hd) ?_
 ·cases i with
  | zero=>simp at h2 h3; subst h2; subst h3; exact .same _
  | succ i =>
   rw [List.getElem?_cons_succ] at h2 h3
   rw [List.getElem?_map] at h2
   obtain ⟨y,hy,rfl⟩:=Option.map_eq_some_iff.1 h2
   obtain ⟨a2,h4,h5⟩:=g2 i y hy
   rw [h3] at h4
   cases h4
   have:=aev_les (s:=s) (m:=m) (h1:=h1) (n:=n) y
   rw [h5] at this
   exact this
 ·rintro v h' n' ⟨hr,rfl,rfl,hdis⟩ hn' hlt' _
  exact ⟨h1.merge hr,n',_,hlt',keeps_merge hdis,rfl,.same _⟩
end ops
end Go.Proofs.YthnkbagmaljjjaaGreatDoor.VM
