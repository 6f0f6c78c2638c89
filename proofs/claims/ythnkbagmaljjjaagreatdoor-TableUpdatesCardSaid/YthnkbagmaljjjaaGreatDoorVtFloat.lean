/- Words and rules that the proof uses. -/
import Derived.Test.YthnkbagmaljjjaaGreatDoorVtShort
import Derived.Laws.Externs
import Derived.Laws.FloatArith
namespace Go.Proofs.YthnkbagmaljjjaaGreatDoor.VM
open Go Go.RowKit
abbrev F64:=UInt64
abbrev AV.f64 (x:F64):AV:=.sc (.float .f64 x.toNat)
def ford (x y:F64):Option Ordering:=FloatKind.f64.format.order x.toNat y.toNat
abbrev feq (x y:F64):Bool:=ford x y == some .eq
abbrev fneq (x y:F64):Bool:=ford x y != some .eq
abbrev flt (x y:F64):Bool:=ford x y == some .lt
abbrev fgt (x y:F64):Bool:=ford x y == some .gt
def fbin (op:BinOp) (x y:Nat):Option Bool:=match op with
 | .eql=>some (FloatKind.f64.format.order x y == some .eq)
 | .neq=>some (FloatKind.f64.format.order x y != some .eq)
 | .lss=>some (FloatKind.f64.format.order x y == some .lt)
 | .leq=>some (FloatKind.f64.format.order x y == some .lt || FloatKind.f64.format.order x y == some .eq)
 | .gtr=>some (FloatKind.f64.format.order x y == some .gt)
 | .geq=>some (FloatKind.f64.format.order x y == some .gt || FloatKind.f64.format.order x y == some .eq)
 | _=>none
theorem run_fbin {P:Program} {op:BinOp} {a b:Nat} {v:Bool} (h:fbin op a b=some v) (t:TypeId) (x y:Operand) (w:World) :
  ((do eqGuard op t x y (.float .f64 a) (.float .f64 b); binOp op t (.float .f64 a) (.float .f64 b)):Sem Value).run P w=.ok (.bool v) w:=by
 cases op<;>simp only [fbin] at h <;>
  first
   | (cases h; done)
   | (simp only [Option.some.injEq] at h; subst h; simp [eqGuard,binOp,Op.floatCmp])
section
variable {P:Program} {s:TS} {dst:Option Tmp} {ty:TypeId} {pos:String} {after:Array Edge}
theorem OpW_fbin {K:AS→Prop} {s:AS} {op:BinOp} {t yt:TypeId} {x y:Operand} {a b:Nat} {v:Bool} (hx:aev s x=.sc (.float .f64 a)) (hy:aev s y=.sc (.float .f64 b)) (hv:fbin op a b=some v) (hd:dOk s dst=true)
  (hk:K (s.put dst (.sc (.bool v)))):OpW P ⟨dst,.binOp op t x y yt,ty,pos,after,none⟩ K s:=by
 refine OpW_same hd (fun Z a' w r=>⟨.bool v,?_,.sc _ rfl⟩) hk
 have h1:=aev_rel r x
 have h2:=aev_rel r y
 rw [hx] at h1
 rw [hy] at h2
 have h3:=run_fbin (P:=P) hv t x y w
 simp only [execOp,h1.sc_inv,h2.sc_inv]
 rw [Sem.run_bind,h3]
 rfl
theorem p_fbin {op:BinOp} {t yt:TypeId} {x y:Operand} {a b:F64} {v:Bool} (hd:dOk2 s dst=true) (hx:tev s x=.c (.p (.sc (.float .f64 a.toNat)))) (hy:tev s y=.c (.p (.sc (.float .f64 b.toNat)))) (hv:fbin op a.toNat b.toNat=some v):PureD P ⟨dst,.binOp op t x y yt,ty,pos,after,none⟩ s (.c (.p (.sc (.bool v)))) :=
 PureD_same fun m h1 n hm K hk=>OpW_fbin (aev_sc hx) (aev_sc hy) hv (dOk_can hd) (hk _ (.same _))
theorem OpW_ext1 {K : AS → Prop} {s : AS} {f : FuncId} {fn : Func} {x y : Operand} {ts : Array TypeId} {e : Array Value → Sem Value} {v u : Value} (hf : aev s x = .clo f []) (hfn : P.funcs[f]? = some fn) (hb : fn.body.isNone = true) (hname : (fn.name == "runtime.NumGoroutine") = false) (hn : Extern.findNext fn = none) (he : Extern.find fn = some e)
  (hy:aev s y=.sc v) (hr:∀ w,(e #[v]).run P w=.ok u w) (hu:u.oneCell'=true) (hd:dOk s dst=true) (hk:K (s.put dst (.sc u))):OpW P ⟨dst,.call { callee:=.value x,args:=#[y],argTypes:=ts },ty,pos,after,none⟩ K s:=by
 refine OpW_same hd (fun Z a' w r=>⟨u,?_,.sc _ hu⟩) hk
 have h1:=aev_rel r x
 have h2:=aev_rel r y
 rw [hf] at h1
 rw [hy] at h2
 obtain ⟨cv,hxe,hcl,_⟩:=h1.clo_inv
 have hcv:cv=#[]:=Array.eq_empty_of_size_eq_zero (by simpa using hcl.symm)
 subst hcv
 have hcall:=run_callFunc_extern hfn hname hb hn he #[v] w
 rw [hr w] at hcall
 simp only [execOp,resolve,hxe,Deferred.ofValue,invoke]
 simpa [h2.sc_inv,Sem.run] using hcall
theorem aev_clo0 {m:Nm} {h1:Heap} {n:Nat} {x:Operand} {f:FuncId} (h:isConst x=false) (hf:tev s x=.clo f []):aev (can m s h1 n) x=.clo f []:=by
 rw [aev_eq h,hf]
 rfl
theorem p_frombits {f : FuncId} {fn : Func} {x y : Operand} {ts : Array TypeId} {a : UInt64} (hd : dOk2 s dst = true) (hf : tev s x = .clo f []) (hx0 : isConst x = false) (hfn : P.funcs[f]? = some fn) (hb : fn.body.isNone = true) (hname : (fn.name == "runtime.NumGoroutine") = false) (hn : Extern.findNext fn = none) (he : Extern.find fn = some Extern.MathFloatBits.float64frombits)
  (hy:tev s y=.c (.p (.sc (.int .u64 (a.toNat:Int))))):PureD P ⟨dst,.call { callee:=.value x,args:=#[y],argTypes:=ts },ty,pos,after,none⟩ s (.c (.p (AV.f64 a))) :=
 PureD_same fun m h1 n hm K hk=>OpW_ext1 (v:=.int .u64 (a.toNat:Int)) (u:=.float .f64 a.toNat) (aev_clo0 hx0 hf) hfn hb hname hn he (aev_sc hy) (fun w=>rfl) rfl (dOk_can hd) (hk _ (.same _))
theorem p_tobits {f : FuncId} {fn : Func} {x y : Operand} {ts : Array TypeId} {a : F64} (hd : dOk2 s dst = true) (hf : tev s x = .clo f []) (hx0 : isConst x = false) (hfn : P.funcs[f]? = some fn) (hb : fn.body.isNone = true) (hname : (fn.name == "runtime.NumGoroutine") = false) (hn : Extern.findNext fn = none) (he : Extern.find fn = some Extern.MathFloatBits.float64bits)
  (hy:tev s y=.c (.p (.sc (.float .f64 a.toNat)))):PureD P ⟨dst,.call { callee:=.value x,args:=#[y],argTypes:=ts },ty,pos,after,none⟩ s (.c (.p (AV.u64 a))) :=
 PureD_same fun m h1 n hm K hk=>OpW_ext1 (v:=.float .f64 a.toNat) (u:=.int .u64 (a.toNat:Int)) (aev_clo0 hx0 hf) hfn hb hname hn he (aev_sc hy) (fun w=>rfl) rfl (dOk_can hd) (hk _ (.same _))
end
end Go.Proofs.YthnkbagmaljjjaaGreatDoor.VM
