/- Words and rules that the proof uses. -/
import Derived.Test.YthnkbagmaljjjaaGreatDoorVtFloat
import Derived.Laws.Externs
namespace Go.Proofs.YthnkbagmaljjjaaGreatDoor.VM
open Go Go.RowKit
def addC (x y:UInt64):UInt64:=if x.toNat+y.toNat < 18446744073709551616 then 0 else 1
def subB (x y:UInt64):UInt64:=if x.toNat < y.toNat then 1 else 0
abbrev add64 (x y:UInt64):UInt64×UInt64:=(x+y,addC x y)
abbrev sub64 (x y:UInt64):UInt64×UInt64:=(x - y,subB x y)
def subE:Array Value→Sem Value:=fun args=>do
 let (x, y, b) ← Extern.MathBitsCarry.three "Sub64" args
 pure (Extern.MathBitsCarry.pair ((x+Extern.MathBitsCarry.m64 - y - b) % Extern.MathBitsCarry.m64) (if x < y+b then 1 else 0))
theorem run_subE {P:Program} (x y:Nat) (w:World):(subE #[.int .u64 (x:Int),.int .u64 (y:Int),.int .u64 0]).run P w=.ok (.tuple #[.int .u64 (((x+18446744073709551616 - y - 0) % 18446744073709551616:Nat):Int),.int .u64 ((if x < y+0 then 1 else 0:Nat):Int)]) w:=rfl
section
variable {P:Program} {s:TS} {dst:Option Tmp} {ty:TypeId} {pos:String} {after:Array Edge}
theorem OpW_ext3 {K : AS → Prop} {s : AS} {f : FuncId} {fn : Func} {x y0 y1 y2 : Operand} {ts : Array TypeId} {e : Array Value → Sem Value} {v0 v1 v2 u : Value} {av : AV} (hf : aev s x = .clo f []) (hfn : P.funcs[f]? = some fn) (hb : fn.body.isNone = true) (hname : (fn.name == "runtime.NumGoroutine") = false) (hn : Extern.findNext fn = none) (he : Extern.find fn = some e)
  (h0:aev s y0=.sc v0) (h1:aev s y1=.sc v1) (h2:aev s y2=.sc v2) (hr:∀ w,(e #[v0,v1,v2]).run P w=.ok u w) (hu:∀ Z w,Rel Z w av u) (hd:dOk s dst=true) (hk:K (s.put dst av)):OpW P ⟨dst,.call { callee:=.value x,args:=#[y0,y1,y2],argTypes:=ts },ty,pos,after,none⟩ K s:=by
 refine OpW_same hd (fun Z a' w r=>⟨u,?_,hu Z w⟩) hk
 have g:=aev_rel r x
 have g0:=aev_rel r y0
 have g1:=aev_rel r y1
 have g2:=aev_rel r y2
 rw [hf] at g
 rw [h0] at g0
 rw [h1] at g1
 rw [h2] at g2
 obtain ⟨cv,hxe,hcl,_⟩:=g.clo_inv
 have hcv:cv=#[]:=Array.eq_empty_of_size_eq_zero (by simpa using hcl.symm)
 subst hcv
 have hcall:=run_callFunc_extern hfn hname hb hn he #[v0,v1,v2] w
 rw [hr w] at hcall
 simp only [execOp,resolve,hxe,Deferred.ofValue,invoke]
 simpa [g0.sc_inv,g1.sc_inv,g2.sc_inv,Sem.run] using hcall
theorem rel_uu {Z:Nat→Prop} {w:World} {a b:UInt64} {i j:Int} (hi:i=(a.toNat:Int)) (hj:j=(b.toNat:Int)):Rel Z w (.tup [AV.u64 a,AV.u64 b]) (.tuple #[.int .u64 i,.int .u64 j]):=by
 subst hi hj
 refine .tup _ _ rfl fun i a v ha hv=>?_
 match i with
 | 0=>simp at ha hv; subst ha; subst hv; exact .sc _ rfl
 | 1=>simp at ha hv; subst ha; subst hv; exact .sc _ rfl
 | i+2=>simp at ha
theorem p_u64neg {t:TypeId} {x:Operand} {a:UInt64} (hd:dOk2 s dst=true) (hx:tev s x=.c (.p (.sc (.int .u64 (a.toNat:Int))))):PureD P ⟨dst,.unOp .neg t x,ty,pos,after,none⟩ s (.c (.p (.sc (.int .u64 ((0 - a).toNat:Int))))):=by
 have h:=p_neg (P:=P) (ty:=ty) (pos:=pos) (after:=after) (t:=t) hd hx
 have e:IntKind.u64.wrap (0 - (a.toNat:Int))=((0 - a).toNat:Int):=by
  have h1:(0 - a).toNat=(2 ^ 64 - a.toNat+0) % 2 ^ 64:=UInt64.toNat_sub _ _
  have h2:IntKind.u64.wrap (0 - (a.toNat:Int))=(0 - (a.toNat:Int)) % 18446744073709551616:=by
   unfold IntKind.wrap
   simp [IntKind.bits,IntKind.signed]
  have:(2:Nat) ^ 64=18446744073709551616:=by decide
  have:=a.toNat_lt
  rw [h1,h2]
  omega
 rwa [e] at h
theorem p_u64quo {t yt:TypeId} {x y:Operand} {a b:UInt64} (hd:dOk2 s dst=true) (hx:tev s x=.c (.p (.sc (.int .u64 (a.toNat:Int))))) (hy:tev s y=.c (.p (.sc (.int .u64 (b.toNat:Int))))) (hb:b≠0):PureD P ⟨dst,.binOp .quo t x y yt,ty,pos,after,none⟩ s (.c (.p (.sc (.int .u64 ((a / b).toNat:Int))))):=by
 have hb2:(b.toNat:Int)≠0:=fun h=>hb (UInt64.toNat_inj.1 (by show b.toNat=0; omega))
 have h:=p_iquo (P:=P) (ty:=ty) (pos:=pos) (after:=after) (t:=t) (yt:=yt) hd hx hy hb2
 have e:IntKind.u64.wrap ((a.toNat:Int).tdiv (b.toNat:Int))=((a / b).toNat:Int):=by
  have h1:(a / b).toNat=a.toNat / b.toNat:=UInt64.toNat_div _ _
  have h2:∀ n:Int,0≤n→n < 18446744073709551616→IntKind.u64.wrap n=n:=by
   intro n h3 h4
   unfold IntKind.wrap
   simp [IntKind.bits,IntKind.signed]
   omega
  have h5:(a.toNat:Int).tdiv (b.toNat:Int)=((a.toNat / b.toNat:Nat):Int):=rfl
  have h6:a.toNat / b.toNat≤a.toNat:=Nat.div_le_self _ _
  have:=a.toNat_lt
  have:(2:Nat) ^ 64=18446744073709551616:=by decide
  rw [h5,h1,h2 _ (by omega) (by omega)]
 rwa [e] at h
theorem p_add64 {f : FuncId} {fn : Func} {x y0 y1 y2 : Operand} {ts : Array TypeId} {a b : UInt64} (hd : dOk2 s dst = true) (hf : tev s x = .clo f []) (hx0 : isConst x = false) (hfn : P.funcs[f]? = some fn) (hb : fn.body.isNone = true) (hname : (fn.name == "runtime.NumGoroutine") = false) (hn : Extern.findNext fn = none) (he : Extern.find fn = some add64Entry)
  (h0:tev s y0=.c (.p (.sc (.int .u64 (a.toNat:Int))))) (h1:tev s y1=.c (.p (.sc (.int .u64 (b.toNat:Int))))) (h2:tev s y2=.c (.p (.sc (.int .u64 0)))) :
  PureD P ⟨dst,.call { callee:=.value x,args:=#[y0,y1,y2],argTypes:=ts },ty,pos,after,none⟩ s (.c (.p (.tup [AV.u64 (add64 a b).1,AV.u64 (add64 a b).2]))):=by
 have ha:=a.toNat_lt
 have hb2:=b.toNat_lt
 refine PureD_same fun m h1' n hm K hk=>OpW_ext3 (aev_clo0 hx0 hf) hfn hb hname hn he (aev_sc h0) (aev_sc h1) (aev_sc h2) (fun w=>run_add64 _ _ _ (by omega) (by omega) (by omega) (by omega) w) (fun Z w=>rel_uu ?_ ?_) (dOk_can hd) (hk _ (.same _))
 ·rw [UInt64.toNat_add]
  have:(2:Nat) ^ 64=18446744073709551616:=by decide
  omega
 ·show _=((addC a b).toNat:Int)
  unfold addC
  have:(2:Nat) ^ 64=18446744073709551616:=by decide
  split
  ·show _=((0:Nat):Int)
   omega
  ·show _=((1:Nat):Int)
   omega
theorem p_sub64 {f : FuncId} {fn : Func} {x y0 y1 y2 : Operand} {ts : Array TypeId} {a b : UInt64} (hd : dOk2 s dst = true) (hf : tev s x = .clo f []) (hx0 : isConst x = false) (hfn : P.funcs[f]? = some fn) (hb : fn.body.isNone = true) (hname : (fn.name == "runtime.NumGoroutine") = false) (hn : Extern.findNext fn = none) (he : Extern.find fn = some subE)
  (h0:tev s y0=.c (.p (.sc (.int .u64 (a.toNat:Int))))) (h1:tev s y1=.c (.p (.sc (.int .u64 (b.toNat:Int))))) (h2:tev s y2=.c (.p (.sc (.int .u64 0)))) :
  PureD P ⟨dst,.call { callee:=.value x,args:=#[y0,y1,y2],argTypes:=ts },ty,pos,after,none⟩ s (.c (.p (.tup [AV.u64 (sub64 a b).1,AV.u64 (sub64 a b).2]))):=by
 have ha:=a.toNat_lt
 have hb2:=b.toNat_lt
 refine PureD_same fun m h1' n hm K hk=>OpW_ext3 (aev_clo0 hx0 hf) hfn hb hname hn he (aev_sc h0) (aev_sc h1) (aev_sc h2) (fun w=>run_subE a.toNat b.toNat w) (fun Z w=>rel_uu ?_ ?_) (dOk_can hd) (hk _ (.same _))
 ·rw [UInt64.toNat_sub]
  have:(2:Nat) ^ 64=18446744073709551616:=by decide
  omega
 ·show _=((subB a b).toNat:Int)
  unfold subB
  by_cases h:a.toNat < b.toNat
  ·rw [if_pos h,if_pos (by omega)]; rfl
  ·rw [if_neg h,if_neg (by omega)]; rfl
end
end Go.Proofs.YthnkbagmaljjjaaGreatDoor.VM
