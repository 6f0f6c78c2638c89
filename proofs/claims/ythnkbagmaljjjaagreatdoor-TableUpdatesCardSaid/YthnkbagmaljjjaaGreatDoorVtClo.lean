/- Words and rules that the proof uses. -/
import Derived.Test.YthnkbagmaljjjaaGreatDoorVtHeap
namespace Go.Proofs.YthnkbagmaljjjaaGreatDoor.VM
open Go Go.RowKit
section ops
variable {P:Program} {ty:TypeId} {pos:String} {after:Array Edge} {dst:Option Tmp}
theorem OpW_mkfn {s:AS} {K:AS→Prop} {f:FuncId} {xs:Array Operand} (hd:dOk s dst=true) (hk:K (s.put dst (.clo f (xs.toList.map (aev s))))):OpW P ⟨dst,.makeFunc (.func f) #[] xs,ty,pos,after,none⟩ K s :=
 OpW_same hd (fun Z a w r=>⟨.func (.func f) #[] (xs.map a.eval),(by simp [execOp,Instr.makeFunc]),.clo f _ _ (by simp) (fun i c v hc hv=>by
  rw [List.getElem?_map] at hc
  rw [Array.getElem?_map] at hv
  obtain ⟨x,hx,rfl⟩:=Option.map_eq_some_iff.1 hc
  have hx2:xs[i]?=some x:=by simpa using hx
  rw [hx2] at hv
  simp only [Option.map_some,Option.some.injEq] at hv
  subst hv
  exact aev_rel r x)⟩) hk
def CapsT (s:TS):List Operand→List T1→Prop
 | [],[]=>True
 | x::xs,c::cs=>(isConst x=false∧tev s x=.c c)∧CapsT s xs cs
 | _,_=>False
theorem capsT_eq {s:TS} {m:Nm} {h1:Heap} {n:Nat}:∀ {xs:List Operand} {cs:List T1},CapsT s xs cs→xs.map (aev (can m s h1 n))=cs.map (T1.rn m)
 | [],[],_=>rfl
 | x::xs,c::cs,h=>by
  rw [List.map_cons,List.map_cons,capsT_eq h.2,aev_eq h.1.1,h.1.2]
  rfl
 | [],_::_,h=>h.elim
 | _::_,[],h=>h.elim
theorem p_mkfn {s:TS} {f:FuncId} {xs:Array Operand} {caps:List T1} (hd:dOk2 s dst=true) (hx:CapsT s xs.toList caps):PureD P ⟨dst,.makeFunc (.func f) #[] xs,ty,pos,after,none⟩ s (.clo f caps) :=
 PureD_same fun m h1 n hm K hk=>OpW_mkfn (dOk_can hd) (hk _ (by rw [capsT_eq hx]; exact .same _))
def LendCs (s:TS):List T1→List AV→Prop
 | [],[]=>True
 | c::cs,a::gs=>LendC s c a∧LendCs s cs gs
 | _,_=>False
theorem lendCs_get {s:TS} {m:Nm} {h1:Heap} (hm:HM m s.h h1):∀ {cs:List T1} {gs:List AV},LendCs s cs gs→cs.length=gs.length∧∀ (i:Nat) (a a':AV),(cs.map (T1.rn m))[i]?=some a→gs[i]?=some a'→Lent h1 a a'
 | [],[],_=>⟨rfl,fun i a a' h _=>by simp at h⟩
 | c::cs,g::gs,h=>by
  obtain ⟨h2,h3⟩:=lendCs_get hm h.2
  refine ⟨by simp [h2],fun i a a' ha ha'=>?_⟩
  cases i with
  | zero =>
   simp only [List.map_cons,List.getElem?_cons_zero,Option.some.injEq] at ha ha'
   subst ha ha'
   exact h.1 m h1 hm
  | succ i=>exact h3 i a a' (by simpa using ha) (by simpa using ha')
 | [],_::_,h=>h.elim
 | _::_,[],h=>h.elim
theorem lend_clo {s:TS} {x:Operand} {f:FuncId} {caps:List T1} {gs:List AV} (hx0:isConst x=false) (h:tev s x=.clo f caps) (hc:LendCs s caps gs):Lend s x (.clo f gs):=by
 intro m h1 n hm
 refine ⟨.clo f (caps.map (T1.rn m)),by rw [aev_eq hx0,h]; exact .same _,?_⟩
 obtain ⟨h2,h3⟩:=lendCs_get hm hc
 exact .clo f _ _ (by simpa using h2) h3
end ops
end Go.Proofs.YthnkbagmaljjjaaGreatDoor.VM
