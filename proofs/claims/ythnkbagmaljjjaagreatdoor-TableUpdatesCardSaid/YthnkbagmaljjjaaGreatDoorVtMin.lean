/- Words and rules that the proof uses. -/
import Derived.Test.YthnkbagmaljjjaaGreatDoorVtCut
namespace Go.Proofs.YthnkbagmaljjjaaGreatDoor.VM
open Go Go.RowKit
def imin (a b:Int):Int:=if b < a then b else a
def imax (a b:Int):Int:=if a < b then b else a
theorem OpW_imin {P:Program} {K:AS→Prop} {s:AS} {dst:Option Tmp} {ty:TypeId} {pos:String} {after:Array Edge} {x y:Operand} {k:IntKind} {a b:Int} {ats:Array TypeId} (hx:aev s x=.sc (.int k a)) (hy:aev s y=.sc (.int k b)) (hd:dOk s dst=true) (hk:K (s.put dst (.sc (.int k (imin a b))))) :
  OpW P ⟨dst,.call { callee:=.builtin .min,args:=#[x,y],argTypes:=ats },ty,pos,after,none⟩ K s:=by
 refine OpW_same hd (fun Z a' w r=>⟨_,?_,.sc _ rfl⟩) hk
 have h1:=aev_rel r x
 rw [hx] at h1
 have h2:=aev_rel r y
 rw [hy] at h2
 simp [execOp,resolve,invoke,builtin,h1.sc_inv,h2.sc_inv,Builtin.min_,Builtin.min2,imin]
theorem OpW_imax {P:Program} {K:AS→Prop} {s:AS} {dst:Option Tmp} {ty:TypeId} {pos:String} {after:Array Edge} {x y:Operand} {k:IntKind} {a b:Int} {ats:Array TypeId} (hx:aev s x=.sc (.int k a)) (hy:aev s y=.sc (.int k b)) (hd:dOk s dst=true) (hk:K (s.put dst (.sc (.int k (imax a b))))) :
  OpW P ⟨dst,.call { callee:=.builtin .max,args:=#[x,y],argTypes:=ats },ty,pos,after,none⟩ K s:=by
 refine OpW_same hd (fun Z a' w r=>⟨_,?_,.sc _ rfl⟩) hk
 have h1:=aev_rel r x
 rw [hx] at h1
 have h2:=aev_rel r y
 rw [hy] at h2
 simp [execOp,resolve,invoke,builtin,h1.sc_inv,h2.sc_inv,Builtin.max_,Builtin.max2,imax]
section
variable {P:Program} {s:TS} {dst:Option Tmp} {ty:TypeId} {pos:String} {after:Array Edge}
theorem p_imin {x y:Operand} {k:IntKind} {a b:Int} {ats:Array TypeId} (hd:dOk2 s dst=true) (hx:tev s x=.c (.p (.sc (.int k a)))) (hy:tev s y=.c (.p (.sc (.int k b)))):PureD P ⟨dst,.call { callee:=.builtin .min,args:=#[x,y],argTypes:=ats },ty,pos,after,none⟩ s (.c (.p (.sc (.int k (imin a b))))) :=
 PureD_same fun m h1 n hm K hk=>OpW_imin (aev_sc hx) (aev_sc hy) (dOk_can hd) (hk _ (.same _))
theorem p_imax {x y:Operand} {k:IntKind} {a b:Int} {ats:Array TypeId} (hd:dOk2 s dst=true) (hx:tev s x=.c (.p (.sc (.int k a)))) (hy:tev s y=.c (.p (.sc (.int k b)))):PureD P ⟨dst,.call { callee:=.builtin .max,args:=#[x,y],argTypes:=ats },ty,pos,after,none⟩ s (.c (.p (.sc (.int k (imax a b))))) :=
 PureD_same fun m h1 n hm K hk=>OpW_imax (aev_sc hx) (aev_sc hy) (dOk_can hd) (hk _ (.same _))
end
end Go.Proofs.YthnkbagmaljjjaaGreatDoor.VM
