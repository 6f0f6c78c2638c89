/- Words and rules that the proof uses. -/
import Derived.Test.YtglgdaeimfdpfaaVmData
import Derived.Orders
namespace Go.Proofs.Ytglgdaeimfdpfaa.VM
open Go Go.RowKit
theorem wp_put {P:Program} {o:Oper} {a:Act} {w:World} {K K':Act→World→Prop} {Q:Go.Exit→Act→World→Prop}
  (h:∀ v w',K (a.put o.dst v) w'→K' (a.put o.dst v) w') (hd:∀ d w',¬ K ({ a with defers:=d::a.defers }.put o.dst undef) w') (hh:o.wp P a w K Q):o.wp P a w K' Q:=by
 unfold Oper.wp at *
 generalize (execOp a.eval o).run P w=r at *
 cases r with
 | ok n w' =>
  cases n<;>simp only [Oper.upon] at hh ⊢ <;>
   first
    | exact absurd hh (hd _ _)
    | exact h _ _ hh
    | exact Calls.mono hh (fun e w'' he=>by cases e<;>first | exact h _ _ he | exact he)
    | exact Rows.mono hh (fun _ _ he=>h _ _ he)
 | halt x w'=>cases x<;>simp only [Oper.upon] at hh ⊢<;>exact hh
def AnyW (P:Program) (ops:Array Oper) (K:AS→Prop) (fuel:Nat) (listed:Array Bool) (s:AS):Prop :=
 ∀ Z a w,SR Z s a w→∀ (Q:Go.Exit→Act→World→Prop),(∀ s' Z' a' w',K s'→SR Z' s' a' w'→Ext s.h Z w s'.h Z' w'→Q .normal a' w')→wpAny P .any ops Q fuel listed a w
def waitB (ops:Array Oper) (j i:Nat):Bool:=match ops[j]? with
 | some o=>o.after.any fun e=>Region.binds .any e && e.on == i
 | none=>false
def dstAt (ops:Array Oper) (j:Nat):Option Nat:=(ops[j]?).bind (·.dst)
def upd {α:Type} (f:Nat→α) (i:Nat) (v:α):Nat→α:=fun k=>if k=i then v else f k
def AllOps (C:Nat→Oper→Prop):Nat→List Oper→Prop
 | _,[]=>True
 | i,o::r=>C i o∧AllOps C (i+1) r
theorem AllOps.get {C:Nat→Oper→Prop}:∀ (l:List Oper) (k:Nat),AllOps C k l→∀ (i:Nat) (o:Oper),l[i]?=some o→C (k+i) o:=by
 intro l
 induction l with
 | nil=>intro k _ i o ho; simp at ho
 | cons x l ih =>
  intro k h i o ho
  cases i with
  | zero =>
   simp only [List.getElem?_cons_zero,Option.some.injEq] at ho
   subst ho
   exact h.1
  | succ i =>
   have:=ih (k+1) h.2 i o (by simpa using ho)
   rwa [show k+1+i=k+(i+1) by omega] at this
theorem a_nil {C:Nat→Oper→Prop} {i:Nat}:AllOps C i []:=trivial
theorem a_op {C:Nat→Oper→Prop} {i:Nat} {o:Oper} {r:List Oper} (h:C i o) (hr:AllOps C (i+1) r):AllOps C i (o::r):=⟨h,hr⟩
theorem repl_false (n i:Nat):(Array.replicate n false).getD i false=false:=by
 rw [Array.getD_eq_getD_getElem?,Array.getElem?_replicate]
 split<;>rfl
section w
variable {P:Program} {K:AS→Prop} {s:AS} {dst:Option Tmp} {ty:TypeId} {pos:String} {after:Array Edge}
end w
section o
variable {P:Program} {ops:Array Oper} {K:AS→Prop} {s:AS} {j:Nat} {l:List Nat} {dst:Option Tmp} {ty:TypeId} {pos:String} {after:Array Edge}
end o
end Go.Proofs.Ytglgdaeimfdpfaa.VM
