/- Words and rules that the proof uses. -/
import Derived.Test.YtpgimlllchibnaaDoorVtHeap
namespace Go.Proofs.YtpgimlllchibnaaDoor.VM
open Go Go.RowKit
section ops
variable {P : Program} {ty : TypeId} {pos : String} {after : Array Edge} {dst : Option Tmp}
def LendCs (s : TS) : List T1 → List AV → Prop
 | [], [] => True
 | c :: cs, a :: gs => LendC s c a ∧ LendCs s cs gs
 | _, _ => False
theorem lendCs_get {s : TS} {m : Nm} {h1 : Heap} (hm : HM m s.h h1) : ∀ {cs : List T1} {gs : List AV}, LendCs s cs gs → cs.length = gs.length ∧ ∀ (i : Nat) (a a' : AV), (cs.map (T1.rn m))[i]? = some a → gs[i]? = some a' → Lent h1 a a'
 | [], [], _ => ⟨rfl, fun i a a' h _ => by simp at h⟩
 | c :: cs, g :: gs, h => by
  obtain ⟨h2, h3⟩ := lendCs_get hm h.2
  refine ⟨by simp [h2], fun i a a' ha ha' => ?_⟩
  cases i with
  | zero =>
   simp only [List.map_cons, List.getElem?_cons_zero, Option.some.injEq] at ha ha'
   subst ha ha'
   exact h.1 m h1 hm
  | succ i => exact h3 i a a' (by simpa using ha) (by simpa using ha')
 | [], _ :: _, h => h.elim
 | _ :: _, [], h => h.elim
theorem lend_clo {s : TS} {x : Operand} {f : FuncId} {caps : List T1} {gs : List AV} (hx0 : isConst x = false) (h : tev s x = .clo f caps) (hc : LendCs s caps gs) : Lend s x (.clo f gs) := by
 intro m h1 n hm
 refine ⟨.clo f (caps.map (T1.rn m)), by rw [aev_eq hx0, h]; exact .same _, ?_⟩
 obtain ⟨h2, h3⟩ := lendCs_get hm hc
 exact .clo f _ _ (by simpa using h2) h3
end ops
end Go.Proofs.YtpgimlllchibnaaDoor.VM
