/- Words and rules that the proof uses. -/
import Derived.Test.YteilidpbnndnpaaDoorVtPub
namespace Go.Proofs.YteilidpbnndnpaaDoor.VM
open Go Go.RowKit
def AppD (P : Program) (o : Oper) (s : TS) (v : TV) (c : Nat) (k : Blk) : Prop :=
 ∀ m h1 n, HM m s.h h1 → OpW P o (fun s1 => ∃ ro h' n' av, s1 = (AS.mk (can m s h1 n).t h' n' s.sz).put o.dst av ∧ Les av (v.rn (nset m c ro)) ∧ ((∃ r, ro = some r ∧ h' r = some (k.cells (nset m c ro))) ∨ (ro = none ∧ k.cells (nset m c ro) = [])) ∧ ∀ q, h1 q ≠ none → m c ≠ some q → h' q = h1 q ∧ ro ≠ some q) (can m s h1 n)
end Go.Proofs.YteilidpbnndnpaaDoor.VM
