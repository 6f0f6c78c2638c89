/- The tables of the package, by their global places. -/
import Derived.Laws.Cells
namespace Go.Proofs.Ytglgdaeimfdpfaa.VM
open Go
def tabs : List (Nat × List Value) := []
def openInts : List Nat := []
end Go.Proofs.Ytglgdaeimfdpfaa.VM
