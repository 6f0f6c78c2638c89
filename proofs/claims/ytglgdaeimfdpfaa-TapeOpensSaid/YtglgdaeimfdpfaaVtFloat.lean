/- Words and rules that the proof uses. -/
import Derived.Test.YtglgdaeimfdpfaaVtShort
import Derived.Laws.Externs
import Derived.Laws.FloatArith
namespace Go.Proofs.Ytglgdaeimfdpfaa.VM
open Go Go.RowKit
section
variable {P : Program} {s : TS} {dst : Option Tmp} {ty : TypeId} {pos : String} {after : Array Edge}
end
end Go.Proofs.Ytglgdaeimfdpfaa.VM
