/- Words and rules that the proof uses. -/
import Derived.Test.YtglgdaeimfdpfaaVtHeap
namespace Go.Proofs.Ytglgdaeimfdpfaa.VM
open Go Go.RowKit
section ops
variable {P:Program} {ty:TypeId} {pos:String} {after:Array Edge} {dst:Option Tmp}
end ops
end Go.Proofs.Ytglgdaeimfdpfaa.VM
