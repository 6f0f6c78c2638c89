/- Words and rules that the proof uses. -/
import Derived.Test.YtglgdaeimfdpfaaVtCut
namespace Go.Proofs.Ytglgdaeimfdpfaa.VM
open Go Go.RowKit
section
variable {P:Program} {s:TS} {dst:Option Tmp} {ty:TypeId} {pos:String} {after:Array Edge}
end
end Go.Proofs.Ytglgdaeimfdpfaa.VM
