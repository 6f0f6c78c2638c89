/- Words and rules that the proof uses. -/
import Derived.Test.YtglgdaeimfdpfaaVmBits
namespace Go.Proofs.Ytglgdaeimfdpfaa.VM
open Go Go.RowKit
section w
variable {P:Program} {K:AS→Prop} {s:AS} {dst:Option Tmp} {ty:TypeId} {pos:String} {after:Array Edge}
end w
end Go.Proofs.Ytglgdaeimfdpfaa.VM
