/- Words and rules that the proof uses. -/
import Derived.Test.YtglgdaeimfdpfaaVmDraw
import Derived.Laws.Bits64b
namespace Go.Proofs.Ytglgdaeimfdpfaa.VM
open Go Go.RowKit
section o
variable {P:Program} {ops:Array Oper} {K:AS→Prop} {s:AS} {j:Nat} {l:List Nat} {dst:Option Tmp} {ty:TypeId} {pos:String} {after:Array Edge}
end o
end Go.Proofs.Ytglgdaeimfdpfaa.VM
