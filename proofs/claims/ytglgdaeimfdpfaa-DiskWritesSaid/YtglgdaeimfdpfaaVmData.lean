/- Words and rules that the proof uses. -/
import Derived.Laws.Strings
import Derived.Test.YtglgdaeimfdpfaaVmFacts
namespace Go.Proofs.Ytglgdaeimfdpfaa.VM
open Go Go.RowKit
abbrev AV.txt (bs:List UInt8):AV:=.sc (.string (strB bs))
section steps
variable {P:Program} {ops:Array Oper} {K:AS→Prop} {s:AS} {j:Nat} {l:List Nat} {dst:Option Tmp} {ty:TypeId} {pos:String} {after:Array Edge}
end steps
section ops
variable {h h':Heap}
end ops
end Go.Proofs.Ytglgdaeimfdpfaa.VM
