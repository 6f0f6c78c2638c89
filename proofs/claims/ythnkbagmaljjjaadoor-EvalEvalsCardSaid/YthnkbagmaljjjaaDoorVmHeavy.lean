/- Words and rules that the proof uses. -/
import Derived.Test.YthnkbagmaljjjaaDoorVmBits
namespace Go.Proofs.YthnkbagmaljjjaaDoor.VM
open Go Go.RowKit
section w
variable {P : Program} {K : AS → Prop} {s : AS} {dst : Option Tmp} {ty : TypeId} {pos : String} {after : Array Edge}
end w
end Go.Proofs.YthnkbagmaljjjaaDoor.VM
