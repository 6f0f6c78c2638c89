/- Words and rules that the proof uses. -/
import Derived.Test.YtcahembojhmpbaaDoorVmBits
namespace Go.Proofs.YtcahembojhmpbaaDoor.VM
open Go Go.RowKit
section w
variable {P : Program} {K : AS → Prop} {s : AS} {dst : Option Tmp} {ty : TypeId} {pos : String} {after : Array Edge}
end w
end Go.Proofs.YtcahembojhmpbaaDoor.VM
