/- Words and rules that the proof uses. -/
import Derived.Test.YtalnmpfjgiecdaaDoorVtCut
namespace Go.Proofs.YtalnmpfjgiecdaaDoor.VM
open Go Go.RowKit
section
variable {P : Program} {s : TS} {dst : Option Tmp} {ty : TypeId} {pos : String} {after : Array Edge}
end
end Go.Proofs.YtalnmpfjgiecdaaDoor.VM
