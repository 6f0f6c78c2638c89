/- Words and rules that the proof uses. -/
import Derived.Test.YtfekkhinjdmcbaaDoorVtCut
namespace Go.Proofs.YtfekkhinjdmcbaaDoor.VM
open Go Go.RowKit
section
variable {P : Program} {s : TS} {dst : Option Tmp} {ty : TypeId} {pos : String} {after : Array Edge}
end
end Go.Proofs.YtfekkhinjdmcbaaDoor.VM
