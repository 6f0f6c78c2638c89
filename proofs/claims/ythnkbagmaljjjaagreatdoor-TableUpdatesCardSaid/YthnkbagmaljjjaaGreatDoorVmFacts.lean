/- Words and rules that the proof uses. -/
import Derived.Test.YthnkbagmaljjjaaGreatDoorVmTact
import Derived.Test.YthnkbagmaljjjaaGreatDoorChecked
namespace Go.Proofs.YthnkbagmaljjjaaGreatDoor.VM
open Go Go.RowKit
theorem mixed:Tryz.prog.follows .mixedOrders=true:=by kernel_rfl
end Go.Proofs.YthnkbagmaljjjaaGreatDoor.VM
