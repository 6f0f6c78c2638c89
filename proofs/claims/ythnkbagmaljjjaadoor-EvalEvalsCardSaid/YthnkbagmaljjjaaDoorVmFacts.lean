/- Words and rules that the proof uses. -/
import Derived.Test.YthnkbagmaljjjaaDoorVmTact
import Derived.Test.YthnkbagmaljjjaaDoorChecked
namespace Go.Proofs.YthnkbagmaljjjaaDoor.VM
open Go Go.RowKit
theorem mixed : Tryd.prog.follows .mixedOrders = true := by kernel_rfl
end Go.Proofs.YthnkbagmaljjjaaDoor.VM
