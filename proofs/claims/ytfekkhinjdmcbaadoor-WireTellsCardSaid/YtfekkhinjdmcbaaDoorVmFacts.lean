/- Words and rules that the proof uses. -/
import Derived.Test.YtfekkhinjdmcbaaDoorVmTact
import Derived.Test.YtfekkhinjdmcbaaDoorChecked
namespace Go.Proofs.YtfekkhinjdmcbaaDoor.VM
open Go Go.RowKit
theorem mixed : Tryd.prog.follows .mixedOrders = true := by kernel_rfl
end Go.Proofs.YtfekkhinjdmcbaaDoor.VM
