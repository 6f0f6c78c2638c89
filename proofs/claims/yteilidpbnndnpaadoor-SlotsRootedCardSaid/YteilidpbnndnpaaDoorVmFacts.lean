/- Words and rules that the proof uses. -/
import Derived.Test.YteilidpbnndnpaaDoorVmTact
import Derived.Test.YteilidpbnndnpaaDoorChecked
namespace Go.Proofs.YteilidpbnndnpaaDoor.VM
open Go Go.RowKit
theorem mixed : Tryd.prog.follows .mixedOrders = true := by kernel_rfl
end Go.Proofs.YteilidpbnndnpaaDoor.VM
