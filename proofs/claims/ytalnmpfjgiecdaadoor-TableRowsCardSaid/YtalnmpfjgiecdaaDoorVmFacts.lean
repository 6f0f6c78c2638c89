/- Words and rules that the proof uses. -/
import Derived.Test.YtalnmpfjgiecdaaDoorVmTact
import Derived.Test.YtalnmpfjgiecdaaDoorChecked
namespace Go.Proofs.YtalnmpfjgiecdaaDoor.VM
open Go Go.RowKit
theorem mixed : Tryd.prog.follows .mixedOrders = true := by kernel_rfl
end Go.Proofs.YtalnmpfjgiecdaaDoor.VM
