/- Words and rules that the proof uses. -/
import Derived.Test.YtcahembojhmpbaaDoorVmTact
import Derived.Test.YtcahembojhmpbaaDoorChecked
namespace Go.Proofs.YtcahembojhmpbaaDoor.VM
open Go Go.RowKit
theorem mixed : Tryd.prog.follows .mixedOrders = true := by kernel_rfl
end Go.Proofs.YtcahembojhmpbaaDoor.VM
