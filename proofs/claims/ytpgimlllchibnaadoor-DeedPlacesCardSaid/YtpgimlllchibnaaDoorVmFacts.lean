/- Words and rules that the proof uses. -/
import Derived.Test.YtpgimlllchibnaaDoorVmTact
import Derived.Test.YtpgimlllchibnaaDoorChecked
namespace Go.Proofs.YtpgimlllchibnaaDoor.VM
open Go Go.RowKit
theorem mixed : Tryd.prog.follows .mixedOrders = true := by kernel_rfl
end Go.Proofs.YtpgimlllchibnaaDoor.VM
