/- Words and rules that the proof uses. -/
import Derived.Test.YtglgdaeimfdpfaaVmTact
import Derived.Test.YtglgdaeimfdpfaaChecked
namespace Go.Proofs.Ytglgdaeimfdpfaa.VM
open Go Go.RowKit
theorem mixed:Try.prog.follows .mixedOrders=true:=by kernel_rfl
end Go.Proofs.Ytglgdaeimfdpfaa.VM
