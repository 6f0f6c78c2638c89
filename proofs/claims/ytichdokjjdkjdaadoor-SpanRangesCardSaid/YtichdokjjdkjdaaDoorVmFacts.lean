/- Words and rules that the proof uses. -/
import Derived.Test.YtichdokjjdkjdaaDoorVmTact
import Derived.Test.YtichdokjjdkjdaaDoorChecked
namespace Go.Proofs.YtichdokjjdkjdaaDoor.VM
open Go Go.RowKit
theorem mixed : Tryd.prog.follows .mixedOrders = true := by kernel_rfl
end Go.Proofs.YtichdokjjdkjdaaDoor.VM
