/- The seat's own types, under short names. -/
import Derived.Test.YtgbfmldbbnhefaaVmTact
import Derived.Test.YtgbfmldbbnhefaaChecked
namespace Go.Proofs.Ytgbfmldbbnhefaa.VM
open Go Go.RowKit

theorem uInt : Try.prog.underlying 3 = some (.int .i64) := Try.underlying3
theorem uBool : Try.prog.underlying 4 = some .bool := Try.underlying4
theorem uStr : Try.prog.underlying 9 = some .string := Try.underlying9
theorem uByte : Try.prog.underlying 5 = some (.int .u8) := Try.underlying5

theorem mixed : Try.prog.follows .mixedOrders = true := by kernel_rfl
theorem zInt : (Try.prog.info? 3).map (·.size) = some 1 := by kernel_rfl
theorem zStr : (Try.prog.info? 9).map (·.size) = some 1 := by kernel_rfl
theorem zByte : (Try.prog.info? 5).map (·.size) = some 1 := by kernel_rfl
theorem iByte : Info Try.prog 5 1 1 (.int .u8 0) := by unfold Info; kernel_rfl
theorem iStr : Info Try.prog 9 1 16 (.string ⟨#[]⟩) := by unfold Info; kernel_rfl
theorem iInt : Info Try.prog 3 1 8 (.int .i64 0) := by unfold Info; kernel_rfl
end Go.Proofs.Ytgbfmldbbnhefaa.VM
