/- The seat's own types, under short names. -/
import Derived.Test.YtglgdaeimfdpfaaVmTact
import Derived.Test.YtglgdaeimfdpfaaChecked
namespace Go.Proofs.Ytglgdaeimfdpfaa.VM
open Go Go.RowKit

theorem uInt : Try.prog.underlying 3 = some (.int .i64) := Try.underlying3
theorem uBool : Try.prog.underlying 4 = some .bool := Try.underlying4
theorem uStr : Try.prog.underlying 9 = some .string := Try.underlying9
theorem uByte : Try.prog.underlying 5 = some (.int .u8) := Try.underlying5
theorem uBytes : Try.prog.underlying 45 = some (.slice 5) := Try.underlying45
theorem uLists : Try.prog.underlying 40 = some (.slice 45) := Try.underlying40

theorem uU64 : Try.prog.underlying 82 = some (.int .u64) := Try.underlying82
theorem mixed : Try.prog.follows .mixedOrders = true := by kernel_rfl
theorem zInt : (Try.prog.info? 3).map (·.size) = some 1 := by kernel_rfl
theorem zStr : (Try.prog.info? 9).map (·.size) = some 1 := by kernel_rfl
theorem zByte : (Try.prog.info? 5).map (·.size) = some 1 := by kernel_rfl
theorem zBytes : (Try.prog.info? 45).map (·.size) = some 1 := by kernel_rfl
theorem iByte : Info Try.prog 5 1 1 (.int .u8 0) := by unfold Info; kernel_rfl
theorem iStr : Info Try.prog 9 1 16 (.string ⟨#[]⟩) := by unfold Info; kernel_rfl
theorem iInt : Info Try.prog 3 1 8 (.int .i64 0) := by unfold Info; kernel_rfl
theorem iBytes : Info Try.prog 45 1 24 (.slice none 0 0) := by unfold Info; kernel_rfl
end Go.Proofs.Ytglgdaeimfdpfaa.VM
