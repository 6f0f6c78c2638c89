/- The seat's own types, under short names. -/
import Derived.Test.YtkaeboabpahemaaDoorVmTact
import Derived.Test.YtkaeboabpahemaaDoorChecked
namespace Go.Proofs.YtkaeboabpahemaaDoor.VM
open Go Go.RowKit

theorem uInt : Tryd.prog.underlying 3 = some (.int .i64) := Tryd.underlying3
theorem uBool : Tryd.prog.underlying 4 = some .bool := Tryd.underlying4
theorem uStr : Tryd.prog.underlying 9 = some .string := Tryd.underlying9
theorem uByte : Tryd.prog.underlying 5 = some (.int .u8) := Tryd.underlying5
theorem uBytes : Tryd.prog.underlying 22 = some (.slice 5) := Tryd.underlying22
theorem uLists : Tryd.prog.underlying 33 = some (.slice 22) := Tryd.underlying33

theorem uU64 : Tryd.prog.underlying 103 = some (.int .u64) := Tryd.underlying103
theorem mixed : Tryd.prog.follows .mixedOrders = true := by kernel_rfl
theorem zInt : (Tryd.prog.info? 3).map (·.size) = some 1 := by kernel_rfl
theorem zStr : (Tryd.prog.info? 9).map (·.size) = some 1 := by kernel_rfl
theorem zByte : (Tryd.prog.info? 5).map (·.size) = some 1 := by kernel_rfl
theorem zBytes : (Tryd.prog.info? 22).map (·.size) = some 1 := by kernel_rfl
theorem iByte : Info Tryd.prog 5 1 1 (.int .u8 0) := by unfold Info; kernel_rfl
theorem iStr : Info Tryd.prog 9 1 16 (.string ⟨#[]⟩) := by unfold Info; kernel_rfl
theorem iInt : Info Tryd.prog 3 1 8 (.int .i64 0) := by unfold Info; kernel_rfl
theorem iBytes : Info Tryd.prog 22 1 24 (.slice none 0 0) := by unfold Info; kernel_rfl
end Go.Proofs.YtkaeboabpahemaaDoor.VM
