/- Words and rules that the proof uses. -/
import Derived.Test.YtfekkhinjdmcbaaDoorVmDraw
import Derived.Laws.Bits64b
namespace Go.Proofs.YtfekkhinjdmcbaaDoor.VM
open Go Go.RowKit
theorem wrapi {n : Nat} (h : n < 9223372036854775808) : IntKind.i64.wrap (n : Int) = n := wrap64 (by omega)
section o
variable {P : Program} {ops : Array Oper} {K : AS → Prop} {s : AS} {j : Nat} {l : List Nat} {dst : Option Tmp} {ty : TypeId} {pos : String} {after : Array Edge}
end o
end Go.Proofs.YtfekkhinjdmcbaaDoor.VM
