/- Words and rules that the proof uses. -/
import Derived.Test.YteilidpbnndnpaaDoorVtShort
import Derived.Laws.Externs
import Derived.Laws.FloatArith
namespace Go.Proofs.YteilidpbnndnpaaDoor.VM
open Go Go.RowKit
abbrev F64 := UInt64
abbrev AV.f64 (x : F64) : AV := .sc (.float .f64 x.toNat)
def ford (x y : F64) : Option Ordering := FloatKind.f64.format.order x.toNat y.toNat
abbrev flt (x y : F64) : Bool := ford x y == some .lt
section
variable {P : Program} {s : TS} {dst : Option Tmp} {ty : TypeId} {pos : String} {after : Array Edge}
end
end Go.Proofs.YteilidpbnndnpaaDoor.VM
