/- Words and rules that the proof uses. -/
import Derived.Test.YtglgdaeimfdpfaaVtMix2
import Derived.MapKept
namespace Go.Proofs.Ytglgdaeimfdpfaa.VM
open Go Go.RowKit
abbrev MapI:=List (List UInt8×Int)
section run
variable {P:Program} {w:World} {t kt et:TypeId} {r clock:Nat} {es:Array MapEntry} {M:MapI} {k:List UInt8}
end run
section ops
variable {P:Program} {dst:Option Tmp} {ty:TypeId} {pos:String} {after:Array Edge}
end ops
end Go.Proofs.Ytglgdaeimfdpfaa.VM
