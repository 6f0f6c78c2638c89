/- Words and rules that the proof uses. -/
import Derived.Test.YtglgdaeimfdpfaaVmMake
namespace Go.Proofs.Ytglgdaeimfdpfaa.VM
open Go Go.RowKit
def bcells (bs:List UInt8):List AV:=bs.map fun b=>.sc (.int .u8 b.toNat)
def strB (bs:List UInt8):ByteArray:=⟨bs.toArray⟩
theorem bcells_length (bs:List UInt8):(bcells bs).length=bs.length:=by simp [bcells]
section ops
variable {P:Program} {K:AS→Prop} {s:AS} {dst:Option Tmp} {ty:TypeId} {pos:String} {after:Array Edge} {t e:TypeId} {x:Operand} {lo hi mx:Option Operand} {l h n m z:Nat}
end ops
end Go.Proofs.Ytglgdaeimfdpfaa.VM
