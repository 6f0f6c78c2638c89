/- Words and rules that the proof uses. -/
import Derived.Laws.Strings
import Derived.Test.YthnkbagmaljjjaaGreatDoorVmFacts
namespace Go.Proofs.YthnkbagmaljjjaaGreatDoor.VM
open Go Go.RowKit
abbrev AV.txt (bs:List UInt8):AV:=.sc (.string (strB bs))
theorem strB_toList (a:List UInt8):(strB a).toList=a:=by rw [ByteArray.toList_eq]; rfl
theorem strB_append (a b:List UInt8):strB a++strB b=strB (a++b):=by
 apply ByteArray.ext
 simp [strB]
section steps
variable {P:Program} {ops:Array Oper} {K:AS→Prop} {s:AS} {j:Nat} {l:List Nat} {dst:Option Tmp} {ty:TypeId} {pos:String} {after:Array Edge}
end steps
section ops
variable {h h':Heap}
end ops
end Go.Proofs.YthnkbagmaljjjaaGreatDoor.VM
