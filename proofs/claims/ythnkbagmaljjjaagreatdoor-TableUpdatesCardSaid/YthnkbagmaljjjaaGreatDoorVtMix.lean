/- Words and rules that the proof uses. -/
import Derived.Test.YthnkbagmaljjjaaGreatDoorVtMin
namespace Go.Proofs.YthnkbagmaljjjaaGreatDoor.VM
open Go Go.RowKit
section
variable {P:Program} {s:TS} {dst:Option Tmp} {ty:TypeId} {pos:String} {after:Array Edge}
end
def one (b:Nat) (o:List AV):Heap:=fun k=>if k=b then some o else none
section calls
variable {P:Program} {s:TS} {dst:Option Tmp} {ty:TypeId} {pos:String} {after:Array Edge}
end calls
section zero
variable {P:Program} {s:TS} {dst:Option Tmp} {ty:TypeId} {pos:String} {after:Array Edge}
end zero
section calls
variable {P:Program} {s:TS} {ty:TypeId} {pos:String} {after:Array Edge}
end calls
end Go.Proofs.YthnkbagmaljjjaaGreatDoor.VM
