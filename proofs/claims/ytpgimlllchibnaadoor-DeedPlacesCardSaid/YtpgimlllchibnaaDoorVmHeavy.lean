/- Words and rules that the proof uses. -/
import Derived.Test.YtpgimlllchibnaaDoorVmBits
namespace Go.Proofs.YtpgimlllchibnaaDoor.VM
open Go Go.RowKit
theorem Row.stay {h h' : Heap} {v v1 : AV} {cs : List AV} {n z : Nat} (r : Row h v cs n z) (hs : sep v v1) (hk : ∀ b, h b ≠ none → blk v1 ≠ some b → h' b = h b) : Row h' v cs n z :=
 r.keep fun b hb hb2 => hk b hb2 (hs b hb)
section w
variable {P : Program} {K : AS → Prop} {s : AS} {dst : Option Tmp} {ty : TypeId} {pos : String} {after : Array Edge}
end w
end Go.Proofs.YtpgimlllchibnaaDoor.VM
