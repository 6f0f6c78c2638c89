/- Words and rules that the proof uses. -/
import Derived.Test.YtfekkhinjdmcbaaDoorVtMix
namespace Go.Proofs.YtfekkhinjdmcbaaDoor.VM
open Go Go.RowKit
theorem p_u64andnot {P : Program} {s : TS} {dst : Option Tmp} {ty : TypeId} {pos : String} {after : Array Edge} {t yt : TypeId} {x y : Operand} {a b : UInt64} (hd : dOk2 s dst = true) (hx : tev s x = .c (.p (.sc (.int .u64 a.toNat)))) (hy : tev s y = .c (.p (.sc (.int .u64 b.toNat)))) : PureD P ⟨dst, .binOp .andNot t x y yt, ty, pos, after, none⟩ s (.c (.p (.sc (.int .u64 (a &&& ~~~ b).toNat)))) := by
 have e : UInt64.ofNat (a.toBitVec &&& ~~~ b.toBitVec).toNat = a &&& ~~~ b := by
  rw [← UInt64.toBitVec_inj, UInt64.toBitVec_and, UInt64.toBitVec_not]
  show BitVec.ofNat 64 (a.toBitVec &&& ~~~ b.toBitVec).toNat = _
  rw [BitVec.ofNat_toNat, BitVec.setWidth_eq]
 exact p_bin hd hx hy (by simp only [ibin, Go.bits]; rw [bits_u64, bits_u64, wrap_u64]; exact congrArg (fun q : UInt64 => some (Value.int .u64 (q.toNat : Int))) e)
section lit
variable {P : Program} {s : TS} {dst : Option Tmp} {ty : TypeId} {pos : String} {after : Array Edge}
end lit
section arr
variable {P : Program} {s : TS} {dst : Option Tmp} {ty : TypeId} {pos : String} {after : Array Edge}
end arr
end Go.Proofs.YtfekkhinjdmcbaaDoor.VM
