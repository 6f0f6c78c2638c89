/- sameBytes, for every pair of rows: whether they are the same. -/
import Derived.Test.YtaojoppkkmpieaaVmData
namespace Go.Proofs.Ytaojoppkkmpieaa.VM
open Go Go.RowKit

theorem sameBytes_ac (a b : List UInt8) : AC Try.prog 22 [.bytes a, .bytes b] Heap.empty (fun r _ => r = .bool (a == b)) := by
  refine AC_of_body Try.func22 rfl rfl (Nat.le_of_ble_eq_true rfl) rfl (fun n hn => ?_)
  refine AW_seq (AW_reg [0] rfl ?_)
  refine o_asg rfl rfl (OpsW_nil ?_)
  refine AW_seq (AW_reg [0, 1, 2, 3, 4, 5] rfl ?_)
  refine o_move rfl rfl ?_
  refine o_cb (bs := a) rfl rfl uBytes uByte uStr rfl ?_
  refine o_move rfl rfl ?_
  refine o_cb (bs := b) rfl rfl uBytes uByte uStr rfl ?_
  refine o_sbin rfl rfl rfl rfl rfl ?_
  refine o_asg rfl rfl (OpsW_nil ?_)
  refine AW_ret ⟨_, rfl, ?_⟩
  show AV.sc (.bool ((strB a).toList == (strB b).toList)) = _
  rw [strB_toList, strB_toList]
end Go.Proofs.Ytaojoppkkmpieaa.VM
