/- big: a number as so many bytes, the greatest first. -/
import Derived.Test.YtaojoppkkmpieaaVmData
namespace Go.Proofs.Ytaojoppkkmpieaa.VM
open Go Go.RowKit

def be : Nat → Nat → List UInt8
  | 0, _ => []
  | k + 1, n => UInt8.ofNat (n / 256 ^ k) :: be k n
theorem be_len : ∀ (k n : Nat), (be k n).length = k
  | 0, _ => rfl
  | k + 1, n => by rw [be, List.length_cons, be_len k n]

theorem big_ac (n k : Nat) (hk : k ≤ 1000) : AC Try.prog 35 [.sc (.int .u64 n), .int k] Heap.empty (fun r _ => r = .txt (be k n)) := by
  refine AC_of_body Try.func35 rfl rfl (Nat.le_of_ble_eq_true rfl) rfl (fun _ hn => ?_)
  refine AW_seq ?_
  refine AW_reg [0] rfl ?_
  refine o_asg rfl rfl (OpsW_nil ?_)  -- t4 := assign(const(string({data:=[]})))
  refine AW_seq ?_
  refine AW_reg [0] rfl ?_
  refine o_asg rfl rfl (OpsW_nil ?_)  -- t5 := assign(const(string({data:=[]})))
  refine AW_seq ?_
  refine AW_seq ?_
  refine AW_reg [0, 1] rfl ?_
  refine o_move rfl rfl ?_  -- t6 := move(t1)
  refine o_move rfl rfl (OpsW_nil ?_)  -- t7 := move(const(int(i64 0)))
  refine AW_block ?_  -- block 0
  refine AW_loopI (α := Nat) (fun i => [(0, .sc (.int .u64 (n / 256 ^ i : Nat))), (5, .txt (be i n)), (6, .int k), (7, .int i)])
    (fun i h => i ≤ k) (fun i => k - i) rfl ⟨0, Nat.zero_le _, by simp [Nat.div_one]; exact .same _, .same _, .same _, .same _, trivial⟩ ?_
  rintro i h n' hI hlt
  refine AW_seq ?_
  refine AW_reg [0] rfl ?_
  refine o_bin rfl rfl rfl rfl rfl (OpsW_nil ?_)  -- t8 := binOp(lss 3 t7 t6 3)
  refine AW_seq ?_
  refine AW_if rfl (fun hc => ?_) (fun hc => ?_)  -- t8
  · refine AW_skip ?_
    refine AW_seq ?_
    refine AW_block ?_  -- block 1
    refine AW_seq ?_
    refine AW_reg [0, 1, 2, 3, 4, 5, 6] rfl ?_
    refine o_move rfl rfl ?_  -- t9 := move(t0)
    refine o_ci rfl rfl uU64 uByte rfl (wrap8 _) ?_  -- t10 := convert(55 5 t9)
    refine o_bs (cs := bcells [UInt8.ofNat (n / 256 ^ i)]) rfl rfl uBytes iByte rfl (by kernel_rfl) (by decide) (by decide) rfl rfl ?_  -- t11 := buildSlice(35 1 [(0, t10)])
    intro v1 h1 n1 hr1 hn1 hk1
    refine o_cb (bs := [UInt8.ofNat (n / 256 ^ i)]) rfl rfl uBytes uByte uStr hr1.cont ?_  -- t12 := convert(35 9 t11)
    refine o_move rfl rfl ?_  -- t13 := move(t5)
    refine o_cat rfl rfl rfl rfl (by rw [be_len]; simp; omega) ?_  -- t14 := binOp(add 9 t12 t13 9)
    refine o_asg rfl rfl (OpsW_nil ?_)  -- t5 := assign(t14)
    refine AW_reg [0, 1, 2] rfl ?_
    refine o_move rfl rfl ?_  -- t15 := move(t0)
    refine o_shift rfl rfl rfl rfl (.inr rfl) (by decide) (c := ((n / 256 ^ (i + 1) : Nat) : Int)) ((shr_natu _ 8 (by decide)).trans (by rw [Nat.div_div_eq_div_mul, Nat.pow_succ]; rfl)) ?_  -- t16 := binOp(shr 55 t15 const(int(u64 8)) 53)
    refine o_asg rfl rfl (OpsW_nil ?_)  -- t0 := assign(t16)
    refine AW_reg [0, 1] rfl ?_
    refine o_add rfl rfl rfl rfl (c := ((i + 1 : Nat) : Int)) rfl (by omega) ?_  -- t17 := binOp(add 3 t7 const(int(i64 1)) 3)
    refine o_move rfl rfl (OpsW_nil ?_)  -- t7 := move(t17)
    exact ⟨rfl, i + 1, by omega, by omega, .same _, .same _, .same _, .same _, trivial⟩
  · refine AW_exit ?_  -- exit 0
    refine AW_seq ?_
    refine AW_reg [0, 1] rfl ?_
    refine o_move rfl rfl ?_  -- t18 := move(t5)
    refine o_asg rfl rfl (OpsW_nil ?_)  -- t4 := assign(t18)
    refine AW_ret ⟨_, rfl, ?_⟩
    have : i = k := by omega
    subst this
    rfl
end Go.Proofs.Ytaojoppkkmpieaa.VM
