/- number: bytes as a number, the greatest first. -/
import Derived.Test.YtaojoppkkmpieaaVmBits
namespace Go.Proofs.Ytaojoppkkmpieaa.VM
open Go Go.RowKit

def num (bs : List UInt8) : Nat := bs.foldl (fun n b => n * 256 + b.toNat) 0
theorem num_snoc (bs : List UInt8) (b : UInt8) : num (bs ++ [b]) = num bs * 256 + b.toNat := by simp [num]
theorem wrapu_mod (n : Nat) : IntKind.u64.wrap (n : Int) = ((n % 18446744073709551616 : Nat) : Int) := by
  unfold IntKind.wrap
  simp [IntKind.bits, IntKind.signed]

theorem number_ac (bs : List UInt8) (hb : bs.length ≤ 4611686018427387904) : AC Try.prog 36 [.txt bs] Heap.empty (fun r _ => r = .sc (.int .u64 (num bs % 18446744073709551616 : Nat))) := by
  refine AC_of_body Try.func36 rfl rfl (Nat.le_of_ble_eq_true rfl) rfl (fun _ hn => ?_)
  refine AW_seq ?_
  refine AW_reg [0] rfl ?_
  refine o_asg rfl rfl (OpsW_nil ?_)  -- t2
  refine AW_seq ?_
  refine AW_reg [0] rfl ?_
  refine o_asg rfl rfl (OpsW_nil ?_)  -- t3
  refine AW_seq ?_
  refine AW_seq ?_
  refine AW_reg [0] rfl ?_
  refine o_asg rfl rfl (OpsW_nil ?_)  -- t4
  refine AW_block ?_  -- block 0
  refine AW_loopI (α := Nat) (fun i => [(0, .txt bs), (3, .sc (.int .u64 (num (bs.take i) % 18446744073709551616 : Nat))), (4, .int i)])
    (fun i h => i ≤ bs.length) (fun i => bs.length - i) rfl ⟨0, Nat.zero_le _, .same _, .same _, .same _, trivial⟩ ?_
  rintro i h n hI hlt
  refine AW_seq ?_
  refine AW_seq ?_
  refine AW_reg [0, 1, 2, 3] rfl ?_
  refine o_move rfl rfl ?_  -- t5 := move(t4)
  refine o_move rfl rfl ?_  -- t6 := move(t0)
  refine o_lens rfl rfl uStr rfl ?_  -- t7
  refine o_bin rfl rfl rfl rfl rfl (OpsW_nil ?_)  -- t8 := binOp(lss 3 t5 t7 3)
  refine AW_if rfl (fun hc => ?_) (fun hc => ?_)  -- t8
  · have hi : i < bs.length := by
      have : ((strB bs).size : Int) = bs.length := rfl
      omega
    refine AW_skip ?_
    refine AW_seq ?_
    refine AW_block ?_  -- block 1
    refine AW_reg [0, 1, 2, 3, 4, 5, 6, 7] rfl ?_
    refine o_move rfl rfl ?_  -- t11 := move(t3)
    refine o_bin rfl rfl rfl rfl rfl ?_  -- t12 := binOp(mul 55 t11 const(int(u64 256)) 55)
    refine o_move rfl rfl ?_  -- t13 := move(t0)
    refine o_move rfl rfl ?_  -- t14 := move(t4)
    refine o_ixt rfl rfl uStr rfl rfl rfl (List.getElem?_eq_getElem hi) ?_  -- t15 := index(9 t13 t14)
    refine o_ci rfl rfl uByte uU64 rfl (wrapu (n := bs[i].toNat) (by have := bs[i].toNat_lt; omega)) ?_  -- t16 := convert(5 55 t15)
    refine o_bin (v := .int .u64 ((num (bs.take (i + 1)) % 18446744073709551616 : Nat) : Int)) rfl rfl rfl rfl ?_ ?_  -- t17 := binOp(add 55 t12 t16 55)
    · simp only [ibin]
      rw [show ((num (bs.take i) % 18446744073709551616 : Nat) : Int) * 256 = ((num (bs.take i) % 18446744073709551616 * 256 : Nat) : Int) by simp, wrapu_mod, ← Int.natCast_add, wrapu_mod, take_snoc hi, num_snoc]
      congr 3
      omega
    refine o_asg rfl rfl (OpsW_nil ?_)  -- t3 := assign(t17)
    refine AW_reg [0, 1, 2] rfl ?_
    refine o_move rfl rfl ?_  -- t9 := move(t4)
    refine o_add rfl rfl rfl rfl (c := ((i + 1 : Nat) : Int)) rfl (by omega) ?_  -- t10
    refine o_asg rfl rfl (OpsW_nil ?_)  -- t4 := assign(t10)
    exact ⟨rfl, i + 1, hi, by omega, .same _, .same _, .same _, trivial⟩
  · refine AW_exit ?_  -- exit 0
    refine AW_seq ?_
    refine AW_reg [0, 1] rfl ?_
    refine o_move rfl rfl ?_  -- t18 := move(t3)
    refine o_asg rfl rfl (OpsW_nil ?_)  -- t2 := assign(t18)
    refine AW_ret ⟨_, rfl, ?_⟩
    have hie : i = bs.length := by
      have : ((strB bs).size : Int) = bs.length := rfl
      omega
    subst hie
    show AV.sc (.int .u64 ((num (bs.take bs.length) % 18446744073709551616 : Nat) : Int)) = _
    rw [List.take_length]
end Go.Proofs.Ytaojoppkkmpieaa.VM
