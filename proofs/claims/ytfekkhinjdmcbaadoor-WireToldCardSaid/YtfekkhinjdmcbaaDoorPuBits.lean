/- Words and rules that the proof uses. -/
import Derived.Test.YtfekkhinjdmcbaaDoorPuCode2
namespace Go.Proofs.YtfekkhinjdmcbaaDoor.VM
open Go Go.RowKit
theorem par (x : Int) (i : Nat) (hi : i < 64) : (x / 2 ^ i) % 2 = ((x % 2 ^ 64) / 2 ^ i) % 2 := by
 have hM : (2 : Int) ^ 64 = 2 ^ i * (2 * 2 ^ (63 - i)) := by
  rw [← Int.mul_assoc, ← Int.pow_succ, ← Int.pow_add]
  congr 1
  omega
 have hx : x = x % 2 ^ 64 + 2 ^ i * (2 * (2 ^ (63 - i) * (x / 2 ^ 64))) := by
  have := Int.emod_add_mul_ediv x (2 ^ 64)
  have h2 : (2 : Int) ^ 64 * (x / 2 ^ 64) = 2 ^ i * (2 * (2 ^ (63 - i) * (x / 2 ^ 64))) := by
   conv => lhs; rw [hM]
   conv => rhs; rw [hM]
   simp only [Int.mul_assoc]
  rw [← h2]; exact this.symm
 have hne : (2 : Int) ^ i ≠ 0 := Int.pow_ne_zero (by decide)
 conv => lhs; rw [hx]
 rw [Int.add_mul_ediv_left _ _ hne, Int.add_mul_emod_self_left]
theorem bitAt (x : Int) (i : Nat) (hi : i < 64) : (BitVec.ofInt 64 x).getLsbD i = decide ((x / 2 ^ i) % 2 = 1) := by
 rw [par x i hi, BitVec.getLsbD, BitVec.toNat_ofInt, Nat.testBit_eq_decide_div_mod_eq]
 have h0 : 0 ≤ x % 2 ^ 64 := Int.emod_nonneg _ (by decide)
 obtain ⟨n, hn⟩ := Int.eq_ofNat_of_zero_le h0
 have e : (((2 : Nat) ^ 64 : Nat) : Int) = 2 ^ 64 := by decide
 rw [e, hn, Int.toNat_natCast]
 refine decide_eq_decide.2 ?_
 rw [show ((2 : Int) ^ i) = ((2 ^ i : Nat) : Int) by simp, ← Int.natCast_ediv, show (2 : Int) = ((2 : Nat) : Int) from rfl, ← Int.natCast_emod]
 omega
theorem pow_lt63 {i : Nat} (hi : i < 63) : 2 ^ i ≤ 4611686018427387904 := Nat.le_trans (Nat.pow_le_pow_right (by decide) (show i ≤ 62 by omega)) (by decide)
theorem and_bit (a : Int) {i : Nat} (hi : i < 63) : iand a ((2 ^ i : Nat) : Int) = if (a / 2 ^ i) % 2 = 1 then ((2 ^ i : Nat) : Int) else 0 := by
 have hp := pow_lt63 hi
 have h1 : BitVec.ofInt 64 ((2 ^ i : Nat) : Int) = BitVec.twoPow 64 i := by
  apply BitVec.eq_of_toNat_eq
  rw [BitVec.toNat_ofInt, BitVec.toNat_twoPow]
  have e : (((2 : Nat) ^ 64 : Nat) : Int) = 18446744073709551616 := by decide
  have e2 : (2 : Nat) ^ 64 = 18446744073709551616 := by decide
  rw [e, e2]
  omega
 show w64 (((BitVec.ofInt 64 a) &&& (BitVec.ofInt 64 ((2 ^ i : Nat) : Int))).toNat : Int) = _
 rw [h1, BitVec.and_twoPow, bitAt a i (by omega)]
 by_cases h : (a / 2 ^ i) % 2 = 1
 ·rw [if_pos (decide_eq_true h), if_pos h, BitVec.toNat_twoPow, Nat.mod_eq_of_lt (Nat.lt_of_le_of_lt hp (by decide))]
  clear h h1
  generalize (2 ^ i : Nat) = q at hp
  exact w64_id (by omega)
 ·rw [if_neg (by rw [decide_eq_false h]; decide), if_neg h]
  rfl
theorem keep_eq (x : Int) {i : Nat} (hi : i < 63) : decide (iand (ishr x i) (1 : Int) = (1 : Int)) = decide (iand x (ishl (1 : Int) i) ≠ (0 : Int)) := by
 have hp := pow_lt63 hi
 have hpos : 0 < 2 ^ i := Nat.pow_pos (by decide)
 have h1 : ishr x i = x / 2 ^ i := by
  show x.fdiv (2 ^ min i 64) = _
  rw [Nat.min_eq_left (by omega), Int.fdiv_eq_ediv_of_nonneg _ (Int.pow_nonneg (by decide))]
 have h2 : ishl (1 : Int) i = ((2 ^ i : Nat) : Int) := by
  show w64 (1 * 2 ^ min i 64) = _
  rw [Nat.min_eq_left (by omega), Int.one_mul, show ((2 : Int) ^ i) = ((2 ^ i : Nat) : Int) by simp]
  generalize (2 ^ i : Nat) = q at hp hpos
  exact w64_id (by omega)
 have h3 := and_bit (x / 2 ^ i) (i := 0) (by decide)
 rw [show ((2 ^ 0 : Nat) : Int) = 1 from rfl, show ((2 : Int) ^ 0) = 1 from rfl, Int.ediv_one] at h3
 rw [h1, h2, h3, and_bit x hi]
 by_cases h : (x / 2 ^ i) % 2 = 1
 ·rw [if_pos h, if_pos h]
  exact decide_eq_decide.2 ⟨fun _ => by omega, fun _ => rfl⟩
 ·rw [if_neg h, if_neg h]
  rfl
end Go.Proofs.YtfekkhinjdmcbaaDoor.VM
