/- SHA-256: sum.turn and ref.block: turnings, the tables, the first words. -/
import Derived.Test.YtkaeboabpahemaaDoorPuBase
namespace Go.Proofs.YtkaeboabpahemaaDoor.VM
open Go Go.RowKit
theorem cut4 {l : List UInt8} {k : Nat} (h : k + 4 ≤ l.length) : cut l (k : Int) ((k : Int) + 4) = [lrd l k, lrd l (k + 1), lrd l (k + 2), lrd l (k + 3)] := by
  have h1 : ((k : Int) + 4).toNat - (k : Int).toNat = 4 := by omega
  show (l.drop (k : Int).toNat).take (((k : Int) + 4).toNat - (k : Int).toNat) = _
  rw [h1, show (k : Int).toNat = k by omega, drop_step (by omega), drop_step (by omega), drop_step (by omega), drop_step (by omega)]
  rfl
/-- A word turned by n to the right. -/
def R (x : UInt32) (n : Nat) : UInt32 := shr_u32 x n ||| shl_u32 x (32 - n)
theorem or_swap (a b : UInt32) : a ||| b = b ||| a := UInt32.or_comm a b
theorem rl (x : UInt32) (k : Int) (a b n : Nat) (h1 : ((UInt64.ofInt k) &&& 31).toNat = a) (h2 : ((32 : UInt64) - ((UInt64.ofInt k) &&& 31)).toNat = b) (ha : a = 32 - n) (hb : b = n) : g_bits_RotateLeft32 x k = some (R x n) := by
  unfold g_bits_RotateLeft32
  rw [h1, h2, ha, hb, or_swap]
  rfl
theorem rl2 (x : UInt32) : g_bits_RotateLeft32 x (-2) = some (R x 2) := rl x _ 30 2 2 (by decide +kernel) (by decide +kernel) rfl rfl
theorem rl6 (x : UInt32) : g_bits_RotateLeft32 x (-6) = some (R x 6) := rl x _ 26 6 6 (by decide +kernel) (by decide +kernel) rfl rfl
theorem rl7 (x : UInt32) : g_bits_RotateLeft32 x (-7) = some (R x 7) := rl x _ 25 7 7 (by decide +kernel) (by decide +kernel) rfl rfl
theorem rl11 (x : UInt32) : g_bits_RotateLeft32 x (-11) = some (R x 11) := rl x _ 21 11 11 (by decide +kernel) (by decide +kernel) rfl rfl
theorem rl13 (x : UInt32) : g_bits_RotateLeft32 x (-13) = some (R x 13) := rl x _ 19 13 13 (by decide +kernel) (by decide +kernel) rfl rfl
theorem rl17 (x : UInt32) : g_bits_RotateLeft32 x (-17) = some (R x 17) := rl x _ 15 17 17 (by decide +kernel) (by decide +kernel) rfl rfl
theorem rl18 (x : UInt32) : g_bits_RotateLeft32 x (-18) = some (R x 18) := rl x _ 14 18 18 (by decide +kernel) (by decide +kernel) rfl rfl
theorem rl19 (x : UInt32) : g_bits_RotateLeft32 x (-19) = some (R x 19) := rl x _ 13 19 19 (by decide +kernel) (by decide +kernel) rfl rfl
theorem rl22 (x : UInt32) : g_bits_RotateLeft32 x (-22) = some (R x 22) := rl x _ 10 22 22 (by decide +kernel) (by decide +kernel) rfl rfl
theorem rl25 (x : UInt32) : g_bits_RotateLeft32 x (-25) = some (R x 25) := rl x _ 7 25 25 (by decide +kernel) (by decide +kernel) rfl rfl
theorem rr (x : UInt32) (n : Int) (h : 0 ≤ n ∧ n ≤ 32) : g_ref_rot x n = some (R x n.toNat) := by
  unfold g_ref_rot
  have h2 : w64 (32 - n) = 32 - n := w64_id (by omega)
  rw [if_pos h.1, h2, if_pos (by omega), show (32 - n).toNat = 32 - n.toNat by omega]
  rfl
/-- A word of a text of hexadecimals, by running. -/
noncomputable def hexOk (s : List UInt8) (i : Int) (r : UInt32) : Bool :=
  decide (0 ≤ w64 ((8 : Int) * i) ∧ w64 ((8 : Int) * i) ≤ w64 ((w64 ((8 : Int) * i)) + (8 : Int)) ∧ w64 ((w64 ((8 : Int) * i)) + (8 : Int)) ≤ (s.length : Int)) &&
  decide (loopN (g_ref_hexWord_l0 ((cut s (w64 ((8 : Int) * i)) (w64 ((w64 ((8 : Int) * i)) + (8 : Int)))).length : Int) (cut s (w64 ((8 : Int) * i)) (w64 ((w64 ((8 : Int) * i)) + (8 : Int))))) 9 ((0 : UInt32), (0 : Int)) = some r)
theorem hex_of {s : List UInt8} {i : Int} {r : UInt32} (h : hexOk s i r = true) : g_ref_hexWord s i = some r := by
  unfold hexOk at h
  rw [Bool.and_eq_true] at h
  have h1 := of_decide_eq_true h.1
  have h2 := of_decide_eq_true h.2
  unfold g_ref_hexWord
  rw [if_pos h1]
  show (loopO (g_ref_hexWord_l0 _ _) ((0 : UInt32), (0 : Int))).bind _ = _
  rw [loopO_of h2]
  rfl
theorem hex_rounds_all : ((List.range 64).all fun i => hexOk g_ref_block_t0 i (lrd tab0 i)) = true := by decide +kernel
theorem hex_rounds {i : Nat} (h : i < 64) : g_ref_hexWord g_ref_block_t0 (i : Int) = some (lrd tab0 i) :=
  hex_of (List.all_eq_true.1 hex_rounds_all i (List.mem_range.2 h))
/-- Four bytes as a number. -/
theorem number4 (a b c d : UInt8) : g_ref_number [a, b, c, d] = some (((((0 : UInt64) * 256 + a.toUInt64) * 256 + b.toUInt64) * 256 + c.toUInt64) * 256 + d.toUInt64) := by
  unfold g_ref_number
  have s0 : ∀ n : UInt64, g_ref_number_l0 [a, b, c, d] (n, 0) = some (.inl (n * 256 + a.toUInt64, 1)) := fun _ => rfl
  have s1 : ∀ n : UInt64, g_ref_number_l0 [a, b, c, d] (n, 1) = some (.inl (n * 256 + b.toUInt64, 2)) := fun _ => rfl
  have s2 : ∀ n : UInt64, g_ref_number_l0 [a, b, c, d] (n, 2) = some (.inl (n * 256 + c.toUInt64, 3)) := fun _ => rfl
  have s3 : ∀ n : UInt64, g_ref_number_l0 [a, b, c, d] (n, 3) = some (.inl (n * 256 + d.toUInt64, 4)) := fun _ => rfl
  have s4 : ∀ n : UInt64, g_ref_number_l0 [a, b, c, d] (n, 4) = some (.inr n) := fun _ => rfl
  rw [loopO_next (s0 0), loopO_next (s1 _), loopO_next (s2 _), loopO_next (s3 _), loopO_done (s4 _)]
  rfl
theorem or_add {i b : Nat} (hb : b < 2 ^ i) (a : Nat) : a * 2 ^ i ||| b = a * 2 ^ i + b := by
  rw [Nat.mul_comm, ← Nat.two_pow_add_eq_or_of_lt hb a]
theorem word4 (a b c d : UInt8) : (((((0 : UInt64) * 256 + a.toUInt64) * 256 + b.toUInt64) * 256 + c.toUInt64) * 256 + d.toUInt64).toUInt32 =
    ((shl_u32 a.toUInt32 24 ||| shl_u32 b.toUInt32 16) ||| shl_u32 c.toUInt32 8) ||| d.toUInt32 := by
  apply UInt32.toNat_inj.1
  have ha := a.toNat_lt
  have hb := b.toNat_lt
  have hc := c.toNat_lt
  have hd := d.toNat_lt
  have e : ∀ (x : UInt8) (n : Nat), (shl_u32 x.toUInt32 n).toNat = (x.toNat * 2 ^ n) % 2 ^ 32 := by
    intro x n
    show (x.toUInt32.toBitVec <<< n).toNat = _
    rw [BitVec.toNat_shiftLeft, Nat.shiftLeft_eq]
    have : x.toUInt32.toBitVec.toNat = x.toNat := by simp
    rw [this]
  rw [UInt32.toNat_or, UInt32.toNat_or, UInt32.toNat_or, e, e, e]
  have e1 : a.toNat * 2 ^ 24 % 2 ^ 32 = a.toNat * 2 ^ 24 := Nat.mod_eq_of_lt (by omega)
  have e2 : b.toNat * 2 ^ 16 % 2 ^ 32 = b.toNat * 2 ^ 16 := Nat.mod_eq_of_lt (by omega)
  have e3 : c.toNat * 2 ^ 8 % 2 ^ 32 = c.toNat * 2 ^ 8 := Nat.mod_eq_of_lt (by omega)
  have e4 : d.toUInt32.toNat = d.toNat := by simp
  rw [e1, e2, e3, e4, or_add (i := 24) (b := b.toNat * 2 ^ 16) (by omega), show a.toNat * 2 ^ 24 + b.toNat * 2 ^ 16 = (a.toNat * 256 + b.toNat) * 2 ^ 16 by omega, or_add (i := 16) (b := c.toNat * 2 ^ 8) (by omega),
    show (a.toNat * 256 + b.toNat) * 2 ^ 16 + c.toNat * 2 ^ 8 = ((a.toNat * 256 + b.toNat) * 256 + c.toNat) * 2 ^ 8 by omega, or_add (i := 8) (by omega)]
  simp only [UInt64.toNat_toUInt32, UInt64.toNat_add, UInt64.toNat_mul, UInt8.toNat_toUInt64]
  have : (256 : UInt64).toNat = 256 := rfl
  have z : (0 : UInt64).toNat = 0 := rfl
  rw [this, z]
  omega
/-- The choice, and the majority, by bits. -/
theorem ch_eq (e f g : UInt32) : (e &&& f) ^^^ ((~~~ e) &&& g) = (e &&& f) ||| ((~~~ e) &&& g) := by
  apply UInt32.toBitVec_inj.1
  apply BitVec.eq_of_getLsbD_eq
  intro i hi
  simp only [UInt32.toBitVec_xor, UInt32.toBitVec_and, UInt32.toBitVec_or, UInt32.toBitVec_not, BitVec.getLsbD_xor, BitVec.getLsbD_and, BitVec.getLsbD_or, BitVec.getLsbD_not, hi, decide_true, Bool.true_and]
  cases e.toBitVec.getLsbD i <;> simp
theorem maj_eq (a b c : UInt32) : ((a &&& b) ^^^ (a &&& c)) ^^^ (b &&& c) = ((a &&& b) ||| (a &&& c)) ||| (b &&& c) := by
  apply UInt32.toBitVec_inj.1
  apply BitVec.eq_of_getLsbD_eq
  intro i hi
  simp only [UInt32.toBitVec_xor, UInt32.toBitVec_and, UInt32.toBitVec_or, BitVec.getLsbD_xor, BitVec.getLsbD_and, BitVec.getLsbD_or]
  cases a.toBitVec.getLsbD i <;> cases b.toBitVec.getLsbD i <;> cases c.toBitVec.getLsbD i <;> rfl
end Go.Proofs.YtkaeboabpahemaaDoor.VM
