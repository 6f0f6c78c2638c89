/- Words and rules that the proof uses. -/
import Derived.Test.YtglgdaeimfdpfaaPuBase
namespace Go.Proofs.Ytglgdaeimfdpfaa.VM
open Go Go.RowKit
theorem u32_ext {a b : UInt32} (h : a.toBitVec = b.toBitVec) : a = b := UInt32.toBitVec_inj.1 h
theorem shr_xor (a b : UInt32) (n : Nat) : shr_u32 (a ^^^ b) n = shr_u32 a n ^^^ shr_u32 b n := by
 apply u32_ext
 show (a.toBitVec ^^^ b.toBitVec) >>> n = (a.toBitVec >>> n) ^^^ (b.toBitVec >>> n)
 exact BitVec.ushiftRight_xor_distrib ..
theorem shr_shr (a : UInt32) (i : Nat) : shr_u32 (shr_u32 a i) 1 = shr_u32 a (i + 1) := by
 apply u32_ext
 show a.toBitVec >>> i >>> 1 = a.toBitVec >>> (i + 1)
 rw [BitVec.shiftRight_add]
theorem one_bit (u : UInt32) : u &&& 1 = 0 ∨ u &&& 1 = 1 := by
 have h : (u &&& 1).toNat = u.toNat % 2 := by
  rw [UInt32.toNat_and]
  exact Nat.and_one_is_mod _
 have h2 : u.toNat % 2 = 0 ∨ u.toNat % 2 = 1 := by omega
 rcases h2 with h2 | h2
 ·left; apply UInt32.toNat_inj.1; rw [h, h2]; rfl
 ·right; apply UInt32.toNat_inj.1; rw [h, h2]; rfl
def stepC (c : UInt32) : UInt32 := if c &&& 1 = 1 then shr_u32 c 1 ^^^ 2197175160 else shr_u32 c 1
def stepD (x : UInt32) (i : Nat) (l : UInt32) : UInt32 := shr_u32 l 1 ^^^ (((l ^^^ shr_u32 x i) &&& 1) * 2197175160)
theorem step_cd (x : UInt32) (i : Nat) (l : UInt32) : stepC (l ^^^ shr_u32 x i) = stepD x i l ^^^ shr_u32 x (i + 1) := by
 unfold stepC stepD
 rw [shr_xor, shr_shr]
 rcases one_bit (l ^^^ shr_u32 x i) with h | h
 ·rw [h, if_neg (by decide), UInt32.zero_mul, UInt32.xor_zero]
 ·rw [h, if_pos rfl, UInt32.one_mul, UInt32.xor_assoc, UInt32.xor_assoc, UInt32.xor_comm (shr_u32 x (i + 1))]
theorem shr_eight (x : UInt8) : shr_u32 x.toUInt32 8 = 0 := by
 have hx := x.toNat_lt
 apply UInt32.toNat_inj.1
 show (x.toUInt32.toBitVec >>> 8).toNat = 0
 rw [BitVec.toNat_ushiftRight, Nat.shiftRight_eq_div_pow]
 have : x.toUInt32.toBitVec.toNat = x.toNat := UInt8.toNat_toUInt32 x
 rw [this]
 omega
theorem shr_none (x : UInt32) : shr_u32 x 0 = x := by
 apply u32_ext
 show x.toBitVec >>> 0 = x.toBitVec
 simp
theorem crc_inner {b : List UInt8} {t : Nat} (l : UInt32) : ∃ r, loopO g_sum_Crc_l1 (l ^^^ (lrd b t).toUInt32, (0 : Int)) = some r ∧ loopO (g_ref_Checked_l1 b (t : Int)) (l, (0 : Int)) = some r := by
 obtain ⟨r, q, h1, h2, h3⟩ := loopO_rel (step := g_sum_Crc_l1) (step2 := g_ref_Checked_l1 b (t : Int))
  (fun p q => ∃ k : Nat, k ≤ 8 ∧ p.2 = (k : Int) ∧ q.2 = (k : Int) ∧ p.1 = q.1 ^^^ shr_u32 (lrd b t).toUInt32 k) (fun r q => r = q) (fun p => (8 - p.2).toNat) (fun p q hpq => by
   obtain ⟨k, hk, e1, e2, e3⟩ := hpq
   obtain ⟨c, i⟩ := p
   obtain ⟨m, j⟩ := q
   dsimp only at e1 e2 e3
   subst e1 e2 e3
   unfold g_sum_Crc_l1 g_ref_Checked_l1
   dsimp only
   by_cases h8 : k < 8
   ·left
    rw [if_pos (show (k : Int) < 8 by omega), if_pos (show (k : Int) < 8 by omega), if_pos (show (0 : Int) ≤ (k : Int) by omega), letO_eq, Int.toNat_natCast, Int.toNat_natCast, w64_succ (by omega)]
    have hs := step_cd (lrd b t).toUInt32 k m
    have hc : (if (m ^^^ shr_u32 (lrd b t).toUInt32 k) &&& (1 : UInt32) = (1 : UInt32) then some (shr_u32 (m ^^^ shr_u32 (lrd b t).toUInt32 k) 1 ^^^ (2197175160 : UInt32)) else some (shr_u32 (m ^^^ shr_u32 (lrd b t).toUInt32 k) 1)) = some (stepC (m ^^^ shr_u32 (lrd b t).toUInt32 k)) := by
     unfold stepC
     split <;> rfl
    rw [hc, Option.bind_some]
    refine ⟨_, _, rfl, rfl, ⟨k + 1, by omega, rfl, rfl, ?_⟩, by dsimp only; omega⟩
    exact hs
   ·right
    have : k = 8 := by omega
    subst this
    rw [if_neg (by decide), if_neg (by decide), shr_eight, UInt32.xor_zero]
    exact ⟨_, _, rfl, rfl, rfl⟩) (a := (l ^^^ (lrd b t).toUInt32, (0 : Int))) (c := (l, (0 : Int))) ⟨0, by decide, rfl, rfl, by dsimp only; rw [shr_none]⟩
 exact ⟨r, h1, by rw [h2, h3]⟩
theorem crc_ok (b : List UInt8) (hb : b.length < 9223372036854775807) : ∃ c, g_sum_Crc b = some c ∧ g_ref_Checked b = some c := by
 obtain ⟨r, h1, h2⟩ := loopO_two (step := g_sum_Crc_l0 b) (step2 := g_ref_Checked_l0 b)
  (fun p q => p = q ∧ ∃ k : Nat, k ≤ b.length ∧ p.2 = (k : Int)) (fun p => ((b.length : Int) - p.2).toNat) (fun p q hpq => by
   obtain ⟨rfl, k, hk, e1⟩ := hpq
   obtain ⟨c, i⟩ := p
   dsimp only at e1
   subst e1
   unfold g_sum_Crc_l0 g_ref_Checked_l0
   dsimp only
   by_cases h : k < b.length
   ·left
    rw [if_pos (natLt h), if_pos (natIn h), if_pos (natLt h), if_pos (natIn h), Int.toNat_natCast, w64_succ (by omega)]
    obtain ⟨r, h1, h2⟩ := crc_inner (b := b) (t := k) c
    rw [h2, h1, Option.bind_some]
    exact ⟨_, _, rfl, rfl, ⟨rfl, k + 1, by omega, rfl⟩, by dsimp only; omega⟩
   ·right
    rw [if_neg (by omega), if_neg (by omega)]
    exact ⟨_, rfl, rfl⟩) (a := ((4294967295 : UInt32), (0 : Int))) (c := ((4294967295 : UInt32), (0 : Int))) ⟨rfl, 0, Nat.zero_le _, rfl⟩
 unfold g_sum_Crc g_ref_Checked
 rw [h1, h2, Option.bind_some, Option.bind_some]
 refine ⟨_, rfl, ?_⟩
 congr 1
 apply u32_ext
 show r.toBitVec ^^^ BitVec.allOnes 32 = ~~~ r.toBitVec
 exact BitVec.xor_allOnes
end Go.Proofs.Ytglgdaeimfdpfaa.VM
