/- Words and rules that the proof uses. -/
import Derived.Test.YtfekkhinjdmcbaaDoorPuVal1
namespace Go.Proofs.YtfekkhinjdmcbaaDoor.VM
open Go Go.RowKit
theorem shl1_nat (b : UInt64) : (shl_u64 b 1).toNat = 2 * (b.toNat % 9223372036854775808) := by
 show (b.toBitVec <<< 1).toNat = _
 rw [BitVec.toNat_shiftLeft, Nat.shiftLeft_eq]
 show b.toNat * 2 ^ 1 % 2 ^ 64 = _
 omega
theorem bad_iff (b : UInt64) : ((18437736874454810624 : UInt64) < shl_u64 b 1) ↔ rung b > 9218868437227405312 := by
 rw [UInt64.lt_iff_toNat_lt, shl1_nat]
 show 18437736874454810624 < _ ↔ _
 unfold rung
 omega
theorem top_iff (b : UInt64) : b = (9223372036854775808 : UInt64) ↔ b.toNat = 9223372036854775808 := by
 constructor
 ·intro h; rw [h]; rfl
 ·intro h; exact UInt64.toNat_inj.1 h
theorem sign_eq (b : UInt64) : (w64 (b.toNat : Int) < 0) ↔ 9223372036854775808 ≤ b.toNat := by
 have hb : b.toNat < 18446744073709551616 := b.toNat_lt
 unfold w64 IntKind.wrap
 have e1 : (2 ^ IntKind.i64.bits : Int) = 18446744073709551616 := by decide
 have e2 : (2 ^ (IntKind.i64.bits - 1) : Int) = 9223372036854775808 := by decide
 have e3 : IntKind.i64.signed = true := rfl
 rw [e1, e2, e3]
 simp only [Bool.true_and, decide_eq_true_eq]
 split <;> omega
theorem skey0 : skey (0 : F64) = 0 := by decide
theorem ford_self {b : F64} (h : rung b ≤ 9218868437227405312) : ford b b = some .eq := by
 rw [ford_eq h h, cmp_eq.2 rfl]
theorem real_bad (b : UInt64) : (if (fneq b b) = true then some true else (if (feq b (0 : F64)) = true then (g_math_Signbit b).bind fun r'4 => some r'4 else some false)) = some (decide ((b = (9223372036854775808 : UInt64)) ∨ ((18437736874454810624 : UInt64) < shl_u64 b 1))) := by
 have hb : b.toNat < 18446744073709551616 := b.toNat_lt
 by_cases h : rung b > 9218868437227405312
 ·have : fneq b b = true := by unfold fneq; rw [ford_nan h]; rfl
  rw [if_pos this, decide_eq_true (.inr ((bad_iff b).2 h))]
 ·have h' : rung b ≤ 9218868437227405312 := by omega
  have h1 : ¬ (fneq b b = true) := by unfold fneq; rw [ford_self h']; decide
  rw [if_neg h1]
  by_cases h2 : rung b = 0
  ·have h3 : feq b (0 : F64) = true := by
    unfold feq
    rw [ford_eq h' (by decide), skey0]
    have : skey b = 0 := by unfold skey; rw [h2]; split <;> rfl
    rw [this]
    rfl
   rw [if_pos h3]
   unfold g_math_Signbit
   rw [Option.bind_some]
   congr 1
   rw [decide_eq_decide, sign_eq, top_iff, bad_iff]
   unfold rung at *
   omega
  ·have h3 : ¬ (feq b (0 : F64) = true) := by
    unfold feq
    rw [ford_eq h' (by decide), skey0]
    intro q
    have q2 : compare (skey b) 0 = .eq := by simpa using q
    have := cmp_eq.1 q2
    unfold skey at this
    split at this <;> omega
   rw [if_neg h3, decide_eq_false]
   rw [top_iff, bad_iff]
   unfold rung at *
   omega
theorem u64i (n : Int) : (UInt64.ofInt n).toNat = (n % 18446744073709551616).toNat := by
 unfold UInt64.ofInt
 rw [UInt64.toNat_ofNat']
 have : (2 : Int) ^ 64 = 18446744073709551616 := by decide
 have : (2 : Nat) ^ 64 = 18446744073709551616 := by decide
 omega
def okV1 (v : GValue) : Prop := 0 ≤ v.Kind ∧ v.Kind ≤ 4 ∧ v.Text.length ≤ 40 ∧ (v.Kind = 3 → ¬ ((v.Bits = (9223372036854775808 : UInt64)) ∨ ((18437736874454810624 : UInt64) < shl_u64 v.Bits 1)))
theorem check_eq (v : GValue) (hi : okI v.Int_) : ∃ e : Int, g_value_Check v = some e ∧ g_ref_ValueFault v = some e ∧ (e = 0 → okV1 v) := by
 obtain ⟨k, i, b, t⟩ := v
 unfold okI at hi
 dsimp only at hi
 obtain ⟨vb, hv⟩ := valid_ok t
 unfold g_value_Check g_ref_ValueFault g_ref_badReal okV1
 dsimp only
 by_cases hk : k < 0 ∨ k > 4
 ·rw [if_pos hk, if_neg (show ¬ k = 0 by omega), if_neg (show ¬ k = 1 by omega), Option.bind_some, decide_eq_false (show ¬ k = 2 by omega), if_neg (by decide), if_neg (show ¬ k = 3 by omega), if_neg (show ¬ k = 4 by omega)]
  exact ⟨2, rfl, rfl, fun q => absurd q (by decide)⟩
 ·rw [if_neg hk]
  by_cases hl : (t.length : Int) > 40
  ·rw [if_pos hl]
   refine ⟨1, rfl, ?_, fun q => absurd q (by decide)⟩
   have hk5 : k = 0 ∨ k = 1 ∨ k = 2 ∨ k = 3 ∨ k = 4 := by omega
   rcases hk5 with rfl | rfl | rfl | rfl | rfl <;> simp [hl]
  ·rw [if_neg hl, letO_eq]
   have hk5 : k = 0 ∨ k = 1 ∨ k = 2 ∨ k = 3 ∨ k = 4 := by omega
   rcases hk5 with rfl | rfl | rfl | rfl | rfl
   ·by_cases h : t = [] ∧ b = 0 ∧ i = 0
    ·obtain ⟨rfl, rfl, rfl⟩ := h
     refine ⟨0, by simp, ?_, fun _ => by simp⟩
     simp [valid_nil, GValue.zero]
    ·refine ⟨3, ?_, ?_, fun q => absurd q (by decide)⟩
     ·rw [if_pos]
      simp
      by_cases h1 : t = []
      ·by_cases h2 : b = 0
       ·exact .inr fun q => h ⟨h1, h2, q⟩
       ·exact .inl (.inr h2)
      ·exact .inl (.inl h1)
     ·simp [GValue.zero, hl]
      rw [if_neg (fun q => h ⟨q.2.2, q.2.1, q.1⟩)]
      rfl
   ·by_cases h : t = [] ∧ b = 0
    ·obtain ⟨rfl, rfl⟩ := h
     by_cases hi2 : i = 0 ∨ i = 1
     ·have h1 : ¬ ((1 : UInt64) < UInt64.ofInt i) := by
       rw [UInt64.lt_iff_toNat_lt, u64i]
       show ¬ 1 < _
       omega
      refine ⟨0, ?_, ?_, fun _ => by simp⟩
      ·simp
       rw [if_neg (by omega)]
       rfl
      ·simp [GValue.zero, valid_nil]
       rw [if_neg h1]
       rfl
     ·have h1 : (1 : UInt64) < UInt64.ofInt i := by
       rw [UInt64.lt_iff_toNat_lt, u64i]
       show 1 < _
       omega
      refine ⟨3, ?_, ?_, fun q => absurd q (by decide)⟩
      ·simp
       rw [if_pos (by omega)]
       rfl
      ·simp [GValue.zero]
       rw [if_pos h1]
       rfl
    ·refine ⟨3, ?_, ?_, fun q => absurd q (by decide)⟩
     ·rw [if_pos]
      simp
      by_cases h1 : t = []
      ·exact .inr fun q => h ⟨h1, q⟩
      ·exact .inl h1
     ·simp [GValue.zero, hl]
      rw [if_neg (fun q => h ⟨q.2, q.1⟩)]
      rfl
   ·by_cases h : t = [] ∧ b = 0
    ·obtain ⟨rfl, rfl⟩ := h
     refine ⟨0, by simp, ?_, fun _ => by simp⟩
     simp [valid_nil, GValue.zero]
    ·refine ⟨3, ?_, ?_, fun q => absurd q (by decide)⟩
     ·rw [if_pos]
      simp
      by_cases h1 : t = []
      ·exact .inr fun q => h ⟨h1, q⟩
      ·exact .inl h1
     ·simp [GValue.zero, hl]
      rw [if_neg (fun q => h ⟨q.2, q.1⟩)]
      rfl
   ·by_cases h : t = [] ∧ i = 0
    ·obtain ⟨rfl, rfl⟩ := h
     have hr := real_bad b
     by_cases hb : (b = (9223372036854775808 : UInt64)) ∨ ((18437736874454810624 : UInt64) < shl_u64 b 1)
     ·refine ⟨3, ?_, ?_, fun q => absurd q (by decide)⟩
      ·rw [if_neg (by simp), if_neg (by decide), if_pos rfl, hr, decide_eq_true hb]
       rfl
      ·revert hb
       generalize shl_u64 b 1 = z
       intro hb
       simp [GValue.zero]
       rw [if_pos hb]
       rfl
     ·refine ⟨0, ?_, ?_, fun _ => ⟨by decide, by decide, by simp, fun _ => hb⟩⟩
      ·rw [if_neg (by simp), if_neg (by decide), if_pos rfl, hr, decide_eq_false hb]
       rfl
      ·revert hb
       generalize shl_u64 b 1 = z
       intro hb
       simp [GValue.zero, valid_nil]
       rw [if_neg hb]
       rfl
    ·refine ⟨3, ?_, ?_, fun q => absurd q (by decide)⟩
     ·rw [if_pos]
      simp
      by_cases h1 : t = []
      ·exact .inr fun q => h ⟨h1, q⟩
      ·exact .inl h1
     ·simp [GValue.zero, hl]
      rw [if_neg (fun q => h ⟨q.2, q.1⟩)]
      rfl
   ·by_cases h : b = 0 ∧ i = 0
    ·obtain ⟨rfl, rfl⟩ := h
     cases vb with
     | true =>
      refine ⟨0, ?_, ?_, fun _ => ⟨by decide, by decide, by omega, fun q => absurd q (by decide)⟩⟩
      ·simp [hv]
      ·simp [GValue.zero, hv, hl]
     | false =>
      refine ⟨3, ?_, ?_, fun q => absurd q (by decide)⟩
      ·simp [hv]
      ·simp [GValue.zero, hv, hl]
    ·refine ⟨3, ?_, ?_, fun q => absurd q (by decide)⟩
     ·rw [if_pos]
      simp
      by_cases h1 : b = 0
      ·exact .inr fun q => h ⟨h1, q⟩
      ·exact .inl h1
     ·simp [GValue.zero, hl]
      rw [if_neg (fun q => h ⟨q.2, q.1⟩)]
      rfl
end Go.Proofs.YtfekkhinjdmcbaaDoor.VM
