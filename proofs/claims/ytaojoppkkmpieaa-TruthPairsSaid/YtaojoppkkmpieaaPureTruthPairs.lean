/- The law TruthPairs answers true at all two whole numbers of 64 bits: value.And, value.Or and the reference's Logic agree. No condition. -/
import Derived.Test.YtaojoppkkmpieaaPTruthPairsx1
namespace Go.Proofs.Ytaojoppkkmpieaa.Pure
open Go.RowKit Go.Proofs.Ytaojoppkkmpieaa.PTruthPairs Go.Proofs.YtaojoppkkmpieaaW.PrintWords Go.Proofs.YtaojoppkkmpieaaW.PrintLast

theorem truth_two (a b : Int) : value_truth.f 3 [a, b] = some (if a < 0 ∨ a > 2 ∨ b < 0 ∨ b > 2 then 2 else 0) := by
  unfold value_truth.f
  simp only [value_truth.l0, List.length_cons, List.length_nil]
  have hw : wrap64 (0 + 1) = 1 := by unfold wrap64; omega
  have hw2 : wrap64 (1 + 1) = 2 := by unfold wrap64; omega
  have e0 : rd [a, b] 0 = a := rfl
  have e1 : rd [a, b] 1 = b := rfl
  rw [hw, hw2, e0, e1, if_pos (by omega), if_pos (by omega), if_pos (by omega)]
  by_cases h1 : a < 0
  · rw [if_pos h1, if_pos (Or.inl h1)]
  · by_cases h2 : a > 2
    · rw [if_neg h1, if_pos h2, if_pos (Or.inr (Or.inl h2))]
    · rw [if_neg h1, if_neg h2, if_pos (by omega), if_pos (by omega), if_pos (by omega)]
      by_cases h3 : b < 0
      · rw [if_pos h3, if_pos (Or.inr (Or.inr (Or.inl h3)))]
      · by_cases h4 : b > 2
        · rw [if_neg h3, if_pos h4, if_pos (Or.inr (Or.inr (Or.inr h4)))]
        · rw [if_neg h3, if_neg h4, if_neg (by omega), if_neg (by omega)]

theorem isTruth_is (a : Int) : chirographref_isTruth.f a = some (decide (0 ≤ a ∧ a ≤ 2)) := by
  unfold chirographref_isTruth.f
  by_cases h0 : a = 0
  · subst h0; rfl
  · by_cases h1 : a = 1
    · subst h1; rfl
    · rw [if_neg h0, if_neg h1]
      by_cases h2 : a = 2
      · subst h2; rfl
      · have e : (a == 2) = false := by simpa using h2
        have e2 : decide (0 ≤ a ∧ a ≤ 2) = false := by simp; omega
        rw [e, e2]

theorem logic_bad (op a b : Int) (h : a < 0 ∨ a > 2 ∨ b < 0 ∨ b > 2) : chirographref_Logic.f 3 op a b = some (0, 2) := by
  unfold chirographref_Logic.f
  rw [isTruth_is, isTruth_is]
  simp only [Option.bind_some]
  by_cases ha : 0 ≤ a ∧ a ≤ 2
  · rw [show decide (0 ≤ a ∧ a ≤ 2) = true by simpa using ha, show decide (0 ≤ b ∧ b ≤ 2) = false by simp; omega]
    rfl
  · rw [show decide (0 ≤ a ∧ a ≤ 2) = false by simpa using ha]
    rfl

theorem TruthPairs : chirographlaw_TruthPairs.Pure := by
  intro a b _ _
  refine ⟨3, ?_⟩
  by_cases h : a < 0 ∨ a > 2 ∨ b < 0 ∨ b > 2
  · unfold chirographlaw_TruthPairs.f value_And.f value_Or.f
    rw [truth_two, logic_bad 1 a b h, logic_bad 2 a b h, if_pos h]
    rfl
  · have ha : a = 0 ∨ a = 1 ∨ a = 2 := by omega
    have hb : b = 0 ∨ b = 1 ∨ b = 2 := by omega
    rcases ha with rfl | rfl | rfl <;> rcases hb with rfl | rfl | rfl <;> decide +kernel

end Go.Proofs.Ytaojoppkkmpieaa.Pure
