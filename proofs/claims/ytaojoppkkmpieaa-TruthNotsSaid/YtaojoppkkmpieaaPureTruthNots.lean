/- The law TruthNots answers true at every whole number of 64 bits: value.Not and the reference's Opposite agree. No condition. -/
import Derived.Test.YtaojoppkkmpieaaPTruthNotsx1
namespace Go.Proofs.Ytaojoppkkmpieaa.Pure
open Go.RowKit Go.Proofs.Ytaojoppkkmpieaa.PTruthNots Go.Proofs.YtaojoppkkmpieaaW.PrintWords Go.Proofs.YtaojoppkkmpieaaW.PrintLast

theorem truth_one (a : Int) : value_truth.f 3 [a] = some (if a < 0 then 2 else if a > 2 then 2 else 0) := by
  unfold value_truth.f
  simp only [value_truth.l0, List.length_cons, List.length_nil]
  rw [if_pos (by omega), if_pos (by omega), if_pos (by omega)]
  have h : rd [a] 0 = a := rfl
  rw [h]
  by_cases h1 : a < 0
  · rw [if_pos h1, if_pos h1]
  · rw [if_neg h1, if_neg h1]
    by_cases h2 : a > 2
    · rw [if_pos h2, if_pos h2]
    · rw [if_neg h2, if_neg h2]
      have hw : wrap64 (0 + 1) = 1 := by unfold wrap64; omega
      rw [hw, if_neg (by omega)]

theorem TruthNots : chirographlaw_TruthNots.Pure := by
  intro a0 _
  refine ⟨3, ?_⟩
  unfold chirographlaw_TruthNots.f value_Not.f chirographref_Opposite.f
  rw [truth_one]
  by_cases h1 : a0 < 0
  · rw [if_pos h1, if_neg (show ¬ a0 = 0 by omega), if_neg (show ¬ a0 = 2 by omega), if_neg (show ¬ a0 = 1 by omega)]
    rfl
  · by_cases h2 : a0 > 2
    · rw [if_neg h1, if_pos h2, if_neg (show ¬ a0 = 0 by omega), if_neg (show ¬ a0 = 2 by omega), if_neg (show ¬ a0 = 1 by omega)]
      rfl
    · rw [if_neg h1, if_neg h2]
      have : a0 = 0 ∨ a0 = 1 ∨ a0 = 2 := by omega
      rcases this with rfl | rfl | rfl <;> decide +kernel

end Go.Proofs.Ytaojoppkkmpieaa.Pure
