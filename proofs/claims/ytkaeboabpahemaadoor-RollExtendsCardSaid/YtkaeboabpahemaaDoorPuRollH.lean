/- The greatest power of two below a number. -/
import Derived.Test.YtkaeboabpahemaaDoorPuDg
namespace Go.Proofs.YtkaeboabpahemaaDoor.VM
open Go Go.RowKit
/-- The greatest power of two below. -/
def halfN (n : Nat) : Nat := if n ≤ 2 then 1 else if n ≤ 4 then 2 else if n ≤ 8 then 4 else if n ≤ 16 then 8 else if n ≤ 32 then 16 else 32
theorem halfN_lt {n : Nat} (h : 2 ≤ n) : 1 ≤ halfN n ∧ halfN n < n := by
  unfold halfN
  split
  · omega
  · split
    · omega
    · split
      · omega
      · split
        · omega
        · split <;> omega
theorem half_eq {n : Nat} (h : n ≤ 64) : g_roll_half (n : Int) = some ((halfN n : Nat) : Int) := by
  have hs : ∀ k : Nat, k ≤ 64 → 2 * k < n → loopO (g_roll_half_l0 (n : Int)) (k : Int) = loopO (g_roll_half_l0 (n : Int)) ((2 * k : Nat) : Int) := by
    intro k hk hn
    refine loopO_next ?_
    unfold g_roll_half_l0
    dsimp only
    rw [if_pos (by rw [w64_id (by omega)]; omega), w64_id (by omega)]
    congr 2
    omega
  have hd : ∀ k : Nat, k ≤ 64 → n ≤ 2 * k → loopO (g_roll_half_l0 (n : Int)) (k : Int) = some (k : Int) := by
    intro k hk hn
    refine loopO_done ?_
    unfold g_roll_half_l0
    dsimp only
    rw [if_neg (by rw [w64_id (by omega)]; omega)]
  unfold g_roll_half halfN
  rw [show (1 : Int) = ((1 : Nat) : Int) from rfl]
  by_cases h2 : n ≤ 2
  · rw [if_pos h2, hd 1 (by decide) (by omega)]; rfl
  · rw [if_neg h2, hs 1 (by decide) (by omega)]
    by_cases h4 : n ≤ 4
    · rw [if_pos h4, hd (2 * 1) (by decide) (by omega)]; rfl
    · rw [if_neg h4, hs (2 * 1) (by decide) (by omega)]
      by_cases h8 : n ≤ 8
      · rw [if_pos h8, hd (2 * (2 * 1)) (by decide) (by omega)]; rfl
      · rw [if_neg h8, hs (2 * (2 * 1)) (by decide) (by omega)]
        by_cases h16 : n ≤ 16
        · rw [if_pos h16, hd (2 * (2 * (2 * 1))) (by decide) (by omega)]; rfl
        · rw [if_neg h16, hs (2 * (2 * (2 * 1))) (by decide) (by omega)]
          by_cases h32 : n ≤ 32
          · rw [if_pos h32, hd (2 * (2 * (2 * (2 * 1)))) (by decide) (by omega)]; rfl
          · rw [if_neg h32, hs (2 * (2 * (2 * (2 * 1)))) (by decide) (by omega), hd (2 * (2 * (2 * (2 * (2 * 1))))) (by decide) (by omega)]; rfl
end Go.Proofs.YtkaeboabpahemaaDoor.VM
