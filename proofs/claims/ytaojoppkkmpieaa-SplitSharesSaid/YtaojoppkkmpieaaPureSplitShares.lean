/- The law SplitShares answers true at all two whole numbers of 64 bits: split.Share and the reference's SharesOf agree. No condition. -/
import Derived.Test.YtaojoppkkmpieaaPSplitSharesx2
namespace Go.Proofs.Ytaojoppkkmpieaa.Pure
open Go.RowKit Go.Proofs.Ytaojoppkkmpieaa.PSplitShares Go.Proofs.YtaojoppkkmpieaaW.PrintWords Go.Proofs.YtaojoppkkmpieaaW.PrintLast

theorem share_bad (n m : Int) (h : n < 0 ∨ n > 64) : split_Share.f 3 n m = some ([], 1) := by
  unfold split_Share.f
  by_cases h1 : n < 0
  · rw [if_pos h1]; rfl
  · rw [if_neg h1, show decide (n > 64) = true by simp; omega]; rfl

theorem share_bad2 (n m : Int) (h : ¬ (n < 0 ∨ n > 64)) (h2 : m < 1 ∨ m > 8) : split_Share.f 3 n m = some ([], 6) := by
  unfold split_Share.f
  rw [if_neg (by omega), show decide (n > 64) = false by simp; omega]
  simp only [split_Share.j0]
  rw [if_neg (by simp)]
  by_cases h1 : m < 1
  · rw [if_pos h1]; rfl
  · rw [if_neg h1, show decide (m > 8) = true by simp; omega]; rfl

theorem of_bad (n m : Int) (h : n < 0 ∨ n > 64) : chirographref_SharesOf.f 3 n m = some ([], 1) := by
  unfold chirographref_SharesOf.f
  by_cases h1 : n < 0
  · rw [if_pos h1]; rfl
  · rw [if_neg h1, show decide (n > 64) = true by simp; omega]; rfl

theorem of_bad2 (n m : Int) (h : ¬ (n < 0 ∨ n > 64)) (h2 : m < 1 ∨ m > 8) : chirographref_SharesOf.f 3 n m = some ([], 6) := by
  unfold chirographref_SharesOf.f
  rw [if_neg (by omega), show decide (n > 64) = false by simp; omega]
  simp only [chirographref_SharesOf.j0]
  rw [if_neg (by simp)]
  by_cases h1 : m < 1
  · rw [if_pos h1]; rfl
  · rw [if_neg h1, show decide (m > 8) = true by simp; omega]; rfl

theorem all_good : ∀ n : Fin 65, ∀ m : Fin 8, chirographlaw_SplitShares.f 20 (n.val : Int) ((m.val + 1 : Nat) : Int) = some true := by
  decide +kernel

theorem SplitShares : chirographlaw_SplitShares.Pure := by
  intro n m _ _
  by_cases h : n < 0 ∨ n > 64
  · refine ⟨3, ?_⟩
    unfold chirographlaw_SplitShares.f
    rw [share_bad n m h, of_bad n m h]
    rfl
  · by_cases h2 : m < 1 ∨ m > 8
    · refine ⟨3, ?_⟩
      unfold chirographlaw_SplitShares.f
      rw [share_bad2 n m h h2, of_bad2 n m h h2]
      rfl
    · refine ⟨20, ?_⟩
      have e := all_good ⟨n.toNat, by omega⟩ ⟨(m - 1).toNat, by omega⟩
      have e1 : ((n.toNat : Nat) : Int) = n := by omega
      have e2 : (((m - 1).toNat + 1 : Nat) : Int) = m := by omega
      simp only [e1, e2] at e
      exact e

end Go.Proofs.Ytaojoppkkmpieaa.Pure
