/- Leaves as functions. -/
import Derived.Test.YtfekkhinjdmcbaaDoorPuDg
namespace Go.Proofs.YtfekkhinjdmcbaaDoor.VM
open Go Go.RowKit
theorem leaf_eq (m : Int) (s : GSlot) : ∃ r : List UInt8 × Int, g_slots_Leaf m s = some r ∧ g_ref_LeafOf m s = some r ∧ r.1.length ≤ 16777216 := by
  unfold g_slots_Leaf g_ref_LeafOf g_slots_modes g_ref_badMode
  simp only [Option.bind_some]
  by_cases hm : m = 1 ∨ m = 2
  · have hb : decide (m ≠ 1 ∧ m ≠ 2) = false := decide_eq_false (by omega)
    rw [decide_eq_true hm, hb]
    simp only [Bool.not_true, Bool.false_eq_true, if_false]
    by_cases h1 : (!s.Full) = true ∧ (s.Data.length : Int) > 0
    · rw [if_pos h1, if_pos h1]
      exact ⟨_, rfl, rfl, Nat.zero_le _⟩
    · rw [if_neg h1, if_neg h1]
      by_cases h2 : (s.Salt.length : Int) > 80 ∨ (s.Data.length : Int) > 400
      · rw [if_pos h2, if_pos h2]
        exact ⟨_, rfl, rfl, Nat.zero_le _⟩
      · rw [if_neg h2, if_neg h2]
        by_cases h3 : s.Full = true
        · rw [if_pos h3, if_pos h3, if_pos (show room _ _ by simp only [room, List.length_cons, List.length_nil]; omega), if_pos (by simp only [List.length_cons, List.length_nil]; omega)]
          simp only [Option.bind_some]
          obtain ⟨r, h4, h5, h6⟩ := digest_eq m 1 [s.Salt, [1] ++ s.Data]
          rw [h4, h5]
          exact ⟨_, rfl, rfl, h6⟩
        · rw [if_neg h3, if_neg h3]
          simp only [Option.bind_some]
          obtain ⟨r, h4, h5, h6⟩ := digest_eq m 1 [s.Salt, [0]]
          rw [h4, h5]
          exact ⟨_, rfl, rfl, h6⟩
  · have hb : decide (m ≠ 1 ∧ m ≠ 2) = true := decide_eq_true (by omega)
    rw [decide_eq_false hm, hb]
    exact ⟨_, rfl, rfl, Nat.zero_le _⟩
/-- Leaves as a function. -/
noncomputable def lf (m : Int) (s : GSlot) : List UInt8 × Int := (g_slots_Leaf m s).getD ([], 0)
theorem lf_o (m : Int) (s : GSlot) : g_slots_Leaf m s = some (lf m s) := by
  obtain ⟨r, h1, _⟩ := leaf_eq m s
  unfold lf
  rw [h1]
  rfl
theorem lf_r (m : Int) (s : GSlot) : g_ref_LeafOf m s = some (lf m s) := by
  obtain ⟨r, h1, h2, _⟩ := leaf_eq m s
  unfold lf
  rw [h1, h2]
  rfl
theorem lf_len {m : Int} {s : GSlot} (hm : m = 1 ∨ m = 2) (h : (lf m s).2 = 0) : (lf m s).1.length ≤ 491 := by
  have h0 := lf_o m s
  generalize lf m s = r at *
  unfold g_slots_Leaf g_slots_modes at h0
  rw [Option.bind_some, decide_eq_true hm] at h0
  simp only [Bool.not_true, Bool.false_eq_true, if_false] at h0
  by_cases h1 : (!s.Full) = true ∧ (s.Data.length : Int) > 0
  · rw [if_pos h1] at h0
    cases h0
    exact absurd h (by decide)
  · rw [if_neg h1] at h0
    by_cases h2 : (s.Salt.length : Int) > 80 ∨ (s.Data.length : Int) > 400
    · rw [if_pos h2] at h0
      cases h0
      exact absurd h (by decide)
    · rw [if_neg h2] at h0
      by_cases h3 : s.Full = true
      · rw [if_pos h3, if_pos (show room _ _ by simp only [room, List.length_cons, List.length_nil]; omega), Option.bind_some, dg_o, Option.bind_some] at h0
        cases h0
        have hs : sizes [s.Salt, [1] ++ s.Data] = s.Salt.length + (1 + s.Data.length) := by simp [sizes]; omega
        have := (dg_ok (tag := 1) (l := [s.Salt, [1] ++ s.Data]) hm ⟨by decide, by decide⟩ (by simp) (by rw [hs]; simp only [List.length_cons, List.length_nil]; omega)).2
        rw [hs] at this
        simp only [List.length_cons, List.length_nil] at this ⊢
        omega
      · rw [if_neg h3, Option.bind_some, dg_o, Option.bind_some] at h0
        cases h0
        have hs : sizes [s.Salt, [0]] = s.Salt.length + 1 := by simp [sizes]
        have := (dg_ok (tag := 1) (l := [s.Salt, [0]]) hm ⟨by decide, by decide⟩ (by simp) (by rw [hs]; simp only [List.length_cons, List.length_nil]; omega)).2
        rw [hs] at this
        simp only [List.length_cons, List.length_nil] at this ⊢
        omega
end Go.Proofs.YtfekkhinjdmcbaaDoor.VM
