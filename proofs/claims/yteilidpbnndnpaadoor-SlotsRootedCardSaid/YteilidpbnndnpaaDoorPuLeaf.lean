/- Words and rules that the proof uses. -/
import Derived.Test.YteilidpbnndnpaaDoorPuDg
namespace Go.Proofs.YteilidpbnndnpaaDoor.VM
open Go Go.RowKit
theorem leaf_eq (m : Int) (s : GSlot) : ∃ r : List UInt8 × Int, g_slots_Leaf m s = some r ∧ g_ref_LeafOf m s = some r ∧ r.1.length ≤ 16777216 := by
 unfold g_slots_Leaf g_ref_LeafOf g_slots_modes g_ref_badMode
 simp only [Option.bind_some]
 by_cases hm : m = 1 ∨ m = 2
 ·have hb : decide (m ≠ 1 ∧ m ≠ 2) = false := decide_eq_false (by omega)
  rw [decide_eq_true hm, hb]
  simp only [Bool.not_true, Bool.false_eq_true, if_false]
  by_cases h1 : (!s.Full) = true ∧ (s.Data.length : Int) > 0
  ·rw [if_pos h1, if_pos h1]
   exact ⟨_, rfl, rfl, Nat.zero_le _⟩
  ·rw [if_neg h1, if_neg h1]
   by_cases h2 : (s.Salt.length : Int) > 80 ∨ (s.Data.length : Int) > 400
   ·rw [if_pos h2, if_pos h2]
    exact ⟨_, rfl, rfl, Nat.zero_le _⟩
   ·rw [if_neg h2, if_neg h2]
    by_cases h3 : s.Full = true
    ·rw [if_pos h3, if_pos h3, if_pos (show room _ _ by simp only [room, List.length_cons, List.length_nil]; omega), if_pos (by simp only [List.length_cons, List.length_nil]; omega)]
     simp only [Option.bind_some]
     obtain ⟨r, h4, h5, h6⟩ := digest_eq m 1 [s.Salt, [1] ++ s.Data]
     rw [h4, h5]
     exact ⟨_, rfl, rfl, h6⟩
    ·rw [if_neg h3, if_neg h3]
     simp only [Option.bind_some]
     obtain ⟨r, h4, h5, h6⟩ := digest_eq m 1 [s.Salt, [0]]
     rw [h4, h5]
     exact ⟨_, rfl, rfl, h6⟩
 ·have hb : decide (m ≠ 1 ∧ m ≠ 2) = true := decide_eq_true (by omega)
  rw [decide_eq_false hm, hb]
  exact ⟨_, rfl, rfl, Nat.zero_le _⟩
noncomputable def lf (m : Int) (s : GSlot) : List UInt8 × Int := (g_slots_Leaf m s).getD ([], 0)
theorem lf_o (m : Int) (s : GSlot) : g_slots_Leaf m s = some (lf m s) := by
 obtain ⟨r, h1, _⟩ := leaf_eq m s
 unfold lf
 rw [h1]
 rfl
theorem lf_r (m : Int) (s : GSlot) : g_ref_LeafOf m s = some (lf m s) := by
 obtain ⟨r, h1, h2, _⟩ := leaf_eq m s
 unfold lf
 rw [h1, h2]
 rfl
end Go.Proofs.YteilidpbnndnpaaDoor.VM
