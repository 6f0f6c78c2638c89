/- Words and rules that the proof uses. -/
import Derived.Test.YtfekkhinjdmcbaaDoorVtTyped
namespace Go.Proofs.YtfekkhinjdmcbaaDoor.VM
open Go Go.RowKit
theorem w64_id {n : Int} (h : -9223372036854775808 ≤ n ∧ n ≤ 9223372036854775807) : w64 n = n := wrap64 h
theorem loopO_rule {α β : Type} {step : α → Option (α ⊕ β)} (I : α → Prop) (Q : β → Prop) (m : α → Nat) (h : ∀ a, I a → (∃ b, step a = some (.inl b) ∧ I b ∧ m b < m a) ∨ ∃ r, step a = some (.inr r) ∧ Q r) {a : α} (ha : I a) : ∃ r, loopO step a = some r ∧ Q r := by
 generalize hn : m a = n
 induction n using Nat.strongRecOn generalizing a with
 | ind n ih =>
  rcases h a ha with ⟨b, h1, h2, h3⟩ | ⟨r, h1, h2⟩
  ·obtain ⟨r, h4, h5⟩ := ih (m b) (by omega) h2 rfl
   exact ⟨r, by rw [loopO_next h1]; exact h4, h5⟩
  ·exact ⟨r, loopO_done h1, h2⟩
theorem lrd_at {α : Type} [Inhabited α] {l : List α} {j : Nat} (h : j < l.length) : lrd l j = l[j] := by simp [lrd, List.getD, h]
theorem take_step {α : Type} [Inhabited α] {l : List α} {j : Nat} (h : j < l.length) : l.take (j + 1) = l.take j ++ [lrd l j] := by
 rw [lrd_at h, List.take_append_getElem h]
theorem drop_step {α : Type} [Inhabited α] {l : List α} {j : Nat} (h : j < l.length) : l.drop j = lrd l j :: l.drop (j + 1) := by
 rw [lrd_at h, List.drop_eq_getElem_cons h]
theorem lrd_mem {α : Type} [Inhabited α] {l : List α} {j : Nat} (h : j < l.length) : lrd l j ∈ l := by
 rw [lrd_at h]; exact List.getElem_mem h
end Go.Proofs.YtfekkhinjdmcbaaDoor.VM
