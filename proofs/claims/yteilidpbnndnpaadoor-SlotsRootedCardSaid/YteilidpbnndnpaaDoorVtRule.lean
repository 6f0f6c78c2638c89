/- Words and rules that the proof uses. -/
import Derived.Test.YteilidpbnndnpaaDoorVtScope
namespace Go.Proofs.YteilidpbnndnpaaDoor.VM
open Go Go.RowKit
theorem loopO_rel {α γ β δ : Type} {step : α → Option (α ⊕ β)} {step2 : γ → Option (γ ⊕ δ)} (R : α → γ → Prop) (S : β → δ → Prop) (m : α → Nat) (h : ∀ a c, R a c → (∃ b d, step a = some (.inl b) ∧ step2 c = some (.inl d) ∧ R b d ∧ m b < m a) ∨ ∃ r q, step a = some (.inr r) ∧ step2 c = some (.inr q) ∧ S r q) {a : α} {c : γ} (ha : R a c) : ∃ r q, loopO step a = some r ∧ loopO step2 c = some q ∧ S r q := by
 generalize hn : m a = n
 induction n using Nat.strongRecOn generalizing a c with
 | ind n ih =>
  rcases h a c ha with ⟨b, d, h1, h2, h3, h4⟩ | ⟨r, q, h1, h2, h3⟩
  ·obtain ⟨r, q, h5, h6, h7⟩ := ih (m b) (by omega) h3 rfl
   exact ⟨r, q, by rw [loopO_next h1]; exact h5, by rw [loopO_next h2]; exact h6, h7⟩
  ·exact ⟨r, q, loopO_done h1, loopO_done h2, h3⟩
theorem vrd_at {α : Type} [Inhabited α] {n : Nat} {v : Vector α n} {j : Nat} (h : j < n) : vrd v j = v[j] := by
 simp [vrd, List.getD, h]
theorem vrd_vwr_eq {α : Type} [Inhabited α] {n : Nat} {v : Vector α n} {j : Nat} {x : α} (h : j < n) : vrd (vwr v j x) j = x := by
 rw [vrd_at h]; simp [vwr]
theorem vrd_vwr_ne {α : Type} [Inhabited α] {n : Nat} {v : Vector α n} {i j : Nat} {x : α} (hi : i < n) (h : i ≠ j) : vrd (vwr v j x) i = vrd v i := by
 rw [vrd_at hi, vrd_at hi]; simp [vwr, Vector.getElem_setIfInBounds, Ne.symm h]
theorem vec_eq_of {α : Type} [Inhabited α] {n : Nat} {v w : Vector α n} (h : ∀ j, j < n → vrd v j = vrd w j) : v = w := by
 ext i hi
 have := h i hi
 rwa [vrd_at hi, vrd_at hi] at this
theorem lrd_app_lt {α : Type} [Inhabited α] {l m : List α} {j : Nat} (h : j < l.length) : lrd (l ++ m) j = lrd l j := by
 rw [lrd_at (by rw [List.length_append]; omega), lrd_at h, List.getElem_append_left h]
theorem lrd_app_eq {α : Type} [Inhabited α] {l : List α} {x : α} {j : Nat} (h : j = l.length) : lrd (l ++ [x]) j = x := by
 subst h
 rw [lrd_at (by simp)]
 simp
theorem lrd_app_ge {α : Type} [Inhabited α] {l m : List α} {j : Nat} (h : l.length ≤ j) : lrd (l ++ m) j = lrd m (j - l.length) := by
 simp [lrd, List.getD, List.getElem?_append_right h]
theorem mem_lrd {α : Type} [Inhabited α] {l : List α} {x : α} (h : x ∈ l) : ∃ j, j < l.length ∧ lrd l j = x := by
 obtain ⟨j, hj, rfl⟩ := List.getElem_of_mem h
 exact ⟨j, hj, lrd_at hj⟩
theorem w64_succ {k : Nat} (h : k < 9223372036854775807) : w64 ((k : Int) + 1) = ((k + 1 : Nat) : Int) := by
 rw [w64_id (by omega)]; omega
theorem natIn {k n : Nat} (h : k < n) : (0 : Int) ≤ (k : Int) ∧ (k : Int) < (n : Int) := by omega
theorem natLt {k n : Nat} (h : k < n) : (k : Int) < (n : Int) := by omega
theorem natNlt {n : Nat} : ¬ ((n : Int) < (n : Int)) := by omega
theorem loopO_times {τ σ β : Type} {step : τ → Option (τ ⊕ β)} (n : Nat) (enc : Nat → σ → τ) (I : Nat → σ → Prop) (Q : β → Prop)
  (hs : ∀ k s, k < n → I k s → (∃ s', step (enc k s) = some (.inl (enc (k + 1) s')) ∧ I (k + 1) s') ∨ ∃ r, step (enc k s) = some (.inr r) ∧ Q r)
  (he : ∀ s, I n s → ∃ r, step (enc n s) = some (.inr r) ∧ Q r) {s : σ} (h0 : I 0 s) : ∃ r, loopO step (enc 0 s) = some r ∧ Q r := by
 have key : ∀ (m k : Nat) (s : σ), k + m = n → I k s → ∃ r, loopO step (enc k s) = some r ∧ Q r := by
  intro m
  induction m with
  | zero =>
   intro k s hk hi
   have : k = n := by omega
   subst this
   obtain ⟨r, h1, h2⟩ := he s hi
   exact ⟨r, loopO_done h1, h2⟩
  | succ m ih =>
   intro k s hk hi
   rcases hs k s (by omega) hi with ⟨s', h1, h2⟩ | ⟨r, h1, h2⟩
   ·obtain ⟨r, h3, h4⟩ := ih (k + 1) s' (by omega) h2
    exact ⟨r, by rw [loopO_next h1]; exact h3, h4⟩
   ·exact ⟨r, loopO_done h1, h2⟩
 exact key n 0 s (by omega) h0
end Go.Proofs.YteilidpbnndnpaaDoor.VM
