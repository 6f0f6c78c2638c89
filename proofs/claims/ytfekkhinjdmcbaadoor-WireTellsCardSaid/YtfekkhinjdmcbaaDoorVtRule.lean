/- Words and rules that the proof uses. -/
import Derived.Test.YtfekkhinjdmcbaaDoorVtScope
namespace Go.Proofs.YtfekkhinjdmcbaaDoor.VM
open Go Go.RowKit
theorem loopO_rel {α γ β δ : Type} {step : α → Option (α ⊕ β)} {step2 : γ → Option (γ ⊕ δ)} (R : α → γ → Prop) (S : β → δ → Prop) (m : α → Nat) (h : ∀ a c, R a c → (∃ b d, step a = some (.inl b) ∧ step2 c = some (.inl d) ∧ R b d ∧ m b < m a) ∨ ∃ r q, step a = some (.inr r) ∧ step2 c = some (.inr q) ∧ S r q) {a : α} {c : γ} (ha : R a c) : ∃ r q, loopO step a = some r ∧ loopO step2 c = some q ∧ S r q := by
 generalize hn : m a = n
 induction n using Nat.strongRecOn generalizing a c with
 | ind n ih =>
  rcases h a c ha with ⟨b, d, h1, h2, h3, h4⟩ | ⟨r, q, h1, h2, h3⟩
  ·obtain ⟨r, q, h5, h6, h7⟩ := ih (m b) (by omega) h3 rfl
   exact ⟨r, q, by rw [loopO_next h1]; exact h5, by rw [loopO_next h2]; exact h6, h7⟩
  ·exact ⟨r, q, loopO_done h1, loopO_done h2, h3⟩
theorem lrd_app_ge {α : Type} [Inhabited α] {l m : List α} {j : Nat} (h : l.length ≤ j) : lrd (l ++ m) j = lrd m (j - l.length) := by
 simp [lrd, List.getD, List.getElem?_append_right h]
theorem lrd_cons_zero {α : Type} [Inhabited α] {x : α} {l : List α} : lrd (x :: l) 0 = x := rfl
theorem w64_succ {k : Nat} (h : k < 9223372036854775807) : w64 ((k : Int) + 1) = ((k + 1 : Nat) : Int) := by
 rw [w64_id (by omega)]; omega
theorem natIn {k n : Nat} (h : k < n) : (0 : Int) ≤ (k : Int) ∧ (k : Int) < (n : Int) := by omega
theorem natLt {k n : Nat} (h : k < n) : (k : Int) < (n : Int) := by omega
theorem natNlt {n : Nat} : ¬ ((n : Int) < (n : Int)) := by omega
def goL {α σ β : Type} (f : Nat → α → σ → σ ⊕ β) (fin : σ → β) : List α → Nat → σ → β
 | [], _, s => fin s
 | x :: l, k, s => match f k x s with | .inl s' => goL f fin l (k + 1) s' | .inr r => r
theorem loopO_goL {τ σ β α : Type} [Inhabited α] {step : τ → Option (τ ⊕ β)} (l : List α) (enc : Nat → σ → τ) (f : Nat → α → σ → σ ⊕ β) (fin : σ → β) (I : Nat → σ → Prop)
  (hs : ∀ k s, k < l.length → I k s → step (enc k s) = some (match f k (lrd l k) s with | .inl s' => .inl (enc (k + 1) s') | .inr r => .inr r) ∧ ∀ s', f k (lrd l k) s = .inl s' → I (k + 1) s')
  (he : ∀ s, I l.length s → step (enc l.length s) = some (.inr (fin s))) {s : σ} (h0 : I 0 s) : loopO step (enc 0 s) = some (goL f fin l 0 s) := by
 have key : ∀ (m : List α) (k : Nat) (s : σ), l.drop k = m → k ≤ l.length → I k s → loopO step (enc k s) = some (goL f fin m k s) := by
  intro m
  induction m with
  | nil =>
   intro k s hm hk hi
   have : k = l.length := by
    have := congrArg List.length hm
    simp at this
    omega
   subst this
   exact loopO_done (he s hi)
  | cons x m ih =>
   intro k s hm hk hi
   have hlt : k < l.length := by
    rcases Nat.lt_or_ge k l.length with h | h
    ·exact h
    ·rw [List.drop_eq_nil_of_le h] at hm
     cases hm
   rw [drop_step hlt] at hm
   obtain ⟨hx, hm⟩ := List.cons.inj hm
   obtain ⟨h1, h2⟩ := hs k s hlt hi
   rw [hx] at h1 h2
   simp only [goL]
   cases hf : f k x s with
   | inl s' =>
    rw [hf] at h1
    rw [loopO_next h1]
    exact ih (k + 1) s' hm hlt (h2 s' hf)
   | inr r =>
    rw [hf] at h1
    exact loopO_done h1
 exact key l 0 s rfl (Nat.zero_le _) h0
theorem loopO_fold {τ σ β α : Type} [Inhabited α] {step : τ → Option (τ ⊕ β)} (l : List α) (enc : Nat → σ → τ) (f : σ → α → σ) (fin : σ → β) (I : Nat → σ → Prop)
  (hs : ∀ k s, k < l.length → I k s → step (enc k s) = some (.inl (enc (k + 1) (f s (lrd l k)))) ∧ I (k + 1) (f s (lrd l k)))
  (he : ∀ s, I l.length s → step (enc l.length s) = some (.inr (fin s))) {s : σ} (h0 : I 0 s) : loopO step (enc 0 s) = some (fin (l.foldl f s)) := by
 rw [loopO_goL l enc (fun _ x s => .inl (f s x)) fin I (fun k s h1 h2 => ⟨(hs k s h1 h2).1, fun s' h => by cases h; exact (hs k s h1 h2).2⟩) he h0]
 congr 1
 have : ∀ (m : List α) (k : Nat) (s : σ), goL (fun _ x s => (.inl (f s x) : σ ⊕ β)) fin m k s = fin (m.foldl f s) := by
  intro m
  induction m with
  | nil => intro k s; rfl
  | cons x m ih => intro k s; simp only [goL, List.foldl_cons]; exact ih _ _
 exact this l 0 s
theorem loopO_times {τ σ β : Type} {step : τ → Option (τ ⊕ β)} (n : Nat) (enc : Nat → σ → τ) (I : Nat → σ → Prop) (Q : β → Prop)
  (hs : ∀ k s, k < n → I k s → (∃ s', step (enc k s) = some (.inl (enc (k + 1) s')) ∧ I (k + 1) s') ∨ ∃ r, step (enc k s) = some (.inr r) ∧ Q r)
  (he : ∀ s, I n s → ∃ r, step (enc n s) = some (.inr r) ∧ Q r) {s : σ} (h0 : I 0 s) : ∃ r, loopO step (enc 0 s) = some r ∧ Q r := by
 have key : ∀ (m k : Nat) (s : σ), k + m = n → I k s → ∃ r, loopO step (enc k s) = some r ∧ Q r := by
  intro m
  induction m with
  | zero =>
   intro k s hk hi
   have : k = n := by omega
   subst this
   obtain ⟨r, h1, h2⟩ := he s hi
   exact ⟨r, loopO_done h1, h2⟩
  | succ m ih =>
   intro k s hk hi
   rcases hs k s (by omega) hi with ⟨s', h1, h2⟩ | ⟨r, h1, h2⟩
   ·obtain ⟨r, h3, h4⟩ := ih (k + 1) s' (by omega) h2
    exact ⟨r, by rw [loopO_next h1]; exact h3, h4⟩
   ·exact ⟨r, loopO_done h1, h2⟩
 exact key n 0 s (by omega) h0
end Go.Proofs.YtfekkhinjdmcbaaDoor.VM
