/- Grants: those that somebody stands behind. -/
import Derived.Test.YtgbfmldbbnhefaaPuRight1
namespace Go.Proofs.Ytgbfmldbbnhefaa.VM
open Go Go.RowKit
open Classical in
/-- Those that somebody stands behind. -/
noncomputable def stand (l : List GGrant) : List GGrant := l.filter fun g => decide (Rc l g.Object g.Right g.From)
theorem filter_fold {α : Type} (p : α → Bool) : ∀ (l out : List α), l.foldl (fun out x => if p x = true then out ++ [x] else out) out = out ++ l.filter p
  | [], out => by simp
  | x :: l, out => by
    rw [List.foldl_cons, filter_fold p l]
    by_cases h : p x = true
    · simp [h]
    · simp [h]
open Classical in
theorem stands_eq {l : List GGrant} (hl : l.length ≤ 96) (hb : ∀ g ∈ l, InB g) : g_ref_Stands l = some (stand l) := by
  unfold g_ref_Stands
  have h := loopO_fold (step := g_ref_Stands_l0 l) l (fun k out => ((k : Int), out)) (fun out g => if decide (Rc l g.Object g.Right g.From) = true then out ++ [g] else out) id (fun k out => out.length ≤ k) (fun k out hk hi => ?_) (fun out _ => ?_) (s := []) (Nat.zero_le _)
  · rw [show (((0 : Nat) : Int), ([] : List GGrant)) = ((0 : Int), []) from rfl] at h
    rw [h, filter_fold]
    rfl
  · have hg := hb _ (lrd_mem hk)
    unfold g_ref_Stands_l0
    try simp only
    rw [if_pos (natLt hk), if_pos (natIn hk), w64_succ (by omega), Int.toNat_natCast]
    generalize lrd l k = g at hg
    rw [reached_eq hl hb ⟨hg.f0, hg.f1⟩ ⟨hg.o0, hg.o1⟩, Option.bind_some]
    by_cases h : decide (Rc l g.Object g.Right g.From) = true
    · rw [if_pos h, if_pos h, if_pos (show room _ _ by simp only [room, List.length_cons, List.length_nil]; omega)]
      exact ⟨rfl, by simp only [List.length_append, List.length_cons, List.length_nil]; omega⟩
    · rw [if_neg h, if_neg h]
      exact ⟨rfl, by omega⟩
  · unfold g_ref_Stands_l0
    try simp only
    rw [if_neg natNlt]
    rfl
/-! right.held -/
/-- What is known of the marks. -/
structure Marks (l : List GGrant) (a : List Int) : Prop where
  len : a.length = l.length
  sound : ∀ i, i < l.length → lrd a i = 1 → Rc l (lrd l i).Object (lrd l i).Right (lrd l i).From
/-- That a grant stands by a mark. -/
def Backed (l : List GGrant) (a : List Int) (i j : Nat) : Prop := lrd a j = 1 ∧ (lrd l j).Option = true ∧ (lrd l j).To = (lrd l i).From ∧ (lrd l j).Object = (lrd l i).Object ∧ (lrd l j).Right = (lrd l i).Right
def zeros (a : List Int) : Nat := (a.filter fun x => decide (x ≠ 1)).length
theorem zeros_set : ∀ (a : List Int) (i : Nat), i < a.length → lrd a i ≠ 1 → zeros (a.set i 1) < zeros a
  | [], i, h, _ => by simp at h
  | x :: a, 0, _, h => by
    have : x ≠ 1 := h
    simp [zeros, this]
  | x :: a, i + 1, h, hx => by
    have := zeros_set a i (by simpa using h) hx
    unfold zeros at this ⊢
    simp only [List.set_cons_succ, List.filter_cons]
    split <;> (try simp only [List.length_cons]) <;> omega
theorem Marks.set {l : List GGrant} {a : List Int} (m : Marks l a) {i : Nat} (hi : i < l.length) (h : Rc l (lrd l i).Object (lrd l i).Right (lrd l i).From) : Marks l (a.set i 1) := by
  refine ⟨by rw [List.length_set]; exact m.len, fun j hj hx => ?_⟩
  rw [lrd_set (by rw [m.len]; exact hj)] at hx
  split at hx
  · rename_i hij; rw [← hij]; exact h
  · exact m.sound j hj hx
theorem held_l2 {l : List GGrant} (hl : l.length ≤ 96) {a : List Int} (m : Marks l a) {i : Nat} (hi : i < l.length) (hn : lrd a i ≠ 1) :
    ∃ r, loopO (g_right_held_l2 l a (i : Int)) (0 : Int) = some r ∧ ((r = .inl (a.set i 1) ∧ ∃ j, j < l.length ∧ Backed l a i j) ∨ (r = .inr () ∧ ∀ j, j < l.length → ¬ Backed l a i j)) := by
  refine loopO_times (step := g_right_held_l2 l a (i : Int)) (σ := Unit) l.length (fun k _ => (k : Int)) (fun k _ => ∀ j, j < k → ¬ Backed l a i j) _ (fun k u hk h => ?_) (fun u h => ?_) (s := ()) (fun j hj => absurd hj (Nat.not_lt_zero j))
  · unfold g_right_held_l2
    try simp only
    rw [if_pos (natLt hk), if_pos (natIn hk), if_pos (natIn (by rw [m.len]; exact hk)), w64_succ (by omega), letO_eq]
    simp only [Int.toNat_natCast]
    by_cases hB : Backed l a i k
    · rw [if_pos (decide_eq_true ⟨⟨⟨⟨hB.1, hB.2.1⟩, hB.2.2.1⟩, hB.2.2.2.1⟩, hB.2.2.2.2⟩), if_pos (natIn (by rw [m.len]; exact hi))]
      exact .inr ⟨_, rfl, .inl ⟨rfl, k, hk, hB⟩⟩
    · rw [if_neg (fun q => hB (by obtain ⟨⟨⟨⟨b1, b2⟩, b3⟩, b4⟩, b5⟩ := of_decide_eq_true q; exact ⟨b1, b2, b3, b4, b5⟩))]
      refine .inl ⟨(), rfl, fun j hj => ?_⟩
      by_cases hjk : j = k
      · subst hjk; exact hB
      · exact h j (by omega)
  · unfold g_right_held_l2
    try simp only
    rw [if_neg natNlt]
    exact ⟨_, rfl, .inr ⟨rfl, h⟩⟩
/-- No grant more is to be marked. -/
def Full (l : List GGrant) (a : List Int) : Prop := ∀ i, i < l.length → lrd a i = 1 ∨ ((lrd l i).From ≠ own (lrd l i).Object ∧ ∀ j, j < l.length → ¬ Backed l a i j)
theorem held_l1 {l : List GGrant} (hl : l.length ≤ 96) (hb : ∀ g ∈ l, InB g) {a : List Int} (m : Marks l a) :
    ∃ r, loopO (g_right_held_l1 l a) (0 : Int) = some r ∧ ((∃ a', r = .inl a' ∧ Marks l a' ∧ zeros a' < zeros a) ∨ (r = .inr () ∧ Full l a)) := by
  refine loopO_times (step := g_right_held_l1 l a) (σ := Unit) l.length (fun k _ => (k : Int)) (fun k _ => ∀ i, i < k → lrd a i = 1 ∨ ((lrd l i).From ≠ own (lrd l i).Object ∧ ∀ j, j < l.length → ¬ Backed l a i j)) _ (fun k u hk h => ?_) (fun u h => ?_) (s := ()) (fun j hj => absurd hj (Nat.not_lt_zero j))
  · have hka : k < a.length := by rw [m.len]; exact hk
    have hg := hb _ (lrd_mem hk)
    unfold g_right_held_l1 g_right_owner
    try simp only
    rw [if_pos (natLt hk), if_pos (natIn hk), if_pos (natIn hka), w64_succ (by omega)]
    simp only [Int.toNat_natCast, Option.bind_some]
    rw [own_w ⟨hg.o0, hg.o1⟩]
    have up : (lrd a k = 1 ∨ ((lrd l k).From ≠ own (lrd l k).Object ∧ ∀ j, j < l.length → ¬ Backed l a k j)) → ∀ i, i < k + 1 → lrd a i = 1 ∨ ((lrd l i).From ≠ own (lrd l i).Object ∧ ∀ j, j < l.length → ¬ Backed l a i j) := by
      intro hk2 i hi
      by_cases hik : i = k
      · subst hik; exact hk2
      · exact h i (by omega)
    by_cases h1 : lrd a k = 1
    · rw [if_pos h1]
      exact .inl ⟨(), rfl, up (.inl h1)⟩
    · rw [if_neg h1]
      by_cases h2 : (lrd l k).From = own (lrd l k).Object
      · rw [if_pos h2, if_pos (natIn hka)]
        exact .inr ⟨_, rfl, .inl ⟨_, rfl, m.set hk (by rw [h2]; exact .base), zeros_set a k hka h1⟩⟩
      · rw [if_neg h2]
        obtain ⟨r, h3, h4⟩ := held_l2 hl m hk h1
        rw [h3, Option.bind_some]
        rcases h4 with ⟨rfl, j, hj, hB⟩ | ⟨rfl, hB⟩
        · refine .inr ⟨_, rfl, .inl ⟨_, rfl, m.set hk ?_, zeros_set a k hka h1⟩⟩
          have := m.sound j hj hB.1
          rw [hB.2.2.2.1, hB.2.2.2.2] at this
          rw [← hB.2.2.1]
          exact .step _ (lrd_mem hj) hB.2.1 hB.2.2.2.1 hB.2.2.2.2 this
        · exact .inl ⟨(), rfl, up (.inr ⟨h2, hB⟩)⟩
  · unfold g_right_held_l1
    try simp only
    rw [if_neg natNlt]
    exact ⟨_, rfl, .inr ⟨rfl, h⟩⟩
theorem full_marks {l : List GGrant} (hb : ∀ g ∈ l, InB g) {a : List Int} (f : Full l a) : ∀ (o r u : Int), Rc l o r u → ∀ i, i < l.length → (lrd l i).From = u → (lrd l i).Object = o → (lrd l i).Right = r → lrd a i = 1 := by
  intro o r u h
  induction h with
  | base =>
    intro i hi h1 h2 h3
    rcases f i hi with h | ⟨h, _⟩
    · exact h
    · exact absurd (by rw [h1, h2]) h
  | step g hg ho h1 h2 _ ih =>
    intro i hi h3 h4 h5
    rcases f i hi with h | ⟨_, h⟩
    · exact h
    · obtain ⟨j, hj, rfl⟩ := mem_lrd hg
      exact absurd ⟨ih j hj rfl h1 h2, ho, h3.symm, h1.trans h4.symm, h2.trans h5.symm⟩ (h j hj)
theorem held_l3 {l : List GGrant} (hl : l.length ≤ 96) {a : List Int} (ha : a.length = l.length) (p : GGrant → Bool) (hp : ∀ i, i < l.length → (lrd a i = 1 ↔ p (lrd l i) = true)) : loopO (g_right_held_l3 l a) ((0 : Int), ([] : List GGrant)) = some (l.filter p) := by
  have h := loopO_goL (step := g_right_held_l3 l a) l (fun k out => ((k : Int), out)) (fun _ g out => .inl (if p g = true then out ++ [g] else out)) id (fun k out => out.length ≤ k) (fun k out hk hi => ?_) (fun out _ => ?_) (s := []) (Nat.zero_le _)
  · rw [show (((0 : Nat) : Int), ([] : List GGrant)) = ((0 : Int), []) from rfl] at h
    rw [h]
    congr 1
    have : ∀ (m : List GGrant) (k : Nat) (s : List GGrant), goL (fun _ g out => (.inl (if p g = true then out ++ [g] else out) : List GGrant ⊕ List GGrant)) id m k s = s ++ m.filter p := by
      intro m
      induction m with
      | nil => intro k s; simp [goL]
      | cons x m ih =>
        intro k s
        simp only [goL]
        rw [ih]
        by_cases hx : p x = true
        · simp [hx]
        · simp [hx]
    rw [this]
    rfl
  · unfold g_right_held_l3
    try simp only
    rw [if_pos (natLt hk), if_pos (natIn hk), if_pos (natIn (by rw [ha]; exact hk)), w64_succ (by omega), Int.toNat_natCast]
    have hpk := hp k hk
    by_cases h : lrd a k = 1
    · rw [if_pos h, if_pos (hpk.1 h), if_pos (show room _ _ by simp only [room, List.length_cons, List.length_nil]; omega)]
      exact ⟨rfl, fun s' hs => by cases hs; simp only [List.length_append, List.length_cons, List.length_nil]; omega⟩
    · rw [if_neg h, if_neg (fun q => h (hpk.2 q))]
      exact ⟨rfl, fun s' hs => by cases hs; omega⟩
  · unfold g_right_held_l3
    try simp only
    rw [if_neg natNlt]
    rfl
open Classical in
theorem held_eq {l : List GGrant} (hl : l.length ≤ 96) (hb : ∀ g ∈ l, InB g) : g_right_held l = some (stand l) := by
  unfold g_right_held
  rw [if_pos (by omega), if_pos (by omega), Int.toNat_natCast]
  obtain ⟨r, h1, h2⟩ := loopO_rule (step := g_right_held_l0 l) (Marks l) (fun r => r = stand l) zeros (fun a m => by
    unfold g_right_held_l0
    try simp only
    obtain ⟨r, h1, h2⟩ := held_l1 hl hb m
    rw [h1, Option.bind_some]
    rcases h2 with ⟨a', rfl, h3, h4⟩ | ⟨rfl, hf⟩
    · exact .inl ⟨a', rfl, h3, h4⟩
    · have := held_l3 hl m.len (fun g => decide (Rc l g.Object g.Right g.From)) (fun i hi => ⟨fun h => decide_eq_true (m.sound i hi h), fun h => full_marks hb hf _ _ _ (of_decide_eq_true h) i hi rfl rfl rfl⟩)
      simp only
      rw [this]
      exact .inr ⟨_, rfl, rfl⟩) (a := List.replicate l.length 0) ⟨by simp, fun i hi h => by
        rw [lrd_at (by simpa using hi)] at h
        simp at h⟩
  rw [h1, h2]
  rfl
end Go.Proofs.Ytgbfmldbbnhefaa.VM
