/- Words and rules that the proof uses. -/
import Derived.Test.YtalnmpfjgiecdaaDoorPuLexW
namespace Go.Proofs.YtalnmpfjgiecdaaDoor.VM
open Go Go.RowKit
theorem loop_passes {step : Int → Option (Int ⊕ (Int ⊕ Unit))} (n : Nat) (hn : n < 9223372036854775807) (hs : ∀ k, k < n → step (k : Int) = some (.inl (w64 ((k : Int) + 1))) ∨ ∃ r, r ≠ 0 ∧ step (k : Int) = some (.inr (.inl r))) (he : step (n : Int) = some (.inr (.inr ()))) :
  ∃ o, loopO step (0 : Int) = some o ∧ match o with | .inl y => y ≠ 0 | .inr _ => ∀ k, k < n → step (k : Int) = some (.inl (w64 ((k : Int) + 1))) := by
 refine loopO_times (step := step) n (fun k (_ : Unit) => (k : Int)) (fun k _ => ∀ j, j < k → step (j : Int) = some (.inl (w64 ((j : Int) + 1)))) _ (fun k _ hk hi => ?_) (fun _ hi => ⟨_, he, hi⟩) (s := ()) (fun j hj => by omega)
 rcases hs k hk with h | ⟨r, hr, h⟩
 ·left
  refine ⟨(), by rw [h, w64_succ (by omega)], fun j hj => ?_⟩
  rcases Nat.lt_or_ge j k with h1 | h1
  ·exact hi j h1
  ·rw [show j = k by omega]; exact h
 ·exact .inr ⟨_, h, hr⟩
theorem down_any {α : Type} [Inhabited α] {step : Int → Option (Int ⊕ (Int ⊕ Unit))} (l : List α) (p : α → Bool) (hl : l.length < 9223372036854775807) (hs : ∀ k, k < l.length → step (k : Int) = some (if p (lrd l k) = true then .inr (.inl (k : Int)) else .inl (w64 ((k : Int) - 1)))) (he : step (-1) = some (.inr (.inr ()))) :
  ∀ j, j ≤ l.length → ∃ o, loopO step ((j : Int) - 1) = some o ∧ match o with | .inl r => 0 ≤ r ∧ (l.take j).any p = true | .inr _ => (l.take j).any p = false := by
 intro j
 induction j with
 | zero => intro _; exact ⟨.inr (), loopO_done he, rfl⟩
 | succ j ih =>
  intro hj
  rw [show ((j + 1 : Nat) : Int) - 1 = (j : Int) by omega]
  have h1 := hs j (by omega)
  by_cases hp : p (lrd l j) = true
  ·rw [if_pos hp] at h1
   refine ⟨_, loopO_done h1, by omega, ?_⟩
   rw [take_step (by omega), List.any_append, List.any_cons, List.any_nil, hp]
   simp
  ·rw [if_neg hp, w64_id (by omega)] at h1
   obtain ⟨o, h2, h3⟩ := ih (by omega)
   refine ⟨o, by rw [loopO_next h1]; exact h2, ?_⟩
   have e : (l.take (j + 1)).any p = (l.take j).any p := by
    rw [take_step (by omega), List.any_append, List.any_cons, List.any_nil, Bool.eq_false_iff.2 hp]
    simp
   rw [e]
   exact h3
theorem columnAt_eq (l : List GColumn) (n : List UInt8) (hl : l.length < 9223372036854775807) : ∃ r, g_ref_columnAt l n = some r ∧ (r ≥ 0 ↔ (l.any fun c => decide (c.Name = n)) = true) := by
 obtain ⟨o, h1, h2⟩ := down_any (step := g_ref_columnAt_l0 l n) l (fun c => decide (c.Name = n)) hl (fun k hk => by
  unfold g_ref_columnAt_l0
  dsimp only
  rw [if_pos (by omega), if_pos (natIn hk), Int.toNat_natCast]
  by_cases h1 : (lrd l k).Name = n
  ·rw [if_pos h1, if_pos (decide_eq_true h1)]
  ·rw [if_neg h1, if_neg (by rw [decide_eq_false h1]; decide)]) (by
  unfold g_ref_columnAt_l0
  dsimp only
  rw [if_neg (by decide)]) l.length (Nat.le_refl _)
 unfold g_ref_columnAt
 rw [w64_id (by omega), h1, Option.bind_some]
 rw [List.take_length] at h2
 cases o with
 | inl r => exact ⟨r, rfl, by simp only at h2; simp [h2.1, h2.2]⟩
 | inr u => exact ⟨-1, rfl, by simp only at h2; simp [h2]⟩
theorem twice_eq (cols : List GColumn) (t : Int) (ht : 0 ≤ t ∧ t < (cols.length : Int)) (hl : cols.length < 9223372036854775807) : loopO (g_kinds_Columns_l1 cols t) (0 : Int) = some (if ((cut cols 0 t).any fun d => decide (d.Name = (lrd cols t.toNat).Name)) = true then .inl 8 else .inr ()) := by
 have hc : (cut cols 0 t).length ≤ cols.length := by rw [cut_len ⟨Int.le_refl _, ht.1, by omega⟩]; omega
 exact any_loop (step := g_kinds_Columns_l1 cols t) (cut cols 0 t) (fun d => decide (d.Name = (lrd cols t.toNat).Name)) (.inl 8) (.inr ()) (by omega) (fun k hk => by
  unfold g_kinds_Columns_l1
  dsimp only
  rw [if_pos (natLt hk), if_pos (natIn hk), Int.toNat_natCast]
  by_cases h1 : (lrd (cut cols 0 t) k).Name = (lrd cols t.toNat).Name
  ·rw [if_pos h1, if_pos (decide_eq_true h1)]
  ·rw [if_neg h1, if_neg (by rw [decide_eq_false h1]; decide)]) (by
  unfold g_kinds_Columns_l1
  dsimp only
  rw [if_neg natNlt])
theorem colStep (cols : List GColumn) (hl : cols.length < 9223372036854775807) (hc : ∀ c ∈ cols, c.Name.length < 9223372036854775807) : g_kinds_Columns_l0 cols = g_ref_ColumnsFault_l0 cols := by
 funext t
 unfold g_kinds_Columns_l0 g_ref_ColumnsFault_l0
 dsimp only
 by_cases h : t < (cols.length : Int)
 ·rw [if_pos h, if_pos h]
  by_cases h0 : 0 ≤ t ∧ t < (cols.length : Int)
  ·have hn := hc (lrd cols t.toNat) (lrd_mem (by omega))
   have ht : 0 ≤ t ∧ t ≤ (cols.length : Int) := by omega
   have hcl : (cut cols 0 t).length ≤ cols.length := by rw [cut_len ⟨Int.le_refl _, ht.1, by omega⟩]; omega
   rw [if_pos h0, if_pos h0, name_eq _ hn, isName_eq _ hn, Option.bind_some, Option.bind_some]
   unfold wrong
   by_cases h1 : ((lrd cols t.toNat).Name.length : Int) > 8
   ·rw [if_pos h1, if_pos (show (1 : Int) ≠ 0 by decide), if_pos (.inr h1)]
   ·rw [if_neg h1]
    by_cases h2 : isNm (lrd cols t.toNat).Name = true
    ·rw [if_pos h2, if_neg (show ¬ ((0 : Int) ≠ 0) by decide), if_neg (show ¬ ((!(isNm (lrd cols t.toNat).Name)) = true ∨ ((lrd cols t.toNat).Name.length : Int) > 8) by rw [h2]; intro hh; rcases hh with hh | hh; exact absurd hh (by decide); exact h1 hh), letO_eq]
     by_cases h3 : (lrd cols t.toNat).Kind < 1 ∨ (lrd cols t.toNat).Kind > 4
     ·rw [if_pos h3, if_pos (decide_eq_true (by omega))]
     ·rw [if_neg h3, if_neg (show ¬ (decide _ = true) by rw [decide_eq_true_eq]; omega), if_pos ht, if_pos ht, twice_eq cols t h0 hl]
      obtain ⟨r, h4, h5⟩ := columnAt_eq (cut cols 0 t) (lrd cols t.toNat).Name (by omega)
      rw [h4, Option.bind_some, Option.bind_some]
      by_cases h6 : ((cut cols 0 t).any fun d => decide (d.Name = (lrd cols t.toNat).Name)) = true
      ·rw [if_pos h6, if_pos (h5.2 h6)]
      ·rw [if_neg h6, if_neg (fun q => h6 (h5.1 q))]
    ·rw [if_neg h2, if_pos (show (3 : Int) ≠ 0 by decide), if_pos (.inl (by rw [Bool.eq_false_iff.2 h2]; rfl))]
  ·rw [if_neg h0, if_neg h0]
 ·rw [if_neg h, if_neg h]
theorem cols_eq (cols : List GColumn) (hl : cols.length < 9223372036854775807) (hc : ∀ c ∈ cols, c.Name.length < 9223372036854775807) : ∃ e, g_kinds_Columns cols = some e ∧ g_ref_ColumnsFault cols = some e := by
 unfold g_kinds_Columns g_ref_ColumnsFault
 rw [colStep cols hl hc]
 by_cases h : (cols.length : Int) > 5
 ·simp only [if_pos h]; exact ⟨_, rfl, rfl⟩
 ·simp only [if_neg h]
  have : ∃ r, loopO (g_ref_ColumnsFault_l0 cols) (0 : Int) = some r ∧ True := by
   refine loopO_times (step := g_ref_ColumnsFault_l0 cols) cols.length (fun k (_ : Unit) => (k : Int)) (fun _ _ => True) (fun _ => True) (fun k _ hk _ => ?_) (fun _ _ => ?_) (s := ()) trivial
   ·unfold g_ref_ColumnsFault_l0
    dsimp only
    have hn := hc (lrd cols k) (lrd_mem hk)
    rw [if_pos (natLt hk), if_pos (natIn hk), Int.toNat_natCast, isName_eq _ hn, Option.bind_some]
    split
    ·exact .inr ⟨_, rfl, trivial⟩
    ·rw [letO_eq]
     split
     ·exact .inr ⟨_, rfl, trivial⟩
     ·have hcl : (cut cols 0 (k : Int)).length ≤ cols.length := by rw [cut_len ⟨Int.le_refl _, by omega, by omega⟩]; omega
      obtain ⟨r, h4, _⟩ := columnAt_eq (cut cols 0 (k : Int)) (lrd cols k).Name (by omega)
      rw [if_pos (by omega), h4, Option.bind_some]
      split
      ·exact .inr ⟨_, rfl, trivial⟩
      ·exact .inl ⟨(), by rw [w64_succ (by omega)], trivial⟩
   ·unfold g_ref_ColumnsFault_l0
    dsimp only
    rw [if_neg natNlt]
    exact ⟨_, rfl, trivial⟩
  obtain ⟨r, hr, _⟩ := this
  rw [hr, Option.bind_some]
  cases r with
  | inl y => exact ⟨y, rfl, rfl⟩
  | inr y => exact ⟨0, rfl, rfl⟩
theorem colsOk {cols : List GColumn} (q : (okL 32 GColumn.ok) cols) : cols.length < 9223372036854775807 ∧ ∀ c ∈ cols, c.Name.length < 9223372036854775807 :=
 ⟨Nat.lt_of_le_of_lt (Nat.le_mul_of_pos_right _ (by decide)) (Nat.lt_of_le_of_lt q.1 (by decide)), fun c hc => Nat.lt_of_le_of_lt (q.2.2 c hc).1 (by decide)⟩
end Go.Proofs.YtalnmpfjgiecdaaDoor.VM
