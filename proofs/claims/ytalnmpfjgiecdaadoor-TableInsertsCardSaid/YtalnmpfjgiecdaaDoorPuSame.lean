/- Words and rules that the proof uses. -/
import Derived.Test.YtalnmpfjgiecdaaDoorPuBase
namespace Go.Proofs.YtalnmpfjgiecdaaDoor.VM
open Go Go.RowKit
theorem same_loop {β : Type} {step : Int → Option (Int ⊕ β)} (n : Nat) (b : β) (hn : n < 9223372036854775807) (hs : ∀ k, k < n → step (k : Int) = some (.inl (w64 ((k : Int) + 1)))) (he : step (n : Int) = some (.inr b)) : loopO step (0 : Int) = some b := by
 obtain ⟨r, h1, h2⟩ := loopO_times (step := step) n (fun k (_ : Unit) => (k : Int)) (fun _ _ => True) (fun r => r = b) (fun k _ hk _ => .inl ⟨(), by rw [hs k hk, w64_succ (by omega)], trivial⟩) (fun _ _ => ⟨b, he, rfl⟩) (s := ()) trivial
 rw [← h2]
 exact h1
theorem sameColumns_refl (a : List GColumn) (h : a.length < 9223372036854775807) : g_law_sameColumns a a = some true := by
 unfold g_law_sameColumns
 rw [if_neg (fun q => q rfl), same_loop (step := g_law_sameColumns_l0 a a) a.length (.inr ()) h (fun k hk => by
  unfold g_law_sameColumns_l0
  dsimp only
  rw [if_pos (natLt hk), if_pos (natIn hk), if_pos (natIn hk), if_neg (fun q => q rfl)]) (by
  unfold g_law_sameColumns_l0
  dsimp only
  rw [if_neg natNlt])]
 rfl
theorem sameRow_refl (a : List GValue) (h : a.length < 9223372036854775807) : g_law_sameRow a a = some true := by
 unfold g_law_sameRow
 rw [if_neg (fun q => q rfl), same_loop (step := g_law_sameRow_l0 a a) a.length (.inr ()) h (fun k hk => by
  unfold g_law_sameRow_l0
  dsimp only
  rw [if_pos (natLt hk), if_pos (natIn hk), if_pos (natIn hk), if_neg (fun q => q rfl)]) (by
  unfold g_law_sameRow_l0
  dsimp only
  rw [if_neg natNlt])]
 rfl
theorem sameTable_refl (a : GTable) (h : a.Cols.length < 9223372036854775807) (hr : ∀ i j, i < 2 → j < 4 → (vrd (vrd a.Drawers i) j).Row.length < 9223372036854775807) : g_law_sameTable a a = some true := by
 unfold g_law_sameTable
 rw [if_neg (fun q => q rfl), if_neg (fun q => q rfl), sameColumns_refl _ h, Option.bind_some, Option.bind_some, if_neg (by decide)]
 have hin : ∀ i : Nat, i < 2 → loopO (g_law_sameTable_l1 a a (i : Int)) (0 : Int) = some (.inr ()) := by
  intro i hi
  refine same_loop (step := g_law_sameTable_l1 a a (i : Int)) 4 (.inr ()) (by decide) (fun k hk => ?_) ?_
  ·unfold g_law_sameTable_l1
   dsimp only
   have h1 : (0 : Int) ≤ (i : Int) ∧ (i : Int) < 2 := by omega
   have h2 : (0 : Int) ≤ (k : Int) ∧ (k : Int) < 4 := by omega
   rw [if_pos h2.2, if_pos h1, if_pos h2, if_pos h1, if_pos h2, if_neg (fun q => q rfl), Int.toNat_natCast, Int.toNat_natCast, sameRow_refl _ (hr i k hi hk), Option.bind_some, Option.bind_some, if_neg (by decide)]
  ·unfold g_law_sameTable_l1
   dsimp only
   rw [if_neg (by decide)]
 rw [same_loop (step := g_law_sameTable_l0 a a) 2 (.inr ()) (by decide) (fun k hk => by
  unfold g_law_sameTable_l0
  dsimp only
  rw [if_pos (by omega), hin k hk]
  rfl) (by
  unfold g_law_sameTable_l0
  dsimp only
  rw [if_neg (by decide)])]
 rfl
theorem vrd_rep {α : Type} [Inhabited α] {n : Nat} {x : α} {j : Nat} (h : j < n) : vrd (Vector.replicate n x) j = x := by
 rw [vrd_at h, Vector.getElem_replicate]
theorem sameTable_zero : g_law_sameTable GTable.zero GTable.zero = some true := by
 refine sameTable_refl GTable.zero (by decide) (fun i j hi hj => ?_)
 show (vrd (vrd (Vector.replicate 2 (Vector.replicate 4 GCell.zero)) i) j).Row.length < _
 rw [vrd_rep hi, vrd_rep hj]
 decide
end Go.Proofs.YtalnmpfjgiecdaaDoor.VM
