/- Words and rules that the proof uses. -/
import Derived.Test.YteilidpbnndnpaaDoorPuLeaf
namespace Go.Proofs.YteilidpbnndnpaaDoor.VM
open Go Go.RowKit
theorem same_true (a : List UInt8) : g_law_sameBytes a a = some true := by
 unfold g_law_sameBytes
 simp
theorem power_pw : ∀ m : Fin 65, decide (iand (m.val : Int) (w64 ((m.val : Int) - 1)) = 0) = decide (m.val = 0 ∨ m.val ∈ [1, 2, 4, 8, 16, 32, 64]) := by decide +kernel
def pw (n : Int) : Prop := ∃ k : Nat, k ≤ 6 ∧ n = ((2 ^ k : Nat) : Int)
theorem pw_mem {n : Int} : pw n ↔ n = 1 ∨ n = 2 ∨ n = 4 ∨ n = 8 ∨ n = 16 ∨ n = 32 ∨ n = 64 := by
 constructor
 ·rintro ⟨k, hk, rfl⟩
  have : k = 0 ∨ k = 1 ∨ k = 2 ∨ k = 3 ∨ k = 4 ∨ k = 5 ∨ k = 6 := by omega
  rcases this with rfl | rfl | rfl | rfl | rfl | rfl | rfl <;> decide
 ·rintro (rfl | rfl | rfl | rfl | rfl | rfl | rfl)
  ·exact ⟨0, by decide, rfl⟩
  ·exact ⟨1, by decide, rfl⟩
  ·exact ⟨2, by decide, rfl⟩
  ·exact ⟨3, by decide, rfl⟩
  ·exact ⟨4, by decide, rfl⟩
  ·exact ⟨5, by decide, rfl⟩
  ·exact ⟨6, by decide, rfl⟩
open Classical in
theorem power_eq (n : Int) : g_slots_power n = some (decide (pw n)) := by
 unfold g_slots_power
 congr 1
 rw [decide_eq_decide, pw_mem]
 by_cases h : n ≥ 1 ∧ n ≤ 64
 ·obtain ⟨m, rfl⟩ := Int.eq_ofNat_of_zero_le (show 0 ≤ n by omega)
  have := power_pw ⟨m, by omega⟩
  rw [decide_eq_decide] at this
  simp only [List.mem_cons, List.not_mem_nil, or_false] at this
  rw [this]
  omega
 ·constructor
  ·exact fun q => absurd q.1 h
  ·intro q
   omega
theorem whole_loop (n : Int) (L : List Int) (hl : L.length ≤ 100) : ∃ r, loopO (g_ref_whole_l0 n (L.length : Int) L) (0 : Int) = some r ∧ ((r = .inl true ∧ n ∈ L) ∨ (r = .inr () ∧ ¬ n ∈ L)) := by
 refine loopO_times (step := g_ref_whole_l0 n (L.length : Int) L) (σ := Unit) L.length (fun k _ => (k : Int)) (fun k _ => ∀ j, j < k → lrd L j ≠ n) (fun r => (r = .inl true ∧ n ∈ L) ∨ (r = .inr () ∧ ¬ n ∈ L)) (fun k u hk h => ?_) (fun u h => ?_) (s := ()) (fun j hj => absurd hj (Nat.not_lt_zero j))
 ·unfold g_ref_whole_l0
  dsimp only
  rw [if_pos (natLt hk), if_pos (natIn hk), Int.toNat_natCast, w64_succ (by omega)]
  by_cases hn : n = lrd L k
  ·rw [if_pos hn]
   refine .inr ⟨_, rfl, .inl ⟨rfl, ?_⟩⟩
   rw [hn, show lrd L k = L[k] by simp [lrd, hk]]
   exact List.getElem_mem _
  ·rw [if_neg hn]
   refine .inl ⟨(), rfl, fun j hj => ?_⟩
   by_cases hjk : j = k
   ·subst hjk; exact fun q => hn q.symm
   ·exact h j (by omega)
 ·unfold g_ref_whole_l0
  dsimp only
  rw [if_neg natNlt]
  refine ⟨_, rfl, .inr ⟨rfl, fun q => ?_⟩⟩
  obtain ⟨j, hj, e⟩ := mem_lrd q
  exact h j hj e
open Classical in
theorem whole_eq (n : Int) : g_ref_whole n = some (decide (pw n)) := by
 unfold g_ref_whole
 rw [letO_eq, letO_eq]
 have hp : pw n ↔ n ∈ [(1 : Int), 2, 4, 8, 16, 32, 64] := by
  rw [pw_mem]
  simp only [List.mem_cons, List.not_mem_nil, or_false]
 obtain ⟨r, h1, h2⟩ := whole_loop n [(1 : Int), 2, 4, 8, 16, 32, 64] (by decide)
 rw [h1]
 rcases h2 with ⟨rfl, h⟩ | ⟨rfl, h⟩
 ·rw [decide_eq_true (hp.2 h)]; rfl
 ·rw [decide_eq_false (fun q => h (hp.1 q))]; rfl
end Go.Proofs.YteilidpbnndnpaaDoor.VM
