/- Trees of slots: digests and leaves as functions. -/
import Derived.Test.YtkaeboabpahemaaDoorPuDig
namespace Go.Proofs.YtkaeboabpahemaaDoor.VM
open Go Go.RowKit
/-- Digests as a function. -/
noncomputable def dg (m tag : Int) (l : List (List UInt8)) : List UInt8 × Int := (g_oracle_Digest m tag l).getD ([], 0)
theorem dg_o (m tag : Int) (l : List (List UInt8)) : g_oracle_Digest m tag l = some (dg m tag l) := by
  obtain ⟨r, h1, _⟩ := digest_eq m tag l
  unfold dg
  rw [h1]
  rfl
theorem dg_r (m tag : Int) (l : List (List UInt8)) : g_ref_DigestOf m tag l = some (dg m tag l) := by
  obtain ⟨r, h1, h2, _⟩ := digest_eq m tag l
  unfold dg
  rw [h1, h2]
  rfl
theorem dg_ok {m tag : Int} {l : List (List UInt8)} (hm : m = 1 ∨ m = 2) (ht : 1 ≤ tag ∧ tag ≤ 9) (hl : l.length ≤ 8) (hs : 2 + 4 * l.length + sizes l ≤ 16777216) : (dg m tag l).2 = 0 ∧ ((dg m tag l).1.length ≤ 32 ∨ (dg m tag l).1.length ≤ 2 + 4 * l.length + sizes l) := by
  have hf : frameR tag l = (frameL tag l, 0) := by
    unfold frameR
    rw [if_neg (by omega), if_neg (by omega), if_neg (by omega)]
  obtain ⟨v, h1, _⟩ := sum_eq (frameL tag l) (by rw [frameL_len]; omega)
  have hv : v.toList.length = 32 := vlen v
  have : g_oracle_Digest m tag l = some (if m = 2 then (frameL tag l, 0) else (v.toList, 0)) := by
    unfold g_oracle_Digest
    rw [if_neg (by omega), Frame_eq, Option.bind_some, hf]
    rcases hm with rfl | rfl
    · rw [if_neg (by simp), if_neg (by decide), h1, Option.bind_some, if_pos (show room _ _ by simp only [room, List.length_nil]; omega)]
      rfl
    · rw [if_pos (by simp), if_pos rfl]
  have e : dg m tag l = if m = 2 then (frameL tag l, 0) else (v.toList, 0) := by
    have h := dg_o m tag l
    rw [this] at h
    exact (Option.some.inj h).symm
  rw [e]
  split
  · exact ⟨rfl, .inr (by rw [frameL_len]; omega)⟩
  · exact ⟨rfl, .inl (by simp only [hv]; omega)⟩
/-- Leaves as a function. -/
noncomputable def lf (m : Int) (s : GSlot) : List UInt8 × Int := (g_slots_Leaf m s).getD ([], 0)
theorem lf_o (m : Int) (s : GSlot) : g_slots_Leaf m s = some (lf m s) := by
  obtain ⟨r, h1, _⟩ := leaf_eq m s
  unfold lf
  rw [h1]
  rfl
theorem lf_r (m : Int) (s : GSlot) : g_ref_LeafOf m s = some (lf m s) := by
  obtain ⟨r, h1, h2, _⟩ := leaf_eq m s
  unfold lf
  rw [h1, h2]
  rfl
theorem lf_len {m : Int} {s : GSlot} (hm : m = 1 ∨ m = 2) (h : (lf m s).2 = 0) : (lf m s).1.length ≤ 491 := by
  have h0 := lf_o m s
  generalize lf m s = r at *
  unfold g_slots_Leaf g_slots_modes at h0
  rw [Option.bind_some, decide_eq_true hm] at h0
  simp only [Bool.not_true, Bool.false_eq_true, if_false] at h0
  by_cases h1 : (!s.Full) = true ∧ (s.Data.length : Int) > 0
  · rw [if_pos h1] at h0
    cases h0
    exact absurd h (by decide)
  · rw [if_neg h1] at h0
    by_cases h2 : (s.Salt.length : Int) > 80 ∨ (s.Data.length : Int) > 400
    · rw [if_pos h2] at h0
      cases h0
      exact absurd h (by decide)
    · rw [if_neg h2] at h0
      by_cases h3 : s.Full = true
      · rw [if_pos h3, if_pos (show room _ _ by simp only [room, List.length_cons, List.length_nil]; omega), Option.bind_some, dg_o, Option.bind_some] at h0
        cases h0
        have hs : sizes [s.Salt, [1] ++ s.Data] = s.Salt.length + (1 + s.Data.length) := by simp [sizes]; omega
        have := (dg_ok (tag := 1) (l := [s.Salt, [1] ++ s.Data]) hm ⟨by decide, by decide⟩ (by simp) (by rw [hs]; simp only [List.length_cons, List.length_nil]; omega)).2
        rw [hs] at this
        simp only [List.length_cons, List.length_nil] at this ⊢
        omega
      · rw [if_neg h3, Option.bind_some, dg_o, Option.bind_some] at h0
        cases h0
        have hs : sizes [s.Salt, [0]] = s.Salt.length + 1 := by simp [sizes]
        have := (dg_ok (tag := 1) (l := [s.Salt, [0]]) hm ⟨by decide, by decide⟩ (by simp) (by rw [hs]; simp only [List.length_cons, List.length_nil]; omega)).2
        rw [hs] at this
        simp only [List.length_cons, List.length_nil] at this ⊢
        omega
/-! Powers of two -/
theorem power_pw : ∀ m : Fin 65, decide (iand (m.val : Int) (w64 ((m.val : Int) - 1)) = 0) = decide (m.val = 0 ∨ m.val ∈ [1, 2, 4, 8, 16, 32, 64]) := by decide +kernel
/-- A whole number of slots. -/
def pw (n : Int) : Prop := ∃ k : Nat, k ≤ 6 ∧ n = ((2 ^ k : Nat) : Int)
theorem pw_mem {n : Int} : pw n ↔ n = 1 ∨ n = 2 ∨ n = 4 ∨ n = 8 ∨ n = 16 ∨ n = 32 ∨ n = 64 := by
  constructor
  · rintro ⟨k, hk, rfl⟩
    have : k = 0 ∨ k = 1 ∨ k = 2 ∨ k = 3 ∨ k = 4 ∨ k = 5 ∨ k = 6 := by omega
    rcases this with rfl | rfl | rfl | rfl | rfl | rfl | rfl <;> decide
  · rintro (rfl | rfl | rfl | rfl | rfl | rfl | rfl)
    · exact ⟨0, by decide, rfl⟩
    · exact ⟨1, by decide, rfl⟩
    · exact ⟨2, by decide, rfl⟩
    · exact ⟨3, by decide, rfl⟩
    · exact ⟨4, by decide, rfl⟩
    · exact ⟨5, by decide, rfl⟩
    · exact ⟨6, by decide, rfl⟩
open Classical in
theorem power_eq (n : Int) : g_slots_power n = some (decide (pw n)) := by
  unfold g_slots_power
  congr 1
  rw [decide_eq_decide, pw_mem]
  by_cases h : n ≥ 1 ∧ n ≤ 64
  · obtain ⟨m, rfl⟩ := Int.eq_ofNat_of_zero_le (show 0 ≤ n by omega)
    have := power_pw ⟨m, by omega⟩
    rw [decide_eq_decide] at this
    simp only [List.mem_cons, List.not_mem_nil, or_false] at this
    rw [this]
    omega
  · constructor
    · exact fun q => absurd q.1 h
    · intro q
      omega
theorem whole_loop (n : Int) (L : List Int) (hl : L.length ≤ 100) : ∃ r, loopO (g_ref_whole_l0 n (L.length : Int) L) (0 : Int) = some r ∧ ((r = .inl true ∧ n ∈ L) ∨ (r = .inr () ∧ ¬ n ∈ L)) := by
  refine loopO_times (step := g_ref_whole_l0 n (L.length : Int) L) (σ := Unit) L.length (fun k _ => (k : Int)) (fun k _ => ∀ j, j < k → lrd L j ≠ n) (fun r => (r = .inl true ∧ n ∈ L) ∨ (r = .inr () ∧ ¬ n ∈ L)) (fun k u hk h => ?_) (fun u h => ?_) (s := ()) (fun j hj => absurd hj (Nat.not_lt_zero j))
  · unfold g_ref_whole_l0
    dsimp only
    rw [if_pos (natLt hk), if_pos (natIn hk), Int.toNat_natCast, w64_succ (by omega)]
    by_cases hn : n = lrd L k
    · rw [if_pos hn]
      refine .inr ⟨_, rfl, .inl ⟨rfl, ?_⟩⟩
      rw [hn, show lrd L k = L[k] by simp [lrd, hk]]
      exact List.getElem_mem _
    · rw [if_neg hn]
      refine .inl ⟨(), rfl, fun j hj => ?_⟩
      by_cases hjk : j = k
      · subst hjk; exact fun q => hn q.symm
      · exact h j (by omega)
  · unfold g_ref_whole_l0
    dsimp only
    rw [if_neg natNlt]
    refine ⟨_, rfl, .inr ⟨rfl, fun q => ?_⟩⟩
    obtain ⟨j, hj, e⟩ := mem_lrd q
    exact h j hj e
open Classical in
theorem whole_eq (n : Int) : g_ref_whole n = some (decide (pw n)) := by
  unfold g_ref_whole
  rw [letO_eq, letO_eq]
  have hp : pw n ↔ n ∈ [(1 : Int), 2, 4, 8, 16, 32, 64] := by
    rw [pw_mem]
    simp only [List.mem_cons, List.not_mem_nil, or_false]
  obtain ⟨r, h1, h2⟩ := whole_loop n [(1 : Int), 2, 4, 8, 16, 32, 64] (by decide)
  rw [h1]
  rcases h2 with ⟨rfl, h⟩ | ⟨rfl, h⟩
  · rw [decide_eq_true (hp.2 h)]; rfl
  · rw [decide_eq_false (fun q => h (hp.1 q))]; rfl
/-! The nodes of the tree -/
noncomputable def nd (m : Int) (l : List GSlot) : Nat → Nat → List UInt8
  | 0, i => (lf m (lrd l i)).1
  | j + 1, i => (dg m 2 [nd m l j (2 * i), nd m l j (2 * i + 1)]).1
/-- All leaves are right. -/
def good (m : Int) (l : List GSlot) : Prop := (m = 1 ∨ m = 2) ∧ ∀ i, i < l.length → (lf m (lrd l i)).2 = 0
theorem two_le {j : Nat} (h : j ≤ 6) : 2 ^ j ≤ 64 := Nat.pow_le_pow_right (n := 2) (by decide) h
theorem pair_ok {m tag : Int} {a b : List UInt8} (hm : m = 1 ∨ m = 2) (ht : 1 ≤ tag ∧ tag ≤ 9) (h : a.length + b.length ≤ 100000) : (dg m tag [a, b]).2 = 0 ∧ ((dg m tag [a, b]).1.length ≤ 32 ∨ (dg m tag [a, b]).1.length ≤ 10 + a.length + b.length) := by
  have hs : sizes [a, b] = a.length + b.length := by simp [sizes]
  have := dg_ok (tag := tag) (l := [a, b]) hm ht (by simp) (by rw [hs]; simp only [List.length_cons, List.length_nil]; omega)
  rw [hs] at this
  simp only [List.length_cons, List.length_nil] at this
  exact ⟨this.1, by omega⟩
theorem nd_len {m : Int} {l : List GSlot} (g : good m l) : ∀ j i, j ≤ 6 → (i + 1) * 2 ^ j ≤ l.length → (nd m l j i).length + 10 ≤ 501 * 2 ^ j
  | 0, i, _, h => by
    have := lf_len g.1 (g.2 i (by omega))
    unfold nd
    omega
  | j + 1, i, hj, h => by
    have e : 2 ^ (j + 1) = 2 * 2 ^ j := Nat.pow_succ' 
    have h1 := nd_len g j (2 * i) (by omega) (by
      refine Nat.le_trans ?_ h
      rw [e, ← Nat.mul_assoc]
      exact Nat.mul_le_mul_right _ (by omega))
    have h2 := nd_len g j (2 * i + 1) (by omega) (by
      refine Nat.le_trans ?_ h
      rw [e, ← Nat.mul_assoc]
      exact Nat.mul_le_mul_right _ (by omega))
    have h3 := two_le (j := j) (by omega)
    have h4 : 1 ≤ 2 ^ j := Nat.one_le_two_pow
    have := (pair_ok (tag := 2) (a := nd m l j (2 * i)) (b := nd m l j (2 * i + 1)) g.1 ⟨by decide, by decide⟩ (by omega)).2
    unfold nd
    omega
theorem nd_pair {m : Int} {l : List GSlot} (g : good m l) {j i : Nat} (hj : j + 1 ≤ 6) (h : (i + 1) * 2 ^ (j + 1) ≤ l.length) : dg m 2 [nd m l j (2 * i), nd m l j (2 * i + 1)] = (nd m l (j + 1) i, 0) := by
  have e : 2 ^ (j + 1) = 2 * 2 ^ j := Nat.pow_succ'
  have h1 := nd_len g j (2 * i) (by omega) (by
    refine Nat.le_trans ?_ h
    rw [e, ← Nat.mul_assoc]
    exact Nat.mul_le_mul_right _ (by omega))
  have h2 := nd_len g j (2 * i + 1) (by omega) (by
    refine Nat.le_trans ?_ h
    rw [e, ← Nat.mul_assoc]
    exact Nat.mul_le_mul_right _ (by omega))
  have h3 := two_le (j := j) (by omega)
  have := (pair_ok (tag := 2) (a := nd m l j (2 * i)) (b := nd m l j (2 * i + 1)) g.1 ⟨by decide, by decide⟩ (by omega)).1
  exact Prod.ext rfl this
end Go.Proofs.YtkaeboabpahemaaDoor.VM
