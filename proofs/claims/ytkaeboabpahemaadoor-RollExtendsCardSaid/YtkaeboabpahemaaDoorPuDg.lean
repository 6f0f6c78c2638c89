/- Digests as functions; small things. -/
import Derived.Test.YtkaeboabpahemaaDoorPuDig
namespace Go.Proofs.YtkaeboabpahemaaDoor.VM
open Go Go.RowKit
/-- Digests as a function. -/
noncomputable def dg (m tag : Int) (l : List (List UInt8)) : List UInt8 × Int := (g_oracle_Digest m tag l).getD ([], 0)
theorem dg_o (m tag : Int) (l : List (List UInt8)) : g_oracle_Digest m tag l = some (dg m tag l) := by
  obtain ⟨r, h1, _⟩ := digest_eq m tag l
  unfold dg
  rw [h1]
  rfl
theorem dg_r (m tag : Int) (l : List (List UInt8)) : g_ref_DigestOf m tag l = some (dg m tag l) := by
  obtain ⟨r, h1, h2, _⟩ := digest_eq m tag l
  unfold dg
  rw [h1, h2]
  rfl
theorem dg_ok {m tag : Int} {l : List (List UInt8)} (hm : m = 1 ∨ m = 2) (ht : 1 ≤ tag ∧ tag ≤ 9) (hl : l.length ≤ 8) (hs : 2 + 4 * l.length + sizes l ≤ 16777216) : (dg m tag l).2 = 0 ∧ ((dg m tag l).1.length ≤ 32 ∨ (dg m tag l).1.length ≤ 2 + 4 * l.length + sizes l) := by
  have hf : frameR tag l = (frameL tag l, 0) := by
    unfold frameR
    rw [if_neg (by omega), if_neg (by omega), if_neg (by omega)]
  obtain ⟨v, h1, _⟩ := sum_eq (frameL tag l) (by rw [frameL_len]; omega)
  have hv : v.toList.length = 32 := vlen v
  have : g_oracle_Digest m tag l = some (if m = 2 then (frameL tag l, 0) else (v.toList, 0)) := by
    unfold g_oracle_Digest
    rw [if_neg (by omega), Frame_eq, Option.bind_some, hf]
    rcases hm with rfl | rfl
    · rw [if_neg (by simp), if_neg (by decide), h1, Option.bind_some, if_pos (show room _ _ by simp only [room, List.length_nil]; omega)]
      rfl
    · rw [if_pos (by simp), if_pos rfl]
  have e : dg m tag l = if m = 2 then (frameL tag l, 0) else (v.toList, 0) := by
    have h := dg_o m tag l
    rw [this] at h
    exact (Option.some.inj h).symm
  rw [e]
  split
  · exact ⟨rfl, .inr (by rw [frameL_len]; omega)⟩
  · exact ⟨rfl, .inl (by simp only [hv]; omega)⟩
theorem two_le {j : Nat} (h : j ≤ 6) : 2 ^ j ≤ 64 := Nat.pow_le_pow_right (n := 2) (by decide) h
theorem pair_ok {m tag : Int} {a b : List UInt8} (hm : m = 1 ∨ m = 2) (ht : 1 ≤ tag ∧ tag ≤ 9) (h : a.length + b.length ≤ 100000) : (dg m tag [a, b]).2 = 0 ∧ ((dg m tag [a, b]).1.length ≤ 32 ∨ (dg m tag [a, b]).1.length ≤ 10 + a.length + b.length) := by
  have hs : sizes [a, b] = a.length + b.length := by simp [sizes]
  have := dg_ok (tag := tag) (l := [a, b]) hm ht (by simp) (by rw [hs]; simp only [List.length_cons, List.length_nil]; omega)
  rw [hs] at this
  simp only [List.length_cons, List.length_nil] at this
  exact ⟨this.1, by omega⟩
theorem w64_nat {n : Nat} (h : n ≤ 9223372036854775807) : w64 (n : Int) = (n : Int) := w64_id (by omega)
theorem w64_div {i n : Nat} (h : i ≤ 9223372036854775807) : w64 ((i / n : Nat) : Int) = ((i / n : Nat) : Int) := w64_nat (Nat.le_trans (Nat.div_le_self _ _) h)
theorem cut_init {α : Type} {l : List α} {n : Nat} : cut l 0 (n : Int) = l.take n := by
  simp only [cut, Int.toNat_zero, Int.toNat_natCast, List.drop_zero, Nat.sub_zero]
end Go.Proofs.YtkaeboabpahemaaDoor.VM
