/- Trees of slots: roots and paths. -/
import Derived.Test.YtkaeboabpahemaaDoorPuSlot1
namespace Go.Proofs.YtkaeboabpahemaaDoor.VM
open Go Go.RowKit
/-- A row of nodes. -/
noncomputable def rowN (m : Int) (l : List GSlot) (j c : Nat) : List (List UInt8) := (List.range c).map (nd m l j)
theorem rowN_len (m : Int) (l : List GSlot) (j c : Nat) : (rowN m l j c).length = c := by simp [rowN]
theorem rowN_get {m : Int} {l : List GSlot} {j c i : Nat} (h : i < c) : lrd (rowN m l j c) i = nd m l j i := by simp [rowN, lrd, h]
theorem rowN_step (m : Int) (l : List GSlot) (j c : Nat) : rowN m l j (c + 1) = rowN m l j c ++ [nd m l j c] := by simp [rowN, List.range_succ]
theorem leaves_loop (m : Int) (l : List GSlot) (hl : l.length ≤ 64) : ∃ r q, loopO (g_slots_leaves_l0 m l) ((0 : Int), ([] : List (List UInt8))) = some r ∧ loopO (g_ref_slotsFault_l0 m l) (0 : Int) = some q ∧ ((∃ e, e ≠ 0 ∧ r = .inl ([], e) ∧ q = .inl e) ∨ (r = .inr (rowN m l 0 l.length) ∧ q = .inr () ∧ ∀ i, i < l.length → (lf m (lrd l i)).2 = 0)) := by
  refine loopO_rel (fun (a : Int × List (List UInt8)) (c : Int) => ∃ k : Nat, k ≤ l.length ∧ a = ((k : Int), rowN m l 0 k) ∧ c = (k : Int) ∧ ∀ i, i < k → (lf m (lrd l i)).2 = 0) _ (fun a => l.length - a.1.toNat) (fun a c h => ?_) ⟨0, Nat.zero_le _, rfl, rfl, fun i hi => absurd hi (Nat.not_lt_zero i)⟩
  obtain ⟨k, hk, rfl, rfl, h⟩ := h
  unfold g_slots_leaves_l0 g_ref_slotsFault_l0
  dsimp only
  by_cases hkl : k < l.length
  · rw [if_pos (natLt hkl), if_pos (natIn hkl), if_pos (natLt hkl), if_pos (natIn hkl), Int.toNat_natCast, lf_o, lf_r, Option.bind_some, Option.bind_some, w64_succ (by omega)]
    by_cases he : (lf m (lrd l k)).2 ≠ 0
    · rw [if_pos he, if_pos he]
      exact .inr ⟨_, _, rfl, rfl, .inl ⟨_, he, rfl, rfl⟩⟩
    · rw [if_neg he, if_neg he, if_pos (show room _ _ by simp only [room, rowN_len, List.length_cons, List.length_nil]; omega)]
      refine .inl ⟨_, _, rfl, rfl, ⟨k + 1, hkl, ?_, rfl, fun i hi => ?_⟩, ?_⟩
      · rw [rowN_step]; rfl
      · by_cases hik : i = k
        · subst hik; exact Classical.not_not.1 he
        · exact h i (by omega)
      · simp only [Int.toNat_natCast]; omega
  · have : k = l.length := by omega
    subst this
    rw [if_neg natNlt, if_neg natNlt]
    exact .inr ⟨_, _, rfl, rfl, .inr ⟨rfl, rfl, h⟩⟩
open Classical in
/-- The leaves, and the fault. -/
theorem leaves_eq (m : Int) (l : List GSlot) : ∃ e, g_ref_slotsFault m l = some e ∧ ((e ≠ 0 ∧ g_slots_leaves m l = some ([], e)) ∨ (e = 0 ∧ good m l ∧ (∃ k, k ≤ 6 ∧ l.length = 2 ^ k) ∧ g_slots_leaves m l = some (rowN m l 0 l.length, 0))) := by
  unfold g_ref_slotsFault g_slots_leaves g_slots_modes g_ref_badMode
  simp only [Option.bind_some, power_eq, whole_eq]
  by_cases hm : m = 1 ∨ m = 2
  · have hb : decide (m ≠ 1 ∧ m ≠ 2) = false := decide_eq_false (by omega)
    rw [decide_eq_true hm, hb]
    simp only [Bool.not_true, Bool.false_eq_true, if_false]
    by_cases hp : pw (l.length : Int)
    · rw [decide_eq_true hp]
      simp only [Bool.not_true, Bool.false_eq_true, if_false]
      obtain ⟨k, hk, hl⟩ := hp
      have hl : l.length = 2 ^ k := by omega
      obtain ⟨r, q, h1, h2, h3⟩ := leaves_loop m l (by rw [hl]; exact two_le hk)
      rw [h1, h2]
      rcases h3 with ⟨e, he, rfl, rfl⟩ | ⟨rfl, rfl, h⟩
      · exact ⟨e, rfl, .inl ⟨he, rfl⟩⟩
      · exact ⟨0, rfl, .inr ⟨rfl, ⟨hm, h⟩, ⟨k, hk, hl⟩, rfl⟩⟩
    · rw [decide_eq_false hp]
      exact ⟨1, rfl, .inl ⟨by decide, rfl⟩⟩
  · have hb : decide (m ≠ 1 ∧ m ≠ 2) = true := decide_eq_true (by omega)
    rw [decide_eq_false hm, hb]
    exact ⟨2, rfl, .inl ⟨by decide, rfl⟩⟩
theorem up_eq {m : Int} {l : List GSlot} (g : good m l) {j c : Nat} (hj : j + 1 ≤ 6) (hc : c * 2 ^ (j + 1) ≤ l.length) (h64 : c ≤ 64) : g_slots_up m (rowN m l j (2 * c)) = some (rowN m l (j + 1) c, 0) := by
  unfold g_slots_up
  obtain ⟨r, h1, rfl⟩ := loopO_times (step := g_slots_up_l0 m (rowN m l j (2 * c))) (σ := List (List UInt8)) c (fun k o => (((2 * k : Nat) : Int), o)) (fun k o => o = rowN m l (j + 1) k) (fun r => r = .inr (rowN m l (j + 1) c)) (fun k o hk ho => by
    subst ho
    unfold g_slots_up_l0
    dsimp only
    have e1 : w64 (((2 * k : Nat) : Int) + 1) = ((2 * k + 1 : Nat) : Int) := w64_succ (by omega)
    have e2 : w64 (((2 * k : Nat) : Int) + 2) = ((2 * (k + 1) : Nat) : Int) := by rw [w64_id (by omega)]; omega
    have hn := nd_pair (i := k) g hj (Nat.le_trans (Nat.mul_le_mul_right _ (by omega)) hc)
    rw [e1, e2, rowN_len, if_pos (by omega), if_pos (by omega), if_pos (by omega), Int.toNat_natCast, Int.toNat_natCast, rowN_get (by omega), rowN_get (by omega)]
    unfold g_slots_node
    rw [dg_o, Option.bind_some, hn, Option.bind_some]
    simp only [ne_eq, not_true_eq_false, if_false]
    rw [if_pos (show room _ _ by simp only [room, rowN_len, List.length_cons, List.length_nil]; omega)]
    exact .inl ⟨_, rfl, (rowN_step m l (j + 1) k).symm⟩) (fun o ho => by
    subst ho
    unfold g_slots_up_l0
    dsimp only
    rw [rowN_len, w64_succ (by omega), if_neg (by omega)]
    exact ⟨_, rfl, rfl⟩) (s := []) rfl
  rw [show (((2 * 0 : Nat)) : Int) = 0 from rfl] at h1
  rw [h1]
  rfl
theorem half_pow {k j : Nat} (h : j < k) : 2 ^ (k - j) = 2 * 2 ^ (k - (j + 1)) := by
  rw [show k - j = (k - (j + 1)) + 1 by omega, Nat.pow_succ']
theorem pow_back {k j : Nat} (h : j ≤ k) : 2 ^ (k - j) * 2 ^ j = 2 ^ k := by
  rw [← Nat.pow_add, show k - j + j = k by omega]
theorem Root_eq {m : Int} {l : List GSlot} (g : good m l) {k : Nat} (hk : k ≤ 6) (hl : l.length = 2 ^ k) (h : g_slots_leaves m l = some (rowN m l 0 l.length, 0)) : g_slots_Root m l = some (nd m l k 0, 0) := by
  unfold g_slots_Root
  rw [h, Option.bind_some]
  obtain ⟨r, h1, rfl⟩ := loopO_times (step := g_slots_Root_l0 m) (σ := Unit) k (fun j _ => (rowN m l j (2 ^ (k - j)), (0 : Int))) (fun _ _ => True) (fun r => r = (rowN m l k 1, (0 : Int))) (fun j u hj _ => by
    unfold g_slots_Root_l0
    dsimp only
    have h1 : 1 ≤ 2 ^ (k - (j + 1)) := Nat.one_le_two_pow
    have h2 : 2 ^ (k - (j + 1)) ≤ 64 := two_le (by omega)
    rw [rowN_len, half_pow hj, if_pos ⟨rfl, by omega⟩, up_eq g (by omega) (by rw [hl, pow_back (by omega)]; exact Nat.le_refl _) h2, Option.bind_some]
    exact .inl ⟨(), rfl, trivial⟩) (fun u _ => by
    unfold g_slots_Root_l0
    dsimp only
    rw [rowN_len, Nat.sub_self, if_neg (by simp)]
    exact ⟨_, rfl, rfl⟩) (s := ()) trivial
  rw [Nat.sub_zero, ← hl] at h1
  dsimp only at h1 ⊢
  rw [h1, Option.bind_some]
  simp only [ne_eq, not_true_eq_false, if_false]
  rw [if_pos (by rw [rowN_len]; decide), rowN_get (by decide)]
/-- A stretch of a list. -/
def seg {α : Type} (l : List α) (a n : Nat) : List α := (l.drop a).take n
theorem seg_len {α : Type} {l : List α} {a n : Nat} (h : a + n ≤ l.length) : (seg l a n).length = n := by
  unfold seg
  rw [List.length_take, List.length_drop]
  omega
theorem seg_one {α : Type} [Inhabited α] {l : List α} {a : Nat} (h : a < l.length) : lrd (seg l a 1) 0 = lrd l a := by
  simp [seg, lrd, h]
theorem seg_lo {α : Type} {l : List α} {a n : Nat} : cut (seg l a (2 * n)) 0 (n : Int) = seg l a n := by
  simp only [cut, seg, Int.toNat_zero, Int.toNat_natCast, List.drop_zero, Nat.sub_zero, List.take_take]
  congr 1
  omega
theorem seg_hi {α : Type} {l : List α} {a n : Nat} : cut (seg l a (2 * n)) (n : Int) ((2 * n : Nat) : Int) = seg l (a + n) n := by
  simp only [cut, seg, Int.toNat_natCast, List.drop_take, List.drop_drop, List.take_take]
  congr 1
  omega
theorem seg_all {α : Type} {l : List α} {a n : Nat} : cut l (a : Int) ((a + n : Nat) : Int) = seg l a n := by
  simp only [cut, seg, Int.toNat_natCast]
  congr 1
  omega
theorem rootOf_eq {m : Int} {l : List GSlot} (g : good m l) (hl : l.length ≤ 64) : ∀ j i fu, j ≤ 6 → j < fu → (i + 1) * 2 ^ j ≤ l.length → g_ref_rootOf fu m (seg l (i * 2 ^ j) (2 ^ j)) = some (nd m l j i)
  | 0, i, fu + 1, _, _, h => by
    have hi : i * 1 + 1 ≤ l.length := by omega
    unfold g_ref_rootOf g_ref_rootOf_b
    rw [Nat.pow_zero, seg_len hi, if_pos (show ((1 : Nat) : Int) = 1 from rfl), if_pos (by decide), seg_one (by omega), lf_r, Option.bind_some, Nat.mul_one]
    rfl
  | j + 1, i, fu + 1, hj, hfu, h => by
    have e : 2 ^ (j + 1) = 2 * 2 ^ j := Nat.pow_succ'
    have h1 : 1 ≤ 2 ^ j := Nat.one_le_two_pow
    have h3 := two_le (j := j) (by omega)
    have e1 : 2 * i * 2 ^ j = i * 2 ^ (j + 1) := by rw [e, Nat.mul_comm 2 i, Nat.mul_assoc]
    have e2 : (2 * i + 1) * 2 ^ j = i * 2 ^ (j + 1) + 2 ^ j := by rw [Nat.add_mul, e1, Nat.one_mul]
    have e3 : (i + 1) * 2 ^ (j + 1) = i * 2 ^ (j + 1) + 2 * 2 ^ j := by rw [Nat.add_mul, Nat.one_mul, e]
    have hlen : (seg l (i * 2 ^ (j + 1)) (2 ^ (j + 1))).length = 2 * 2 ^ j := by rw [seg_len (by omega), e]
    have hd : w64 (((2 * 2 ^ j : Nat) : Int).tdiv 2) = ((2 ^ j : Nat) : Int) := by
      rw [Int.tdiv_eq_ediv_of_nonneg (by omega), w64_id (by omega)]
      omega
    have r1 := rootOf_eq g hl j (2 * i) fu (by omega) (by omega) (by
      rw [Nat.add_mul, e1, Nat.one_mul]; omega)
    have r2 := rootOf_eq g hl j (2 * i + 1) fu (by omega) (by omega) (by
      rw [Nat.add_mul, e2, Nat.one_mul]; omega)
    rw [e1] at r1
    rw [e2] at r2
    unfold g_ref_rootOf g_ref_rootOf_b
    rw [hlen, hd, if_neg (by omega), if_pos (by omega), e, seg_lo, seg_hi, ← e, r1, Option.bind_some, if_pos (by omega), r2, Option.bind_some]
    unfold g_ref_joined
    rw [dg_r, Option.bind_some, Option.bind_some, nd_pair g hj h]
theorem g_law_SlotsRoots_true {x0 : Int} {x1 : List GSlot} (_q0 : okI x0) (_q1 : (okL 56 GSlot.ok) x1) : g_law_SlotsRoots x0 x1 = some true := by
  obtain ⟨e, h1, h2⟩ := leaves_eq x0 x1
  have key : ∃ r : List UInt8 × Int, g_slots_Root x0 x1 = some r ∧ g_ref_RootOf x0 x1 = some r := by
    rcases h2 with ⟨he, h2⟩ | ⟨rfl, g, ⟨k, hk, hl⟩, h2⟩
    · unfold g_slots_Root g_ref_RootOf
      rw [h1, h2, Option.bind_some, Option.bind_some, if_pos he]
      have : g_slots_Root_l0 x0 (([] : List (List UInt8)), e) = some (.inr ([], e)) := by
        unfold g_slots_Root_l0
        dsimp only
        rw [if_neg (fun q => he q.1)]
      rw [loopO_done this, Option.bind_some, if_pos he]
      exact ⟨_, rfl, rfl⟩
    · refine ⟨_, Root_eq g hk hl h2, ?_⟩
      unfold g_ref_RootOf
      have := rootOf_eq g (by rw [hl]; exact two_le hk) k 0 100000 hk (by omega) (by omega)
      rw [Nat.zero_mul, show seg x1 0 (2 ^ k) = x1 by unfold seg; rw [List.drop_zero, List.take_of_length_le (by omega)]] at this
      rw [h1, Option.bind_some, this]
      rfl
  obtain ⟨r, h3, h4⟩ := key
  unfold g_law_SlotsRoots
  rw [h3, h4]
  simp only [Option.bind_some, if_true, same_true]
end Go.Proofs.YtkaeboabpahemaaDoor.VM
