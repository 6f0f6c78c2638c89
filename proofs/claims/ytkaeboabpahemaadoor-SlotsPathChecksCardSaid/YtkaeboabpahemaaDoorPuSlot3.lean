/- Trees of slots: paths, and what checks them. -/
import Derived.Test.YtkaeboabpahemaaDoorPuSlot2
namespace Go.Proofs.YtkaeboabpahemaaDoor.VM
open Go Go.RowKit
/-- The other child. -/
def sib (x : Nat) : Nat := if x % 2 = 0 then x + 1 else x - 1
theorem sib_all : ∀ x : Fin 64, ixor (x.val : Int) 1 = ((sib x.val : Nat) : Int) := by decide +kernel
theorem sib_eq {x : Nat} (h : x < 64) : ixor (x : Int) 1 = ((sib x : Nat) : Int) := sib_all ⟨x, h⟩
theorem sib_lt {x c : Nat} (h : x < 2 * c) : sib x < 2 * c := by
  unfold sib
  split <;> omega
theorem tdiv_pow {i j : Nat} : (((i / 2 ^ j : Nat) : Int)).tdiv 2 = ((i / 2 ^ (j + 1) : Nat) : Int) := by
  rw [Nat.pow_succ, ← Nat.div_div_eq_div_mul]
  generalize i / 2 ^ j = q
  rfl
theorem w64_nat {n : Nat} (h : n ≤ 9223372036854775807) : w64 (n : Int) = (n : Int) := w64_id (by omega)
theorem w64_div {i n : Nat} (h : i ≤ 9223372036854775807) : w64 ((i / n : Nat) : Int) = ((i / n : Nat) : Int) := w64_nat (Nat.le_trans (Nat.div_le_self _ _) h)
/-- The path of slot i. -/
noncomputable def pathN (m : Int) (l : List GSlot) (i k : Nat) : List (List UInt8) := (List.range k).map fun t => nd m l t (sib (i / 2 ^ t))
theorem pathN_step (m : Int) (l : List GSlot) (i k : Nat) : pathN m l i (k + 1) = pathN m l i k ++ [nd m l k (sib (i / 2 ^ k))] := by simp [pathN, List.range_succ]
theorem pathN_len (m : Int) (l : List GSlot) (i k : Nat) : (pathN m l i k).length = k := by simp [pathN]
theorem div_lt {i k j : Nat} (h : i < 2 ^ k) (hj : j ≤ k) : i / 2 ^ j < 2 ^ (k - j) := by
  rw [Nat.div_lt_iff_lt_mul Nat.one_le_two_pow, pow_back hj]
  exact h
theorem Path_eq {m : Int} {l : List GSlot} (g : good m l) {k : Nat} (hk : k ≤ 6) (hl : l.length = 2 ^ k) (h : g_slots_leaves m l = some (rowN m l 0 l.length, 0)) {i : Nat} (hi : i < l.length) : g_slots_Path m l (i : Int) = some (pathN m l i k, 0) := by
  unfold g_slots_Path
  rw [h, Option.bind_some]
  simp only [ne_eq, not_true_eq_false, if_false]
  rw [if_neg (by omega)]
  obtain ⟨r, h1, rfl⟩ := loopO_times (step := g_slots_Path_l0 m) (σ := List (List UInt8)) k (fun j o => (((i / 2 ^ j : Nat) : Int), rowN m l j (2 ^ (k - j)), o)) (fun j o => o = pathN m l i j) (fun r => r = .inr (pathN m l i k)) (fun j o hj ho => by
    subst ho
    unfold g_slots_Path_l0
    dsimp only
    have h1 : 1 ≤ 2 ^ (k - (j + 1)) := Nat.one_le_two_pow
    have h2 : 2 ^ (k - (j + 1)) ≤ 64 := two_le (by omega)
    have h3 := half_pow hj
    have h4 := div_lt (j := j) (by rw [← hl]; exact hi) (by omega)
    have h5 : 2 ^ (k - j) ≤ 64 := two_le (by omega)
    have h6 := sib_lt (x := i / 2 ^ j) (c := 2 ^ (k - (j + 1))) (by omega)
    have h7 := two_le (j := j) (by omega)
    have h8 : (sib (i / 2 ^ j) + 1) * 2 ^ j ≤ l.length := by
      rw [hl, ← pow_back (k := k) (j := j) (by omega)]
      exact Nat.mul_le_mul_right _ (by omega)
    have h9 := nd_len g j _ (by omega) h8
    rw [rowN_len, if_pos (by omega), sib_eq (by omega), if_pos (by omega), Int.toNat_natCast, rowN_get (by omega), if_pos (show room _ _ by simp only [room, List.length_nil]; omega), if_pos (show room _ _ by simp only [room, pathN_len, List.length_cons, List.length_nil]; omega), letO_eq, h3, up_eq g (by omega) (by rw [hl, pow_back (by omega)]; exact Nat.le_refl _) h2, Option.bind_some]
    simp only [not_true_eq_false, if_false]
    have hk6 := two_le hk
    rw [tdiv_pow, w64_div (by omega)]
    exact .inl ⟨_, rfl, by rw [pathN_step]; rfl⟩) (fun o ho => by
    subst ho
    unfold g_slots_Path_l0
    dsimp only
    rw [rowN_len, Nat.sub_self, if_neg (by simp)]
    exact ⟨_, rfl, rfl⟩) (s := []) rfl
  rw [Nat.pow_zero, Nat.div_one, Nat.sub_zero, ← hl] at h1
  rw [h1]
  rfl
theorem PathOf_eq {m : Int} {l : List GSlot} (g : good m l) {k : Nat} (hk : k ≤ 6) (hl : l.length = 2 ^ k) (h : g_ref_slotsFault m l = some 0) {i : Nat} (hi : i < l.length) : g_ref_PathOf m l (i : Int) = some (pathN m l i k, 0) := by
  have hk6 := two_le hk
  unfold g_ref_PathOf
  rw [h, Option.bind_some]
  simp only [ne_eq, not_true_eq_false, if_false]
  rw [if_neg (by omega)]
  obtain ⟨r, h1, rfl⟩ := loopO_times (step := g_ref_PathOf_l0 m l (i : Int)) (σ := List (List UInt8)) k (fun j o => (((2 ^ j : Nat) : Int), o)) (fun j o => o = pathN m l i j) (fun r => r = pathN m l i k) (fun j o hj ho => by
    subst ho
    unfold g_ref_PathOf_l0
    dsimp only
    have h1 : 1 ≤ 2 ^ (k - (j + 1)) := Nat.one_le_two_pow
    have h3 := half_pow hj
    have h4 := div_lt (j := j) (by rw [← hl]; exact hi) (by omega)
    have h6 := sib_lt (x := i / 2 ^ j) (c := 2 ^ (k - (j + 1))) (by omega)
    have h7 := two_le (j := j) (by omega)
    have h8 : (sib (i / 2 ^ j) + 1) * 2 ^ j ≤ l.length := by
      rw [hl, ← pow_back (k := k) (j := j) (by omega)]
      exact Nat.mul_le_mul_right _ (by omega)
    have h10 : 1 ≤ 2 ^ j := Nat.one_le_two_pow
    have h11 : 2 ^ j < l.length := by
      rw [hl]
      exact Nat.pow_lt_pow_right (by decide) hj
    have hdl : i / 2 ^ j ≤ i := Nat.div_le_self _ _
    have h12 : sib (i / 2 ^ j) * 2 ^ j + 2 ^ j ≤ l.length := by rw [Nat.add_mul, Nat.one_mul] at h8; exact h8
    have e0 : w64 ((i : Int).tdiv ((2 ^ j : Nat) : Int)) = ((i / 2 ^ j : Nat) : Int) := by
      rw [show (i : Int).tdiv ((2 ^ j : Nat) : Int) = ((i / 2 ^ j : Nat) : Int) from rfl, w64_div (by omega)]
    have e1 : w64 (((sib (i / 2 ^ j) : Nat) : Int) * ((2 ^ j : Nat) : Int)) = ((sib (i / 2 ^ j) * 2 ^ j : Nat) : Int) := by
      rw [← Int.natCast_mul, w64_id (by omega)]
    have e2 : w64 (((sib (i / 2 ^ j) * 2 ^ j : Nat) : Int) + ((2 ^ j : Nat) : Int)) = ((sib (i / 2 ^ j) * 2 ^ j + 2 ^ j : Nat) : Int) := by
      rw [w64_id (by omega)]
      omega
    have e3 : w64 (((2 ^ j : Nat) : Int) * 2) = ((2 ^ (j + 1) : Nat) : Int) := by
      rw [w64_id (by omega), Nat.pow_succ]
      omega
    have hr := rootOf_eq g (by omega) j (sib (i / 2 ^ j)) 100000 (by omega) (by omega) h8
    rw [if_pos (by omega), if_pos (by omega), e0, sib_eq (by omega), e1, e2, if_pos (by omega), seg_all, hr, Option.bind_some, if_pos (show room _ _ by simp only [room, pathN_len, List.length_cons, List.length_nil]; omega), e3]
    exact .inl ⟨_, rfl, (pathN_step m l i j).symm⟩) (fun o ho => by
    subst ho
    unfold g_ref_PathOf_l0
    dsimp only
    rw [hl, if_neg (by omega)]
    exact ⟨_, rfl, rfl⟩) (s := []) rfl
  rw [Nat.pow_zero, show ((1 : Nat) : Int) = 1 from rfl] at h1
  rw [h1]
  rfl
theorem sameLists_true (a : List (List UInt8)) (h : a.length ≤ 140737488355328) : g_law_sameLists a a = some true := by
  unfold g_law_sameLists
  simp only [ne_eq, not_true_eq_false, if_false]
  obtain ⟨r, h1, rfl⟩ := loopO_times (step := g_law_sameLists_l0 a a) (σ := Unit) a.length (fun k _ => (k : Int)) (fun _ _ => True) (fun r => r = .inr ()) (fun k u hk _ => by
    unfold g_law_sameLists_l0
    dsimp only
    rw [if_pos (natLt hk), if_pos (natIn hk), if_pos (natIn hk), if_neg (by simp), w64_succ (by omega)]
    exact .inl ⟨(), rfl, trivial⟩) (fun u _ => by
    unfold g_law_sameLists_l0
    dsimp only
    rw [if_neg natNlt]
    exact ⟨_, rfl, rfl⟩) (s := ()) trivial
  rw [show ((0 : Nat) : Int) = 0 from rfl] at h1
  rw [h1]
  rfl
theorem g_law_SlotsPaths_true {x0 : Int} {x1 : List GSlot} {x2 : Int} (_q0 : okI x0) (_q1 : (okL 56 GSlot.ok) x1) (_q2 : okI x2) : g_law_SlotsPaths x0 x1 x2 = some true := by
  obtain ⟨e, h1, h2⟩ := leaves_eq x0 x1
  have key : ∃ r : List (List UInt8) × Int, g_slots_Path x0 x1 x2 = some r ∧ g_ref_PathOf x0 x1 x2 = some r ∧ r.1.length ≤ 6 := by
    rcases h2 with ⟨he, h2⟩ | ⟨rfl, g, ⟨k, hk, hl⟩, h2⟩
    · unfold g_slots_Path g_ref_PathOf
      rw [h1, h2, Option.bind_some, Option.bind_some, if_pos he, if_pos he]
      exact ⟨_, rfl, rfl, Nat.zero_le _⟩
    · by_cases hi : x2 < 0 ∨ x2 ≥ (x1.length : Int)
      · unfold g_slots_Path g_ref_PathOf
        rw [h1, h2, Option.bind_some, Option.bind_some]
        simp only [ne_eq, not_true_eq_false, if_false]
        rw [if_pos hi, if_pos hi]
        exact ⟨_, rfl, rfl, Nat.zero_le _⟩
      · obtain ⟨i, rfl⟩ := Int.eq_ofNat_of_zero_le (show 0 ≤ x2 by omega)
        refine ⟨_, Path_eq g hk hl h2 (by omega), PathOf_eq g hk hl h1 (by omega), ?_⟩
        rw [pathN_len]
        exact hk
  obtain ⟨r, h3, h4, h5⟩ := key
  unfold g_law_SlotsPaths
  rw [h3, h4]
  simp only [Option.bind_some, if_true, sameLists_true r.1 (by omega)]
/-! Checking a path -/
/-- One step up the tree. -/
noncomputable def climb1 (m : Int) (i : Nat) (path : List (List UInt8)) (j : Nat) (x : List UInt8) : List UInt8 × Int := dg m 2 (if (i / 2 ^ j) % 2 = 1 then [lrd path j, x] else [x, lrd path j])
noncomputable def climbN (m : Int) (i : Nat) (d : List UInt8) (path : List (List UInt8)) : Nat → Option (List UInt8)
  | 0 => some d
  | j + 1 => (climbN m i d path j).bind fun x => if (climb1 m i path j x).2 = 0 then some (climb1 m i path j x).1 else none
theorem climb_loop {m : Int} {k : Nat} (hk : k ≤ 6) {i : Nat} (hi : i < 2 ^ k) (d : List UInt8) (path : List (List UInt8)) (hp : path.length ≤ 140737488355328) : ∃ r, loopO (g_slots_CheckPath_l0 m path) (((2 ^ k : Nat) : Int), (i : Int), d, (0 : Int)) = some r ∧ ((r = .inl 10 ∧ (path.length > k ∨ path.length ≤ k ∧ climbN m i d path path.length = none)) ∨ (path.length ≤ k ∧ ∃ x, climbN m i d path path.length = some x ∧ r = .inr (((2 ^ (k - path.length) : Nat) : Int), x))) := by
  have hk6 := two_le hk
  have := loopO_times (step := g_slots_CheckPath_l0 m path) (σ := List UInt8) path.length (fun j x => (((2 ^ (k - j) : Nat) : Int), ((i / 2 ^ j : Nat) : Int), x, (j : Int))) (fun j x => j ≤ k ∧ climbN m i d path j = some x) (fun r => ((r = .inl 10 ∧ (path.length > k ∨ path.length ≤ k ∧ climbN m i d path path.length = none)) ∨ (path.length ≤ k ∧ ∃ x, climbN m i d path path.length = some x ∧ r = .inr (((2 ^ (k - path.length) : Nat) : Int), x)))) (fun j x hj h => ?_) (fun x h => ?_) (s := d) ⟨Nat.zero_le _, rfl⟩
  · rw [Nat.sub_zero, Nat.pow_zero, Nat.div_one, show ((0 : Nat) : Int) = 0 from rfl] at this
    exact this
  · obtain ⟨h1, h2⟩ := h
    unfold g_slots_CheckPath_l0
    dsimp only
    rw [if_pos (natLt hj), if_pos (natIn hj), Int.toNat_natCast]
    by_cases hjk : j = k
    · subst hjk
      rw [Nat.sub_self, Nat.pow_zero, if_pos (show ((1 : Nat) : Int) = 1 from rfl)]
      exact .inr ⟨_, rfl, .inl ⟨rfl, .inl hj⟩⟩
    · have h3 := half_pow (k := k) (j := j) (by omega)
      have h4 : 1 ≤ 2 ^ (k - (j + 1)) := Nat.one_le_two_pow
      have h5 : 2 ^ (k - j) ≤ 64 := two_le (by omega)
      rw [if_neg (by omega)]
      have hs : (if (((i / 2 ^ j : Nat) : Int)).tmod 2 = 1 then some (lrd path j, x) else some (x, lrd path j)).bind (fun j'4 => (g_slots_node m j'4.1 j'4.2).bind fun r'5 => if r'5.2 ≠ 0 then (some (.inr (.inl 10)) : Option ((Int × Int × List UInt8 × Int) ⊕ (Int ⊕ (Int × List UInt8)))) else some (.inl (w64 ((((2 ^ (k - j) : Nat) : Int)).tdiv 2), w64 ((((i / 2 ^ j : Nat) : Int)).tdiv 2), r'5.1, w64 ((j : Int) + 1)))) = if (climb1 m i path j x).2 ≠ 0 then some (.inr (.inl 10)) else some (.inl (((2 ^ (k - (j + 1)) : Nat) : Int), ((i / 2 ^ (j + 1) : Nat) : Int), (climb1 m i path j x).1, ((j + 1 : Nat) : Int))) := by
        have e1 : w64 ((((2 ^ (k - j) : Nat) : Int)).tdiv 2) = ((2 ^ (k - (j + 1)) : Nat) : Int) := by
          rw [h3, Int.tdiv_eq_ediv_of_nonneg (by omega), w64_id (by omega)]
          omega
        have e2 : w64 ((((i / 2 ^ j : Nat) : Int)).tdiv 2) = ((i / 2 ^ (j + 1) : Nat) : Int) := by
          rw [tdiv_pow, w64_div (by omega)]
        have e3 : (((i / 2 ^ j : Nat) : Int)).tmod 2 = ((i / 2 ^ j % 2 : Nat) : Int) := rfl
        rw [e1, e2, e3, w64_succ (by omega)]
        unfold climb1 g_slots_node
        by_cases hb : i / 2 ^ j % 2 = 1
        · rw [if_pos (by omega), if_pos hb, Option.bind_some, dg_o, Option.bind_some, Option.bind_some]
        · rw [if_neg (by omega), if_neg hb, Option.bind_some, dg_o, Option.bind_some, Option.bind_some]
      rw [hs]
      by_cases he : (climb1 m i path j x).2 = 0
      · rw [if_neg (Classical.not_not.2 he)]
        refine .inl ⟨_, rfl, by omega, ?_⟩
        unfold climbN
        rw [h2, Option.bind_some, if_pos he]
      · rw [if_pos he]
        refine .inr ⟨_, rfl, .inl ⟨rfl, ?_⟩⟩
        have hn : climbN m i d path (j + 1) = none := by
          unfold climbN
          rw [h2, Option.bind_some, if_neg he]
        have : ∀ t, climbN m i d path (j + 1 + t) = none := by
          intro t
          induction t with
          | zero => exact hn
          | succ t ih => show (climbN m i d path (j + 1 + t)).bind _ = none; rw [ih]; rfl
        have h6 := this (path.length - (j + 1))
        rw [show j + 1 + (path.length - (j + 1)) = path.length by omega] at h6
        by_cases h7 : path.length ≤ k
        · exact .inr ⟨h7, h6⟩
        · exact .inl (by omega)
  · unfold g_slots_CheckPath_l0
    dsimp only
    rw [if_neg natNlt]
    exact ⟨_, rfl, .inr ⟨h.1, _, h.2, rfl⟩⟩
theorem cut_init {α : Type} {l : List α} {n : Nat} : cut l 0 (n : Int) = l.take n := by
  simp only [cut, Int.toNat_zero, Int.toNat_natCast, List.drop_zero, Nat.sub_zero]
/-- What is climbed from the top: with a path of the right length. -/
theorem climbed_eq {m : Int} (i : Nat) (d : List UInt8) (path : List (List UInt8)) : ∀ (j fu : Nat), j < fu → j ≤ 6 → j ≤ path.length → ∃ r : List UInt8 × Bool, g_ref_climbed fu m ((2 ^ j : Nat) : Int) ((i % 2 ^ j : Nat) : Int) d (path.take j) = some r ∧ ((r.2 = true ∧ climbN m i d path j = some r.1) ∨ (r.2 = false ∧ climbN m i d path j = none))
  | 0, fu + 1, _, _, _ => by
    unfold g_ref_climbed g_ref_climbed_b
    rw [Nat.pow_zero, if_pos (show ((1 : Nat) : Int) = 1 from rfl)]
    exact ⟨_, rfl, .inl ⟨by simp, rfl⟩⟩
  | j + 1, fu + 1, hf, hj, hp => by
    obtain ⟨r, h1, h2⟩ := climbed_eq i d path j fu (by omega) (by omega) (by omega)
    have h3 := two_le (j := j) (by omega)
    have h4 : 1 ≤ 2 ^ j := Nat.one_le_two_pow
    have e : 2 ^ (j + 1) = 2 * 2 ^ j := Nat.pow_succ'
    have hl : (path.take (j + 1)).length = j + 1 := by rw [List.length_take]; omega
    have e1 : w64 ((((j + 1 : Nat)) : Int) - 1) = (j : Int) := by rw [w64_id (by omega)]; omega
    have e2 : w64 (((2 ^ (j + 1) : Nat) : Int).tdiv 2) = ((2 ^ j : Nat) : Int) := by
      rw [Int.tdiv_eq_ediv_of_nonneg (by omega), w64_id (by omega)]
      omega
    have e3 : ((i % 2 ^ (j + 1) : Nat) : Int).tmod ((2 ^ j : Nat) : Int) = ((i % 2 ^ j : Nat) : Int) := by
      have : i % 2 ^ (j + 1) % 2 ^ j = i % 2 ^ j := Nat.mod_mod_of_dvd _ ⟨2, by rw [Nat.pow_succ]⟩
      rw [← this]
      rfl
    have e4 : cut (path.take (j + 1)) 0 (j : Int) = path.take j := by
      rw [cut_init, List.take_take]
      congr 1
      omega
    have e5 : lrd (path.take (j + 1)) j = lrd path j := by
      unfold lrd
      rw [List.getD_eq_getElem?_getD, List.getD_eq_getElem?_getD, List.getElem?_take_of_lt (by omega)]
    have e6 : (((i % 2 ^ (j + 1) : Nat) : Int) ≥ ((2 ^ j : Nat) : Int)) ↔ (i / 2 ^ j) % 2 = 1 := by
      have a1 : i % 2 ^ (j + 1) = i % 2 ^ j + 2 ^ j * (i / 2 ^ j % 2) := by rw [Nat.pow_succ, Nat.mod_mul]
      have a2 : i % 2 ^ j < 2 ^ j := Nat.mod_lt _ (by omega)
      have a3 : i / 2 ^ j % 2 = 0 ∨ i / 2 ^ j % 2 = 1 := by omega
      rcases a3 with a3 | a3
      · rw [a3, Nat.mul_zero] at a1
        omega
      · rw [a3, Nat.mul_one] at a1
        omega
    unfold g_ref_climbed g_ref_climbed_b
    rw [hl, if_neg (by omega), if_neg (by omega), e1, if_pos (by omega), e2, if_pos (by omega), if_pos (by omega), e3, e4, h1, Option.bind_some, Int.toNat_natCast, e5]
    unfold climbN
    rcases h2 with ⟨h5, h6⟩ | ⟨h5, h6⟩
    · rw [h5, h6, Option.bind_some]
      simp only [Bool.not_true, Bool.false_eq_true, if_false, letO_eq]
      unfold climb1
      by_cases hb : (i / 2 ^ j) % 2 = 1
      · rw [if_pos (e6.2 hb), if_pos hb, Option.bind_some, dg_r, Option.bind_some]
        refine ⟨_, rfl, ?_⟩
        dsimp only
        by_cases he : (dg m 2 [lrd path j, r.1]).2 = 0
        · rw [if_pos he]; exact .inl ⟨decide_eq_true he, rfl⟩
        · rw [if_neg he]; exact .inr ⟨decide_eq_false he, rfl⟩
      · rw [if_neg (fun q => hb (e6.1 q)), if_neg hb, Option.bind_some, dg_r, Option.bind_some]
        refine ⟨_, rfl, ?_⟩
        dsimp only
        by_cases he : (dg m 2 [r.1, lrd path j]).2 = 0
        · rw [if_pos he]; exact .inl ⟨decide_eq_true he, rfl⟩
        · rw [if_neg he]; exact .inr ⟨decide_eq_false he, rfl⟩
    · rw [h5, h6]
      exact ⟨_, rfl, .inr ⟨rfl, rfl⟩⟩
/-- A path of another length. -/
theorem climbed_bad {m : Int} (d : List UInt8) : ∀ (j fu : Nat) (i : Nat) (path : List (List UInt8)), j < fu → j ≤ 6 → path.length ≤ 140737488355328 → j ≠ path.length → ∃ r : List UInt8 × Bool, g_ref_climbed fu m ((2 ^ j : Nat) : Int) (i : Int) d path = some r ∧ r.2 = false
  | 0, fu + 1, i, path, _, _, _, h => by
    unfold g_ref_climbed g_ref_climbed_b
    rw [Nat.pow_zero, if_pos (show ((1 : Nat) : Int) = 1 from rfl)]
    exact ⟨_, rfl, decide_eq_false (by omega)⟩
  | j + 1, fu + 1, i, path, hf, hj, hp, h => by
    have h3 := two_le (j := j) (by omega)
    have h4 : 1 ≤ 2 ^ j := Nat.one_le_two_pow
    have e : 2 ^ (j + 1) = 2 * 2 ^ j := Nat.pow_succ'
    unfold g_ref_climbed g_ref_climbed_b
    rw [if_neg (by omega)]
    by_cases h0 : (path.length : Int) = 0
    · rw [if_pos h0]
      exact ⟨_, rfl, rfl⟩
    · have e1 : w64 ((path.length : Int) - 1) = ((path.length - 1 : Nat) : Int) := by rw [w64_id (by omega)]; omega
      have e2 : w64 (((2 ^ (j + 1) : Nat) : Int).tdiv 2) = ((2 ^ j : Nat) : Int) := by
        rw [Int.tdiv_eq_ediv_of_nonneg (by omega), w64_id (by omega)]
        omega
      have hl : (path.take (path.length - 1)).length = path.length - 1 := by rw [List.length_take]; omega
      obtain ⟨r, h5, h6⟩ := climbed_bad (m := m) d j fu (i % 2 ^ j) (path.take (path.length - 1)) (by omega) (by omega) (by omega) (by omega)
      have e3 : (i : Int).tmod ((2 ^ j : Nat) : Int) = ((i % 2 ^ j : Nat) : Int) := rfl
      rw [if_neg h0, e1, if_pos (by omega), e2, if_pos (by omega), if_pos (by omega), e3, cut_init, h5, Option.bind_some, h6]
      exact ⟨_, rfl, rfl⟩
open Classical in
theorem g_law_SlotsPathChecks_true {x0 : Int} {x1 : List UInt8} {x2 : Int} {x3 : Int} {x4 : GSlot} {x5 : List (List UInt8)} (_q0 : okI x0) (_q1 : (okL 1 okA) x1) (_q2 : okI x2) (_q3 : okI x3) (_q4 : GSlot.ok x4) (q5 : (okL 24 (okL 1 okA)) x5) : g_law_SlotsPathChecks x0 x1 x2 x3 x4 x5 = some true := by
  have hl5 : x5.length ≤ 140737488355328 := by
    have := q5.1
    simp only [reachBytes] at this
    omega
  have key : ∃ r : Int, g_slots_CheckPath x0 x1 x2 x3 x4 x5 = some r ∧ g_ref_PathFault x0 x1 x2 x3 x4 x5 = some r := by
    unfold g_slots_CheckPath g_ref_PathFault g_slots_modes g_ref_badMode
    simp only [Option.bind_some, power_eq, whole_eq, lf_o, lf_r]
    by_cases hm : x0 = 1 ∨ x0 = 2
    · have hb : decide (x0 ≠ 1 ∧ x0 ≠ 2) = false := decide_eq_false (by omega)
      rw [decide_eq_true hm, hb]
      simp only [Bool.not_true, Bool.false_eq_true, if_false]
      by_cases hp : pw x2
      · rw [decide_eq_true hp]
        simp only [Bool.not_true, Bool.false_eq_true, if_false]
        by_cases hi : x3 < 0 ∨ x3 ≥ x2
        · rw [if_pos hi, if_pos hi]
          exact ⟨_, rfl, rfl⟩
        · rw [if_neg hi, if_neg hi]
          by_cases he : (lf x0 x4).2 ≠ 0
          · rw [if_pos he, if_pos he]
            exact ⟨_, rfl, rfl⟩
          · rw [if_neg he, if_neg he]
            obtain ⟨k, hk, rfl⟩ := hp
            obtain ⟨i, rfl⟩ := Int.eq_ofNat_of_zero_le (show 0 ≤ x3 by omega)
            have hik : i < 2 ^ k := by omega
            obtain ⟨r, h1, h2⟩ := climb_loop (m := x0) hk hik (lf x0 x4).1 x5 hl5
            rw [h1]
            by_cases hlen : k = x5.length
            · obtain ⟨q, h3, h4⟩ := climbed_eq (m := x0) i (lf x0 x4).1 x5 k 100000 (by omega) hk (by omega)
              rw [Nat.mod_eq_of_lt hik, hlen, List.take_length] at h3
              rw [hlen] at h4
              rw [hlen, h3, Option.bind_some, Option.bind_some]
              rcases h4 with ⟨h5, h6⟩ | ⟨h5, h6⟩
              · rcases h2 with ⟨rfl, h7 | ⟨_, h7⟩⟩ | ⟨_, x, h7, rfl⟩
                · omega
                · rw [h6] at h7; cases h7
                · rw [h6] at h7
                  cases h7
                  rw [h5, hlen, Nat.sub_self]
                  unfold g_bytes_Equal
                  by_cases hx : q.1 = x1
                  · simp [hx]
                  · simp [hx]
              · rcases h2 with ⟨rfl, _⟩ | ⟨_, x, h7, rfl⟩
                · rw [h5]
                  exact ⟨10, rfl, by simp⟩
                · rw [h6] at h7; cases h7
            · obtain ⟨q, h3, h4⟩ := climbed_bad (m := x0) (lf x0 x4).1 k 100000 i x5 (by omega) hk hl5 hlen
              rw [h3, Option.bind_some, Option.bind_some, h4]
              rcases h2 with ⟨rfl, _⟩ | ⟨h8, x, h7, rfl⟩
              · exact ⟨10, rfl, by simp⟩
              · have : 2 * 1 ≤ 2 ^ (k - x5.length) := by
                  have h9 := half_pow (k := k - x5.length) (j := 0) (by omega)
                  rw [Nat.sub_zero] at h9
                  have : 1 ≤ 2 ^ (k - x5.length - (0 + 1)) := Nat.one_le_two_pow
                  omega
                refine ⟨10, ?_, by simp⟩
                dsimp only
                rw [if_pos (by omega)]
                rfl
      · rw [decide_eq_false hp]
        exact ⟨_, rfl, rfl⟩
    · have hb : decide (x0 ≠ 1 ∧ x0 ≠ 2) = true := decide_eq_true (by omega)
      rw [decide_eq_false hm, hb]
      exact ⟨_, rfl, rfl⟩
  obtain ⟨r, h1, h2⟩ := key
  unfold g_law_SlotsPathChecks
  rw [h1, h2]
  simp
end Go.Proofs.YtkaeboabpahemaaDoor.VM
