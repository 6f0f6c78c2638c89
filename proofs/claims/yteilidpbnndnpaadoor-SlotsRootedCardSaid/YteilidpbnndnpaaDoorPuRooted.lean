/- Words and rules that the proof uses. -/
import Derived.Test.YteilidpbnndnpaaDoorPuSlot1
namespace Go.Proofs.YteilidpbnndnpaaDoor.VM
open Go Go.RowKit
theorem loop_all {τ β : Type} {step : τ → Option (τ ⊕ β)} (n : Nat) (enc : Nat → τ) (p : Nat → Bool) (bad fin : β) (hs : ∀ k, k < n → step (enc k) = some (if p k = true then .inl (enc (k + 1)) else .inr bad)) (he : step (enc n) = some (.inr fin)) :
  loopO step (enc 0) = some (if (List.range n).all p = true then fin else bad) := by
 have key : ∀ m k, k + m = n → loopO step (enc k) = some (if ((List.range m).all fun i => p (k + i)) = true then fin else bad) := by
  intro m
  induction m with
  | zero => intro k hk; rw [show k = n by omega, loopO_done he]; rfl
  | succ m ih =>
   intro k hk
   have h := hs k (by omega)
   by_cases hp : p k = true
   ·rw [if_pos hp] at h
    rw [loopO_next h, ih (k + 1) (by omega), List.range_succ_eq_map, List.all_cons, show p (k + 0) = true from hp, Bool.true_and, List.all_map]
    have : (fun i => p (k + 1 + i)) = (fun i => p (k + i)) ∘ Nat.succ := by
     funext i
     show p (k + 1 + i) = p (k + (i + 1))
     rw [show k + 1 + i = k + (i + 1) by omega]
    rw [this]
   ·rw [if_neg hp] at h
    rw [loopO_done h, List.range_succ_eq_map, List.all_cons, show p (k + 0) = false from Bool.eq_false_iff.2 hp, Bool.false_and, if_neg (by decide)]
 have := key n 0 (by omega)
 simpa using this
def cntB (l : List Bool) : Nat := l.countP id
theorem count_loop {l : List Bool} (hl : l.length ≤ 64) : g_ref_count l = some ((cntB l : Nat) : Int) := by
 obtain ⟨y, h1, h2⟩ := loopO_times (step := g_ref_count_l0 l) l.length (fun k (n : Int) => (n, (k : Int))) (fun k n => n = ((cntB (l.take k) : Nat) : Int) ∧ k ≤ l.length) (fun y => y = ((cntB l : Nat) : Int)) (fun k n hk ⟨hn, _⟩ => .inl (by
  have hc : cntB (l.take k) ≤ k := Nat.le_trans List.countP_le_length (by rw [List.length_take]; omega)
  have hs : cntB (l.take (k + 1)) = cntB (l.take k) + if lrd l k = true then 1 else 0 := by
   unfold cntB
   rw [take_step hk, List.countP_append, List.countP_singleton]
   rfl
  unfold g_ref_count_l0
  dsimp only
  rw [if_pos (natLt hk), if_pos (natIn hk), Int.toNat_natCast, w64_succ (by omega), hs]
  by_cases h : lrd l k = true
  ·rw [if_pos h, if_pos h, hn, w64_succ (by omega)]
   exact ⟨_, rfl, rfl, by omega⟩
  ·rw [if_neg h, if_neg h, hn]
   exact ⟨_, rfl, rfl, by omega⟩)) (fun n ⟨hn, _⟩ => ⟨n, by
  unfold g_ref_count_l0
  dsimp only
  rw [if_neg natNlt], by rw [hn, List.take_length]⟩) (s := (0 : Int)) ⟨rfl, Nat.zero_le _⟩
 unfold g_ref_count
 rw [show ((0 : Int), (0 : Int)) = ((0 : Int), ((0 : Nat) : Int)) from rfl, h1, Option.bind_some, h2]
theorem some_eq {l : List Bool} (hl : l.length ≤ 64) : g_slots_some l = some (decide (cntB l ≠ 0)) := by
 have h := loop_all (step := g_slots_some_l0 l) l.length (fun k => (k : Int)) (fun k => !lrd l k) (.inl true) (.inr ()) (fun k hk => by
  unfold g_slots_some_l0
  dsimp only
  rw [if_pos (natLt hk), if_pos (natIn hk), Int.toNat_natCast, w64_succ (by omega)]
  cases lrd l k <;> rfl) (by
  unfold g_slots_some_l0
  dsimp only
  rw [if_neg natNlt])
 unfold g_slots_some
 rw [show ((0 : Int)) = ((0 : Nat) : Int) from rfl, h, Option.bind_some]
 have hall : ((List.range l.length).all fun k => !lrd l k) = true ↔ cntB l = 0 := by
  unfold cntB
  rw [List.countP_eq_zero, List.all_eq_true]
  constructor
  ·intro q x hx
   obtain ⟨j, hj, rfl⟩ := mem_lrd hx
   have := q j (List.mem_range.2 hj)
   simpa using this
  ·intro q k hk
   have := q _ (lrd_mem (List.mem_range.1 hk))
   simpa using this
 by_cases hz : cntB l = 0
 ·rw [if_pos (hall.2 hz), decide_eq_false (fun q => q hz)]
 ·rw [if_neg (fun q => hz (hall.1 q)), decide_eq_true hz]
def restN : Nat → List Bool → Nat
 | 0, l => if cntB l = 0 then 1 else 0
 | j + 1, l => if cntB l = 0 then 1 else restN j (l.take (2 ^ j)) + restN j (l.drop (2 ^ j))
theorem restN_zero {j : Nat} {l : List Bool} (h : cntB l = 0) : restN j l = 1 := by
 cases j <;> (unfold restN; rw [if_pos h])
theorem restN_le : ∀ (j : Nat) (l : List Bool), restN j l ≤ 2 ^ j
 | 0, l => by
  unfold restN
  split <;> decide
 | j + 1, l => by
  unfold restN
  have h1 := restN_le j (l.take (2 ^ j))
  have h2 := restN_le j (l.drop (2 ^ j))
  have h3 : 1 ≤ 2 ^ j := Nat.one_le_two_pow
  rw [Nat.pow_succ]
  split <;> omega
theorem half64 {j : Nat} (hj : j + 1 ≤ 6) : w64 ((((2 ^ (j + 1) : Nat)) : Int).tdiv 2) = ((2 ^ j : Nat) : Int) ∧ 2 ^ (j + 1) = 2 * 2 ^ j ∧ 2 ^ j ≤ 32 := by
 have h1 : 2 ^ j ≤ 32 := Nat.pow_le_pow_right (n := 2) (by decide) (show j ≤ 5 by omega)
 have h2 : 2 ^ (j + 1) = 2 * 2 ^ j := by rw [Nat.pow_succ, Nat.mul_comm]
 refine ⟨?_, h2, h1⟩
 rw [h2]
 generalize 2 ^ j = x at h1
 rw [Int.tdiv_eq_ediv_of_nonneg (by omega), w64_id (by omega)]
 omega
theorem cut_lo {α : Type} {l : List α} {n : Nat} : cut l (0 : Int) (n : Int) = l.take n := by
 show (l.drop 0).take ((n : Int).toNat - 0) = _
 rw [List.drop_zero, Int.toNat_natCast, Nat.sub_zero]
theorem cut_hi {α : Type} {l : List α} {n : Nat} : cut l (n : Int) (l.length : Int) = l.drop n := by
 show (l.drop (n : Int).toNat).take ((l.length : Int).toNat - (n : Int).toNat) = _
 rw [Int.toNat_natCast, Int.toNat_natCast, List.take_of_length_le (by rw [List.length_drop]; omega)]
theorem cnt_split (l : List Bool) (n : Nat) : cntB l = cntB (l.take n) + cntB (l.drop n) := by
 unfold cntB
 rw [← List.countP_append, List.take_append_drop]
theorem rests_eq : ∀ (j fu : Nat) (l : List Bool), j ≤ 6 → j < fu → l.length = 2 ^ j → g_ref_rests fu l = some ((restN j l : Nat) : Int) := by
 intro j
 induction j with
 | zero =>
  intro fu l _ hf hl
  obtain ⟨f, rfl⟩ : ∃ f, fu = f + 1 := ⟨fu - 1, by omega⟩
  have hl1 : l.length = 1 := hl
  unfold g_ref_rests g_ref_rests_b restN
  rw [count_loop (by omega), Option.bind_some]
  by_cases h : cntB l = 0
  ·rw [if_pos (by omega), if_pos h]
   rfl
  ·rw [if_neg (by omega), if_neg h, if_pos (by omega)]
   rfl
 | succ j ih =>
  intro fu l hj hf hl
  obtain ⟨f, rfl⟩ : ∃ f, fu = f + 1 := ⟨fu - 1, by omega⟩
  obtain ⟨hw, h2, h32⟩ := half64 hj
  have hpos : 1 ≤ 2 ^ j := Nat.one_le_two_pow
  unfold g_ref_rests g_ref_rests_b restN
  rw [count_loop (by omega), Option.bind_some, hl, hw]
  by_cases h : cntB l = 0
  ·rw [if_pos (by omega), if_pos h]
   rfl
  ·have a1 := restN_le j (l.take (2 ^ j))
   have a2 := restN_le j (l.drop (2 ^ j))
   rw [if_neg (by omega), if_neg h, if_neg (by omega), if_pos (by omega), cut_lo, ih f _ (by omega) (by omega) (by rw [List.length_take]; omega), Option.bind_some, if_pos (by omega), ← hl, cut_hi, ih f _ (by omega) (by omega) (by rw [List.length_drop]; omega), Option.bind_some, w64_id (by omega)]
   rfl
noncomputable def unc : Nat → Int → List Bool → List GSlot → List (List UInt8) → List UInt8 × Bool
 | 0, m, l, O, R => if cntB l = 0 then (lrd R 0, true) else ((lf m (lrd O 0)).1, decide ((lf m (lrd O 0)).2 = 0))
 | j + 1, m, l, O, R => if cntB l = 0 then (lrd R 0, true) else
   if (unc j m (l.take (2 ^ j)) (O.take (cntB (l.take (2 ^ j)))) (R.take (restN j (l.take (2 ^ j))))).2 = false ∨ (unc j m (l.drop (2 ^ j)) (O.drop (cntB (l.take (2 ^ j)))) (R.drop (restN j (l.take (2 ^ j))))).2 = false then ([], false)
   else ((dg m 2 [(unc j m (l.take (2 ^ j)) (O.take (cntB (l.take (2 ^ j)))) (R.take (restN j (l.take (2 ^ j))))).1, (unc j m (l.drop (2 ^ j)) (O.drop (cntB (l.take (2 ^ j)))) (R.drop (restN j (l.take (2 ^ j))))).1]).1, decide ((dg m 2 [(unc j m (l.take (2 ^ j)) (O.take (cntB (l.take (2 ^ j)))) (R.take (restN j (l.take (2 ^ j))))).1, (unc j m (l.drop (2 ^ j)) (O.drop (cntB (l.take (2 ^ j)))) (R.drop (restN j (l.take (2 ^ j))))).1]).2 = 0))
theorem ref_unc {m : Int} : ∀ (j fu : Nat) (l : List Bool) (O : List GSlot) (R : List (List UInt8)), j ≤ 6 → j < fu → l.length = 2 ^ j → O.length = cntB l → R.length = restN j l → g_ref_uncovered fu m l ⟨O, R⟩ = some (unc j m l O R) := by
 intro j
 induction j with
 | zero =>
  intro fu l O R _ hf hl hO hR
  obtain ⟨f, rfl⟩ : ∃ f, fu = f + 1 := ⟨fu - 1, by omega⟩
  have hl1 : l.length = 1 := hl
  unfold g_ref_uncovered g_ref_uncovered_b unc
  rw [count_loop (by omega), Option.bind_some]
  dsimp only
  by_cases h : cntB l = 0
  ·rw [restN_zero h] at hR
   rw [if_pos (by omega), if_pos h, if_pos (by omega)]
  ·rw [if_neg (by omega), if_neg h, if_pos (by omega), if_pos (by omega), lf_r, Option.bind_some]
 | succ j ih =>
  intro fu l O R hj hf hl hO hR
  obtain ⟨f, rfl⟩ : ∃ f, fu = f + 1 := ⟨fu - 1, by omega⟩
  obtain ⟨hw, h2, h32⟩ := half64 hj
  have hpos : 1 ≤ 2 ^ j := Nat.one_le_two_pow
  have hl1 : (l.take (2 ^ j)).length = 2 ^ j := by rw [List.length_take]; omega
  have hl2 : (l.drop (2 ^ j)).length = 2 ^ j := by rw [List.length_drop]; omega
  have hcs := cnt_split l (2 ^ j)
  unfold g_ref_uncovered g_ref_uncovered_b unc
  rw [count_loop (by omega), Option.bind_some]
  dsimp only
  by_cases h : cntB l = 0
  ·rw [restN_zero h] at hR
   rw [if_pos (by omega), if_pos h, if_pos (by omega)]
  ·have hRs : R.length = restN j (l.take (2 ^ j)) + restN j (l.drop (2 ^ j)) := by
    rw [hR]
    conv => lhs; unfold restN
    rw [if_neg h]
   have hhalf : (0 : Int) ≤ ((2 ^ j : Nat) : Int) ∧ ((2 ^ j : Nat) : Int) ≤ (l.length : Int) := by rw [hl]; omega
   have hn : (0 : Int) ≤ ((cntB (l.take (2 ^ j)) : Nat) : Int) ∧ ((cntB (l.take (2 ^ j)) : Nat) : Int) ≤ (O.length : Int) := by omega
   have hk : (0 : Int) ≤ ((restN j (l.take (2 ^ j)) : Nat) : Int) ∧ ((restN j (l.take (2 ^ j)) : Nat) : Int) ≤ (R.length : Int) := by omega
   have hw' : w64 ((l.length : Int).tdiv 2) = ((2 ^ j : Nat) : Int) := by rw [hl]; exact hw
   rw [if_neg (by omega), if_neg h, if_neg (by omega), hw', if_pos hhalf, cut_lo, count_loop (by omega), Option.bind_some, if_pos hhalf, rests_eq j 100000 _ (by omega) (by omega) hl1, Option.bind_some, if_pos hhalf, if_pos hn, if_pos hk, cut_lo, cut_lo]
   have e1 := ih f (l.take (2 ^ j)) (O.take (cntB (l.take (2 ^ j)))) (R.take (restN j (l.take (2 ^ j)))) (by omega) (by omega) hl1 (by rw [List.length_take]; omega) (by rw [List.length_take]; omega)
   have e2 := ih f (l.drop (2 ^ j)) (O.drop (cntB (l.take (2 ^ j)))) (R.drop (restN j (l.take (2 ^ j)))) (by omega) (by omega) hl2 (by rw [List.length_drop]; omega) (by rw [List.length_drop]; omega)
   have e1' : g_ref_uncovered f m (l.take (2 ^ j)) { { GCover.zero with Open := O.take (cntB (l.take (2 ^ j))) } with Rest := R.take (restN j (l.take (2 ^ j))) } = _ := e1
   rw [e1', Option.bind_some, if_pos hhalf, if_pos hn, if_pos hk, cut_hi, cut_hi, cut_hi]
   have e2' : g_ref_uncovered f m (l.drop (2 ^ j)) { { GCover.zero with Open := O.drop (cntB (l.take (2 ^ j))) } with Rest := R.drop (restN j (l.take (2 ^ j))) } = _ := e2
   rw [e2', Option.bind_some, dg_r]
   generalize unc j m (l.take (2 ^ j)) (O.take (cntB (l.take (2 ^ j)))) (R.take (restN j (l.take (2 ^ j)))) = a
   generalize unc j m (l.drop (2 ^ j)) (O.drop (cntB (l.take (2 ^ j)))) (R.drop (restN j (l.take (2 ^ j)))) = b
   obtain ⟨a1, a2⟩ := a
   obtain ⟨b1, b2⟩ := b
   cases a2 <;> cases b2 <;> rfl
def Built (m : Int) (j : Nat) (l : List Bool) (O : List GSlot) (R : List (List UInt8)) (r : List UInt8 × Bool × GCover) : Prop :=
 (cntB l ≤ O.length ∧ restN j l ≤ R.length ∧ (unc j m l (O.take (cntB l)) (R.take (restN j l))).2 = true → r = ((unc j m l (O.take (cntB l)) (R.take (restN j l))).1, true, ⟨O.drop (cntB l), R.drop (restN j l)⟩)) ∧
 (¬ (cntB l ≤ O.length ∧ restN j l ≤ R.length ∧ (unc j m l (O.take (cntB l)) (R.take (restN j l))).2 = true) → r.2.1 = false)
theorem Built.yes {m : Int} {j : Nat} {l : List Bool} {O : List GSlot} {R : List (List UInt8)} {r : List UInt8 × Bool × GCover} (h : Built m j l O R r) (ht : r.2.1 = true) : (cntB l ≤ O.length ∧ restN j l ≤ R.length ∧ (unc j m l (O.take (cntB l)) (R.take (restN j l))).2 = true) ∧ r = ((unc j m l (O.take (cntB l)) (R.take (restN j l))).1, true, ⟨O.drop (cntB l), R.drop (restN j l)⟩) := by
 by_cases q : cntB l ≤ O.length ∧ restN j l ≤ R.length ∧ (unc j m l (O.take (cntB l)) (R.take (restN j l))).2 = true
 ·exact ⟨q, h.1 q⟩
 ·rw [h.2 q] at ht
  cases ht
theorem take_first {α : Type} [Inhabited α] {l : List α} {n : Nat} (h : 0 < n) : lrd (l.take n) 0 = lrd l 0 := by
 cases l with
 | nil => rw [List.take_nil]
 | cons x l =>
  cases n with
  | zero => omega
  | succ n => rfl
theorem unc_open {m : Int} {j : Nat} {l : List Bool} {O : List GSlot} {R : List (List UInt8)} (h : cntB l = 0) : unc j m l O R = (lrd R 0, true) := by
 cases j <;> (unfold unc; rw [if_pos h])
theorem build_eq {m : Int} : ∀ (j fu : Nat) (l : List Bool) (O : List GSlot) (R : List (List UInt8)), j ≤ 6 → j < fu → l.length = 2 ^ j → ∃ r, g_slots_build_i0 fu m l ⟨O, R⟩ = some r ∧ Built m j l O R r := by
 -- what isn't open at all
 have hnone : ∀ (j : Nat) (l : List Bool) (O : List GSlot) (R : List (List UInt8)), cntB l = 0 → ∃ r, (if (R.length : Int) = 0 then some ([], false, (⟨O, R⟩ : GCover)) else if 0 < R.length then if (0 : Int) ≤ 1 ∧ (1 : Int) ≤ (R.length : Int) then some (lrd R 0, true, { (⟨O, R⟩ : GCover) with Rest := cut R (1 : Int) (R.length : Int) }) else none else none) = some r ∧ Built m j l O R r := by
  intro j l O R h
  by_cases hR : R.length = 0
  ·rw [if_pos (by omega)]
   refine ⟨_, rfl, fun q => ?_, fun _ => rfl⟩
   rw [restN_zero h] at q
   omega
  ·rw [if_neg (by omega), if_pos (by omega), if_pos (by omega)]
   refine ⟨_, rfl, fun _ => ?_, fun q => absurd ⟨?_, ?_, ?_⟩ q⟩
   ·rw [unc_open h, restN_zero h, h, take_first (by decide)]
    have : cut R (1 : Int) (R.length : Int) = R.drop 1 := cut_hi (n := 1)
    rw [this]
    rfl
   ·omega
   ·rw [restN_zero h]; omega
   ·rw [unc_open h]
 intro j
 induction j with
 | zero =>
  intro fu l O R _ hf hl
  obtain ⟨f, rfl⟩ : ∃ f, fu = f + 1 := ⟨fu - 1, by omega⟩
  have hl1 : l.length = 1 := hl
  unfold g_slots_build_i0 g_slots_build_i0_b
  rw [some_eq (by omega), Option.bind_some]
  dsimp only
  by_cases h : cntB l = 0
  ·rw [if_pos (by rw [decide_eq_false (fun q => q h)]; rfl)]
   exact hnone 0 l O R h
  ·have hc1 : cntB l = 1 := by
    have : cntB l ≤ l.length := List.countP_le_length
    omega
   have hr0 : restN 0 l = 0 := by unfold restN; rw [if_neg h]
   have hu : ∀ R', unc 0 m l (O.take 1) R' = ((lf m (lrd O 0)).1, decide ((lf m (lrd O 0)).2 = 0)) := fun R' => by
    unfold unc
    rw [if_neg h, take_first (by decide)]
   rw [if_neg (by rw [decide_eq_true h]; decide), if_pos (by omega)]
   by_cases hO : O.length = 0
   ·rw [if_pos (by omega)]
    refine ⟨_, rfl, fun q => ?_, fun _ => rfl⟩
    omega
   ·rw [if_neg (by omega), if_pos (by omega), if_pos (by omega), lf_o, Option.bind_some]
    have hcut : cut O (1 : Int) (O.length : Int) = O.drop 1 := cut_hi (n := 1)
    refine ⟨_, rfl, fun q => ?_, fun q => ?_⟩
    ·have q3 := q.2.2
     rw [hc1, hu] at q3 ⊢
     have q4 : decide ((lf m (lrd O 0)).2 = 0) = true := q3
     rw [hr0, hcut, q4]
     rfl
    ·rw [hc1, hr0, hu] at q
     refine Bool.eq_false_iff.2 fun q2 => q ⟨by omega, Nat.zero_le _, q2⟩
 | succ j ih =>
  intro fu l O R hj hf hl
  obtain ⟨f, rfl⟩ : ∃ f, fu = f + 1 := ⟨fu - 1, by omega⟩
  obtain ⟨hw, h2, h32⟩ := half64 hj
  have hpos : 1 ≤ 2 ^ j := Nat.one_le_two_pow
  have hl1 : (l.take (2 ^ j)).length = 2 ^ j := by rw [List.length_take]; omega
  have hl2 : (l.drop (2 ^ j)).length = 2 ^ j := by rw [List.length_drop]; omega
  have hcs := cnt_split l (2 ^ j)
  have hw' : w64 ((l.length : Int).tdiv 2) = ((2 ^ j : Nat) : Int) := by rw [hl]; exact hw
  have hhalf : (0 : Int) ≤ ((2 ^ j : Nat) : Int) ∧ ((2 ^ j : Nat) : Int) ≤ (l.length : Int) := by rw [hl]; omega
  unfold g_slots_build_i0 g_slots_build_i0_b
  rw [some_eq (by omega), Option.bind_some]
  dsimp only
  by_cases h : cntB l = 0
  ·rw [if_pos (by rw [decide_eq_false (fun q => q h)]; rfl)]
   exact hnone (j + 1) l O R h
  ·have hrs : restN (j + 1) l = restN j (l.take (2 ^ j)) + restN j (l.drop (2 ^ j)) := by
    conv => lhs; unfold restN
    rw [if_neg h]
   obtain ⟨c1, hc1⟩ : ∃ c, c = cntB (l.take (2 ^ j)) := ⟨_, rfl⟩
   obtain ⟨c2, hc2⟩ : ∃ c, c = cntB (l.drop (2 ^ j)) := ⟨_, rfl⟩
   obtain ⟨k1, hk1⟩ : ∃ k, k = restN j (l.take (2 ^ j)) := ⟨_, rfl⟩
   obtain ⟨k2, hk2⟩ : ∃ k, k = restN j (l.drop (2 ^ j)) := ⟨_, rfl⟩
   rw [← hc1, ← hc2] at hcs
   rw [← hk1, ← hk2] at hrs
   -- the whole by its halves
   have hu : unc (j + 1) m l (O.take (cntB l)) (R.take (restN (j + 1) l)) =
     if (unc j m (l.take (2 ^ j)) (O.take c1) (R.take k1)).2 = false ∨ (unc j m (l.drop (2 ^ j)) ((O.drop c1).take c2) ((R.drop k1).take k2)).2 = false then ([], false)
     else ((dg m 2 [(unc j m (l.take (2 ^ j)) (O.take c1) (R.take k1)).1, (unc j m (l.drop (2 ^ j)) ((O.drop c1).take c2) ((R.drop k1).take k2)).1]).1, decide ((dg m 2 [(unc j m (l.take (2 ^ j)) (O.take c1) (R.take k1)).1, (unc j m (l.drop (2 ^ j)) ((O.drop c1).take c2) ((R.drop k1).take k2)).1]).2 = 0)) := by
    conv => lhs; unfold unc
    rw [if_neg h, ← hc1, ← hk1, hcs, hrs, List.take_take, List.take_take, Nat.min_eq_left (Nat.le_add_right _ _), Nat.min_eq_left (Nat.le_add_right _ _), List.drop_take, List.drop_take, Nat.add_sub_cancel_left, Nat.add_sub_cancel_left]
   rw [if_neg (by rw [decide_eq_true h]; decide), if_neg (by omega), hw', if_pos hhalf, cut_lo]
   obtain ⟨r3, e3, b3⟩ := ih f (l.take (2 ^ j)) O R (by omega) (by omega) hl1
   unfold Built at b3
   rw [← hc1, ← hk1] at b3
   rw [e3, Option.bind_some]
   by_cases t3 : r3.2.1 = true
   ·obtain ⟨⟨p1, p2, p3⟩, r3e⟩ := Built.yes (m := m) (j := j) (l := l.take (2 ^ j)) (O := O) (R := R) (by unfold Built; rw [← hc1, ← hk1]; exact b3) t3
    rw [← hc1, ← hk1] at r3e
    rw [← hc1] at p1 p3
    rw [← hk1] at p2 p3
    rw [if_neg (by rw [t3]; decide), if_pos hhalf]
    subst r3e
    dsimp only
    have hch : cut l ((2 ^ j : Nat) : Int) (l.length : Int) = l.drop (2 ^ j) := cut_hi
    rw [hch]
    obtain ⟨r4, e4, b4⟩ := ih f (l.drop (2 ^ j)) (O.drop c1) (R.drop k1) (by omega) (by omega) hl2
    rw [e4, Option.bind_some]
    by_cases t4 : r4.2.1 = true
    ·obtain ⟨⟨s1, s2, s3⟩, r4e⟩ := Built.yes b4 t4
     rw [← hc2, ← hk2] at r4e
     rw [← hc2] at s1 s3
     rw [← hk2] at s2 s3
     rw [if_neg (by rw [t4]; decide)]
     subst r4e
     dsimp only
     unfold g_slots_node
     rw [dg_o, Option.bind_some, Option.bind_some]
     rw [List.length_drop] at s1 s2
     refine ⟨_, rfl, fun q => ?_, fun q => ?_⟩
     ·have q3 := q.2.2
      rw [hu, if_neg (by rw [p3, s3]; simp)] at q3 ⊢
      dsimp only at q3 ⊢
      rw [q3, hcs, hrs, List.drop_drop, List.drop_drop]
     ·rw [hu, if_neg (by rw [p3, s3]; simp)] at q
      dsimp only at q ⊢
      exact Bool.eq_false_iff.2 fun q2 => q ⟨by omega, by omega, q2⟩
    ·rw [if_pos (by rw [Bool.eq_false_iff.2 t4]; rfl)]
     refine ⟨_, rfl, fun q => ?_, fun _ => rfl⟩
     exfalso
     obtain ⟨g1, g2, g3⟩ := q
     rw [hu] at g3
     by_cases hb : (unc j m (l.take (2 ^ j)) (O.take c1) (R.take k1)).2 = false ∨ (unc j m (l.drop (2 ^ j)) ((O.drop c1).take c2) ((R.drop k1).take k2)).2 = false
     ·rw [if_pos hb] at g3; cases g3
     ·have hb2 : (unc j m (l.drop (2 ^ j)) ((O.drop c1).take c2) ((R.drop k1).take k2)).2 = true := by
       rw [← Bool.not_eq_false]
       exact fun q => hb (.inr q)
      have := b4.1 ⟨by rw [← hc2, List.length_drop]; omega, by rw [← hk2, List.length_drop]; omega, by rw [← hc2, ← hk2]; exact hb2⟩
      rw [this] at t4
      exact t4 rfl
   ·rw [if_pos (by rw [Bool.eq_false_iff.2 t3]; rfl)]
    refine ⟨_, rfl, fun q => ?_, fun _ => rfl⟩
    exfalso
    obtain ⟨g1, g2, g3⟩ := q
    rw [hu] at g3
    by_cases hb : (unc j m (l.take (2 ^ j)) (O.take c1) (R.take k1)).2 = false ∨ (unc j m (l.drop (2 ^ j)) ((O.drop c1).take c2) ((R.drop k1).take k2)).2 = false
    ·rw [if_pos hb] at g3; cases g3
    ·have hb1 : (unc j m (l.take (2 ^ j)) (O.take c1) (R.take k1)).2 = true := by
      rw [← Bool.not_eq_false]
      exact fun q => hb (.inl q)
     have := b3.1 ⟨by omega, by omega, hb1⟩
     rw [this] at t3
     exact t3 rfl
theorem dg_size (m tag : Int) (l : List (List UInt8)) : (dg m tag l).1.length ≤ 16777216 := by
 obtain ⟨r, h1, _, h3⟩ := digest_eq m tag l
 rw [dg_o] at h1
 injection h1 with h1
 rw [h1]
 exact h3
theorem lf_size (m : Int) (s : GSlot) : (lf m s).1.length ≤ 16777216 := by
 obtain ⟨r, h1, _, h3⟩ := leaf_eq m s
 rw [lf_o] at h1
 injection h1 with h1
 rw [h1]
 exact h3
theorem unc_size {m : Int} {B : Nat} (hB : 16777216 ≤ B) : ∀ (j : Nat) (l : List Bool) (O : List GSlot) (R : List (List UInt8)), (∀ x ∈ R, x.length ≤ B) → (unc j m l O R).1.length ≤ B := by
 have hfirst : ∀ R : List (List UInt8), (∀ x ∈ R, x.length ≤ B) → (lrd R 0).length ≤ B := fun R hR => by
  cases R with
  | nil => exact Nat.zero_le _
  | cons x R => exact hR x (List.mem_cons_self)
 intro j l O R hR
 cases j with
 | zero =>
  unfold unc
  split
  ·exact hfirst R hR
  ·exact Nat.le_trans (lf_size _ _) hB
 | succ j =>
  unfold unc
  split
  ·exact hfirst R hR
  ·split
   ·exact Nat.zero_le _
   ·exact Nat.le_trans (dg_size _ _ _) hB
theorem g_law_SlotsRooted_true {x0 : Int} {x1 : List Bool} {x2 : GCover} (q0 : okI x0) (q1 : (okL 1 okA) x1) (q2 : GCover.ok x2) : g_law_SlotsRooted x0 x1 x2 = some true := by
 have key : ∃ r : List UInt8 × Int, g_slots_Rooted x0 x1 x2 = some r ∧ g_ref_Rooted x0 x1 x2 = some r := by
  obtain ⟨O, R⟩ := x2
  have hR : ∀ x ∈ R, x.length ≤ reachBytes := fun x hx => by
   have := (q2.2.2.2 x hx).1
   omega
  unfold g_slots_Rooted g_ref_Rooted g_slots_modes g_ref_badMode
  rw [Option.bind_some, Option.bind_some]
  by_cases hm : x0 = 1 ∨ x0 = 2
  ·rw [decide_eq_true hm, decide_eq_false (show ¬ (x0 ≠ 1 ∧ x0 ≠ 2) by omega), if_neg (show ¬ ((!true) = true) by decide), if_neg (show ¬ (false = true) by decide), power_eq, whole_eq, Option.bind_some, Option.bind_some]
   by_cases hp : pw (x1.length : Int)
   ·rw [@decide_eq_true _ (Classical.propDecidable _) hp, if_neg (show ¬ ((!true) = true) by decide), if_neg (show ¬ ((!true) = true) by decide)]
    obtain ⟨k, hk, hl⟩ : ∃ k, k ≤ 6 ∧ x1.length = 2 ^ k := by
     rcases pw_mem.1 hp with h | h | h | h | h | h | h
     ·exact ⟨0, by decide, by show _ = 1; omega⟩
     ·exact ⟨1, by decide, by show _ = 2; omega⟩
     ·exact ⟨2, by decide, by show _ = 4; omega⟩
     ·exact ⟨3, by decide, by show _ = 8; omega⟩
     ·exact ⟨4, by decide, by show _ = 16; omega⟩
     ·exact ⟨5, by decide, by show _ = 32; omega⟩
     ·exact ⟨6, by decide, by show _ = 64; omega⟩
    have h64 : 2 ^ k ≤ 64 := two_le hk
    obtain ⟨r, hr, hb⟩ := build_eq (m := x0) k 100000 x1 O R hk (by omega) hl
    rw [hr, Option.bind_some, count_loop (by omega), Option.bind_some, rests_eq k 100000 x1 hk (by omega) hl, Option.bind_some]
    have hg : (if (O.length : Int) ≠ ((cntB x1 : Nat) : Int) then some true else some (decide ((R.length : Int) ≠ ((restN k x1 : Nat) : Int)))) = some (decide (¬ (O.length = cntB x1 ∧ R.length = restN k x1))) := by
     by_cases a : O.length = cntB x1
     ·rw [if_neg (by omega)]
      congr 1
      rw [decide_eq_decide]
      omega
     ·rw [if_pos (by omega)]
      congr 1
      refine (decide_eq_true_iff.2 ?_).symm
      exact fun q => a q.1
    rw [hg, Option.bind_some]
    by_cases hs : O.length = cntB x1 ∧ R.length = restN k x1
    ·have hd : decide (¬ (O.length = cntB x1 ∧ R.length = restN k x1)) = false := by
      rw [decide_eq_false_iff_not]
      exact fun q => q hs
     rw [hd, if_neg (show ¬ (false = true) by decide), ref_unc k 100000 x1 O R hk (by omega) hl hs.1 hs.2, Option.bind_some]
     have hOt : O.take (cntB x1) = O := List.take_of_length_le (by omega)
     have hRt : R.take (restN k x1) = R := List.take_of_length_le (by omega)
     by_cases hu : (unc k x0 x1 O R).2 = true
     ·have := hb.1 ⟨by omega, by omega, by rw [hOt, hRt]; exact hu⟩
      rw [hOt, hRt] at this
      rw [this]
      dsimp only
      have hsz := unc_size (m := x0) (B := reachBytes) (by unfold reachBytes; decide) k x1 O R hR
      rw [hu, if_neg (by
       rw [List.length_drop, List.length_drop]
       rintro ((q | q) | q)
       ·cases q
       ·omega
       ·omega), if_neg (show ¬ ((!true) = true) by decide), if_pos (show room _ _ by
       unfold reachBytes at hsz
       simp only [room, List.length_nil]
       omega)]
      exact ⟨_, rfl, rfl⟩
     ·have hf : r.2.1 = false := hb.2 (fun q => hu (by have := q.2.2; rwa [hOt, hRt] at this))
      rw [hf, Bool.eq_false_iff.2 hu, if_pos (.inl (.inl rfl)), if_pos (show (!false) = true from rfl)]
      exact ⟨_, rfl, rfl⟩
    ·rw [decide_eq_true hs, if_pos rfl]
     have hbad : ((!r.2.1) = true ∨ (r.2.2.Open.length : Int) > 0) ∨ (r.2.2.Rest.length : Int) > 0 := by
      by_cases ht : r.2.1 = true
      ·obtain ⟨⟨p1, p2, _⟩, he⟩ := Built.yes hb ht
       rw [he]
       dsimp only
       rw [List.length_drop, List.length_drop]
       by_cases a : O.length = cntB x1
       ·right
        have : ¬ R.length = restN k x1 := fun q => hs ⟨a, q⟩
        omega
       ·left; right
        omega
      ·left; left
       rw [Bool.eq_false_iff.2 ht]
       rfl
     rw [if_pos hbad]
     exact ⟨_, rfl, rfl⟩
   ·rw [@decide_eq_false _ (Classical.propDecidable _) hp, if_pos (show (!false) = true from rfl), if_pos (show (!false) = true from rfl)]
    exact ⟨_, rfl, rfl⟩
  ·rw [decide_eq_false hm, decide_eq_true (show x0 ≠ 1 ∧ x0 ≠ 2 by omega), if_pos (show (!false) = true from rfl), if_pos rfl]
   exact ⟨_, rfl, rfl⟩
 obtain ⟨r, h1, h2⟩ := key
 unfold g_law_SlotsRooted
 rw [h1, h2, Option.bind_some, Option.bind_some, if_pos rfl, same_true]
 rfl
end Go.Proofs.YteilidpbnndnpaaDoor.VM
