/- Disks: what lasts behind a sync and behind a fall. -/
import Derived.Test.YtglgdaeimfdpfaaPuDisk0
namespace Go.Proofs.Ytglgdaeimfdpfaa.VM
open Go Go.RowKit
theorem par (x : Int) (i : Nat) (hi : i < 64) : (x / 2 ^ i) % 2 = ((x % 2 ^ 64) / 2 ^ i) % 2 := by
  have hM : (2 : Int) ^ 64 = 2 ^ i * (2 * 2 ^ (63 - i)) := by
    rw [← Int.mul_assoc, ← Int.pow_succ, ← Int.pow_add]
    congr 1
    omega
  have hx : x = x % 2 ^ 64 + 2 ^ i * (2 * (2 ^ (63 - i) * (x / 2 ^ 64))) := by
    have := Int.emod_add_mul_ediv x (2 ^ 64)
    have h2 : (2 : Int) ^ 64 * (x / 2 ^ 64) = 2 ^ i * (2 * (2 ^ (63 - i) * (x / 2 ^ 64))) := by
      conv => lhs; rw [hM]
      conv => rhs; rw [hM]
      simp only [Int.mul_assoc]
    rw [← h2]; exact this.symm
  have hne : (2 : Int) ^ i ≠ 0 := Int.pow_ne_zero (by decide)
  conv => lhs; rw [hx]
  rw [Int.add_mul_ediv_left _ _ hne, Int.add_mul_emod_self_left]
theorem bitAt (x : Int) (i : Nat) (hi : i < 64) : (BitVec.ofInt 64 x).getLsbD i = decide ((x / 2 ^ i) % 2 = 1) := by
  rw [par x i hi, BitVec.getLsbD, BitVec.toNat_ofInt, Nat.testBit_eq_decide_div_mod_eq]
  have h0 : 0 ≤ x % 2 ^ 64 := Int.emod_nonneg _ (by decide)
  obtain ⟨n, hn⟩ := Int.eq_ofNat_of_zero_le h0
  have e : (((2 : Nat) ^ 64 : Nat) : Int) = 2 ^ 64 := by decide
  rw [e, hn, Int.toNat_natCast]
  refine decide_eq_decide.2 ?_
  rw [show ((2 : Int) ^ i) = ((2 ^ i : Nat) : Int) by simp, ← Int.natCast_ediv, show (2 : Int) = ((2 : Nat) : Int) from rfl, ← Int.natCast_emod]
  omega
theorem pow_lt63 {i : Nat} (hi : i < 63) : 2 ^ i ≤ 4611686018427387904 := Nat.le_trans (Nat.pow_le_pow_right (by decide) (show i ≤ 62 by omega)) (by decide)
theorem and_bit (a : Int) {i : Nat} (hi : i < 63) : iand a ((2 ^ i : Nat) : Int) = if (a / 2 ^ i) % 2 = 1 then ((2 ^ i : Nat) : Int) else 0 := by
  have hp := pow_lt63 hi
  have h1 : BitVec.ofInt 64 ((2 ^ i : Nat) : Int) = BitVec.twoPow 64 i := by
    apply BitVec.eq_of_toNat_eq
    rw [BitVec.toNat_ofInt, BitVec.toNat_twoPow]
    have e : (((2 : Nat) ^ 64 : Nat) : Int) = 18446744073709551616 := by decide
    have e2 : (2 : Nat) ^ 64 = 18446744073709551616 := by decide
    rw [e, e2]
    omega
  show w64 (((BitVec.ofInt 64 a) &&& (BitVec.ofInt 64 ((2 ^ i : Nat) : Int))).toNat : Int) = _
  rw [h1, BitVec.and_twoPow, bitAt a i (by omega)]
  by_cases h : (a / 2 ^ i) % 2 = 1
  · rw [if_pos (decide_eq_true h), if_pos h, BitVec.toNat_twoPow, Nat.mod_eq_of_lt (Nat.lt_of_le_of_lt hp (by decide))]
    clear h h1
    generalize (2 ^ i : Nat) = q at hp
    exact w64_id (by omega)
  · rw [if_neg (by rw [decide_eq_false h]; decide), if_neg h]
    rfl
theorem keep_eq (x : Int) {i : Nat} (hi : i < 63) : decide (iand (ishr x i) (1 : Int) = (1 : Int)) = decide (iand x (ishl (1 : Int) i) ≠ (0 : Int)) := by
  have hp := pow_lt63 hi
  have hpos : 0 < 2 ^ i := Nat.pow_pos (by decide)
  have h1 : ishr x i = x / 2 ^ i := by
    show x.fdiv (2 ^ min i 64) = _
    rw [Nat.min_eq_left (by omega), Int.fdiv_eq_ediv_of_nonneg _ (Int.pow_nonneg (by decide))]
  have h2 : ishl (1 : Int) i = ((2 ^ i : Nat) : Int) := by
    show w64 (1 * 2 ^ min i 64) = _
    rw [Nat.min_eq_left (by omega), Int.one_mul, show ((2 : Int) ^ i) = ((2 ^ i : Nat) : Int) by simp]
    generalize (2 ^ i : Nat) = q at hp hpos
    exact w64_id (by omega)
  have h3 := and_bit (x / 2 ^ i) (i := 0) (by decide)
  rw [show ((2 ^ 0 : Nat) : Int) = 1 from rfl, show ((2 : Int) ^ 0) = 1 from rfl, Int.ediv_one] at h3
  rw [h1, h2, h3, and_bit x hi]
  by_cases h : (x / 2 ^ i) % 2 = 1
  · rw [if_pos h, if_pos h]
    exact decide_eq_decide.2 ⟨fun _ => by omega, fun _ => rfl⟩
  · rw [if_neg h, if_neg h]
    rfl
/-- What a sector is behind so many writes. -/
def val (d : GDisk) (p : Nat → Bool) (i : Nat) : Nat → Vector UInt8 32
  | 0 => lrd d.Lasts i
  | k + 1 => if (lrd d.Writes k).At = (i : Int) ∧ p k = true then (lrd d.Writes k).Data else val d p i k
/-- A disk that may be. -/
structure Fit0 (d : GDisk) : Prop where
  size : d.Lasts.length ≤ 400
  many : d.Writes.length ≤ 60
  at0 : ∀ k, k < d.Writes.length → 0 ≤ (lrd d.Writes k).At ∧ (lrd d.Writes k).At < (d.Lasts.length : Int)
theorem check_fit {d : GDisk} (hc : g_disk_Check d = some 0) : Fit0 d := by
  unfold g_disk_Check at hc
  by_cases h : (((d.Lasts.length : Int) < 1) ∨ ((d.Lasts.length : Int) > 400)) ∨ ((d.Writes.length : Int) > 60)
  · rw [if_pos h] at hc; cases hc
  · rw [if_neg h] at hc
    obtain ⟨r, h1, h2⟩ := loopO_times (step := g_disk_Check_l0 d) (σ := Unit) d.Writes.length (fun k _ => (k : Int)) (fun k _ => ∀ j, j < k → 0 ≤ (lrd d.Writes j).At ∧ (lrd d.Writes j).At < (d.Lasts.length : Int)) (fun r => match r with | .inl y => y = 6 | .inr _ => ∀ j, j < d.Writes.length → 0 ≤ (lrd d.Writes j).At ∧ (lrd d.Writes j).At < (d.Lasts.length : Int)) (fun k u hk hi => by
      unfold g_disk_Check_l0
      dsimp only
      rw [if_pos (natLt hk), if_pos (natIn hk), w64_succ (by omega), Int.toNat_natCast]
      by_cases h2 : ((lrd d.Writes k).At < 0) ∨ ((lrd d.Writes k).At ≥ (d.Lasts.length : Int))
      · rw [if_pos h2]
        exact .inr ⟨_, rfl, rfl⟩
      · rw [if_neg h2]
        refine .inl ⟨(), rfl, fun j hj => ?_⟩
        rcases Nat.lt_or_ge j k with h3 | h3
        · exact hi j h3
        · rw [show j = k by omega]; omega) (fun u hi => by
      unfold g_disk_Check_l0
      dsimp only
      rw [if_neg natNlt]
      exact ⟨_, rfl, hi⟩) (s := ()) (fun j hj => by omega)
    have h1' : loopO (g_disk_Check_l0 d) (0 : Int) = some r := h1
    rw [h1', Option.bind_some] at hc
    cases r with
    | inl y => cases hc; exact absurd (show (0 : Int) = 6 from h2) (by decide)
    | inr u => exact ⟨by omega, by omega, h2⟩
theorem lrd_set_eq {S : List (Vector UInt8 32)} {i : Nat} {x : Vector UInt8 32} (hi : i < S.length) : lrd (S.set i x) i = x := by
  rw [lrd_at (by rw [List.length_set]; exact hi), List.getElem_set_self]
theorem lrd_set_ne {S : List (Vector UInt8 32)} {i j : Nat} {x : Vector UInt8 32} (hi : i < S.length) (h : j ≠ i) : lrd (S.set j x) i = lrd S i := by
  rw [lrd_at (by rw [List.length_set]; exact hi), lrd_at hi, List.getElem_set_ne h]
theorem fall_loop {d : GDisk} (F : Fit0 d) (p : Nat → Bool) {step : Int × (List (Vector UInt8 32)) → Option ((Int × (List (Vector UInt8 32))) ⊕ (((List (Vector UInt8 32)))))}
    (hs : ∀ k S, k < d.Writes.length → S.length = d.Lasts.length → step ((k : Int), S) = some (.inl (((k + 1 : Nat) : Int), if p k = true then S.set (lrd d.Writes k).At.toNat (lrd d.Writes k).Data else S)))
    (he : ∀ S, step ((d.Writes.length : Int), S) = some (.inr S)) : ∃ S, loopO step ((0 : Int), d.Lasts) = some S ∧ S.length = d.Lasts.length ∧ ∀ i, i < d.Lasts.length → lrd S i = val d p i d.Writes.length := by
  refine loopO_times (step := step) d.Writes.length (fun k (S : List (Vector UInt8 32)) => ((k : Int), S)) (fun k S => S.length = d.Lasts.length ∧ ∀ i, i < d.Lasts.length → lrd S i = val d p i k) (fun S => S.length = d.Lasts.length ∧ ∀ i, i < d.Lasts.length → lrd S i = val d p i d.Writes.length) (fun k S hk hi => ?_) (fun S hi => ⟨S, he S, hi⟩) (s := d.Lasts) ⟨rfl, fun i _ => rfl⟩
  left
  refine ⟨_, hs k S hk hi.1, ?_, fun i hil => ?_⟩
  · split
    · rw [List.length_set]; exact hi.1
    · exact hi.1
  · obtain ⟨ha, hb⟩ := F.at0 k hk
    rw [val]
    by_cases hp : p k = true
    · rw [if_pos hp]
      by_cases hat : (lrd d.Writes k).At = (i : Int)
      · rw [if_pos ⟨hat, hp⟩, hat, Int.toNat_natCast]
        exact lrd_set_eq (by rw [hi.1]; exact hil)
      · rw [if_neg (fun h => hat h.1), ← hi.2 i hil]
        exact lrd_set_ne (by rw [hi.1]; exact hil) (by omega)
    · rw [if_neg hp, if_neg (fun h => hp h.2)]
      exact hi.2 i hil
def laid (d : GDisk) (p : Nat → Bool) : List (Vector UInt8 32) := (List.range d.Lasts.length).map fun i => val d p i d.Writes.length
theorem laid_eq {d : GDisk} {p : Nat → Bool} {S : List (Vector UInt8 32)} (h1 : S.length = d.Lasts.length) (h2 : ∀ i, i < d.Lasts.length → lrd S i = val d p i d.Writes.length) : S = laid d p := by
  refine List.ext_getElem (by unfold laid; rw [List.length_map, List.length_range]; exact h1) (fun i hi1 hi2 => ?_)
  simp only [laid, List.getElem_map, List.getElem_range]
  rw [← h2 i (by omega), lrd_at hi1]
theorem ref_loop {d : GDisk} (F : Fit0 d) (keep : Int) (all : Bool) (p : Nat → Bool) (hp : ∀ k, k < d.Writes.length → ((if all = true then some true else (if (k : Int) < (63 : Int) then if 0 ≤ (k : Int) then some (decide (iand keep (ishl (1 : Int) (k : Int).toNat) ≠ (0 : Int))) else none else some false))) = some (p k)) :
    loopO (g_ref_Fallen_l0 d keep all) ((0 : Int), ([] : List (Vector UInt8 32))) = some (laid d p) := by
  have hm := F.many
  have hz := F.size
  have hin : ∀ i, i < d.Lasts.length → loopO (g_ref_Fallen_l1 d keep all (i : Int)) ((0 : Int), lrd d.Lasts i) = some (val d p i d.Writes.length) := by
    intro i hi
    obtain ⟨r, h1, h2⟩ := loopO_times (step := g_ref_Fallen_l1 d keep all (i : Int)) d.Writes.length (fun k (b : Vector UInt8 32) => ((k : Int), b)) (fun k b => b = val d p i k) (fun b => b = val d p i d.Writes.length) (fun k b hk hb => by
      subst hb
      left
      refine ⟨val d p i (k + 1), ?_, rfl⟩
      unfold g_ref_Fallen_l1
      dsimp only
      rw [if_pos (natLt hk), if_pos (natIn hk), w64_succ (by omega), Int.toNat_natCast, val]
      have hpk := hp k hk
      rw [Int.toNat_natCast] at hpk
      by_cases hat : (lrd d.Writes k).At = (i : Int)
      · rw [if_pos hat, hpk]
        by_cases hpp : p k = true
        · rw [if_pos ⟨hat, hpp⟩, hpp]; rfl
        · rw [if_neg (fun h => hpp h.2), Bool.eq_false_iff.2 hpp]; rfl
      · rw [if_neg hat, if_neg (fun h => hat h.1)]; rfl) (fun b hb => ⟨b, by
      unfold g_ref_Fallen_l1
      dsimp only
      rw [if_neg natNlt], hb⟩) (s := lrd d.Lasts i) rfl
    have h1' : loopO (g_ref_Fallen_l1 d keep all (i : Int)) ((0 : Int), lrd d.Lasts i) = some r := h1
    rw [h1', h2]
  obtain ⟨r, h1, h2⟩ := loopO_times (step := g_ref_Fallen_l0 d keep all) d.Lasts.length (fun k (S : List (Vector UInt8 32)) => ((k : Int), S)) (fun k S => S = (List.range k).map fun i => val d p i d.Writes.length) (fun S => S = laid d p) (fun k S hk hS => by
    left
    refine ⟨S ++ [val d p k d.Writes.length], ?_, by rw [hS, List.range_succ, List.map_append]; rfl⟩
    have hlen : S.length = k := by rw [hS, List.length_map, List.length_range]
    unfold g_ref_Fallen_l0
    dsimp only
    rw [if_pos (natLt hk), if_pos (natIn hk), w64_succ (by omega), Int.toNat_natCast, hin k hk, Option.bind_some, if_pos (show room _ _ by simp only [room, List.length_cons, List.length_nil]; omega)]) (fun S hS => ⟨S, by
    unfold g_ref_Fallen_l0
    dsimp only
    rw [if_neg natNlt], hS⟩) (s := []) rfl
  have h1' : loopO (g_ref_Fallen_l0 d keep all) ((0 : Int), ([] : List (Vector UInt8 32))) = some r := h1
  rw [h1', h2]
theorem sync_eq {d : GDisk} (hc : g_disk_Check d = some 0) (hr : g_ref_DiskFault d = some 0) : g_disk_Sync d = some (({ Lasts := laid d (fun _ => true), Writes := [] } : GDisk), 0) ∧ g_ref_Fallen d 0 true = some (({ Lasts := laid d (fun _ => true), Writes := [] } : GDisk), 0) := by
  have F := check_fit hc
  have hm := F.many
  have hz := F.size
  constructor
  · obtain ⟨S, h1, h2, h3⟩ := fall_loop F (fun _ => true) (step := g_disk_fall_i0_l0 d) (fun k S hk hS => by
      obtain ⟨ha, hb⟩ := F.at0 k hk
      unfold g_disk_fall_i0_l0 g_disk_Sync_1
      dsimp only
      rw [if_pos (natLt hk), if_pos (natIn hk), w64_succ (by omega), Int.toNat_natCast, Option.bind_some, if_pos rfl, if_pos ⟨ha, by rw [hS]; exact hb⟩, letO_eq, if_pos rfl]
      rfl) (fun S => by
      unfold g_disk_fall_i0_l0
      dsimp only
      rw [if_neg natNlt])
    unfold g_disk_Sync g_disk_fall_i0
    rw [hc, Option.bind_some, if_neg (by decide), if_pos (show room _ _ by simp only [room, List.length_nil]; omega), List.nil_append, h1, laid_eq h2 h3]
    rfl
  · unfold g_ref_Fallen
    rw [hr, Option.bind_some, if_neg (by decide), ref_loop F 0 true (fun _ => true) (fun k hk => by rw [if_pos rfl])]
    rfl
def keepB (keep : Int) (k : Nat) : Bool := decide (k < 63) && decide (iand keep (ishl (1 : Int) k) ≠ (0 : Int))
theorem crash_eq {d : GDisk} {keep : Int} (hc : g_disk_Check d = some 0) (hr : g_ref_DiskFault d = some 0) : g_disk_Crash d keep = some (({ Lasts := laid d (keepB keep), Writes := [] } : GDisk), 0) ∧ g_ref_Fallen d keep false = some (({ Lasts := laid d (keepB keep), Writes := [] } : GDisk), 0) := by
  have F := check_fit hc
  have hm := F.many
  have hz := F.size
  constructor
  · obtain ⟨S, h1, h2, h3⟩ := fall_loop F (keepB keep) (step := g_disk_fall_i1_l0 d keep) (fun k S hk hS => by
      obtain ⟨ha, hb⟩ := F.at0 k hk
      have hk2 : g_disk_Crash_1_i0 (k : Int) keep = some (keepB keep k) := by
        unfold g_disk_Crash_1_i0 keepB
        by_cases h63 : k < 63
        · rw [if_pos (by omega), if_pos (by omega), Int.toNat_natCast, keep_eq keep h63, decide_eq_true h63]; rfl
        · rw [if_neg (by omega), decide_eq_false h63]; rfl
      unfold g_disk_fall_i1_l0
      dsimp only
      rw [if_pos (natLt hk), if_pos (natIn hk), w64_succ (by omega), Int.toNat_natCast, hk2, Option.bind_some]
      by_cases hp : keepB keep k = true
      · rw [if_pos hp, if_pos ⟨ha, by rw [hS]; exact hb⟩, letO_eq, if_pos hp]
        rfl
      · rw [if_neg hp, if_neg hp]
        rfl) (fun S => by
      unfold g_disk_fall_i1_l0
      dsimp only
      rw [if_neg natNlt])
    unfold g_disk_Crash g_disk_fall_i1
    rw [hc, Option.bind_some, if_neg (by decide), if_pos (show room _ _ by simp only [room, List.length_nil]; omega), List.nil_append, h1, laid_eq h2 h3]
    rfl
  · unfold g_ref_Fallen
    rw [hr, Option.bind_some, if_neg (by decide), ref_loop F keep false (keepB keep) (fun k hk => by
      rw [if_neg (by decide)]
      unfold keepB
      by_cases h63 : k < 63
      · rw [if_pos (by omega), if_pos (by omega), Int.toNat_natCast, decide_eq_true h63]; rfl
      · rw [if_neg (by omega), decide_eq_false h63]; rfl)]
    rfl
theorem laid_len (d : GDisk) (p : Nat → Bool) : (laid d p).length = d.Lasts.length := by unfold laid; rw [List.length_map, List.length_range]
theorem g_law_DiskFalls_true {x0 : GDisk} {x1 : Int} (q0 : GDisk.ok x0) (_q1 : okI x1) : g_law_DiskFalls x0 x1 = some true := by
  have hw : x0.Writes.length ≤ 140737488355328 := by
    have := q0.2.1
    simp only [reachBytes] at this
    omega
  obtain ⟨e, h1, h2⟩ := diskFault_eq x0 hw
  unfold g_law_DiskFalls
  by_cases he : e = 0
  · subst he
    have F := check_fit h1
    have hz := F.size
    obtain ⟨s1, s2⟩ := sync_eq h1 h2
    obtain ⟨c1, c2⟩ := crash_eq (keep := x1) h1 h2
    rw [s1, c1, s2, c2]
    simp only [Option.bind_some]
    rw [if_pos trivial, if_pos trivial, sameDisk_true _ (by show (laid _ _).length ≤ _; rw [laid_len]; omega) (Nat.zero_le _), sameDisk_true _ (by show (laid _ _).length ≤ _; rw [laid_len]; omega) (Nat.zero_le _)]
    rfl
  · have a1 : g_disk_Sync x0 = some (GDisk.zero, e) := by
      unfold g_disk_Sync g_disk_fall_i0
      rw [h1, Option.bind_some, if_pos he]; rfl
    have a2 : g_disk_Crash x0 x1 = some (GDisk.zero, e) := by
      unfold g_disk_Crash g_disk_fall_i1
      rw [h1, Option.bind_some, if_pos he]; rfl
    have a3 : ∀ k b, g_ref_Fallen x0 k b = some (GDisk.zero, e) := by
      intro k b
      unfold g_ref_Fallen
      rw [h2, Option.bind_some, if_pos he]
    rw [a1, a2, a3, a3]
    simp only [Option.bind_some]
    rw [if_pos trivial, if_pos trivial, sameDisk_true GDisk.zero (Nat.zero_le _) (Nat.zero_le _)]
    rfl
end Go.Proofs.Ytglgdaeimfdpfaa.VM
