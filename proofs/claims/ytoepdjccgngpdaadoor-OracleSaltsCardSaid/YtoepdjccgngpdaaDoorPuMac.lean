/- HMAC and salts. -/
import Derived.Test.YtoepdjccgngpdaaDoorPuDig
namespace Go.Proofs.YtoepdjccgngpdaaDoor.VM
open Go Go.RowKit
/-- Bytes that come in two pieces. -/
theorem sum_two {a b : List UInt8} (h : a.length + b.length ≤ 140737488355328) : ∃ s1 s2 v, g_sum_feed start8 a = some s1 ∧ g_sum_feed s1 b = some s2 ∧ g_sum_end s2 = some v ∧ g_ref_Summed (a ++ b) = some v := by
  have hl : (a ++ b).length ≤ 140737488355328 := by rw [List.length_append]; exact h
  obtain ⟨r, h1, h2, h3⟩ := added_ok start_ok hl
  obtain ⟨s', rfl, h4, h5⟩ := h3 (by show (0 : Int) + _ ≤ _; omega)
  obtain ⟨s1, f1, f2, f3⟩ := feed_ok (l := a) (by omega) start_ok.fits
  obtain ⟨s2, f4, f5, f6⟩ := feed_ok (l := b) (by omega) f2
  obtain ⟨s3, f7, _, f8⟩ := feed_ok hl start_ok.fits
  rw [h4] at f7
  cases f7
  rw [List.foldl_append] at h5
  have e0 : start8.Len = 0 := rfl
  have : s2 = s' := Fits8.eq f5 h5 (by
    rw [f6, f3, f8, e0, List.length_append]
    rw [w64_id (n := 0 + (a.length : Int)) (by omega), w64_id (by omega), w64_id (by omega)]
    omega)
  subst this
  obtain ⟨v, e1, e2⟩ := end_eq f5
  refine ⟨s1, s2, v, f1, f4, e1, ?_⟩
  unfold g_ref_Summed
  rw [begun_eq, Option.bind_some, h2, Option.bind_some, e2]
  rfl
/-- A key, filled with noughts. -/
def padK (l : List UInt8) : List UInt8 := l ++ List.replicate (64 - l.length) 0
theorem padK_len {l : List UInt8} (h : l.length ≤ 64) : (padK l).length = 64 := by simp [padK]; omega
theorem vcopy_pad {l : List UInt8} (h : l.length ≤ 64) : (vcopy (Vector.replicate 64 (0 : UInt8)) l).toList = padK l := by
  rw [vcopy_list, List.take_of_length_le (by omega)]
  unfold padK
  congr 1
  show List.drop l.length (List.replicate 64 (0 : UInt8)) = _
  rw [List.drop_replicate]
theorem pads_loop {k : Vector UInt8 64} : ∃ i o, loopO (g_sum_Mac_l0 k) ((0 : Int), Vector.replicate 64 (0 : UInt8), Vector.replicate 64 (0 : UInt8)) = some (i, o) ∧ i.toList = k.toList.map (· ^^^ 54) ∧ o.toList = k.toList.map (· ^^^ 92) := by
  obtain ⟨r, h1, h2, h3⟩ := loopO_times (step := g_sum_Mac_l0 k) (σ := Vector UInt8 64 × Vector UInt8 64) 64 (fun j p => ((j : Int), p.1, p.2)) (fun j p => (∀ q, q < j → vrd p.1 q = vrd k q ^^^ 54) ∧ ∀ q, q < j → vrd p.2 q = vrd k q ^^^ 92)
    (fun r => (∀ q, q < 64 → vrd r.1 q = vrd k q ^^^ 54) ∧ ∀ q, q < 64 → vrd r.2 q = vrd k q ^^^ 92) (fun j p hj hp => by
    obtain ⟨i, o⟩ := p
    obtain ⟨h1, h2⟩ := hp
    unfold g_sum_Mac_l0
    simp only
    rw [if_pos (by omega), if_pos (by omega), if_pos (by omega), if_pos (by omega), if_pos (by omega), w64_succ (by omega), Int.toNat_natCast]
    refine .inl ⟨(_, _), rfl, fun q hq => ?_, fun q hq => ?_⟩
    · show vrd (vwr i j (vrd k j ^^^ 54)) q = _
      by_cases h : q = j
      · subst h; rw [vrd_vwr_eq hj]
      · rw [vrd_vwr_ne (by omega) h]; exact h1 q (by omega)
    · show vrd (vwr o j (vrd k j ^^^ 92)) q = _
      by_cases h : q = j
      · subst h; rw [vrd_vwr_eq hj]
      · rw [vrd_vwr_ne (by omega) h]; exact h2 q (by omega)) (fun p hp => by
    obtain ⟨i, o⟩ := p
    unfold g_sum_Mac_l0
    simp only
    rw [if_neg (by decide)]
    exact ⟨_, rfl, hp⟩) (s := (Vector.replicate 64 (0 : UInt8), Vector.replicate 64 (0 : UInt8))) ⟨fun q hq => absurd hq (Nat.not_lt_zero q), fun q hq => absurd hq (Nat.not_lt_zero q)⟩
  have conv : ∀ (v : Vector UInt8 64) (c : UInt8), (∀ q, q < 64 → vrd v q = vrd k q ^^^ c) → v.toList = k.toList.map (· ^^^ c) := by
    intro v c h
    refine lrd_inj (by simp) fun q hq => ?_
    have hq2 : q < 64 := by simpa using hq
    rw [lrd_vec, h q hq2, lrd_at (by simpa using hq2), List.getElem_map, ← lrd_at (l := k.toList) (by simpa using hq2), lrd_vec]
  exact ⟨r.1, r.2, h1, conv _ _ h2, conv _ _ h3⟩
theorem xor_loop (c : UInt8) (l : List UInt8) (hl : l.length ≤ 1000) : g_ref_Maced_1_i0 c l = some (l.map (· ^^^ c)) := by
  unfold g_ref_Maced_1_i0
  obtain ⟨r, h1, h2, h3⟩ := loopO_times (step := g_ref_Maced_1_i0_l0 c l) (σ := List UInt8) l.length (fun j p => ((j : Int), p)) (fun j p => p.length = l.length ∧ ∀ q, q < l.length → lrd p q = if q < j then lrd l q ^^^ c else lrd l q)
    (fun p => p.length = l.length ∧ ∀ q, q < l.length → lrd p q = lrd l q ^^^ c) (fun j p hj hp => by
    obtain ⟨h1, h2⟩ := hp
    unfold g_ref_Maced_1_i0_l0
    simp only
    rw [if_pos (natLt hj), if_pos (natIn (by omega)), if_pos (natIn (by omega)), w64_succ (by omega), Int.toNat_natCast]
    refine .inl ⟨_, rfl, by simpa using h1, fun q hq => ?_⟩
    rw [lrd_set (by omega)]
    by_cases h : j = q
    · subst h
      rw [if_pos rfl, if_pos (by omega), h2 j hj, if_neg (by omega)]
    · rw [if_neg h, h2 q hq]
      by_cases h4 : q < j
      · rw [if_pos h4, if_pos (by omega)]
      · rw [if_neg h4, if_neg (by omega)]) (fun p hp => by
    unfold g_ref_Maced_1_i0_l0
    simp only
    rw [if_neg natNlt]
    refine ⟨_, rfl, hp.1, fun q hq => ?_⟩
    rw [hp.2 q hq, if_pos hq]) (s := l) ⟨rfl, fun q hq => by rw [if_neg (Nat.not_lt_zero q)]⟩
  rw [show ((0 : Nat) : Int) = 0 from rfl] at h1
  rw [h1, Option.bind_some]
  congr 1
  refine lrd_inj (by simpa using h2) fun q hq => ?_
  rw [h3 q (by omega), lrd_at (l := l.map _) (by simp; omega), List.getElem_map, lrd_at (by omega)]
theorem pad_loop {l : List UInt8} (hl : l.length ≤ 64) : loopO g_ref_Maced_l0 l = some (padK l) := by
  obtain ⟨r, h1, rfl⟩ := loopO_rule (step := g_ref_Maced_l0) (fun k => ∃ z, k = l ++ List.replicate z 0 ∧ k.length ≤ 64) (fun r => r = padK l) (fun k => 64 - k.length) (fun k hk => by
    obtain ⟨z, rfl, hz⟩ := hk
    unfold g_ref_Maced_l0
    by_cases h : ((l ++ List.replicate z (0 : UInt8)).length : Int) < 64
    · rw [if_pos h, if_pos (by simp only [List.length_cons, List.length_nil]; omega)]
      refine .inl ⟨_, rfl, ⟨z + 1, ?_, ?_⟩, ?_⟩
      · rw [List.append_assoc, List.replicate_succ']
      · simp only [List.length_append, List.length_cons, List.length_nil] at h ⊢; omega
      · simp only [List.length_append, List.length_cons, List.length_nil] at h ⊢; omega
    · rw [if_neg h]
      refine .inr ⟨_, rfl, ?_⟩
      unfold padK
      simp only [List.length_append, List.length_replicate] at h hz
      congr 2
      omega) (a := l) ⟨0, by simp, hl⟩
  exact h1
theorem mac_eq (key b : List UInt8) (hk : key.length ≤ 140737488355328) (hb : b.length ≤ 140737488355200) : ∃ v, g_sum_Mac key b = some v ∧ g_ref_Maced key b = some v := by
  unfold g_sum_Mac g_ref_Maced
  obtain ⟨l, v0, h1, h2, h3, h4⟩ : ∃ (l : List UInt8) (v0 : Vector UInt8 64), (if (key.length : Int) > 64 then (g_sum_Sum key).bind fun r'2 => some (vcopy (Vector.replicate 64 (0 : UInt8)) r'2.toList) else some (vcopy (Vector.replicate 64 (0 : UInt8)) key)) = some v0 ∧
      (if (key.length : Int) > 64 then (g_ref_Summed key).bind fun r'2 => some r'2.toList else some key) = some l ∧ l.length ≤ 64 ∧ v0.toList = padK l := by
    by_cases h : (key.length : Int) > 64
    · rw [if_pos h, if_pos h]
      obtain ⟨v, e1, e2⟩ := sum_eq key hk
      rw [e1, e2]
      have hv : v.toList.length = 32 := vlen v
      exact ⟨_, _, rfl, rfl, by omega, vcopy_pad (by omega)⟩
    · rw [if_neg h, if_neg h]
      exact ⟨_, _, rfl, rfl, by omega, vcopy_pad (by omega)⟩
  rw [h1, h2, Option.bind_some, Option.bind_some, pad_loop h3, Option.bind_some]
  obtain ⟨i, o, e1, e2, e3⟩ := pads_loop (k := v0)
  rw [e1, Option.bind_some]
  rw [h4] at e2 e3
  have hpl := padK_len h3
  have hil : i.toList.length = 64 := vlen i
  have hol : o.toList.length = 64 := vlen o
  rw [xor_loop 54 _ (by omega), xor_loop 92 _ (by omega), ← e2, ← e3, begin_eq]
  simp only [Option.bind_some]
  obtain ⟨s1, s2, v, a1, a2, a3, a4⟩ := sum_two (a := i.toList) (b := b) (by omega)
  have hvl : v.toList.length = 32 := vlen v
  rw [a1, Option.bind_some, a2, Option.bind_some, a3, Option.bind_some, if_pos (by omega), a4, Option.bind_some]
  obtain ⟨s3, s4, w, b1, b2, b3, b4⟩ := sum_two (a := o.toList) (b := v.toList) (by omega)
  rw [b1, Option.bind_some, b2, Option.bind_some, b3, Option.bind_some, if_pos (by omega), b4, Option.bind_some]
  exact ⟨w, rfl, rfl⟩
theorem okB2 {l : List UInt8} (h : (okL 1 okA) l) : l.length ≤ 140737488351232 := by
  have := h.1
  simp only [reachBytes] at this
  omega
theorem g_law_MacSums_true {x0 : List UInt8} {x1 : List UInt8} (q0 : (okL 1 okA) x0) (q1 : (okL 1 okA) x1) : g_law_MacSums x0 x1 = some true := by
  obtain ⟨v, h1, h2⟩ := mac_eq x0 x1 (okB q0) (by have := okB2 q1; omega)
  unfold g_law_MacSums
  rw [h1, h2]
  simp
theorem eight_eq (n : Int) : g_oracle_eight n = some (bigL 8 (UInt64.ofInt n)) := by
  unfold g_oracle_eight
  rw [four_eq, four_eq, Option.bind_some, Option.bind_some, if_pos (show room _ _ by simp only [room, bigL_len]; decide)]
  congr 1
  have e : ∀ (q : Int) (k : Nat), k ≤ 24 → k % 8 = 0 → (shr_u64 (UInt64.ofInt (q.fdiv (2 ^ min 32 64))) k).toUInt8 = (shr_u64 (UInt64.ofInt q) (32 + k)).toUInt8 := by
    intro q k hk h8
    rw [byte_of _ _ (by omega), byte_of _ _ (by omega)]
    congr 1
    have hp : ∀ m : Nat, (0 : Int) ≤ 2 ^ m := fun m => Int.pow_nonneg (by decide)
    rw [Int.fdiv_eq_ediv_of_nonneg _ (hp _), Int.fdiv_eq_ediv_of_nonneg _ (hp _), Int.fdiv_eq_ediv_of_nonneg _ (hp _), show min 32 64 = 32 from rfl]
    obtain rfl | rfl | rfl | rfl : k = 0 ∨ k = 8 ∨ k = 16 ∨ k = 24 := by omega
    · simp
    · show q / 4294967296 / 256 = q / 1099511627776; omega
    · show q / 4294967296 / 65536 = q / 281474976710656; omega
    · show q / 4294967296 / 16777216 = q / 72057594037927936; omega
  have e0 : (UInt64.ofInt (n.fdiv (2 ^ min 32 64))).toUInt8 = (shr_u64 (UInt64.ofInt n) 32).toUInt8 := by
    rw [← e n 0 (by decide) rfl]
    congr 1
  simp only [bigL, shr_shr, List.nil_append, List.cons_append]
  rw [show ishr n 32 = n.fdiv (2 ^ min 32 64) from rfl, e n 24 (by decide) rfl, e n 16 (by decide) rfl, e n 8 (by decide) rfl, e0]
theorem salt_eq (m : Int) (sec : List UInt8) (st pl : Int) : ∃ r : List UInt8 × Int, g_oracle_Salt m sec st pl = some r ∧ g_ref_SaltOf m sec st pl = some r ∧ r.1.length ≤ 80 := by
  have hb8 : ∀ n : Int, g_ref_big (UInt64.ofInt n) 8 = some (bigL 8 (UInt64.ofInt n)) := fun n => big_eq (UInt64.ofInt n) 8 (by decide)
  unfold g_oracle_Salt g_ref_SaltOf g_ref_badMode
  simp only [Option.bind_some]
  by_cases hm : m ≠ 1 ∧ m ≠ 2
  · rw [if_pos hm, decide_eq_true hm]
    exact ⟨_, rfl, rfl, Nat.zero_le _⟩
  · rw [if_neg hm, decide_eq_false hm]
    simp only [Bool.false_eq_true, if_false]
    by_cases hs : (sec.length : Int) > 16
    · rw [if_pos hs, if_pos hs]
      exact ⟨_, rfl, rfl, Nat.zero_le _⟩
    · rw [if_neg hs, if_neg hs, eight_eq, eight_eq, hb8, hb8]
      simp only [Option.bind_some]
      by_cases h2 : m = 2
      · rw [if_pos h2, if_pos h2]
        have hz : sizes [sec, bigL 8 (UInt64.ofInt st), bigL 8 (UInt64.ofInt pl)] = sec.length + 16 := by simp [sizes, bigL_len]
        obtain ⟨e1, e2⟩ := frame_eq 3 (l := [sec, bigL 8 (UInt64.ofInt st), bigL 8 (UInt64.ofInt pl)]) (by simp) (by omega)
        rw [e1, e2]
        refine ⟨_, rfl, rfl, ?_⟩
        simp only [frameL_len, hz, List.length_cons, List.length_nil]
        omega
      · rw [if_neg h2, if_neg h2]
        have hz : sizes [bigL 8 (UInt64.ofInt st), bigL 8 (UInt64.ofInt pl)] = 16 := by simp [sizes, bigL_len]
        obtain ⟨e1, e2⟩ := frame_eq 3 (l := [bigL 8 (UInt64.ofInt st), bigL 8 (UInt64.ofInt pl)]) (by simp) (by omega)
        rw [e1, e2]
        simp only [Option.bind_some]
        obtain ⟨v, e3, e4⟩ := mac_eq sec (frameL 3 [bigL 8 (UInt64.ofInt st), bigL 8 (UInt64.ofInt pl)]) (by omega) (by rw [frameL_len, hz]; simp)
        have hvl : v.toList.length = 32 := vlen v
        rw [e3, e4, Option.bind_some, Option.bind_some, if_pos (show room _ _ by simp only [room, List.length_nil]; omega)]
        exact ⟨(v.toList, 0), rfl, rfl, by simp only [hvl]; decide⟩
theorem g_law_OracleSalts_true {x0 : Int} {x1 : List UInt8} {x2 : Int} {x3 : Int} (_q0 : okI x0) (_q1 : (okL 1 okA) x1) (_q2 : okI x2) (_q3 : okI x3) : g_law_OracleSalts x0 x1 x2 x3 = some true := by
  obtain ⟨r, h1, h2, _⟩ := salt_eq x0 x1 x2 x3
  unfold g_law_OracleSalts
  rw [h1, h2]
  simp only [Option.bind_some, if_true, same_true]
end Go.Proofs.YtoepdjccgngpdaaDoor.VM
