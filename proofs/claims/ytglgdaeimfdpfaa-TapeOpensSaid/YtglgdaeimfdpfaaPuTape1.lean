/- Words and rules that the proof uses. -/
import Derived.Test.YtglgdaeimfdpfaaPuTapeN
import Derived.Test.YtglgdaeimfdpfaaPuDiskR
namespace Go.Proofs.Ytglgdaeimfdpfaa.VM
open Go Go.RowKit
def catS (d : GDisk) (i : Nat) : Nat → List UInt8
 | 0 => []
 | k + 1 => catS d i k ++ (secV d (i + k)).toList
theorem catS_len (d : GDisk) (i : Nat) : ∀ k, (catS d i k).length = 32 * k
 | 0 => rfl
 | k + 1 => by
  unfold catS
  rw [List.length_append, catS_len d i k, Vector.length_toList]
  omega
theorem catS_cons (d : GDisk) (i : Nat) : ∀ k, catS d i (k + 1) = (secV d i).toList ++ catS d (i + 1) k
 | 0 => by
  show [] ++ (secV d (i + 0)).toList = _ ++ []
  rw [List.nil_append, List.append_nil, Nat.add_zero]
 | k + 1 => by
  have e : catS d (i + 1) (k + 1) = catS d (i + 1) k ++ (secV d (i + 1 + k)).toList := rfl
  show catS d i (k + 1) ++ (secV d (i + (k + 1))).toList = _
  rw [catS_cons d i k, e, List.append_assoc, show i + (k + 1) = i + 1 + k by omega]
theorem catS_take (d : GDisk) (i : Nat) {k m n : Nat} (hk : k ≤ m) (hn : n ≤ 32 * k) : (catS d i m).take n = (catS d i k).take n := by
 induction m with
 | zero =>
  have : k = 0 := by omega
  rw [this]
 | succ m ih =>
  by_cases h : k = m + 1
  ·rw [h]
  ·show (catS d i m ++ (secV d (i + m)).toList).take n = _
   rw [List.take_append_of_le_length (by rw [catS_len]; omega)]
   exact ih (by omega)
theorem disk_fit {d : GDisk} (h : g_disk_Check d = some 0) : 1 ≤ d.Lasts.length ∧ d.Lasts.length ≤ 400 := by
 unfold g_disk_Check at h
 by_cases hb : (((d.Lasts.length : Int) < 1) ∨ ((d.Lasts.length : Int) > 400)) ∨ ((d.Writes.length : Int) > 60)
 ·rw [if_pos hb] at h; cases h
 ·omega
def oddB (hd : List UInt8) (i : Nat) : Bool := !decide ((((i : Int) ≠ 6 ∧ (i : Int) ≠ 7) ∧ (i : Int) ≠ 5) ∧ lrd hd i ≠ 0)
theorem take8 {hd : List UInt8} (h : hd.length = 32) : hd.take 8 = [lrd hd 0, lrd hd 1, lrd hd 2, lrd hd 3, lrd hd 4, lrd hd 5, lrd hd 6, lrd hd 7] := by
 rw [take_step (by omega), take_step (by omega), take_step (by omega), take_step (by omega), take_step (by omega), take_step (by omega), take_step (by omega), take_step (by omega)]
 rfl
theorem part3 {hd : List UInt8} (h : hd.length = 32) : (hd.drop 5).take 3 = [lrd hd 5, lrd hd 6, lrd hd 7] := by
 rw [drop_step (by omega), drop_step (show 5 + 1 < hd.length by omega), drop_step (show 5 + 1 + 1 < hd.length by omega)]
 rfl
theorem zero8 (x : UInt8) : x = 0 ↔ x.toNat = 0 := by
 constructor
 ·intro h; rw [h]; rfl
 ·intro h; exact UInt8.toNat_inj.1 h
theorem dig {p a : Nat} (h : p * 256 + a = 0) : p = 0 ∧ a = 0 := by omega
theorem head_alike {hd : List UInt8} (h : hd.length = 32) {B : Nat} (hB : B ≤ 12768) :
  ((List.range 32).all (oddB hd) = true ∧ numN ((hd.drop 5).take 3) ≤ B ↔ numN (hd.take 8) ≤ B ∧ ((List.range 24).all fun k => decide (lrd hd (8 + k) = 0)) = true) ∧
  (numN (hd.take 8) ≤ B → numN (hd.take 8) = numN ((hd.drop 5).take 3)) := by
 rw [take8 h, part3 h]
 have e8 : numN [lrd hd 0, lrd hd 1, lrd hd 2, lrd hd 3, lrd hd 4, lrd hd 5, lrd hd 6, lrd hd 7] = ((((((((0 * 256 + (lrd hd 0).toNat) * 256 + (lrd hd 1).toNat) * 256 + (lrd hd 2).toNat) * 256 + (lrd hd 3).toNat) * 256 + (lrd hd 4).toNat) * 256 + (lrd hd 5).toNat) * 256 + (lrd hd 6).toNat) * 256 + (lrd hd 7).toNat) := rfl
 have e3 : numN [lrd hd 5, lrd hd 6, lrd hd 7] = ((0 * 256 + (lrd hd 5).toNat) * 256 + (lrd hd 6).toNat) * 256 + (lrd hd 7).toNat := rfl
 rw [e8, e3]
 obtain ⟨A, hA⟩ : ∃ A, A = ((((0 * 256 + (lrd hd 0).toNat) * 256 + (lrd hd 1).toNat) * 256 + (lrd hd 2).toNat) * 256 + (lrd hd 3).toNat) * 256 + (lrd hd 4).toNat := ⟨_, rfl⟩
 rw [← hA]
 clear e8 e3
 have hodd : (List.range 32).all (oddB hd) = true ↔ ∀ i, i < 32 → i ≠ 5 → i ≠ 6 → i ≠ 7 → lrd hd i = 0 := by
  rw [List.all_eq_true]
  constructor
  ·intro q i hi h5 h6 h7
   have := q i (List.mem_range.2 hi)
   unfold oddB at this
   rw [Bool.not_eq_true', decide_eq_false_iff_not] at this
   exact Classical.byContradiction fun hz => this ⟨⟨⟨by omega, by omega⟩, by omega⟩, hz⟩
  ·intro q i hi
   unfold oddB
   rw [Bool.not_eq_true', decide_eq_false_iff_not]
   rintro ⟨⟨⟨a, b⟩, c⟩, hz⟩
   exact hz (q i (List.mem_range.1 hi) (by omega) (by omega) (by omega))
 have htail : ((List.range 24).all fun k => decide (lrd hd (8 + k) = 0)) = true ↔ ∀ k, k < 24 → lrd hd (8 + k) = 0 := by
  rw [List.all_eq_true]
  exact ⟨fun q k hk => of_decide_eq_true (q k (List.mem_range.2 hk)), fun q k hk => decide_eq_true (q k (List.mem_range.1 hk))⟩
 rw [hodd, htail]
 refine ⟨⟨fun ⟨q, hm⟩ => ⟨?_, fun k hk => q (8 + k) (by omega) (by omega) (by omega) (by omega)⟩, fun ⟨hm, q⟩ => ?_⟩, fun hm => by
  have : A = 0 := by omega
  rw [this]⟩
 ·have z0 := (zero8 _).1 (q 0 (by decide) (by decide) (by decide) (by decide))
  have z1 := (zero8 _).1 (q 1 (by decide) (by decide) (by decide) (by decide))
  have z2 := (zero8 _).1 (q 2 (by decide) (by decide) (by decide) (by decide))
  have z3 := (zero8 _).1 (q 3 (by decide) (by decide) (by decide) (by decide))
  have z4 := (zero8 _).1 (q 4 (by decide) (by decide) (by decide) (by decide))
  have : A = 0 := by rw [hA, z0, z1, z2, z3, z4]
  rw [this]
  exact hm
 ·have hA0 : A = 0 := by omega
  obtain ⟨d3, z4⟩ := dig (hA.symm.trans hA0)
  obtain ⟨d2, z3⟩ := dig d3
  obtain ⟨d1, z2⟩ := dig d2
  obtain ⟨d0, z1⟩ := dig d1
  obtain ⟨_, z0⟩ := dig d0
  rw [hA0] at hm
  refine ⟨fun i hi h5 h6 h7 => ?_, hm⟩
  by_cases h8 : 8 ≤ i
  ·have := q (i - 8) (by omega)
   rwa [show 8 + (i - 8) = i by omega] at this
  ·have hc : i = 0 ∨ i = 1 ∨ i = 2 ∨ i = 3 ∨ i = 4 := by omega
   rcases hc with rfl | rfl | rfl | rfl | rfl
   ·exact (zero8 _).2 z0
   ·exact (zero8 _).2 z1
   ·exact (zero8 _).2 z2
   ·exact (zero8 _).2 z3
   ·exact (zero8 _).2 z4
theorem prog_head {d : GDisk} (hc : g_disk_Check d = some 0) : g_tape_head d = some (if (List.range 32).all (oddB (secV d 0).toList) = true ∧ numN (((secV d 0).toList.drop 5).take 3) ≤ 32 * (d.Lasts.length - 1) then (((numN (((secV d 0).toList.drop 5).take 3) : Nat) : Int), 0) else (0, 11)) := by
 obtain ⟨h1, h400⟩ := disk_fit hc
 obtain ⟨hr, _⟩ := read_both hc (i := 0) (by omega)
 have hl : loopO (g_tape_head_l0 (secV d 0, 0)) (0 : Int) = some (if (List.range 32).all (oddB (secV d 0).toList) = true then .inr () else .inl (0, 11)) :=
  loop_all (step := g_tape_head_l0 (secV d 0, 0)) 32 (fun k => (k : Int)) (oddB (secV d 0).toList) (.inl (0, 11)) (.inr ()) (fun k hk => by
   unfold g_tape_head_l0 oddB
   dsimp only
   rw [if_pos (show (k : Int) < 32 by omega), if_pos (by omega), Int.toNat_natCast, w64_succ (by omega), lrd_vec]
   by_cases h : ((((k : Int) ≠ 6 ∧ (k : Int) ≠ 7) ∧ (k : Int) ≠ 5) ∧ vrd (secV d 0) k ≠ 0)
   ·rw [if_pos h, decide_eq_true h]; rfl
   ·rw [if_neg h, decide_eq_false h]; rfl) (by
   unfold g_tape_head_l0
   dsimp only
   rw [if_neg (by decide)])
 have hr0 : g_disk_Read d (0 : Int) = some (secV d 0, 0) := hr
 have hlen : (((secV d 0).toList.drop 5).take 3).length ≤ 4 := by rw [List.length_take]; omega
 have hw : w64 (w64 ((d.Lasts.length : Int) - 1) * 32) = ((32 * (d.Lasts.length - 1) : Nat) : Int) := by
  rw [w64_id (show -9223372036854775808 ≤ (d.Lasts.length : Int) - 1 ∧ (d.Lasts.length : Int) - 1 ≤ 9223372036854775807 by omega), w64_id (by omega)]
  omega
 unfold g_tape_head
 rw [hr0, Option.bind_some, if_neg (show ¬ ((0 : Int) ≠ 0) by decide), hl, Option.bind_some]
 by_cases ha : (List.range 32).all (oddB (secV d 0).toList) = true
 ·rw [if_pos ha]
  dsimp only
  rw [tnum_eq hlen, Option.bind_some, hw]
  by_cases hm : numN (((secV d 0).toList.drop 5).take 3) ≤ 32 * (d.Lasts.length - 1)
  ·rw [if_neg (by omega), if_pos ⟨ha, hm⟩]
  ·rw [if_pos (by omega), if_neg (fun q => hm q.2)]
 ·rw [if_neg ha, if_neg (fun q => ha q.1)]
theorem good_alike {d : GDisk} (q : GDisk.ok d) : ∃ r : List UInt8 × Int, g_tape_good d = some r ∧ g_ref_tapeText d = some r ∧ r.1.length ≤ 12800 := by
 obtain ⟨e, he⟩ := check_ex d q
 by_cases h0 : e = 0
 ·subst h0
  obtain ⟨h1, h400⟩ := disk_fit he
  have hsec : (secV d 0).toList.length = 32 := Vector.length_toList
  obtain ⟨N, hN⟩ : ∃ N, d.Lasts.length = N + 1 := ⟨d.Lasts.length - 1, by omega⟩
  have hall : loopO (g_ref_tapeText_l0 d) ([], (0 : Int)) = some (catS d 0 d.Lasts.length) := by
   obtain ⟨r, g1, g2⟩ := loopO_times (step := g_ref_tapeText_l0 d) d.Lasts.length (fun k (t : List UInt8) => (t, (k : Int))) (fun k t => t = catS d 0 k ∧ k ≤ d.Lasts.length) (fun r => r = catS d 0 d.Lasts.length) (fun k t hk ⟨ht, _⟩ => .inl ⟨catS d 0 (k + 1), by
    obtain ⟨_, hr⟩ := read_both he hk
    have hcl := catS_len d 0 k
    unfold g_ref_tapeText_l0
    dsimp only
    rw [if_pos (natLt hk), hr, Option.bind_some]
    dsimp only
    have hcat : catS d 0 (k + 1) = catS d 0 k ++ (secV d k).toList := by
     show catS d 0 k ++ (secV d (0 + k)).toList = _
     rw [Nat.zero_add]
    rw [if_pos (by rw [ht, hcl, Vector.length_toList]; omega), w64_succ (by omega), ht, hcat], rfl, by omega⟩) (fun t ⟨ht, _⟩ => ⟨t, by
    unfold g_ref_tapeText_l0
    dsimp only
    rw [if_neg natNlt], ht⟩) (s := []) ⟨rfl, Nat.zero_le _⟩
   rw [show ((0 : Int)) = ((0 : Nat) : Int) from rfl, g1, g2]
  have hT : catS d 0 d.Lasts.length = (secV d 0).toList ++ catS d 1 N := by rw [hN, catS_cons]
  have hTl : (catS d 0 d.Lasts.length).length = 32 * (N + 1) := by rw [catS_len, hN]
  have hc1 : cut (catS d 0 d.Lasts.length) (0 : Int) 32 = (secV d 0).toList := by
   show ((catS d 0 d.Lasts.length).drop 0).take 32 = _
   rw [List.drop_zero, hT, List.take_append_of_le_length (by omega), List.take_of_length_le (by omega)]
  have hc2 : cut (catS d 0 d.Lasts.length) (32 : Int) ((catS d 0 d.Lasts.length).length : Int) = catS d 1 N := by
   show ((catS d 0 d.Lasts.length).drop 32).take (((catS d 0 d.Lasts.length).length : Int).toNat - 32) = _
   rw [Int.toNat_natCast, hTl, hT, List.drop_append_of_le_length (by omega), List.drop_of_length_le (by omega), List.nil_append, List.take_of_length_le (by rw [catS_len]; omega)]
  have hc3 : cut (secV d 0).toList (0 : Int) 8 = (secV d 0).toList.take 8 := by
   show ((secV d 0).toList.drop 0).take 8 = _
   rw [List.drop_zero]
  obtain ⟨x, hx1, hx2⟩ := rnum_eq (l := (secV d 0).toList.take 8) (by rw [List.length_take]; omega)
  have hlt : (UInt64.ofInt ((catS d 1 N).length : Int) < x) ↔ ¬ (numN ((secV d 0).toList.take 8) ≤ 32 * (d.Lasts.length - 1)) := by
   rw [UInt64.lt_iff_toNat_lt, hx2]
   have : (UInt64.ofInt ((catS d 1 N).length : Int)).toNat = 32 * N := by
    unfold UInt64.ofInt
    rw [UInt64.toNat_ofNat', catS_len]
    have e1 : (2 : Int) ^ 64 = 18446744073709551616 := by decide
    have e2 : (2 : Nat) ^ 64 = 18446744073709551616 := by decide
    omega
   rw [this]
   omega
  have hloop1 : loopO (g_ref_tapeText_l1 (catS d 0 d.Lasts.length)) (8 : Int) = some (if ((List.range 24).all fun k => decide (lrd (secV d 0).toList (8 + k) = 0)) = true then .inr () else .inl ([], 11)) :=
   loop_all (step := g_ref_tapeText_l1 (catS d 0 d.Lasts.length)) 24 (fun k => ((8 + k : Nat) : Int)) (fun k => decide (lrd (secV d 0).toList (8 + k) = 0)) (.inl ([], 11)) (.inr ()) (fun k hk => by
    unfold g_ref_tapeText_l1
    dsimp only
    rw [hc1, hsec, if_pos (by omega), if_pos (by omega), Int.toNat_natCast, w64_succ (by omega)]
    by_cases h : lrd (secV d 0).toList (8 + k) = 0
    ·rw [if_neg (fun q => q h), if_pos (decide_eq_true h)]
     rfl
    ·rw [if_pos h, if_neg (by rw [decide_eq_false h]; decide)]) (by
    unfold g_ref_tapeText_l1
    dsimp only
    rw [if_neg (by decide)])
  obtain ⟨hA, hEq⟩ := head_alike hsec (B := 32 * (d.Lasts.length - 1)) (by omega)
  have href : g_ref_tapeText d = some (if numN ((secV d 0).toList.take 8) ≤ 32 * (d.Lasts.length - 1) ∧ ((List.range 24).all fun k => decide (lrd (secV d 0).toList (8 + k) = 0)) = true then ((catS d 1 N).take (numN ((secV d 0).toList.take 8)), 0) else ([], 11)) := by
   unfold g_ref_tapeText
   rw [fault_eq, he, Option.bind_some, if_neg (show ¬ ((0 : Int) ≠ 0) by decide), hall, Option.bind_some, if_pos (by omega), if_pos (by omega), hc1, if_pos (by omega), hc3, hx1, Option.bind_some, hc2]
   by_cases hle : numN ((secV d 0).toList.take 8) ≤ 32 * (d.Lasts.length - 1)
   ·rw [if_neg (fun q => hlt.1 q hle), hloop1, Option.bind_some]
    by_cases ht : ((List.range 24).all fun k => decide (lrd (secV d 0).toList (8 + k) = 0)) = true
    ·have hR : (if numN ((secV d 0).toList.take 8) ≤ 32 * (d.Lasts.length - 1) ∧ ((List.range 24).all fun k => decide (lrd (secV d 0).toList (8 + k) = 0)) = true then ((catS d 1 N).take (numN ((secV d 0).toList.take 8)), (0 : Int)) else ([], 11)) = ((catS d 1 N).take (numN ((secV d 0).toList.take 8)), 0) := if_pos ⟨hle, ht⟩
     have hx0 : (0 : Int) ≤ (x.toNat : Int) ∧ (x.toNat : Int) ≤ ((catS d 1 N).length : Int) := by
      rw [hx2, catS_len]; omega
     rw [hR, if_pos ht]
     dsimp only
     rw [if_pos hx0, letO_eq, hx2]
     have : cut (catS d 1 N) (0 : Int) ((numN ((secV d 0).toList.take 8) : Nat) : Int) = (catS d 1 N).take (numN ((secV d 0).toList.take 8)) := by
      show ((catS d 1 N).drop 0).take (((numN ((secV d 0).toList.take 8) : Nat) : Int).toNat - 0) = _
      rw [List.drop_zero, Int.toNat_natCast, Nat.sub_zero]
     rw [this]
    ·have hR : (if numN ((secV d 0).toList.take 8) ≤ 32 * (d.Lasts.length - 1) ∧ ((List.range 24).all fun k => decide (lrd (secV d 0).toList (8 + k) = 0)) = true then ((catS d 1 N).take (numN ((secV d 0).toList.take 8)), (0 : Int)) else ([], 11)) = ([], 11) := if_neg (fun q => ht q.2)
     rw [hR, if_neg ht]
   ·have hR : (if numN ((secV d 0).toList.take 8) ≤ 32 * (d.Lasts.length - 1) ∧ ((List.range 24).all fun k => decide (lrd (secV d 0).toList (8 + k) = 0)) = true then ((catS d 1 N).take (numN ((secV d 0).toList.take 8)), (0 : Int)) else ([], 11)) = ([], 11) := if_neg (fun q => hle q.1)
    rw [hR, if_pos (hlt.2 hle)]
  unfold g_tape_good
  rw [prog_head he, Option.bind_some, href]
  by_cases hg : (List.range 32).all (oddB (secV d 0).toList) = true ∧ numN (((secV d 0).toList.drop 5).take 3) ≤ 32 * (d.Lasts.length - 1)
  ·rw [if_pos hg, if_pos (hA.1 hg), hEq (hA.1 hg).1]
   obtain ⟨m, hm⟩ : ∃ m, m = numN (((secV d 0).toList.drop 5).take 3) := ⟨_, rfl⟩
   rw [← hm]
   have hmN : m ≤ 32 * N := by rw [hm]; have := hg.2; omega
   obtain ⟨r, g1, k, hk, g2, g3⟩ := loopO_rule (step := g_tape_good_l0 d ((m : Int), 0)) (fun p => ∃ k, k ≤ N ∧ p = (((1 + k : Nat) : Int), catS d 1 k)) (fun r => ∃ k, k ≤ N ∧ r = .inr (catS d 1 k) ∧ m ≤ 32 * k) (fun p => ((N : Int) + 1 - p.1).toNat) (fun p hp => by
    obtain ⟨k, hk, rfl⟩ := hp
    have hcl := catS_len d 1 k
    unfold g_tape_good_l0
    dsimp only
    by_cases hlt : 32 * k < m
    ·left
     obtain ⟨hr, _⟩ := read_both he (i := 1 + k) (by omega)
     rw [if_pos (by rw [hcl]; omega), hr, Option.bind_some]
     dsimp only
     rw [if_neg (show ¬ ((0 : Int) ≠ 0) by decide), if_pos (show room _ _ by simp only [room, hcl, Vector.length_toList]; omega), w64_succ (by omega)]
     exact ⟨_, rfl, ⟨k + 1, by omega, rfl⟩, by dsimp only; omega⟩
    ·right
     rw [if_neg (by rw [hcl]; omega)]
     exact ⟨_, rfl, k, hk, rfl, by omega⟩) (a := ((1 : Int), ([] : List UInt8))) ⟨0, Nat.zero_le _, rfl⟩
   dsimp only
   rw [if_neg (show ¬ ((0 : Int) ≠ 0) by decide), g1, g2, Option.bind_some]
   dsimp only
   rw [if_pos (by rw [catS_len]; omega)]
   have : cut (catS d 1 k) (0 : Int) (m : Int) = (catS d 1 N).take m := by
    show ((catS d 1 k).drop 0).take ((m : Int).toNat - 0) = _
    rw [List.drop_zero, Int.toNat_natCast, Nat.sub_zero, catS_take d 1 hk g3]
   rw [this]
   exact ⟨_, rfl, rfl, by rw [List.length_take, catS_len]; omega⟩
  ·rw [if_neg hg, if_neg (fun q => hg (hA.2 q))]
   exact ⟨_, rfl, rfl, Nat.zero_le _⟩
 ·have hr : g_disk_Read d (0 : Int) = some (Vector.replicate 32 0, e) := by
   unfold g_disk_Read
   rw [he, Option.bind_some, if_pos h0]
  refine ⟨([], e), ?_, ?_, Nat.zero_le _⟩
  ·unfold g_tape_good g_tape_head
   rw [hr, Option.bind_some]
   dsimp only
   rw [if_pos h0, Option.bind_some]
   dsimp only
   rw [if_pos h0]
  ·unfold g_ref_tapeText
   rw [fault_eq, he, Option.bind_some, if_pos h0]
end Go.Proofs.Ytglgdaeimfdpfaa.VM
