/- Words and rules that the proof uses. -/
import Derived.Test.YtglgdaeimfdpfaaPuTape1
namespace Go.Proofs.Ytglgdaeimfdpfaa.VM
open Go Go.RowKit
theorem shr64 (n : UInt64) : (shr_u64 n 8).toNat = n.toNat / 256 := by
 show (n.toBitVec >>> 8).toNat = _
 rw [BitVec.toNat_ushiftRight, Nat.shiftRight_eq_div_pow]
 rfl
theorem low8 (n : UInt64) : n.toUInt8.toNat = n.toNat % 256 := by
 rw [UInt64.toNat_toUInt8]
def big2 (n : UInt64) : List UInt8 := [(shr_u64 n 8).toUInt8, n.toUInt8]
def big4 (n : UInt64) : List UInt8 := [(shr_u64 (shr_u64 (shr_u64 n 8) 8) 8).toUInt8, (shr_u64 (shr_u64 n 8) 8).toUInt8, (shr_u64 n 8).toUInt8, n.toUInt8]
theorem big2_num {n : UInt64} (h : n.toNat < 65536) : numN (big2 n) = n.toNat := by
 show (0 * 256 + (shr_u64 n 8).toUInt8.toNat) * 256 + n.toUInt8.toNat = _
 rw [low8, low8, shr64]
 omega
theorem big4_num {n : UInt64} (h : n.toNat < 4294967296) : numN (big4 n) = n.toNat := by
 show (((0 * 256 + (shr_u64 (shr_u64 (shr_u64 n 8) 8) 8).toUInt8.toNat) * 256 + (shr_u64 (shr_u64 n 8) 8).toUInt8.toNat) * 256 + (shr_u64 n 8).toUInt8.toNat) * 256 + n.toUInt8.toNat = _
 rw [low8, low8, low8, low8, shr64, shr64, shr64]
 omega
theorem big_step {size : Int} {n : UInt64} {s : List UInt8} {k : Nat} (hk : (k : Int) < size) (hs : s.length ≤ 8) (hk8 : k < 8) : g_ref_big_l0 size (n, s, (k : Int)) = some (.inl (shr_u64 n 8, [n.toUInt8] ++ s, ((k + 1 : Nat) : Int))) := by
 unfold g_ref_big_l0
 dsimp only
 rw [if_pos hk, if_pos (by rw [List.length_singleton]; omega), w64_succ (by omega)]
theorem big_end {size : Int} {n : UInt64} {s : List UInt8} {k : Nat} (hk : ¬ (k : Int) < size) : g_ref_big_l0 size (n, s, (k : Int)) = some (.inr s) := by
 unfold g_ref_big_l0
 dsimp only
 rw [if_neg hk]
theorem big2_eq (n : UInt64) : g_ref_big n 2 = some (big2 n) := by
 unfold g_ref_big
 rw [show ((0 : Int)) = ((0 : Nat) : Int) from rfl, loopO_next (big_step (by decide) (by simp only [List.length_append, List.length_cons, List.length_nil]; omega) (by decide)), loopO_next (big_step (by decide) (by simp only [List.length_append, List.length_cons, List.length_nil]; omega) (by decide)), loopO_done (big_end (by decide))]
 rfl
theorem big4_eq (n : UInt64) : g_ref_big n 4 = some (big4 n) := by
 unfold g_ref_big
 rw [show ((0 : Int)) = ((0 : Nat) : Int) from rfl, loopO_next (big_step (by decide) (by simp only [List.length_append, List.length_cons, List.length_nil]; omega) (by decide)), loopO_next (big_step (by decide) (by simp only [List.length_append, List.length_cons, List.length_nil]; omega) (by decide)), loopO_next (big_step (by decide) (by simp only [List.length_append, List.length_cons, List.length_nil]; omega) (by decide)), loopO_next (big_step (by decide) (by simp only [List.length_append, List.length_cons, List.length_nil]; omega) (by decide)), loopO_done (big_end (by decide))]
 rfl
theorem record_eq {r : List UInt8} (hr : r.length ≤ 12800) {c : UInt32} (hc : g_ref_Checked r = some c) : g_ref_recordText r = some ((big2 (UInt64.ofInt (r.length : Int)) ++ big4 c.toUInt64) ++ r) := by
 unfold g_ref_recordText
 rw [big2_eq, Option.bind_some, hc, Option.bind_some, big4_eq, Option.bind_some, if_pos (by show 2 + 4 ≤ _; decide), if_pos (by
  rw [List.length_append]
  show 2 + 4 + r.length ≤ _
  omega)]
theorem open_rel : ∀ (m : Nat) (s : List UInt8) (out : List (List UInt8)), s.length ≤ m → s.length ≤ 12800 → out.length + s.length ≤ 12800 →
  ∃ r, loopO g_tape_Open_l0 (s, out) = some r ∧ loopO g_ref_RecordsOf_l0 (s, out) = some r ∧ (match r with | .inl y => y.1 = [] | .inr y => y.length ≤ 12800) := by
 intro m
 induction m with
 | zero =>
  intro s out hm hs ho
  have : s = [] := List.eq_nil_of_length_eq_zero (by omega)
  subst this
  refine ⟨.inr out, loopO_done ?_, loopO_done ?_, by dsimp only; omega⟩
  ·unfold g_tape_Open_l0
   dsimp only
   rw [if_neg (by decide)]
  ·unfold g_ref_RecordsOf_l0
   dsimp only
   rw [if_neg (fun q => q rfl)]
 | succ m ih =>
  intro s out hm hs ho
  by_cases hne : s = []
  ·subst hne
   refine ⟨.inr out, loopO_done ?_, loopO_done ?_, by dsimp only; omega⟩
   ·unfold g_tape_Open_l0
    dsimp only
    rw [if_neg (by decide)]
   ·unfold g_ref_RecordsOf_l0
    dsimp only
    rw [if_neg (fun q => q rfl)]
  ·have hpos : 0 < s.length := List.length_pos_iff.2 hne
   have hc02 : cut s (0 : Int) 2 = s.take 2 := by
    show (s.drop 0).take 2 = _
    rw [List.drop_zero]
   have hn2 : (s.take 2).length ≤ 2 := by rw [List.length_take]; omega
   have hlt2 : numN (s.take 2) < 65536 := Nat.lt_of_lt_of_le (numN_lt _) (Nat.le_trans (pow256 hn2) (by decide))
   obtain ⟨x, hx1, hx2⟩ := rnum_eq (l := s.take 2) (by omega)
   have hwx : w64 (x.toNat : Int) = ((numN (s.take 2) : Nat) : Int) := by rw [hx2, w64_id (by omega)]
   -- the document's length
   have hj : (if (s.length : Int) ≥ 2 then if (0 : Int) ≤ 2 ∧ (2 : Int) ≤ (s.length : Int) then (g_ref_number (cut s (0 : Int) 2)).bind fun r'3 => some (w64 (r'3.toNat : Int)) else none else some (0 : Int)) = some (if 2 ≤ s.length then ((numN (s.take 2) : Nat) : Int) else 0) := by
    by_cases h2 : 2 ≤ s.length
    ·rw [if_pos (by omega), if_pos (by omega), hc02, hx1, Option.bind_some, hwx, if_pos h2]
    ·rw [if_neg (by omega), if_neg h2]
   by_cases h6 : s.length < 6
   ·refine ⟨.inl ([], 11), loopO_done ?_, loopO_done ?_, rfl⟩
    ·unfold g_tape_Open_l0
     dsimp only
     rw [if_pos (by omega), if_pos (by omega)]
    ·unfold g_ref_RecordsOf_l0
     dsimp only
     rw [if_pos hne, hj, Option.bind_some]
     have hw : ∀ n : Nat, n < 65536 → w64 (6 + (n : Int)) = 6 + (n : Int) := fun n hn => w64_id (by omega)
     rw [if_pos]
     by_cases h2 : 2 ≤ s.length
     ·rw [if_pos h2]
      right
      rw [hw _ hlt2]
      omega
     ·rw [if_neg h2]
      exact .inl (.inl rfl)
   ·obtain ⟨n, hn⟩ : ∃ n, n = numN (s.take 2) := ⟨_, rfl⟩
    rw [← hn] at hlt2 hj
    rw [if_pos (show 2 ≤ s.length by omega)] at hj
    have hw6 : w64 (6 + (n : Int)) = ((6 + n : Nat) : Int) := by rw [w64_id (by omega)]; omega
    have hwl : w64 ((s.length : Int) - 6) = ((s.length - 6 : Nat) : Int) := by rw [w64_id (by omega)]; omega
    have hp2 : g_tape_number (cut s (0 : Int) 2) = some (n : Int) := by rw [hc02, tnum_eq (by omega), ← hn]
    by_cases hbad : n < 1 ∨ n > 310 ∨ n > s.length - 6
    ·refine ⟨.inl ([], 11), loopO_done ?_, loopO_done ?_, rfl⟩
     ·unfold g_tape_Open_l0
      dsimp only
      rw [if_pos (by omega), if_neg (by omega), if_pos (by omega), hp2, Option.bind_some, hwl]
      by_cases a : (n : Int) < 1
      ·rw [if_pos a, Option.bind_some, if_pos rfl]
      ·rw [if_neg a]
       by_cases b : (n : Int) > 310
       ·rw [if_pos b, Option.bind_some, if_pos rfl]
       ·rw [if_neg b, if_pos (by omega), Option.bind_some, if_pos rfl]
     ·unfold g_ref_RecordsOf_l0
      dsimp only
      rw [if_pos hne, hj, Option.bind_some, hw6, if_pos (by omega)]
    ·have h26 : cut s (2 : Int) 6 = (s.drop 2).take 4 := rfl
     have hl4 : ((s.drop 2).take 4).length = 4 := by rw [List.length_take, List.length_drop]; omega
     have hc6 : cut s (6 : Int) ((6 + n : Nat) : Int) = (s.drop 6).take n := by
      show (s.drop 6).take (((6 + n : Nat) : Int).toNat - 6) = _
      rw [Int.toNat_natCast, show 6 + n - 6 = n by omega]
     have hlr : ((s.drop 6).take n).length = n := by rw [List.length_take, List.length_drop]; omega
     have hc0 : cut s (0 : Int) ((6 + n : Nat) : Int) = (s.take 2 ++ (s.drop 2).take 4) ++ (s.drop 6).take n := by
      show (s.drop 0).take (((6 + n : Nat) : Int).toNat - 0) = _
      rw [List.drop_zero, Int.toNat_natCast, Nat.sub_zero, List.take_add, show 6 = 2 + 4 from rfl, List.take_add]
     have hrest : cut s ((6 + n : Nat) : Int) (s.length : Int) = s.drop (6 + n) := by
      show (s.drop ((6 + n : Nat) : Int).toNat).take ((s.length : Int).toNat - ((6 + n : Nat) : Int).toNat) = _
      rw [Int.toNat_natCast, Int.toNat_natCast, List.take_of_length_le (by rw [List.length_drop]; omega)]
     obtain ⟨c, hcp, hcr⟩ := crc_ok ((s.drop 6).take n) (by omega)
     have hrec := record_eq (r := (s.drop 6).take n) (by omega) hcr
     rw [hlr] at hrec
     have hcn : c.toUInt64.toNat = c.toNat := UInt32.toNat_toUInt64 c
     have hclt : c.toNat < 4294967296 := c.toNat_lt
     have hM : numN ((s.drop 2).take 4) < 4294967296 := Nat.lt_of_lt_of_le (numN_lt _) (by rw [hl4]; decide)
     have hon : (UInt64.ofInt (n : Int)).toNat = n := by
      unfold UInt64.ofInt
      rw [UInt64.toNat_ofNat']
      have e1 : (2 : Int) ^ 64 = 18446744073709551616 := by decide
      have e2 : (2 : Nat) ^ 64 = 18446744073709551616 := by decide
      omega
     have hb2 : big2 (UInt64.ofInt (n : Int)) = s.take 2 := numN_inj (by rw [List.length_take]; show 2 = min 2 s.length; omega) (by rw [big2_num (by omega), hon, hn])
     have hsame : (big2 (UInt64.ofInt (n : Int)) ++ big4 c.toUInt64) ++ (s.drop 6).take n ≠ (s.take 2 ++ (s.drop 2).take 4) ++ (s.drop 6).take n ↔ UInt32.ofInt ((numN ((s.drop 2).take 4) : Nat) : Int) ≠ c := by
      rw [hb2]
      refine not_congr ?_
      have h4 : (big4 c.toUInt64 = (s.drop 2).take 4) ↔ numN ((s.drop 2).take 4) = c.toNat := by
       constructor
       ·intro h
        rw [← h, big4_num (by omega), hcn]
       ·intro h
        exact numN_inj (by rw [hl4]; rfl) (by rw [big4_num (by omega), hcn, h])
      have h5 : UInt32.ofInt ((numN ((s.drop 2).take 4) : Nat) : Int) = c ↔ numN ((s.drop 2).take 4) = c.toNat := by
       have e : (UInt32.ofInt ((numN ((s.drop 2).take 4) : Nat) : Int)).toNat = numN ((s.drop 2).take 4) := by
        unfold UInt32.ofInt
        rw [UInt32.toNat_ofNat']
        have e1 : (2 : Int) ^ 32 = 4294967296 := by decide
        have e2 : (2 : Nat) ^ 32 = 4294967296 := by decide
        omega
       constructor
       ·intro h; rw [← h, e]
       ·intro h; exact UInt32.toNat_inj.1 (by rw [e, h])
      rw [h5, ← h4, List.append_left_inj, List.append_right_inj]
     by_cases hcc : UInt32.ofInt ((numN ((s.drop 2).take 4) : Nat) : Int) ≠ c
     ·refine ⟨.inl ([], 11), loopO_done ?_, loopO_done ?_, rfl⟩
      ·unfold g_tape_Open_l0
       dsimp only
       rw [if_pos (by omega), if_neg (by omega), if_pos (by omega), hp2, Option.bind_some, hwl, if_neg (by omega), if_neg (by omega), if_neg (by omega), if_pos (by omega), h26, tnum_eq (by omega), Option.bind_some, hw6, if_pos (by omega), hc6, hcp, Option.bind_some, decide_eq_true hcc, Option.bind_some, if_pos rfl]
      ·unfold g_ref_RecordsOf_l0
       dsimp only
       rw [if_pos hne, hj, Option.bind_some, hw6, if_neg (by omega), if_pos (by omega), hc6, hrec, Option.bind_some, if_pos (by omega), hc0, if_pos (hsame.2 hcc)]
     ·obtain ⟨r, q1, q2, q3⟩ := ih (s.drop (6 + n)) (out ++ [(s.drop 6).take n]) (by rw [List.length_drop]; omega) (by rw [List.length_drop]; omega) (by rw [List.length_append, List.length_singleton, List.length_drop]; omega)
      refine ⟨r, (loopO_next ?_).trans q1, (loopO_next ?_).trans q2, q3⟩
      ·unfold g_tape_Open_l0
       dsimp only
       rw [if_pos (by omega), if_neg (by omega), if_pos (by omega), hp2, Option.bind_some, hwl, if_neg (by omega), if_neg (by omega), if_neg (by omega), if_pos (by omega), h26, tnum_eq (by omega), Option.bind_some, hw6, if_pos (show (0 : Int) ≤ 6 ∧ (6 : Int) ≤ ((6 + n : Nat) : Int) ∧ ((6 + n : Nat) : Int) ≤ (s.length : Int) by omega), hc6, hcp, Option.bind_some, decide_eq_false hcc, Option.bind_some, if_neg (by decide), if_pos (show (0 : Int) ≤ 6 ∧ (6 : Int) ≤ ((6 + n : Nat) : Int) ∧ ((6 + n : Nat) : Int) ≤ (s.length : Int) by omega), if_pos (show room _ _ by simp only [room, List.length_nil, hlr]; omega), if_pos (show room _ _ by simp only [room, List.length_cons, List.length_nil]; omega), letO_eq, if_pos (by omega), hrest]
       rfl
      ·unfold g_ref_RecordsOf_l0
       dsimp only
       rw [if_pos hne, hj, Option.bind_some, hw6, if_neg (by omega), if_pos (by omega), hc6, hrec, Option.bind_some, if_pos (by omega), hc0, if_neg (fun q => hcc (hsame.1 q)), if_pos (show room _ _ by simp only [room, List.length_cons, List.length_nil]; omega), letO_eq, if_pos (by omega), hrest]
theorem sameLists_own {l : List (List UInt8)} (hl : l.length ≤ 12800) : g_law_sameLists l l = some true := by
 unfold g_law_sameLists
 obtain ⟨r, h1, h2⟩ := loopO_times (step := g_law_sameLists_l0 l l) l.length (fun k (_ : Unit) => (k : Int)) (fun _ _ => True) (fun r => r = .inr ()) (fun k _ hk _ => .inl ⟨(), by
  unfold g_law_sameLists_l0
  dsimp only
  rw [if_pos (natLt hk), if_pos (natIn hk), if_pos (natIn hk), if_neg (fun q => q rfl), w64_succ (by omega)], trivial⟩) (fun _ _ => ⟨.inr (), by
  unfold g_law_sameLists_l0
  dsimp only
  rw [if_neg natNlt], rfl⟩) (s := ()) trivial
 rw [if_neg (fun q => q rfl), show ((0 : Int)) = ((0 : Nat) : Int) from rfl, h1, h2]
 rfl
theorem g_law_TapeOpens_true {x0 : GDisk} (q0 : GDisk.ok x0) : g_law_TapeOpens x0 = some true := by
 obtain ⟨r, h1, h2, h3⟩ := good_alike q0
 have key : ∃ y : List (List UInt8) × Int, g_tape_Open x0 = some y ∧ g_ref_RecordsOf x0 = some y ∧ y.1.length ≤ 12800 := by
  unfold g_tape_Open g_ref_RecordsOf
  rw [h1, h2, Option.bind_some, Option.bind_some]
  by_cases he : r.2 ≠ 0
  ·rw [if_pos he, if_pos he]
   exact ⟨_, rfl, rfl, Nat.zero_le _⟩
  ·rw [if_neg he, if_neg he]
   obtain ⟨o, g1, g2, g3⟩ := open_rel r.1.length r.1 [] (Nat.le_refl _) h3 (by rw [List.length_nil]; omega)
   rw [g1, g2, Option.bind_some]
   cases o with
   | inl y =>
    have hy : y.1 = [] := g3
    exact ⟨y, rfl, rfl, by rw [hy]; exact Nat.zero_le _⟩
   | inr y => exact ⟨_, rfl, rfl, g3⟩
 obtain ⟨y, g1, g2, g3⟩ := key
 unfold g_law_TapeOpens
 rw [g1, g2, Option.bind_some, Option.bind_some, if_pos rfl, sameLists_own g3]
 rfl
end Go.Proofs.Ytglgdaeimfdpfaa.VM
