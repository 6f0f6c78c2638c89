/- Words and rules that the proof uses. -/
import Derived.Test.YtfekkhinjdmcbaaDoorPuCode2
import Derived.Test.YtfekkhinjdmcbaaDoorPuBits
namespace Go.Proofs.YtfekkhinjdmcbaaDoor.VM
open Go Go.RowKit
theorem flip_byte (c : UInt8) : (255 : UInt8) - c = c ^^^ 255 := by
 apply UInt8.toBitVec_inj.1
 show BitVec.allOnes 8 - c.toBitVec = c.toBitVec ^^^ BitVec.allOnes 8
 rw [BitVec.xor_allOnes, BitVec.allOnes_sub_eq_not]
theorem flipped_eq {s : List UInt8} (hs : s.length < 9223372036854775807) : g_ref_flipped s = some (s.map (· ^^^ 255)) := by
 unfold g_ref_flipped
 obtain ⟨r, h1, h2⟩ := loopO_times (step := g_ref_flipped_l0 s) s.length (fun k (t : List UInt8) => ((k : Int), t)) (fun k t => t = (s.take k).map (· ^^^ 255) ++ s.drop k) (fun r => r = s.map (· ^^^ 255)) (fun k t hk ht => .inl ⟨(s.take (k + 1)).map (· ^^^ 255) ++ s.drop (k + 1), by
   have hl : t.length = s.length := by rw [ht, List.length_append, List.length_map, List.length_take, List.length_drop]; omega
   unfold g_ref_flipped_l0
   dsimp only
   rw [if_pos (natLt hk), if_pos (by rw [hl]; exact natIn hk), if_pos (by rw [hl]; exact natIn hk), Int.toNat_natCast, w64_succ (by omega)]
   congr 3
   have hm : ((s.take k).map (· ^^^ (255 : UInt8))).length = k := by rw [List.length_map, List.length_take]; omega
   have h3 : lrd t k = lrd s k := by rw [ht, lrd_app_ge (by omega), hm, Nat.sub_self, drop_step hk, lrd_cons_zero]
   rw [h3, ht, flip_byte, drop_step hk, List.set_append_right _ _ (by omega), hm, Nat.sub_self, List.set_cons_zero, take_step hk, List.map_append, List.append_assoc]
   rfl, rfl⟩) (fun t ht => ⟨t, by
   unfold g_ref_flipped_l0
   dsimp only
   rw [if_neg natNlt], by rw [ht, List.drop_length, List.append_nil, List.take_length]⟩) (s := s) (by rw [List.take_zero, List.drop_zero]; rfl)
 rw [show ((0 : Int)) = ((0 : Nat) : Int) from rfl, h1, h2]
 rfl
theorem rest_zero (b : List UInt8) (k : Nat) : restB9 b 0 k = b.drop k := by
 unfold restB9
 have : (fun c : UInt8 => c ^^^ 0) = id := by funext c; simp
 rw [this, List.map_id]
theorem bit_keep (d : Int) {i : Nat} (hi : i < 63) : (iand (ishr d i) (1 : Int) = (1 : Int)) ↔ (iand d (ishl (1 : Int) i) ≠ (0 : Int)) := by
 have := keep_eq d hi
 rwa [decide_eq_decide] at this
theorem rows_rel {b : List UInt8} {d : Int} {N : Nat} (hb : b.length < 9223372036854775000) (hN : N ≤ 5) : ∀ (m i k : Nat) (out : List GValue) (fl : UInt8), N - i ≤ m → i ≤ N → k ≤ b.length → out.length = i →
  ∃ r : Int ⊕ (Nat × List GValue), (∀ k' o, r = .inr (k', o) → k' ≤ b.length ∧ o.length ≤ 5) ∧
   loopO (g_code_Decode_l0 (N : Int) d) ((i : Int), b, (k : Int), fl, out) = some (match r with | .inl e => .inl ([], e) | .inr q => .inr (b, (q.1 : Int), q.2)) ∧
   loopO (g_ref_RowOf_l0 (N : Int) d) (b.drop k, (i : Int), out) = some (match r with | .inl e => .inl ([], e) | .inr q => .inr (b.drop q.1, q.2)) := by
 intro m
 induction m with
 | zero =>
  intro i k out fl hm hi hk ho
  refine ⟨.inr (k, out), fun k' o h => by cases h; omega, ?_, ?_⟩
  ·rw [loopO_done]
   unfold g_code_Decode_l0
   dsimp only
   rw [if_neg (by omega)]
  ·rw [loopO_done]
   unfold g_ref_RowOf_l0
   dsimp only
   rw [if_neg (by omega)]
 | succ m ih =>
  intro i k out fl hm hi hk ho
  by_cases h : i < N
  ·obtain ⟨f, hf⟩ : ∃ f : UInt8, f = if iand (ishr d i) (1 : Int) = (1 : Int) then 255 else 0 := ⟨_, rfl⟩
   have hflip : ((g_ref_downs d (i : Int)).bind fun r'2 => (if r'2 = true then (g_ref_flipped (b.drop k)).bind fun r'3 => some r'3 else some (b.drop k))) = some (restB9 b f k) := by
    unfold g_ref_downs
    rw [if_pos (by omega), Option.bind_some, Int.toNat_natCast]
    by_cases hd : iand (ishr d i) (1 : Int) = (1 : Int)
    ·rw [if_pos hd] at hf
     rw [if_pos (decide_eq_true ((bit_keep d (by omega)).1 hd)), flipped_eq (by rw [List.length_drop]; omega), hf]
     rfl
    ·rw [if_neg hd] at hf
     rw [if_neg (by rw [decide_eq_false (fun q => hd ((bit_keep d (by omega)).2 q))]; decide), hf, rest_zero]
   have hflag : (if 0 ≤ (i : Int) then (if iand (ishr d (i : Int).toNat) (1 : Int) = (1 : Int) then some (255 : UInt8) else some (0 : UInt8)) else none) = some f := by
    rw [if_pos (by omega), hf, Int.toNat_natCast]
    split <;> rfl
   obtain ⟨R, h1, h2, ⟨a', h3⟩, h4⟩ := read_eq (fl := f) hb hk
   cases R with
   | inl e =>
    dsimp only at h3 h4
    refine ⟨.inl e, (fun k' o h => by cases h), loopO_done ?_, loopO_done ?_⟩
    ·unfold g_code_Decode_l0
     dsimp only
     rw [if_pos (by omega), hflag, Option.bind_some, h3, Option.bind_some]
     dsimp only
     rw [if_pos (h1 e rfl)]
    ·unfold g_ref_RowOf_l0
     dsimp only
     rw [if_pos (by omega), hflip, Option.bind_some, h4, Option.bind_some]
     dsimp only
     rw [if_pos (h1 e rfl)]
   | inr r =>
    dsimp only at h3 h4
    have hle := h2 r.1 r.2 rfl
    obtain ⟨r2, g1, g2, g3⟩ := ih (i + 1) (k + r.2) (out ++ [r.1]) f (by omega) (by omega) hle (by rw [List.length_append, List.length_singleton]; omega)
    refine ⟨r2, g1, (loopO_next ?_).trans g2, (loopO_next ?_).trans g3⟩
    ·unfold g_code_Decode_l0
     dsimp only
     rw [if_pos (by omega), hflag, Option.bind_some, h3, Option.bind_some]
     dsimp only
     rw [if_neg (fun q => q rfl), if_pos (show room _ _ by simp only [room, List.length_cons, List.length_nil]; omega), w64_succ (by omega)]
    ·unfold g_ref_RowOf_l0
     dsimp only
     rw [if_pos (by omega), hflip, Option.bind_some, h4, Option.bind_some]
     dsimp only
     rw [if_neg (fun q => q rfl), if_pos (show room _ _ by simp only [room, List.length_cons, List.length_nil]; omega), if_pos (by rw [List.length_drop]; omega), w64_succ (by omega)]
     have hc : cut (b.drop k) (r.2 : Int) ((b.drop k).length : Int) = b.drop (k + r.2) := by
      show ((b.drop k).drop (r.2 : Int).toNat).take (((b.drop k).length : Int).toNat - (r.2 : Int).toNat) = _
      rw [Int.toNat_natCast, Int.toNat_natCast, List.drop_drop, List.take_of_length_le (by rw [List.length_drop, List.length_drop]; omega)]
     rw [hc]
  ·refine ⟨.inr (k, out), fun k' o h => by cases h; omega, ?_, ?_⟩
   ·rw [loopO_done]
    unfold g_code_Decode_l0
    dsimp only
    rw [if_neg (by omega)]
   ·rw [loopO_done]
    unfold g_ref_RowOf_l0
    dsimp only
    rw [if_neg (by omega)]
theorem sameRow_own (a : List GValue) (h : a.length ≤ 5) : g_law_sameRow a a = some true := by
 unfold g_law_sameRow
 obtain ⟨r, h1, h2⟩ := loopO_times (step := g_law_sameRow_l0 a a) a.length (fun k (_ : Unit) => (k : Int)) (fun _ _ => True) (fun r => r = .inr ()) (fun k _ hk _ => .inl ⟨(), by
  unfold g_law_sameRow_l0
  dsimp only
  rw [if_pos (natLt hk), if_pos (natIn hk), if_pos (natIn hk), if_neg (fun q => q rfl), w64_succ (by omega)], trivial⟩) (fun _ _ => ⟨.inr (), by
  unfold g_law_sameRow_l0
  dsimp only
  rw [if_neg natNlt], rfl⟩) (s := ()) trivial
 rw [if_neg (fun q => q rfl), show ((0 : Int)) = ((0 : Nat) : Int) from rfl, h1, h2]
 rfl
theorem decode_eq {x0 : List UInt8} {x1 x2 : Int} (hb2 : x0.length < 9223372036854775000) : ∃ r : List GValue × Int, r.1.length ≤ 5 ∧ g_code_Decode x0 x1 x2 = some r ∧ g_ref_RowOf x0 x1 x2 = some r := by
 unfold g_code_Decode g_ref_RowOf
 by_cases hn : x1 < 0 ∨ x1 > 5
 ·rw [if_pos hn, if_pos hn]
  exact ⟨_, by decide, rfl, rfl⟩
 ·rw [if_neg hn, if_neg hn]
  obtain ⟨N, rfl⟩ := Int.eq_ofNat_of_zero_le (show 0 ≤ x1 by omega)
  obtain ⟨r, h1, h2, h3⟩ := rows_rel (d := x2) hb2 (show N ≤ 5 by omega) N 0 0 [] 0 (by omega) (by omega) (by omega) rfl
  rw [List.drop_zero] at h3
  rw [show ((0 : Int)) = ((0 : Nat) : Int) from rfl, h2, h3, Option.bind_some, Option.bind_some]
  cases r with
  | inl e => exact ⟨([], e), Nat.zero_le _, rfl, rfl⟩
  | inr q =>
   obtain ⟨k', o⟩ := q
   obtain ⟨h4, h5⟩ := h1 k' o rfl
   dsimp only
   by_cases hk : k' = x0.length
   ·subst hk
    rw [if_neg (fun q => q rfl), if_neg (fun q => q (List.drop_length))]
    exact ⟨_, h5, rfl, rfl⟩
   ·have hne : x0.drop k' ≠ [] := by
     intro q
     have := congrArg List.length q
     rw [List.length_drop, List.length_nil] at this
     omega
    rw [if_pos (by omega), if_pos hne]
    exact ⟨_, by decide, rfl, rfl⟩
end Go.Proofs.YtfekkhinjdmcbaaDoor.VM
