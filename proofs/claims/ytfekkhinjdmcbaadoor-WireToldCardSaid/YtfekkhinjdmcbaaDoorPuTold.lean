/- Words and rules that the proof uses. -/
import Derived.Test.YtfekkhinjdmcbaaDoorPuCode3
namespace Go.Proofs.YtfekkhinjdmcbaaDoor.VM
open Go Go.RowKit
theorem two_bytes (x y : UInt8) : ior (ishl (x.toNat : Int) 8) (y.toNat : Int) = ((256 * x.toNat + y.toNat : Nat) : Int) := by
 have hx := x.toNat_lt
 have hy := y.toNat_lt
 have h1 : ishl (x.toNat : Int) 8 = ((256 * x.toNat : Nat) : Int) := by
  show w64 ((x.toNat : Int) * 2 ^ min 8 64) = _
  rw [show ((2 : Int) ^ min 8 64) = 256 by decide, w64_id (by omega)]
  omega
 rw [h1]
 show w64 (((BitVec.ofInt 64 ((256 * x.toNat : Nat) : Int)) ||| (BitVec.ofInt 64 (y.toNat : Int))).toNat : Int) = _
 have h2 : (BitVec.ofInt 64 ((256 * x.toNat : Nat) : Int)).toNat = x.toNat <<< 8 := by
  rw [BitVec.toNat_ofInt, Nat.shiftLeft_eq]
  have e : (((2 : Nat) ^ 64 : Nat) : Int) = 18446744073709551616 := by decide
  rw [e]
  omega
 have h3 : (BitVec.ofInt 64 (y.toNat : Int)).toNat = y.toNat := by
  rw [BitVec.toNat_ofInt]
  have e : (((2 : Nat) ^ 64 : Nat) : Int) = 18446744073709551616 := by decide
  rw [e]
  omega
 rw [BitVec.toNat_or, h2, h3, ← Nat.shiftLeft_add_eq_or_of_lt (show y.toNat < 2 ^ 8 from hy), Nat.shiftLeft_eq, w64_id (by omega)]
 omega
theorem num_two (x y : UInt8) : ([x, y].foldl stepN 0).toNat = 256 * x.toNat + y.toNat := by
 have hx := x.toNat_lt
 have hy := y.toNat_lt
 show ((0 * 256 + x.toUInt64) * 256 + y.toUInt64 : UInt64).toNat = _
 rw [UInt64.toNat_add, UInt64.toNat_mul, UInt64.toNat_add, UInt64.toNat_mul, UInt8.toNat_toUInt64, UInt8.toNat_toUInt64]
 show ((0 * 256 % 18446744073709551616 + x.toNat) % 18446744073709551616 * 256 % 18446744073709551616 + y.toNat) % 18446744073709551616 = _
 omega
def Fine (r : (GReply × Int) ⊕ (List UInt8 × List (List GValue))) : Prop := match r with
 | .inl y => y.1 = GReply.zero
 | .inr y => y.2.length ≤ 64 ∧ ∀ x ∈ y.2, x.length ≤ 5
theorem told_rel {b0 : List UInt8} : ∀ (m k : Nat) (b : List UInt8) (rows : List (List GValue)), k + m = (lrd b0 2).toNat → (lrd b0 2).toNat ≤ 64 → rows.length = k → (∀ x ∈ rows, x.length ≤ 5) → b.length < 9223372036854700000 →
  ∃ r, loopO (g_wire_Told_l0 b0) (b, (k : Int), rows) = some r ∧ loopO g_ref_ReplyOf_l0 (b, (m : Int), rows) = some r ∧ Fine r := by
 intro m
 induction m with
 | zero =>
  intro k b rows hk hn hr hx hb
  refine ⟨.inr (b, rows), loopO_done ?_, loopO_done ?_, (show rows.length ≤ 64 by omega), hx⟩
  ·unfold g_wire_Told_l0
   dsimp only
   rw [if_neg (by omega)]
  ·unfold g_ref_ReplyOf_l0
   dsimp only
   rw [if_neg (by omega)]
 | succ m ih =>
  intro k b rows hk hn hr hx hb
  by_cases hl : (b.length : Int) < 3
  ·refine ⟨.inl (GReply.zero, 4), loopO_done ?_, loopO_done ?_, rfl⟩
   ·unfold g_wire_Told_l0
    dsimp only
    rw [if_pos (by omega), if_pos hl]
   ·unfold g_ref_ReplyOf_l0
    dsimp only
    rw [if_pos (by omega), if_pos hl]
  ·have hM : (256 * (lrd b 1).toNat + (lrd b 2).toNat) < 65536 := by
    have h1 := (lrd b 1).toNat_lt
    have h2 := (lrd b 2).toNat_lt
    omega
   obtain ⟨M, hMe⟩ : ∃ M, M = 256 * (lrd b 1).toNat + (lrd b 2).toNat := ⟨_, rfl⟩
   rw [← hMe] at hM
   have hc3 : cut b (3 : Int) (b.length : Int) = b.drop 3 := by
    show (b.drop 3).take ((b.length : Int).toNat - 3) = _
    rw [Int.toNat_natCast, List.take_of_length_le (by rw [List.length_drop]; omega)]
   have hd3 : (b.drop 3).length = b.length - 3 := List.length_drop
   have hc13 : cut b (1 : Int) 3 = [lrd b 1, lrd b 2] := by
    show (b.drop 1).take 2 = _
    rw [drop_step (show 1 < b.length by omega), drop_step (show 1 + 1 < b.length by omega)]
    rfl
   have hnum : g_ref_number (cut b (1 : Int) 3) = some ([lrd b 1, lrd b 2].foldl stepN 0) := by
    rw [hc13]
    exact number_eq (by show 2 < 9223372036854775807; decide)
   have hw : w64 ((([lrd b 1, lrd b 2].foldl stepN 0).toNat : Nat) : Int) = (M : Int) := by
    rw [num_two, ← hMe, w64_id (by omega)]
   have hw3 : w64 (3 + (M : Int)) = ((3 + M : Nat) : Int) := by rw [w64_id (by omega)]; omega
   have hpm : ior (ishl ((lrd b 1).toNat : Int) 8) ((lrd b 2).toNat : Int) = (M : Int) := by rw [two_bytes, ← hMe]
   by_cases hs : b.length - 3 < M
   ·refine ⟨.inl (GReply.zero, 4), loopO_done ?_, loopO_done ?_, rfl⟩
    ·unfold g_wire_Told_l0
     dsimp only
     rw [if_pos (by omega), if_neg hl, if_pos (by omega), if_pos (by omega), if_pos (by omega), if_pos (by omega), hpm, hc3, hd3, if_pos (by omega)]
    ·unfold g_ref_ReplyOf_l0
     dsimp only
     rw [if_pos (by omega), if_neg hl, if_pos (by omega), hnum, Option.bind_some, hw, hw3, if_pos (by omega)]
   ·have hrow : cut (b.drop 3) (0 : Int) (M : Int) = (b.drop 3).take M := by
     show ((b.drop 3).drop 0).take ((M : Int).toNat - 0) = _
     rw [Int.toNat_natCast, List.drop_zero, Nat.sub_zero]
    have hrow2 : cut b (3 : Int) ((3 + M : Nat) : Int) = (b.drop 3).take M := by
     show (b.drop 3).take (((3 + M : Nat) : Int).toNat - 3) = _
     rw [Int.toNat_natCast, show 3 + M - 3 = M by omega]
    have hrest : cut (b.drop 3) (M : Int) ((b.length - 3 : Nat) : Int) = b.drop (3 + M) := by
     show ((b.drop 3).drop (M : Int).toNat).take (((b.length - 3 : Nat) : Int).toNat - (M : Int).toNat) = _
     rw [Int.toNat_natCast, Int.toNat_natCast, List.drop_drop, List.take_of_length_le (by rw [List.length_drop]; omega)]
    have hrest2 : cut b ((3 + M : Nat) : Int) (b.length : Int) = b.drop (3 + M) := by
     show (b.drop ((3 + M : Nat) : Int).toNat).take ((b.length : Int).toNat - ((3 + M : Nat) : Int).toNat) = _
     rw [Int.toNat_natCast, Int.toNat_natCast, List.take_of_length_le (by rw [List.length_drop]; omega)]
    obtain ⟨r, r0, r1, r2⟩ := decode_eq (x0 := (b.drop 3).take M) (x1 := ((lrd b 0).toNat : Int)) (x2 := 0) (by rw [List.length_take]; omega)
    by_cases he : r.2 ≠ 0
    ·refine ⟨.inl (GReply.zero, r.2), loopO_done ?_, loopO_done ?_, rfl⟩
     ·unfold g_wire_Told_l0
      dsimp only
      rw [if_pos (by omega), if_neg hl, if_pos (by omega), if_pos (by omega), if_pos (by omega), if_pos (by omega), hpm, hc3, hd3, if_neg (by omega), if_pos (by omega), hrow, r1, Option.bind_some, if_pos he]
     ·unfold g_ref_ReplyOf_l0
      dsimp only
      rw [if_pos (by omega), if_neg hl, if_pos (by omega), hnum, Option.bind_some, hw, hw3, if_neg (by omega), if_pos (by omega), if_pos (by omega), hrow2, r2, Option.bind_some, if_pos he]
    ·obtain ⟨q, q1, q2, q3⟩ := ih (k + 1) (b.drop (3 + M)) (rows ++ [r.1]) (by omega) hn (by rw [List.length_append, List.length_singleton]; omega) (fun x hxm => by
      rcases List.mem_append.1 hxm with h | h
      ·exact hx x h
      ·rw [List.mem_singleton.1 h]; exact r0) (by rw [List.length_drop]; omega)
     refine ⟨q, (loopO_next ?_).trans q1, (loopO_next ?_).trans q2, q3⟩
     ·unfold g_wire_Told_l0
      dsimp only
      rw [if_pos (by omega), if_neg hl, if_pos (by omega), if_pos (by omega), if_pos (by omega), if_pos (by omega), hpm, hc3, hd3, if_neg (by omega), if_pos (by omega), hrow, r1, Option.bind_some, if_neg he, if_pos (show room _ _ by simp only [room, List.length_cons, List.length_nil]; omega), if_pos (by omega), letO_eq, hrest, w64_succ (by omega)]
     ·unfold g_ref_ReplyOf_l0
      dsimp only
      rw [if_pos (by omega), if_neg hl, if_pos (by omega), hnum, Option.bind_some, hw, hw3, if_neg (by omega), if_pos (by omega), if_pos (by omega), hrow2, r2, Option.bind_some, if_neg he, if_pos (show room _ _ by simp only [room, List.length_cons, List.length_nil]; omega), if_pos (by omega), letO_eq, hrest2, show w64 (((m + 1 : Nat) : Int) - 1) = (m : Int) by rw [w64_id (by omega)]; omega]
theorem sameRows_own {l : List (List GValue)} (hl : l.length ≤ 64) (hr : ∀ x ∈ l, x.length ≤ 5) : g_law_sameRows l l = some true := by
 unfold g_law_sameRows
 obtain ⟨r, h1, h2⟩ := loopO_times (step := g_law_sameRows_l0 l l) l.length (fun k (_ : Unit) => (k : Int)) (fun _ _ => True) (fun r => r = .inr ()) (fun k _ hk _ => .inl ⟨(), by
  unfold g_law_sameRows_l0
  dsimp only
  rw [if_pos (natLt hk), if_pos (natIn hk), if_pos (natIn hk), Int.toNat_natCast, sameRow_own _ (hr _ (lrd_mem hk)), Option.bind_some, if_neg (by decide), w64_succ (by omega)], trivial⟩) (fun _ _ => ⟨.inr (), by
  unfold g_law_sameRows_l0
  dsimp only
  rw [if_neg natNlt], rfl⟩) (s := ()) trivial
 rw [if_neg (fun q => q rfl), show ((0 : Int)) = ((0 : Nat) : Int) from rfl, h1, h2]
 rfl
theorem sameReply_own {a : GReply} (hl : a.Rows.length ≤ 64) (hr : ∀ x ∈ a.Rows, x.length ≤ 5) : g_law_sameReply a a = some true := by
 unfold g_law_sameReply
 rw [if_pos rfl, if_pos rfl, sameRows_own hl hr]
 rfl
theorem zero_rows : GReply.zero.Rows = [] := rfl
theorem g_law_WireTold_true {x0 : List UInt8} (q0 : (okL 1 okA) x0) : g_law_WireTold x0 = some true := by
 obtain ⟨hb, _, _⟩ := q0
 have hb2 : x0.length < 9223372036854700000 := by unfold reachBytes at hb; omega
 have key : ∃ r : GReply × Int, g_wire_Told x0 = some r ∧ g_ref_ReplyOf x0 = some r ∧ r.1.Rows.length ≤ 64 ∧ ∀ x ∈ r.1.Rows, x.length ≤ 5 := by
  have hz : ∀ e : Int, ((GReply.zero, e) : GReply × Int).1.Rows.length ≤ 64 ∧ ∀ x ∈ ((GReply.zero, e) : GReply × Int).1.Rows, x.length ≤ 5 := fun e => by
   show GReply.zero.Rows.length ≤ 64 ∧ ∀ x ∈ GReply.zero.Rows, x.length ≤ 5
   rw [zero_rows]
   exact ⟨by decide, fun x hx => by cases hx⟩
  unfold g_wire_Told g_ref_ReplyOf
  by_cases hl : (x0.length : Int) < 3
  ·rw [if_pos hl, if_pos hl]
   exact ⟨_, rfl, rfl, hz 4⟩
  ·have h0 : 0 < x0.length := by omega
   have h1 : 1 < x0.length := by omega
   have h2 : 2 < x0.length := by omega
   rw [if_neg hl, if_neg hl, if_pos h0, if_pos h1, if_pos h2, if_pos h0, if_pos h1, if_pos h2, if_pos h0, if_pos h1, if_pos h2]
   have hg : (if (12 : UInt8) < (lrd x0 0) then some true else (if (64 : UInt8) < (lrd x0 1) then some true else some (decide ((64 : UInt8) < (lrd x0 2))))) = some (decide ((((lrd x0 0).toNat : Int) > 12 ∨ ((lrd x0 1).toNat : Int) > 64) ∨ ((lrd x0 2).toNat : Int) > 64)) := by
    have e0 : (12 : UInt8) < lrd x0 0 ↔ ((lrd x0 0).toNat : Int) > 12 := by
     rw [UInt8.lt_iff_toNat_lt]
     show 12 < _ ↔ _
     omega
    have e1 : (64 : UInt8) < lrd x0 1 ↔ ((lrd x0 1).toNat : Int) > 64 := by
     rw [UInt8.lt_iff_toNat_lt]
     show 64 < _ ↔ _
     omega
    have e2 : (64 : UInt8) < lrd x0 2 ↔ ((lrd x0 2).toNat : Int) > 64 := by
     rw [UInt8.lt_iff_toNat_lt]
     show 64 < _ ↔ _
     omega
    by_cases a0 : (12 : UInt8) < lrd x0 0
    ·rw [if_pos a0, decide_eq_true (.inl (.inl (e0.1 a0)))]
    ·rw [if_neg a0]
     by_cases a1 : (64 : UInt8) < lrd x0 1
     ·rw [if_pos a1, decide_eq_true (.inl (.inr (e1.1 a1)))]
     ·rw [if_neg a1]
      congr 1
      rw [decide_eq_decide]
      exact ⟨fun h => .inr (e2.1 h), fun h => by
       rcases h with (h | h) | h
       ·exact absurd (e0.2 h) a0
       ·exact absurd (e1.2 h) a1
       ·exact e2.2 h⟩
   rw [hg, Option.bind_some]
   by_cases hbad : (((lrd x0 0).toNat : Int) > 12 ∨ ((lrd x0 1).toNat : Int) > 64) ∨ ((lrd x0 2).toNat : Int) > 64
   ·rw [if_pos hbad, decide_eq_true hbad, if_pos rfl]
    exact ⟨_, rfl, rfl, hz 6⟩
   ·rw [if_neg hbad, decide_eq_false hbad, if_neg (show ¬ ((false : Bool) = true) by decide), if_pos (show (0 : Int) ≤ 3 ∧ (3 : Int) ≤ (x0.length : Int) by omega), if_pos (show (0 : Int) ≤ 3 ∧ (3 : Int) ≤ (x0.length : Int) by omega)]
    obtain ⟨r, r1, r2, r3⟩ := told_rel (b0 := x0) (lrd x0 2).toNat 0 (cut x0 (3 : Int) (x0.length : Int)) [] (by omega) (by omega) rfl (fun x hx => by cases hx) (by
     show ((x0.drop 3).take _).length < _
     rw [List.length_take, List.length_drop]
     omega)
    rw [show ((0 : Nat) : Int) = (0 : Int) from rfl] at r1
    rw [r1, r2, Option.bind_some, Option.bind_some]
    cases r with
    | inl y =>
     refine ⟨y, rfl, rfl, ?_⟩
     have hy : y.1 = GReply.zero := r3
     rw [hy, zero_rows]
     exact ⟨by decide, fun x hx => by cases hx⟩
    | inr y =>
     dsimp only
     by_cases hy : y.1 = []
     ·rw [if_neg (by rw [hy]; decide), if_neg (fun q => q hy)]
      exact ⟨_, rfl, rfl, r3⟩
     ·rw [if_pos (by
       have : 0 < y.1.length := List.length_pos_iff.2 hy
       omega), if_pos hy]
      exact ⟨_, rfl, rfl, hz 3⟩
 obtain ⟨r, h1, h2, h3, h4⟩ := key
 unfold g_law_WireTold
 rw [h1, h2, Option.bind_some, Option.bind_some, if_pos rfl, sameReply_own h3 h4]
 rfl
end Go.Proofs.YtfekkhinjdmcbaaDoor.VM
