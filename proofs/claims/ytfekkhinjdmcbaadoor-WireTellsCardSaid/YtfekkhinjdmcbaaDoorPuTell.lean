/- Words and rules that the proof uses. -/
import Derived.Test.YtfekkhinjdmcbaaDoorPuEncC
namespace Go.Proofs.YtfekkhinjdmcbaaDoor.VM
open Go Go.RowKit
theorem u8i (n : Int) : (UInt8.ofInt n).toNat = (n % 256).toNat := by
 unfold UInt8.ofInt
 rw [UInt8.toNat_ofNat']
 have : (2 : Int) ^ 8 = 256 := by decide
 have : (2 : Nat) ^ 8 = 256 := by decide
 omega
theorem low_byte (n : Int) : (UInt64.ofInt n).toUInt8 = UInt8.ofInt n := by
 apply UInt8.toNat_inj.1
 rw [UInt64.toNat_toUInt8, u64i, u8i]
 show (n % 18446744073709551616).toNat % 256 = _
 omega
theorem next_byte (n : Nat) : (shr_u64 (UInt64.ofInt (n : Int)) 8).toUInt8 = UInt8.ofInt (ishr (n : Int) 8) := by
 have e : ishr (n : Int) 8 = (n : Int) / 256 := by
  show (n : Int).fdiv (2 ^ min 8 64) = _
  rw [show ((2 : Int) ^ min 8 64) = 256 by decide, Int.fdiv_eq_ediv_of_nonneg _ (by decide)]
 apply UInt8.toNat_inj.1
 have e1 : (shr_u64 (UInt64.ofInt (n : Int)) 8).toNat = ((n : Int) % 18446744073709551616).toNat / 256 := by
  show ((UInt64.ofInt (n : Int)).toBitVec >>> 8).toNat = _
  rw [BitVec.toNat_ushiftRight, Nat.shiftRight_eq_div_pow]
  show (UInt64.ofInt (n : Int)).toNat / 2 ^ 8 = _
  rw [u64i]
 rw [UInt64.toNat_toUInt8, e1, e, u8i]
 show _ % 256 = _
 omega
theorem big1 (n : Int) : g_ref_big (UInt64.ofInt n) (1 : Int) = some [UInt8.ofInt n] := by
 rw [show (1 : Int) = ((1 : Nat) : Int) from rfl, big_eq _ (by decide), bigN_succ, bigN, low_byte]
 rfl
theorem big2 (n : Nat) : g_ref_big (UInt64.ofInt (n : Int)) (2 : Int) = some [UInt8.ofInt (ishr (n : Int) 8), UInt8.ofInt (n : Int)] := by
 rw [show (2 : Int) = ((2 : Nat) : Int) from rfl, big_eq _ (by decide), bigN_succ, bigN_succ, bigN, low_byte, next_byte]
 rfl
theorem tell_loops {r : GReply} (hr : GReply.ok r) (hl : r.Rows.length ≤ 64) {o : List UInt8} (ho : o.length ≤ 3) :
  ∃ q, loopO (g_wire_Tell_l0 r) ((0 : Int), o) = some q ∧ loopO (g_ref_ToldBytes_l0 r) (o, (0 : Int)) = some q := by
 obtain ⟨q1, q2, h1, h2, h3⟩ := loopO_rel (step := g_wire_Tell_l0 r) (step2 := g_ref_ToldBytes_l0 r)
  (fun a c => ∃ (k : Nat) (o : List UInt8), a = ((k : Int), o) ∧ c = (o, (k : Int)) ∧ k ≤ r.Rows.length ∧ o.length ≤ 3 + 418 * k) (fun q1 q2 => q1 = q2) (fun a => r.Rows.length - a.1.toNat) (fun a c ⟨k, o, e1, e2, hk, hob⟩ => by
   subst e1 e2
   by_cases h : k < r.Rows.length
   ·obtain ⟨e, c1, c2, c3, _⟩ := encode_eq (row := lrd r.Rows k) (0 : Int) (fun v hv => ((hr.2.2.2.2 _ (lrd_mem h)).2.2 v hv).2.1)
    by_cases hz : e.2 ≠ 0
    ·refine .inr ⟨.inl ([], e.2), .inl ([], e.2), ?_, ?_, rfl⟩
     ·unfold g_wire_Tell_l0
      dsimp only
      rw [if_pos (natLt h), if_pos (natIn h), Int.toNat_natCast, c1, Option.bind_some, if_pos hz]
     ·unfold g_ref_ToldBytes_l0
      dsimp only
      rw [if_pos (natLt h), if_pos (natIn h), Int.toNat_natCast, c2, Option.bind_some, if_pos hz]
    ·refine .inl ⟨(((k + 1 : Nat) : Int), (o ++ [UInt8.ofInt ((lrd r.Rows k).length : Int), UInt8.ofInt (ishr (e.1.length : Int) 8), UInt8.ofInt (e.1.length : Int)]) ++ e.1), ((o ++ [UInt8.ofInt ((lrd r.Rows k).length : Int), UInt8.ofInt (ishr (e.1.length : Int) 8), UInt8.ofInt (e.1.length : Int)]) ++ e.1, ((k + 1 : Nat) : Int)), ?_, ?_, ⟨k + 1, _, rfl, rfl, h, by simp only [List.length_append, List.length_cons, List.length_nil]; omega⟩, by simp only [Int.toNat_natCast]; omega⟩
     ·unfold g_wire_Tell_l0
      dsimp only
      rw [if_pos (natLt h), if_pos (natIn h), Int.toNat_natCast, c1, Option.bind_some, if_neg hz, if_pos (show room _ _ by simp only [room, List.length_cons, List.length_nil]; omega), if_pos (show room _ _ by simp only [room, List.length_append, List.length_cons, List.length_nil]; omega), letO_eq, w64_succ (by omega)]
     ·unfold g_ref_ToldBytes_l0
      dsimp only
      rw [if_pos (natLt h), if_pos (natIn h), Int.toNat_natCast, c2, Option.bind_some, if_neg hz, big1, Option.bind_some, big2, Option.bind_some, if_pos (by simp only [List.length_cons, List.length_nil]; omega), if_pos (by simp only [List.length_append, List.length_cons, List.length_nil]; omega), if_pos (by simp only [List.length_append, List.length_cons, List.length_nil]; omega), w64_succ (by omega), ← List.append_assoc]
      rfl
   ·obtain rfl : k = r.Rows.length := by omega
    refine .inr ⟨.inr o, .inr o, ?_, ?_, rfl⟩
    ·unfold g_wire_Tell_l0
     dsimp only
     rw [if_neg natNlt]
    ·unfold g_ref_ToldBytes_l0
     dsimp only
     rw [if_neg natNlt]) (a := ((0 : Int), o)) (c := (o, (0 : Int))) ⟨0, o, rfl, rfl, Nat.zero_le _, by omega⟩
 subst h3
 exact ⟨q1, h1, h2⟩
theorem tell_eq {r : GReply} (hr : GReply.ok r) : ∃ q, g_wire_Tell r = some q ∧ g_ref_ToldBytes r = some q := by
 unfold g_wire_Tell g_ref_ToldBytes
 by_cases h1 : ((r.Error < (0 : Int) ∨ r.Error > (12 : Int)) ∨ r.Count < (0 : Int)) ∨ r.Count > (64 : Int)
 ·rw [if_pos h1, if_pos h1]
  exact ⟨_, rfl, rfl⟩
 rw [if_neg h1, if_neg h1]
 by_cases h2 : (r.Rows.length : Int) > (64 : Int)
 ·rw [if_pos h2, if_pos h2]
  exact ⟨_, rfl, rfl⟩
 rw [if_neg h2, if_neg h2]
 obtain ⟨q, l1, l2⟩ := tell_loops hr (by omega) (o := [UInt8.ofInt r.Error, UInt8.ofInt r.Count, UInt8.ofInt (r.Rows.length : Int)]) (Nat.le_refl 3)
 have l3 : loopO (g_ref_ToldBytes_l0 r) (([UInt8.ofInt r.Error] ++ [UInt8.ofInt r.Count]) ++ [UInt8.ofInt (r.Rows.length : Int)], (0 : Int)) = some q := l2
 rw [letO_eq, l1, Option.bind_some, big1, Option.bind_some, big1, Option.bind_some, if_pos (by simp only [List.length_cons, List.length_nil]; omega), big1, Option.bind_some, if_pos (by simp only [List.length_append, List.length_cons, List.length_nil]; omega), l3]
 cases q with
 | inl y => exact ⟨_, rfl, rfl⟩
 | inr y => exact ⟨_, rfl, rfl⟩
theorem g_law_WireTells_true {x0 : GReply} (q0 : GReply.ok x0) : g_law_WireTells x0 = some true := by
 obtain ⟨r, h1, h2⟩ := tell_eq q0
 unfold g_law_WireTells
 rw [h1, h2, Option.bind_some, Option.bind_some, if_pos rfl]
 unfold g_law_sameBytes
 rw [decide_eq_true rfl]
 rfl
end Go.Proofs.YtfekkhinjdmcbaaDoor.VM
