/- Words and rules that the proof uses. -/
import Derived.Test.YtfekkhinjdmcbaaDoorPuCode
namespace Go.Proofs.YtfekkhinjdmcbaaDoor.VM
open Go Go.RowKit
theorem top_xor (n : UInt64) : n ^^^ (9223372036854775808 : UInt64) = n - (9223372036854775808 : UInt64) := by
 apply UInt64.toBitVec_inj.1
 show n.toBitVec ^^^ 9223372036854775808#64 = n.toBitVec - 9223372036854775808#64
 generalize n.toBitVec = x
 have hT : -(9223372036854775808#64) = 9223372036854775808#64 := by decide
 rw [BitVec.sub_eq_add_neg, hT]
 apply BitVec.eq_of_getLsbD_eq
 intro i hi
 rw [BitVec.getLsbD_xor, BitVec.getLsbD_add hi]
 have hc : BitVec.carry i x 9223372036854775808#64 false = false := by
  unfold BitVec.carry
  have h0 : (9223372036854775808#64).toNat % 2 ^ i = 0 := by
   show 2 ^ 63 % 2 ^ i = 0
   exact Nat.mod_eq_zero_of_dvd (Nat.pow_dvd_pow 2 (by omega))
  have := Nat.mod_lt x.toNat (Nat.pow_pos (n := i) (show 0 < 2 by decide))
  rw [h0]
  simp
  omega
 rw [hc, Bool.xor_false]
theorem top_lt (n : UInt64) : (n &&& (9223372036854775808 : UInt64) ≠ 0) ↔ ¬ n < (9223372036854775808 : UInt64) := by
 rw [UInt64.lt_iff_toNat_lt]
 have h1 : n &&& (9223372036854775808 : UInt64) = if 9223372036854775808 ≤ n.toNat then 9223372036854775808 else 0 := by
  apply UInt64.toBitVec_inj.1
  show n.toBitVec &&& BitVec.twoPow 64 63 = _
  rw [BitVec.and_twoPow]
  have h2 : n.toBitVec.getLsbD 63 = decide (9223372036854775808 ≤ n.toNat) := by
   have := BitVec.msb_eq_decide n.toBitVec
   rw [BitVec.msb_eq_getLsbD_last] at this
   exact this
  rw [h2]
  by_cases h : 9223372036854775808 ≤ n.toNat
  ·rw [if_pos (decide_eq_true h), if_pos h]; rfl
  ·rw [if_neg (by rw [decide_eq_false h]; decide), if_neg h]; rfl
 rw [h1]
 show _ ↔ ¬ n.toNat < 9223372036854775808
 by_cases h : 9223372036854775808 ≤ n.toNat
 ·rw [if_pos h]
  exact ⟨fun _ => by omega, fun _ => by decide⟩
 ·rw [if_neg h]
  exact ⟨fun q => absurd rfl q, fun q => absurd (by omega) q⟩
theorem top_off {n : UInt64} (h : n &&& (9223372036854775808 : UInt64) ≠ 0) : n &&& (~~~ (9223372036854775808 : UInt64)) = n - (9223372036854775808 : UInt64) := by
 rw [← top_xor]
 have h3 := (top_lt n).1 h
 rw [UInt64.lt_iff_toNat_lt] at h3
 have h2 : n.toBitVec.getLsbD 63 = true := by
  have := BitVec.msb_eq_decide n.toBitVec
  rw [BitVec.msb_eq_getLsbD_last] at this
  rw [this]
  refine decide_eq_true ?_
  have h4 : ¬ n.toBitVec.toNat < 9223372036854775808 := h3
  show 9223372036854775808 ≤ n.toBitVec.toNat
  omega
 apply UInt64.toBitVec_inj.1
 show n.toBitVec &&& ~~~ (BitVec.twoPow 64 63) = n.toBitVec ^^^ (BitVec.twoPow 64 63)
 revert h2
 generalize n.toBitVec = x
 intro h2
 apply BitVec.eq_of_getLsbD_eq
 intro i hi
 rw [BitVec.getLsbD_and, BitVec.getLsbD_not, BitVec.getLsbD_xor, BitVec.getLsbD_twoPow]
 by_cases h : i = 63
 ·subst h
  rw [h2]
  decide
 ·simp [hi, Ne.symm h]
theorem back_eq (n : UInt64) : g_code_back n = some (if n < (9223372036854775808 : UInt64) then ~~~ n else n - (9223372036854775808 : UInt64)) := by
 unfold g_code_back
 by_cases h : n &&& (9223372036854775808 : UInt64) ≠ 0
 ·rw [if_pos h, if_neg ((top_lt n).1 h), top_off h]
 ·rw [if_neg h, if_pos (Classical.byContradiction fun q => h ((top_lt n).2 q))]
theorem stepN_one (d : UInt8) : [d].foldl stepN 0 = d.toUInt64 := by
 show (0 : UInt64) * 256 + d.toUInt64 = _
 simp
theorem fault_null : g_ref_ValueFault { GValue.zero with Kind := (0 : Int) } = some 0 := by
 unfold g_ref_ValueFault
 simp [GValue.zero, valid_nil]
theorem check_text {t : List UInt8} (hl : t.length ≤ 40) (hv : g_utf8_ValidString t = some true) : g_value_Check { { GValue.zero with Kind := (4 : Int) } with Text := t } = some 0 := by
 unfold g_value_Check
 simp [GValue.zero, hv, letO_eq]
 omega
def SameV (b : List UInt8) (fl : UInt8) (k : Nat) (R : Int ⊕ (GValue × Nat)) : Prop :=
 (∀ e, R = .inl e → e ≠ 0) ∧ (∀ v p, R = .inr (v, p) → k + p ≤ b.length) ∧
 (∃ at' : Int, g_code_read_i0 (k : Int) b fl = some (match R with | .inl e => (GValue.zero, e, at', b, fl) | .inr r => (r.1, 0, ((k + r.2 : Nat) : Int), b, fl))) ∧
 g_ref_valueOf (restB9 b fl k) = some (match R with | .inl e => (GValue.zero, 0, e) | .inr r => (r.1, (r.2 : Int), 0))
theorem lrd5 (κ : Int) (h : 0 ≤ κ ∧ κ ≤ 4) : (0 : Int) ≤ κ ∧ κ < (([(0 : Int), (1 : Int), (8 : Int), (8 : Int), (0 : Int)] : List Int).length : Int) := by
 refine ⟨h.1, ?_⟩
 show κ < 5
 omega
theorem read_eq {b : List UInt8} {fl : UInt8} {k : Nat} (hb : b.length < 9223372036854775000) (hk : k ≤ b.length) : ∃ R, SameV b fl k R := by
 have hx := next_eq (fl := fl) (show b.length < 9223372036854775807 by omega) hk
 by_cases h : k < b.length
 ·rw [rest_step h] at hx
  dsimp only at hx
  have hlen : (restB9 b fl (k + 1)).length = b.length - (k + 1) := rest_len b fl (k + 1)
  have hr := rest_step (fl := fl) h
  generalize lrd b k ^^^ fl = c at hx hr
  have hc : c.toNat < 256 := c.toNat_lt
  obtain ⟨κ, hκ⟩ : ∃ κ : Int, κ = (c.toNat : Int) - 1 := ⟨_, rfl⟩
  have hw : w64 ((c.toNat : Int) - 1) = κ := by rw [w64_id (by omega), hκ]
  unfold SameV
  rw [hr]
  obtain ⟨l, hl⟩ : ∃ l, l = restB9 b fl (k + 1) := ⟨_, rfl⟩
  rw [← hl] at hlen ⊢
  have hll : (c :: l).length = b.length - k := by rw [List.length_cons]; omega
  unfold g_code_read_i0 g_ref_valueOf
  rw [hx, Option.bind_some, if_neg (List.cons_ne_nil _ _), if_pos (show 0 < (c :: l).length by omega), lrd_cons_zero]
  dsimp only
  rw [if_neg (by decide)]
  simp only [letO_eq, hw]
  by_cases hbad : κ < 0 ∨ κ > 4
  ·refine ⟨.inl 3, (fun e he => by cases he; decide), (fun v p he => by cases he), ⟨((k + 1 : Nat) : Int), ?_⟩, ?_⟩
   ·rw [if_neg (by omega), if_neg (by omega), if_neg (by omega), decide_eq_false (show ¬ κ = 3 by omega), Option.bind_some, if_neg (by decide), if_neg (by omega)]
    rfl
   ·rw [if_pos hbad]
  ·rw [if_neg hbad]
   have hk5 : κ = 0 ∨ κ = 1 ∨ κ = 2 ∨ κ = 3 ∨ κ = 4 := by omega
   rcases hk5 with h5 | h5 | h5 | h5 | h5
   ·rw [h5]
    refine ⟨.inr ({ GValue.zero with Kind := (0 : Int) }, 1), (fun e he => by cases he), (fun v p he => by cases he; omega), ⟨0, ?_⟩, ?_⟩
    ·rw [if_pos rfl]
     rfl
    ·rw [if_neg (by decide), if_pos (lrd5 0 (by decide))]
     rw [show w64 ((1 : Int) + lrd ([(0 : Int), (1 : Int), (8 : Int), (8 : Int), (0 : Int)] : List Int) ((0 : Int).toNat)) = 1 from by decide]
     rw [if_neg (by omega), if_pos (by omega), show cut (c :: l) (1 : Int) 1 = [] from rfl, number_eq (by decide), Option.bind_some, if_neg (by decide), if_neg (by decide), if_neg (by decide), Option.bind_some, fault_null, Option.bind_some, if_neg (by decide)]
     rfl
   ·rw [h5]
    cases l with
    | nil =>
     have hx2 := next_eq (fl := fl) (k := k + 1) (show b.length < 9223372036854775807 by omega) (by omega)
     rw [← hl] at hx2
     dsimp only at hx2
     refine ⟨.inl 4, (fun e he => by cases he; decide), (fun v p he => by cases he), ⟨((k + 1 : Nat) : Int), ?_⟩, ?_⟩
     ·rw [if_neg (by decide), if_pos rfl, hx2, Option.bind_some]
      dsimp only
      rw [if_pos (by decide)]
      rfl
     ·rw [if_neg (by decide), if_pos (lrd5 1 (by decide))]
      rw [show w64 ((1 : Int) + lrd ([(0 : Int), (1 : Int), (8 : Int), (8 : Int), (0 : Int)] : List Int) ((1 : Int).toNat)) = 2 from by decide]
      rw [if_pos (by rw [List.length_singleton]; decide)]
    | cons d l =>
     have hx2 := next_eq (fl := fl) (k := k + 1) (show b.length < 9223372036854775807 by omega) (by omega)
     rw [← hl] at hx2
     dsimp only at hx2
     have hd : d.toNat < 256 := d.toNat_lt
     rw [List.length_cons] at hlen
     obtain ⟨e, he1, he2, _⟩ := check_eq { { GValue.zero with Kind := (1 : Int) } with Int_ := (d.toNat : Int) } (by unfold okI; dsimp only; omega)
     refine ⟨if e = 0 then .inr ({ { GValue.zero with Kind := (1 : Int) } with Int_ := (d.toNat : Int) }, 2) else .inl 3, ?_, ?_, ⟨((k + 2 : Nat) : Int), ?_⟩, ?_⟩
     ·intro e' h'
      split at h'
      ·cases h'
      ·cases h'; decide
     ·intro v p h'
      split at h'
      ·cases h'; omega
      ·cases h'
     ·rw [if_neg (by decide), if_pos rfl, hx2, Option.bind_some]
      dsimp only
      rw [if_neg (by decide)]
      simp only [Option.bind_some]
      rw [he1, Option.bind_some]
      by_cases h0 : e = 0
      ·rw [if_neg (fun q => q h0), if_pos h0]
       rfl
      ·rw [if_pos h0, if_neg h0]
     ·rw [if_neg (by decide), if_pos (lrd5 1 (by decide))]
      rw [show w64 ((1 : Int) + lrd ([(0 : Int), (1 : Int), (8 : Int), (8 : Int), (0 : Int)] : List Int) ((1 : Int).toNat)) = 2 from by decide]
      rw [if_neg (by rw [hll]; omega), if_pos (by rw [hll]; omega), show cut (c :: d :: l) (1 : Int) 2 = [d] from rfl, number_eq (show ([d] : List UInt8).length < 9223372036854775807 by rw [List.length_singleton]; decide), Option.bind_some, if_pos rfl, Option.bind_some, stepN_one]
      rw [UInt8.toNat_toUInt64, w64_id (by omega), he2, Option.bind_some]
      by_cases h0 : e = 0
      ·rw [if_neg (fun q => q h0), if_pos h0]
       rfl
      ·rw [if_pos h0, if_neg h0]
   ·rw [h5]
    obtain ⟨a', hn⟩ := num_loop (fl := fl) (show b.length < 9223372036854775807 by omega) 8 0 (k + 1) 0 rfl (by omega)
    rw [← hl] at hn
    have hcut : cut (c :: l) (1 : Int) 9 = l.take 8 := rfl
    by_cases h8 : k + 1 + 8 ≤ b.length
    ·rw [if_pos h8] at hn
     obtain ⟨N, hN⟩ : ∃ N, N = (l.take 8).foldl stepN 0 := ⟨_, rfl⟩
     rw [← hN] at hn
     have hk64 : -9223372036854775808 ≤ w64 ((N - (9223372036854775808 : UInt64)).toNat : Int) ∧ w64 ((N - (9223372036854775808 : UInt64)).toNat : Int) ≤ 9223372036854775807 := by
      have := (N - (9223372036854775808 : UInt64)).toNat_lt
      unfold w64 IntKind.wrap
      have e1 : (2 ^ IntKind.i64.bits : Int) = 18446744073709551616 := by decide
      have e2 : (2 ^ (IntKind.i64.bits - 1) : Int) = 9223372036854775808 := by decide
      have e3 : IntKind.i64.signed = true := rfl
      rw [e1, e2, e3]
      simp only [Bool.true_and, decide_eq_true_eq]
      split <;> omega
     obtain ⟨e, he1, he2, _⟩ := check_eq { { GValue.zero with Kind := (2 : Int) } with Int_ := w64 ((N - (9223372036854775808 : UInt64)).toNat  : Int) } (by unfold okI; exact hk64)
     refine ⟨if e = 0 then .inr ({ { GValue.zero with Kind := (2 : Int) } with Int_ := w64 ((N - (9223372036854775808 : UInt64)).toNat : Int) }, 9) else .inl 3, ?_, ?_, ⟨((k + 1 + 8 : Nat) : Int), ?_⟩, ?_⟩
     ·intro e' h'
      split at h'
      ·cases h'
      ·cases h'; decide
     ·intro v p h'
      split at h'
      ·cases h'; omega
      ·cases h'
     ·rw [if_neg (by decide), if_neg (by decide), if_pos rfl, Option.bind_some, if_pos (by decide), show ((0 : Int)) = ((0 : Nat) : Int) from rfl, hn, Option.bind_some]
      dsimp only
      rw [if_pos rfl]
      simp only [Option.bind_some]
      rw [top_xor, show (((0 : Nat) : Int)) = (0 : Int) from rfl, he1, Option.bind_some]
      by_cases h0 : e = 0
      ·rw [if_neg (fun q => q h0), if_pos h0]
       rfl
      ·rw [if_pos h0, if_neg h0]
     ·rw [if_neg (by decide), if_pos (lrd5 2 (by decide))]
      rw [show w64 ((1 : Int) + lrd ([(0 : Int), (1 : Int), (8 : Int), (8 : Int), (0 : Int)] : List Int) ((2 : Int).toNat)) = 9 from by decide]
      rw [if_neg (by rw [hll]; omega), if_pos (by rw [hll]; omega), hcut, number_eq (by rw [List.length_take]; omega), Option.bind_some, ← hN, if_neg (by decide), if_pos rfl, Option.bind_some, he2, Option.bind_some]
      by_cases h0 : e = 0
      ·rw [if_neg (fun q => q h0), if_pos h0]
       rfl
      ·rw [if_pos h0, if_neg h0]
    ·rw [if_neg h8] at hn
     refine ⟨.inl 4, (fun e he => by cases he; decide), (fun v p he => by cases he), ⟨a', ?_⟩, ?_⟩
     ·rw [if_neg (by decide), if_neg (by decide), if_pos rfl, Option.bind_some, if_pos (by decide), show ((0 : Int)) = ((0 : Nat) : Int) from rfl, hn, Option.bind_some]
      rfl
     ·rw [if_neg (by decide), if_pos (lrd5 2 (by decide))]
      rw [show w64 ((1 : Int) + lrd ([(0 : Int), (1 : Int), (8 : Int), (8 : Int), (0 : Int)] : List Int) ((2 : Int).toNat)) = 9 from by decide]
      rw [if_pos (by rw [hll]; omega)]
   ·rw [h5]
    obtain ⟨a', hn⟩ := num_loop (fl := fl) (show b.length < 9223372036854775807 by omega) 8 0 (k + 1) 0 rfl (by omega)
    rw [← hl] at hn
    have hcut : cut (c :: l) (1 : Int) 9 = l.take 8 := rfl
    by_cases h8 : k + 1 + 8 ≤ b.length
    ·rw [if_pos h8] at hn
     obtain ⟨N, hN⟩ : ∃ N, N = (l.take 8).foldl stepN 0 := ⟨_, rfl⟩
     rw [← hN] at hn
     obtain ⟨X, hX⟩ : ∃ X, X = if N < (9223372036854775808 : UInt64) then ~~~ N else N - (9223372036854775808 : UInt64) := ⟨_, rfl⟩
     obtain ⟨e, he1, he2, _⟩ := check_eq { { GValue.zero with Kind := (3 : Int) } with Bits := X } (by unfold okI; show (-9223372036854775808 : Int) ≤ 0 ∧ (0 : Int) ≤ 9223372036854775807; decide)
     refine ⟨if e = 0 then .inr ({ { GValue.zero with Kind := (3 : Int) } with Bits := X }, 9) else .inl 3, ?_, ?_, ⟨((k + 1 + 8 : Nat) : Int), ?_⟩, ?_⟩
     ·intro e' h'
      split at h'
      ·cases h'
      ·cases h'; decide
     ·intro v p h'
      split at h'
      ·cases h'; omega
      ·cases h'
     ·rw [if_neg (by decide), if_neg (by decide), if_neg (by decide), Option.bind_some, if_pos (by decide), show ((0 : Int)) = ((0 : Nat) : Int) from rfl, hn, Option.bind_some]
      dsimp only
      rw [if_neg (by decide), back_eq, ← hX]
      simp only [Option.bind_some]
      rw [show (((0 : Nat) : Int)) = (0 : Int) from rfl, he1, Option.bind_some]
      by_cases h0 : e = 0
      ·rw [if_neg (fun q => q h0), if_pos h0]
       rfl
      ·rw [if_pos h0, if_neg h0]
     ·rw [if_neg (by decide), if_pos (lrd5 3 (by decide))]
      rw [show w64 ((1 : Int) + lrd ([(0 : Int), (1 : Int), (8 : Int), (8 : Int), (0 : Int)] : List Int) ((3 : Int).toNat)) = 9 from by decide]
      rw [if_neg (by rw [hll]; omega), if_pos (by rw [hll]; omega), hcut, number_eq (by rw [List.length_take]; omega), Option.bind_some, ← hN, if_neg (by decide), if_neg (by decide), if_pos rfl]
      have : (if N < (9223372036854775808 : UInt64) then some { { { GValue.zero with Kind := (3 : Int) } with Bits := N - (9223372036854775808 : UInt64) } with Bits := ~~~ N } else some { { GValue.zero with Kind := (3 : Int) } with Bits := N - (9223372036854775808 : UInt64) }) = some { { GValue.zero with Kind := (3 : Int) } with Bits := X } := by
       rw [hX]
       split <;> rfl
      rw [this, Option.bind_some, he2, Option.bind_some]
      by_cases h0 : e = 0
      ·rw [if_neg (fun q => q h0), if_pos h0]
       rfl
      ·rw [if_pos h0, if_neg h0]
    ·rw [if_neg h8] at hn
     refine ⟨.inl 4, (fun e he => by cases he; decide), (fun v p he => by cases he), ⟨a', ?_⟩, ?_⟩
     ·rw [if_neg (by decide), if_neg (by decide), if_neg (by decide), Option.bind_some, if_pos (by decide), show ((0 : Int)) = ((0 : Nat) : Int) from rfl, hn, Option.bind_some]
      rfl
     ·rw [if_neg (by decide), if_pos (lrd5 3 (by decide))]
      rw [show w64 ((1 : Int) + lrd ([(0 : Int), (1 : Int), (8 : Int), (8 : Int), (0 : Int)] : List Int) ((3 : Int).toNat)) = 9 from by decide]
      rw [if_pos (by rw [hll]; omega)]
   ·rw [h5]
    obtain ⟨a', hp⟩ := text_prog (fl := fl) (show b.length < 9223372036854775807 by omega) (show k + 1 ≤ b.length by omega)
    rw [← hl] at hp
    have hcut : cut (c :: l) (1 : Int) ((c :: l).length : Int) = l := by
     show l.take (((c :: l).length : Int).toNat - 1) = l
     rw [Int.toNat_natCast, List.length_cons, Nat.add_sub_cancel, List.take_length]
    have ht := text_ref (s := l) (by omega)
    rcases txtR_fact l.length l [] 0 (Nat.le_refl _) (by decide) with ⟨e, h1, h2⟩ | ⟨t, p, h1, h2, h3, h4⟩
    ·rw [h1] at hp ht
     dsimp only at hp ht
     refine ⟨.inl e, (fun e' he => by cases he; omega), (fun v p he => by cases he), ⟨a', ?_⟩, ?_⟩
     ·rw [if_neg (by decide), if_neg (by decide), if_neg (by decide), decide_eq_false (by decide), Option.bind_some, if_neg (by decide), if_pos rfl, hp, Option.bind_some]
      dsimp only
      rw [if_pos (by omega)]
      rfl
     ·rw [if_pos rfl, if_pos (by omega), hcut, ht, Option.bind_some]
    ·rw [h1] at hp ht
     dsimp only at hp ht
     by_cases hv : g_utf8_ValidString t = some true
     ·rw [if_pos hv] at hp ht
      refine ⟨.inr ({ { GValue.zero with Kind := (4 : Int) } with Text := t }, p + 1), (fun e' he => by cases he), (fun v p he => by cases he; omega), ⟨0, ?_⟩, ?_⟩
      ·rw [if_neg (by decide), if_neg (by decide), if_neg (by decide), decide_eq_false (by decide), Option.bind_some, if_neg (by decide), if_pos rfl, hp, Option.bind_some]
       dsimp only
       rw [if_neg (by decide)]
       simp only [Option.bind_some]
       rw [check_text h2 hv, Option.bind_some, if_neg (by decide), show k + 1 + p = k + (p + 1) by omega]
      ·rw [if_pos rfl, if_pos (by omega), hcut, ht, Option.bind_some]
     ·rw [if_neg hv] at hp ht
      refine ⟨.inl 3, (fun e' he => by cases he; decide), (fun v p he => by cases he), ⟨((k + 1 + p : Nat) : Int), ?_⟩, ?_⟩
      ·rw [if_neg (by decide), if_neg (by decide), if_neg (by decide), decide_eq_false (by decide), Option.bind_some, if_neg (by decide), if_pos rfl, hp, Option.bind_some]
       dsimp only
       rw [if_pos (by decide)]
       rfl
      ·rw [if_pos rfl, if_pos (by omega), hcut, ht, Option.bind_some]
 ·refine ⟨.inl 4, (fun e he => by cases he; decide), (fun v p he => by cases he), ⟨(k : Int), ?_⟩, ?_⟩
  ·rw [rest_end (by omega)] at hx
   dsimp only at hx
   unfold g_code_read_i0
   rw [hx, Option.bind_some]
   dsimp only
   rw [if_pos (by decide)]
  ·rw [rest_end (by omega)]
   unfold g_ref_valueOf
   rw [if_pos rfl]
end Go.Proofs.YtfekkhinjdmcbaaDoor.VM
