import Derived.Test.YtfekkhinjdmcbaaDoorVtFloat
import Derived.Test.YtfekkhinjdmcbaaDoorPuBase
import Derived.Test.YtfekkhinjdmcbaaDoorVtShelf
/- Words and rules that the proof uses. -/
namespace Go.Proofs.YtfekkhinjdmcbaaDoor.VM
open Go Go.RowKit
def rung (b : F64) : Nat := b.toNat % 9223372036854775808
def negF (b : F64) : Bool := Nat.ble 9223372036854775808 b.toNat
def magF (r : Nat) : Nat := if r < 4503599627370496 then r else (4503599627370496 + r % 4503599627370496) * 2 ^ (r / 4503599627370496 - 1)
theorem magF_succ (r : Nat) : magF r < magF (r + 1) := by
 unfold magF
 by_cases h : r + 1 < 4503599627370496
 ·rw [if_pos h, if_pos (by omega)]; omega
 ·rw [if_neg h]
  by_cases h2 : r < 4503599627370496
  ·have : r + 1 = 4503599627370496 := by omega
   rw [if_pos h2, this]
   show r < 4503599627370496 * 2 ^ 0
   omega
  ·rw [if_neg h2]
   by_cases h3 : (r + 1) / 4503599627370496 = r / 4503599627370496
   ·rw [h3]
    refine Nat.mul_lt_mul_of_pos_right ?_ (Nat.two_pow_pos _)
    omega
   ·have h4 : (r + 1) / 4503599627370496 = r / 4503599627370496 + 1 := by omega
    have h5 : r % 4503599627370496 = 4503599627370495 := by omega
    have h6 : (r + 1) % 4503599627370496 = 0 := by omega
    have h7 : r / 4503599627370496 ≥ 1 := by omega
    rw [h4, h5, h6, show r / 4503599627370496 + 1 - 1 = (r / 4503599627370496 - 1) + 1 by omega, Nat.pow_succ]
    have := Nat.two_pow_pos (r / 4503599627370496 - 1)
    generalize 2 ^ (r / 4503599627370496 - 1) = p at *
    omega
theorem magF_mono {r q : Nat} (h : r < q) : magF r < magF q := by
 induction q with
 | zero => omega
 | succ q ih =>
  by_cases hr : r = q
  ·subst hr; exact magF_succ r
  ·exact Nat.lt_trans (ih (by omega)) (magF_succ q)
theorem magF_inj {r q : Nat} (h : magF r = magF q) : r = q := by
 rcases Nat.lt_trichotomy r q with h1 | h1 | h1
 ·have := magF_mono h1; omega
 ·exact h1
 ·have := magF_mono h1; omega
def upF (r : Nat) : Nat := if r < 4503599627370496 then 0 else r / 4503599627370496 - 1
def sigF (r : Nat) : Nat := if r < 4503599627370496 then r else 4503599627370496 + r % 4503599627370496
theorem magF_eq (r : Nat) : magF r = sigF r * 2 ^ upF r := by
 unfold magF sigF upF
 split <;> simp
theorem read_num {b : F64} (h : rung b < 9218868437227405312) : FloatKind.f64.format.read b.toNat = .number (negF b) (sigF (rung b)) ((-1074 : Int) + (upF (rung b) : Nat)) := by
 have hb : b.toNat < 18446744073709551616 := b.toNat_lt
 unfold Ieee.Format.read
 have e1 : FloatKind.f64.format.signWeight = 9223372036854775808 := by decide
 have e2 : FloatKind.f64.format.binade = 4503599627370496 := by decide
 have e3 : FloatKind.f64.format.infRung = 9218868437227405312 := by decide
 have e4 : FloatKind.f64.format.leastPlace = -1074 := by decide
 rw [e1, e2, e3, e4]
 have hn : (b.toNat / 9223372036854775808 % 2 == 1) = negF b := by
  unfold negF
  by_cases hc : 9223372036854775808 ≤ b.toNat
  ·rw [Nat.ble_eq_true_of_le hc]
   have : b.toNat / 9223372036854775808 % 2 = 1 := by omega
   rw [this]; rfl
  ·have h1 : Nat.ble 9223372036854775808 b.toNat = false := Bool.eq_false_iff.2 fun q => hc (Nat.le_of_ble_eq_true q)
   rw [h1]
   have : b.toNat / 9223372036854775808 % 2 = 0 := by omega
   rw [this]; rfl
 rw [hn]
 unfold rung at h
 unfold sigF upF rung
 dsimp only
 by_cases hs : b.toNat % 9223372036854775808 < 4503599627370496
 ·rw [if_pos hs, if_pos hs, if_pos hs]
  rfl
 ·rw [if_neg hs, if_neg hs, if_neg hs, if_pos h]
theorem read_inf {b : F64} (h : rung b = 9218868437227405312) : FloatKind.f64.format.read b.toNat = .infinity (negF b) := by
 have hb : b.toNat < 18446744073709551616 := b.toNat_lt
 unfold Ieee.Format.read
 have e1 : FloatKind.f64.format.signWeight = 9223372036854775808 := by decide
 have e2 : FloatKind.f64.format.binade = 4503599627370496 := by decide
 have e3 : FloatKind.f64.format.infRung = 9218868437227405312 := by decide
 rw [e1, e2, e3]
 have hn : (b.toNat / 9223372036854775808 % 2 == 1) = negF b := by
  unfold negF
  by_cases hc : 9223372036854775808 ≤ b.toNat
  ·rw [Nat.ble_eq_true_of_le hc]
   have : b.toNat / 9223372036854775808 % 2 = 1 := by omega
   rw [this]; rfl
  ·have h1 : Nat.ble 9223372036854775808 b.toNat = false := Bool.eq_false_iff.2 fun q => hc (Nat.le_of_ble_eq_true q)
   rw [h1]
   have : b.toNat / 9223372036854775808 % 2 = 0 := by omega
   rw [this]; rfl
 rw [hn]
 unfold rung at h
 dsimp only
 rw [h, if_neg (by decide), if_neg (by decide), if_pos rfl]
theorem read_nan {b : F64} (h : rung b > 9218868437227405312) : ∃ s t, FloatKind.f64.format.read b.toNat = .nan s t := by
 unfold Ieee.Format.read
 have e1 : FloatKind.f64.format.signWeight = 9223372036854775808 := by decide
 have e2 : FloatKind.f64.format.binade = 4503599627370496 := by decide
 have e3 : FloatKind.f64.format.infRung = 9218868437227405312 := by decide
 rw [e1, e2, e3]
 unfold rung at h
 dsimp only
 rw [if_neg (by omega), if_neg (by omega), if_neg (by omega)]
 exact ⟨_, _, rfl⟩
def skey (b : F64) : Int := if negF b = true then -((rung b : Nat) : Int) else ((rung b : Nat) : Int)
theorem cmp_scale (x y : Int) {p : Nat} (hp : 0 < p) : compare x y = compare (x * (p : Int)) (y * (p : Int)) := by
 have hp2 : (0 : Int) < (p : Int) := by omega
 have h1 : x < y ↔ x * (p : Int) < y * (p : Int) := ⟨fun h => Int.mul_lt_mul_of_pos_right h hp2, fun h => Int.lt_of_mul_lt_mul_right h (Int.le_of_lt hp2)⟩
 have h2 : x = y ↔ x * (p : Int) = y * (p : Int) := ⟨fun h => by rw [h], fun h => Int.eq_of_mul_eq_mul_right (by omega) h⟩
 simp only [compare, compareOfLessAndEq]
 by_cases h3 : x < y
 ·rw [if_pos h3, if_pos (h1.1 h3)]
 ·rw [if_neg h3, if_neg (fun q => h3 (h1.2 q))]
  by_cases h4 : x = y
  ·rw [if_pos h4, if_pos (h2.1 h4)]
  ·rw [if_neg h4, if_neg (fun q => h4 (h2.2 q))]
theorem cmp_iff {x y x' y' : Int} (h1 : x < y ↔ x' < y') (h2 : x = y ↔ x' = y') : compare x y = compare x' y' := by
 simp only [compare, compareOfLessAndEq]
 by_cases h3 : x < y
 ·rw [if_pos h3, if_pos (h1.1 h3)]
 ·rw [if_neg h3, if_neg (fun q => h3 (h1.2 q))]
  by_cases h4 : x = y
  ·rw [if_pos h4, if_pos (h2.1 h4)]
  ·rw [if_neg h4, if_neg (fun q => h4 (h2.2 q))]
theorem signed_scale (s : Bool) (m up k : Nat) : Ieee.signed s m up * ((2 ^ k : Nat) : Int) = if s = true then -((m * 2 ^ (up + k) : Nat) : Int) else ((m * 2 ^ (up + k) : Nat) : Int) := by
 unfold Ieee.signed
 rw [Nat.shiftLeft_eq, Nat.pow_add, ← Nat.mul_assoc]
 split
 ·rw [Int.neg_mul]; rfl
 ·rfl
theorem ford_num {a b : F64} (ha : rung a < 9218868437227405312) (hb : rung b < 9218868437227405312) : ford a b = some (compare (skey a) (skey b)) := by
 unfold ford Ieee.Format.order
 rw [read_num ha, read_num hb]
 unfold Ieee.Datum.order
 dsimp only
 congr 1
 generalize hua : upF (rung a) = ua
 generalize hub : upF (rung b) = ub
 have hmin : min ((-1074 : Int) + (ua : Nat)) ((-1074 : Int) + (ub : Nat)) = (-1074 : Int) + ((min ua ub : Nat) : Int) := by omega
 rw [hmin]
 have e1 : ((-1074 : Int) + (ua : Nat) - ((-1074 : Int) + ((min ua ub : Nat) : Int))).toNat = ua - min ua ub := by omega
 have e2 : ((-1074 : Int) + (ub : Nat) - ((-1074 : Int) + ((min ua ub : Nat) : Int))).toNat = ub - min ua ub := by omega
 rw [e1, e2, cmp_scale _ _ (p := 2 ^ min ua ub) (Nat.two_pow_pos _), signed_scale, signed_scale, show ua - min ua ub + min ua ub = ua by omega, show ub - min ua ub + min ua ub = ub by omega, ← hua, ← hub, ← magF_eq, ← magF_eq]
 unfold skey
 have m1 : rung a < rung b ↔ magF (rung a) < magF (rung b) := ⟨magF_mono, fun h => Nat.lt_of_not_le fun q => by
  rcases Nat.lt_or_ge (rung b) (rung a) with h2 | h2
  ·have := magF_mono h2; omega
  ·have : rung a = rung b := by omega
   rw [this] at h; omega⟩
 have m2 : rung a = rung b ↔ magF (rung a) = magF (rung b) := ⟨fun h => by rw [h], magF_inj⟩
 have z1 : rung a = 0 ↔ magF (rung a) = 0 := ⟨fun h => by rw [h]; rfl, fun h => magF_inj (h.trans rfl)⟩
 have z2 : rung b = 0 ↔ magF (rung b) = 0 := ⟨fun h => by rw [h]; rfl, fun h => magF_inj (h.trans rfl)⟩
 generalize magF (rung a) = x at *
 generalize magF (rung b) = y at *
 generalize rung a = r at *
 generalize rung b = q at *
 refine cmp_iff ?_ ?_
 ·split <;> split <;> omega
 ·split <;> split <;> omega
theorem cmp_lt {x y : Int} : (compare x y = .lt) ↔ x < y := by
 simp only [compare, compareOfLessAndEq]
 by_cases h : x < y
 ·simp [h]
 ·rw [if_neg h]
  by_cases h2 : x = y
  ·simp [h2]
  ·simp [h, h2]
theorem cmp_eq {x y : Int} : (compare x y = .eq) ↔ x = y := by
 simp only [compare, compareOfLessAndEq]
 by_cases h : x < y
 ·simp [h]; omega
 ·rw [if_neg h]
  by_cases h2 : x = y
  ·simp [h2]
  ·simp [h2]
theorem cmp_gt {x y : Int} : (compare x y = .gt) ↔ y < x := by
 simp only [compare, compareOfLessAndEq]
 by_cases h : x < y
 ·simp [h]; omega
 ·rw [if_neg h]
  by_cases h2 : x = y
  ·simp [h2]
  ·simp [h2]; omega
theorem ford_eq {a b : F64} (ha : rung a ≤ 9218868437227405312) (hb : rung b ≤ 9218868437227405312) : ford a b = some (compare (skey a) (skey b)) := by
 by_cases h1 : rung a = 9218868437227405312
 ·by_cases h2 : rung b = 9218868437227405312
  ·unfold ford Ieee.Format.order skey
   rw [read_inf h1, read_inf h2, h1, h2]
   cases negF a <;> cases negF b <;> rfl
  ·unfold ford Ieee.Format.order skey
   rw [read_inf h1, read_num (by omega), h1]
   unfold Ieee.Datum.order
   dsimp only
   congr 1
   generalize rung b = q at *
   cases negF a
   ·simp only [Bool.false_eq_true, if_false]
    exact (cmp_gt.2 (by split <;> omega)).symm
   ·simp only [if_true]
    exact (cmp_lt.2 (by split <;> omega)).symm
 ·by_cases h2 : rung b = 9218868437227405312
  ·unfold ford Ieee.Format.order skey
   rw [read_inf h2, read_num (by omega), h2]
   unfold Ieee.Datum.order
   dsimp only
   congr 1
   generalize rung a = q at *
   cases negF b
   ·simp only [Bool.false_eq_true, if_false]
    exact (cmp_lt.2 (by split <;> omega)).symm
   ·simp only [if_true]
    exact (cmp_gt.2 (by split <;> omega)).symm
  ·exact ford_num (by omega) (by omega)
theorem ford_nan {a : F64} (h : rung a > 9218868437227405312) : ford a a = none := by
 obtain ⟨s, t, e⟩ := read_nan h
 unfold ford Ieee.Format.order
 rw [e]
 rfl
end Go.Proofs.YtfekkhinjdmcbaaDoor.VM

/- Words and rules that the proof uses. -/
namespace Go.Proofs.YtfekkhinjdmcbaaDoor.VM
open Go Go.RowKit
theorem word_ok {s : List UInt8} (h : 8 ≤ s.length) : ∃ w, g_utf8_word_string s = some w := by
 unfold g_utf8_word_string
 rw [if_neg (by decide), if_pos (by omega), if_pos (by omega), if_pos (by omega), if_pos (by omega), if_pos (by omega), if_pos (by omega), if_pos (by omega), if_pos (by omega), letO_eq]
 exact ⟨_, rfl⟩
theorem cutl {s : List UInt8} {a : Int} (h : 0 ≤ a ∧ a ≤ (s.length : Int)) : (cut s a (s.length : Int)).length = s.length - a.toNat := by
 rw [cut_len ⟨h.1, h.2, Int.le_refl _⟩, Int.toNat_natCast]
theorem fast_ok {s : List UInt8} (h : 32 < s.length) : ∃ b, ((g_utf8_word_string s).bind fun r'9 => if 0 ≤ (8 : Int) ∧ (8 : Int) ≤ (s.length : Int) then (g_utf8_word_string (cut s (8 : Int) (s.length : Int))).bind fun r'10 => if 0 ≤ (16 : Int) ∧ (16 : Int) ≤ (s.length : Int) then (g_utf8_word_string (cut s (16 : Int) (s.length : Int))).bind fun r'11 => if 0 ≤ (24 : Int) ∧ (24 : Int) ≤ (s.length : Int) then (g_utf8_word_string (cut s (24 : Int) (s.length : Int))).bind fun r'12 => some (decide (((r'9 ||| r'10) ||| (r'11 ||| r'12)) &&& (9259542123273814144 : UInt64) = (0 : UInt64))) else none else none else none) = some b := by
 obtain ⟨w1, h1⟩ := word_ok (s := s) (by omega)
 obtain ⟨w2, h2⟩ := word_ok (s := cut s (8 : Int) (s.length : Int)) (by rw [cutl (by omega)]; omega)
 obtain ⟨w3, h3⟩ := word_ok (s := cut s (16 : Int) (s.length : Int)) (by rw [cutl (by omega)]; omega)
 obtain ⟨w4, h4⟩ := word_ok (s := cut s (24 : Int) (s.length : Int)) (by rw [cutl (by omega)]; omega)
 rw [h1, Option.bind_some, if_pos (by omega), h2, Option.bind_some, if_pos (by omega), h3, Option.bind_some, if_pos (by omega), h4, Option.bind_some]
 exact ⟨_, rfl⟩
theorem quick_loop (n : Nat) {s : List UInt8} (h : s.length ≤ n) : ∃ r : List UInt8, loopO g_utf8_ValidString_l1 s = some r ∧ r.length ≤ n := by
 refine loopO_rule (fun s : List UInt8 => s.length ≤ n) (fun r : List UInt8 => r.length ≤ n) List.length (fun s hs => ?_) h
 unfold g_utf8_ValidString_l1
 dsimp only
 by_cases h1 : (s.length : Int) > 32
 ·rw [if_pos h1]
  obtain ⟨b, hb⟩ := fast_ok (s := s) (by omega)
  rw [hb, Option.bind_some]
  cases b with
  | true =>
   rw [if_pos rfl, if_pos (by omega)]
   exact .inl ⟨_, rfl, by rw [cutl (by omega)]; omega, by rw [cutl (by omega)]; omega⟩
  | false =>
   rw [if_neg (by decide)]
   exact .inr ⟨_, rfl, hs⟩
 ·rw [if_neg h1]
  exact .inr ⟨_, rfl, hs⟩
theorem skip_ok {s : List UInt8} (h : 0 < s.length) : ∃ j, (((if ((cut s (1 : Int) (s.length : Int)).length : Int) > (8 : Int) then (g_utf8_word_string (cut s (1 : Int) (s.length : Int))).bind fun r'3 => some (decide (r'3 &&& (9259542123273814144 : UInt64) = (0 : UInt64))) else some false)).bind fun g'4 => (if g'4 = true then if 0 ≤ (8 : Int) ∧ (8 : Int) ≤ ((cut s (1 : Int) (s.length : Int)).length : Int) then letO ((cut (cut s (1 : Int) (s.length : Int)) (8 : Int) ((cut s (1 : Int) (s.length : Int)).length : Int))) fun s0'5 => ((if (s0'5.length : Int) > (16 : Int) then (g_utf8_word_string s0'5).bind fun r'6 => if 0 ≤ (8 : Int) ∧ (8 : Int) ≤ (s0'5.length : Int) then (g_utf8_word_string (cut s0'5 (8 : Int) (s0'5.length : Int))).bind fun r'7 => some (decide ((r'6 ||| r'7) &&& (9259542123273814144 : UInt64) = (0 : UInt64))) else none else some false)).bind fun g'8 => (if g'8 = true then if 0 ≤ (16 : Int) ∧ (16 : Int) ≤ (s0'5.length : Int) then (loopO (g_utf8_ValidString_l1) (cut s0'5 (16 : Int) (s0'5.length : Int))).bind fun y'17 => some y'17 else none else some s0'5) else none else some (cut s (1 : Int) (s.length : Int)))) = some j ∧ j.length < s.length := by
 have hc : (cut s (1 : Int) (s.length : Int)).length = s.length - 1 := by rw [cutl (by omega)]; rfl
 generalize cut s (1 : Int) (s.length : Int) = t at *
 by_cases h1 : (t.length : Int) > 8
 ·rw [if_pos h1]
  obtain ⟨w, hw⟩ := word_ok (s := t) (by omega)
  rw [hw, Option.bind_some, Option.bind_some]
  by_cases h2 : decide (w &&& (9259542123273814144 : UInt64) = (0 : UInt64)) = true
  ·rw [if_pos h2, if_pos (by omega), letO_eq]
   have hu : (cut t (8 : Int) (t.length : Int)).length = t.length - 8 := by rw [cutl (by omega)]; rfl
   generalize cut t (8 : Int) (t.length : Int) = u at *
   by_cases h3 : (u.length : Int) > 16
   ·obtain ⟨w2, hw2⟩ := word_ok (s := u) (by omega)
    obtain ⟨w3, hw3⟩ := word_ok (s := cut u (8 : Int) (u.length : Int)) (by rw [cutl (by omega)]; omega)
    rw [if_pos h3, hw2, Option.bind_some, if_pos (by omega), hw3, Option.bind_some, Option.bind_some]
    by_cases h4 : decide ((w2 ||| w3) &&& (9259542123273814144 : UInt64) = (0 : UInt64)) = true
    ·rw [if_pos h4, if_pos (by omega)]
     obtain ⟨r, hr, hl⟩ := quick_loop (u.length - 16) (s := cut u (16 : Int) (u.length : Int)) (by rw [cutl (by omega)]; exact Nat.le_refl _)
     rw [hr]
     exact ⟨r, rfl, by omega⟩
    ·rw [if_neg h4]
     exact ⟨_, rfl, by omega⟩
   ·rw [if_neg h3, Option.bind_some, if_neg (by decide)]
    exact ⟨_, rfl, by omega⟩
  ·rw [if_neg h2]
   exact ⟨_, rfl, by omega⟩
 ·rw [if_neg h1, Option.bind_some, if_neg (by decide)]
  exact ⟨_, rfl, by omega⟩
theorem two_ok {s : List UInt8} {lo hi : UInt8} (h : 0 < s.length) : ∃ b, (if (s.length : Int) < (2 : Int) then some true else if 1 < s.length then (if (lrd s 1) < lo then some true else if 1 < s.length then some (decide (hi < (lrd s 1))) else none) else none) = some b ∧ (b = false → 2 ≤ s.length) := by
 by_cases h1 : (s.length : Int) < 2
 ·rw [if_pos h1]; exact ⟨_, rfl, fun q => by cases q⟩
 ·rw [if_neg h1, if_pos (by omega)]
  split
  ·exact ⟨_, rfl, fun q => by cases q⟩
  ·rw [if_pos (by omega)]; exact ⟨_, rfl, fun _ => by omega⟩
theorem valid_ok (s : List UInt8) : ∃ b, g_utf8_ValidString s = some b := by
 unfold g_utf8_ValidString
 have : ∃ r, loopO g_utf8_ValidString_l0 s = some r ∧ True := by
  refine loopO_rule (fun _ => True) (fun _ => True) List.length (fun s _ => ?_) trivial
  unfold g_utf8_ValidString_l0
  dsimp only
  by_cases h0 : (s.length : Int) > 0
  ·rw [if_pos h0, if_pos (by omega)]
   by_cases h1 : lrd s 0 < (128 : UInt8)
   ·rw [if_pos h1, if_pos (by omega)]
    obtain ⟨j, hj, hl⟩ := skip_ok (s := s) (by omega)
    rw [hj, Option.bind_some]
    exact .inl ⟨_, rfl, trivial, hl⟩
   ·have hb : (lrd s 0).toNat < 256 := (lrd s 0).toNat_lt
    have hx : ∀ x : UInt8, 0 ≤ ((shr_u8 x 4).toNat : Int) ∧ ((shr_u8 x 4).toNat : Int) < 16 := by
     intro x
     have h1 : (shr_u8 x 4).toNat = x.toNat / 16 := by
      show (x.toBitVec >>> 4).toNat = _
      rw [BitVec.toNat_ushiftRight, Nat.shiftRight_eq_div_pow]
      rfl
     have := x.toNat_lt
     rw [h1]
     omega
    rw [if_neg h1, if_pos (by omega), letO_eq, if_pos (hx _), letO_eq]
    generalize (lrd _ _ : Gutf8_acceptRange) = a
    generalize ((_ &&& (7 : UInt8)).toNat : Int) = z
    by_cases z2 : z = 2
    ·rw [if_pos z2]
     obtain ⟨b, hb, hl⟩ := two_ok (s := s) (lo := a.lo_) (hi := a.hi_) (by omega)
     rw [hb, Option.bind_some]
     cases b with
     | true => rw [if_pos rfl]; exact .inr ⟨_, rfl, trivial⟩
     | false =>
      have := hl rfl
      rw [if_neg (by decide), if_pos (by omega)]
      exact .inl ⟨_, rfl, trivial, by rw [cutl (by omega)]; omega⟩
    ·rw [if_neg z2]
     by_cases z3 : z = 3
     ·rw [if_pos z3]
      by_cases l3 : (s.length : Int) < 3
      ·rw [if_pos l3, Option.bind_some, if_pos rfl]; exact .inr ⟨_, rfl, trivial⟩
      ·rw [if_neg l3, if_pos (show 1 < s.length by omega), if_pos (show 1 < s.length by omega), if_pos (show 2 < s.length by omega), if_pos (show 2 < s.length by omega), if_pos (show 0 ≤ (3 : Int) ∧ (3 : Int) ≤ (s.length : Int) by omega)]
       have hd : (cut s (3 : Int) (s.length : Int)).length < s.length := by rw [cutl (by omega)]; omega
       split
       ·exact .inr ⟨_, rfl, trivial⟩
       ·split
        ·exact .inr ⟨_, rfl, trivial⟩
        ·split
         ·exact .inr ⟨_, rfl, trivial⟩
         ·rw [Option.bind_some]
          split
          ·exact .inr ⟨_, rfl, trivial⟩
          ·exact .inl ⟨_, rfl, trivial, hd⟩
     ·rw [if_neg z3]
      by_cases z4 : z = 4
      ·rw [if_pos z4]
       by_cases l3 : (s.length : Int) < 4
       ·rw [if_pos l3, Option.bind_some, if_pos rfl]; exact .inr ⟨_, rfl, trivial⟩
       ·rw [if_neg l3, if_pos (show 1 < s.length by omega), if_pos (show 1 < s.length by omega), if_pos (show 2 < s.length by omega), if_pos (show 2 < s.length by omega), if_pos (show 3 < s.length by omega), if_pos (show 3 < s.length by omega), if_pos (show 0 ≤ (4 : Int) ∧ (4 : Int) ≤ (s.length : Int) by omega)]
        have hd : (cut s (4 : Int) (s.length : Int)).length < s.length := by rw [cutl (by omega)]; omega
        split
        ·exact .inr ⟨_, rfl, trivial⟩
        ·split
         ·exact .inr ⟨_, rfl, trivial⟩
         ·split
          ·exact .inr ⟨_, rfl, trivial⟩
          ·split
           ·exact .inr ⟨_, rfl, trivial⟩
           ·split
            ·exact .inr ⟨_, rfl, trivial⟩
            ·rw [Option.bind_some]
             split
             ·exact .inr ⟨_, rfl, trivial⟩
             ·exact .inl ⟨_, rfl, trivial, hd⟩
      ·rw [if_neg z4]
       exact .inr ⟨_, rfl, trivial⟩
  ·rw [if_neg h0]
   exact .inr ⟨_, rfl, trivial⟩
 obtain ⟨r, hr, _⟩ := this
 rw [hr, Option.bind_some]
 cases r with
 | inl b => exact ⟨_, rfl⟩
 | inr u => exact ⟨_, rfl⟩
theorem valid_nil : g_utf8_ValidString [] = some true := by
 unfold g_utf8_ValidString
 rw [loopO_done (r := .inr ()) (by unfold g_utf8_ValidString_l0; rfl)]
 rfl
end Go.Proofs.YtfekkhinjdmcbaaDoor.VM

/- Words and rules that the proof uses. -/
namespace Go.Proofs.YtfekkhinjdmcbaaDoor.VM
open Go Go.RowKit
theorem shl1_nat (b : UInt64) : (shl_u64 b 1).toNat = 2 * (b.toNat % 9223372036854775808) := by
 show (b.toBitVec <<< 1).toNat = _
 rw [BitVec.toNat_shiftLeft, Nat.shiftLeft_eq]
 show b.toNat * 2 ^ 1 % 2 ^ 64 = _
 omega
theorem bad_iff (b : UInt64) : ((18437736874454810624 : UInt64) < shl_u64 b 1) ↔ rung b > 9218868437227405312 := by
 rw [UInt64.lt_iff_toNat_lt, shl1_nat]
 show 18437736874454810624 < _ ↔ _
 unfold rung
 omega
theorem top_iff (b : UInt64) : b = (9223372036854775808 : UInt64) ↔ b.toNat = 9223372036854775808 := by
 constructor
 ·intro h; rw [h]; rfl
 ·intro h; exact UInt64.toNat_inj.1 h
theorem sign_eq (b : UInt64) : (w64 (b.toNat : Int) < 0) ↔ 9223372036854775808 ≤ b.toNat := by
 have hb : b.toNat < 18446744073709551616 := b.toNat_lt
 unfold w64 IntKind.wrap
 have e1 : (2 ^ IntKind.i64.bits : Int) = 18446744073709551616 := by decide
 have e2 : (2 ^ (IntKind.i64.bits - 1) : Int) = 9223372036854775808 := by decide
 have e3 : IntKind.i64.signed = true := rfl
 rw [e1, e2, e3]
 simp only [Bool.true_and, decide_eq_true_eq]
 split <;> omega
theorem skey0 : skey (0 : F64) = 0 := by decide
theorem ford_self {b : F64} (h : rung b ≤ 9218868437227405312) : ford b b = some .eq := by
 rw [ford_eq h h, cmp_eq.2 rfl]
theorem real_bad (b : UInt64) : (if (fneq b b) = true then some true else (if (feq b (0 : F64)) = true then (g_math_Signbit b).bind fun r'4 => some r'4 else some false)) = some (decide ((b = (9223372036854775808 : UInt64)) ∨ ((18437736874454810624 : UInt64) < shl_u64 b 1))) := by
 have hb : b.toNat < 18446744073709551616 := b.toNat_lt
 by_cases h : rung b > 9218868437227405312
 ·have : fneq b b = true := by unfold fneq; rw [ford_nan h]; rfl
  rw [if_pos this, decide_eq_true (.inr ((bad_iff b).2 h))]
 ·have h' : rung b ≤ 9218868437227405312 := by omega
  have h1 : ¬ (fneq b b = true) := by unfold fneq; rw [ford_self h']; decide
  rw [if_neg h1]
  by_cases h2 : rung b = 0
  ·have h3 : feq b (0 : F64) = true := by
    unfold feq
    rw [ford_eq h' (by decide), skey0]
    have : skey b = 0 := by unfold skey; rw [h2]; split <;> rfl
    rw [this]
    rfl
   rw [if_pos h3]
   unfold g_math_Signbit
   rw [Option.bind_some]
   congr 1
   rw [decide_eq_decide, sign_eq, top_iff, bad_iff]
   unfold rung at *
   omega
  ·have h3 : ¬ (feq b (0 : F64) = true) := by
    unfold feq
    rw [ford_eq h' (by decide), skey0]
    intro q
    have q2 : compare (skey b) 0 = .eq := by simpa using q
    have := cmp_eq.1 q2
    unfold skey at this
    split at this <;> omega
   rw [if_neg h3, decide_eq_false]
   rw [top_iff, bad_iff]
   unfold rung at *
   omega
theorem u64i (n : Int) : (UInt64.ofInt n).toNat = (n % 18446744073709551616).toNat := by
 unfold UInt64.ofInt
 rw [UInt64.toNat_ofNat']
 have : (2 : Int) ^ 64 = 18446744073709551616 := by decide
 have : (2 : Nat) ^ 64 = 18446744073709551616 := by decide
 omega
def okV1 (v : GValue) : Prop := 0 ≤ v.Kind ∧ v.Kind ≤ 4 ∧ v.Text.length ≤ 40 ∧ (v.Kind = 3 → ¬ ((v.Bits = (9223372036854775808 : UInt64)) ∨ ((18437736874454810624 : UInt64) < shl_u64 v.Bits 1)))
theorem check_eq (v : GValue) (hi : okI v.Int_) : ∃ e : Int, g_value_Check v = some e ∧ g_ref_ValueFault v = some e ∧ (e = 0 → okV1 v) := by
 obtain ⟨k, i, b, t⟩ := v
 unfold okI at hi
 dsimp only at hi
 obtain ⟨vb, hv⟩ := valid_ok t
 unfold g_value_Check g_ref_ValueFault g_ref_badReal okV1
 dsimp only
 by_cases hk : k < 0 ∨ k > 4
 ·rw [if_pos hk, if_neg (show ¬ k = 0 by omega), if_neg (show ¬ k = 1 by omega), Option.bind_some, decide_eq_false (show ¬ k = 2 by omega), if_neg (by decide), if_neg (show ¬ k = 3 by omega), if_neg (show ¬ k = 4 by omega)]
  exact ⟨2, rfl, rfl, fun q => absurd q (by decide)⟩
 ·rw [if_neg hk]
  by_cases hl : (t.length : Int) > 40
  ·rw [if_pos hl]
   refine ⟨1, rfl, ?_, fun q => absurd q (by decide)⟩
   have hk5 : k = 0 ∨ k = 1 ∨ k = 2 ∨ k = 3 ∨ k = 4 := by omega
   rcases hk5 with rfl | rfl | rfl | rfl | rfl <;> simp [hl]
  ·rw [if_neg hl, letO_eq]
   have hk5 : k = 0 ∨ k = 1 ∨ k = 2 ∨ k = 3 ∨ k = 4 := by omega
   rcases hk5 with rfl | rfl | rfl | rfl | rfl
   ·by_cases h : t = [] ∧ b = 0 ∧ i = 0
    ·obtain ⟨rfl, rfl, rfl⟩ := h
     refine ⟨0, by simp, ?_, fun _ => by simp⟩
     simp [valid_nil, GValue.zero]
    ·refine ⟨3, ?_, ?_, fun q => absurd q (by decide)⟩
     ·rw [if_pos]
      simp
      by_cases h1 : t = []
      ·by_cases h2 : b = 0
       ·exact .inr fun q => h ⟨h1, h2, q⟩
       ·exact .inl (.inr h2)
      ·exact .inl (.inl h1)
     ·simp [GValue.zero, hl]
      rw [if_neg (fun q => h ⟨q.2.2, q.2.1, q.1⟩)]
      rfl
   ·by_cases h : t = [] ∧ b = 0
    ·obtain ⟨rfl, rfl⟩ := h
     by_cases hi2 : i = 0 ∨ i = 1
     ·have h1 : ¬ ((1 : UInt64) < UInt64.ofInt i) := by
       rw [UInt64.lt_iff_toNat_lt, u64i]
       show ¬ 1 < _
       omega
      refine ⟨0, ?_, ?_, fun _ => by simp⟩
      ·simp
       rw [if_neg (by omega)]
       rfl
      ·simp [GValue.zero, valid_nil]
       rw [if_neg h1]
       rfl
     ·have h1 : (1 : UInt64) < UInt64.ofInt i := by
       rw [UInt64.lt_iff_toNat_lt, u64i]
       show 1 < _
       omega
      refine ⟨3, ?_, ?_, fun q => absurd q (by decide)⟩
      ·simp
       rw [if_pos (by omega)]
       rfl
      ·simp [GValue.zero]
       rw [if_pos h1]
       rfl
    ·refine ⟨3, ?_, ?_, fun q => absurd q (by decide)⟩
     ·rw [if_pos]
      simp
      by_cases h1 : t = []
      ·exact .inr fun q => h ⟨h1, q⟩
      ·exact .inl h1
     ·simp [GValue.zero, hl]
      rw [if_neg (fun q => h ⟨q.2, q.1⟩)]
      rfl
   ·by_cases h : t = [] ∧ b = 0
    ·obtain ⟨rfl, rfl⟩ := h
     refine ⟨0, by simp, ?_, fun _ => by simp⟩
     simp [valid_nil, GValue.zero]
    ·refine ⟨3, ?_, ?_, fun q => absurd q (by decide)⟩
     ·rw [if_pos]
      simp
      by_cases h1 : t = []
      ·exact .inr fun q => h ⟨h1, q⟩
      ·exact .inl h1
     ·simp [GValue.zero, hl]
      rw [if_neg (fun q => h ⟨q.2, q.1⟩)]
      rfl
   ·by_cases h : t = [] ∧ i = 0
    ·obtain ⟨rfl, rfl⟩ := h
     have hr := real_bad b
     by_cases hb : (b = (9223372036854775808 : UInt64)) ∨ ((18437736874454810624 : UInt64) < shl_u64 b 1)
     ·refine ⟨3, ?_, ?_, fun q => absurd q (by decide)⟩
      ·rw [if_neg (by simp), if_neg (by decide), if_pos rfl, hr, decide_eq_true hb]
       rfl
      ·revert hb
       generalize shl_u64 b 1 = z
       intro hb
       simp [GValue.zero]
       rw [if_pos hb]
       rfl
     ·refine ⟨0, ?_, ?_, fun _ => ⟨by decide, by decide, by simp, fun _ => hb⟩⟩
      ·rw [if_neg (by simp), if_neg (by decide), if_pos rfl, hr, decide_eq_false hb]
       rfl
      ·revert hb
       generalize shl_u64 b 1 = z
       intro hb
       simp [GValue.zero, valid_nil]
       rw [if_neg hb]
       rfl
    ·refine ⟨3, ?_, ?_, fun q => absurd q (by decide)⟩
     ·rw [if_pos]
      simp
      by_cases h1 : t = []
      ·exact .inr fun q => h ⟨h1, q⟩
      ·exact .inl h1
     ·simp [GValue.zero, hl]
      rw [if_neg (fun q => h ⟨q.2, q.1⟩)]
      rfl
   ·by_cases h : b = 0 ∧ i = 0
    ·obtain ⟨rfl, rfl⟩ := h
     cases vb with
     | true =>
      refine ⟨0, ?_, ?_, fun _ => ⟨by decide, by decide, by omega, fun q => absurd q (by decide)⟩⟩
      ·simp [hv]
      ·simp [GValue.zero, hv, hl]
     | false =>
      refine ⟨3, ?_, ?_, fun q => absurd q (by decide)⟩
      ·simp [hv]
      ·simp [GValue.zero, hv, hl]
    ·refine ⟨3, ?_, ?_, fun q => absurd q (by decide)⟩
     ·rw [if_pos]
      simp
      by_cases h1 : b = 0
      ·exact .inr fun q => h ⟨h1, q⟩
      ·exact .inl h1
     ·simp [GValue.zero, hl]
      rw [if_neg (fun q => h ⟨q.2, q.1⟩)]
      rfl
end Go.Proofs.YtfekkhinjdmcbaaDoor.VM

/- Words and rules that the proof uses. -/
namespace Go.Proofs.YtfekkhinjdmcbaaDoor.VM
open Go Go.RowKit
end Go.Proofs.YtfekkhinjdmcbaaDoor.VM

/- Words and rules that the proof uses. -/
namespace Go.Proofs.YtfekkhinjdmcbaaDoor.VM
open Go Go.RowKit
theorem top_xor (n : UInt64) : n ^^^ (9223372036854775808 : UInt64) = n - (9223372036854775808 : UInt64) := by
 apply UInt64.toBitVec_inj.1
 show n.toBitVec ^^^ 9223372036854775808#64 = n.toBitVec - 9223372036854775808#64
 generalize n.toBitVec = x
 have hT : -(9223372036854775808#64) = 9223372036854775808#64 := by decide
 rw [BitVec.sub_eq_add_neg, hT]
 apply BitVec.eq_of_getLsbD_eq
 intro i hi
 rw [BitVec.getLsbD_xor, BitVec.getLsbD_add hi]
 have hc : BitVec.carry i x 9223372036854775808#64 false = false := by
  unfold BitVec.carry
  have h0 : (9223372036854775808#64).toNat % 2 ^ i = 0 := by
   show 2 ^ 63 % 2 ^ i = 0
   exact Nat.mod_eq_zero_of_dvd (Nat.pow_dvd_pow 2 (by omega))
  have := Nat.mod_lt x.toNat (Nat.pow_pos (n := i) (show 0 < 2 by decide))
  rw [h0]
  simp
  omega
 rw [hc, Bool.xor_false]
theorem top_lt (n : UInt64) : (n &&& (9223372036854775808 : UInt64) ≠ 0) ↔ ¬ n < (9223372036854775808 : UInt64) := by
 rw [UInt64.lt_iff_toNat_lt]
 have h1 : n &&& (9223372036854775808 : UInt64) = if 9223372036854775808 ≤ n.toNat then 9223372036854775808 else 0 := by
  apply UInt64.toBitVec_inj.1
  show n.toBitVec &&& BitVec.twoPow 64 63 = _
  rw [BitVec.and_twoPow]
  have h2 : n.toBitVec.getLsbD 63 = decide (9223372036854775808 ≤ n.toNat) := by
   have := BitVec.msb_eq_decide n.toBitVec
   rw [BitVec.msb_eq_getLsbD_last] at this
   exact this
  rw [h2]
  by_cases h : 9223372036854775808 ≤ n.toNat
  ·rw [if_pos (decide_eq_true h), if_pos h]; rfl
  ·rw [if_neg (by rw [decide_eq_false h]; decide), if_neg h]; rfl
 rw [h1]
 show _ ↔ ¬ n.toNat < 9223372036854775808
 by_cases h : 9223372036854775808 ≤ n.toNat
 ·rw [if_pos h]
  exact ⟨fun _ => by omega, fun _ => by decide⟩
 ·rw [if_neg h]
  exact ⟨fun q => absurd rfl q, fun q => absurd (by omega) q⟩
end Go.Proofs.YtfekkhinjdmcbaaDoor.VM

/- Words and rules that the proof uses. -/
namespace Go.Proofs.YtfekkhinjdmcbaaDoor.VM
open Go Go.RowKit
theorem par (x : Int) (i : Nat) (hi : i < 64) : (x / 2 ^ i) % 2 = ((x % 2 ^ 64) / 2 ^ i) % 2 := by
 have hM : (2 : Int) ^ 64 = 2 ^ i * (2 * 2 ^ (63 - i)) := by
  rw [← Int.mul_assoc, ← Int.pow_succ, ← Int.pow_add]
  congr 1
  omega
 have hx : x = x % 2 ^ 64 + 2 ^ i * (2 * (2 ^ (63 - i) * (x / 2 ^ 64))) := by
  have := Int.emod_add_mul_ediv x (2 ^ 64)
  have h2 : (2 : Int) ^ 64 * (x / 2 ^ 64) = 2 ^ i * (2 * (2 ^ (63 - i) * (x / 2 ^ 64))) := by
   conv => lhs; rw [hM]
   conv => rhs; rw [hM]
   simp only [Int.mul_assoc]
  rw [← h2]; exact this.symm
 have hne : (2 : Int) ^ i ≠ 0 := Int.pow_ne_zero (by decide)
 conv => lhs; rw [hx]
 rw [Int.add_mul_ediv_left _ _ hne, Int.add_mul_emod_self_left]
theorem bitAt (x : Int) (i : Nat) (hi : i < 64) : (BitVec.ofInt 64 x).getLsbD i = decide ((x / 2 ^ i) % 2 = 1) := by
 rw [par x i hi, BitVec.getLsbD, BitVec.toNat_ofInt, Nat.testBit_eq_decide_div_mod_eq]
 have h0 : 0 ≤ x % 2 ^ 64 := Int.emod_nonneg _ (by decide)
 obtain ⟨n, hn⟩ := Int.eq_ofNat_of_zero_le h0
 have e : (((2 : Nat) ^ 64 : Nat) : Int) = 2 ^ 64 := by decide
 rw [e, hn, Int.toNat_natCast]
 refine decide_eq_decide.2 ?_
 rw [show ((2 : Int) ^ i) = ((2 ^ i : Nat) : Int) by simp, ← Int.natCast_ediv, show (2 : Int) = ((2 : Nat) : Int) from rfl, ← Int.natCast_emod]
 omega
theorem pow_lt63 {i : Nat} (hi : i < 63) : 2 ^ i ≤ 4611686018427387904 := Nat.le_trans (Nat.pow_le_pow_right (by decide) (show i ≤ 62 by omega)) (by decide)
theorem and_bit (a : Int) {i : Nat} (hi : i < 63) : iand a ((2 ^ i : Nat) : Int) = if (a / 2 ^ i) % 2 = 1 then ((2 ^ i : Nat) : Int) else 0 := by
 have hp := pow_lt63 hi
 have h1 : BitVec.ofInt 64 ((2 ^ i : Nat) : Int) = BitVec.twoPow 64 i := by
  apply BitVec.eq_of_toNat_eq
  rw [BitVec.toNat_ofInt, BitVec.toNat_twoPow]
  have e : (((2 : Nat) ^ 64 : Nat) : Int) = 18446744073709551616 := by decide
  have e2 : (2 : Nat) ^ 64 = 18446744073709551616 := by decide
  rw [e, e2]
  omega
 show w64 (((BitVec.ofInt 64 a) &&& (BitVec.ofInt 64 ((2 ^ i : Nat) : Int))).toNat : Int) = _
 rw [h1, BitVec.and_twoPow, bitAt a i (by omega)]
 by_cases h : (a / 2 ^ i) % 2 = 1
 ·rw [if_pos (decide_eq_true h), if_pos h, BitVec.toNat_twoPow, Nat.mod_eq_of_lt (Nat.lt_of_le_of_lt hp (by decide))]
  clear h h1
  generalize (2 ^ i : Nat) = q at hp
  exact w64_id (by omega)
 ·rw [if_neg (by rw [decide_eq_false h]; decide), if_neg h]
  rfl
theorem keep_eq (x : Int) {i : Nat} (hi : i < 63) : decide (iand (ishr x i) (1 : Int) = (1 : Int)) = decide (iand x (ishl (1 : Int) i) ≠ (0 : Int)) := by
 have hp := pow_lt63 hi
 have hpos : 0 < 2 ^ i := Nat.pow_pos (by decide)
 have h1 : ishr x i = x / 2 ^ i := by
  show x.fdiv (2 ^ min i 64) = _
  rw [Nat.min_eq_left (by omega), Int.fdiv_eq_ediv_of_nonneg _ (Int.pow_nonneg (by decide))]
 have h2 : ishl (1 : Int) i = ((2 ^ i : Nat) : Int) := by
  show w64 (1 * 2 ^ min i 64) = _
  rw [Nat.min_eq_left (by omega), Int.one_mul, show ((2 : Int) ^ i) = ((2 ^ i : Nat) : Int) by simp]
  generalize (2 ^ i : Nat) = q at hp hpos
  exact w64_id (by omega)
 have h3 := and_bit (x / 2 ^ i) (i := 0) (by decide)
 rw [show ((2 ^ 0 : Nat) : Int) = 1 from rfl, show ((2 : Int) ^ 0) = 1 from rfl, Int.ediv_one] at h3
 rw [h1, h2, h3, and_bit x hi]
 by_cases h : (x / 2 ^ i) % 2 = 1
 ·rw [if_pos h, if_pos h]
  exact decide_eq_decide.2 ⟨fun _ => by omega, fun _ => rfl⟩
 ·rw [if_neg h, if_neg h]
  rfl
end Go.Proofs.YtfekkhinjdmcbaaDoor.VM

/- Words and rules that the proof uses. -/
namespace Go.Proofs.YtfekkhinjdmcbaaDoor.VM
open Go Go.RowKit
theorem flip_byte (c : UInt8) : (255 : UInt8) - c = c ^^^ 255 := by
 apply UInt8.toBitVec_inj.1
 show BitVec.allOnes 8 - c.toBitVec = c.toBitVec ^^^ BitVec.allOnes 8
 rw [BitVec.xor_allOnes, BitVec.allOnes_sub_eq_not]
theorem flipped_eq {s : List UInt8} (hs : s.length < 9223372036854775807) : g_ref_flipped s = some (s.map (· ^^^ 255)) := by
 unfold g_ref_flipped
 obtain ⟨r, h1, h2⟩ := loopO_times (step := g_ref_flipped_l0 s) s.length (fun k (t : List UInt8) => ((k : Int), t)) (fun k t => t = (s.take k).map (· ^^^ 255) ++ s.drop k) (fun r => r = s.map (· ^^^ 255)) (fun k t hk ht => .inl ⟨(s.take (k + 1)).map (· ^^^ 255) ++ s.drop (k + 1), by
   have hl : t.length = s.length := by rw [ht, List.length_append, List.length_map, List.length_take, List.length_drop]; omega
   unfold g_ref_flipped_l0
   dsimp only
   rw [if_pos (natLt hk), if_pos (by rw [hl]; exact natIn hk), if_pos (by rw [hl]; exact natIn hk), Int.toNat_natCast, w64_succ (by omega)]
   congr 3
   have hm : ((s.take k).map (· ^^^ (255 : UInt8))).length = k := by rw [List.length_map, List.length_take]; omega
   have h3 : lrd t k = lrd s k := by rw [ht, lrd_app_ge (by omega), hm, Nat.sub_self, drop_step hk, lrd_cons_zero]
   rw [h3, ht, flip_byte, drop_step hk, List.set_append_right _ _ (by omega), hm, Nat.sub_self, List.set_cons_zero, take_step hk, List.map_append, List.append_assoc]
   rfl, rfl⟩) (fun t ht => ⟨t, by
   unfold g_ref_flipped_l0
   dsimp only
   rw [if_neg natNlt], by rw [ht, List.drop_length, List.append_nil, List.take_length]⟩) (s := s) (by rw [List.take_zero, List.drop_zero]; rfl)
 rw [show ((0 : Int)) = ((0 : Nat) : Int) from rfl, h1, h2]
 rfl
theorem bit_keep (d : Int) {i : Nat} (hi : i < 63) : (iand (ishr d i) (1 : Int) = (1 : Int)) ↔ (iand d (ishl (1 : Int) i) ≠ (0 : Int)) := by
 have := keep_eq d hi
 rwa [decide_eq_decide] at this
end Go.Proofs.YtfekkhinjdmcbaaDoor.VM

/- Words and rules that the proof uses. -/
namespace Go.Proofs.YtfekkhinjdmcbaaDoor.VM
open Go Go.RowKit
def escB : List UInt8 → List UInt8
 | [] => []
 | b :: l => if b = 0 then 0 :: 255 :: escB l else b :: escB l
theorem escB_cons (b : UInt8) (l : List UInt8) : escB (b :: l) = if b = 0 then 0 :: 255 :: escB l else b :: escB l := by rw [escB]
theorem escB_nil : escB [] = [] := by rw [escB]
theorem escB_len : ∀ l : List UInt8, (escB l).length ≤ 2 * l.length
 | [] => Nat.zero_le _
 | b :: l => by
  have := escB_len l
  rw [escB_cons]
  split <;> simp only [List.length_cons] <;> omega
theorem ix_zero (l : List UInt8) : Lib.index (0 :: l) [0] = ((0 : Nat) : Int) := by
 unfold Lib.index
 rw [if_pos (by simp)]
 rfl
theorem ix_cons {b : UInt8} (h : b ≠ 0) (l : List UInt8) : Lib.index (b :: l) [0] = if Lib.index l [0] == -1 then -1 else Lib.index l [0] + 1 := by
 conv => lhs; unfold Lib.index
 rw [if_neg (by simp only [List.isPrefixOf, Bool.and_eq_true, beq_iff_eq, not_and]; exact fun e => absurd e.symm h)]
theorem repl_zero : ∀ l : List UInt8, Lib.count l [0] ≤ l.length ∧ Lib.replaceK [0] [0, 255] (Lib.count l [0]) l = escB l
 | [] => by
  have h : Lib.count ([] : List UInt8) [0] = 0 := Lib.count_miss rfl
  rw [h]
  exact ⟨Nat.le_refl _, rfl⟩
 | b :: l => by
  obtain ⟨h1, h2⟩ := repl_zero l
  by_cases hb : b = 0
  ·subst hb
   have h3 := Lib.count_hit (s := 0 :: l) (sub := [0]) (i := 0) (by decide) (ix_zero l)
   rw [show List.drop (0 + [(0 : UInt8)].length) (0 :: l) = l from rfl] at h3
   rw [h3, Nat.add_comm 1]
   refine ⟨by rw [List.length_cons]; omega, ?_⟩
   rw [Lib.replaceK_hit _ _ _ _ 0 (ix_zero l), show List.drop (0 + [(0 : UInt8)].length) (0 :: l) = l from rfl, h2, escB_cons, if_pos rfl]
   rfl
  ·have hx := ix_cons hb l
   have e1 : escB (b :: l) = b :: escB l := by
    rw [escB_cons, if_neg hb]
   by_cases hi : Lib.index l [0] = -1
   ·rw [if_pos (beq_iff_eq.2 hi)] at hx
    have h3 := Lib.count_miss hx
    have h4 := Lib.count_miss hi
    rw [h4] at h2
    rw [h3, e1, ← h2]
    exact ⟨Nat.zero_le _, rfl⟩
   ·rw [if_neg (by simpa using hi)] at hx
    obtain ⟨i, hi2⟩ : ∃ i : Nat, Lib.index l [0] = (i : Int) := by
     have := Lib.index_ge l [0]
     exact ⟨(Lib.index l [0]).toNat, by omega⟩
    rw [hi2] at hx
    have h3 := Lib.count_hit (s := b :: l) (sub := [0]) (i := i + 1) (by decide) (by rw [hx]; rfl)
    have h4 := Lib.count_hit (s := l) (sub := [0]) (i := i) (by decide) hi2
    have e2 : List.drop (i + 1 + [(0 : UInt8)].length) (b :: l) = List.drop (i + [(0 : UInt8)].length) l := rfl
    rw [e2, ← h4] at h3
    rw [h3]
    refine ⟨by rw [List.length_cons]; omega, ?_⟩
    rw [e1, ← h2, h4, Nat.add_comm 1, Lib.replaceK_hit _ _ _ _ (i + 1) (by rw [hx]; rfl), Lib.replaceK_hit _ _ _ _ i hi2, e2]
    rfl
theorem replaceAll_zero {l : List UInt8} (h : l.length ≤ 40) : g_strings_ReplaceAll l [0] [0, 255] = some (escB l) := by
 obtain ⟨h1, h2⟩ := repl_zero l
 unfold g_strings_ReplaceAll
 rw [if_pos ⟨by omega, by decide, by
  have : [(0 : UInt8), 255].length = 2 := rfl
  rw [this]
  omega⟩]
 unfold Lib.replaceAll Lib.replace Lib.replaceNum
 rw [if_neg (by decide), if_pos (.inl (by decide)), h2]
def bigN : Nat → UInt64 → List UInt8
 | 0, _ => []
 | k + 1, n => bigN k (shr_u64 n 8) ++ [n.toUInt8]
theorem bigN_succ (k : Nat) (n : UInt64) : bigN (k + 1) n = bigN k (shr_u64 n 8) ++ [n.toUInt8] := by rw [bigN]
theorem bigN_len : ∀ (k : Nat) (n : UInt64), (bigN k n).length = k
 | 0, _ => rfl
 | k + 1, n => by
  rw [bigN_succ, List.length_append, bigN_len k]
  rfl
theorem big_loop (size : Int) {K : Nat} (hK : size = (K : Int)) (hK2 : K ≤ 8) : ∀ (m j : Nat) (n : UInt64) (s : List UInt8), j + m = K → s.length ≤ j → loopO (g_ref_big_l0 size) (n, s, (j : Int)) = some (bigN m n ++ s)
 | 0, j, n, s, hj, hs => by
  rw [loopO_done]
  unfold g_ref_big_l0
  dsimp only
  rw [if_neg (by omega)]
  rfl
 | m + 1, j, n, s, hj, hs => by
  rw [loopO_next (b := (shr_u64 n 8, [n.toUInt8] ++ s, ((j + 1 : Nat) : Int)))]
  ·rw [big_loop size hK hK2 m (j + 1) _ _ (by omega) (by simp only [List.length_append, List.length_cons, List.length_nil]; omega)]
   rw [bigN_succ, List.append_assoc]
  ·unfold g_ref_big_l0
   dsimp only
   rw [if_pos (by omega), if_pos (by simp only [List.length_cons, List.length_nil]; omega), w64_succ (by omega)]
theorem big_eq (n : UInt64) {k : Nat} (hk : k ≤ 8) : g_ref_big n (k : Int) = some (bigN k n) := by
 unfold g_ref_big
 have := big_loop (k : Int) rfl hk k 0 n [] (by omega) (Nat.le_refl _)
 rw [show ((0 : Nat) : Int) = 0 from rfl] at this
 rw [this, List.append_nil]
 rfl
theorem shr_shr (n : UInt64) (a b : Nat) : shr_u64 (shr_u64 n a) b = shr_u64 n (a + b) := by
 apply UInt64.toBitVec_inj.1
 show (n.toBitVec >>> a) >>> b = n.toBitVec >>> (a + b)
 exact (BitVec.shiftRight_add _ _ _).symm
theorem eight_step {n : UInt64} {i : Nat} (hi : i ≤ 56) {b : List UInt8} (hb : b.length ≤ 8) : g_code_eight_l0 n ((i : Int), b) = some (.inl ((i : Int) - 8, b ++ [(shr_u64 n i).toUInt8])) := by
 unfold g_code_eight_l0
 dsimp only
 rw [if_pos (by omega), if_pos (by omega), if_pos (show room _ _ by simp only [room, List.length_cons, List.length_nil]; omega), Int.toNat_natCast, w64_id (by omega)]
theorem eight_eq (n : UInt64) : g_code_eight n = some (bigN 8 n) := by
 unfold g_code_eight
 have st : ∀ (m i : Nat) (b : List UInt8), i + 8 = 8 * m → m ≤ 8 → b.length + m ≤ 8 → 0 < m → loopO (g_code_eight_l0 n) ((i : Int), b) = loopO (g_code_eight_l0 n) ((i : Int) - 8, b ++ [(shr_u64 n i).toUInt8]) := fun m i b h1 h2 h3 _ => loopO_next (eight_step (by omega) (by omega))
 have s56 := st 8 56 [] (by omega) (by omega) (Nat.le_refl 8) (by omega)
 have s48 := st 7 48 [(shr_u64 n 56).toUInt8] (by omega) (by omega) (Nat.le_refl 8) (by omega)
 have s40 := st 6 40 [(shr_u64 n 56).toUInt8, (shr_u64 n 48).toUInt8] (by omega) (by omega) (Nat.le_refl 8) (by omega)
 have s32 := st 5 32 [(shr_u64 n 56).toUInt8, (shr_u64 n 48).toUInt8, (shr_u64 n 40).toUInt8] (by omega) (by omega) (Nat.le_refl 8) (by omega)
 have s24 := st 4 24 [(shr_u64 n 56).toUInt8, (shr_u64 n 48).toUInt8, (shr_u64 n 40).toUInt8, (shr_u64 n 32).toUInt8] (by omega) (by omega) (Nat.le_refl 8) (by omega)
 have s16 := st 3 16 [(shr_u64 n 56).toUInt8, (shr_u64 n 48).toUInt8, (shr_u64 n 40).toUInt8, (shr_u64 n 32).toUInt8, (shr_u64 n 24).toUInt8] (by omega) (by omega) (Nat.le_refl 8) (by omega)
 have s8 := st 2 8 [(shr_u64 n 56).toUInt8, (shr_u64 n 48).toUInt8, (shr_u64 n 40).toUInt8, (shr_u64 n 32).toUInt8, (shr_u64 n 24).toUInt8, (shr_u64 n 16).toUInt8] (by omega) (by omega) (Nat.le_refl 8) (by omega)
 have s0 := st 1 0 [(shr_u64 n 56).toUInt8, (shr_u64 n 48).toUInt8, (shr_u64 n 40).toUInt8, (shr_u64 n 32).toUInt8, (shr_u64 n 24).toUInt8, (shr_u64 n 16).toUInt8, (shr_u64 n 8).toUInt8] (by omega) (by omega) (Nat.le_refl 8) (by omega)
 have sE : loopO (g_code_eight_l0 n) (((0 : Nat) : Int) - 8, [(shr_u64 n 56).toUInt8, (shr_u64 n 48).toUInt8, (shr_u64 n 40).toUInt8, (shr_u64 n 32).toUInt8, (shr_u64 n 24).toUInt8, (shr_u64 n 16).toUInt8, (shr_u64 n 8).toUInt8, (shr_u64 n 0).toUInt8]) = some [(shr_u64 n 56).toUInt8, (shr_u64 n 48).toUInt8, (shr_u64 n 40).toUInt8, (shr_u64 n 32).toUInt8, (shr_u64 n 24).toUInt8, (shr_u64 n 16).toUInt8, (shr_u64 n 8).toUInt8, (shr_u64 n 0).toUInt8] := by
  rw [loopO_done]
  unfold g_code_eight_l0
  dsimp only
  rw [if_neg (by decide)]
 have e0 : shr_u64 n 0 = n := by
  apply UInt64.toBitVec_inj.1
  show n.toBitVec >>> 0 = n.toBitVec
  simp
 have h : loopO (g_code_eight_l0 n) ((56 : Int), []) = some (bigN 8 n) := by
  refine s56.trans (s48.trans (s40.trans (s32.trans (s24.trans (s16.trans (s8.trans (s0.trans (sE.trans ?_))))))))
  simp only [bigN, shr_shr, e0, List.nil_append, List.cons_append]
 rw [h]
 rfl
def valB (v : GValue) : List UInt8 :=
 if v.Kind = 1 then [2, UInt8.ofInt v.Int_] else if v.Kind = 2 then 3 :: bigN 8 (UInt64.ofInt v.Int_ + 9223372036854775808) else if v.Kind = 3 then 4 :: bigN 8 (if v.Bits < (9223372036854775808 : UInt64) then v.Bits + 9223372036854775808 else ~~~ v.Bits)
 else if v.Kind = 4 then 5 :: (escB v.Text ++ [0, 1]) else [1]
theorem valB_len {v : GValue} (h : v.Text.length ≤ 40) : (valB v).length ≤ 83 := by
 have := escB_len v.Text
 unfold valB
 split
 ·simp only [List.length_cons, List.length_nil]; omega
 split
 ·rw [List.length_cons, bigN_len]; decide
 split
 ·rw [List.length_cons, bigN_len]; decide
 split
 ·simp only [List.length_cons, List.length_append, List.length_nil]; omega
 ·decide
theorem turned_eq (n : UInt64) : g_code_turned n = some (if n < (9223372036854775808 : UInt64) then n + 9223372036854775808 else ~~~ n) := by
 unfold g_code_turned
 by_cases h : n < (9223372036854775808 : UInt64)
 ·have h1 : ¬ (n &&& (9223372036854775808 : UInt64) ≠ 0) := fun q => (top_lt n).1 q h
  rw [if_neg h1, if_pos h]
  have h2 : n &&& (9223372036854775808 : UInt64) = 0 := Classical.not_not.1 h1
  obtain ⟨c, hc⟩ : ∃ c : UInt64, c = 9223372036854775808 := ⟨_, rfl⟩
  rw [← hc] at h2 ⊢
  have h3 : (n &&& c).toBitVec = 0#64 := congrArg UInt64.toBitVec h2
  rw [UInt64.toBitVec_and] at h3
  refine congrArg some (UInt64.toBitVec_inj.1 ?_)
  rw [UInt64.toBitVec_or, UInt64.toBitVec_add]
  exact (BitVec.add_eq_or_of_and_eq_zero _ _ h3).symm
 ·rw [if_pos ((top_lt n).2 h), if_neg h]
theorem top_add (n : UInt64) : n ^^^ (9223372036854775808 : UInt64) = n + (9223372036854775808 : UInt64) := by
 rw [top_xor]
 apply UInt64.toBitVec_inj.1
 show n.toBitVec - 9223372036854775808#64 = n.toBitVec + 9223372036854775808#64
 rw [BitVec.sub_eq_add_neg]
 rfl
theorem valueBytes_eq {v : GValue} (h : okV1 v) : g_ref_valueBytes v = some (valB v) := by
 obtain ⟨k0, k4, ht, _⟩ := h
 have he := escB_len v.Text
 unfold g_ref_valueBytes valB
 by_cases h1 : v.Kind = 1
 ·rw [if_pos h1, if_pos h1]; rfl
 rw [if_neg h1, if_neg h1]
 by_cases h2 : v.Kind = 2
 ·rw [if_pos h2, if_pos h2, show (8 : Int) = ((8 : Nat) : Int) from rfl, big_eq _ (by decide), Option.bind_some, if_pos (by rw [bigN_len]; decide)]; rfl
 rw [if_neg h2, if_neg h2]
 by_cases h3 : v.Kind = 3
 ·have hr : g_ref_risen v.Bits = some (if v.Bits < (9223372036854775808 : UInt64) then v.Bits + 9223372036854775808 else ~~~ v.Bits) := by
   unfold g_ref_risen
   split <;> rfl
  rw [if_pos h3, if_pos h3, hr, Option.bind_some, show (8 : Int) = ((8 : Nat) : Int) from rfl, big_eq _ (by decide), Option.bind_some, if_pos (by rw [bigN_len]; decide)]; rfl
 rw [if_neg h3, if_neg h3]
 by_cases h4 : v.Kind = 4
 ·rw [if_pos h4, if_pos h4, replaceAll_zero ht, Option.bind_some, if_pos (by simp only [List.length_cons, List.length_nil]; omega), if_pos (by simp only [List.length_append, List.length_cons, List.length_nil]; omega)]; rfl
 rw [if_neg h4, if_neg h4]
theorem one_loop {v : GValue} (ht : v.Text.length ≤ 40) : ∀ (m k : Nat) (b : List UInt8), v.Text.length - k ≤ m → k ≤ v.Text.length → b.length ≤ 1 + 2 * k → loopO (g_code_one_l0 v) ((k : Int), b) = some (b ++ escB (v.Text.drop k)) := by
 intro m
 induction m with
 | zero =>
  intro k b h1 h2 h3
  obtain rfl : k = v.Text.length := by omega
  rw [loopO_done (r := b)]
  ·rw [List.drop_length, escB_nil, List.append_nil]
  ·unfold g_code_one_l0
   dsimp only
   rw [if_neg natNlt]
 | succ m ih =>
  intro k b h1 h2 h3
  by_cases hk : k < v.Text.length
  ·rw [drop_step hk]
   have hc := natIn hk
   have hr : room (b.length + [lrd v.Text k].length) 1 := show room _ _ by simp only [room, List.length_cons, List.length_nil]; omega
   by_cases hz : lrd v.Text k = 0
   ·rw [loopO_next (b := (((k + 1 : Nat) : Int), b ++ [lrd v.Text k] ++ [255]))]
    ·rw [ih (k + 1) _ (by omega) (by omega) (by simp only [List.length_append, List.length_cons, List.length_nil]; omega)]
     rw [escB_cons, if_pos hz, hz, List.append_assoc, List.append_assoc]
     rfl
    ·unfold g_code_one_l0
     dsimp only
     rw [if_pos (natLt hk), if_pos hc, Int.toNat_natCast, if_pos hr, if_pos hc, if_pos hz, if_pos (show room _ _ by simp only [room, List.length_append, List.length_cons, List.length_nil]; omega), letO_eq, Option.bind_some, w64_succ (by omega)]
   ·rw [loopO_next (b := (((k + 1 : Nat) : Int), b ++ [lrd v.Text k]))]
    ·rw [ih (k + 1) _ (by omega) (by omega) (by simp only [List.length_append, List.length_cons, List.length_nil]; omega)]
     rw [escB_cons, if_neg hz, List.append_assoc]
     rfl
    ·unfold g_code_one_l0
     dsimp only
     rw [if_pos (natLt hk), if_pos hc, Int.toNat_natCast, if_pos hr, if_pos hc, if_neg hz, Option.bind_some, w64_succ (by omega)]
  ·obtain rfl : k = v.Text.length := by omega
   rw [loopO_done (r := b)]
   ·rw [List.drop_length, escB_nil, List.append_nil]
   ·unfold g_code_one_l0
    dsimp only
    rw [if_neg natNlt]
theorem one_eq {v : GValue} (h : okV1 v) : g_code_one v = some (valB v) := by
 obtain ⟨k0, k4, ht, _⟩ := h
 have he := escB_len v.Text
 unfold g_code_one valB
 by_cases h1 : v.Kind = 1
 ·rw [if_pos h1, if_pos h1, if_pos (show room _ _ by simp only [room, List.length_cons, List.length_nil]; omega), letO_eq, h1]; rfl
 rw [if_neg h1, if_neg h1]
 by_cases h2 : v.Kind = 2
 ·rw [if_pos h2, if_pos h2, eight_eq, Option.bind_some, if_pos (show room _ _ by rw [bigN_len]; simp only [room, List.length_cons, List.length_nil]; omega), h2, top_add]; rfl
 rw [if_neg h2, if_neg h2]
 by_cases h3 : v.Kind = 3
 ·rw [if_pos h3, if_pos h3, turned_eq, Option.bind_some, eight_eq, Option.bind_some, if_pos (show room _ _ by rw [bigN_len]; simp only [room, List.length_cons, List.length_nil]; omega), h3]; rfl
 rw [if_neg h3, if_neg h3]
 by_cases h4 : v.Kind = 4
 ·have hl := one_loop ht v.Text.length 0 [UInt8.ofInt (w64 (v.Kind + (1 : Int)))] (by omega) (by omega) (Nat.le_refl 1)
  rw [show ((0 : Nat) : Int) = 0 from rfl, List.drop_zero] at hl
  rw [if_pos h4, if_pos h4, hl, Option.bind_some, if_pos (show room _ _ by simp only [room, List.length_append, List.length_cons, List.length_nil]; omega), h4]; rfl
 rw [if_neg h4, if_neg h4]
 have h0 : v.Kind = 0 := by omega
 rw [h0]; rfl
def encR (d : Int) : Nat → List GValue → List UInt8
 | _, [] => []
 | i, v :: l => (if iand (ishr d i) (1 : Int) = (1 : Int) then (valB v).map (· ^^^ 255) else valB v) ++ encR d (i + 1) l
theorem encR_nil (d : Int) (i : Nat) : encR d i [] = [] := by rw [encR]
theorem encR_cons (d : Int) (i : Nat) (v : GValue) (l : List GValue) : encR d i (v :: l) = (if iand (ishr d i) (1 : Int) = (1 : Int) then (valB v).map (· ^^^ 255) else valB v) ++ encR d (i + 1) l := by rw [encR]
noncomputable def faultR : List GValue → Int
 | [] => 0
 | v :: l => if (g_ref_ValueFault v).getD 0 ≠ 0 then (g_ref_ValueFault v).getD 0 else faultR l
theorem faultR_nil : faultR [] = 0 := by rw [faultR]
theorem faultR_cons (v : GValue) (l : List GValue) : faultR (v :: l) = if (g_ref_ValueFault v).getD 0 ≠ 0 then (g_ref_ValueFault v).getD 0 else faultR l := by rw [faultR]
theorem check_get (v : GValue) (hi : okI v.Int_) : g_value_Check v = some ((g_ref_ValueFault v).getD 0) ∧ g_ref_ValueFault v = some ((g_ref_ValueFault v).getD 0) ∧ ((g_ref_ValueFault v).getD 0 = 0 → okV1 v) := by
 obtain ⟨e, h1, h2, h3⟩ := check_eq v hi
 rw [h2]
 exact ⟨h1, rfl, h3⟩
theorem not_byte (c : UInt8) : ~~~ c = c ^^^ 255 := by
 apply UInt8.toBitVec_inj.1
 show ~~~ c.toBitVec = c.toBitVec ^^^ BitVec.allOnes 8
 rw [BitVec.xor_allOnes]
theorem put_loop {d : Int} {i : Nat} {r : List UInt8} (hr : r.length ≤ 83) {o0 : List UInt8} (ho : o0.length ≤ 1000) : loopO (g_code_Encode_l1 d (i : Int) r) ((0 : Int), o0) = some (o0 ++ (if iand (ishr d i) (1 : Int) = (1 : Int) then r.map (· ^^^ 255) else r)) := by
 have h := loopO_fold (step := g_code_Encode_l1 d (i : Int) r) r (fun k (o : List UInt8) => ((k : Int), o)) (fun o c => o ++ [if iand (ishr d i) (1 : Int) = (1 : Int) then c ^^^ 255 else c]) id (fun k o => o.length = o0.length + k) (fun k o hk hi => by
   refine ⟨?_, by simp only [List.length_append, List.length_cons, List.length_nil]; omega⟩
   unfold g_code_Encode_l1
   dsimp only
   rw [if_pos (natLt hk), if_pos (natIn hk), if_pos (show (0 : Int) ≤ (i : Int) by omega), Int.toNat_natCast, Int.toNat_natCast]
   by_cases hc : iand (ishr d i) (1 : Int) = (1 : Int)
   ·rw [if_pos hc, if_pos hc, Option.bind_some, if_pos (show room _ _ by simp only [room, List.length_cons, List.length_nil]; omega), w64_succ (by omega), not_byte]
   ·rw [if_neg hc, if_neg hc, Option.bind_some, if_pos (show room _ _ by simp only [room, List.length_cons, List.length_nil]; omega), w64_succ (by omega)]) (fun o _ => by
   unfold g_code_Encode_l1
   dsimp only
   rw [if_neg natNlt]
   rfl) (s := o0) (by omega)
 rw [show (0 : Int) = ((0 : Nat) : Int) from rfl, h]
 congr 1
 have key : ∀ (f : UInt8 → UInt8) (m o : List UInt8), m.foldl (fun o c => o ++ [f c]) o = o ++ m.map f := by
  intro f m
  induction m with
  | nil => intro o; simp
  | cons c m ih => intro o; rw [List.foldl_cons, ih, List.map_cons, List.append_assoc]; rfl
 rw [id, key]
 congr 1
 by_cases hc : iand (ishr d i) (1 : Int) = (1 : Int)
 ·simp only [if_pos hc]
 ·simp only [if_neg hc]; exact List.map_id _
theorem encR_len (d : Int) : ∀ (l : List GValue) (i : Nat), (∀ v ∈ l, v.Text.length ≤ 40) → (encR d i l).length ≤ 83 * l.length
 | [], i, _ => Nat.zero_le _
 | v :: l, i, h => by
  have h1 := encR_len d l (i + 1) (fun u hu => h u (List.mem_cons_of_mem _ hu))
  have h2 := valB_len (h v List.mem_cons_self)
  rw [encR_cons, List.length_append, List.length_cons]
  split
  ·rw [List.length_map]; omega
  ·omega
theorem faultR_ok : ∀ (l : List GValue), (∀ v ∈ l, okI v.Int_) → faultR l = 0 → ∀ v ∈ l, okV1 v
 | [], _, _ => fun v hv => by cases hv
 | v :: l, hi, h => by
  rw [faultR_cons] at h
  by_cases hz : (g_ref_ValueFault v).getD 0 ≠ 0
  ·rw [if_pos hz] at h
   exact absurd h hz
  ·rw [if_neg hz] at h
   intro u hu
   rcases List.mem_cons.1 hu with rfl | hu
   ·exact (check_get u (hi u List.mem_cons_self)).2.2 (Classical.not_not.1 hz)
   ·exact faultR_ok l (fun u hu => hi u (List.mem_cons_of_mem _ hu)) h u hu
theorem code_loop {row : List GValue} {d : Int} (hl : row.length ≤ 5) (hi : ∀ v ∈ row, okI v.Int_) : ∀ (m i : Nat) (o : List UInt8), row.length - i ≤ m → i ≤ row.length → o.length ≤ 83 * i →
  loopO (g_code_Encode_l0 row d) ((i : Int), o) = some (if faultR (row.drop i) ≠ 0 then .inl ([], faultR (row.drop i)) else .inr (o ++ encR d i (row.drop i))) := by
 intro m
 induction m with
 | zero =>
  intro i o h1 h2 h3
  obtain rfl : i = row.length := by omega
  rw [loopO_done (r := .inr o)]
  ·rw [List.drop_length, faultR_nil, encR_nil, if_neg (by decide), List.append_nil]
  ·unfold g_code_Encode_l0
   dsimp only
   rw [if_neg natNlt]
 | succ m ih =>
  intro i o h1 h2 h3
  by_cases hk : i < row.length
  ·obtain ⟨c1, c2, c3⟩ := check_get (lrd row i) (hi _ (lrd_mem hk))
   rw [drop_step hk]
   by_cases hz : (g_ref_ValueFault (lrd row i)).getD 0 ≠ 0
   ·rw [loopO_done (r := .inl ([], (g_ref_ValueFault (lrd row i)).getD 0))]
    ·rw [faultR_cons, if_pos hz, if_pos hz]
    ·unfold g_code_Encode_l0
     dsimp only
     rw [if_pos (natLt hk), if_pos (natIn hk), Int.toNat_natCast, c1, Option.bind_some, if_pos hz]
   ·have ok := c3 (Classical.not_not.1 hz)
    have hv := valB_len ok.2.2.1
    have h0 : row.length ≤ 5 := hl
    rw [loopO_next (b := (((i + 1 : Nat) : Int), o ++ (if iand (ishr d i) (1 : Int) = (1 : Int) then (valB (lrd row i)).map (· ^^^ 255) else valB (lrd row i))))]
    ·rw [ih (i + 1) _ (by omega) (by omega) (by
      rw [List.length_append]
      split
      ·rw [List.length_map]; omega
      ·omega)]
     rw [faultR_cons, encR_cons, if_neg hz, List.append_assoc]
    ·unfold g_code_Encode_l0
     dsimp only
     rw [if_pos (natLt hk), if_pos (natIn hk), Int.toNat_natCast, c1, Option.bind_some, if_neg hz, one_eq ok, Option.bind_some, put_loop hv (by omega), Option.bind_some, w64_succ (by omega)]
  ·obtain rfl : i = row.length := by omega
   rw [loopO_done (r := .inr o)]
   ·rw [List.drop_length, faultR_nil, encR_nil, if_neg (by decide), List.append_nil]
   ·unfold g_code_Encode_l0
    dsimp only
    rw [if_neg natNlt]
theorem faults_loop {row : List GValue} (hl : row.length ≤ 5) (hi : ∀ v ∈ row, okI v.Int_) : ∀ (m i : Nat), row.length - i ≤ m → i ≤ row.length →
  loopO (g_ref_faults_l0 row) (i : Int) = some (if faultR (row.drop i) ≠ 0 then .inl (faultR (row.drop i)) else .inr ()) := by
 intro m
 induction m with
 | zero =>
  intro i h1 h2
  obtain rfl : i = row.length := by omega
  rw [loopO_done (r := .inr ())]
  ·rw [List.drop_length, faultR_nil, if_neg (by decide)]
  ·unfold g_ref_faults_l0
   dsimp only
   rw [if_neg natNlt]
 | succ m ih =>
  intro i h1 h2
  by_cases hk : i < row.length
  ·obtain ⟨c1, c2, c3⟩ := check_get (lrd row i) (hi _ (lrd_mem hk))
   rw [drop_step hk]
   by_cases hz : (g_ref_ValueFault (lrd row i)).getD 0 ≠ 0
   ·rw [loopO_done (r := .inl ((g_ref_ValueFault (lrd row i)).getD 0))]
    ·rw [faultR_cons, if_pos hz, if_pos hz]
    ·unfold g_ref_faults_l0
     dsimp only
     rw [if_pos (natLt hk), if_pos (natIn hk), Int.toNat_natCast, c2, Option.bind_some, Option.getD_some, if_pos hz]
   ·rw [loopO_next (b := ((i + 1 : Nat) : Int))]
    ·rw [ih (i + 1) (by omega) (by omega)]
     rw [faultR_cons, if_neg hz]
    ·unfold g_ref_faults_l0
     dsimp only
     rw [if_pos (natLt hk), if_pos (natIn hk), Int.toNat_natCast, c2, Option.bind_some, if_neg hz, w64_succ (by omega)]
  ·obtain rfl : i = row.length := by omega
   rw [loopO_done (r := .inr ())]
   ·rw [List.drop_length, faultR_nil, if_neg (by decide)]
   ·unfold g_ref_faults_l0
    dsimp only
    rw [if_neg natNlt]
theorem ref_loop {row : List GValue} {d : Int} (hl : row.length ≤ 5) (hi : ∀ v ∈ row, okV1 v) : ∀ (m i : Nat) (o : List UInt8), row.length - i ≤ m → i ≤ row.length → o.length ≤ 83 * i →
  loopO (g_ref_RowBytes_l0 row d) (o, (i : Int)) = some (o ++ encR d i (row.drop i)) := by
 intro m
 induction m with
 | zero =>
  intro i o h1 h2 h3
  obtain rfl : i = row.length := by omega
  rw [loopO_done (r := o)]
  ·rw [List.drop_length, encR_nil, List.append_nil]
  ·unfold g_ref_RowBytes_l0
   dsimp only
   rw [if_neg natNlt]
 | succ m ih =>
  intro i o h1 h2 h3
  by_cases hk : i < row.length
  ·have ok := hi _ (lrd_mem hk)
   have hv := valB_len ok.2.2.1
   have h0 : row.length ≤ 5 := hl
   have hf : ((g_ref_downs d (i : Int)).bind fun r'4 => (if r'4 = true then (g_ref_flipped (valB (lrd row i))).bind fun r'5 => some r'5 else some (valB (lrd row i)))) = some (if iand (ishr d i) (1 : Int) = (1 : Int) then (valB (lrd row i)).map (· ^^^ 255) else valB (lrd row i)) := by
    unfold g_ref_downs
    rw [if_pos (by omega), Option.bind_some, Int.toNat_natCast]
    by_cases hd : iand (ishr d i) (1 : Int) = (1 : Int)
    ·rw [if_pos (decide_eq_true ((bit_keep d (by omega)).1 hd)), flipped_eq (by omega), if_pos hd]; rfl
    ·rw [if_neg (fun q => hd ((bit_keep d (by omega)).2 (of_decide_eq_true q))), if_neg hd]
   rw [drop_step hk, loopO_next (b := (o ++ (if iand (ishr d i) (1 : Int) = (1 : Int) then (valB (lrd row i)).map (· ^^^ 255) else valB (lrd row i)), ((i + 1 : Nat) : Int)))]
   ·rw [ih (i + 1) _ (by omega) (by omega) (by
     rw [List.length_append]
     split
     ·rw [List.length_map]; omega
     ·omega)]
    rw [encR_cons, List.append_assoc]
   ·unfold g_ref_RowBytes_l0
    dsimp only
    rw [if_pos (natLt hk), if_pos (natIn hk), Int.toNat_natCast, valueBytes_eq ok, Option.bind_some, hf, Option.bind_some, if_pos (by
     split
     ·rw [List.length_map]; omega
     ·omega), w64_succ (by omega)]
  ·obtain rfl : i = row.length := by omega
   rw [loopO_done (r := o)]
   ·rw [List.drop_length, encR_nil, List.append_nil]
   ·unfold g_ref_RowBytes_l0
    dsimp only
    rw [if_neg natNlt]
theorem encode_eq {row : List GValue} (d : Int) (hi : ∀ v ∈ row, okI v.Int_) : ∃ r : List UInt8 × Int, g_code_Encode row d = some r ∧ g_ref_RowBytes row d = some r ∧ r.1.length ≤ 415 ∧ (r.2 = 0 → row.length ≤ 5) := by
 unfold g_code_Encode g_ref_RowBytes
 by_cases hl : (row.length : Int) > 5
 ·rw [if_pos hl, if_pos hl]
  exact ⟨_, rfl, rfl, by decide, fun h => absurd h (by decide)⟩
 ·rw [if_neg hl, if_neg hl]
  have hl5 : row.length ≤ 5 := by omega
  have h1 := code_loop (d := d) hl5 hi row.length 0 [] (by omega) (Nat.zero_le _) (Nat.zero_le _)
  have h2 := faults_loop hl5 hi row.length 0 (by omega) (Nat.zero_le _)
  rw [show ((0 : Nat) : Int) = 0 from rfl, List.drop_zero] at h1 h2
  unfold g_ref_faults
  rw [h1, h2]
  by_cases hz : faultR row ≠ 0
  ·rw [if_pos hz, if_pos hz]
   refine ⟨([], faultR row), rfl, ?_, Nat.zero_le _, fun _ => hl5⟩
   show (if faultR row ≠ 0 then some (([] : List UInt8), faultR row) else _) = _
   rw [if_pos hz]
  ·have hz0 : faultR row = 0 := Classical.not_not.1 hz
   have ok := faultR_ok row hi hz0
   have h3 := ref_loop (d := d) hl5 ok row.length 0 [] (by omega) (Nat.zero_le _) (Nat.zero_le _)
   rw [show ((0 : Nat) : Int) = 0 from rfl, List.drop_zero] at h3
   rw [if_neg hz, if_neg hz]
   refine ⟨([] ++ encR d 0 row, 0), rfl, ?_, ?_, fun _ => hl5⟩
   ·show (if (0 : Int) ≠ 0 then some (([] : List UInt8), (0 : Int)) else _) = _
    rw [if_neg (by decide), h3]
    rfl
   ·have := encR_len d row 0 (fun v hv => (ok v hv).2.2.1)
    rw [List.nil_append]
    show (encR d 0 row).length ≤ 415
    omega
end Go.Proofs.YtfekkhinjdmcbaaDoor.VM

/- Words and rules that the proof uses. -/
namespace Go.Proofs.YtfekkhinjdmcbaaDoor.VM
open Go Go.RowKit
theorem g_law_CodeEncodes_true {x0 : List GValue} {x1 : Int} (q0 : (okL 40 GValue.ok) x0) (q1 : okI x1) : g_law_CodeEncodes x0 x1 = some true := by
 obtain ⟨r, h1, h2, _⟩ := encode_eq (row := x0) x1 (fun v hv => (q0.2.2 v hv).2.1)
 unfold g_law_CodeEncodes
 rw [h1, h2, Option.bind_some, Option.bind_some, if_pos rfl]
 unfold g_law_sameBytes
 rw [decide_eq_true rfl]
 rfl
end Go.Proofs.YtfekkhinjdmcbaaDoor.VM

