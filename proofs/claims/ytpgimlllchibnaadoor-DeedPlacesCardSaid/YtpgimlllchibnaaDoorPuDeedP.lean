import Derived.Test.YtpgimlllchibnaaDoorVtFloat
import Derived.Test.YtpgimlllchibnaaDoorPuBase
/- Words and rules that the proof uses. -/
namespace Go.Proofs.YtpgimlllchibnaaDoor.VM
open Go Go.RowKit
def rung (b : F64) : Nat := b.toNat % 9223372036854775808
def negF (b : F64) : Bool := Nat.ble 9223372036854775808 b.toNat
def magF (r : Nat) : Nat := if r < 4503599627370496 then r else (4503599627370496 + r % 4503599627370496) * 2 ^ (r / 4503599627370496 - 1)
theorem magF_succ (r : Nat) : magF r < magF (r + 1) := by
 unfold magF
 by_cases h : r + 1 < 4503599627370496
 ·rw [if_pos h, if_pos (by omega)]; omega
 ·rw [if_neg h]
  by_cases h2 : r < 4503599627370496
  ·have : r + 1 = 4503599627370496 := by omega
   rw [if_pos h2, this]
   show r < 4503599627370496 * 2 ^ 0
   omega
  ·rw [if_neg h2]
   by_cases h3 : (r + 1) / 4503599627370496 = r / 4503599627370496
   ·rw [h3]
    refine Nat.mul_lt_mul_of_pos_right ?_ (Nat.two_pow_pos _)
    omega
   ·have h4 : (r + 1) / 4503599627370496 = r / 4503599627370496 + 1 := by omega
    have h5 : r % 4503599627370496 = 4503599627370495 := by omega
    have h6 : (r + 1) % 4503599627370496 = 0 := by omega
    have h7 : r / 4503599627370496 ≥ 1 := by omega
    rw [h4, h5, h6, show r / 4503599627370496 + 1 - 1 = (r / 4503599627370496 - 1) + 1 by omega, Nat.pow_succ]
    have := Nat.two_pow_pos (r / 4503599627370496 - 1)
    generalize 2 ^ (r / 4503599627370496 - 1) = p at *
    omega
theorem magF_mono {r q : Nat} (h : r < q) : magF r < magF q := by
 induction q with
 | zero => omega
 | succ q ih =>
  by_cases hr : r = q
  ·subst hr; exact magF_succ r
  ·exact Nat.lt_trans (ih (by omega)) (magF_succ q)
theorem magF_inj {r q : Nat} (h : magF r = magF q) : r = q := by
 rcases Nat.lt_trichotomy r q with h1 | h1 | h1
 ·have := magF_mono h1; omega
 ·exact h1
 ·have := magF_mono h1; omega
def upF (r : Nat) : Nat := if r < 4503599627370496 then 0 else r / 4503599627370496 - 1
def sigF (r : Nat) : Nat := if r < 4503599627370496 then r else 4503599627370496 + r % 4503599627370496
theorem magF_eq (r : Nat) : magF r = sigF r * 2 ^ upF r := by
 unfold magF sigF upF
 split <;> simp
theorem read_num {b : F64} (h : rung b < 9218868437227405312) : FloatKind.f64.format.read b.toNat = .number (negF b) (sigF (rung b)) ((-1074 : Int) + (upF (rung b) : Nat)) := by
 have hb : b.toNat < 18446744073709551616 := b.toNat_lt
 unfold Ieee.Format.read
 have e1 : FloatKind.f64.format.signWeight = 9223372036854775808 := by decide
 have e2 : FloatKind.f64.format.binade = 4503599627370496 := by decide
 have e3 : FloatKind.f64.format.infRung = 9218868437227405312 := by decide
 have e4 : FloatKind.f64.format.leastPlace = -1074 := by decide
 rw [e1, e2, e3, e4]
 have hn : (b.toNat / 9223372036854775808 % 2 == 1) = negF b := by
  unfold negF
  by_cases hc : 9223372036854775808 ≤ b.toNat
  ·rw [Nat.ble_eq_true_of_le hc]
   have : b.toNat / 9223372036854775808 % 2 = 1 := by omega
   rw [this]; rfl
  ·have h1 : Nat.ble 9223372036854775808 b.toNat = false := Bool.eq_false_iff.2 fun q => hc (Nat.le_of_ble_eq_true q)
   rw [h1]
   have : b.toNat / 9223372036854775808 % 2 = 0 := by omega
   rw [this]; rfl
 rw [hn]
 unfold rung at h
 unfold sigF upF rung
 dsimp only
 by_cases hs : b.toNat % 9223372036854775808 < 4503599627370496
 ·rw [if_pos hs, if_pos hs, if_pos hs]
  rfl
 ·rw [if_neg hs, if_neg hs, if_neg hs, if_pos h]
theorem read_inf {b : F64} (h : rung b = 9218868437227405312) : FloatKind.f64.format.read b.toNat = .infinity (negF b) := by
 have hb : b.toNat < 18446744073709551616 := b.toNat_lt
 unfold Ieee.Format.read
 have e1 : FloatKind.f64.format.signWeight = 9223372036854775808 := by decide
 have e2 : FloatKind.f64.format.binade = 4503599627370496 := by decide
 have e3 : FloatKind.f64.format.infRung = 9218868437227405312 := by decide
 rw [e1, e2, e3]
 have hn : (b.toNat / 9223372036854775808 % 2 == 1) = negF b := by
  unfold negF
  by_cases hc : 9223372036854775808 ≤ b.toNat
  ·rw [Nat.ble_eq_true_of_le hc]
   have : b.toNat / 9223372036854775808 % 2 = 1 := by omega
   rw [this]; rfl
  ·have h1 : Nat.ble 9223372036854775808 b.toNat = false := Bool.eq_false_iff.2 fun q => hc (Nat.le_of_ble_eq_true q)
   rw [h1]
   have : b.toNat / 9223372036854775808 % 2 = 0 := by omega
   rw [this]; rfl
 rw [hn]
 unfold rung at h
 dsimp only
 rw [h, if_neg (by decide), if_neg (by decide), if_pos rfl]
theorem read_nan {b : F64} (h : rung b > 9218868437227405312) : ∃ s t, FloatKind.f64.format.read b.toNat = .nan s t := by
 unfold Ieee.Format.read
 have e1 : FloatKind.f64.format.signWeight = 9223372036854775808 := by decide
 have e2 : FloatKind.f64.format.binade = 4503599627370496 := by decide
 have e3 : FloatKind.f64.format.infRung = 9218868437227405312 := by decide
 rw [e1, e2, e3]
 unfold rung at h
 dsimp only
 rw [if_neg (by omega), if_neg (by omega), if_neg (by omega)]
 exact ⟨_, _, rfl⟩
def skey (b : F64) : Int := if negF b = true then -((rung b : Nat) : Int) else ((rung b : Nat) : Int)
theorem cmp_scale (x y : Int) {p : Nat} (hp : 0 < p) : compare x y = compare (x * (p : Int)) (y * (p : Int)) := by
 have hp2 : (0 : Int) < (p : Int) := by omega
 have h1 : x < y ↔ x * (p : Int) < y * (p : Int) := ⟨fun h => Int.mul_lt_mul_of_pos_right h hp2, fun h => Int.lt_of_mul_lt_mul_right h (Int.le_of_lt hp2)⟩
 have h2 : x = y ↔ x * (p : Int) = y * (p : Int) := ⟨fun h => by rw [h], fun h => Int.eq_of_mul_eq_mul_right (by omega) h⟩
 simp only [compare, compareOfLessAndEq]
 by_cases h3 : x < y
 ·rw [if_pos h3, if_pos (h1.1 h3)]
 ·rw [if_neg h3, if_neg (fun q => h3 (h1.2 q))]
  by_cases h4 : x = y
  ·rw [if_pos h4, if_pos (h2.1 h4)]
  ·rw [if_neg h4, if_neg (fun q => h4 (h2.2 q))]
theorem cmp_iff {x y x' y' : Int} (h1 : x < y ↔ x' < y') (h2 : x = y ↔ x' = y') : compare x y = compare x' y' := by
 simp only [compare, compareOfLessAndEq]
 by_cases h3 : x < y
 ·rw [if_pos h3, if_pos (h1.1 h3)]
 ·rw [if_neg h3, if_neg (fun q => h3 (h1.2 q))]
  by_cases h4 : x = y
  ·rw [if_pos h4, if_pos (h2.1 h4)]
  ·rw [if_neg h4, if_neg (fun q => h4 (h2.2 q))]
theorem signed_scale (s : Bool) (m up k : Nat) : Ieee.signed s m up * ((2 ^ k : Nat) : Int) = if s = true then -((m * 2 ^ (up + k) : Nat) : Int) else ((m * 2 ^ (up + k) : Nat) : Int) := by
 unfold Ieee.signed
 rw [Nat.shiftLeft_eq, Nat.pow_add, ← Nat.mul_assoc]
 split
 ·rw [Int.neg_mul]; rfl
 ·rfl
theorem ford_num {a b : F64} (ha : rung a < 9218868437227405312) (hb : rung b < 9218868437227405312) : ford a b = some (compare (skey a) (skey b)) := by
 unfold ford Ieee.Format.order
 rw [read_num ha, read_num hb]
 unfold Ieee.Datum.order
 dsimp only
 congr 1
 generalize hua : upF (rung a) = ua
 generalize hub : upF (rung b) = ub
 have hmin : min ((-1074 : Int) + (ua : Nat)) ((-1074 : Int) + (ub : Nat)) = (-1074 : Int) + ((min ua ub : Nat) : Int) := by omega
 rw [hmin]
 have e1 : ((-1074 : Int) + (ua : Nat) - ((-1074 : Int) + ((min ua ub : Nat) : Int))).toNat = ua - min ua ub := by omega
 have e2 : ((-1074 : Int) + (ub : Nat) - ((-1074 : Int) + ((min ua ub : Nat) : Int))).toNat = ub - min ua ub := by omega
 rw [e1, e2, cmp_scale _ _ (p := 2 ^ min ua ub) (Nat.two_pow_pos _), signed_scale, signed_scale, show ua - min ua ub + min ua ub = ua by omega, show ub - min ua ub + min ua ub = ub by omega, ← hua, ← hub, ← magF_eq, ← magF_eq]
 unfold skey
 have m1 : rung a < rung b ↔ magF (rung a) < magF (rung b) := ⟨magF_mono, fun h => Nat.lt_of_not_le fun q => by
  rcases Nat.lt_or_ge (rung b) (rung a) with h2 | h2
  ·have := magF_mono h2; omega
  ·have : rung a = rung b := by omega
   rw [this] at h; omega⟩
 have m2 : rung a = rung b ↔ magF (rung a) = magF (rung b) := ⟨fun h => by rw [h], magF_inj⟩
 have z1 : rung a = 0 ↔ magF (rung a) = 0 := ⟨fun h => by rw [h]; rfl, fun h => magF_inj (h.trans rfl)⟩
 have z2 : rung b = 0 ↔ magF (rung b) = 0 := ⟨fun h => by rw [h]; rfl, fun h => magF_inj (h.trans rfl)⟩
 generalize magF (rung a) = x at *
 generalize magF (rung b) = y at *
 generalize rung a = r at *
 generalize rung b = q at *
 refine cmp_iff ?_ ?_
 ·split <;> split <;> omega
 ·split <;> split <;> omega
theorem cmp_lt {x y : Int} : (compare x y = .lt) ↔ x < y := by
 simp only [compare, compareOfLessAndEq]
 by_cases h : x < y
 ·simp [h]
 ·rw [if_neg h]
  by_cases h2 : x = y
  ·simp [h2]
  ·simp [h, h2]
theorem cmp_eq {x y : Int} : (compare x y = .eq) ↔ x = y := by
 simp only [compare, compareOfLessAndEq]
 by_cases h : x < y
 ·simp [h]; omega
 ·rw [if_neg h]
  by_cases h2 : x = y
  ·simp [h2]
  ·simp [h2]
theorem cmp_gt {x y : Int} : (compare x y = .gt) ↔ y < x := by
 simp only [compare, compareOfLessAndEq]
 by_cases h : x < y
 ·simp [h]; omega
 ·rw [if_neg h]
  by_cases h2 : x = y
  ·simp [h2]
  ·simp [h2]; omega
theorem ford_eq {a b : F64} (ha : rung a ≤ 9218868437227405312) (hb : rung b ≤ 9218868437227405312) : ford a b = some (compare (skey a) (skey b)) := by
 by_cases h1 : rung a = 9218868437227405312
 ·by_cases h2 : rung b = 9218868437227405312
  ·unfold ford Ieee.Format.order skey
   rw [read_inf h1, read_inf h2, h1, h2]
   cases negF a <;> cases negF b <;> rfl
  ·unfold ford Ieee.Format.order skey
   rw [read_inf h1, read_num (by omega), h1]
   unfold Ieee.Datum.order
   dsimp only
   congr 1
   generalize rung b = q at *
   cases negF a
   ·simp only [Bool.false_eq_true, if_false]
    exact (cmp_gt.2 (by split <;> omega)).symm
   ·simp only [if_true]
    exact (cmp_lt.2 (by split <;> omega)).symm
 ·by_cases h2 : rung b = 9218868437227405312
  ·unfold ford Ieee.Format.order skey
   rw [read_inf h2, read_num (by omega), h2]
   unfold Ieee.Datum.order
   dsimp only
   congr 1
   generalize rung a = q at *
   cases negF b
   ·simp only [Bool.false_eq_true, if_false]
    exact (cmp_lt.2 (by split <;> omega)).symm
   ·simp only [if_true]
    exact (cmp_gt.2 (by split <;> omega)).symm
  ·exact ford_num (by omega) (by omega)
theorem ford_nan {a : F64} (h : rung a > 9218868437227405312) : ford a a = none := by
 obtain ⟨s, t, e⟩ := read_nan h
 unfold ford Ieee.Format.order
 rw [e]
 rfl
end Go.Proofs.YtpgimlllchibnaaDoor.VM

/- Words and rules that the proof uses. -/
namespace Go.Proofs.YtpgimlllchibnaaDoor.VM
open Go Go.RowKit
theorem word_ok {s : List UInt8} (h : 8 ≤ s.length) : ∃ w, g_utf8_word_string s = some w := by
 unfold g_utf8_word_string
 rw [if_neg (by decide), if_pos (by omega), if_pos (by omega), if_pos (by omega), if_pos (by omega), if_pos (by omega), if_pos (by omega), if_pos (by omega), if_pos (by omega), letO_eq]
 exact ⟨_, rfl⟩
theorem cutl {s : List UInt8} {a : Int} (h : 0 ≤ a ∧ a ≤ (s.length : Int)) : (cut s a (s.length : Int)).length = s.length - a.toNat := by
 rw [cut_len ⟨h.1, h.2, Int.le_refl _⟩, Int.toNat_natCast]
theorem fast_ok {s : List UInt8} (h : 32 < s.length) : ∃ b, ((g_utf8_word_string s).bind fun r'9 => if 0 ≤ (8 : Int) ∧ (8 : Int) ≤ (s.length : Int) then (g_utf8_word_string (cut s (8 : Int) (s.length : Int))).bind fun r'10 => if 0 ≤ (16 : Int) ∧ (16 : Int) ≤ (s.length : Int) then (g_utf8_word_string (cut s (16 : Int) (s.length : Int))).bind fun r'11 => if 0 ≤ (24 : Int) ∧ (24 : Int) ≤ (s.length : Int) then (g_utf8_word_string (cut s (24 : Int) (s.length : Int))).bind fun r'12 => some (decide (((r'9 ||| r'10) ||| (r'11 ||| r'12)) &&& (9259542123273814144 : UInt64) = (0 : UInt64))) else none else none else none) = some b := by
 obtain ⟨w1, h1⟩ := word_ok (s := s) (by omega)
 obtain ⟨w2, h2⟩ := word_ok (s := cut s (8 : Int) (s.length : Int)) (by rw [cutl (by omega)]; omega)
 obtain ⟨w3, h3⟩ := word_ok (s := cut s (16 : Int) (s.length : Int)) (by rw [cutl (by omega)]; omega)
 obtain ⟨w4, h4⟩ := word_ok (s := cut s (24 : Int) (s.length : Int)) (by rw [cutl (by omega)]; omega)
 rw [h1, Option.bind_some, if_pos (by omega), h2, Option.bind_some, if_pos (by omega), h3, Option.bind_some, if_pos (by omega), h4, Option.bind_some]
 exact ⟨_, rfl⟩
theorem quick_loop (n : Nat) {s : List UInt8} (h : s.length ≤ n) : ∃ r : List UInt8, loopO g_utf8_ValidString_l1 s = some r ∧ r.length ≤ n := by
 refine loopO_rule (fun s : List UInt8 => s.length ≤ n) (fun r : List UInt8 => r.length ≤ n) List.length (fun s hs => ?_) h
 unfold g_utf8_ValidString_l1
 dsimp only
 by_cases h1 : (s.length : Int) > 32
 ·rw [if_pos h1]
  obtain ⟨b, hb⟩ := fast_ok (s := s) (by omega)
  rw [hb, Option.bind_some]
  cases b with
  | true =>
   rw [if_pos rfl, if_pos (by omega)]
   exact .inl ⟨_, rfl, by rw [cutl (by omega)]; omega, by rw [cutl (by omega)]; omega⟩
  | false =>
   rw [if_neg (by decide)]
   exact .inr ⟨_, rfl, hs⟩
 ·rw [if_neg h1]
  exact .inr ⟨_, rfl, hs⟩
theorem skip_ok {s : List UInt8} (h : 0 < s.length) : ∃ j, (((if ((cut s (1 : Int) (s.length : Int)).length : Int) > (8 : Int) then (g_utf8_word_string (cut s (1 : Int) (s.length : Int))).bind fun r'3 => some (decide (r'3 &&& (9259542123273814144 : UInt64) = (0 : UInt64))) else some false)).bind fun g'4 => (if g'4 = true then if 0 ≤ (8 : Int) ∧ (8 : Int) ≤ ((cut s (1 : Int) (s.length : Int)).length : Int) then letO ((cut (cut s (1 : Int) (s.length : Int)) (8 : Int) ((cut s (1 : Int) (s.length : Int)).length : Int))) fun s0'5 => ((if (s0'5.length : Int) > (16 : Int) then (g_utf8_word_string s0'5).bind fun r'6 => if 0 ≤ (8 : Int) ∧ (8 : Int) ≤ (s0'5.length : Int) then (g_utf8_word_string (cut s0'5 (8 : Int) (s0'5.length : Int))).bind fun r'7 => some (decide ((r'6 ||| r'7) &&& (9259542123273814144 : UInt64) = (0 : UInt64))) else none else some false)).bind fun g'8 => (if g'8 = true then if 0 ≤ (16 : Int) ∧ (16 : Int) ≤ (s0'5.length : Int) then (loopO (g_utf8_ValidString_l1) (cut s0'5 (16 : Int) (s0'5.length : Int))).bind fun y'17 => some y'17 else none else some s0'5) else none else some (cut s (1 : Int) (s.length : Int)))) = some j ∧ j.length < s.length := by
 have hc : (cut s (1 : Int) (s.length : Int)).length = s.length - 1 := by rw [cutl (by omega)]; rfl
 generalize cut s (1 : Int) (s.length : Int) = t at *
 by_cases h1 : (t.length : Int) > 8
 ·rw [if_pos h1]
  obtain ⟨w, hw⟩ := word_ok (s := t) (by omega)
  rw [hw, Option.bind_some, Option.bind_some]
  by_cases h2 : decide (w &&& (9259542123273814144 : UInt64) = (0 : UInt64)) = true
  ·rw [if_pos h2, if_pos (by omega), letO_eq]
   have hu : (cut t (8 : Int) (t.length : Int)).length = t.length - 8 := by rw [cutl (by omega)]; rfl
   generalize cut t (8 : Int) (t.length : Int) = u at *
   by_cases h3 : (u.length : Int) > 16
   ·obtain ⟨w2, hw2⟩ := word_ok (s := u) (by omega)
    obtain ⟨w3, hw3⟩ := word_ok (s := cut u (8 : Int) (u.length : Int)) (by rw [cutl (by omega)]; omega)
    rw [if_pos h3, hw2, Option.bind_some, if_pos (by omega), hw3, Option.bind_some, Option.bind_some]
    by_cases h4 : decide ((w2 ||| w3) &&& (9259542123273814144 : UInt64) = (0 : UInt64)) = true
    ·rw [if_pos h4, if_pos (by omega)]
     obtain ⟨r, hr, hl⟩ := quick_loop (u.length - 16) (s := cut u (16 : Int) (u.length : Int)) (by rw [cutl (by omega)]; exact Nat.le_refl _)
     rw [hr]
     exact ⟨r, rfl, by omega⟩
    ·rw [if_neg h4]
     exact ⟨_, rfl, by omega⟩
   ·rw [if_neg h3, Option.bind_some, if_neg (by decide)]
    exact ⟨_, rfl, by omega⟩
  ·rw [if_neg h2]
   exact ⟨_, rfl, by omega⟩
 ·rw [if_neg h1, Option.bind_some, if_neg (by decide)]
  exact ⟨_, rfl, by omega⟩
theorem two_ok {s : List UInt8} {lo hi : UInt8} (h : 0 < s.length) : ∃ b, (if (s.length : Int) < (2 : Int) then some true else if 1 < s.length then (if (lrd s 1) < lo then some true else if 1 < s.length then some (decide (hi < (lrd s 1))) else none) else none) = some b ∧ (b = false → 2 ≤ s.length) := by
 by_cases h1 : (s.length : Int) < 2
 ·rw [if_pos h1]; exact ⟨_, rfl, fun q => by cases q⟩
 ·rw [if_neg h1, if_pos (by omega)]
  split
  ·exact ⟨_, rfl, fun q => by cases q⟩
  ·rw [if_pos (by omega)]; exact ⟨_, rfl, fun _ => by omega⟩
theorem valid_ok (s : List UInt8) : ∃ b, g_utf8_ValidString s = some b := by
 unfold g_utf8_ValidString
 have : ∃ r, loopO g_utf8_ValidString_l0 s = some r ∧ True := by
  refine loopO_rule (fun _ => True) (fun _ => True) List.length (fun s _ => ?_) trivial
  unfold g_utf8_ValidString_l0
  dsimp only
  by_cases h0 : (s.length : Int) > 0
  ·rw [if_pos h0, if_pos (by omega)]
   by_cases h1 : lrd s 0 < (128 : UInt8)
   ·rw [if_pos h1, if_pos (by omega)]
    obtain ⟨j, hj, hl⟩ := skip_ok (s := s) (by omega)
    rw [hj, Option.bind_some]
    exact .inl ⟨_, rfl, trivial, hl⟩
   ·have hb : (lrd s 0).toNat < 256 := (lrd s 0).toNat_lt
    have hx : ∀ x : UInt8, 0 ≤ ((shr_u8 x 4).toNat : Int) ∧ ((shr_u8 x 4).toNat : Int) < 16 := by
     intro x
     have h1 : (shr_u8 x 4).toNat = x.toNat / 16 := by
      show (x.toBitVec >>> 4).toNat = _
      rw [BitVec.toNat_ushiftRight, Nat.shiftRight_eq_div_pow]
      rfl
     have := x.toNat_lt
     rw [h1]
     omega
    rw [if_neg h1, if_pos (by omega), letO_eq, if_pos (hx _), letO_eq]
    generalize (lrd _ _ : Gutf8_acceptRange) = a
    generalize ((_ &&& (7 : UInt8)).toNat : Int) = z
    by_cases z2 : z = 2
    ·rw [if_pos z2]
     obtain ⟨b, hb, hl⟩ := two_ok (s := s) (lo := a.lo_) (hi := a.hi_) (by omega)
     rw [hb, Option.bind_some]
     cases b with
     | true => rw [if_pos rfl]; exact .inr ⟨_, rfl, trivial⟩
     | false =>
      have := hl rfl
      rw [if_neg (by decide), if_pos (by omega)]
      exact .inl ⟨_, rfl, trivial, by rw [cutl (by omega)]; omega⟩
    ·rw [if_neg z2]
     by_cases z3 : z = 3
     ·rw [if_pos z3]
      by_cases l3 : (s.length : Int) < 3
      ·rw [if_pos l3, Option.bind_some, if_pos rfl]; exact .inr ⟨_, rfl, trivial⟩
      ·rw [if_neg l3, if_pos (show 1 < s.length by omega), if_pos (show 1 < s.length by omega), if_pos (show 2 < s.length by omega), if_pos (show 2 < s.length by omega), if_pos (show 0 ≤ (3 : Int) ∧ (3 : Int) ≤ (s.length : Int) by omega)]
       have hd : (cut s (3 : Int) (s.length : Int)).length < s.length := by rw [cutl (by omega)]; omega
       split
       ·exact .inr ⟨_, rfl, trivial⟩
       ·split
        ·exact .inr ⟨_, rfl, trivial⟩
        ·split
         ·exact .inr ⟨_, rfl, trivial⟩
         ·rw [Option.bind_some]
          split
          ·exact .inr ⟨_, rfl, trivial⟩
          ·exact .inl ⟨_, rfl, trivial, hd⟩
     ·rw [if_neg z3]
      by_cases z4 : z = 4
      ·rw [if_pos z4]
       by_cases l3 : (s.length : Int) < 4
       ·rw [if_pos l3, Option.bind_some, if_pos rfl]; exact .inr ⟨_, rfl, trivial⟩
       ·rw [if_neg l3, if_pos (show 1 < s.length by omega), if_pos (show 1 < s.length by omega), if_pos (show 2 < s.length by omega), if_pos (show 2 < s.length by omega), if_pos (show 3 < s.length by omega), if_pos (show 3 < s.length by omega), if_pos (show 0 ≤ (4 : Int) ∧ (4 : Int) ≤ (s.length : Int) by omega)]
        have hd : (cut s (4 : Int) (s.length : Int)).length < s.length := by rw [cutl (by omega)]; omega
        split
        ·exact .inr ⟨_, rfl, trivial⟩
        ·split
         ·exact .inr ⟨_, rfl, trivial⟩
         ·split
          ·exact .inr ⟨_, rfl, trivial⟩
          ·split
           ·exact .inr ⟨_, rfl, trivial⟩
           ·split
            ·exact .inr ⟨_, rfl, trivial⟩
            ·rw [Option.bind_some]
             split
             ·exact .inr ⟨_, rfl, trivial⟩
             ·exact .inl ⟨_, rfl, trivial, hd⟩
      ·rw [if_neg z4]
       exact .inr ⟨_, rfl, trivial⟩
  ·rw [if_neg h0]
   exact .inr ⟨_, rfl, trivial⟩
 obtain ⟨r, hr, _⟩ := this
 rw [hr, Option.bind_some]
 cases r with
 | inl b => exact ⟨_, rfl⟩
 | inr u => exact ⟨_, rfl⟩
theorem valid_nil : g_utf8_ValidString [] = some true := by
 unfold g_utf8_ValidString
 rw [loopO_done (r := .inr ()) (by unfold g_utf8_ValidString_l0; rfl)]
 rfl
end Go.Proofs.YtpgimlllchibnaaDoor.VM

/- Words and rules that the proof uses. -/
namespace Go.Proofs.YtpgimlllchibnaaDoor.VM
open Go Go.RowKit
theorem shl1_nat (b : UInt64) : (shl_u64 b 1).toNat = 2 * (b.toNat % 9223372036854775808) := by
 show (b.toBitVec <<< 1).toNat = _
 rw [BitVec.toNat_shiftLeft, Nat.shiftLeft_eq]
 show b.toNat * 2 ^ 1 % 2 ^ 64 = _
 omega
theorem bad_iff (b : UInt64) : ((18437736874454810624 : UInt64) < shl_u64 b 1) ↔ rung b > 9218868437227405312 := by
 rw [UInt64.lt_iff_toNat_lt, shl1_nat]
 show 18437736874454810624 < _ ↔ _
 unfold rung
 omega
theorem top_iff (b : UInt64) : b = (9223372036854775808 : UInt64) ↔ b.toNat = 9223372036854775808 := by
 constructor
 ·intro h; rw [h]; rfl
 ·intro h; exact UInt64.toNat_inj.1 h
theorem sign_eq (b : UInt64) : (w64 (b.toNat : Int) < 0) ↔ 9223372036854775808 ≤ b.toNat := by
 have hb : b.toNat < 18446744073709551616 := b.toNat_lt
 unfold w64 IntKind.wrap
 have e1 : (2 ^ IntKind.i64.bits : Int) = 18446744073709551616 := by decide
 have e2 : (2 ^ (IntKind.i64.bits - 1) : Int) = 9223372036854775808 := by decide
 have e3 : IntKind.i64.signed = true := rfl
 rw [e1, e2, e3]
 simp only [Bool.true_and, decide_eq_true_eq]
 split <;> omega
theorem skey0 : skey (0 : F64) = 0 := by decide
theorem ford_self {b : F64} (h : rung b ≤ 9218868437227405312) : ford b b = some .eq := by
 rw [ford_eq h h, cmp_eq.2 rfl]
theorem real_bad (b : UInt64) : (if (fneq b b) = true then some true else (if (feq b (0 : F64)) = true then (g_math_Signbit b).bind fun r'4 => some r'4 else some false)) = some (decide ((b = (9223372036854775808 : UInt64)) ∨ ((18437736874454810624 : UInt64) < shl_u64 b 1))) := by
 have hb : b.toNat < 18446744073709551616 := b.toNat_lt
 by_cases h : rung b > 9218868437227405312
 ·have : fneq b b = true := by unfold fneq; rw [ford_nan h]; rfl
  rw [if_pos this, decide_eq_true (.inr ((bad_iff b).2 h))]
 ·have h' : rung b ≤ 9218868437227405312 := by omega
  have h1 : ¬ (fneq b b = true) := by unfold fneq; rw [ford_self h']; decide
  rw [if_neg h1]
  by_cases h2 : rung b = 0
  ·have h3 : feq b (0 : F64) = true := by
    unfold feq
    rw [ford_eq h' (by decide), skey0]
    have : skey b = 0 := by unfold skey; rw [h2]; split <;> rfl
    rw [this]
    rfl
   rw [if_pos h3]
   unfold g_math_Signbit
   rw [Option.bind_some]
   congr 1
   rw [decide_eq_decide, sign_eq, top_iff, bad_iff]
   unfold rung at *
   omega
  ·have h3 : ¬ (feq b (0 : F64) = true) := by
    unfold feq
    rw [ford_eq h' (by decide), skey0]
    intro q
    have q2 : compare (skey b) 0 = .eq := by simpa using q
    have := cmp_eq.1 q2
    unfold skey at this
    split at this <;> omega
   rw [if_neg h3, decide_eq_false]
   rw [top_iff, bad_iff]
   unfold rung at *
   omega
theorem u64i (n : Int) : (UInt64.ofInt n).toNat = (n % 18446744073709551616).toNat := by
 unfold UInt64.ofInt
 rw [UInt64.toNat_ofNat']
 have : (2 : Int) ^ 64 = 18446744073709551616 := by decide
 have : (2 : Nat) ^ 64 = 18446744073709551616 := by decide
 omega
def okV1 (v : GValue) : Prop := 0 ≤ v.Kind ∧ v.Kind ≤ 4 ∧ v.Text.length ≤ 40 ∧ (v.Kind = 3 → ¬ ((v.Bits = (9223372036854775808 : UInt64)) ∨ ((18437736874454810624 : UInt64) < shl_u64 v.Bits 1)))
theorem check_eq (v : GValue) (hi : okI v.Int_) : ∃ e : Int, g_value_Check v = some e ∧ g_ref_ValueFault v = some e ∧ (e = 0 → okV1 v) := by
 obtain ⟨k, i, b, t⟩ := v
 unfold okI at hi
 dsimp only at hi
 obtain ⟨vb, hv⟩ := valid_ok t
 unfold g_value_Check g_ref_ValueFault g_ref_badReal okV1
 dsimp only
 by_cases hk : k < 0 ∨ k > 4
 ·rw [if_pos hk, if_neg (show ¬ k = 0 by omega), if_neg (show ¬ k = 1 by omega), Option.bind_some, decide_eq_false (show ¬ k = 2 by omega), if_neg (by decide), if_neg (show ¬ k = 3 by omega), if_neg (show ¬ k = 4 by omega)]
  exact ⟨2, rfl, rfl, fun q => absurd q (by decide)⟩
 ·rw [if_neg hk]
  by_cases hl : (t.length : Int) > 40
  ·rw [if_pos hl]
   refine ⟨1, rfl, ?_, fun q => absurd q (by decide)⟩
   have hk5 : k = 0 ∨ k = 1 ∨ k = 2 ∨ k = 3 ∨ k = 4 := by omega
   rcases hk5 with rfl | rfl | rfl | rfl | rfl <;> simp [hl]
  ·rw [if_neg hl, letO_eq]
   have hk5 : k = 0 ∨ k = 1 ∨ k = 2 ∨ k = 3 ∨ k = 4 := by omega
   rcases hk5 with rfl | rfl | rfl | rfl | rfl
   ·by_cases h : t = [] ∧ b = 0 ∧ i = 0
    ·obtain ⟨rfl, rfl, rfl⟩ := h
     refine ⟨0, by simp, ?_, fun _ => by simp⟩
     simp [valid_nil, GValue.zero]
    ·refine ⟨3, ?_, ?_, fun q => absurd q (by decide)⟩
     ·rw [if_pos]
      simp
      by_cases h1 : t = []
      ·by_cases h2 : b = 0
       ·exact .inr fun q => h ⟨h1, h2, q⟩
       ·exact .inl (.inr h2)
      ·exact .inl (.inl h1)
     ·simp [GValue.zero, hl]
      rw [if_neg (fun q => h ⟨q.2.2, q.2.1, q.1⟩)]
      rfl
   ·by_cases h : t = [] ∧ b = 0
    ·obtain ⟨rfl, rfl⟩ := h
     by_cases hi2 : i = 0 ∨ i = 1
     ·have h1 : ¬ ((1 : UInt64) < UInt64.ofInt i) := by
       rw [UInt64.lt_iff_toNat_lt, u64i]
       show ¬ 1 < _
       omega
      refine ⟨0, ?_, ?_, fun _ => by simp⟩
      ·simp
       rw [if_neg (by omega)]
       rfl
      ·simp [GValue.zero, valid_nil]
       rw [if_neg h1]
       rfl
     ·have h1 : (1 : UInt64) < UInt64.ofInt i := by
       rw [UInt64.lt_iff_toNat_lt, u64i]
       show 1 < _
       omega
      refine ⟨3, ?_, ?_, fun q => absurd q (by decide)⟩
      ·simp
       rw [if_pos (by omega)]
       rfl
      ·simp [GValue.zero]
       rw [if_pos h1]
       rfl
    ·refine ⟨3, ?_, ?_, fun q => absurd q (by decide)⟩
     ·rw [if_pos]
      simp
      by_cases h1 : t = []
      ·exact .inr fun q => h ⟨h1, q⟩
      ·exact .inl h1
     ·simp [GValue.zero, hl]
      rw [if_neg (fun q => h ⟨q.2, q.1⟩)]
      rfl
   ·by_cases h : t = [] ∧ b = 0
    ·obtain ⟨rfl, rfl⟩ := h
     refine ⟨0, by simp, ?_, fun _ => by simp⟩
     simp [valid_nil, GValue.zero]
    ·refine ⟨3, ?_, ?_, fun q => absurd q (by decide)⟩
     ·rw [if_pos]
      simp
      by_cases h1 : t = []
      ·exact .inr fun q => h ⟨h1, q⟩
      ·exact .inl h1
     ·simp [GValue.zero, hl]
      rw [if_neg (fun q => h ⟨q.2, q.1⟩)]
      rfl
   ·by_cases h : t = [] ∧ i = 0
    ·obtain ⟨rfl, rfl⟩ := h
     have hr := real_bad b
     by_cases hb : (b = (9223372036854775808 : UInt64)) ∨ ((18437736874454810624 : UInt64) < shl_u64 b 1)
     ·refine ⟨3, ?_, ?_, fun q => absurd q (by decide)⟩
      ·rw [if_neg (by simp), if_neg (by decide), if_pos rfl, hr, decide_eq_true hb]
       rfl
      ·revert hb
       generalize shl_u64 b 1 = z
       intro hb
       simp [GValue.zero]
       rw [if_pos hb]
       rfl
     ·refine ⟨0, ?_, ?_, fun _ => ⟨by decide, by decide, by simp, fun _ => hb⟩⟩
      ·rw [if_neg (by simp), if_neg (by decide), if_pos rfl, hr, decide_eq_false hb]
       rfl
      ·revert hb
       generalize shl_u64 b 1 = z
       intro hb
       simp [GValue.zero, valid_nil]
       rw [if_neg hb]
       rfl
    ·refine ⟨3, ?_, ?_, fun q => absurd q (by decide)⟩
     ·rw [if_pos]
      simp
      by_cases h1 : t = []
      ·exact .inr fun q => h ⟨h1, q⟩
      ·exact .inl h1
     ·simp [GValue.zero, hl]
      rw [if_neg (fun q => h ⟨q.2, q.1⟩)]
      rfl
   ·by_cases h : b = 0 ∧ i = 0
    ·obtain ⟨rfl, rfl⟩ := h
     cases vb with
     | true =>
      refine ⟨0, ?_, ?_, fun _ => ⟨by decide, by decide, by omega, fun q => absurd q (by decide)⟩⟩
      ·simp [hv]
      ·simp [GValue.zero, hv, hl]
     | false =>
      refine ⟨3, ?_, ?_, fun q => absurd q (by decide)⟩
      ·simp [hv]
      ·simp [GValue.zero, hv, hl]
    ·refine ⟨3, ?_, ?_, fun q => absurd q (by decide)⟩
     ·rw [if_pos]
      simp
      by_cases h1 : b = 0
      ·exact .inr fun q => h ⟨h1, q⟩
      ·exact .inl h1
     ·simp [GValue.zero, hl]
      rw [if_neg (fun q => h ⟨q.2, q.1⟩)]
      rfl
end Go.Proofs.YtpgimlllchibnaaDoor.VM

/- Words and rules that the proof uses. -/
namespace Go.Proofs.YtpgimlllchibnaaDoor.VM
open Go Go.RowKit
theorem u8_all (p : UInt8 → Bool) (h : (List.range 256).all (fun n => p (UInt8.ofNat n)) = true) (c : UInt8) : p c = true := by
 have := List.all_eq_true.1 h c.toNat (List.mem_range.2 c.toNat_lt)
 rwa [UInt8.ofNat_toNat] at this
theorem any_loop {α β : Type} [Inhabited α] {step : Int → Option (Int ⊕ β)} (l : List α) (p : α → Bool) (a b : β) (hl : l.length < 9223372036854775807)
  (hs : ∀ k, k < l.length → step (k : Int) = some (if p (lrd l k) = true then .inr a else .inl (w64 ((k : Int) + 1)))) (he : step (l.length : Int) = some (.inr b)) : loopO step (0 : Int) = some (if l.any p = true then a else b) := by
 have h := loopO_goL (step := step) l (fun k (_ : Unit) => (k : Int)) (fun _ x _ => if p x = true then .inr a else .inl ()) (fun _ => b) (fun _ _ => True) (fun k s hk _ => ⟨by
  rw [hs k hk, w64_succ (by omega)]
  by_cases hp : p (lrd l k) = true
  ·rw [if_pos hp, if_pos hp]
  ·rw [if_neg hp, if_neg hp], fun _ _ => trivial⟩) (fun _ _ => he) (s := ()) trivial
 have h2 : ∀ (m : List α) (k : Nat), goL (fun _ x (_ : Unit) => if p x = true then (.inr a : Unit ⊕ β) else .inl ()) (fun _ => b) m k () = if m.any p = true then a else b := by
  intro m
  induction m with
  | nil => intro k; rfl
  | cons x m ih =>
   intro k
   have e : (x :: m).any p = (p x || m.any p) := List.any_cons
   simp only [goL]
   by_cases hp : p x = true
   ·rw [if_pos hp, if_pos (by rw [e, hp]; rfl)]
   ·rw [if_neg hp]
    simp only
    rw [ih]
    have e2 : (x :: m).any p = m.any p := by rw [e, Bool.eq_false_iff.2 hp, Bool.false_or]
    by_cases hm : m.any p = true
    ·rw [if_pos hm, if_pos (e2.trans hm)]
    ·rw [if_neg hm, if_neg (fun h => hm (e2.symm.trans h))]
 rw [h2] at h
 exact h
theorem reach_loop {α : Type} [Inhabited α] {step : Int → Option (Int ⊕ Int)} (l : List α) (p : α → Bool) (hl : l.length < 9223372036854775807)
  (hs : ∀ k, k < l.length → step (k : Int) = some (if p (lrd l k) = true then .inl (w64 ((k : Int) + 1)) else .inr (k : Int))) (he : step (l.length : Int) = some (.inr (l.length : Int))) : ∃ n : Nat, loopO step (0 : Int) = some (n : Int) ∧ (n = l.length ↔ l.all p = true) := by
 have key : ∀ (m : List α) (k : Nat), l.drop k = m → k ≤ l.length → ∃ n : Nat, loopO step (k : Int) = some (n : Int) ∧ (n = l.length ↔ m.all p = true) := by
  intro m
  induction m with
  | nil =>
   intro k hm hk
   have : k = l.length := by
    have := congrArg List.length hm
    simp at this
    omega
   subst this
   exact ⟨l.length, loopO_done he, by simp⟩
  | cons x m ih =>
   intro k hm hk
   have hlt : k < l.length := by
    rcases Nat.lt_or_ge k l.length with h | h
    ·exact h
    ·rw [List.drop_eq_nil_of_le h] at hm
     cases hm
   rw [drop_step hlt] at hm
   obtain ⟨hx, hm⟩ := List.cons.inj hm
   have h1 := hs k hlt
   rw [hx] at h1
   by_cases hp : p x = true
   ·rw [if_pos hp, w64_succ (by omega)] at h1
    obtain ⟨n, h2, h3⟩ := ih (k + 1) hm hlt
    exact ⟨n, by rw [loopO_next h1]; exact h2, by rw [h3, List.all_cons, hp, Bool.true_and]⟩
   ·rw [if_neg hp] at h1
    refine ⟨k, loopO_done h1, ?_⟩
    rw [List.all_cons, Bool.eq_false_iff.2 hp, Bool.false_and]
    constructor
    ·intro h; omega
    ·intro h; cases h
 exact key l 0 rfl (Nat.zero_le _)
theorem all_of_any {α : Type} (p q : α → Bool) (h : ∀ x, q x = !(p x)) : ∀ l : List α, l.any q = !(l.all p)
 | [] => rfl
 | x :: l => by rw [List.any_cons, List.all_cons, all_of_any p q h l, h, Bool.not_and]
def inB (c : UInt8) : Bool := (decide (97 ≤ c) && decide (c ≤ 122)) || (decide (48 ≤ c) && decide (c ≤ 57)) || decide (c = 95)
def smallB (c : UInt8) : Bool := decide (97 ≤ c) && decide (c ≤ 122)
theorem small_eq (c : UInt8) : g_lex_small c = some (smallB c) := by
 unfold g_lex_small smallB
 rw [Bool.decide_and]
theorem inName_eq (c : UInt8) : g_lex_inName c = some (inB c) := by
 unfold g_lex_inName g_lex_digit inB
 rw [small_eq, Option.bind_some]
 unfold smallB
 rw [Bool.decide_and]
 by_cases h1 : (decide (97 ≤ c) && decide (c ≤ 122)) = true
 ·rw [if_pos h1, h1]; rfl
 ·rw [if_neg h1, Bool.eq_false_iff.2 h1, Option.bind_some]
  by_cases h2 : (decide (48 ≤ c) && decide (c ≤ 57)) = true
  ·rw [if_pos h2, h2]; rfl
  ·rw [if_neg h2, Bool.eq_false_iff.2 h2]; rfl
theorem t1_in (c : UInt8) : (g_ref_isName_t1.any fun x => decide (x = c)) = inB c := by
 have := u8_all (fun c => (g_ref_isName_t1.any fun x => decide (x = c)) == inB c) (by decide +kernel) c
 exact eq_of_beq this
theorem t0_small (c : UInt8) : (g_ref_isName_t0.any fun x => decide (x = c)) = smallB c := by
 have := u8_all (fun c => (g_ref_isName_t0.any fun x => decide (x = c)) == smallB c) (by decide +kernel) c
 exact eq_of_beq this
theorem among_eq (c : UInt8) (l : List UInt8) (hl : l.length < 9223372036854775807) : g_ref_among c l = some (l.any fun x => decide (x = c)) := by
 unfold g_ref_among
 have h := any_loop (step := g_ref_among_l0 c l) l (fun x => decide (x = c)) (.inl true) (.inr ()) hl (fun k hk => by
  unfold g_ref_among_l0
  dsimp only
  rw [if_pos (natLt hk), if_pos (natIn hk), Int.toNat_natCast]
  by_cases h1 : lrd l k = c
  ·rw [if_pos h1, if_pos (decide_eq_true h1)]
  ·rw [if_neg h1, if_neg (by rw [decide_eq_false h1]; decide)]) (by
  unfold g_ref_among_l0
  dsimp only
  rw [if_neg natNlt])
 rw [h, Option.bind_some]
 by_cases h1 : (l.any fun x => decide (x = c)) = true
 ·rw [if_pos h1, h1]
 ·rw [if_neg h1, Bool.eq_false_iff.2 h1]
theorem reach_eq (s l : List UInt8) (hs : s.length < 9223372036854775807) (hl : l.length < 9223372036854775807) : ∃ n : Nat, g_ref_reach s l = some (n : Int) ∧ (n = s.length ↔ (s.all fun c => l.any fun x => decide (x = c)) = true) := by
 obtain ⟨n, h1, h2⟩ := reach_loop (step := g_ref_reach_l0 s l) s (fun c => l.any fun x => decide (x = c)) hs (fun k hk => by
  unfold g_ref_reach_l0
  dsimp only
  rw [if_pos (natLt hk), if_pos (natIn hk), Int.toNat_natCast, among_eq _ _ hl, Option.bind_some, Option.bind_some]
  by_cases h1 : (l.any fun x => decide (x = lrd s k)) = true
  ·rw [if_pos h1, if_pos h1]
  ·rw [if_neg h1, if_neg h1]) (by
  unfold g_ref_reach_l0
  dsimp only
  rw [if_neg natNlt, Option.bind_some, if_neg (by decide)])
 unfold g_ref_reach
 rw [h1]
 exact ⟨n, rfl, h2⟩
theorem all_in (s : List UInt8) (hs : s.length < 9223372036854775807) : g_lex_all_i0 s = some (s.all inB && decide (s ≠ [])) := by
 unfold g_lex_all_i0
 have h := any_loop (step := g_lex_all_i0_l0 s) s (fun x => !(inB x)) (.inl false) (.inr ()) hs (fun k hk => by
  unfold g_lex_all_i0_l0
  dsimp only
  rw [if_pos (natLt hk), if_pos (natIn hk), Int.toNat_natCast, inName_eq, Option.bind_some]
  by_cases h1 : (!(inB (lrd s k))) = true
  ·rw [if_pos h1, if_pos h1]
  ·rw [if_neg h1, if_neg h1]) (by
  unfold g_lex_all_i0_l0
  dsimp only
  rw [if_neg natNlt])
 rw [h, Option.bind_some, all_of_any inB _ (fun _ => rfl)]
 by_cases h1 : s.all inB = true
 ·rw [h1, if_neg (by decide)]; rfl
 ·rw [Bool.eq_false_iff.2 h1, if_pos (by decide)]; rfl
def isNm (s : List UInt8) : Bool := decide (s ≠ []) && (smallB (lrd s 0) && s.all inB)
theorem isName_eq (s : List UInt8) (hs : s.length < 9223372036854775807) : g_ref_isName s = some (isNm s) := by
 unfold g_ref_isName isNm
 by_cases h0 : s = []
 ·subst h0; rfl
 ·have hp : 0 < s.length := List.length_pos_iff.2 h0
  rw [if_pos h0, if_pos hp, among_eq _ _ (by decide), t0_small, Option.bind_some, decide_eq_true h0, Bool.true_and]
  obtain ⟨n, h1, h2⟩ := reach_eq s g_ref_isName_t1 hs (by decide)
  rw [h1, Option.bind_some]
  simp only [t1_in] at h2
  by_cases h3 : smallB (lrd s 0) = true
  ·rw [if_pos h3, h3, Option.bind_some, Bool.true_and]
   congr 1
   by_cases h4 : s.all inB = true
   ·have h5 := h2.2 h4
    rw [h4, decide_eq_true (by omega)]
   ·have h5 : n ≠ s.length := fun h => h4 (h2.1 h)
    rw [Bool.eq_false_iff.2 h4, decide_eq_false (by omega)]
  ·rw [if_neg h3, Bool.eq_false_iff.2 h3]
   rfl
theorem nameP_eq (s : List UInt8) (hs : s.length < 9223372036854775807) : (((g_lex_all_i0 s).bind fun r'5 => (if r'5 = true then if 0 < s.length then (g_lex_small (lrd s 0)).bind fun r'6 => some r'6 else none else some false)).bind fun g'7 => some g'7) = some (isNm s) := by
 rw [all_in s hs, Option.bind_some]
 unfold isNm
 by_cases h0 : s = []
 ·subst h0; rfl
 ·have hp : 0 < s.length := List.length_pos_iff.2 h0
  rw [decide_eq_true h0, Bool.and_true, Bool.true_and, if_pos hp, small_eq]
  by_cases h4 : s.all inB = true
  ·rw [if_pos h4, h4, Bool.and_true]; rfl
  ·rw [if_neg h4, Bool.eq_false_iff.2 h4, Bool.and_false]; rfl
end Go.Proofs.YtpgimlllchibnaaDoor.VM

/- Words and rules that the proof uses. -/
namespace Go.Proofs.YtpgimlllchibnaaDoor.VM
open Go Go.RowKit
def wrong (long ok : Prop) [Decidable long] [Decidable ok] : Int := if long then 1 else if ok then 0 else 3
theorem wrong_l {long : Prop} [Decidable long] {b b1 b2 : Bool} {w : Prop} [Decidable w] (h1 : b1 = true ↔ long) (h2 : b2 = true ↔ ¬ w) : (if b1 = true then some (1 : Int) else (if b2 = true then some (3 : Int) else ((some b : Option Bool).bind fun j'3 => (if (!j'3) = true then some (3 : Int) else some (0 : Int))))) = some (wrong long (b = true ∧ w)) := by
 unfold wrong
 by_cases hl : long
 ·rw [if_pos (h1.2 hl), if_pos hl]
 ·rw [if_neg (fun h => hl (h1.1 h)), if_neg hl]
  by_cases hw : w
  ·rw [if_neg (fun h => h2.1 h hw), Option.bind_some]
   cases b with
   | true => rw [if_neg (show ¬ ((!true) = true) by decide), if_pos ⟨rfl, hw⟩]
   | false => rw [if_pos (show (!false) = true from rfl), if_neg (by simp)]
  ·rw [if_pos (h2.2 hw), if_neg (fun h => hw h.2)]
theorem name_lex (t : GToken) (hK : t.Kind = 1) (hT : t.Text.length < 9223372036854775807) : g_lex_Check t = some (wrong ((t.Text.length : Int) > 8) (isNm t.Text = true ∧ (t.Int_ = 0 ∧ t.Bits = 0))) := by
 obtain ⟨K, T, I, B⟩ := t
 dsimp only at hK hT ⊢
 subst hK
 unfold g_lex_Check
 dsimp only
 rw [if_neg (show ¬ ((1 : Int) < 1 ∨ (1 : Int) > 6) by decide), letO_eq, letO_eq, if_pos (show (1 : Int) = 1 from rfl), nameP_eq T hT]
 exact wrong_l (by simp) (by simp [-not_and, Classical.not_and_iff_not_or_not])
theorem name_eq (s : List UInt8) (hs : s.length < 9223372036854775807) : g_lex_Check ({ { GToken.zero with Kind := (1 : Int) } with Text := s }) = some (wrong ((s.length : Int) > 8) (isNm s = true)) := by
 have h := name_lex ({ { GToken.zero with Kind := (1 : Int) } with Text := s }) rfl hs
 rw [h]
 congr 1
 unfold wrong
 by_cases h : isNm s = true
 ·simp [GToken.zero, h]
 ·simp [GToken.zero, h]
end Go.Proofs.YtpgimlllchibnaaDoor.VM

/- Words and rules that the proof uses. -/
namespace Go.Proofs.YtpgimlllchibnaaDoor.VM
open Go Go.RowKit
theorem loop_passes {step : Int → Option (Int ⊕ (Int ⊕ Unit))} (n : Nat) (hn : n < 9223372036854775807) (hs : ∀ k, k < n → step (k : Int) = some (.inl (w64 ((k : Int) + 1))) ∨ ∃ r, r ≠ 0 ∧ step (k : Int) = some (.inr (.inl r))) (he : step (n : Int) = some (.inr (.inr ()))) :
  ∃ o, loopO step (0 : Int) = some o ∧ match o with | .inl y => y ≠ 0 | .inr _ => ∀ k, k < n → step (k : Int) = some (.inl (w64 ((k : Int) + 1))) := by
 refine loopO_times (step := step) n (fun k (_ : Unit) => (k : Int)) (fun k _ => ∀ j, j < k → step (j : Int) = some (.inl (w64 ((j : Int) + 1)))) _ (fun k _ hk hi => ?_) (fun _ hi => ⟨_, he, hi⟩) (s := ()) (fun j hj => by omega)
 rcases hs k hk with h | ⟨r, hr, h⟩
 ·left
  refine ⟨(), by rw [h, w64_succ (by omega)], fun j hj => ?_⟩
  rcases Nat.lt_or_ge j k with h1 | h1
  ·exact hi j h1
  ·rw [show j = k by omega]; exact h
 ·exact .inr ⟨_, h, hr⟩
theorem down_any {α : Type} [Inhabited α] {step : Int → Option (Int ⊕ (Int ⊕ Unit))} (l : List α) (p : α → Bool) (hl : l.length < 9223372036854775807) (hs : ∀ k, k < l.length → step (k : Int) = some (if p (lrd l k) = true then .inr (.inl (k : Int)) else .inl (w64 ((k : Int) - 1)))) (he : step (-1) = some (.inr (.inr ()))) :
  ∀ j, j ≤ l.length → ∃ o, loopO step ((j : Int) - 1) = some o ∧ match o with | .inl r => 0 ≤ r ∧ (l.take j).any p = true | .inr _ => (l.take j).any p = false := by
 intro j
 induction j with
 | zero => intro _; exact ⟨.inr (), loopO_done he, rfl⟩
 | succ j ih =>
  intro hj
  rw [show ((j + 1 : Nat) : Int) - 1 = (j : Int) by omega]
  have h1 := hs j (by omega)
  by_cases hp : p (lrd l j) = true
  ·rw [if_pos hp] at h1
   refine ⟨_, loopO_done h1, by omega, ?_⟩
   rw [take_step (by omega), List.any_append, List.any_cons, List.any_nil, hp]
   simp
  ·rw [if_neg hp, w64_id (by omega)] at h1
   obtain ⟨o, h2, h3⟩ := ih (by omega)
   refine ⟨o, by rw [loopO_next h1]; exact h2, ?_⟩
   have e : (l.take (j + 1)).any p = (l.take j).any p := by
    rw [take_step (by omega), List.any_append, List.any_cons, List.any_nil, Bool.eq_false_iff.2 hp]
    simp
   rw [e]
   exact h3
theorem columnAt_eq (l : List GColumn) (n : List UInt8) (hl : l.length < 9223372036854775807) : ∃ r, g_ref_columnAt l n = some r ∧ (r ≥ 0 ↔ (l.any fun c => decide (c.Name = n)) = true) := by
 obtain ⟨o, h1, h2⟩ := down_any (step := g_ref_columnAt_l0 l n) l (fun c => decide (c.Name = n)) hl (fun k hk => by
  unfold g_ref_columnAt_l0
  dsimp only
  rw [if_pos (by omega), if_pos (natIn hk), Int.toNat_natCast]
  by_cases h1 : (lrd l k).Name = n
  ·rw [if_pos h1, if_pos (decide_eq_true h1)]
  ·rw [if_neg h1, if_neg (by rw [decide_eq_false h1]; decide)]) (by
  unfold g_ref_columnAt_l0
  dsimp only
  rw [if_neg (by decide)]) l.length (Nat.le_refl _)
 unfold g_ref_columnAt
 rw [w64_id (by omega), h1, Option.bind_some]
 rw [List.take_length] at h2
 cases o with
 | inl r => exact ⟨r, rfl, by simp only at h2; simp [h2.1, h2.2]⟩
 | inr u => exact ⟨-1, rfl, by simp only at h2; simp [h2]⟩
theorem twice_eq (cols : List GColumn) (t : Int) (ht : 0 ≤ t ∧ t < (cols.length : Int)) (hl : cols.length < 9223372036854775807) : loopO (g_kinds_Columns_l1 cols t) (0 : Int) = some (if ((cut cols 0 t).any fun d => decide (d.Name = (lrd cols t.toNat).Name)) = true then .inl 8 else .inr ()) := by
 have hc : (cut cols 0 t).length ≤ cols.length := by rw [cut_len ⟨Int.le_refl _, ht.1, by omega⟩]; omega
 exact any_loop (step := g_kinds_Columns_l1 cols t) (cut cols 0 t) (fun d => decide (d.Name = (lrd cols t.toNat).Name)) (.inl 8) (.inr ()) (by omega) (fun k hk => by
  unfold g_kinds_Columns_l1
  dsimp only
  rw [if_pos (natLt hk), if_pos (natIn hk), Int.toNat_natCast]
  by_cases h1 : (lrd (cut cols 0 t) k).Name = (lrd cols t.toNat).Name
  ·rw [if_pos h1, if_pos (decide_eq_true h1)]
  ·rw [if_neg h1, if_neg (by rw [decide_eq_false h1]; decide)]) (by
  unfold g_kinds_Columns_l1
  dsimp only
  rw [if_neg natNlt])
theorem colStep (cols : List GColumn) (hl : cols.length < 9223372036854775807) (hc : ∀ c ∈ cols, c.Name.length < 9223372036854775807) : g_kinds_Columns_l0 cols = g_ref_ColumnsFault_l0 cols := by
 funext t
 unfold g_kinds_Columns_l0 g_ref_ColumnsFault_l0
 dsimp only
 by_cases h : t < (cols.length : Int)
 ·rw [if_pos h, if_pos h]
  by_cases h0 : 0 ≤ t ∧ t < (cols.length : Int)
  ·have hn := hc (lrd cols t.toNat) (lrd_mem (by omega))
   have ht : 0 ≤ t ∧ t ≤ (cols.length : Int) := by omega
   have hcl : (cut cols 0 t).length ≤ cols.length := by rw [cut_len ⟨Int.le_refl _, ht.1, by omega⟩]; omega
   rw [if_pos h0, if_pos h0, name_eq _ hn, isName_eq _ hn, Option.bind_some, Option.bind_some]
   unfold wrong
   by_cases h1 : ((lrd cols t.toNat).Name.length : Int) > 8
   ·rw [if_pos h1, if_pos (show (1 : Int) ≠ 0 by decide), if_pos (.inr h1)]
   ·rw [if_neg h1]
    by_cases h2 : isNm (lrd cols t.toNat).Name = true
    ·rw [if_pos h2, if_neg (show ¬ ((0 : Int) ≠ 0) by decide), if_neg (show ¬ ((!(isNm (lrd cols t.toNat).Name)) = true ∨ ((lrd cols t.toNat).Name.length : Int) > 8) by rw [h2]; intro hh; rcases hh with hh | hh; exact absurd hh (by decide); exact h1 hh), letO_eq]
     by_cases h3 : (lrd cols t.toNat).Kind < 1 ∨ (lrd cols t.toNat).Kind > 4
     ·rw [if_pos h3, if_pos (decide_eq_true (by omega))]
     ·rw [if_neg h3, if_neg (show ¬ (decide _ = true) by rw [decide_eq_true_eq]; omega), if_pos ht, if_pos ht, twice_eq cols t h0 hl]
      obtain ⟨r, h4, h5⟩ := columnAt_eq (cut cols 0 t) (lrd cols t.toNat).Name (by omega)
      rw [h4, Option.bind_some, Option.bind_some]
      by_cases h6 : ((cut cols 0 t).any fun d => decide (d.Name = (lrd cols t.toNat).Name)) = true
      ·rw [if_pos h6, if_pos (h5.2 h6)]
      ·rw [if_neg h6, if_neg (fun q => h6 (h5.1 q))]
    ·rw [if_neg h2, if_pos (show (3 : Int) ≠ 0 by decide), if_pos (.inl (by rw [Bool.eq_false_iff.2 h2]; rfl))]
  ·rw [if_neg h0, if_neg h0]
 ·rw [if_neg h, if_neg h]
theorem cols_eq (cols : List GColumn) (hl : cols.length < 9223372036854775807) (hc : ∀ c ∈ cols, c.Name.length < 9223372036854775807) : ∃ e, g_kinds_Columns cols = some e ∧ g_ref_ColumnsFault cols = some e := by
 unfold g_kinds_Columns g_ref_ColumnsFault
 rw [colStep cols hl hc]
 by_cases h : (cols.length : Int) > 5
 ·simp only [if_pos h]; exact ⟨_, rfl, rfl⟩
 ·simp only [if_neg h]
  have : ∃ r, loopO (g_ref_ColumnsFault_l0 cols) (0 : Int) = some r ∧ True := by
   refine loopO_times (step := g_ref_ColumnsFault_l0 cols) cols.length (fun k (_ : Unit) => (k : Int)) (fun _ _ => True) (fun _ => True) (fun k _ hk _ => ?_) (fun _ _ => ?_) (s := ()) trivial
   ·unfold g_ref_ColumnsFault_l0
    dsimp only
    have hn := hc (lrd cols k) (lrd_mem hk)
    rw [if_pos (natLt hk), if_pos (natIn hk), Int.toNat_natCast, isName_eq _ hn, Option.bind_some]
    split
    ·exact .inr ⟨_, rfl, trivial⟩
    ·rw [letO_eq]
     split
     ·exact .inr ⟨_, rfl, trivial⟩
     ·have hcl : (cut cols 0 (k : Int)).length ≤ cols.length := by rw [cut_len ⟨Int.le_refl _, by omega, by omega⟩]; omega
      obtain ⟨r, h4, _⟩ := columnAt_eq (cut cols 0 (k : Int)) (lrd cols k).Name (by omega)
      rw [if_pos (by omega), h4, Option.bind_some]
      split
      ·exact .inr ⟨_, rfl, trivial⟩
      ·exact .inl ⟨(), by rw [w64_succ (by omega)], trivial⟩
   ·unfold g_ref_ColumnsFault_l0
    dsimp only
    rw [if_neg natNlt]
    exact ⟨_, rfl, trivial⟩
  obtain ⟨r, hr, _⟩ := this
  rw [hr, Option.bind_some]
  cases r with
  | inl y => exact ⟨y, rfl, rfl⟩
  | inr y => exact ⟨0, rfl, rfl⟩
theorem colsOk {cols : List GColumn} (q : (okL 32 GColumn.ok) cols) : cols.length < 9223372036854775807 ∧ ∀ c ∈ cols, c.Name.length < 9223372036854775807 :=
 ⟨Nat.lt_of_le_of_lt (Nat.le_mul_of_pos_right _ (by decide)) (Nat.lt_of_le_of_lt q.1 (by decide)), fun c hc => Nat.lt_of_le_of_lt (q.2.2 c hc).1 (by decide)⟩
end Go.Proofs.YtpgimlllchibnaaDoor.VM

/- Words and rules that the proof uses. -/
namespace Go.Proofs.YtpgimlllchibnaaDoor.VM
open Go Go.RowKit
theorem rowStep (row : List GValue) (cols : List GColumn) (hlen : row.length = cols.length) (hr : ∀ v ∈ row, okI v.Int_) : g_kinds_fits_l0 row cols = g_ref_RowFault_l0 row cols := by
 funext t
 unfold g_kinds_fits_l0 g_ref_RowFault_l0
 dsimp only
 by_cases h : t < (row.length : Int)
 ·rw [if_pos h, if_pos h]
  by_cases h0 : 0 ≤ t ∧ t < (row.length : Int)
  ·obtain ⟨e, h1, h2, _⟩ := check_eq (lrd row t.toNat) (hr _ (lrd_mem (by omega)))
   have hc : 0 ≤ t ∧ t < (cols.length : Int) := by omega
   rw [if_pos h0, if_pos h0, h1, h2, Option.bind_some, Option.bind_some]
   by_cases he : e ≠ 0
   ·rw [if_pos he, if_pos he]; rfl
   ·rw [if_neg he, if_neg he]
    by_cases hk : (lrd row t.toNat).Kind = 0
    ·simp only [if_pos hc]
     rw [if_pos hk, if_pos hk, Option.bind_some]
     by_cases hn : (!((lrd cols t.toNat).Null)) = true
     ·rw [if_pos hn, if_pos hn]; rfl
     ·rw [if_neg hn, if_neg hn, if_neg (fun q => q hk), Option.bind_some, if_neg (by decide)]; rfl
    ·rw [if_neg hk, if_neg hk, if_pos hc, Option.bind_some, if_neg (show ¬ (false = true) by decide), if_pos hk, if_pos hc, Option.bind_some]
     by_cases hn : (lrd row t.toNat).Kind ≠ (lrd cols t.toNat).Kind
     ·rw [if_pos (decide_eq_true hn), if_pos hn]; rfl
     ·rw [if_neg (by rw [decide_eq_false hn]; decide), if_neg hn]; rfl
  ·rw [if_neg h0, if_neg h0]; rfl
 ·rw [if_neg h, if_neg h]
theorem row_eq (row : List GValue) (cols : List GColumn) (hl : cols.length < 9223372036854775807) (hc : ∀ c ∈ cols, c.Name.length < 9223372036854775807) (hr : ∀ v ∈ row, okI v.Int_) : ∃ e, g_kinds_Row row cols = some e ∧ g_ref_RowFault row cols = some e := by
 unfold g_kinds_Row g_kinds_fits g_ref_RowFault
 obtain ⟨e, h1, h2⟩ := cols_eq cols hl hc
 rw [h1, h2, Option.bind_some, Option.bind_some]
 by_cases he : e ≠ 0
 ·rw [if_pos he, if_pos he]; exact ⟨_, rfl, rfl⟩
 ·rw [if_neg he, if_neg he]
  by_cases hlen : (row.length : Int) ≠ (cols.length : Int)
  ·rw [if_pos hlen, if_pos hlen]; exact ⟨_, rfl, rfl⟩
  ·have hlen2 : row.length = cols.length := by omega
   rw [if_neg hlen, if_neg hlen, rowStep row cols hlen2 hr]
   have : ∃ r, loopO (g_ref_RowFault_l0 row cols) (0 : Int) = some r ∧ True := by
    refine loopO_times (step := g_ref_RowFault_l0 row cols) row.length (fun k (_ : Unit) => (k : Int)) (fun _ _ => True) (fun _ => True) (fun k _ hk _ => ?_) (fun _ _ => ?_) (s := ()) trivial
    ·unfold g_ref_RowFault_l0
     dsimp only
     obtain ⟨e, _, h2, _⟩ := check_eq (lrd row k) (hr _ (lrd_mem hk))
     rw [if_pos (natLt hk), if_pos (natIn hk), Int.toNat_natCast, h2, Option.bind_some]
     have hk2 : (0 : Int) ≤ (k : Int) ∧ (k : Int) < (cols.length : Int) := by omega
     rw [if_pos hk2, if_pos hk2]
     split
     ·exact .inr ⟨_, rfl, trivial⟩
     ·split
      ·split
       ·exact .inr ⟨_, rfl, trivial⟩
       ·exact .inl ⟨(), by rw [w64_succ (by omega)]; rfl, trivial⟩
      ·split
       ·exact .inr ⟨_, rfl, trivial⟩
       ·exact .inl ⟨(), by rw [w64_succ (by omega)]; rfl, trivial⟩
    ·unfold g_ref_RowFault_l0
     dsimp only
     rw [if_neg natNlt]
     exact ⟨_, rfl, trivial⟩
   obtain ⟨r, hr2, _⟩ := this
   rw [hr2, Option.bind_some]
   cases r with
   | inl y => exact ⟨y, rfl, rfl⟩
   | inr y => exact ⟨0, rfl, rfl⟩
end Go.Proofs.YtpgimlllchibnaaDoor.VM

/- Words and rules that the proof uses. -/
namespace Go.Proofs.YtpgimlllchibnaaDoor.VM
open Go Go.RowKit
theorem value_int {v : GValue} (h : g_value_Check v = some 0) (hk : v.Kind = 2) : v.Bits = 0 ∧ v.Text = [] := by
 unfold g_value_Check at h
 rw [hk, if_neg (by decide)] at h
 by_cases hl : (v.Text.length : Int) > 40
 ·rw [if_pos hl] at h; cases h
 ·rw [if_neg hl, letO_eq] at h
  by_cases hb : v.Bits = 0 ∧ v.Text = []
  ·exact hb
  ·rw [if_pos (by
    refine decide_eq_true (.inl ?_)
    by_cases h1 : v.Text = []
    ·exact .inr ⟨by decide, fun h2 => hb ⟨h2, h1⟩⟩
    ·exact .inl ⟨by decide, h1⟩)] at h
   cases h
theorem row_loop (row : List GValue) (cols : List GColumn) (hlen : row.length = cols.length) (hl : cols.length < 9223372036854775807) (hr : ∀ v ∈ row, okI v.Int_) : ∃ o, loopO (g_kinds_fits_l0 row cols) (0 : Int) = some o ∧ match o with | .inl y => y ≠ 0 | .inr _ => ∀ k, k < row.length → g_kinds_fits_l0 row cols (k : Int) = some (.inl (w64 ((k : Int) + 1))) := by
 refine loop_passes row.length (by omega) (fun k hk => ?_) ?_
 ·unfold g_kinds_fits_l0
  dsimp only
  obtain ⟨e, h1, _, _⟩ := check_eq (lrd row k) (hr _ (lrd_mem hk))
  have hk2 : (0 : Int) ≤ (k : Int) ∧ (k : Int) < (cols.length : Int) := by omega
  rw [if_pos (natLt hk), if_pos (natIn hk), Int.toNat_natCast, h1, Option.bind_some]
  by_cases he : e ≠ 0
  ·rw [if_pos he]; exact .inr ⟨e, he, rfl⟩
  ·rw [if_neg he]
   simp only [if_pos hk2]
   by_cases h0 : (lrd row k).Kind = 0
   ·rw [if_pos h0, Option.bind_some]
    by_cases hn : (!((lrd cols k).Null)) = true
    ·rw [if_pos hn]; exact .inr ⟨12, by decide, rfl⟩
    ·rw [if_neg hn, if_neg (fun q => q h0), Option.bind_some, if_neg (by decide)]; exact .inl rfl
   ·rw [if_neg h0, Option.bind_some, if_neg (show ¬ (false = true) by decide), if_pos h0, Option.bind_some]
    by_cases hn : (lrd row k).Kind ≠ (lrd cols k).Kind
    ·rw [if_pos (decide_eq_true hn)]; exact .inr ⟨2, by decide, rfl⟩
    ·rw [if_neg (by rw [decide_eq_false hn]; decide)]; exact .inl rfl
 ·unfold g_kinds_fits_l0
  dsimp only
  rw [if_neg natNlt]
theorem row_first {row : List GValue} {cols : List GColumn} (h : g_kinds_Row row cols = some 0) (hl : cols.length < 9223372036854775807) (hc : ∀ c ∈ cols, c.Name.length < 9223372036854775807) (hr : ∀ v ∈ row, okI v.Int_) (hpos : 0 < cols.length) (hk : (lrd cols 0).Kind = 2) (hn : (lrd cols 0).Null = false) :
  0 < row.length ∧ (lrd row 0).Kind = 2 ∧ (lrd row 0).Bits = 0 ∧ (lrd row 0).Text = [] := by
 unfold g_kinds_Row g_kinds_fits at h
 obtain ⟨e, h1, _⟩ := cols_eq cols hl hc
 rw [h1, Option.bind_some] at h
 by_cases he : e ≠ 0
 ·rw [if_pos he] at h
  exact absurd (Option.some.inj h) he
 ·rw [if_neg he] at h
  by_cases hlen : (row.length : Int) ≠ (cols.length : Int)
  ·rw [if_pos hlen] at h; cases h
  ·have hlen2 : row.length = cols.length := by omega
   rw [if_neg hlen] at h
   obtain ⟨o, h2, h3⟩ := row_loop row cols hlen2 hl hr
   rw [h2, Option.bind_some] at h
   cases o with
   | inl y => exact absurd (Option.some.inj h) h3
   | inr u =>
    have h4 := h3 0 (by omega)
    obtain ⟨e2, h5, _, _⟩ := check_eq (lrd row 0) (hr _ (lrd_mem (by omega)))
    unfold g_kinds_fits_l0 at h4
    dsimp only at h4
    have hk1 : (0 : Int) ≤ ((0 : Nat) : Int) ∧ ((0 : Nat) : Int) < (row.length : Int) := by omega
    have hk2 : (0 : Int) ≤ ((0 : Nat) : Int) ∧ ((0 : Nat) : Int) < (cols.length : Int) := by omega
    rw [if_pos hk1.2, if_pos hk1, Int.toNat_natCast, h5, Option.bind_some] at h4
    simp only [if_pos hk2] at h4
    by_cases he2 : e2 ≠ 0
    ·rw [if_pos he2] at h4; cases h4
    ·rw [if_neg he2] at h4
     have he3 : e2 = 0 := by omega
     subst he3
     by_cases h0 : (lrd row 0).Kind = 0
     ·rw [if_pos h0, hn, Option.bind_some, if_pos (by decide)] at h4; cases h4
     ·rw [if_neg h0, Option.bind_some, if_neg (show ¬ (false = true) by decide), if_pos h0, hk, Option.bind_some] at h4
      by_cases h6 : (lrd row 0).Kind ≠ 2
      ·rw [if_pos (decide_eq_true h6)] at h4; cases h4
      ·have h7 : (lrd row 0).Kind = 2 := by omega
       exact ⟨by omega, h7, value_int h5 h7⟩
def fullAt (d : Vector GCell 4) (i : Nat) : Bool := (vrd d i).Full
def intAt (d : Vector GCell 4) (i : Nat) : Int := (lrd (vrd d i).Row 0).Int_
def dupB (d : Vector GCell 4) (i : Nat) : Bool := (List.range i).any fun j => fullAt d i && (fullAt d j && decide (intAt d j = intAt d i))
def keysOk (d : Vector GCell 4) : Prop := ∀ i, i < 4 → fullAt d i = true → 0 < (vrd d i).Row.length ∧ (lrd (vrd d i).Row 0).Kind = 2 ∧ (lrd (vrd d i).Row 0).Bits = 0 ∧ (lrd (vrd d i).Row 0).Text = []
theorem lrd_range {n k : Nat} (h : k < n) : lrd (List.range n) k = k := by
 rw [lrd_at (by rw [List.length_range]; exact h), List.getElem_range]
theorem val_eq {a b : GValue} (h1 : a.Kind = 2 ∧ a.Bits = 0 ∧ a.Text = []) (h2 : b.Kind = 2 ∧ b.Bits = 0 ∧ b.Text = []) : (a = b) ↔ a.Int_ = b.Int_ := by
 obtain ⟨k, i, bb, t⟩ := a
 obtain ⟨k2, i2, bb2, t2⟩ := b
 dsimp only at *
 obtain ⟨rfl, rfl, rfl⟩ := h1
 obtain ⟨rfl, rfl, rfl⟩ := h2
 simp
theorem keys_eq {d : Vector GCell 4} (H : keysOk d) : g_table_keys d = some (if (List.range 4).any (dupB d) = true then 8 else 0) := by
 have hin : ∀ i : Nat, i < 4 → loopO (g_table_keys_l1 d (i : Int)) (0 : Int) = some (if dupB d i = true then .inl 8 else .inr ()) := by
  intro i hi
  refine any_loop (step := g_table_keys_l1 d (i : Int)) (List.range i) (fun j => fullAt d i && (fullAt d j && decide (intAt d j = intAt d i))) (.inl 8) (.inr ()) (by rw [List.length_range]; omega) (fun k hk => ?_) ?_
  ·rw [List.length_range] at hk
   rw [lrd_range hk]
   unfold g_table_keys_l1
   dsimp only
   rw [Int.toNat_natCast, if_pos (natLt hk), if_pos (natIn hk), Int.toNat_natCast]
   have hfi : (vrd d i).Full = fullAt d i := rfl
   have hfk : (vrd d k).Full = fullAt d k := rfl
   rw [hfi, hfk]
   by_cases h1 : fullAt d i = true
   ·rw [if_pos h1]
    by_cases h2 : fullAt d k = true
    ·obtain ⟨p1, p2⟩ := H i hi h1
     obtain ⟨p3, p4⟩ := H k (by omega) h2
     rw [if_pos h2, if_pos p3, if_pos p1, Option.bind_some, h1, h2, Bool.true_and, Bool.true_and]
     have e : decide ((lrd (vrd d k).Row 0) = (lrd (vrd d i).Row 0)) = decide (intAt d k = intAt d i) := decide_eq_decide.2 (val_eq p4 p2)
     rw [e]
     by_cases h3 : decide (intAt d k = intAt d i) = true
     ·rw [if_pos h3, if_pos h3]
     ·rw [if_neg h3, if_neg h3]
    ·rw [if_neg h2, Option.bind_some, h1, Bool.eq_false_iff.2 h2]
     rfl
   ·rw [if_neg h1, Option.bind_some, Bool.eq_false_iff.2 h1]
    rfl
  ·unfold g_table_keys_l1
   dsimp only
   rw [List.length_range, Int.toNat_natCast, if_neg natNlt]
 unfold g_table_keys
 have h := any_loop (step := g_table_keys_l0 d) (List.range 4) (dupB d) (.inl 8) (.inr ()) (by decide) (fun k hk => by
  rw [List.length_range] at hk
  rw [lrd_range hk]
  unfold g_table_keys_l0
  dsimp only
  rw [if_pos (by omega), if_pos (by omega), if_pos (by omega), hin k hk, Option.bind_some]
  by_cases h1 : dupB d k = true
  ·rw [if_pos h1, if_pos h1]
  ·rw [if_neg h1, if_neg h1]) (by
  unfold g_table_keys_l0
  dsimp only
  rw [if_neg (by decide)])
 rw [h, Option.bind_some]
 by_cases h1 : (List.range 4).any (dupB d) = true
 ·rw [if_pos h1, if_pos h1]
 ·rw [if_neg h1, if_neg h1]
def keyAt (d : Vector GCell 4) (i : Nat) : Option Int := if fullAt d i = true then some (intAt d i) else none
theorem keysFault_eq {d : Vector GCell 4} (H : keysOk d) : g_ref_keysFault d = some (if (List.range 4).any (dupB d) = true then 8 else 0) := by
 have hin : ∀ (i : Nat) (seen : List Int), i < 4 → fullAt d i = true → seen.length ≤ 4 → loopO (g_ref_keysFault_l1 d (i : Int) seen) (0 : Int) = some (if (seen.any fun x => decide (x = intAt d i)) = true then .inl 8 else .inr ()) := by
  intro i seen hi hf hs
  refine any_loop (step := g_ref_keysFault_l1 d (i : Int) seen) seen (fun x => decide (x = intAt d i)) (.inl 8) (.inr ()) (by omega) (fun k hk => ?_) ?_
  ·unfold g_ref_keysFault_l1
   dsimp only
   rw [if_pos (natLt hk), if_pos (natIn hk), Int.toNat_natCast, Int.toNat_natCast, if_pos (H i hi hf).1]
   by_cases h1 : lrd seen k = intAt d i
   ·rw [if_pos (decide_eq_true h1)]; exact if_pos h1
   ·rw [if_neg (show ¬ (decide (lrd seen k = intAt d i) = true) by rw [decide_eq_false h1]; decide)]; exact if_neg h1
  ·unfold g_ref_keysFault_l1
   dsimp only
   rw [if_neg natNlt]
 have hdup : ∀ i, fullAt d i = true → (((List.range i).filterMap (keyAt d)).any fun x => decide (x = intAt d i)) = dupB d i := by
  intro i hf
  unfold dupB
  rw [List.any_filterMap]
  congr 1
  funext j
  unfold keyAt
  by_cases h : fullAt d j = true
  ·rw [if_pos h, hf, h]; rfl
  ·rw [if_neg h, hf, Bool.eq_false_iff.2 h]; rfl
 have hlen : ∀ i, ((List.range i).filterMap (keyAt d)).length ≤ i := fun i => by
  have := List.length_filterMap_le (keyAt d) (List.range i)
  rwa [List.length_range] at this
 obtain ⟨r, h1, h2⟩ := loopO_times (step := g_ref_keysFault_l0 d) 4 (fun k (s : List Int) => ((k : Int), s)) (fun k s => s = (List.range k).filterMap (keyAt d) ∧ (List.range k).any (dupB d) = false) (fun r => r = if (List.range 4).any (dupB d) = true then .inl 8 else .inr ()) (fun k s hk hi => by
  obtain ⟨rfl, hno⟩ := hi
  have hl := hlen k
  unfold g_ref_keysFault_l0
  dsimp only
  rw [if_pos (by omega), if_pos (by omega)]
  have hfk : (vrd d k).Full = fullAt d k := rfl
  rw [Int.toNat_natCast, hfk]
  by_cases hf : fullAt d k = true
  ·rw [if_neg (by rw [hf]; decide), hin k _ hk hf (by omega), hdup k hf, Option.bind_some]
   by_cases hdk : dupB d k = true
   ·right
    refine ⟨.inl 8, by rw [if_pos hdk]; rfl, ?_⟩
    rw [if_pos (List.any_eq_true.2 ⟨k, List.mem_range.2 hk, hdk⟩)]
   ·left
    refine ⟨(List.range (k + 1)).filterMap (keyAt d), ?_, rfl, ?_⟩
    ·rw [if_neg hdk]
     dsimp only
     rw [if_pos (H k hk hf).1, if_pos (show room _ _ by simp only [room, List.length_cons, List.length_nil]; omega), Option.bind_some, w64_succ (by omega), List.range_succ, List.filterMap_append]
     have : keyAt d k = some (intAt d k) := if_pos hf
     rw [show List.filterMap (keyAt d) [k] = [intAt d k] by simp [this]]
     rfl
    ·rw [List.range_succ, List.any_append, hno]
     simp [Bool.eq_false_iff.2 hdk]
  ·left
   rw [if_pos (by rw [Bool.eq_false_iff.2 hf]; rfl), Option.bind_some]
   refine ⟨(List.range (k + 1)).filterMap (keyAt d), ?_, rfl, ?_⟩
   ·rw [w64_succ (by omega), List.range_succ, List.filterMap_append]
    have : keyAt d k = none := if_neg hf
    simp [this]
   ·rw [List.range_succ, List.any_append, hno]
    have : dupB d k = false := by
     unfold dupB
     rw [Bool.eq_false_iff.2 hf]
     simp
    simp [this]) (fun s hi => by
  obtain ⟨rfl, hno⟩ := hi
  refine ⟨.inr (), ?_, by rw [hno]; rfl⟩
  unfold g_ref_keysFault_l0
  dsimp only
  rw [if_neg (by decide)]) (s := []) ⟨rfl, rfl⟩
 have h1' : loopO (g_ref_keysFault_l0 d) ((0 : Int), ([] : List Int)) = some r := h1
 unfold g_ref_keysFault
 rw [h1', h2, Option.bind_some]
 by_cases h3 : (List.range 4).any (dupB d) = true
 ·rw [if_pos h3, if_pos h3]
 ·rw [if_neg h3, if_neg h3]
structure TabOk (t : GTable) : Prop where
 name : t.Name.length < 9223372036854775807
 cols : t.Cols.length < 9223372036854775807
 names : ∀ c ∈ t.Cols, c.Name.length < 9223372036854775807
 rows : ∀ i j, i < 2 → j < 4 → ∀ v ∈ (vrd (vrd t.Drawers i) j).Row, okI v.Int_
theorem vrd_mem {α : Type} [Inhabited α] {n : Nat} {v : Vector α n} {j : Nat} (h : j < n) : vrd v j ∈ v.toList := by
 rw [vrd_at h]
 simp
theorem tab_ok {t : GTable} (q : GTable.ok t) : TabOk t := by
 refine ⟨Nat.lt_of_le_of_lt q.2.1 (by decide), (colsOk q.2.2.1).1, (colsOk q.2.2.1).2, fun i j hi hj v hv => ?_⟩
 exact ((q.2.2.2 (vrd t.Drawers i) (vrd_mem hi) (vrd (vrd t.Drawers i) j) (vrd_mem hj)).2.2.2 v hv).2.1
theorem cells_eq {t : GTable} (ok : TabOk t) {i : Nat} (hi : i < 2) : g_table_Check_l1 t (i : Int) = g_ref_TableFault_l1 t (i : Int) := by
 funext k
 unfold g_table_Check_l1 g_ref_TableFault_l1
 dsimp only
 by_cases h : k < 4
 ·rw [if_pos h, if_pos h]
  by_cases h0 : 0 ≤ k ∧ k < 4
  ·rw [if_pos h0, if_pos h0, Int.toNat_natCast]
   obtain ⟨e, h1, h2⟩ := row_eq (vrd (vrd t.Drawers i) k.toNat).Row t.Cols ok.cols ok.names (ok.rows i k.toNat hi (by omega))
   rw [h1, h2]
   by_cases hf : (vrd (vrd t.Drawers i) k.toNat).Full = true
   ·rw [if_neg (show ¬ ((!(vrd (vrd t.Drawers i) k.toNat).Full) = true ∧ _) by rw [hf]; simp), if_neg (show ¬ ((!(vrd (vrd t.Drawers i) k.toNat).Full) = true) by rw [hf]; simp), if_pos hf]
    all_goals rfl
   ·rw [if_neg hf]
    by_cases hl : ((vrd (vrd t.Drawers i) k.toNat).Row.length : Int) > 0
    ·rw [if_pos (show (!(vrd (vrd t.Drawers i) k.toNat).Full) = true ∧ _ from ⟨by rw [Bool.eq_false_iff.2 hf]; rfl, hl⟩), if_pos (by omega)]
     all_goals rfl
    ·rw [if_neg (fun q => hl q.2), if_pos (show (!(vrd (vrd t.Drawers i) k.toNat).Full) = true by rw [Bool.eq_false_iff.2 hf]; rfl), if_neg (by omega)]
     all_goals rfl
  ·rw [if_neg h0, if_neg h0]
   all_goals rfl
 ·rw [if_neg h, if_neg h]
theorem cells_loop {t : GTable} (ok : TabOk t) (hpos : 0 < t.Cols.length) (hk : (lrd t.Cols 0).Kind = 2) (hn : (lrd t.Cols 0).Null = false) {i : Nat} (hi : i < 2) : ∃ o, loopO (g_table_Check_l1 t (i : Int)) (0 : Int) = some o ∧ match o with | .inl y => y ≠ 0 | .inr _ => keysOk (vrd t.Drawers i) := by
 obtain ⟨o, h1, h2⟩ := loop_passes (step := g_table_Check_l1 t (i : Int)) 4 (by decide) (fun k hk => by
  unfold g_table_Check_l1
  dsimp only
  rw [if_pos (by omega), if_pos (by omega), Int.toNat_natCast, Int.toNat_natCast]
  obtain ⟨e, h1, h2⟩ := row_eq (vrd (vrd t.Drawers i) k).Row t.Cols ok.cols ok.names (ok.rows i k hi hk)
  rw [h1]
  split
  ·exact .inr ⟨3, by decide, rfl⟩
  ·split
   ·exact .inl rfl
   ·rw [Option.bind_some]
    by_cases he : e ≠ 0
    ·rw [if_pos he]; exact .inr ⟨e, he, rfl⟩
    ·rw [if_neg he]; exact .inl rfl) (by
  unfold g_table_Check_l1
  dsimp only
  rw [if_neg (by decide)])
 refine ⟨o, h1, ?_⟩
 cases o with
 | inl y => exact h2
 | inr u =>
  intro k hk4 hf
  have h3 := h2 k hk4
  have hf2 : (vrd (vrd t.Drawers i) k).Full = true := hf
  unfold g_table_Check_l1 at h3
  dsimp only at h3
  obtain ⟨e, h4, _⟩ := row_eq (vrd (vrd t.Drawers i) k).Row t.Cols ok.cols ok.names (ok.rows i k hi hk4)
  rw [if_pos (by omega), if_pos (by omega), Int.toNat_natCast, Int.toNat_natCast, h4, if_neg (show ¬ ((!(vrd (vrd t.Drawers i) k).Full) = true ∧ _) by rw [hf2]; simp), if_neg (show ¬ ((!(vrd (vrd t.Drawers i) k).Full) = true) by rw [hf2]; simp), Option.bind_some] at h3
  by_cases he : e ≠ 0
  ·rw [if_pos he] at h3; cases h3
  ·have he0 : e = 0 := by omega
   rw [he0] at h4
   exact row_first h4 ok.cols ok.names (ok.rows i k hi hk4) hpos hk hn
theorem drawers_eq {t : GTable} (ok : TabOk t) (hpos : 0 < t.Cols.length) (hk : (lrd t.Cols 0).Kind = 2) (hn : (lrd t.Cols 0).Null = false) : g_table_Check_l0 t = g_ref_TableFault_l0 t := by
 funext k
 unfold g_table_Check_l0 g_ref_TableFault_l0
 dsimp only
 by_cases h : k < 2
 ·rw [if_pos h, if_pos h]
  by_cases h0 : 0 ≤ k ∧ k < 2
  ·rw [if_pos h0, if_pos h0]
   obtain ⟨i, rfl⟩ := Int.eq_ofNat_of_zero_le h0.1
   have hi : i < 2 := by omega
   obtain ⟨o, h1, h2⟩ := cells_loop ok hpos hk hn hi
   rw [← cells_eq ok hi, h1, Option.bind_some, Option.bind_some, Int.toNat_natCast]
   cases o with
   | inl y => rfl
   | inr u =>
    dsimp only at h2 ⊢
    rw [keys_eq h2, keysFault_eq h2]
  ·rw [if_neg h0, if_neg h0]
 ·rw [if_neg h, if_neg h]
theorem table_eq {t : GTable} (ok : TabOk t) : ∃ e, g_table_Check t = some e ∧ g_ref_TableFault t = some e ∧ (e = 0 → t.There = true ∧ 0 < t.Cols.length ∧ (lrd t.Cols 0).Kind = 2 ∧ (lrd t.Cols 0).Null = false ∧ ∀ i, i < 2 → keysOk (vrd t.Drawers i)) := by
 unfold g_table_Check g_ref_TableFault
 by_cases h1 : (!t.There) = true
 ·rw [if_pos h1, if_pos h1]; exact ⟨5, rfl, rfl, fun h => absurd h (by decide)⟩
 ·rw [if_neg h1, if_neg h1, name_eq _ ok.name, isName_eq _ ok.name, Option.bind_some, Option.bind_some]
  unfold wrong
  by_cases h2 : (t.Name.length : Int) > 8
  ·rw [if_pos h2, if_pos (show (1 : Int) ≠ 0 by decide), if_pos (.inr h2)]; exact ⟨3, rfl, rfl, fun h => absurd h (by decide)⟩
  ·rw [if_neg h2]
   by_cases h3 : isNm t.Name = true
   ·rw [if_pos h3, if_neg (show ¬ ((0 : Int) ≠ 0) by decide), if_neg (show ¬ ((!(isNm t.Name)) = true ∨ (t.Name.length : Int) > 8) by rw [h3]; intro hh; rcases hh with hh | hh; exact absurd hh (by decide); exact h2 hh)]
    obtain ⟨e, h4, h5⟩ := cols_eq t.Cols ok.cols ok.names
    rw [h4, h5, Option.bind_some, Option.bind_some]
    by_cases h6 : e ≠ 0
    ·rw [if_pos h6, if_pos h6]; exact ⟨e, rfl, rfl, fun h => absurd h h6⟩
    ·rw [if_neg h6, if_neg h6]
     have hg : ∃ g : Bool, ((if (t.Cols.length : Int) = (0 : Int) then some true else if 0 < t.Cols.length then (if (lrd t.Cols 0).Kind ≠ (2 : Int) then some true else if 0 < t.Cols.length then some ((lrd t.Cols 0).Null) else none) else none)) = some g ∧ (g = false → 0 < t.Cols.length ∧ (lrd t.Cols 0).Kind = 2 ∧ (lrd t.Cols 0).Null = false) := by
      by_cases h7 : (t.Cols.length : Int) = 0
      ·rw [if_pos h7]; exact ⟨true, rfl, fun h => by cases h⟩
      ·have hp : 0 < t.Cols.length := by omega
       rw [if_neg h7, if_pos hp]
       by_cases h8 : (lrd t.Cols 0).Kind ≠ 2
       ·rw [if_pos h8]; exact ⟨true, rfl, fun h => by cases h⟩
       ·rw [if_neg h8, if_pos hp]; exact ⟨_, rfl, fun h => ⟨hp, by omega, h⟩⟩
     obtain ⟨g, h7, h8⟩ := hg
     rw [h7, Option.bind_some, Option.bind_some]
     cases g with
     | true => rw [if_pos rfl, if_pos rfl]; exact ⟨3, rfl, rfl, fun h => absurd h (by decide)⟩
     | false =>
      obtain ⟨hpos, hk, hn⟩ := h8 rfl
      rw [if_neg (by decide), if_neg (by decide), ← drawers_eq ok hpos hk hn]
      obtain ⟨o, h9, h10⟩ := loop_passes (step := g_table_Check_l0 t) 2 (by decide) (fun k hk2 => by
       unfold g_table_Check_l0
       dsimp only
       obtain ⟨o, h11, h12⟩ := cells_loop ok hpos hk hn hk2
       rw [if_pos (by omega), if_pos (by omega), h11, Option.bind_some, Int.toNat_natCast]
       cases o with
       | inl y => exact .inr ⟨y, h12, rfl⟩
       | inr u =>
        dsimp only at h12 ⊢
        rw [keys_eq h12, Option.bind_some]
        by_cases h13 : (List.range 4).any (dupB (vrd t.Drawers k)) = true
        ·rw [if_pos h13]; exact .inr ⟨8, by decide, rfl⟩
        ·rw [if_neg h13]; exact .inl rfl) (by
       unfold g_table_Check_l0
       dsimp only
       rw [if_neg (by decide)])
      rw [h9, Option.bind_some]
      cases o with
      | inl y => exact ⟨y, rfl, rfl, fun h => absurd h h10⟩
      | inr u =>
       refine ⟨0, rfl, rfl, fun _ => ⟨by simpa using h1, hpos, hk, hn, fun i hi => ?_⟩⟩
       have h11 := h10 i hi
       obtain ⟨o, h12, h13⟩ := cells_loop ok hpos hk hn hi
       unfold g_table_Check_l0 at h11
       dsimp only at h11
       rw [if_pos (by omega), if_pos (by omega), h12, Option.bind_some] at h11
       cases o with
       | inl y => cases h11
       | inr u => exact h13
   ·rw [if_neg h3, if_pos (show (3 : Int) ≠ 0 by decide), if_pos (.inl (by rw [Bool.eq_false_iff.2 h3]; rfl))]; exact ⟨3, rfl, rfl, fun h => absurd h (by decide)⟩
end Go.Proofs.YtpgimlllchibnaaDoor.VM

/- Words and rules that the proof uses. -/
namespace Go.Proofs.YtpgimlllchibnaaDoor.VM
open Go Go.RowKit
def own (o : Int) : Int := o.tdiv 4
theorem own_w {o : Int} (h : 0 ≤ o ∧ o < 12) : w64 (o.tdiv 4) = own o := w64_id (by
 have h1 : o.tdiv 4 = o / 4 := Int.tdiv_eq_ediv_of_nonneg h.1
 omega)
theorem own_range {o : Int} (h : 0 ≤ o ∧ o < 12) : 0 ≤ own o ∧ own o < 3 := by
 have h1 : o.tdiv 4 = o / 4 := Int.tdiv_eq_ediv_of_nonneg h.1
 unfold own
 omega
structure InB (g : GGrant) : Prop where
 f0 : 0 ≤ g.From
 f1 : g.From < 3
 t0 : 0 ≤ g.To
 t1 : g.To < 3
 o0 : 0 ≤ g.Object
 o1 : g.Object < 12
 r : g.Right = 1 ∨ g.Right = 2
 ft : g.From ≠ g.To
 ot : g.To ≠ own g.Object
open Classical in
noncomputable def bndG (g : GGrant) : Int :=
 if ¬ (0 ≤ g.From ∧ g.From < 3 ∧ 0 ≤ g.To ∧ g.To < 3 ∧ 0 ≤ g.Object ∧ g.Object < 12) then 6 else if g.Right ≠ 1 ∧ g.Right ≠ 2 then 2 else if g.From = g.To ∨ g.To = own g.Object then 3 else 0
theorem bndG_zero {g : GGrant} : bndG g = 0 ↔ InB g := by
 unfold bndG
 constructor
 ·intro h
  split at h
  ·cases h
  ·rename_i h1
   split at h
   ·cases h
   ·rename_i h2
    split at h
    ·cases h
    ·rename_i h3
     have h1 := Classical.not_not.1 h1
     exact ⟨h1.1, h1.2.1, h1.2.2.1, h1.2.2.2.1, h1.2.2.2.2.1, h1.2.2.2.2.2, by omega, by omega, by omega⟩
 ·intro h
  rw [if_neg (Classical.not_not.2 ⟨h.f0, h.f1, h.t0, h.t1, h.o0, h.o1⟩), if_neg (by have := h.r; omega), if_neg (by have := h.ft; have := h.ot; omega)]
theorem bounds_eq (g : GGrant) : g_right_bounds g = some (bndG g) := by
 unfold g_right_bounds bndG g_right_owner
 by_cases h : 0 ≤ g.From ∧ g.From < 3 ∧ 0 ≤ g.To ∧ g.To < 3 ∧ 0 ≤ g.Object ∧ g.Object < 12
 ·rw [if_neg (by omega), if_neg (Classical.not_not.2 h), own_w ⟨h.2.2.2.2.1, h.2.2.2.2.2⟩]
  by_cases h1 : g.Right ≠ 1 ∧ g.Right ≠ 2
  ·rw [if_pos h1, if_pos h1]
  ·rw [if_neg h1, if_neg h1]
   by_cases h2 : g.From = g.To
   ·rw [if_pos h2, if_pos (.inl h2)]; rfl
   ·by_cases h3 : g.To = own g.Object
    ·simp [h2, h3]
    ·simp [h2, h3]
 ·rw [if_pos (by omega), if_pos h]
theorem rbounds_eq (g : GGrant) : g_ref_grantBounds g = some (bndG g) := by
 unfold g_ref_grantBounds bndG g_ref_Owner g_ref_grantBounds_1
 simp only [Option.bind_some]
 by_cases h : 0 ≤ g.From ∧ g.From < 3 ∧ 0 ≤ g.To ∧ g.To < 3 ∧ 0 ≤ g.Object ∧ g.Object < 12
 ·have e1 : decide (g.From ≥ 0 ∧ g.From < 3) = true := decide_eq_true (by omega)
  have e2 : decide (g.To ≥ 0 ∧ g.To < 3) = true := decide_eq_true (by omega)
  have e3 : decide (g.Object ≥ 0 ∧ g.Object < 12) = true := decide_eq_true (by omega)
  rw [e1, e2, e3, if_neg (Classical.not_not.2 h), own_w ⟨h.2.2.2.2.1, h.2.2.2.2.2⟩]
  simp only [Bool.not_true, Bool.false_eq_true, if_false, Option.bind_some]
  by_cases h1 : g.Right ≠ 1 ∧ g.Right ≠ 2
  ·rw [if_pos h1, if_pos h1]
  ·rw [if_neg h1, if_neg h1]
   by_cases h2 : g.From = g.To
   ·rw [if_pos h2, if_pos (.inl h2)]; rfl
   ·by_cases h3 : g.To = own g.Object
    ·simp [h2, h3]
    ·simp [h2, h3]
 ·rw [if_pos h]
  by_cases a1 : g.From ≥ 0 ∧ g.From < 3
  ·by_cases a2 : g.To ≥ 0 ∧ g.To < 3
   ·have a3 : ¬ (g.Object ≥ 0 ∧ g.Object < 12) := by omega
    rw [decide_eq_true a1, decide_eq_true a2, decide_eq_false a3]; rfl
   ·rw [decide_eq_true a1, decide_eq_false a2]; rfl
  ·rw [decide_eq_false a1]; rfl
def rk (g : GGrant) : Int := ((g.Object * 3 + g.Right) * 3 + g.From) * 3 + g.To
theorem rk_eq {g : GGrant} (h : InB g) : g_ref_rank g = some (rk g) := by
 have h1 := h.f0; have h2 := h.f1; have h3 := h.t0; have h4 := h.t1; have h5 := h.o0; have h6 := h.o1; have h7 := h.r
 unfold g_ref_rank rk
 rw [letO_eq, w64_id (by omega : -9223372036854775808 ≤ g.Object * 3 ∧ g.Object * 3 ≤ 9223372036854775807),
  w64_id (by omega : -9223372036854775808 ≤ g.Object * 3 + g.Right ∧ g.Object * 3 + g.Right ≤ 9223372036854775807),
  w64_id (by omega : -9223372036854775808 ≤ (g.Object * 3 + g.Right) * 3 ∧ (g.Object * 3 + g.Right) * 3 ≤ 9223372036854775807),
  w64_id (by omega : -9223372036854775808 ≤ (g.Object * 3 + g.Right) * 3 + g.From ∧ (g.Object * 3 + g.Right) * 3 + g.From ≤ 9223372036854775807),
  w64_id (by omega : -9223372036854775808 ≤ ((g.Object * 3 + g.Right) * 3 + g.From) * 3 ∧ ((g.Object * 3 + g.Right) * 3 + g.From) * 3 ≤ 9223372036854775807),
  w64_id (by omega)]
theorem rk_pos {g : GGrant} (h : InB g) : 0 ≤ rk g := by
 have h1 := h.f0; have h3 := h.t0; have h5 := h.o0; have h7 := h.r
 unfold rk; omega
def plc (g : GGrant) : Gright_place := ⟨g.Object, g.Right, g.From, g.To⟩
theorem plc_eq (g : GGrant) : g_right_placed g = some (plc g) := rfl
theorem before_eq {g h : GGrant} (hg : InB g) (hh : InB h) : g_right_place_before (plc g) (plc h) = some (decide (rk g < rk h)) := by
 have a1 := hg.f0; have a2 := hg.f1; have a3 := hg.t0; have a4 := hg.t1; have a7 := hg.r
 have b1 := hh.f0; have b2 := hh.f1; have b3 := hh.t0; have b4 := hh.t1; have b7 := hh.r
 unfold g_right_place_before plc rk
 simp only
 by_cases h1 : g.Object ≠ h.Object
 ·rw [if_pos h1]
  congr 2
  exact propext ⟨fun q => by omega, fun q => by omega⟩
 ·rw [if_neg h1]
  by_cases h2 : g.Right ≠ h.Right
  ·rw [if_pos h2]
   congr 2
   exact propext ⟨fun q => by omega, fun q => by omega⟩
  ·rw [if_neg h2]
   by_cases h3 : g.From ≠ h.From
   ·rw [if_pos h3]
    congr 2
    exact propext ⟨fun q => by omega, fun q => by omega⟩
   ·rw [if_neg h3]
    congr 2
    exact propext ⟨fun q => by omega, fun q => by omega⟩
inductive Rc (l : List GGrant) (o r : Int) : Int → Prop where
 | base : Rc l o r (own o)
 | step (g : GGrant) (hg : g ∈ l) (ho : g.Option_ = true) (h1 : g.Object = o) (h2 : g.Right = r) (h : Rc l o r g.From) : Rc l o r g.To
def pass1 (o r : Int) (v : Vector Bool 3) (g : GGrant) : Vector Bool 3 :=
 if g.Option_ = true ∧ g.Object = o ∧ g.Right = r ∧ vrd v g.From.toNat = true then vwr v g.To.toNat true else v
theorem pass_loop {l : List GGrant} (hl : l.length ≤ 96) (hb : ∀ g ∈ l, InB g) (o r : Int) (v : Vector Bool 3) : loopO (g_ref_Reached_l1 l o r) ((0 : Int), v) = some (l.foldl (pass1 o r) v) := by
 refine loopO_fold l (fun k v => ((k : Int), v)) (pass1 o r) id (fun _ _ => True) (fun k v hk _ => ⟨?_, trivial⟩) (fun v _ => ?_) trivial
 ·have hg := hb _ (lrd_mem hk)
  unfold g_ref_Reached_l1
  simp only
  rw [if_pos (natLt hk), if_pos (natIn hk), w64_succ (by omega), Int.toNat_natCast]
  generalize lrd l k = g at hg
  have a1 := hg.f0; have a2 := hg.f1; have a3 := hg.t0; have a4 := hg.t1
  by_cases h1 : g.Option_ = true
  ·by_cases h2 : g.Object = o
   ·by_cases h3 : g.Right = r
    ·rw [if_pos h1, if_pos h2, if_pos h3, if_pos ⟨a1, a2⟩]
     by_cases h4 : vrd v g.From.toNat = true
     ·rw [Option.bind_some, if_pos h4, if_pos ⟨a3, a4⟩, show pass1 o r v g = _ from if_pos ⟨h1, h2, h3, h4⟩]; rfl
     ·rw [Option.bind_some, if_neg h4, show pass1 o r v g = _ from if_neg (fun q => h4 q.2.2.2)]; rfl
    ·rw [if_pos h1, if_pos h2, if_neg h3, show pass1 o r v g = _ from if_neg (fun q => h3 q.2.2.1)]; rfl
   ·rw [if_pos h1, if_neg h2, show pass1 o r v g = _ from if_neg (fun q => h2 q.2.1)]; rfl
  ·rw [if_neg h1, show pass1 o r v g = _ from if_neg (fun q => h1 q.1)]; rfl
 ·unfold g_ref_Reached_l1
  simp only
  rw [if_neg natNlt]
  rfl
theorem reached_eq0 {l : List GGrant} (hl : l.length ≤ 96) (hb : ∀ g ∈ l, InB g) {u o r : Int} (hu : 0 ≤ u ∧ u < 3) (ho : 0 ≤ o ∧ o < 12) : g_ref_Reached l u o r =
  some (vrd (l.foldl (pass1 o r) (l.foldl (pass1 o r) (l.foldl (pass1 o r) (vwr (Vector.replicate 3 false) (own o).toNat true)))) u.toNat) := by
 unfold g_ref_Reached g_ref_Owner
 rw [own_w ho, Option.bind_some, if_pos (own_range ho)]
 have s : ∀ (k : Int) v, k < 3 → g_ref_Reached_l0 l o r (k, v) = some (.inl (w64 (k + 1), l.foldl (pass1 o r) v)) := by
  intro k v hk
  unfold g_ref_Reached_l0
  simp only
  rw [if_pos hk, pass_loop hl hb]
  rfl
 rw [loopO_next (s 0 _ (by decide)), show w64 ((0 : Int) + 1) = 1 from rfl, loopO_next (s 1 _ (by decide)), show w64 ((1 : Int) + 1) = 2 from rfl, loopO_next (s 2 _ (by decide)), show w64 ((2 : Int) + 1) = 3 from rfl]
 rw [loopO_done (r := l.foldl (pass1 o r) (l.foldl (pass1 o r) (l.foldl (pass1 o r) (vwr (Vector.replicate 3 false) (own o).toNat true)))) (by
  unfold g_ref_Reached_l0
  simp only
  rw [if_neg (by decide)])]
 rw [Option.bind_some, if_pos hu]
def LeV (v w : Vector Bool 3) : Prop := ∀ j, j < 3 → vrd v j = true → vrd w j = true
theorem pass1_le (o r : Int) (v : Vector Bool 3) (g : GGrant) : LeV v (pass1 o r v g) := by
 intro j hj hv
 unfold pass1
 split
 ·by_cases h : j = g.To.toNat
  ·rw [h, vrd_vwr_eq (by omega)]
  ·rw [vrd_vwr_ne hj h]; exact hv
 ·exact hv
theorem pass_le (o r : Int) : ∀ (l : List GGrant) (v : Vector Bool 3), LeV v (l.foldl (pass1 o r) v)
 | [], _ => fun _ _ h => h
 | g :: l, v => fun j hj h => pass_le o r l _ j hj (pass1_le o r v g j hj h)
def ClosedV (l : List GGrant) (o r : Int) (v : Vector Bool 3) : Prop := ∀ g ∈ l, g.Option_ = true → g.Object = o → g.Right = r → vrd v g.From.toNat = true → vrd v g.To.toNat = true
theorem vwr_same {v : Vector Bool 3} {j : Nat} (hj : j < 3) (h : vrd v j = true) : vwr v j true = v := by
 refine vec_eq_of fun i hi => ?_
 by_cases hij : i = j
 ·subst hij; rw [vrd_vwr_eq hj, h]
 ·rw [vrd_vwr_ne hi hij]
theorem pass_closed {l : List GGrant} (hb : ∀ g ∈ l, InB g) {o r : Int} {v : Vector Bool 3} (h : ClosedV l o r v) : l.foldl (pass1 o r) v = v := by
 induction l with
 | nil => rfl
 | cons g l ih =>
  rw [List.foldl_cons]
  have : pass1 o r v g = v := by
   unfold pass1
   split
   ·rename_i hc
    have hg := hb g List.mem_cons_self
    exact vwr_same (by have := hg.t0; have := hg.t1; omega) (h g List.mem_cons_self hc.1 hc.2.1 hc.2.2.1 hc.2.2.2)
   ·rfl
  rw [this]
  exact ih (fun x hx => hb x (List.mem_cons_of_mem _ hx)) fun x hx => h x (List.mem_cons_of_mem _ hx)
theorem LeV.antisymm {v w : Vector Bool 3} (h1 : LeV v w) (h2 : LeV w v) : v = w := by
 refine vec_eq_of fun j hj => ?_
 have a := h1 j hj
 have b := h2 j hj
 cases hv : vrd v j <;> cases hw : vrd w j <;> simp_all
theorem closed_of_pass {l : List GGrant} (hb : ∀ g ∈ l, InB g) {o r : Int} {v : Vector Bool 3} (h : l.foldl (pass1 o r) v = v) : ClosedV l o r v := by
 induction l generalizing v with
 | nil => intro g hg; cases hg
 | cons g l ih =>
  rw [List.foldl_cons] at h
  have h1 : pass1 o r v g = v := LeV.antisymm (by have := pass_le o r l (pass1 o r v g); rw [h] at this; exact this) (pass1_le o r v g)
  rw [h1] at h
  have hl := ih (fun x hx => hb x (List.mem_cons_of_mem _ hx)) h
  intro x hx ho h2 h3 h4
  rcases List.mem_cons.1 hx with rfl | hx
  ·have hg := hb x List.mem_cons_self
   unfold pass1 at h1
   rw [if_pos ⟨ho, h2, h3, h4⟩] at h1
   rw [← h1]
   exact vrd_vwr_eq (by have := hg.t0; have := hg.t1; omega)
  ·exact hl x hx ho h2 h3 h4
def cntV (v : Vector Bool 3) : Nat := (if vrd v 0 = true then 1 else 0) + (if vrd v 1 = true then 1 else 0) + (if vrd v 2 = true then 1 else 0)
theorem cnt_lt {v w : Vector Bool 3} (h : LeV v w) (hn : v ≠ w) : cntV v < cntV w := by
 have h0 := h 0 (by decide); have h1 := h 1 (by decide); have h2 := h 2 (by decide)
 have hd : ¬ (vrd v 0 = vrd w 0 ∧ vrd v 1 = vrd w 1 ∧ vrd v 2 = vrd w 2) := by
  rintro ⟨a, b, c⟩
  refine hn (vec_eq_of fun j hj => ?_)
  match j, hj with
  | 0, _ => exact a
  | 1, _ => exact b
  | 2, _ => exact c
 unfold cntV
 revert h0 h1 h2 hd
 generalize vrd v 0 = a0
 generalize vrd v 1 = a1
 generalize vrd v 2 = a2
 generalize vrd w 0 = b0
 generalize vrd w 1 = b1
 generalize vrd w 2 = b2
 revert a0 a1 a2 b0 b1 b2
 decide
theorem cnt_all {v : Vector Bool 3} (h : 3 ≤ cntV v) {j : Nat} (hj : j < 3) : vrd v j = true := by
 unfold cntV at h
 have key : vrd v 0 = true ∧ vrd v 1 = true ∧ vrd v 2 = true := by
  revert h
  generalize vrd v 0 = a0
  generalize vrd v 1 = a1
  generalize vrd v 2 = a2
  revert a0 a1 a2
  decide
 match j, hj with
 | 0, _ => exact key.1
 | 1, _ => exact key.2.1
 | 2, _ => exact key.2.2
def passF (l : List GGrant) (o r : Int) (v : Vector Bool 3) : Vector Bool 3 := l.foldl (pass1 o r) v
theorem three_closed {l : List GGrant} (hb : ∀ g ∈ l, InB g) {o r : Int} {v : Vector Bool 3} (h1 : 1 ≤ cntV v) : ClosedV l o r (l.foldl (pass1 o r) (l.foldl (pass1 o r) (l.foldl (pass1 o r) v))) := by
 show ClosedV l o r (passF l o r (passF l o r (passF l o r v)))
 have stay : ∀ w, ClosedV l o r w → passF l o r w = w := fun w h => pass_closed hb h
 have le : ∀ w, LeV w (passF l o r w) := fun w => pass_le o r l w
 have cl : ∀ w, passF l o r w = w → ClosedV l o r w := fun w h => closed_of_pass hb h
 generalize passF l o r = F at *
 have grow : ∀ w, ClosedV l o r w ∨ cntV w < cntV (F w) := by
  intro w
  by_cases h : F w = w
  ·exact .inl (cl w h)
  ·exact .inr (cnt_lt (le w) (Ne.symm h))
 rcases grow v with h | h
 ·rw [stay _ h, stay _ h, stay _ h]; exact h
 ·rcases grow (F v) with h2 | h2
  ·rw [stay _ h2, stay _ h2]; exact h2
  ·have hall : ∀ j, j < 3 → vrd (F (F v)) j = true := fun j hj => cnt_all (by omega) hj
   have hc : ClosedV l o r (F (F v)) := fun g hg _ _ _ _ => hall _ (by have := (hb g hg).t0; have := (hb g hg).t1; omega)
   rw [stay _ hc]; exact hc
theorem start_cnt {o : Int} (ho : 0 ≤ o ∧ o < 12) : 1 ≤ cntV (vwr (Vector.replicate 3 false) (own o).toNat true) := by
 have h := own_range ho
 obtain ⟨j, hj, e⟩ : ∃ j : Nat, j < 3 ∧ (own o).toNat = j := ⟨(own o).toNat, by omega, rfl⟩
 rw [e]
 match j, hj with
 | 0, _ => decide
 | 1, _ => decide
 | 2, _ => decide
def SoundV (l : List GGrant) (o r : Int) (v : Vector Bool 3) : Prop := ∀ u : Int, 0 ≤ u → u < 3 → vrd v u.toNat = true → Rc l o r u
theorem pass_sound {L : List GGrant} (hb : ∀ g ∈ L, InB g) {o r : Int} : ∀ (l : List GGrant) (v : Vector Bool 3), (∀ g ∈ l, g ∈ L) → SoundV L o r v → SoundV L o r (l.foldl (pass1 o r) v)
 | [], _, _, h => h
 | g :: l, v, hm, h => by
  rw [List.foldl_cons]
  refine pass_sound hb l _ (fun x hx => hm x (List.mem_cons_of_mem _ hx)) fun u hu1 hu2 hv => ?_
  have hg := hb g (hm g List.mem_cons_self)
  have a1 := hg.f0; have a2 := hg.f1; have a3 := hg.t0; have a4 := hg.t1
  unfold pass1 at hv
  split at hv
  ·rename_i hc
   by_cases hut : u = g.To
   ·rw [hut]
    exact .step g (hm g List.mem_cons_self) hc.1 hc.2.1 hc.2.2.1 (h _ a1 a2 hc.2.2.2)
   ·rw [vrd_vwr_ne (by omega) (by omega)] at hv
    exact h u hu1 hu2 hv
  ·exact h u hu1 hu2 hv
open Classical in
theorem reached_eq {l : List GGrant} (hl : l.length ≤ 96) (hb : ∀ g ∈ l, InB g) {u o r : Int} (hu : 0 ≤ u ∧ u < 3) (ho : 0 ≤ o ∧ o < 12) : g_ref_Reached l u o r = some (decide (Rc l o r u)) := by
 rw [reached_eq0 hl hb hu ho]
 congr 1
 have hor := own_range ho
 have hs0 : SoundV l o r (vwr (Vector.replicate 3 false) (own o).toNat true) := by
  intro x h1 h2 hx
  by_cases hxo : x = own o
  ·rw [hxo]; exact .base
  ·rw [vrd_vwr_ne (by omega) (by omega), vrd_at (by omega)] at hx
   simp at hx
 have hle0 := pass_le o r l (vwr (Vector.replicate 3 false) (own o).toNat true)
 have hs1 := pass_sound hb l _ (fun _ h => h) hs0
 have hle1 := pass_le o r l (l.foldl (pass1 o r) (vwr (Vector.replicate 3 false) (own o).toNat true))
 have hs2 := pass_sound hb l _ (fun _ h => h) hs1
 have hle2 := pass_le o r l (l.foldl (pass1 o r) (l.foldl (pass1 o r) (vwr (Vector.replicate 3 false) (own o).toNat true)))
 have hs3 := pass_sound hb l _ (fun _ h => h) hs2
 have hc := three_closed hb (o := o) (r := r) (start_cnt ho)
 generalize hw : l.foldl (pass1 o r) (l.foldl (pass1 o r) (l.foldl (pass1 o r) (vwr (Vector.replicate 3 false) (own o).toNat true))) = w at *
 have hbase : vrd w (own o).toNat = true := hle2 _ (by omega) (hle1 _ (by omega) (hle0 _ (by omega) (vrd_vwr_eq (by omega))))
 have hcomp : ∀ x, Rc l o r x → vrd w x.toNat = true := by
  intro x hx
  induction hx with
  | base => exact hbase
  | step g hg ho h1 h2 _ ih => exact hc g hg ho h1 h2 ih
 cases hv : vrd w u.toNat with
 | true => exact (decide_eq_true (hs3 u hu.1 hu.2 hv)).symm
 | false => exact (decide_eq_false fun h => by rw [hcomp u h] at hv; cases hv).symm
open Classical in
noncomputable def stand (l : List GGrant) : List GGrant := l.filter fun g => decide (Rc l g.Object g.Right g.From)
theorem filter_fold {α : Type} (p : α → Bool) : ∀ (l out : List α), l.foldl (fun out x => if p x = true then out ++ [x] else out) out = out ++ l.filter p
 | [], out => by simp
 | x :: l, out => by
  rw [List.foldl_cons, filter_fold p l]
  by_cases h : p x = true
  ·simp [h]
  ·simp [h]
open Classical in
theorem stands_eq {l : List GGrant} (hl : l.length ≤ 96) (hb : ∀ g ∈ l, InB g) : g_ref_Stands l = some (stand l) := by
 unfold g_ref_Stands
 have h := loopO_fold (step := g_ref_Stands_l0 l) l (fun k out => ((k : Int), out)) (fun out g => if decide (Rc l g.Object g.Right g.From) = true then out ++ [g] else out) id (fun k out => out.length ≤ k) (fun k out hk hi => ?_) (fun out _ => ?_) (s := []) (Nat.zero_le _)
 ·rw [show (((0 : Nat) : Int), ([] : List GGrant)) = ((0 : Int), []) from rfl] at h
  rw [h, filter_fold]
  rfl
 ·have hg := hb _ (lrd_mem hk)
  unfold g_ref_Stands_l0
  try simp only
  rw [if_pos (natLt hk), if_pos (natIn hk), w64_succ (by omega), Int.toNat_natCast]
  generalize lrd l k = g at hg
  rw [reached_eq hl hb ⟨hg.f0, hg.f1⟩ ⟨hg.o0, hg.o1⟩, Option.bind_some]
  by_cases h : decide (Rc l g.Object g.Right g.From) = true
  ·rw [if_pos h, if_pos h, if_pos (show room _ _ by simp only [room, List.length_cons, List.length_nil]; omega)]
   exact ⟨rfl, by simp only [List.length_append, List.length_cons, List.length_nil]; omega⟩
  ·rw [if_neg h, if_neg h]
   exact ⟨rfl, by omega⟩
 ·unfold g_ref_Stands_l0
  try simp only
  rw [if_neg natNlt]
  rfl
structure Marks (l : List GGrant) (a : List Int) : Prop where
 len : a.length = l.length
 sound : ∀ i, i < l.length → lrd a i = 1 → Rc l (lrd l i).Object (lrd l i).Right (lrd l i).From
def Backed (l : List GGrant) (a : List Int) (i j : Nat) : Prop := lrd a j = 1 ∧ (lrd l j).Option_ = true ∧ (lrd l j).To = (lrd l i).From ∧ (lrd l j).Object = (lrd l i).Object ∧ (lrd l j).Right = (lrd l i).Right
def zeros (a : List Int) : Nat := (a.filter fun x => decide (x ≠ 1)).length
theorem zeros_set : ∀ (a : List Int) (i : Nat), i < a.length → lrd a i ≠ 1 → zeros (a.set i 1) < zeros a
 | [], i, h, _ => by simp at h
 | x :: a, 0, _, h => by
  have : x ≠ 1 := h
  simp [zeros, this]
 | x :: a, i + 1, h, hx => by
  have := zeros_set a i (by simpa using h) hx
  unfold zeros at this ⊢
  simp only [List.set_cons_succ, List.filter_cons]
  split <;> (try simp only [List.length_cons]) <;> omega
theorem Marks.set {l : List GGrant} {a : List Int} (m : Marks l a) {i : Nat} (hi : i < l.length) (h : Rc l (lrd l i).Object (lrd l i).Right (lrd l i).From) : Marks l (a.set i 1) := by
 refine ⟨by rw [List.length_set]; exact m.len, fun j hj hx => ?_⟩
 rw [lrd_set (by rw [m.len]; exact hj)] at hx
 split at hx
 ·rename_i hij; rw [← hij]; exact h
 ·exact m.sound j hj hx
theorem held_l2 {l : List GGrant} (hl : l.length ≤ 96) {a : List Int} (m : Marks l a) {i : Nat} (hi : i < l.length) (hn : lrd a i ≠ 1) :
  ∃ r, loopO (g_right_held_l2 l a (i : Int)) (0 : Int) = some r ∧ ((r = .inl (a.set i 1) ∧ ∃ j, j < l.length ∧ Backed l a i j) ∨ (r = .inr () ∧ ∀ j, j < l.length → ¬ Backed l a i j)) := by
 refine loopO_times (step := g_right_held_l2 l a (i : Int)) (σ := Unit) l.length (fun k _ => (k : Int)) (fun k _ => ∀ j, j < k → ¬ Backed l a i j) _ (fun k u hk h => ?_) (fun u h => ?_) (s := ()) (fun j hj => absurd hj (Nat.not_lt_zero j))
 ·unfold g_right_held_l2
  try simp only
  rw [if_pos (natLt hk), if_pos (natIn hk), if_pos (natIn (by rw [m.len]; exact hk)), w64_succ (by omega), letO_eq]
  simp only [Int.toNat_natCast]
  by_cases hB : Backed l a i k
  ·rw [if_pos (decide_eq_true ⟨⟨⟨⟨hB.1, hB.2.1⟩, hB.2.2.1⟩, hB.2.2.2.1⟩, hB.2.2.2.2⟩), if_pos (natIn (by rw [m.len]; exact hi))]
   exact .inr ⟨_, rfl, .inl ⟨rfl, k, hk, hB⟩⟩
  ·rw [if_neg (fun q => hB (by obtain ⟨⟨⟨⟨b1, b2⟩, b3⟩, b4⟩, b5⟩ := of_decide_eq_true q; exact ⟨b1, b2, b3, b4, b5⟩))]
   refine .inl ⟨(), rfl, fun j hj => ?_⟩
   by_cases hjk : j = k
   ·subst hjk; exact hB
   ·exact h j (by omega)
 ·unfold g_right_held_l2
  try simp only
  rw [if_neg natNlt]
  exact ⟨_, rfl, .inr ⟨rfl, h⟩⟩
def Full (l : List GGrant) (a : List Int) : Prop := ∀ i, i < l.length → lrd a i = 1 ∨ ((lrd l i).From ≠ own (lrd l i).Object ∧ ∀ j, j < l.length → ¬ Backed l a i j)
theorem held_l1 {l : List GGrant} (hl : l.length ≤ 96) (hb : ∀ g ∈ l, InB g) {a : List Int} (m : Marks l a) :
  ∃ r, loopO (g_right_held_l1 l a) (0 : Int) = some r ∧ ((∃ a', r = .inl a' ∧ Marks l a' ∧ zeros a' < zeros a) ∨ (r = .inr () ∧ Full l a)) := by
 refine loopO_times (step := g_right_held_l1 l a) (σ := Unit) l.length (fun k _ => (k : Int)) (fun k _ => ∀ i, i < k → lrd a i = 1 ∨ ((lrd l i).From ≠ own (lrd l i).Object ∧ ∀ j, j < l.length → ¬ Backed l a i j)) _ (fun k u hk h => ?_) (fun u h => ?_) (s := ()) (fun j hj => absurd hj (Nat.not_lt_zero j))
 ·have hka : k < a.length := by rw [m.len]; exact hk
  have hg := hb _ (lrd_mem hk)
  unfold g_right_held_l1 g_right_owner
  try simp only
  rw [if_pos (natLt hk), if_pos (natIn hk), if_pos (natIn hka), w64_succ (by omega)]
  simp only [Int.toNat_natCast, Option.bind_some]
  rw [own_w ⟨hg.o0, hg.o1⟩]
  have up : (lrd a k = 1 ∨ ((lrd l k).From ≠ own (lrd l k).Object ∧ ∀ j, j < l.length → ¬ Backed l a k j)) → ∀ i, i < k + 1 → lrd a i = 1 ∨ ((lrd l i).From ≠ own (lrd l i).Object ∧ ∀ j, j < l.length → ¬ Backed l a i j) := by
   intro hk2 i hi
   by_cases hik : i = k
   ·subst hik; exact hk2
   ·exact h i (by omega)
  by_cases h1 : lrd a k = 1
  ·rw [if_pos h1]
   exact .inl ⟨(), rfl, up (.inl h1)⟩
  ·rw [if_neg h1]
   by_cases h2 : (lrd l k).From = own (lrd l k).Object
   ·rw [if_pos h2, if_pos (natIn hka)]
    exact .inr ⟨_, rfl, .inl ⟨_, rfl, m.set hk (by rw [h2]; exact .base), zeros_set a k hka h1⟩⟩
   ·rw [if_neg h2]
    obtain ⟨r, h3, h4⟩ := held_l2 hl m hk h1
    rw [h3, Option.bind_some]
    rcases h4 with ⟨rfl, j, hj, hB⟩ | ⟨rfl, hB⟩
    ·refine .inr ⟨_, rfl, .inl ⟨_, rfl, m.set hk ?_, zeros_set a k hka h1⟩⟩
     have := m.sound j hj hB.1
     rw [hB.2.2.2.1, hB.2.2.2.2] at this
     rw [← hB.2.2.1]
     exact .step _ (lrd_mem hj) hB.2.1 hB.2.2.2.1 hB.2.2.2.2 this
    ·exact .inl ⟨(), rfl, up (.inr ⟨h2, hB⟩)⟩
 ·unfold g_right_held_l1
  try simp only
  rw [if_neg natNlt]
  exact ⟨_, rfl, .inr ⟨rfl, h⟩⟩
theorem full_marks {l : List GGrant} (hb : ∀ g ∈ l, InB g) {a : List Int} (f : Full l a) : ∀ (o r u : Int), Rc l o r u → ∀ i, i < l.length → (lrd l i).From = u → (lrd l i).Object = o → (lrd l i).Right = r → lrd a i = 1 := by
 intro o r u h
 induction h with
 | base =>
  intro i hi h1 h2 h3
  rcases f i hi with h | ⟨h, _⟩
  ·exact h
  ·exact absurd (by rw [h1, h2]) h
 | step g hg ho h1 h2 _ ih =>
  intro i hi h3 h4 h5
  rcases f i hi with h | ⟨_, h⟩
  ·exact h
  ·obtain ⟨j, hj, rfl⟩ := mem_lrd hg
   exact absurd ⟨ih j hj rfl h1 h2, ho, h3.symm, h1.trans h4.symm, h2.trans h5.symm⟩ (h j hj)
theorem held_l3 {l : List GGrant} (hl : l.length ≤ 96) {a : List Int} (ha : a.length = l.length) (p : GGrant → Bool) (hp : ∀ i, i < l.length → (lrd a i = 1 ↔ p (lrd l i) = true)) : loopO (g_right_held_l3 l a) ((0 : Int), ([] : List GGrant)) = some (l.filter p) := by
 have h := loopO_goL (step := g_right_held_l3 l a) l (fun k out => ((k : Int), out)) (fun _ g out => .inl (if p g = true then out ++ [g] else out)) id (fun k out => out.length ≤ k) (fun k out hk hi => ?_) (fun out _ => ?_) (s := []) (Nat.zero_le _)
 ·rw [show (((0 : Nat) : Int), ([] : List GGrant)) = ((0 : Int), []) from rfl] at h
  rw [h]
  congr 1
  have : ∀ (m : List GGrant) (k : Nat) (s : List GGrant), goL (fun _ g out => (.inl (if p g = true then out ++ [g] else out) : List GGrant ⊕ List GGrant)) id m k s = s ++ m.filter p := by
   intro m
   induction m with
   | nil => intro k s; simp [goL]
   | cons x m ih =>
    intro k s
    simp only [goL]
    rw [ih]
    by_cases hx : p x = true
    ·simp [hx]
    ·simp [hx]
  rw [this]
  rfl
 ·unfold g_right_held_l3
  try simp only
  rw [if_pos (natLt hk), if_pos (natIn hk), if_pos (natIn (by rw [ha]; exact hk)), w64_succ (by omega), Int.toNat_natCast]
  have hpk := hp k hk
  by_cases h : lrd a k = 1
  ·rw [if_pos h, if_pos (hpk.1 h), if_pos (show room _ _ by simp only [room, List.length_cons, List.length_nil]; omega)]
   exact ⟨rfl, fun s' hs => by cases hs; simp only [List.length_append, List.length_cons, List.length_nil]; omega⟩
  ·rw [if_neg h, if_neg (fun q => h (hpk.2 q))]
   exact ⟨rfl, fun s' hs => by cases hs; omega⟩
 ·unfold g_right_held_l3
  try simp only
  rw [if_neg natNlt]
  rfl
open Classical in
theorem held_eq {l : List GGrant} (hl : l.length ≤ 96) (hb : ∀ g ∈ l, InB g) : g_right_held l = some (stand l) := by
 unfold g_right_held
 rw [if_pos (by omega), if_pos (by omega), Int.toNat_natCast]
 obtain ⟨r, h1, h2⟩ := loopO_rule (step := g_right_held_l0 l) (Marks l) (fun r => r = stand l) zeros (fun a m => by
  unfold g_right_held_l0
  try simp only
  obtain ⟨r, h1, h2⟩ := held_l1 hl hb m
  rw [h1, Option.bind_some]
  rcases h2 with ⟨a', rfl, h3, h4⟩ | ⟨rfl, hf⟩
  ·exact .inl ⟨a', rfl, h3, h4⟩
  ·have := held_l3 hl m.len (fun g => decide (Rc l g.Object g.Right g.From)) (fun i hi => ⟨fun h => decide_eq_true (m.sound i hi h), fun h => full_marks hb hf _ _ _ (of_decide_eq_true h) i hi rfl rfl rfl⟩)
   simp only
   rw [this]
   exact .inr ⟨_, rfl, rfl⟩) (a := List.replicate l.length 0) ⟨by simp, fun i hi h => by
    rw [lrd_at (by simpa using hi)] at h
    simp at h⟩
 rw [h1, h2]
 rfl
structure GoodG (l : List GGrant) : Prop where
 len : l.length ≤ 96
 inb : ∀ g ∈ l, InB g
 srt : ∀ i, i + 1 < l.length → rk (lrd l i) < rk (lrd l (i + 1))
 std : stand l = l
theorem rcheck_eq (l : List GGrant) : ∃ e, g_right_Check l = some e ∧ g_ref_GrantsFault l = some e ∧ (e = 0 → GoodG l) := by
 unfold g_right_Check g_ref_GrantsFault
 by_cases hlen : (l.length : Int) > 96
 ·rw [if_pos hlen, if_pos hlen]
  exact ⟨1, rfl, rfl, fun h => by cases h⟩
 ·rw [if_neg hlen, if_neg hlen]
  have hl : l.length ≤ 96 := by omega
  obtain ⟨r, q, h1, h2, h3, h4⟩ := loopO_rel (step := g_right_Check_l0 l) (step2 := g_ref_GrantsFault_l0 l)
   (fun i p => ∃ k : Nat, i = (k : Int) ∧ p.2 = (k : Int) ∧ k ≤ l.length ∧ p.1 = (if k = 0 then -1 else rk (lrd l (k - 1))) ∧ (∀ j, j < k → InB (lrd l j)) ∧ ∀ j, j + 1 < k → rk (lrd l j) < rk (lrd l (j + 1)))
   (fun r q => r = q ∧ ((∃ e, r = .inl e ∧ e ≠ 0) ∨ (r = .inr () ∧ (∀ j, j < l.length → InB (lrd l j)) ∧ ∀ j, j + 1 < l.length → rk (lrd l j) < rk (lrd l (j + 1)))))
   (fun i => (l.length - i).toNat) (fun i p hp => by
    obtain ⟨k, rfl, hp2, hk, hlast, hin, hs⟩ := hp
    obtain ⟨last, t⟩ := p
    simp only at hp2 hlast
    subst hp2
    unfold g_right_Check_l0 g_ref_GrantsFault_l0
    simp only
    by_cases hkl : k < l.length
    ·rw [if_pos (natLt hkl), if_pos (natIn hkl), if_pos (natLt hkl), if_pos (natIn hkl), Int.toNat_natCast, bounds_eq, rbounds_eq, Option.bind_some, Option.bind_some]
     by_cases hb : bndG (lrd l k) ≠ 0
     ·rw [if_pos hb, if_pos hb]
      exact .inr ⟨_, _, rfl, rfl, rfl, .inl ⟨_, rfl, hb⟩⟩
     ·have hg := bndG_zero.1 (Classical.not_not.1 hb)
      rw [if_neg hb, if_neg hb, rk_eq hg, Option.bind_some, Option.bind_some, w64_succ (by omega)]
      by_cases hk0 : k = 0
      ·subst hk0
       simp only [if_true] at hlast
       have := rk_pos hg
       subst hlast
       rw [if_neg (by omega), if_neg (by omega)]
       simp only [Option.bind_some, Bool.false_eq_true, if_false]
       refine .inl ⟨_, _, rfl, rfl, ⟨1, rfl, rfl, hkl, ?_, ?_, fun j hj => by omega⟩, by omega⟩
       ·rw [if_neg (by decide)]
       ·intro j hj
        have : j = 0 := by omega
        subst this
        exact hg
      ·rw [if_neg hk0] at hlast
       have hgp := hin (k - 1) (by omega)
       have hw : w64 ((k : Int) - 1) = ((k - 1 : Nat) : Int) := by rw [w64_id (by omega)]; omega
       rw [if_pos (by omega), hw, if_pos (natIn (by omega)), Int.toNat_natCast, plc_eq, plc_eq, Option.bind_some, Option.bind_some, before_eq hgp hg]
       simp only [Option.bind_some]
       subst hlast
       by_cases hlt : rk (lrd l (k - 1)) < rk (lrd l k)
       ·rw [decide_eq_true hlt]
        simp only [Bool.not_true, Bool.false_eq_true, if_false]
        rw [if_neg (by omega)]
        refine .inl ⟨_, _, rfl, rfl, ⟨k + 1, rfl, rfl, hkl, ?_, ?_, ?_⟩, by omega⟩
        ·rw [if_neg (by omega), show k + 1 - 1 = k by omega]
        ·intro j hj
         by_cases hjk : j = k
         ·subst hjk; exact hg
         ·exact hin j (by omega)
        ·intro j hj
         by_cases hjk : j + 1 = k
         ·have : k - 1 = j := by omega
          rw [this] at hlt
          rw [hjk]
          exact hlt
         ·exact hs j (by omega)
       ·rw [decide_eq_false hlt]
        simp only [Bool.not_false, if_true]
        rw [if_pos (by omega)]
        exact .inr ⟨_, _, rfl, rfl, rfl, .inl ⟨3, rfl, by decide⟩⟩
    ·have : k = l.length := by omega
     subst this
     rw [if_neg natNlt, if_neg natNlt]
     exact .inr ⟨_, _, rfl, rfl, rfl, .inr ⟨rfl, hin, hs⟩⟩) (a := (0 : Int)) (c := ((-1 : Int), (0 : Int))) ⟨0, rfl, rfl, Nat.zero_le _, rfl, fun j hj => absurd hj (Nat.not_lt_zero j), fun j hj => absurd hj (Nat.not_lt_zero _)⟩
  rw [h1, h2, ← h3]
  rcases h4 with ⟨e, rfl, he⟩ | ⟨rfl, hin, hs⟩
  ·exact ⟨e, rfl, rfl, fun h => absurd h he⟩
  ·have hb : ∀ g ∈ l, InB g := fun g hg => by
    obtain ⟨j, hj, rfl⟩ := mem_lrd hg
    exact hin j hj
   simp only [Option.bind_some]
   rw [held_eq hl hb, stands_eq hl hb, Option.bind_some, Option.bind_some]
   have hle : (stand l).length ≤ l.length := List.length_filter_le _ _
   by_cases hst : (stand l).length = l.length
   ·rw [if_neg (by omega), if_neg (by omega)]
    exact ⟨0, rfl, rfl, fun _ => ⟨hl, hb, hs, List.filter_sublist.eq_of_length hst⟩⟩
   ·rw [if_pos (by omega), if_pos (by omega)]
    exact ⟨11, rfl, rfl, fun h => by cases h⟩
end Go.Proofs.YtpgimlllchibnaaDoor.VM

/- Words and rules that the proof uses. -/
namespace Go.Proofs.YtpgimlllchibnaaDoor.VM
open Go Go.RowKit
theorem loop_all {τ β : Type} {step : τ → Option (τ ⊕ β)} (n : Nat) (enc : Nat → τ) (p : Nat → Bool) (bad fin : β) (hs : ∀ k, k < n → step (enc k) = some (if p k = true then .inl (enc (k + 1)) else .inr bad)) (he : step (enc n) = some (.inr fin)) :
  loopO step (enc 0) = some (if (List.range n).all p = true then fin else bad) := by
 have key : ∀ m k, k + m = n → loopO step (enc k) = some (if ((List.range m).all fun i => p (k + i)) = true then fin else bad) := by
  intro m
  induction m with
  | zero => intro k hk; rw [show k = n by omega, loopO_done he]; rfl
  | succ m ih =>
   intro k hk
   have h := hs k (by omega)
   by_cases hp : p k = true
   ·rw [if_pos hp] at h
    rw [loopO_next h, ih (k + 1) (by omega), List.range_succ_eq_map, List.all_cons, show p (k + 0) = true from hp, Bool.true_and, List.all_map]
    have : (fun i => p (k + 1 + i)) = (fun i => p (k + i)) ∘ Nat.succ := by
     funext i
     show p (k + 1 + i) = p (k + (i + 1))
     rw [show k + 1 + i = k + (i + 1) by omega]
    rw [this]
   ·rw [if_neg hp] at h
    rw [loopO_done h, List.range_succ_eq_map, List.all_cons, show p (k + 0) = false from Bool.eq_false_iff.2 hp, Bool.false_and, if_neg (by decide)]
 have := key n 0 (by omega)
 simpa using this
theorem loop_acc {τ β : Type} {step : τ → Option (τ ⊕ β)} (n : Nat) (enc : Nat → Bool → τ) (p : Nat → Bool) (fin : Bool → β) (hs : ∀ k ok, k < n → step (enc k ok) = some (.inl (enc (k + 1) (ok && p k)))) (he : ∀ ok, step (enc n ok) = some (.inr (fin ok))) (ok : Bool) :
  loopO step (enc 0 ok) = some (fin (ok && (List.range n).all p)) := by
 have key : ∀ m k ok, k + m = n → loopO step (enc k ok) = some (fin (ok && (List.range m).all fun i => p (k + i))) := by
  intro m
  induction m with
  | zero => intro k ok hk; rw [show k = n by omega, loopO_done (he ok)]; simp
  | succ m ih =>
   intro k ok hk
   rw [loopO_next (hs k ok (by omega)), ih (k + 1) _ (by omega), List.range_succ_eq_map, List.all_cons, List.all_map, Bool.and_assoc]
   have : (fun i => p (k + 1 + i)) = (fun i => p (k + i)) ∘ Nat.succ := by
    funext i
    show p (k + 1 + i) = p (k + (i + 1))
    rw [show k + 1 + i = k + (i + 1) by omega]
   rw [this]
   rfl
 have := key n 0 ok (by omega)
 simpa using this
theorem range_list {α : Type} [Inhabited α] (l : List α) (p : α → Bool) : ((List.range l.length).all fun k => p (lrd l k)) = l.all p := by
 rw [Bool.eq_iff_iff, List.all_eq_true, List.all_eq_true]
 constructor
 ·intro h x hx
  obtain ⟨j, hj, rfl⟩ := mem_lrd hx
  exact h j (List.mem_range.2 hj)
 ·intro h k hk
  exact h _ (lrd_mem (List.mem_range.1 hk))
def cellB (t : GTable) (i j : Nat) : Bool := !decide (((vrd (vrd t.Drawers i) j).Full = true) ∨ (((vrd (vrd t.Drawers i) j).Row.length : Int) > 0))
def blankB (t : GTable) : Bool := ((List.range 2).all fun i => (List.range 4).all (cellB t i)) && decide ((((!t.There) = true) ∧ t.Name = []) ∧ (t.Cols.length : Int) = 0)
theorem blank_eq (t : GTable) : g_deed_blank t = some (blankB t) := by
 have h1 : ∀ i : Nat, loopO (g_deed_blank_l1 t (i : Int)) (0 : Int) = some (if (List.range 4).all (cellB t i) = true then .inr () else .inl false) := fun i =>
  loop_all (step := g_deed_blank_l1 t (i : Int)) 4 (fun k => (k : Int)) (cellB t i) (.inl false) (.inr ()) (fun k hk => by
   unfold g_deed_blank_l1 cellB
   dsimp only
   rw [if_pos (show (k : Int) < 4 by omega), if_pos (by omega), Int.toNat_natCast, Int.toNat_natCast, w64_succ (by omega)]
   by_cases h : ((vrd (vrd t.Drawers i) k).Full = true) ∨ (((vrd (vrd t.Drawers i) k).Row.length : Int) > 0)
   ·rw [if_pos h, decide_eq_true h]; rfl
   ·rw [if_neg h, decide_eq_false h]; rfl) (by
   unfold g_deed_blank_l1
   dsimp only
   rw [if_neg (by decide)])
 have h0 : loopO (g_deed_blank_l0 t) (0 : Int) = some (if ((List.range 2).all fun i => (List.range 4).all (cellB t i)) = true then .inr () else .inl false) :=
  loop_all (step := g_deed_blank_l0 t) 2 (fun k => (k : Int)) (fun i => (List.range 4).all (cellB t i)) (.inl false) (.inr ()) (fun k hk => by
   unfold g_deed_blank_l0
   dsimp only
   rw [if_pos (show (k : Int) < 2 by omega), if_pos (by omega), h1 k, Option.bind_some, w64_succ (by omega)]
   by_cases h : (List.range 4).all (cellB t k) = true
   ·rw [if_pos h, if_pos h]
   ·rw [if_neg h, if_neg h]) (by
   unfold g_deed_blank_l0
   dsimp only
   rw [if_neg (by decide)])
 unfold g_deed_blank blankB
 rw [h0, Option.bind_some]
 by_cases h : ((List.range 2).all fun i => (List.range 4).all (cellB t i)) = true
 ·rw [if_pos h, h, Bool.true_and]
 ·rw [if_neg h, Bool.eq_false_iff.2 h, Bool.false_and]
theorem empty_eq (t : GTable) : g_ref_emptyTable t = some (blankB t) := by
 have h1 : ∀ (i : Nat) (ok : Bool), loopO (g_ref_emptyTable_l1 t (i : Int)) (!ok, (0 : Int)) = some (!(ok && (List.range 4).all (cellB t i))) := fun i =>
  loop_acc (step := g_ref_emptyTable_l1 t (i : Int)) 4 (fun k ok => (!ok, (k : Int))) (cellB t i) (fun ok => !ok) (fun k ok hk => by
   unfold g_ref_emptyTable_l1 cellB
   dsimp only
   rw [if_pos (show (k : Int) < 4 by omega), if_pos (by omega), letO_eq, Int.toNat_natCast, Int.toNat_natCast, w64_succ (by omega)]
   congr 3
   cases ok <;> simp) (fun ok => by
   unfold g_ref_emptyTable_l1
   dsimp only
   rw [if_neg (by decide)])
 have h0 : ∀ ok : Bool, loopO (g_ref_emptyTable_l0 t) (!ok, (0 : Int)) = some (!(ok && (List.range 2).all fun i => (List.range 4).all (cellB t i))) :=
  loop_acc (step := g_ref_emptyTable_l0 t) 2 (fun k ok => (!ok, (k : Int))) (fun i => (List.range 4).all (cellB t i)) (fun ok => !ok) (fun k ok hk => by
   unfold g_ref_emptyTable_l0
   dsimp only
   rw [if_pos (show (k : Int) < 2 by omega), if_pos (by omega), h1 k ok, Option.bind_some, w64_succ (by omega)]) (fun ok => by
   unfold g_ref_emptyTable_l0
   dsimp only
   rw [if_neg (by decide)])
 unfold g_ref_emptyTable blankB
 rw [show (false, (0 : Int)) = (!true, (0 : Int)) from rfl, h0 true, Option.bind_some, Bool.true_and, Bool.not_not]
 congr 1
 generalize ((List.range 2).all fun i => (List.range 4).all (cellB t i)) = q
 cases q
 ·rw [Bool.false_and]
  exact decide_eq_false (fun h => absurd h.1.1.1 (by decide))
 ·rw [Bool.true_and, decide_eq_decide]
  exact ⟨fun h => ⟨⟨h.1.1.2, h.1.2⟩, h.2⟩, fun h => ⟨⟨⟨rfl, h.1.1⟩, h.1.2⟩, h.2⟩⟩
noncomputable def tchk (t : GTable) : Int := (g_table_Check t).getD 1
theorem tchk_eq {t : GTable} (ok : TabOk t) : g_table_Check t = some (tchk t) ∧ g_ref_TableFault t = some (tchk t) := by
 obtain ⟨e, h1, h2, _⟩ := table_eq ok
 have : tchk t = e := by unfold tchk; rw [h1]; rfl
 rw [this]
 exact ⟨h1, h2⟩
noncomputable def tabB (t : GTable) : Bool := if t.There = true then decide (tchk t = 0) else blankB t
abbrev tabS (s : GState) (u i : Nat) : GTable := vrd (vrd s.Tables u) i
def sameB (s : GState) (u i j : Nat) : Bool := !decide ((((tabS s u i).There = true) ∧ ((tabS s u j).There = true)) ∧ (tabS s u j).Name = (tabS s u i).Name)
noncomputable def oneB (s : GState) (u i : Nat) : Bool := tabB (tabS s u i) && (List.range i).all (sameB s u i)
def askB (s : GState) (u : Nat) : Bool := !decide ((vrd s.Asked u < 0) ∨ (vrd s.Asked u > 12))
abbrev plcI (g : GGrant) : Int := w64 (g.Object.tdiv 2)
def plcB (s : GState) (g : GGrant) : Bool := (vrd (vrd s.Tables ((w64 ((plcI g).tdiv 2)).toNat)) (((plcI g).tmod 2).toNat)).There
def StOk (s : GState) : Prop := ∀ u i, u < 3 → i < 2 → TabOk (tabS s u i)
theorem check_l1 {s : GState} (ok : StOk s) {u : Nat} (hu : u < 3) : loopO (g_deed_Check_l1 s (u : Int)) (0 : Int) = some (if (List.range 2).all (oneB s u) = true then .inr () else .inl 11) := by
 have h2 : ∀ i : Nat, i < 2 → loopO (g_deed_Check_l2 s (u : Int) (i : Int)) (0 : Int) = some (if (List.range i).all (sameB s u i) = true then .inr () else .inl 11) := fun i hi => by
  refine loop_all (step := g_deed_Check_l2 s (u : Int) (i : Int)) i (fun k => (k : Int)) (sameB s u i) (.inl 11) (.inr ()) (fun k hk => ?_) ?_
  ·unfold g_deed_Check_l2 sameB
   dsimp only
   rw [Int.toNat_natCast, if_pos (natLt hk), if_pos (natIn hk), letO_eq, Int.toNat_natCast, Int.toNat_natCast, w64_succ (by omega)]
   by_cases h : (((tabS s u i).There = true) ∧ ((tabS s u k).There = true)) ∧ (tabS s u k).Name = (tabS s u i).Name
   ·rw [if_pos (decide_eq_true h), decide_eq_true h]; rfl
   ·rw [if_neg (by rw [decide_eq_false h]; decide), decide_eq_false h]; rfl
  ·unfold g_deed_Check_l2
   dsimp only
   rw [Int.toNat_natCast, if_neg natNlt]
 refine loop_all (step := g_deed_Check_l1 s (u : Int)) 2 (fun k => (k : Int)) (oneB s u) (.inl 11) (.inr ()) (fun i hi => ?_) ?_
 ·obtain ⟨h3, _⟩ := tchk_eq (ok u i hu hi)
  unfold g_deed_Check_l1 oneB
  dsimp only
  rw [if_pos (show (i : Int) < 2 by omega), if_pos (by omega), Int.toNat_natCast, Int.toNat_natCast, h3, blank_eq, if_pos (show (0 : Int) ≤ (i : Int) ∧ (i : Int) ≤ 2 by omega), h2 i hi, w64_succ (by omega)]
  have hg : (if (tabS s u i).There = true then (some (tchk (tabS s u i))).bind fun r'2 => (if r'2 ≠ (0 : Int) then some true else (if (!((tabS s u i).There)) = true then (some (blankB (tabS s u i))).bind fun r'3 => some (!r'3) else some false)) else (if (!((tabS s u i).There)) = true then (some (blankB (tabS s u i))).bind fun r'4 => some (!r'4) else some false)) = some (!(tabB (tabS s u i))) := by
   unfold tabB
   by_cases ht : (tabS s u i).There = true
   ·rw [if_pos ht, if_pos ht, Option.bind_some]
    by_cases hz : tchk (tabS s u i) = 0
    ·rw [if_neg (fun q => q hz), if_neg (by rw [ht]; decide), decide_eq_true hz]; rfl
    ·rw [if_pos hz, decide_eq_false hz]; rfl
   ·rw [if_neg ht, if_neg ht, if_pos (by rw [Bool.eq_false_iff.2 ht]; rfl), Option.bind_some]
  rw [hg, Option.bind_some]
  cases tabB (tabS s u i) with
  | false => rfl
  | true =>
   rw [if_neg (by decide), Option.bind_some, Bool.true_and]
   by_cases h : (List.range i).all (sameB s u i) = true
   ·rw [if_pos h, if_pos h]
   ·rw [if_neg h, if_neg h]
 ·unfold g_deed_Check_l1
  dsimp only
  rw [if_neg (by decide)]
theorem fault_l1 {s : GState} (ok : StOk s) {u : Nat} (hu : u < 3) (b : Bool) : loopO (g_ref_StateFault_l1 s (u : Int)) (b, (0 : Int), ([] : MapI)) = some (b && (List.range 2).all (oneB s u)) := by
 have step : ∀ (i : Nat) (b : Bool) (M : MapI), i < 2 → g_ref_StateFault_l1 s (u : Int) (b, (i : Int), M) = some (.inl (b && (if (tabS s u i).There = true then decide (tchk (tabS s u i) = 0) && decide (mgetI (mputI M (tabS s u i).Name (w64 (mgetI M (tabS s u i).Name + 1))) (tabS s u i).Name = 1) else blankB (tabS s u i)), ((i + 1 : Nat) : Int), if (tabS s u i).There = true then mputI M (tabS s u i).Name (w64 (mgetI M (tabS s u i).Name + 1)) else M)) := by
  intro i b M hi
  obtain ⟨_, h3⟩ := tchk_eq (ok u i hu hi)
  unfold g_ref_StateFault_l1
  dsimp only
  rw [if_pos (show (i : Int) < 2 by omega), if_pos (by omega), Int.toNat_natCast, Int.toNat_natCast, empty_eq, h3, letO_eq, w64_succ (by omega)]
  by_cases ht : (tabS s u i).There = true
  ·rw [if_neg (show ¬ ((!(tabS s u i).There) = true) by rw [ht]; decide), if_pos ht, if_pos ht]
   cases b
   ·rfl
   ·rw [if_pos rfl, Option.bind_some, Bool.true_and]
    by_cases hz : tchk (tabS s u i) = 0
    ·rw [if_pos hz, decide_eq_true hz, Bool.true_and]; rfl
    ·rw [if_neg hz, decide_eq_false hz]; rfl
  ·rw [if_pos (show (!(tabS s u i).There) = true by rw [Bool.eq_false_iff.2 ht]; rfl), if_neg ht, if_neg ht]
   cases b <;> rfl
 have hend : ∀ (b : Bool) (M : MapI), loopO (g_ref_StateFault_l1 s (u : Int)) (b, ((2 : Nat) : Int), M) = some b := fun b M => loopO_done (by
  unfold g_ref_StateFault_l1
  dsimp only
  rw [if_neg (by decide)])
 rw [show ((0 : Int)) = ((0 : Nat) : Int) from rfl, loopO_next (step 0 b [] (by decide)), loopO_next (step 1 _ _ (by decide)), hend]
 congr 1
 have e2 : (List.range 2).all (oneB s u) = (oneB s u 0 && oneB s u 1) := by
  show (oneB s u 0 && (oneB s u 1 && true)) = _
  rw [Bool.and_true]
 have e0 : oneB s u 0 = tabB (tabS s u 0) := by
  unfold oneB
  show (tabB (tabS s u 0) && true) = _
  rw [Bool.and_true]
 have e1 : oneB s u 1 = (tabB (tabS s u 1) && sameB s u 1 0) := by
  unfold oneB
  show (tabB (tabS s u 1) && (sameB s u 1 0 && true)) = _
  rw [Bool.and_true]
 rw [e2, e0, e1, Bool.and_assoc]
 congr 1
 have g1 : ∀ (n : List UInt8), w64 (mgetI [] n + 1) = 1 := fun n => rfl
 have g2 : ∀ (n : List UInt8), mgetI (mputI [] n 1) n = 1 := fun n => by
  show (if n = n then (1 : Int) else _) = 1
  rw [if_pos rfl]
 unfold tabB sameB
 rw [g1, g2]
 by_cases h0 : (tabS s u 0).There = true
 ·rw [if_pos h0, if_pos h0, if_pos h0, decide_eq_true (show (1 : Int) = 1 from rfl), Bool.and_true]
  by_cases h1 : (tabS s u 1).There = true
  ·rw [if_pos h1, if_pos h1]
   congr 2
   by_cases hn : (tabS s u 0).Name = (tabS s u 1).Name
   ·rw [decide_eq_true (p := ((tabS s u 1).There = true ∧ (tabS s u 0).There = true) ∧ (tabS s u 0).Name = (tabS s u 1).Name) ⟨⟨h1, h0⟩, hn⟩]
    refine decide_eq_false ?_
    show ¬ (mgetI (mputI [((tabS s u 0).Name, 1)] (tabS s u 1).Name (w64 (mgetI [((tabS s u 0).Name, 1)] (tabS s u 1).Name + 1))) (tabS s u 1).Name = 1)
    have a1 : mgetI [((tabS s u 0).Name, 1)] (tabS s u 1).Name = 1 := by rw [mgetI, if_pos hn]
    rw [a1, mputI, if_pos hn, mgetI, if_pos hn]
    exact (by decide : ¬ (w64 (1 + 1) = 1))
   ·rw [decide_eq_false (p := ((tabS s u 1).There = true ∧ (tabS s u 0).There = true) ∧ (tabS s u 0).Name = (tabS s u 1).Name) (fun q => hn q.2)]
    refine decide_eq_true ?_
    show mgetI (mputI [((tabS s u 0).Name, 1)] (tabS s u 1).Name (w64 (mgetI [((tabS s u 0).Name, 1)] (tabS s u 1).Name + 1))) (tabS s u 1).Name = 1
    have a1 : mgetI [((tabS s u 0).Name, 1)] (tabS s u 1).Name = 0 := by rw [mgetI, if_neg hn]; rfl
    rw [a1, mputI, if_neg hn, mgetI, if_neg hn]
    show (if (tabS s u 1).Name = (tabS s u 1).Name then (w64 (0 + 1)) else _) = 1
    rw [if_pos rfl]
    rfl
  ·rw [if_neg h1, if_neg h1, decide_eq_false (p := ((tabS s u 1).There = true ∧ (tabS s u 0).There = true) ∧ (tabS s u 0).Name = (tabS s u 1).Name) (fun q => h1 q.1.1)]
   simp
 ·rw [if_neg h0, if_neg h0, if_neg h0]
  by_cases h1 : (tabS s u 1).There = true
  ·rw [if_pos h1, if_pos h1, g1, g2, decide_eq_true (show (1 : Int) = 1 from rfl), decide_eq_false (p := ((tabS s u 1).There = true ∧ (tabS s u 0).There = true) ∧ (tabS s u 0).Name = (tabS s u 1).Name) (fun q => h0 q.1.2)]
   rfl
  ·rw [if_neg h1, if_neg h1, decide_eq_false (p := ((tabS s u 1).There = true ∧ (tabS s u 0).There = true) ∧ (tabS s u 0).Name = (tabS s u 1).Name) (fun q => h1 q.1.1)]
   simp
theorem obj_places {o : Int} (h : 0 ≤ o ∧ o < 12) : w64 (o.tdiv 2) = o / 2 ∧ w64 ((o / 2).tdiv 2) = o / 2 / 2 ∧ (o / 2).tmod 2 = o / 2 % 2 := by
 have h1 : o.tdiv 2 = o / 2 := Int.tdiv_eq_ediv_of_nonneg h.1
 have h2 : (o / 2).tdiv 2 = o / 2 / 2 := Int.tdiv_eq_ediv_of_nonneg (by omega)
 have h3 : (o / 2).tmod 2 = o / 2 % 2 := Int.tmod_eq_emod_of_nonneg (by omega)
 rw [h1, h2, h3]
 exact ⟨w64_id (by omega), w64_id (by omega), rfl⟩
theorem grant_in {g : GGrant} (h : InB g) : (0 ≤ w64 ((plcI g).tdiv 2) ∧ w64 ((plcI g).tdiv 2) < 3) ∧ (0 ≤ (plcI g).tmod 2 ∧ (plcI g).tmod 2 < 2) := by
 obtain ⟨h1, h2, h3⟩ := obj_places ⟨h.o0, h.o1⟩
 have a := h.o0
 have b := h.o1
 unfold plcI
 rw [h1, h2, h3]
 omega
noncomputable def stateB (s : GState) : Bool := decide (g_right_Check s.Grants = some 0) && ((List.range 3).all (fun u => (List.range 2).all (oneB s u)) && (s.Grants.all (plcB s) && (List.range 3).all (askB s)))
theorem check_state {s : GState} (ok : StOk s) : g_deed_Check s = some (if stateB s = true then 0 else 11) := by
 have h0 : loopO (g_deed_Check_l0 s) (0 : Int) = some (if ((List.range 3).all fun u => (List.range 2).all (oneB s u)) = true then .inr () else .inl 11) :=
  loop_all (step := g_deed_Check_l0 s) 3 (fun k => (k : Int)) (fun u => (List.range 2).all (oneB s u)) (.inl 11) (.inr ()) (fun u hu => by
   unfold g_deed_Check_l0
   dsimp only
   rw [if_pos (show (u : Int) < 3 by omega), if_pos (by omega), check_l1 ok hu, Option.bind_some, w64_succ (by omega)]
   by_cases h : (List.range 2).all (oneB s u) = true
   ·rw [if_pos h, if_pos h]
   ·rw [if_neg h, if_neg h]) (by
   unfold g_deed_Check_l0
   dsimp only
   rw [if_neg (by decide)])
 have h4 : loopO (g_deed_Check_l4 s) (0 : Int) = some (if (List.range 3).all (askB s) = true then .inr () else .inl 11) :=
  loop_all (step := g_deed_Check_l4 s) 3 (fun k => (k : Int)) (askB s) (.inl 11) (.inr ()) (fun u hu => by
   unfold g_deed_Check_l4 askB
   dsimp only
   rw [if_pos (show (u : Int) < 3 by omega), if_pos (by omega), Int.toNat_natCast, w64_succ (by omega)]
   by_cases h : (vrd s.Asked u < 0) ∨ (vrd s.Asked u > 12)
   ·rw [if_pos h, decide_eq_true h]; rfl
   ·rw [if_neg h, decide_eq_false h]; rfl) (by
   unfold g_deed_Check_l4
   dsimp only
   rw [if_neg (by decide)])
 obtain ⟨e, hc, _, hG⟩ := rcheck_eq s.Grants
 unfold g_deed_Check stateB
 rw [h0, Option.bind_some, hc]
 by_cases hA : ((List.range 3).all fun u => (List.range 2).all (oneB s u)) = true
 ·rw [if_pos hA, hA, Bool.true_and]
  dsimp only
  rw [Option.bind_some]
  by_cases he : e = 0
  ·have G := hG he
   have h3 : loopO (g_deed_Check_l3 s) (0 : Int) = some (if ((List.range s.Grants.length).all fun k => plcB s (lrd s.Grants k)) = true then .inr () else .inl 11) :=
    loop_all (step := g_deed_Check_l3 s) s.Grants.length (fun k => (k : Int)) (fun k => plcB s (lrd s.Grants k)) (.inl 11) (.inr ()) (fun k hk => by
     have hl := G.len
     obtain ⟨g1, g2⟩ := grant_in (G.inb _ (lrd_mem hk))
     unfold g_deed_Check_l3
     dsimp only
     rw [if_pos (natLt hk), if_pos (natIn hk), Int.toNat_natCast, if_pos g1, if_pos g2, letO_eq, w64_succ (by omega)]
     show (if (!(plcB s (lrd s.Grants k))) = true then _ else _) = _
     cases plcB s (lrd s.Grants k) <;> rfl) (by
     unfold g_deed_Check_l3
     dsimp only
     rw [if_neg natNlt])
   rw [range_list] at h3
   rw [if_neg (fun q => q he), h3, Option.bind_some, decide_eq_true (show some e = some 0 by rw [he]), Bool.true_and]
   by_cases hP : s.Grants.all (plcB s) = true
   ·rw [if_pos hP, hP, Bool.true_and]
    dsimp only
    rw [h4, Option.bind_some]
    by_cases hQ : (List.range 3).all (askB s) = true
    ·rw [if_pos hQ, if_pos hQ]
    ·rw [if_neg hQ, if_neg hQ]
   ·rw [if_neg hP, Bool.eq_false_iff.2 hP, Bool.false_and, if_neg (by decide)]
  ·rw [if_pos he, decide_eq_false (show ¬ some e = some 0 from fun q => he (by injection q)), Bool.false_and, if_neg (by decide)]
 ·rw [if_neg hA, Bool.eq_false_iff.2 hA, Bool.false_and, Bool.and_false, if_neg (by decide)]
theorem fault_state {s : GState} (ok : StOk s) : g_ref_StateFault s = some (if stateB s = true then 0 else 11) := by
 have h0 : ∀ b : Bool, loopO (g_ref_StateFault_l0 s) (b, (0 : Int)) = some (b && (List.range 3).all fun u => (List.range 2).all (oneB s u) && askB s u) :=
  loop_acc (step := g_ref_StateFault_l0 s) 3 (fun k b => (b, (k : Int))) (fun u => (List.range 2).all (oneB s u) && askB s u) id (fun u b hu => by
   unfold g_ref_StateFault_l0 askB
   dsimp only
   rw [if_pos (show (u : Int) < 3 by omega), if_pos (by omega), fault_l1 ok hu, Option.bind_some, Int.toNat_natCast, w64_succ (by omega)]
   generalize (List.range 2).all (oneB s u) = q
   cases b <;> cases q
   ·rfl
   ·rfl
   ·rfl
   ·rw [if_pos (by rfl)]
    have hu3 : 0 ≤ (u : Int) ∧ (u : Int) < 3 := by omega
    rw [if_pos hu3]
    by_cases h1 : vrd s.Asked u ≥ 0
    ·rw [if_pos h1, if_pos hu3]
     by_cases h2 : vrd s.Asked u ≤ 12
     ·rw [decide_eq_true h2, decide_eq_false (show ¬ (vrd s.Asked u < 0 ∨ vrd s.Asked u > 12) by omega)]; rfl
     ·rw [decide_eq_false h2, decide_eq_true (show (vrd s.Asked u < 0 ∨ vrd s.Asked u > 12) by omega)]; rfl
    ·rw [if_neg h1, decide_eq_true (show (vrd s.Asked u < 0 ∨ vrd s.Asked u > 12) by omega)]; rfl) (fun b => by
   unfold g_ref_StateFault_l0
   dsimp only
   rw [if_neg (by decide)]
   rfl)
 obtain ⟨e, hc, hr, hG⟩ := rcheck_eq s.Grants
 have hsplit : ((List.range 3).all fun u => (List.range 2).all (oneB s u) && askB s u) = (((List.range 3).all fun u => (List.range 2).all (oneB s u)) && (List.range 3).all (askB s)) := by
  show ((List.range 2).all (oneB s 0) && askB s 0 && ((List.range 2).all (oneB s 1) && askB s 1 && ((List.range 2).all (oneB s 2) && askB s 2 && true))) = (((List.range 2).all (oneB s 0) && ((List.range 2).all (oneB s 1) && ((List.range 2).all (oneB s 2) && true))) && (askB s 0 && (askB s 1 && (askB s 2 && true))))
  generalize (List.range 2).all (oneB s 0) = f0
  generalize (List.range 2).all (oneB s 1) = f1
  generalize (List.range 2).all (oneB s 2) = f2
  cases f0 <;> cases f1 <;> cases f2 <;> cases askB s 0 <;> cases askB s 1 <;> cases askB s 2 <;> rfl
 unfold g_ref_StateFault stateB
 rw [hr, Option.bind_some, h0, Option.bind_some, hsplit, hc]
 by_cases he : e = 0
 ·have G := hG he
  rw [decide_eq_true he, decide_eq_true (show some e = some 0 by rw [he]), Bool.true_and, Bool.true_and]
  generalize ((List.range 3).all fun u => (List.range 2).all (oneB s u)) = A
  generalize (List.range 3).all (askB s) = Q
  have h2 : loopO (g_ref_StateFault_l2 s) (true, (0 : Int)) = some (s.Grants.all (plcB s)) := by
   have := loop_acc (step := g_ref_StateFault_l2 s) s.Grants.length (fun k b => (b, (k : Int))) (fun k => plcB s (lrd s.Grants k)) id (fun k b hk => by
    have hl := G.len
    obtain ⟨g1, g2⟩ := grant_in (G.inb _ (lrd_mem hk))
    unfold g_ref_StateFault_l2
    dsimp only
    rw [if_pos (natLt hk), if_pos (natIn hk), Int.toNat_natCast, if_pos g1, if_pos g2, w64_succ (by omega)]
    show ((if b = true then some (plcB s (lrd s.Grants k)) else some false)).bind _ = _
    cases b <;> rfl) (fun b => by
    unfold g_ref_StateFault_l2
    dsimp only
    rw [if_neg natNlt]
    rfl) true
   rw [range_list, Bool.true_and] at this
   exact this
  cases A <;> cases Q
  ·rw [Bool.false_and, if_neg (by decide), Option.bind_some]
   simp
  ·rw [Bool.false_and, if_neg (by decide), Option.bind_some]
   simp
  ·rw [Bool.true_and, if_neg (by decide), Option.bind_some]
   simp
  ·rw [Bool.true_and, if_pos rfl, h2, Option.bind_some, Option.bind_some]
   cases s.Grants.all (plcB s) <;> rfl
 ·rw [decide_eq_false he, decide_eq_false (show ¬ some e = some 0 from fun q => he (by injection q)), Bool.false_and, Bool.false_and, if_neg (by decide), Option.bind_some]
  rfl
theorem st_ok {s : GState} (q : GState.ok s) : StOk s := fun u i hu hi => tab_ok (q.1 _ (vrd_mem hu) _ (vrd_mem hi))
theorem g_law_DeedChecks_true {x0 : GState} (q0 : GState.ok x0) : g_law_DeedChecks x0 = some true := by
 unfold g_law_DeedChecks
 rw [check_state (st_ok q0), fault_state (st_ok q0), Option.bind_some, Option.bind_some, decide_eq_true rfl]
end Go.Proofs.YtpgimlllchibnaaDoor.VM

/- Words and rules that the proof uses. -/
namespace Go.Proofs.YtpgimlllchibnaaDoor.VM
open Go Go.RowKit
theorem loop_first2 {τ β : Type} {step : τ → Option (τ ⊕ β)} (enc : Nat → τ) (p : Nat → Bool) (hit : Nat → β) (fin : β) (hs : ∀ k, k < 2 → step (enc k) = some (if p k = true then .inr (hit k) else .inl (enc (k + 1)))) (he : step (enc 2) = some (.inr fin)) :
  loopO step (enc 0) = some (if p 0 = true then hit 0 else if p 1 = true then hit 1 else fin) := by
 have h0 := hs 0 (by decide)
 have h1 := hs 1 (by decide)
 by_cases a : p 0 = true
 ·rw [if_pos a] at h0 ⊢
  exact loopO_done h0
 ·rw [if_neg a] at h0 ⊢
  rw [loopO_next h0]
  by_cases b : p 1 = true
  ·rw [if_pos b] at h1 ⊢
   exact loopO_done h1
  ·rw [if_neg b] at h1 ⊢
   rw [loopO_next h1]
   exact loopO_done he
def gB (user : Int) (o i : Nat) (g : GGrant) : Bool := decide (g.To = user ∧ plcI g = (o : Int) * 2 + (i : Int))
def hitB (s : GState) (user : Int) (name : List UInt8) (o i : Nat) : Bool := decide (((tabS s o i).There = true) ∧ (tabS s o i).Name = name) && (decide ((o : Int) = user) || s.Grants.any (gB user o i))
def foundB (s : GState) (user : Int) (name : List UInt8) (o : Nat) : (Int × Int) ⊕ Unit := if hitB s user name o 0 = true then .inl (0, 0) else if hitB s user name o 1 = true then .inl (1, 0) else .inr ()
theorem placed_grants {s : GState} (G : GoodG s.Grants) {user : Int} {o i : Nat} (ho : o < 3) (hi : i < 2) : loopO (g_deed_placed_l1 s user (o : Int) (i : Int)) (0 : Int) = some (if s.Grants.any (gB user o i) = true then .inl ((i : Int), 0) else .inr ()) := by
 have hl := G.len
 have h := loop_all (step := g_deed_placed_l1 s user (o : Int) (i : Int)) s.Grants.length (fun k => (k : Int)) (fun k => !gB user o i (lrd s.Grants k)) (.inl ((i : Int), 0)) (.inr ()) (fun k hk => by
  unfold g_deed_placed_l1 gB
  dsimp only
  rw [if_pos (natLt hk), if_pos (natIn hk), Int.toNat_natCast, w64_succ (by omega), show w64 ((o : Int) * 2) = (o : Int) * 2 from w64_id (by omega), show w64 ((o : Int) * 2 + (i : Int)) = (o : Int) * 2 + (i : Int) from w64_id (by omega)]
  by_cases h : (lrd s.Grants k).To = user ∧ plcI (lrd s.Grants k) = (o : Int) * 2 + (i : Int)
  ·rw [if_pos h, decide_eq_true h]; rfl
  ·rw [if_neg h, decide_eq_false h]; rfl) (by
  unfold g_deed_placed_l1
  dsimp only
  rw [if_neg natNlt])
 rw [range_list s.Grants (fun g => !gB user o i g)] at h
 rw [show ((0 : Int)) = ((0 : Nat) : Int) from rfl, h]
 have e : (s.Grants.all fun g => !gB user o i g) = !s.Grants.any (gB user o i) := by
  rw [List.not_any_eq_all_not]
 rw [e]
 cases s.Grants.any (gB user o i) <;> rfl
theorem placed_eq {s : GState} (G : GoodG s.Grants) {user : Int} {name : List UInt8} {o : Nat} (ho : o < 3) : g_deed_placed s user (o : Int) name = some (match foundB s user name o with | .inl y => y | .inr _ => (0, 5)) := by
 have h := loop_first2 (step := g_deed_placed_l0 s user (o : Int) name) (fun k => (k : Int)) (hitB s user name o) (fun k => .inl ((k : Int), 0)) (.inr ()) (fun i hi => by
  unfold g_deed_placed_l0 hitB
  dsimp only
  rw [if_pos (show (i : Int) < 2 by omega), if_pos (by omega), Int.toNat_natCast, Int.toNat_natCast, placed_grants G ho hi, w64_succ (by omega)]
  by_cases h1 : ((tabS s o i).There = true) ∧ (tabS s o i).Name = name
  ·rw [if_neg (show ¬ ((!(tabS s o i).There) = true ∨ (tabS s o i).Name ≠ name) from fun q => by
    rcases q with q | q
    ·rw [h1.1] at q; cases q
    ·exact q h1.2), decide_eq_true h1, Bool.true_and]
   by_cases h2 : (o : Int) = user
   ·rw [if_pos h2, decide_eq_true h2, Bool.true_or]; rfl
   ·rw [if_neg h2, decide_eq_false h2, Bool.false_or, Option.bind_some]
    cases s.Grants.any (gB user o i) <;> rfl
  ·rw [if_pos (show (!(tabS s o i).There) = true ∨ (tabS s o i).Name ≠ name by
    by_cases h3 : (tabS s o i).There = true
    ·exact .inr fun q => h1 ⟨h3, q⟩
    ·exact .inl (by rw [Bool.eq_false_iff.2 h3]; rfl)), decide_eq_false h1, Bool.false_and]
   rfl) (by
  unfold g_deed_placed_l0
  dsimp only
  rw [if_neg (by decide)])
 unfold g_deed_placed foundB
 rw [if_neg (by omega), if_pos (by omega), show ((0 : Int)) = ((0 : Nat) : Int) from rfl, h, Option.bind_some]
 cases hitB s user name o 0
 ·cases hitB s user name o 1 <;> rfl
 ·rfl
def mB (user obj r : Int) (g : GGrant) : Bool := decide ((g.To = user ∧ g.Object = obj) ∧ g.Right = r)
theorem has_eq {l : List GGrant} (hl : l.length ≤ 96) (user obj r : Int) : g_ref_has l user obj r = some (l.any (mB user obj r) || decide (w64 (obj.tdiv 4) = user)) := by
 obtain ⟨y, h1, h2⟩ := loopO_times (step := g_ref_has_l0 l user obj r) l.length (fun k (n : Int) => (n, (k : Int))) (fun k n => n = ((l.take k).countP (mB user obj r) : Int) ∧ k ≤ l.length) (fun y => y = (l.countP (mB user obj r) : Int)) (fun k n hk ⟨hn, _⟩ => .inl (by
  have hc : (l.take k).countP (mB user obj r) ≤ k := Nat.le_trans List.countP_le_length (by rw [List.length_take]; omega)
  unfold g_ref_has_l0
  dsimp only
  rw [if_pos (natLt hk), if_pos (natIn hk), Int.toNat_natCast, w64_succ (by omega), take_step hk, List.countP_append, List.countP_singleton]
  by_cases h : ((lrd l k).To = user ∧ (lrd l k).Object = obj) ∧ (lrd l k).Right = r
  ·rw [if_pos h, if_pos (show mB user obj r (lrd l k) = true from decide_eq_true h), hn, w64_succ (by omega)]
   exact ⟨_, rfl, rfl, by omega⟩
  ·rw [if_neg h, if_neg (show ¬ mB user obj r (lrd l k) = true from fun q => h (of_decide_eq_true q)), hn]
   exact ⟨_, rfl, rfl, by omega⟩)) (fun n ⟨hn, _⟩ => ⟨n, by
  unfold g_ref_has_l0
  dsimp only
  rw [if_neg natNlt], by rw [hn, List.take_length]⟩) (s := (0 : Int)) ⟨rfl, Nat.zero_le _⟩
 unfold g_ref_has g_ref_Owner
 rw [show ((0 : Int), (0 : Int)) = ((0 : Int), ((0 : Nat) : Int)) from rfl, h1, Option.bind_some, h2]
 by_cases hp : 0 < l.countP (mB user obj r)
 ·have : l.any (mB user obj r) = true := by
   obtain ⟨x, hx, hm⟩ := List.countP_pos_iff.1 hp
   exact List.any_eq_true.2 ⟨x, hx, hm⟩
  rw [if_pos (by omega), this, Bool.true_or]
  rfl
 ·have : l.any (mB user obj r) = false := by
   rw [Bool.eq_false_iff]
   intro q
   obtain ⟨x, hx, hm⟩ := List.any_eq_true.1 q
   exact hp (List.countP_pos_iff.2 ⟨x, hx, hm⟩)
  rw [if_neg (by omega), this, Bool.false_or]
  rfl
theorem object_eq {o i d : Nat} (ho : o < 3) (hi : i < 2) (hd : d < 2) : g_ref_objectOf (o : Int) (i : Int) (d : Int) = some (((4 * o + 2 * i + d : Nat)) : Int) := by
 unfold g_ref_objectOf
 rw [letO_eq, show w64 ((o : Int) * 2) = (o : Int) * 2 from w64_id (by omega), show w64 ((o : Int) * 2 * 2) = (o : Int) * 2 * 2 from w64_id (by omega), show w64 ((i : Int) * 2) = (i : Int) * 2 from w64_id (by omega), show w64 ((o : Int) * 2 * 2 + (i : Int) * 2) = (o : Int) * 2 * 2 + (i : Int) * 2 from w64_id (by omega), w64_id (by omega)]
 congr 1
 omega
theorem any_eq {s : GState} (G : GoodG s.Grants) {user : Int} {o i : Nat} (ho : o < 3) (hi : i < 2) : g_ref_anyRight s user (o : Int) (i : Int) = some (decide ((o : Int) = user) || s.Grants.any (gB user o i)) := by
 have hl := G.len
 have hhas : ∀ (d : Nat) (r : Int), d < 2 → g_ref_has s.Grants user ((4 * o + 2 * i + d : Nat) : Int) r = some (s.Grants.any (mB user ((4 * o + 2 * i + d : Nat) : Int) r) || decide ((o : Int) = user)) := fun d r hd => by
  rw [has_eq hl]
  have : w64 ((((4 * o + 2 * i + d : Nat)) : Int).tdiv 4) = (o : Int) := by
   rw [Int.tdiv_eq_ediv_of_nonneg (by omega), w64_id (by omega)]
   omega
  rw [this]
 have h1 : ∀ d : Nat, d < 2 → loopO (g_ref_anyRight_l1 s user (o : Int) (i : Int) (d : Int)) (1 : Int) = some (if ((List.range 2).all fun k => !(s.Grants.any (mB user ((4 * o + 2 * i + d : Nat) : Int) ((k + 1 : Nat) : Int)) || decide ((o : Int) = user))) = true then .inr () else .inl true) := fun d hd =>
  loop_all (step := g_ref_anyRight_l1 s user (o : Int) (i : Int) (d : Int)) 2 (fun k => ((k + 1 : Nat) : Int)) (fun k => !(s.Grants.any (mB user ((4 * o + 2 * i + d : Nat) : Int) ((k + 1 : Nat) : Int)) || decide ((o : Int) = user))) (.inl true) (.inr ()) (fun k hk => by
   unfold g_ref_anyRight_l1
   dsimp only
   rw [if_pos (show ((k + 1 : Nat) : Int) ≤ 2 by omega), object_eq ho hi hd, Option.bind_some, hhas d _ hd, Option.bind_some, w64_succ (by omega)]
   cases (s.Grants.any (mB user ((4 * o + 2 * i + d : Nat) : Int) ((k + 1 : Nat) : Int)) || decide ((o : Int) = user)) <;> rfl) (by
   unfold g_ref_anyRight_l1
   dsimp only
   rw [if_neg (by decide)])
 have h0 : loopO (g_ref_anyRight_l0 s user (o : Int) (i : Int)) (0 : Int) = some (if ((List.range 2).all fun d => (List.range 2).all fun k => !(s.Grants.any (mB user ((4 * o + 2 * i + d : Nat) : Int) ((k + 1 : Nat) : Int)) || decide ((o : Int) = user))) = true then .inr () else .inl true) :=
  loop_all (step := g_ref_anyRight_l0 s user (o : Int) (i : Int)) 2 (fun k => (k : Int)) (fun d => (List.range 2).all fun k => !(s.Grants.any (mB user ((4 * o + 2 * i + d : Nat) : Int) ((k + 1 : Nat) : Int)) || decide ((o : Int) = user))) (.inl true) (.inr ()) (fun d hd => by
   unfold g_ref_anyRight_l0
   dsimp only
   rw [if_pos (show (d : Int) < 2 by omega), h1 d hd, Option.bind_some, w64_succ (by omega)]
   generalize ((List.range 2).all fun k => !(s.Grants.any (mB user ((4 * o + 2 * i + d : Nat) : Int) ((k + 1 : Nat) : Int)) || decide ((o : Int) = user))) = q
   cases q <;> rfl) (by
   unfold g_ref_anyRight_l0
   dsimp only
   rw [if_neg (by decide)])
 unfold g_ref_anyRight
 rw [h0, Option.bind_some]
 by_cases h2 : (decide ((o : Int) = user) || s.Grants.any (gB user o i)) = true
 ·rw [if_neg, h2]
  intro q
  rw [List.all_eq_true] at q
  have q2 : ∀ d k, d < 2 → k < 2 → (s.Grants.any (mB user ((4 * o + 2 * i + d : Nat) : Int) ((k + 1 : Nat) : Int)) || decide ((o : Int) = user)) = false := fun d k hd hk => by
   have := q d (List.mem_range.2 hd)
   rw [List.all_eq_true] at this
   have := this k (List.mem_range.2 hk)
   simpa using this
  rw [Bool.or_eq_true] at h2
  rcases h2 with h2 | h2
  ·have := q2 0 0 (by decide) (by decide)
   rw [h2, Bool.or_true] at this
   cases this
  ·obtain ⟨g, hg, hm⟩ := List.any_eq_true.1 h2
   have I := G.inb g hg
   obtain ⟨m1, m2⟩ := of_decide_eq_true hm
   obtain ⟨p1, _, _⟩ := obj_places ⟨I.o0, I.o1⟩
   have p2 : plcI g = g.Object / 2 := p1
   have a := I.o0
   have hobj : g.Object = ((4 * o + 2 * i + (g.Object - 4 * o - 2 * i).toNat : Nat) : Int) := by omega
   have hd2 : (g.Object - 4 * o - 2 * i).toNat < 2 := by omega
   rcases I.r with hr | hr
   ·have h3 := q2 _ 0 hd2 (by decide)
    have h4 : s.Grants.any (mB user ((4 * o + 2 * i + (g.Object - 4 * o - 2 * i).toNat : Nat) : Int) ((0 + 1 : Nat) : Int)) = true := List.any_eq_true.2 ⟨g, hg, decide_eq_true ⟨⟨m1, hobj⟩, hr⟩⟩
    rw [h4, Bool.true_or] at h3
    cases h3
   ·have h3 := q2 _ 1 hd2 (by decide)
    have h4 : s.Grants.any (mB user ((4 * o + 2 * i + (g.Object - 4 * o - 2 * i).toNat : Nat) : Int) ((1 + 1 : Nat) : Int)) = true := List.any_eq_true.2 ⟨g, hg, decide_eq_true ⟨⟨m1, hobj⟩, hr⟩⟩
    rw [h4, Bool.true_or] at h3
    cases h3
 ·rw [if_pos, Bool.eq_false_iff.2 h2]
  rw [Bool.not_eq_true, Bool.or_eq_false_iff] at h2
  rw [List.all_eq_true]
  intro d hd
  rw [List.all_eq_true]
  intro k hk
  have hd2 := List.mem_range.1 hd
  rw [h2.1, Bool.or_false]
  have : s.Grants.any (mB user ((4 * o + 2 * i + d : Nat) : Int) ((k + 1 : Nat) : Int)) = false := by
   rw [Bool.eq_false_iff]
   intro q
   obtain ⟨g, hg, hm⟩ := List.any_eq_true.1 q
   obtain ⟨⟨m1, m2⟩, _⟩ := of_decide_eq_true hm
   have I := G.inb g hg
   obtain ⟨p1, _, _⟩ := obj_places ⟨I.o0, I.o1⟩
   have p2 : plcI g = g.Object / 2 := p1
   have h5 : gB user o i g = true := decide_eq_true ⟨m1, by rw [p2, m2]; omega⟩
   have h6 := List.any_eq_false.1 h2.2 g hg
   exact h6 h5
  rw [this]
  rfl
theorem place_l1 {s : GState} (G : GoodG s.Grants) {user owner : Int} {name : List UInt8} {u : Nat} (hu : u < 3) : loopO (g_ref_placeOf_l1 s user owner name (u : Int)) (0 : Int) = some (if (u : Int) = owner then foundB s user name u else .inr ()) := by
 have h := loop_first2 (step := g_ref_placeOf_l1 s user owner name (u : Int)) (fun k => (k : Int)) (fun i => decide ((u : Int) = owner) && hitB s user name u i) (fun k => .inl ((k : Int), 0)) (.inr ()) (fun i hi => by
  unfold g_ref_placeOf_l1 hitB
  dsimp only
  rw [if_pos (show (i : Int) < 2 by omega), if_pos (by omega), Int.toNat_natCast, Int.toNat_natCast, any_eq G hu hi, w64_succ (by omega)]
  by_cases h0 : (u : Int) = owner
  ·rw [if_pos h0, decide_eq_true h0, Bool.true_and]
   by_cases h1 : (tabS s u i).There = true
   ·rw [if_pos h1]
    by_cases h2 : (tabS s u i).Name = name
    ·rw [if_pos h2, decide_eq_true (show (tabS s u i).There = true ∧ (tabS s u i).Name = name from ⟨h1, h2⟩), Bool.true_and, Option.bind_some, Option.bind_some]
     cases (decide ((u : Int) = user) || s.Grants.any (gB user u i)) <;> rfl
    ·rw [if_neg h2, decide_eq_false (show ¬ ((tabS s u i).There = true ∧ (tabS s u i).Name = name) from fun q => h2 q.2), Bool.false_and]
     rfl
   ·rw [if_neg h1, decide_eq_false (show ¬ ((tabS s u i).There = true ∧ (tabS s u i).Name = name) from fun q => h1 q.1), Bool.false_and]
    rfl
  ·rw [if_neg h0, decide_eq_false h0, Bool.false_and]
   rfl) (by
  unfold g_ref_placeOf_l1
  dsimp only
  rw [if_neg (by decide)])
 rw [show ((0 : Int)) = ((0 : Nat) : Int) from rfl, h]
 unfold foundB
 by_cases h0 : (u : Int) = owner
 ·rw [if_pos h0, decide_eq_true h0, Bool.true_and, Bool.true_and]
  rfl
 ·rw [if_neg h0, decide_eq_false h0, Bool.false_and, Bool.false_and]
  rfl
theorem place_eq {s : GState} (G : GoodG s.Grants) {user owner : Int} {name : List UInt8} : g_ref_placeOf s user owner name = some (if h : 0 ≤ owner ∧ owner < 3 then (match foundB s user name owner.toNat with | .inl y => y | .inr _ => (0, 5)) else (0, 5)) := by
 have step : ∀ u : Nat, u < 3 → g_ref_placeOf_l0 s user owner name (u : Int) = some (match (if (u : Int) = owner then foundB s user name u else .inr ()) with | .inl y => .inr (.inl y) | .inr _ => .inl ((u + 1 : Nat) : Int)) := fun u hu => by
  unfold g_ref_placeOf_l0
  dsimp only
  rw [if_pos (show (u : Int) < 3 by omega), if_pos (by omega), place_l1 G hu, Option.bind_some, w64_succ (by omega)]
  cases (if (u : Int) = owner then foundB s user name u else .inr ()) <;> rfl
 have hend : loopO (g_ref_placeOf_l0 s user owner name) ((3 : Nat) : Int) = some (.inr ()) := loopO_done (by
  unfold g_ref_placeOf_l0
  dsimp only
  rw [if_neg (by decide)])
 have skip : ∀ u : Nat, u < 3 → (u : Int) ≠ owner → loopO (g_ref_placeOf_l0 s user owner name) (u : Int) = loopO (g_ref_placeOf_l0 s user owner name) ((u + 1 : Nat) : Int) := fun u hu hne => loopO_next (by
  rw [step u hu, if_neg hne])
 have hit : ∀ u : Nat, u < 3 → (u : Int) = owner → loopO (g_ref_placeOf_l0 s user owner name) ((u + 1 : Nat) : Int) = some (.inr ()) → loopO (g_ref_placeOf_l0 s user owner name) (u : Int) = some (foundB s user name u) := fun u hu he hn => by
  have hs := step u hu
  rw [if_pos he] at hs
  cases hf : foundB s user name u with
  | inl y => rw [hf] at hs; exact loopO_done hs
  | inr y => rw [hf] at hs; rw [loopO_next hs, hn]
 have key : loopO (g_ref_placeOf_l0 s user owner name) ((0 : Nat) : Int) = some (if h : 0 ≤ owner ∧ owner < 3 then foundB s user name owner.toNat else .inr ()) := by
  by_cases ho : 0 ≤ owner ∧ owner < 3
  ·rw [dif_pos ho]
   have h3 : owner = 0 ∨ owner = 1 ∨ owner = 2 := by omega
   rcases h3 with rfl | rfl | rfl
   ·exact hit 0 (by decide) rfl (by rw [skip 1 (by decide) (by decide), skip 2 (by decide) (by decide)]; exact hend)
   ·rw [skip 0 (by decide) (by decide)]
    exact hit 1 (by decide) rfl (by rw [skip 2 (by decide) (by decide)]; exact hend)
   ·rw [skip 0 (by decide) (by decide), skip 1 (by decide) (by decide)]
    exact hit 2 (by decide) rfl hend
  ·rw [dif_neg ho, skip 0 (by decide) (by omega), skip 1 (by decide) (by omega), skip 2 (by decide) (by omega)]
   exact hend
 have key2 : loopO (g_ref_placeOf_l0 s user owner name) (0 : Int) = some (if h : 0 ≤ owner ∧ owner < 3 then foundB s user name owner.toNat else .inr ()) := key
 unfold g_ref_placeOf
 rw [key2, Option.bind_some]
 by_cases ho : 0 ≤ owner ∧ owner < 3
 ·rw [dif_pos ho, dif_pos ho]
  cases foundB s user name owner.toNat <;> rfl
 ·rw [dif_neg ho, dif_neg ho]
theorem g_law_DeedPlaces_true {x0 : GState} {x1 : Int} {x2 : Int} {x3 : List UInt8} (q0 : GState.ok x0) (q1 : okI x1) (q2 : okI x2) (q3 : okT x3) : g_law_DeedPlaces x0 x1 x2 x3 = some true := by
 have key : ∃ r, g_deed_Place x0 x1 x2 x3 = some r ∧ g_ref_PlaceOf x0 x1 x2 x3 = some r := by
  unfold g_deed_Place g_ref_PlaceOf
  rw [check_state (st_ok q0), fault_state (st_ok q0), Option.bind_some, Option.bind_some]
  by_cases hb : stateB x0 = true
  ·rw [if_pos hb, if_neg (show ¬ ((0 : Int) ≠ 0) by decide), if_neg (show ¬ ((0 : Int) ≠ 0) by decide)]
   by_cases hu : x1 < 0 ∨ x1 ≥ 3
   ·rw [if_pos hu, if_pos hu]
    exact ⟨_, rfl, rfl⟩
   ·rw [if_neg hu, if_neg hu]
    have G : GoodG x0.Grants := by
     obtain ⟨e, hc, _, hG⟩ := rcheck_eq x0.Grants
     unfold stateB at hb
     rw [Bool.and_eq_true] at hb
     have := of_decide_eq_true hb.1
     rw [hc] at this
     exact hG (by injection this)
    rw [place_eq G]
    by_cases ho : 0 ≤ x2 ∧ x2 < 3
    ·obtain ⟨o, rfl⟩ := Int.eq_ofNat_of_zero_le ho.1
     rw [placed_eq G (show o < 3 by omega), dif_pos ho]
     exact ⟨_, rfl, rfl⟩
    ·have : g_deed_placed x0 x1 x2 x3 = some (0, 5) := by
      unfold g_deed_placed
      rw [if_pos (by omega)]
     rw [this, dif_neg ho]
     exact ⟨_, rfl, rfl⟩
  ·rw [if_neg hb, if_pos (show (11 : Int) ≠ 0 by decide), if_pos (show (11 : Int) ≠ 0 by decide)]
   exact ⟨_, rfl, rfl⟩
 obtain ⟨r, h1, h2⟩ := key
 unfold g_law_DeedPlaces
 rw [h1, h2, Option.bind_some, Option.bind_some, decide_eq_true ⟨rfl, rfl⟩]
end Go.Proofs.YtpgimlllchibnaaDoor.VM

