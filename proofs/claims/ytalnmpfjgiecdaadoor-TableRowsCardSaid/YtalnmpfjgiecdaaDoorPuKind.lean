import Derived.Test.YtalnmpfjgiecdaaDoorVtFloat
import Derived.Test.YtalnmpfjgiecdaaDoorPuBase
/- Words and rules that the proof uses. -/
namespace Go.Proofs.YtalnmpfjgiecdaaDoor.VM
open Go Go.RowKit
def rung (b : F64) : Nat := b.toNat % 9223372036854775808
def negF (b : F64) : Bool := Nat.ble 9223372036854775808 b.toNat
def magF (r : Nat) : Nat := if r < 4503599627370496 then r else (4503599627370496 + r % 4503599627370496) * 2 ^ (r / 4503599627370496 - 1)
theorem magF_succ (r : Nat) : magF r < magF (r + 1) := by
 unfold magF
 by_cases h : r + 1 < 4503599627370496
 ·rw [if_pos h, if_pos (by omega)]; omega
 ·rw [if_neg h]
  by_cases h2 : r < 4503599627370496
  ·have : r + 1 = 4503599627370496 := by omega
   rw [if_pos h2, this]
   show r < 4503599627370496 * 2 ^ 0
   omega
  ·rw [if_neg h2]
   by_cases h3 : (r + 1) / 4503599627370496 = r / 4503599627370496
   ·rw [h3]
    refine Nat.mul_lt_mul_of_pos_right ?_ (Nat.two_pow_pos _)
    omega
   ·have h4 : (r + 1) / 4503599627370496 = r / 4503599627370496 + 1 := by omega
    have h5 : r % 4503599627370496 = 4503599627370495 := by omega
    have h6 : (r + 1) % 4503599627370496 = 0 := by omega
    have h7 : r / 4503599627370496 ≥ 1 := by omega
    rw [h4, h5, h6, show r / 4503599627370496 + 1 - 1 = (r / 4503599627370496 - 1) + 1 by omega, Nat.pow_succ]
    have := Nat.two_pow_pos (r / 4503599627370496 - 1)
    generalize 2 ^ (r / 4503599627370496 - 1) = p at *
    omega
theorem magF_mono {r q : Nat} (h : r < q) : magF r < magF q := by
 induction q with
 | zero => omega
 | succ q ih =>
  by_cases hr : r = q
  ·subst hr; exact magF_succ r
  ·exact Nat.lt_trans (ih (by omega)) (magF_succ q)
theorem magF_inj {r q : Nat} (h : magF r = magF q) : r = q := by
 rcases Nat.lt_trichotomy r q with h1 | h1 | h1
 ·have := magF_mono h1; omega
 ·exact h1
 ·have := magF_mono h1; omega
def upF (r : Nat) : Nat := if r < 4503599627370496 then 0 else r / 4503599627370496 - 1
def sigF (r : Nat) : Nat := if r < 4503599627370496 then r else 4503599627370496 + r % 4503599627370496
theorem magF_eq (r : Nat) : magF r = sigF r * 2 ^ upF r := by
 unfold magF sigF upF
 split <;> simp
theorem read_num {b : F64} (h : rung b < 9218868437227405312) : FloatKind.f64.format.read b.toNat = .number (negF b) (sigF (rung b)) ((-1074 : Int) + (upF (rung b) : Nat)) := by
 have hb : b.toNat < 18446744073709551616 := b.toNat_lt
 unfold Ieee.Format.read
 have e1 : FloatKind.f64.format.signWeight = 9223372036854775808 := by decide
 have e2 : FloatKind.f64.format.binade = 4503599627370496 := by decide
 have e3 : FloatKind.f64.format.infRung = 9218868437227405312 := by decide
 have e4 : FloatKind.f64.format.leastPlace = -1074 := by decide
 rw [e1, e2, e3, e4]
 have hn : (b.toNat / 9223372036854775808 % 2 == 1) = negF b := by
  unfold negF
  by_cases hc : 9223372036854775808 ≤ b.toNat
  ·rw [Nat.ble_eq_true_of_le hc]
   have : b.toNat / 9223372036854775808 % 2 = 1 := by omega
   rw [this]; rfl
  ·have h1 : Nat.ble 9223372036854775808 b.toNat = false := Bool.eq_false_iff.2 fun q => hc (Nat.le_of_ble_eq_true q)
   rw [h1]
   have : b.toNat / 9223372036854775808 % 2 = 0 := by omega
   rw [this]; rfl
 rw [hn]
 unfold rung at h
 unfold sigF upF rung
 dsimp only
 by_cases hs : b.toNat % 9223372036854775808 < 4503599627370496
 ·rw [if_pos hs, if_pos hs, if_pos hs]
  rfl
 ·rw [if_neg hs, if_neg hs, if_neg hs, if_pos h]
theorem read_inf {b : F64} (h : rung b = 9218868437227405312) : FloatKind.f64.format.read b.toNat = .infinity (negF b) := by
 have hb : b.toNat < 18446744073709551616 := b.toNat_lt
 unfold Ieee.Format.read
 have e1 : FloatKind.f64.format.signWeight = 9223372036854775808 := by decide
 have e2 : FloatKind.f64.format.binade = 4503599627370496 := by decide
 have e3 : FloatKind.f64.format.infRung = 9218868437227405312 := by decide
 rw [e1, e2, e3]
 have hn : (b.toNat / 9223372036854775808 % 2 == 1) = negF b := by
  unfold negF
  by_cases hc : 9223372036854775808 ≤ b.toNat
  ·rw [Nat.ble_eq_true_of_le hc]
   have : b.toNat / 9223372036854775808 % 2 = 1 := by omega
   rw [this]; rfl
  ·have h1 : Nat.ble 9223372036854775808 b.toNat = false := Bool.eq_false_iff.2 fun q => hc (Nat.le_of_ble_eq_true q)
   rw [h1]
   have : b.toNat / 9223372036854775808 % 2 = 0 := by omega
   rw [this]; rfl
 rw [hn]
 unfold rung at h
 dsimp only
 rw [h, if_neg (by decide), if_neg (by decide), if_pos rfl]
theorem read_nan {b : F64} (h : rung b > 9218868437227405312) : ∃ s t, FloatKind.f64.format.read b.toNat = .nan s t := by
 unfold Ieee.Format.read
 have e1 : FloatKind.f64.format.signWeight = 9223372036854775808 := by decide
 have e2 : FloatKind.f64.format.binade = 4503599627370496 := by decide
 have e3 : FloatKind.f64.format.infRung = 9218868437227405312 := by decide
 rw [e1, e2, e3]
 unfold rung at h
 dsimp only
 rw [if_neg (by omega), if_neg (by omega), if_neg (by omega)]
 exact ⟨_, _, rfl⟩
def skey (b : F64) : Int := if negF b = true then -((rung b : Nat) : Int) else ((rung b : Nat) : Int)
theorem cmp_scale (x y : Int) {p : Nat} (hp : 0 < p) : compare x y = compare (x * (p : Int)) (y * (p : Int)) := by
 have hp2 : (0 : Int) < (p : Int) := by omega
 have h1 : x < y ↔ x * (p : Int) < y * (p : Int) := ⟨fun h => Int.mul_lt_mul_of_pos_right h hp2, fun h => Int.lt_of_mul_lt_mul_right h (Int.le_of_lt hp2)⟩
 have h2 : x = y ↔ x * (p : Int) = y * (p : Int) := ⟨fun h => by rw [h], fun h => Int.eq_of_mul_eq_mul_right (by omega) h⟩
 simp only [compare, compareOfLessAndEq]
 by_cases h3 : x < y
 ·rw [if_pos h3, if_pos (h1.1 h3)]
 ·rw [if_neg h3, if_neg (fun q => h3 (h1.2 q))]
  by_cases h4 : x = y
  ·rw [if_pos h4, if_pos (h2.1 h4)]
  ·rw [if_neg h4, if_neg (fun q => h4 (h2.2 q))]
theorem cmp_iff {x y x' y' : Int} (h1 : x < y ↔ x' < y') (h2 : x = y ↔ x' = y') : compare x y = compare x' y' := by
 simp only [compare, compareOfLessAndEq]
 by_cases h3 : x < y
 ·rw [if_pos h3, if_pos (h1.1 h3)]
 ·rw [if_neg h3, if_neg (fun q => h3 (h1.2 q))]
  by_cases h4 : x = y
  ·rw [if_pos h4, if_pos (h2.1 h4)]
  ·rw [if_neg h4, if_neg (fun q => h4 (h2.2 q))]
theorem signed_scale (s : Bool) (m up k : Nat) : Ieee.signed s m up * ((2 ^ k : Nat) : Int) = if s = true then -((m * 2 ^ (up + k) : Nat) : Int) else ((m * 2 ^ (up + k) : Nat) : Int) := by
 unfold Ieee.signed
 rw [Nat.shiftLeft_eq, Nat.pow_add, ← Nat.mul_assoc]
 split
 ·rw [Int.neg_mul]; rfl
 ·rfl
theorem ford_num {a b : F64} (ha : rung a < 9218868437227405312) (hb : rung b < 9218868437227405312) : ford a b = some (compare (skey a) (skey b)) := by
 unfold ford Ieee.Format.order
 rw [read_num ha, read_num hb]
 unfold Ieee.Datum.order
 dsimp only
 congr 1
 generalize hua : upF (rung a) = ua
 generalize hub : upF (rung b) = ub
 have hmin : min ((-1074 : Int) + (ua : Nat)) ((-1074 : Int) + (ub : Nat)) = (-1074 : Int) + ((min ua ub : Nat) : Int) := by omega
 rw [hmin]
 have e1 : ((-1074 : Int) + (ua : Nat) - ((-1074 : Int) + ((min ua ub : Nat) : Int))).toNat = ua - min ua ub := by omega
 have e2 : ((-1074 : Int) + (ub : Nat) - ((-1074 : Int) + ((min ua ub : Nat) : Int))).toNat = ub - min ua ub := by omega
 rw [e1, e2, cmp_scale _ _ (p := 2 ^ min ua ub) (Nat.two_pow_pos _), signed_scale, signed_scale, show ua - min ua ub + min ua ub = ua by omega, show ub - min ua ub + min ua ub = ub by omega, ← hua, ← hub, ← magF_eq, ← magF_eq]
 unfold skey
 have m1 : rung a < rung b ↔ magF (rung a) < magF (rung b) := ⟨magF_mono, fun h => Nat.lt_of_not_le fun q => by
  rcases Nat.lt_or_ge (rung b) (rung a) with h2 | h2
  ·have := magF_mono h2; omega
  ·have : rung a = rung b := by omega
   rw [this] at h; omega⟩
 have m2 : rung a = rung b ↔ magF (rung a) = magF (rung b) := ⟨fun h => by rw [h], magF_inj⟩
 have z1 : rung a = 0 ↔ magF (rung a) = 0 := ⟨fun h => by rw [h]; rfl, fun h => magF_inj (h.trans rfl)⟩
 have z2 : rung b = 0 ↔ magF (rung b) = 0 := ⟨fun h => by rw [h]; rfl, fun h => magF_inj (h.trans rfl)⟩
 generalize magF (rung a) = x at *
 generalize magF (rung b) = y at *
 generalize rung a = r at *
 generalize rung b = q at *
 refine cmp_iff ?_ ?_
 ·split <;> split <;> omega
 ·split <;> split <;> omega
theorem cmp_lt {x y : Int} : (compare x y = .lt) ↔ x < y := by
 simp only [compare, compareOfLessAndEq]
 by_cases h : x < y
 ·simp [h]
 ·rw [if_neg h]
  by_cases h2 : x = y
  ·simp [h2]
  ·simp [h, h2]
theorem cmp_eq {x y : Int} : (compare x y = .eq) ↔ x = y := by
 simp only [compare, compareOfLessAndEq]
 by_cases h : x < y
 ·simp [h]; omega
 ·rw [if_neg h]
  by_cases h2 : x = y
  ·simp [h2]
  ·simp [h2]
theorem cmp_gt {x y : Int} : (compare x y = .gt) ↔ y < x := by
 simp only [compare, compareOfLessAndEq]
 by_cases h : x < y
 ·simp [h]; omega
 ·rw [if_neg h]
  by_cases h2 : x = y
  ·simp [h2]
  ·simp [h2]; omega
theorem ford_eq {a b : F64} (ha : rung a ≤ 9218868437227405312) (hb : rung b ≤ 9218868437227405312) : ford a b = some (compare (skey a) (skey b)) := by
 by_cases h1 : rung a = 9218868437227405312
 ·by_cases h2 : rung b = 9218868437227405312
  ·unfold ford Ieee.Format.order skey
   rw [read_inf h1, read_inf h2, h1, h2]
   cases negF a <;> cases negF b <;> rfl
  ·unfold ford Ieee.Format.order skey
   rw [read_inf h1, read_num (by omega), h1]
   unfold Ieee.Datum.order
   dsimp only
   congr 1
   generalize rung b = q at *
   cases negF a
   ·simp only [Bool.false_eq_true, if_false]
    exact (cmp_gt.2 (by split <;> omega)).symm
   ·simp only [if_true]
    exact (cmp_lt.2 (by split <;> omega)).symm
 ·by_cases h2 : rung b = 9218868437227405312
  ·unfold ford Ieee.Format.order skey
   rw [read_inf h2, read_num (by omega), h2]
   unfold Ieee.Datum.order
   dsimp only
   congr 1
   generalize rung a = q at *
   cases negF b
   ·simp only [Bool.false_eq_true, if_false]
    exact (cmp_lt.2 (by split <;> omega)).symm
   ·simp only [if_true]
    exact (cmp_gt.2 (by split <;> omega)).symm
  ·exact ford_num (by omega) (by omega)
theorem ford_nan {a : F64} (h : rung a > 9218868437227405312) : ford a a = none := by
 obtain ⟨s, t, e⟩ := read_nan h
 unfold ford Ieee.Format.order
 rw [e]
 rfl
end Go.Proofs.YtalnmpfjgiecdaaDoor.VM

/- Words and rules that the proof uses. -/
namespace Go.Proofs.YtalnmpfjgiecdaaDoor.VM
open Go Go.RowKit
theorem word_ok {s : List UInt8} (h : 8 ≤ s.length) : ∃ w, g_utf8_word_string s = some w := by
 unfold g_utf8_word_string
 rw [if_neg (by decide), if_pos (by omega), if_pos (by omega), if_pos (by omega), if_pos (by omega), if_pos (by omega), if_pos (by omega), if_pos (by omega), if_pos (by omega), letO_eq]
 exact ⟨_, rfl⟩
theorem cutl {s : List UInt8} {a : Int} (h : 0 ≤ a ∧ a ≤ (s.length : Int)) : (cut s a (s.length : Int)).length = s.length - a.toNat := by
 rw [cut_len ⟨h.1, h.2, Int.le_refl _⟩, Int.toNat_natCast]
theorem fast_ok {s : List UInt8} (h : 32 < s.length) : ∃ b, ((g_utf8_word_string s).bind fun r'9 => if 0 ≤ (8 : Int) ∧ (8 : Int) ≤ (s.length : Int) then (g_utf8_word_string (cut s (8 : Int) (s.length : Int))).bind fun r'10 => if 0 ≤ (16 : Int) ∧ (16 : Int) ≤ (s.length : Int) then (g_utf8_word_string (cut s (16 : Int) (s.length : Int))).bind fun r'11 => if 0 ≤ (24 : Int) ∧ (24 : Int) ≤ (s.length : Int) then (g_utf8_word_string (cut s (24 : Int) (s.length : Int))).bind fun r'12 => some (decide (((r'9 ||| r'10) ||| (r'11 ||| r'12)) &&& (9259542123273814144 : UInt64) = (0 : UInt64))) else none else none else none) = some b := by
 obtain ⟨w1, h1⟩ := word_ok (s := s) (by omega)
 obtain ⟨w2, h2⟩ := word_ok (s := cut s (8 : Int) (s.length : Int)) (by rw [cutl (by omega)]; omega)
 obtain ⟨w3, h3⟩ := word_ok (s := cut s (16 : Int) (s.length : Int)) (by rw [cutl (by omega)]; omega)
 obtain ⟨w4, h4⟩ := word_ok (s := cut s (24 : Int) (s.length : Int)) (by rw [cutl (by omega)]; omega)
 rw [h1, Option.bind_some, if_pos (by omega), h2, Option.bind_some, if_pos (by omega), h3, Option.bind_some, if_pos (by omega), h4, Option.bind_some]
 exact ⟨_, rfl⟩
theorem quick_loop (n : Nat) {s : List UInt8} (h : s.length ≤ n) : ∃ r : List UInt8, loopO g_utf8_ValidString_l1 s = some r ∧ r.length ≤ n := by
 refine loopO_rule (fun s : List UInt8 => s.length ≤ n) (fun r : List UInt8 => r.length ≤ n) List.length (fun s hs => ?_) h
 unfold g_utf8_ValidString_l1
 dsimp only
 by_cases h1 : (s.length : Int) > 32
 ·rw [if_pos h1]
  obtain ⟨b, hb⟩ := fast_ok (s := s) (by omega)
  rw [hb, Option.bind_some]
  cases b with
  | true =>
   rw [if_pos rfl, if_pos (by omega)]
   exact .inl ⟨_, rfl, by rw [cutl (by omega)]; omega, by rw [cutl (by omega)]; omega⟩
  | false =>
   rw [if_neg (by decide)]
   exact .inr ⟨_, rfl, hs⟩
 ·rw [if_neg h1]
  exact .inr ⟨_, rfl, hs⟩
theorem skip_ok {s : List UInt8} (h : 0 < s.length) : ∃ j, (((if ((cut s (1 : Int) (s.length : Int)).length : Int) > (8 : Int) then (g_utf8_word_string (cut s (1 : Int) (s.length : Int))).bind fun r'3 => some (decide (r'3 &&& (9259542123273814144 : UInt64) = (0 : UInt64))) else some false)).bind fun g'4 => (if g'4 = true then if 0 ≤ (8 : Int) ∧ (8 : Int) ≤ ((cut s (1 : Int) (s.length : Int)).length : Int) then letO ((cut (cut s (1 : Int) (s.length : Int)) (8 : Int) ((cut s (1 : Int) (s.length : Int)).length : Int))) fun s0'5 => ((if (s0'5.length : Int) > (16 : Int) then (g_utf8_word_string s0'5).bind fun r'6 => if 0 ≤ (8 : Int) ∧ (8 : Int) ≤ (s0'5.length : Int) then (g_utf8_word_string (cut s0'5 (8 : Int) (s0'5.length : Int))).bind fun r'7 => some (decide ((r'6 ||| r'7) &&& (9259542123273814144 : UInt64) = (0 : UInt64))) else none else some false)).bind fun g'8 => (if g'8 = true then if 0 ≤ (16 : Int) ∧ (16 : Int) ≤ (s0'5.length : Int) then (loopO (g_utf8_ValidString_l1) (cut s0'5 (16 : Int) (s0'5.length : Int))).bind fun y'17 => some y'17 else none else some s0'5) else none else some (cut s (1 : Int) (s.length : Int)))) = some j ∧ j.length < s.length := by
 have hc : (cut s (1 : Int) (s.length : Int)).length = s.length - 1 := by rw [cutl (by omega)]; rfl
 generalize cut s (1 : Int) (s.length : Int) = t at *
 by_cases h1 : (t.length : Int) > 8
 ·rw [if_pos h1]
  obtain ⟨w, hw⟩ := word_ok (s := t) (by omega)
  rw [hw, Option.bind_some, Option.bind_some]
  by_cases h2 : decide (w &&& (9259542123273814144 : UInt64) = (0 : UInt64)) = true
  ·rw [if_pos h2, if_pos (by omega), letO_eq]
   have hu : (cut t (8 : Int) (t.length : Int)).length = t.length - 8 := by rw [cutl (by omega)]; rfl
   generalize cut t (8 : Int) (t.length : Int) = u at *
   by_cases h3 : (u.length : Int) > 16
   ·obtain ⟨w2, hw2⟩ := word_ok (s := u) (by omega)
    obtain ⟨w3, hw3⟩ := word_ok (s := cut u (8 : Int) (u.length : Int)) (by rw [cutl (by omega)]; omega)
    rw [if_pos h3, hw2, Option.bind_some, if_pos (by omega), hw3, Option.bind_some, Option.bind_some]
    by_cases h4 : decide ((w2 ||| w3) &&& (9259542123273814144 : UInt64) = (0 : UInt64)) = true
    ·rw [if_pos h4, if_pos (by omega)]
     obtain ⟨r, hr, hl⟩ := quick_loop (u.length - 16) (s := cut u (16 : Int) (u.length : Int)) (by rw [cutl (by omega)]; exact Nat.le_refl _)
     rw [hr]
     exact ⟨r, rfl, by omega⟩
    ·rw [if_neg h4]
     exact ⟨_, rfl, by omega⟩
   ·rw [if_neg h3, Option.bind_some, if_neg (by decide)]
    exact ⟨_, rfl, by omega⟩
  ·rw [if_neg h2]
   exact ⟨_, rfl, by omega⟩
 ·rw [if_neg h1, Option.bind_some, if_neg (by decide)]
  exact ⟨_, rfl, by omega⟩
theorem two_ok {s : List UInt8} {lo hi : UInt8} (h : 0 < s.length) : ∃ b, (if (s.length : Int) < (2 : Int) then some true else if 1 < s.length then (if (lrd s 1) < lo then some true else if 1 < s.length then some (decide (hi < (lrd s 1))) else none) else none) = some b ∧ (b = false → 2 ≤ s.length) := by
 by_cases h1 : (s.length : Int) < 2
 ·rw [if_pos h1]; exact ⟨_, rfl, fun q => by cases q⟩
 ·rw [if_neg h1, if_pos (by omega)]
  split
  ·exact ⟨_, rfl, fun q => by cases q⟩
  ·rw [if_pos (by omega)]; exact ⟨_, rfl, fun _ => by omega⟩
theorem valid_ok (s : List UInt8) : ∃ b, g_utf8_ValidString s = some b := by
 unfold g_utf8_ValidString
 have : ∃ r, loopO g_utf8_ValidString_l0 s = some r ∧ True := by
  refine loopO_rule (fun _ => True) (fun _ => True) List.length (fun s _ => ?_) trivial
  unfold g_utf8_ValidString_l0
  dsimp only
  by_cases h0 : (s.length : Int) > 0
  ·rw [if_pos h0, if_pos (by omega)]
   by_cases h1 : lrd s 0 < (128 : UInt8)
   ·rw [if_pos h1, if_pos (by omega)]
    obtain ⟨j, hj, hl⟩ := skip_ok (s := s) (by omega)
    rw [hj, Option.bind_some]
    exact .inl ⟨_, rfl, trivial, hl⟩
   ·have hb : (lrd s 0).toNat < 256 := (lrd s 0).toNat_lt
    have hx : ∀ x : UInt8, 0 ≤ ((shr_u8 x 4).toNat : Int) ∧ ((shr_u8 x 4).toNat : Int) < 16 := by
     intro x
     have h1 : (shr_u8 x 4).toNat = x.toNat / 16 := by
      show (x.toBitVec >>> 4).toNat = _
      rw [BitVec.toNat_ushiftRight, Nat.shiftRight_eq_div_pow]
      rfl
     have := x.toNat_lt
     rw [h1]
     omega
    rw [if_neg h1, if_pos (by omega), letO_eq, if_pos (hx _), letO_eq]
    generalize (lrd _ _ : Gutf8_acceptRange) = a
    generalize ((_ &&& (7 : UInt8)).toNat : Int) = z
    by_cases z2 : z = 2
    ·rw [if_pos z2]
     obtain ⟨b, hb, hl⟩ := two_ok (s := s) (lo := a.lo_) (hi := a.hi_) (by omega)
     rw [hb, Option.bind_some]
     cases b with
     | true => rw [if_pos rfl]; exact .inr ⟨_, rfl, trivial⟩
     | false =>
      have := hl rfl
      rw [if_neg (by decide), if_pos (by omega)]
      exact .inl ⟨_, rfl, trivial, by rw [cutl (by omega)]; omega⟩
    ·rw [if_neg z2]
     by_cases z3 : z = 3
     ·rw [if_pos z3]
      by_cases l3 : (s.length : Int) < 3
      ·rw [if_pos l3, Option.bind_some, if_pos rfl]; exact .inr ⟨_, rfl, trivial⟩
      ·rw [if_neg l3, if_pos (show 1 < s.length by omega), if_pos (show 1 < s.length by omega), if_pos (show 2 < s.length by omega), if_pos (show 2 < s.length by omega), if_pos (show 0 ≤ (3 : Int) ∧ (3 : Int) ≤ (s.length : Int) by omega)]
       have hd : (cut s (3 : Int) (s.length : Int)).length < s.length := by rw [cutl (by omega)]; omega
       split
       ·exact .inr ⟨_, rfl, trivial⟩
       ·split
        ·exact .inr ⟨_, rfl, trivial⟩
        ·split
         ·exact .inr ⟨_, rfl, trivial⟩
         ·rw [Option.bind_some]
          split
          ·exact .inr ⟨_, rfl, trivial⟩
          ·exact .inl ⟨_, rfl, trivial, hd⟩
     ·rw [if_neg z3]
      by_cases z4 : z = 4
      ·rw [if_pos z4]
       by_cases l3 : (s.length : Int) < 4
       ·rw [if_pos l3, Option.bind_some, if_pos rfl]; exact .inr ⟨_, rfl, trivial⟩
       ·rw [if_neg l3, if_pos (show 1 < s.length by omega), if_pos (show 1 < s.length by omega), if_pos (show 2 < s.length by omega), if_pos (show 2 < s.length by omega), if_pos (show 3 < s.length by omega), if_pos (show 3 < s.length by omega), if_pos (show 0 ≤ (4 : Int) ∧ (4 : Int) ≤ (s.length : Int) by omega)]
        have hd : (cut s (4 : Int) (s.length : Int)).length < s.length := by rw [cutl (by omega)]; omega
        split
        ·exact .inr ⟨_, rfl, trivial⟩
        ·split
         ·exact .inr ⟨_, rfl, trivial⟩
         ·split
          ·exact .inr ⟨_, rfl, trivial⟩
          ·split
           ·exact .inr ⟨_, rfl, trivial⟩
           ·split
            ·exact .inr ⟨_, rfl, trivial⟩
            ·rw [Option.bind_some]
             split
             ·exact .inr ⟨_, rfl, trivial⟩
             ·exact .inl ⟨_, rfl, trivial, hd⟩
      ·rw [if_neg z4]
       exact .inr ⟨_, rfl, trivial⟩
  ·rw [if_neg h0]
   exact .inr ⟨_, rfl, trivial⟩
 obtain ⟨r, hr, _⟩ := this
 rw [hr, Option.bind_some]
 cases r with
 | inl b => exact ⟨_, rfl⟩
 | inr u => exact ⟨_, rfl⟩
theorem valid_nil : g_utf8_ValidString [] = some true := by
 unfold g_utf8_ValidString
 rw [loopO_done (r := .inr ()) (by unfold g_utf8_ValidString_l0; rfl)]
 rfl
end Go.Proofs.YtalnmpfjgiecdaaDoor.VM

/- Words and rules that the proof uses. -/
namespace Go.Proofs.YtalnmpfjgiecdaaDoor.VM
open Go Go.RowKit
theorem shl1_nat (b : UInt64) : (shl_u64 b 1).toNat = 2 * (b.toNat % 9223372036854775808) := by
 show (b.toBitVec <<< 1).toNat = _
 rw [BitVec.toNat_shiftLeft, Nat.shiftLeft_eq]
 show b.toNat * 2 ^ 1 % 2 ^ 64 = _
 omega
theorem bad_iff (b : UInt64) : ((18437736874454810624 : UInt64) < shl_u64 b 1) ↔ rung b > 9218868437227405312 := by
 rw [UInt64.lt_iff_toNat_lt, shl1_nat]
 show 18437736874454810624 < _ ↔ _
 unfold rung
 omega
theorem top_iff (b : UInt64) : b = (9223372036854775808 : UInt64) ↔ b.toNat = 9223372036854775808 := by
 constructor
 ·intro h; rw [h]; rfl
 ·intro h; exact UInt64.toNat_inj.1 h
theorem sign_eq (b : UInt64) : (w64 (b.toNat : Int) < 0) ↔ 9223372036854775808 ≤ b.toNat := by
 have hb : b.toNat < 18446744073709551616 := b.toNat_lt
 unfold w64 IntKind.wrap
 have e1 : (2 ^ IntKind.i64.bits : Int) = 18446744073709551616 := by decide
 have e2 : (2 ^ (IntKind.i64.bits - 1) : Int) = 9223372036854775808 := by decide
 have e3 : IntKind.i64.signed = true := rfl
 rw [e1, e2, e3]
 simp only [Bool.true_and, decide_eq_true_eq]
 split <;> omega
theorem skey0 : skey (0 : F64) = 0 := by decide
theorem ford_self {b : F64} (h : rung b ≤ 9218868437227405312) : ford b b = some .eq := by
 rw [ford_eq h h, cmp_eq.2 rfl]
theorem real_bad (b : UInt64) : (if (fneq b b) = true then some true else (if (feq b (0 : F64)) = true then (g_math_Signbit b).bind fun r'4 => some r'4 else some false)) = some (decide ((b = (9223372036854775808 : UInt64)) ∨ ((18437736874454810624 : UInt64) < shl_u64 b 1))) := by
 have hb : b.toNat < 18446744073709551616 := b.toNat_lt
 by_cases h : rung b > 9218868437227405312
 ·have : fneq b b = true := by unfold fneq; rw [ford_nan h]; rfl
  rw [if_pos this, decide_eq_true (.inr ((bad_iff b).2 h))]
 ·have h' : rung b ≤ 9218868437227405312 := by omega
  have h1 : ¬ (fneq b b = true) := by unfold fneq; rw [ford_self h']; decide
  rw [if_neg h1]
  by_cases h2 : rung b = 0
  ·have h3 : feq b (0 : F64) = true := by
    unfold feq
    rw [ford_eq h' (by decide), skey0]
    have : skey b = 0 := by unfold skey; rw [h2]; split <;> rfl
    rw [this]
    rfl
   rw [if_pos h3]
   unfold g_math_Signbit
   rw [Option.bind_some]
   congr 1
   rw [decide_eq_decide, sign_eq, top_iff, bad_iff]
   unfold rung at *
   omega
  ·have h3 : ¬ (feq b (0 : F64) = true) := by
    unfold feq
    rw [ford_eq h' (by decide), skey0]
    intro q
    have q2 : compare (skey b) 0 = .eq := by simpa using q
    have := cmp_eq.1 q2
    unfold skey at this
    split at this <;> omega
   rw [if_neg h3, decide_eq_false]
   rw [top_iff, bad_iff]
   unfold rung at *
   omega
theorem u64i (n : Int) : (UInt64.ofInt n).toNat = (n % 18446744073709551616).toNat := by
 unfold UInt64.ofInt
 rw [UInt64.toNat_ofNat']
 have : (2 : Int) ^ 64 = 18446744073709551616 := by decide
 have : (2 : Nat) ^ 64 = 18446744073709551616 := by decide
 omega
def okV1 (v : GValue) : Prop := 0 ≤ v.Kind ∧ v.Kind ≤ 4 ∧ v.Text.length ≤ 40 ∧ (v.Kind = 3 → ¬ ((v.Bits = (9223372036854775808 : UInt64)) ∨ ((18437736874454810624 : UInt64) < shl_u64 v.Bits 1)))
theorem check_eq (v : GValue) (hi : okI v.Int_) : ∃ e : Int, g_value_Check v = some e ∧ g_ref_ValueFault v = some e ∧ (e = 0 → okV1 v) := by
 obtain ⟨k, i, b, t⟩ := v
 unfold okI at hi
 dsimp only at hi
 obtain ⟨vb, hv⟩ := valid_ok t
 unfold g_value_Check g_ref_ValueFault g_ref_badReal okV1
 dsimp only
 by_cases hk : k < 0 ∨ k > 4
 ·rw [if_pos hk, if_neg (show ¬ k = 0 by omega), if_neg (show ¬ k = 1 by omega), Option.bind_some, decide_eq_false (show ¬ k = 2 by omega), if_neg (by decide), if_neg (show ¬ k = 3 by omega), if_neg (show ¬ k = 4 by omega)]
  exact ⟨2, rfl, rfl, fun q => absurd q (by decide)⟩
 ·rw [if_neg hk]
  by_cases hl : (t.length : Int) > 40
  ·rw [if_pos hl]
   refine ⟨1, rfl, ?_, fun q => absurd q (by decide)⟩
   have hk5 : k = 0 ∨ k = 1 ∨ k = 2 ∨ k = 3 ∨ k = 4 := by omega
   rcases hk5 with rfl | rfl | rfl | rfl | rfl <;> simp [hl]
  ·rw [if_neg hl, letO_eq]
   have hk5 : k = 0 ∨ k = 1 ∨ k = 2 ∨ k = 3 ∨ k = 4 := by omega
   rcases hk5 with rfl | rfl | rfl | rfl | rfl
   ·by_cases h : t = [] ∧ b = 0 ∧ i = 0
    ·obtain ⟨rfl, rfl, rfl⟩ := h
     refine ⟨0, by simp, ?_, fun _ => by simp⟩
     simp [valid_nil, GValue.zero]
    ·refine ⟨3, ?_, ?_, fun q => absurd q (by decide)⟩
     ·rw [if_pos]
      simp
      by_cases h1 : t = []
      ·by_cases h2 : b = 0
       ·exact .inr fun q => h ⟨h1, h2, q⟩
       ·exact .inl (.inr h2)
      ·exact .inl (.inl h1)
     ·simp [GValue.zero, hl]
      rw [if_neg (fun q => h ⟨q.2.2, q.2.1, q.1⟩)]
      rfl
   ·by_cases h : t = [] ∧ b = 0
    ·obtain ⟨rfl, rfl⟩ := h
     by_cases hi2 : i = 0 ∨ i = 1
     ·have h1 : ¬ ((1 : UInt64) < UInt64.ofInt i) := by
       rw [UInt64.lt_iff_toNat_lt, u64i]
       show ¬ 1 < _
       omega
      refine ⟨0, ?_, ?_, fun _ => by simp⟩
      ·simp
       rw [if_neg (by omega)]
       rfl
      ·simp [GValue.zero, valid_nil]
       rw [if_neg h1]
       rfl
     ·have h1 : (1 : UInt64) < UInt64.ofInt i := by
       rw [UInt64.lt_iff_toNat_lt, u64i]
       show 1 < _
       omega
      refine ⟨3, ?_, ?_, fun q => absurd q (by decide)⟩
      ·simp
       rw [if_pos (by omega)]
       rfl
      ·simp [GValue.zero]
       rw [if_pos h1]
       rfl
    ·refine ⟨3, ?_, ?_, fun q => absurd q (by decide)⟩
     ·rw [if_pos]
      simp
      by_cases h1 : t = []
      ·exact .inr fun q => h ⟨h1, q⟩
      ·exact .inl h1
     ·simp [GValue.zero, hl]
      rw [if_neg (fun q => h ⟨q.2, q.1⟩)]
      rfl
   ·by_cases h : t = [] ∧ b = 0
    ·obtain ⟨rfl, rfl⟩ := h
     refine ⟨0, by simp, ?_, fun _ => by simp⟩
     simp [valid_nil, GValue.zero]
    ·refine ⟨3, ?_, ?_, fun q => absurd q (by decide)⟩
     ·rw [if_pos]
      simp
      by_cases h1 : t = []
      ·exact .inr fun q => h ⟨h1, q⟩
      ·exact .inl h1
     ·simp [GValue.zero, hl]
      rw [if_neg (fun q => h ⟨q.2, q.1⟩)]
      rfl
   ·by_cases h : t = [] ∧ i = 0
    ·obtain ⟨rfl, rfl⟩ := h
     have hr := real_bad b
     by_cases hb : (b = (9223372036854775808 : UInt64)) ∨ ((18437736874454810624 : UInt64) < shl_u64 b 1)
     ·refine ⟨3, ?_, ?_, fun q => absurd q (by decide)⟩
      ·rw [if_neg (by simp), if_neg (by decide), if_pos rfl, hr, decide_eq_true hb]
       rfl
      ·revert hb
       generalize shl_u64 b 1 = z
       intro hb
       simp [GValue.zero]
       rw [if_pos hb]
       rfl
     ·refine ⟨0, ?_, ?_, fun _ => ⟨by decide, by decide, by simp, fun _ => hb⟩⟩
      ·rw [if_neg (by simp), if_neg (by decide), if_pos rfl, hr, decide_eq_false hb]
       rfl
      ·revert hb
       generalize shl_u64 b 1 = z
       intro hb
       simp [GValue.zero, valid_nil]
       rw [if_neg hb]
       rfl
    ·refine ⟨3, ?_, ?_, fun q => absurd q (by decide)⟩
     ·rw [if_pos]
      simp
      by_cases h1 : t = []
      ·exact .inr fun q => h ⟨h1, q⟩
      ·exact .inl h1
     ·simp [GValue.zero, hl]
      rw [if_neg (fun q => h ⟨q.2, q.1⟩)]
      rfl
   ·by_cases h : b = 0 ∧ i = 0
    ·obtain ⟨rfl, rfl⟩ := h
     cases vb with
     | true =>
      refine ⟨0, ?_, ?_, fun _ => ⟨by decide, by decide, by omega, fun q => absurd q (by decide)⟩⟩
      ·simp [hv]
      ·simp [GValue.zero, hv, hl]
     | false =>
      refine ⟨3, ?_, ?_, fun q => absurd q (by decide)⟩
      ·simp [hv]
      ·simp [GValue.zero, hv, hl]
    ·refine ⟨3, ?_, ?_, fun q => absurd q (by decide)⟩
     ·rw [if_pos]
      simp
      by_cases h1 : b = 0
      ·exact .inr fun q => h ⟨h1, q⟩
      ·exact .inl h1
     ·simp [GValue.zero, hl]
      rw [if_neg (fun q => h ⟨q.2, q.1⟩)]
      rfl
end Go.Proofs.YtalnmpfjgiecdaaDoor.VM

/- Words and rules that the proof uses. -/
namespace Go.Proofs.YtalnmpfjgiecdaaDoor.VM
open Go Go.RowKit
theorem u8_all (p : UInt8 → Bool) (h : (List.range 256).all (fun n => p (UInt8.ofNat n)) = true) (c : UInt8) : p c = true := by
 have := List.all_eq_true.1 h c.toNat (List.mem_range.2 c.toNat_lt)
 rwa [UInt8.ofNat_toNat] at this
theorem any_loop {α β : Type} [Inhabited α] {step : Int → Option (Int ⊕ β)} (l : List α) (p : α → Bool) (a b : β) (hl : l.length < 9223372036854775807)
  (hs : ∀ k, k < l.length → step (k : Int) = some (if p (lrd l k) = true then .inr a else .inl (w64 ((k : Int) + 1)))) (he : step (l.length : Int) = some (.inr b)) : loopO step (0 : Int) = some (if l.any p = true then a else b) := by
 have h := loopO_goL (step := step) l (fun k (_ : Unit) => (k : Int)) (fun _ x _ => if p x = true then .inr a else .inl ()) (fun _ => b) (fun _ _ => True) (fun k s hk _ => ⟨by
  rw [hs k hk, w64_succ (by omega)]
  by_cases hp : p (lrd l k) = true
  ·rw [if_pos hp, if_pos hp]
  ·rw [if_neg hp, if_neg hp], fun _ _ => trivial⟩) (fun _ _ => he) (s := ()) trivial
 have h2 : ∀ (m : List α) (k : Nat), goL (fun _ x (_ : Unit) => if p x = true then (.inr a : Unit ⊕ β) else .inl ()) (fun _ => b) m k () = if m.any p = true then a else b := by
  intro m
  induction m with
  | nil => intro k; rfl
  | cons x m ih =>
   intro k
   have e : (x :: m).any p = (p x || m.any p) := List.any_cons
   simp only [goL]
   by_cases hp : p x = true
   ·rw [if_pos hp, if_pos (by rw [e, hp]; rfl)]
   ·rw [if_neg hp]
    simp only
    rw [ih]
    have e2 : (x :: m).any p = m.any p := by rw [e, Bool.eq_false_iff.2 hp, Bool.false_or]
    by_cases hm : m.any p = true
    ·rw [if_pos hm, if_pos (e2.trans hm)]
    ·rw [if_neg hm, if_neg (fun h => hm (e2.symm.trans h))]
 rw [h2] at h
 exact h
theorem reach_loop {α : Type} [Inhabited α] {step : Int → Option (Int ⊕ Int)} (l : List α) (p : α → Bool) (hl : l.length < 9223372036854775807)
  (hs : ∀ k, k < l.length → step (k : Int) = some (if p (lrd l k) = true then .inl (w64 ((k : Int) + 1)) else .inr (k : Int))) (he : step (l.length : Int) = some (.inr (l.length : Int))) : ∃ n : Nat, loopO step (0 : Int) = some (n : Int) ∧ (n = l.length ↔ l.all p = true) := by
 have key : ∀ (m : List α) (k : Nat), l.drop k = m → k ≤ l.length → ∃ n : Nat, loopO step (k : Int) = some (n : Int) ∧ (n = l.length ↔ m.all p = true) := by
  intro m
  induction m with
  | nil =>
   intro k hm hk
   have : k = l.length := by
    have := congrArg List.length hm
    simp at this
    omega
   subst this
   exact ⟨l.length, loopO_done he, by simp⟩
  | cons x m ih =>
   intro k hm hk
   have hlt : k < l.length := by
    rcases Nat.lt_or_ge k l.length with h | h
    ·exact h
    ·rw [List.drop_eq_nil_of_le h] at hm
     cases hm
   rw [drop_step hlt] at hm
   obtain ⟨hx, hm⟩ := List.cons.inj hm
   have h1 := hs k hlt
   rw [hx] at h1
   by_cases hp : p x = true
   ·rw [if_pos hp, w64_succ (by omega)] at h1
    obtain ⟨n, h2, h3⟩ := ih (k + 1) hm hlt
    exact ⟨n, by rw [loopO_next h1]; exact h2, by rw [h3, List.all_cons, hp, Bool.true_and]⟩
   ·rw [if_neg hp] at h1
    refine ⟨k, loopO_done h1, ?_⟩
    rw [List.all_cons, Bool.eq_false_iff.2 hp, Bool.false_and]
    constructor
    ·intro h; omega
    ·intro h; cases h
 exact key l 0 rfl (Nat.zero_le _)
theorem all_of_any {α : Type} (p q : α → Bool) (h : ∀ x, q x = !(p x)) : ∀ l : List α, l.any q = !(l.all p)
 | [] => rfl
 | x :: l => by rw [List.any_cons, List.all_cons, all_of_any p q h l, h, Bool.not_and]
def inB (c : UInt8) : Bool := (decide (97 ≤ c) && decide (c ≤ 122)) || (decide (48 ≤ c) && decide (c ≤ 57)) || decide (c = 95)
def smallB (c : UInt8) : Bool := decide (97 ≤ c) && decide (c ≤ 122)
theorem small_eq (c : UInt8) : g_lex_small c = some (smallB c) := by
 unfold g_lex_small smallB
 rw [Bool.decide_and]
theorem inName_eq (c : UInt8) : g_lex_inName c = some (inB c) := by
 unfold g_lex_inName g_lex_digit inB
 rw [small_eq, Option.bind_some]
 unfold smallB
 rw [Bool.decide_and]
 by_cases h1 : (decide (97 ≤ c) && decide (c ≤ 122)) = true
 ·rw [if_pos h1, h1]; rfl
 ·rw [if_neg h1, Bool.eq_false_iff.2 h1, Option.bind_some]
  by_cases h2 : (decide (48 ≤ c) && decide (c ≤ 57)) = true
  ·rw [if_pos h2, h2]; rfl
  ·rw [if_neg h2, Bool.eq_false_iff.2 h2]; rfl
theorem t1_in (c : UInt8) : (g_ref_isName_t1.any fun x => decide (x = c)) = inB c := by
 have := u8_all (fun c => (g_ref_isName_t1.any fun x => decide (x = c)) == inB c) (by decide +kernel) c
 exact eq_of_beq this
theorem t0_small (c : UInt8) : (g_ref_isName_t0.any fun x => decide (x = c)) = smallB c := by
 have := u8_all (fun c => (g_ref_isName_t0.any fun x => decide (x = c)) == smallB c) (by decide +kernel) c
 exact eq_of_beq this
theorem among_eq (c : UInt8) (l : List UInt8) (hl : l.length < 9223372036854775807) : g_ref_among c l = some (l.any fun x => decide (x = c)) := by
 unfold g_ref_among
 have h := any_loop (step := g_ref_among_l0 c l) l (fun x => decide (x = c)) (.inl true) (.inr ()) hl (fun k hk => by
  unfold g_ref_among_l0
  dsimp only
  rw [if_pos (natLt hk), if_pos (natIn hk), Int.toNat_natCast]
  by_cases h1 : lrd l k = c
  ·rw [if_pos h1, if_pos (decide_eq_true h1)]
  ·rw [if_neg h1, if_neg (by rw [decide_eq_false h1]; decide)]) (by
  unfold g_ref_among_l0
  dsimp only
  rw [if_neg natNlt])
 rw [h, Option.bind_some]
 by_cases h1 : (l.any fun x => decide (x = c)) = true
 ·rw [if_pos h1, h1]
 ·rw [if_neg h1, Bool.eq_false_iff.2 h1]
theorem reach_eq (s l : List UInt8) (hs : s.length < 9223372036854775807) (hl : l.length < 9223372036854775807) : ∃ n : Nat, g_ref_reach s l = some (n : Int) ∧ (n = s.length ↔ (s.all fun c => l.any fun x => decide (x = c)) = true) := by
 obtain ⟨n, h1, h2⟩ := reach_loop (step := g_ref_reach_l0 s l) s (fun c => l.any fun x => decide (x = c)) hs (fun k hk => by
  unfold g_ref_reach_l0
  dsimp only
  rw [if_pos (natLt hk), if_pos (natIn hk), Int.toNat_natCast, among_eq _ _ hl, Option.bind_some, Option.bind_some]
  by_cases h1 : (l.any fun x => decide (x = lrd s k)) = true
  ·rw [if_pos h1, if_pos h1]
  ·rw [if_neg h1, if_neg h1]) (by
  unfold g_ref_reach_l0
  dsimp only
  rw [if_neg natNlt, Option.bind_some, if_neg (by decide)])
 unfold g_ref_reach
 rw [h1]
 exact ⟨n, rfl, h2⟩
theorem all_in (s : List UInt8) (hs : s.length < 9223372036854775807) : g_lex_all_i0 s = some (s.all inB && decide (s ≠ [])) := by
 unfold g_lex_all_i0
 have h := any_loop (step := g_lex_all_i0_l0 s) s (fun x => !(inB x)) (.inl false) (.inr ()) hs (fun k hk => by
  unfold g_lex_all_i0_l0
  dsimp only
  rw [if_pos (natLt hk), if_pos (natIn hk), Int.toNat_natCast, inName_eq, Option.bind_some]
  by_cases h1 : (!(inB (lrd s k))) = true
  ·rw [if_pos h1, if_pos h1]
  ·rw [if_neg h1, if_neg h1]) (by
  unfold g_lex_all_i0_l0
  dsimp only
  rw [if_neg natNlt])
 rw [h, Option.bind_some, all_of_any inB _ (fun _ => rfl)]
 by_cases h1 : s.all inB = true
 ·rw [h1, if_neg (by decide)]; rfl
 ·rw [Bool.eq_false_iff.2 h1, if_pos (by decide)]; rfl
def isNm (s : List UInt8) : Bool := decide (s ≠ []) && (smallB (lrd s 0) && s.all inB)
theorem isName_eq (s : List UInt8) (hs : s.length < 9223372036854775807) : g_ref_isName s = some (isNm s) := by
 unfold g_ref_isName isNm
 by_cases h0 : s = []
 ·subst h0; rfl
 ·have hp : 0 < s.length := List.length_pos_iff.2 h0
  rw [if_pos h0, if_pos hp, among_eq _ _ (by decide), t0_small, Option.bind_some, decide_eq_true h0, Bool.true_and]
  obtain ⟨n, h1, h2⟩ := reach_eq s g_ref_isName_t1 hs (by decide)
  rw [h1, Option.bind_some]
  simp only [t1_in] at h2
  by_cases h3 : smallB (lrd s 0) = true
  ·rw [if_pos h3, h3, Option.bind_some, Bool.true_and]
   congr 1
   by_cases h4 : s.all inB = true
   ·have h5 := h2.2 h4
    rw [h4, decide_eq_true (by omega)]
   ·have h5 : n ≠ s.length := fun h => h4 (h2.1 h)
    rw [Bool.eq_false_iff.2 h4, decide_eq_false (by omega)]
  ·rw [if_neg h3, Bool.eq_false_iff.2 h3]
   rfl
theorem nameP_eq (s : List UInt8) (hs : s.length < 9223372036854775807) : (((g_lex_all_i0 s).bind fun r'5 => (if r'5 = true then if 0 < s.length then (g_lex_small (lrd s 0)).bind fun r'6 => some r'6 else none else some false)).bind fun g'7 => some g'7) = some (isNm s) := by
 rw [all_in s hs, Option.bind_some]
 unfold isNm
 by_cases h0 : s = []
 ·subst h0; rfl
 ·have hp : 0 < s.length := List.length_pos_iff.2 h0
  rw [decide_eq_true h0, Bool.and_true, Bool.true_and, if_pos hp, small_eq]
  by_cases h4 : s.all inB = true
  ·rw [if_pos h4, h4, Bool.and_true]; rfl
  ·rw [if_neg h4, Bool.eq_false_iff.2 h4, Bool.and_false]; rfl
end Go.Proofs.YtalnmpfjgiecdaaDoor.VM

/- Words and rules that the proof uses. -/
namespace Go.Proofs.YtalnmpfjgiecdaaDoor.VM
open Go Go.RowKit
def wrong (long ok : Prop) [Decidable long] [Decidable ok] : Int := if long then 1 else if ok then 0 else 3
theorem wrong_l {long : Prop} [Decidable long] {b b1 b2 : Bool} {w : Prop} [Decidable w] (h1 : b1 = true ↔ long) (h2 : b2 = true ↔ ¬ w) : (if b1 = true then some (1 : Int) else (if b2 = true then some (3 : Int) else ((some b : Option Bool).bind fun j'3 => (if (!j'3) = true then some (3 : Int) else some (0 : Int))))) = some (wrong long (b = true ∧ w)) := by
 unfold wrong
 by_cases hl : long
 ·rw [if_pos (h1.2 hl), if_pos hl]
 ·rw [if_neg (fun h => hl (h1.1 h)), if_neg hl]
  by_cases hw : w
  ·rw [if_neg (fun h => h2.1 h hw), Option.bind_some]
   cases b with
   | true => rw [if_neg (show ¬ ((!true) = true) by decide), if_pos ⟨rfl, hw⟩]
   | false => rw [if_pos (show (!false) = true from rfl), if_neg (by simp)]
  ·rw [if_pos (h2.2 hw), if_neg (fun h => hw h.2)]
theorem name_lex (t : GToken) (hK : t.Kind = 1) (hT : t.Text.length < 9223372036854775807) : g_lex_Check t = some (wrong ((t.Text.length : Int) > 8) (isNm t.Text = true ∧ (t.Int_ = 0 ∧ t.Bits = 0))) := by
 obtain ⟨K, T, I, B⟩ := t
 dsimp only at hK hT ⊢
 subst hK
 unfold g_lex_Check
 dsimp only
 rw [if_neg (show ¬ ((1 : Int) < 1 ∨ (1 : Int) > 6) by decide), letO_eq, letO_eq, if_pos (show (1 : Int) = 1 from rfl), nameP_eq T hT]
 exact wrong_l (by simp) (by simp [-not_and, Classical.not_and_iff_not_or_not])
theorem name_eq (s : List UInt8) (hs : s.length < 9223372036854775807) : g_lex_Check ({ { GToken.zero with Kind := (1 : Int) } with Text := s }) = some (wrong ((s.length : Int) > 8) (isNm s = true)) := by
 have h := name_lex ({ { GToken.zero with Kind := (1 : Int) } with Text := s }) rfl hs
 rw [h]
 congr 1
 unfold wrong
 by_cases h : isNm s = true
 ·simp [GToken.zero, h]
 ·simp [GToken.zero, h]
end Go.Proofs.YtalnmpfjgiecdaaDoor.VM

/- Words and rules that the proof uses. -/
namespace Go.Proofs.YtalnmpfjgiecdaaDoor.VM
open Go Go.RowKit
theorem loop_passes {step : Int → Option (Int ⊕ (Int ⊕ Unit))} (n : Nat) (hn : n < 9223372036854775807) (hs : ∀ k, k < n → step (k : Int) = some (.inl (w64 ((k : Int) + 1))) ∨ ∃ r, r ≠ 0 ∧ step (k : Int) = some (.inr (.inl r))) (he : step (n : Int) = some (.inr (.inr ()))) :
  ∃ o, loopO step (0 : Int) = some o ∧ match o with | .inl y => y ≠ 0 | .inr _ => ∀ k, k < n → step (k : Int) = some (.inl (w64 ((k : Int) + 1))) := by
 refine loopO_times (step := step) n (fun k (_ : Unit) => (k : Int)) (fun k _ => ∀ j, j < k → step (j : Int) = some (.inl (w64 ((j : Int) + 1)))) _ (fun k _ hk hi => ?_) (fun _ hi => ⟨_, he, hi⟩) (s := ()) (fun j hj => by omega)
 rcases hs k hk with h | ⟨r, hr, h⟩
 ·left
  refine ⟨(), by rw [h, w64_succ (by omega)], fun j hj => ?_⟩
  rcases Nat.lt_or_ge j k with h1 | h1
  ·exact hi j h1
  ·rw [show j = k by omega]; exact h
 ·exact .inr ⟨_, h, hr⟩
theorem down_any {α : Type} [Inhabited α] {step : Int → Option (Int ⊕ (Int ⊕ Unit))} (l : List α) (p : α → Bool) (hl : l.length < 9223372036854775807) (hs : ∀ k, k < l.length → step (k : Int) = some (if p (lrd l k) = true then .inr (.inl (k : Int)) else .inl (w64 ((k : Int) - 1)))) (he : step (-1) = some (.inr (.inr ()))) :
  ∀ j, j ≤ l.length → ∃ o, loopO step ((j : Int) - 1) = some o ∧ match o with | .inl r => 0 ≤ r ∧ (l.take j).any p = true | .inr _ => (l.take j).any p = false := by
 intro j
 induction j with
 | zero => intro _; exact ⟨.inr (), loopO_done he, rfl⟩
 | succ j ih =>
  intro hj
  rw [show ((j + 1 : Nat) : Int) - 1 = (j : Int) by omega]
  have h1 := hs j (by omega)
  by_cases hp : p (lrd l j) = true
  ·rw [if_pos hp] at h1
   refine ⟨_, loopO_done h1, by omega, ?_⟩
   rw [take_step (by omega), List.any_append, List.any_cons, List.any_nil, hp]
   simp
  ·rw [if_neg hp, w64_id (by omega)] at h1
   obtain ⟨o, h2, h3⟩ := ih (by omega)
   refine ⟨o, by rw [loopO_next h1]; exact h2, ?_⟩
   have e : (l.take (j + 1)).any p = (l.take j).any p := by
    rw [take_step (by omega), List.any_append, List.any_cons, List.any_nil, Bool.eq_false_iff.2 hp]
    simp
   rw [e]
   exact h3
theorem columnAt_eq (l : List GColumn) (n : List UInt8) (hl : l.length < 9223372036854775807) : ∃ r, g_ref_columnAt l n = some r ∧ (r ≥ 0 ↔ (l.any fun c => decide (c.Name = n)) = true) := by
 obtain ⟨o, h1, h2⟩ := down_any (step := g_ref_columnAt_l0 l n) l (fun c => decide (c.Name = n)) hl (fun k hk => by
  unfold g_ref_columnAt_l0
  dsimp only
  rw [if_pos (by omega), if_pos (natIn hk), Int.toNat_natCast]
  by_cases h1 : (lrd l k).Name = n
  ·rw [if_pos h1, if_pos (decide_eq_true h1)]
  ·rw [if_neg h1, if_neg (by rw [decide_eq_false h1]; decide)]) (by
  unfold g_ref_columnAt_l0
  dsimp only
  rw [if_neg (by decide)]) l.length (Nat.le_refl _)
 unfold g_ref_columnAt
 rw [w64_id (by omega), h1, Option.bind_some]
 rw [List.take_length] at h2
 cases o with
 | inl r => exact ⟨r, rfl, by simp only at h2; simp [h2.1, h2.2]⟩
 | inr u => exact ⟨-1, rfl, by simp only at h2; simp [h2]⟩
theorem twice_eq (cols : List GColumn) (t : Int) (ht : 0 ≤ t ∧ t < (cols.length : Int)) (hl : cols.length < 9223372036854775807) : loopO (g_kinds_Columns_l1 cols t) (0 : Int) = some (if ((cut cols 0 t).any fun d => decide (d.Name = (lrd cols t.toNat).Name)) = true then .inl 8 else .inr ()) := by
 have hc : (cut cols 0 t).length ≤ cols.length := by rw [cut_len ⟨Int.le_refl _, ht.1, by omega⟩]; omega
 exact any_loop (step := g_kinds_Columns_l1 cols t) (cut cols 0 t) (fun d => decide (d.Name = (lrd cols t.toNat).Name)) (.inl 8) (.inr ()) (by omega) (fun k hk => by
  unfold g_kinds_Columns_l1
  dsimp only
  rw [if_pos (natLt hk), if_pos (natIn hk), Int.toNat_natCast]
  by_cases h1 : (lrd (cut cols 0 t) k).Name = (lrd cols t.toNat).Name
  ·rw [if_pos h1, if_pos (decide_eq_true h1)]
  ·rw [if_neg h1, if_neg (by rw [decide_eq_false h1]; decide)]) (by
  unfold g_kinds_Columns_l1
  dsimp only
  rw [if_neg natNlt])
theorem colStep (cols : List GColumn) (hl : cols.length < 9223372036854775807) (hc : ∀ c ∈ cols, c.Name.length < 9223372036854775807) : g_kinds_Columns_l0 cols = g_ref_ColumnsFault_l0 cols := by
 funext t
 unfold g_kinds_Columns_l0 g_ref_ColumnsFault_l0
 dsimp only
 by_cases h : t < (cols.length : Int)
 ·rw [if_pos h, if_pos h]
  by_cases h0 : 0 ≤ t ∧ t < (cols.length : Int)
  ·have hn := hc (lrd cols t.toNat) (lrd_mem (by omega))
   have ht : 0 ≤ t ∧ t ≤ (cols.length : Int) := by omega
   have hcl : (cut cols 0 t).length ≤ cols.length := by rw [cut_len ⟨Int.le_refl _, ht.1, by omega⟩]; omega
   rw [if_pos h0, if_pos h0, name_eq _ hn, isName_eq _ hn, Option.bind_some, Option.bind_some]
   unfold wrong
   by_cases h1 : ((lrd cols t.toNat).Name.length : Int) > 8
   ·rw [if_pos h1, if_pos (show (1 : Int) ≠ 0 by decide), if_pos (.inr h1)]
   ·rw [if_neg h1]
    by_cases h2 : isNm (lrd cols t.toNat).Name = true
    ·rw [if_pos h2, if_neg (show ¬ ((0 : Int) ≠ 0) by decide), if_neg (show ¬ ((!(isNm (lrd cols t.toNat).Name)) = true ∨ ((lrd cols t.toNat).Name.length : Int) > 8) by rw [h2]; intro hh; rcases hh with hh | hh; exact absurd hh (by decide); exact h1 hh), letO_eq]
     by_cases h3 : (lrd cols t.toNat).Kind < 1 ∨ (lrd cols t.toNat).Kind > 4
     ·rw [if_pos h3, if_pos (decide_eq_true (by omega))]
     ·rw [if_neg h3, if_neg (show ¬ (decide _ = true) by rw [decide_eq_true_eq]; omega), if_pos ht, if_pos ht, twice_eq cols t h0 hl]
      obtain ⟨r, h4, h5⟩ := columnAt_eq (cut cols 0 t) (lrd cols t.toNat).Name (by omega)
      rw [h4, Option.bind_some, Option.bind_some]
      by_cases h6 : ((cut cols 0 t).any fun d => decide (d.Name = (lrd cols t.toNat).Name)) = true
      ·rw [if_pos h6, if_pos (h5.2 h6)]
      ·rw [if_neg h6, if_neg (fun q => h6 (h5.1 q))]
    ·rw [if_neg h2, if_pos (show (3 : Int) ≠ 0 by decide), if_pos (.inl (by rw [Bool.eq_false_iff.2 h2]; rfl))]
  ·rw [if_neg h0, if_neg h0]
 ·rw [if_neg h, if_neg h]
theorem cols_eq (cols : List GColumn) (hl : cols.length < 9223372036854775807) (hc : ∀ c ∈ cols, c.Name.length < 9223372036854775807) : ∃ e, g_kinds_Columns cols = some e ∧ g_ref_ColumnsFault cols = some e := by
 unfold g_kinds_Columns g_ref_ColumnsFault
 rw [colStep cols hl hc]
 by_cases h : (cols.length : Int) > 5
 ·simp only [if_pos h]; exact ⟨_, rfl, rfl⟩
 ·simp only [if_neg h]
  have : ∃ r, loopO (g_ref_ColumnsFault_l0 cols) (0 : Int) = some r ∧ True := by
   refine loopO_times (step := g_ref_ColumnsFault_l0 cols) cols.length (fun k (_ : Unit) => (k : Int)) (fun _ _ => True) (fun _ => True) (fun k _ hk _ => ?_) (fun _ _ => ?_) (s := ()) trivial
   ·unfold g_ref_ColumnsFault_l0
    dsimp only
    have hn := hc (lrd cols k) (lrd_mem hk)
    rw [if_pos (natLt hk), if_pos (natIn hk), Int.toNat_natCast, isName_eq _ hn, Option.bind_some]
    split
    ·exact .inr ⟨_, rfl, trivial⟩
    ·rw [letO_eq]
     split
     ·exact .inr ⟨_, rfl, trivial⟩
     ·have hcl : (cut cols 0 (k : Int)).length ≤ cols.length := by rw [cut_len ⟨Int.le_refl _, by omega, by omega⟩]; omega
      obtain ⟨r, h4, _⟩ := columnAt_eq (cut cols 0 (k : Int)) (lrd cols k).Name (by omega)
      rw [if_pos (by omega), h4, Option.bind_some]
      split
      ·exact .inr ⟨_, rfl, trivial⟩
      ·exact .inl ⟨(), by rw [w64_succ (by omega)], trivial⟩
   ·unfold g_ref_ColumnsFault_l0
    dsimp only
    rw [if_neg natNlt]
    exact ⟨_, rfl, trivial⟩
  obtain ⟨r, hr, _⟩ := this
  rw [hr, Option.bind_some]
  cases r with
  | inl y => exact ⟨y, rfl, rfl⟩
  | inr y => exact ⟨0, rfl, rfl⟩
theorem colsOk {cols : List GColumn} (q : (okL 32 GColumn.ok) cols) : cols.length < 9223372036854775807 ∧ ∀ c ∈ cols, c.Name.length < 9223372036854775807 :=
 ⟨Nat.lt_of_le_of_lt (Nat.le_mul_of_pos_right _ (by decide)) (Nat.lt_of_le_of_lt q.1 (by decide)), fun c hc => Nat.lt_of_le_of_lt (q.2.2 c hc).1 (by decide)⟩
end Go.Proofs.YtalnmpfjgiecdaaDoor.VM

/- Words and rules that the proof uses. -/
namespace Go.Proofs.YtalnmpfjgiecdaaDoor.VM
open Go Go.RowKit
theorem rowStep (row : List GValue) (cols : List GColumn) (hlen : row.length = cols.length) (hr : ∀ v ∈ row, okI v.Int_) : g_kinds_fits_l0 row cols = g_ref_RowFault_l0 row cols := by
 funext t
 unfold g_kinds_fits_l0 g_ref_RowFault_l0
 dsimp only
 by_cases h : t < (row.length : Int)
 ·rw [if_pos h, if_pos h]
  by_cases h0 : 0 ≤ t ∧ t < (row.length : Int)
  ·obtain ⟨e, h1, h2, _⟩ := check_eq (lrd row t.toNat) (hr _ (lrd_mem (by omega)))
   have hc : 0 ≤ t ∧ t < (cols.length : Int) := by omega
   rw [if_pos h0, if_pos h0, h1, h2, Option.bind_some, Option.bind_some]
   by_cases he : e ≠ 0
   ·rw [if_pos he, if_pos he]; rfl
   ·rw [if_neg he, if_neg he]
    by_cases hk : (lrd row t.toNat).Kind = 0
    ·simp only [if_pos hc]
     rw [if_pos hk, if_pos hk, Option.bind_some]
     by_cases hn : (!((lrd cols t.toNat).Null)) = true
     ·rw [if_pos hn, if_pos hn]; rfl
     ·rw [if_neg hn, if_neg hn, if_neg (fun q => q hk), Option.bind_some, if_neg (by decide)]; rfl
    ·rw [if_neg hk, if_neg hk, if_pos hc, Option.bind_some, if_neg (show ¬ (false = true) by decide), if_pos hk, if_pos hc, Option.bind_some]
     by_cases hn : (lrd row t.toNat).Kind ≠ (lrd cols t.toNat).Kind
     ·rw [if_pos (decide_eq_true hn), if_pos hn]; rfl
     ·rw [if_neg (by rw [decide_eq_false hn]; decide), if_neg hn]; rfl
  ·rw [if_neg h0, if_neg h0]; rfl
 ·rw [if_neg h, if_neg h]
theorem row_eq (row : List GValue) (cols : List GColumn) (hl : cols.length < 9223372036854775807) (hc : ∀ c ∈ cols, c.Name.length < 9223372036854775807) (hr : ∀ v ∈ row, okI v.Int_) : ∃ e, g_kinds_Row row cols = some e ∧ g_ref_RowFault row cols = some e := by
 unfold g_kinds_Row g_kinds_fits g_ref_RowFault
 obtain ⟨e, h1, h2⟩ := cols_eq cols hl hc
 rw [h1, h2, Option.bind_some, Option.bind_some]
 by_cases he : e ≠ 0
 ·rw [if_pos he, if_pos he]; exact ⟨_, rfl, rfl⟩
 ·rw [if_neg he, if_neg he]
  by_cases hlen : (row.length : Int) ≠ (cols.length : Int)
  ·rw [if_pos hlen, if_pos hlen]; exact ⟨_, rfl, rfl⟩
  ·have hlen2 : row.length = cols.length := by omega
   rw [if_neg hlen, if_neg hlen, rowStep row cols hlen2 hr]
   have : ∃ r, loopO (g_ref_RowFault_l0 row cols) (0 : Int) = some r ∧ True := by
    refine loopO_times (step := g_ref_RowFault_l0 row cols) row.length (fun k (_ : Unit) => (k : Int)) (fun _ _ => True) (fun _ => True) (fun k _ hk _ => ?_) (fun _ _ => ?_) (s := ()) trivial
    ·unfold g_ref_RowFault_l0
     dsimp only
     obtain ⟨e, _, h2, _⟩ := check_eq (lrd row k) (hr _ (lrd_mem hk))
     rw [if_pos (natLt hk), if_pos (natIn hk), Int.toNat_natCast, h2, Option.bind_some]
     have hk2 : (0 : Int) ≤ (k : Int) ∧ (k : Int) < (cols.length : Int) := by omega
     rw [if_pos hk2, if_pos hk2]
     split
     ·exact .inr ⟨_, rfl, trivial⟩
     ·split
      ·split
       ·exact .inr ⟨_, rfl, trivial⟩
       ·exact .inl ⟨(), by rw [w64_succ (by omega)]; rfl, trivial⟩
      ·split
       ·exact .inr ⟨_, rfl, trivial⟩
       ·exact .inl ⟨(), by rw [w64_succ (by omega)]; rfl, trivial⟩
    ·unfold g_ref_RowFault_l0
     dsimp only
     rw [if_neg natNlt]
     exact ⟨_, rfl, trivial⟩
   obtain ⟨r, hr2, _⟩ := this
   rw [hr2, Option.bind_some]
   cases r with
   | inl y => exact ⟨y, rfl, rfl⟩
   | inr y => exact ⟨0, rfl, rfl⟩
end Go.Proofs.YtalnmpfjgiecdaaDoor.VM

