import Derived.Test.YtcahembojhmpbaaDoorVtFloat
import Derived.Test.YtcahembojhmpbaaDoorPuBase
/- Words and rules that the proof uses. -/
namespace Go.Proofs.YtcahembojhmpbaaDoor.VM
open Go Go.RowKit
def rung (b : F64) : Nat := b.toNat % 9223372036854775808
def negF (b : F64) : Bool := Nat.ble 9223372036854775808 b.toNat
def magF (r : Nat) : Nat := if r < 4503599627370496 then r else (4503599627370496 + r % 4503599627370496) * 2 ^ (r / 4503599627370496 - 1)
theorem magF_succ (r : Nat) : magF r < magF (r + 1) := by
 unfold magF
 by_cases h : r + 1 < 4503599627370496
 ·rw [if_pos h, if_pos (by omega)]; omega
 ·rw [if_neg h]
  by_cases h2 : r < 4503599627370496
  ·have : r + 1 = 4503599627370496 := by omega
   rw [if_pos h2, this]
   show r < 4503599627370496 * 2 ^ 0
   omega
  ·rw [if_neg h2]
   by_cases h3 : (r + 1) / 4503599627370496 = r / 4503599627370496
   ·rw [h3]
    refine Nat.mul_lt_mul_of_pos_right ?_ (Nat.two_pow_pos _)
    omega
   ·have h4 : (r + 1) / 4503599627370496 = r / 4503599627370496 + 1 := by omega
    have h5 : r % 4503599627370496 = 4503599627370495 := by omega
    have h6 : (r + 1) % 4503599627370496 = 0 := by omega
    have h7 : r / 4503599627370496 ≥ 1 := by omega
    rw [h4, h5, h6, show r / 4503599627370496 + 1 - 1 = (r / 4503599627370496 - 1) + 1 by omega, Nat.pow_succ]
    have := Nat.two_pow_pos (r / 4503599627370496 - 1)
    generalize 2 ^ (r / 4503599627370496 - 1) = p at *
    omega
theorem magF_mono {r q : Nat} (h : r < q) : magF r < magF q := by
 induction q with
 | zero => omega
 | succ q ih =>
  by_cases hr : r = q
  ·subst hr; exact magF_succ r
  ·exact Nat.lt_trans (ih (by omega)) (magF_succ q)
theorem magF_inj {r q : Nat} (h : magF r = magF q) : r = q := by
 rcases Nat.lt_trichotomy r q with h1 | h1 | h1
 ·have := magF_mono h1; omega
 ·exact h1
 ·have := magF_mono h1; omega
def upF (r : Nat) : Nat := if r < 4503599627370496 then 0 else r / 4503599627370496 - 1
def sigF (r : Nat) : Nat := if r < 4503599627370496 then r else 4503599627370496 + r % 4503599627370496
theorem magF_eq (r : Nat) : magF r = sigF r * 2 ^ upF r := by
 unfold magF sigF upF
 split <;> simp
theorem read_num {b : F64} (h : rung b < 9218868437227405312) : FloatKind.f64.format.read b.toNat = .number (negF b) (sigF (rung b)) ((-1074 : Int) + (upF (rung b) : Nat)) := by
 have hb : b.toNat < 18446744073709551616 := b.toNat_lt
 unfold Ieee.Format.read
 have e1 : FloatKind.f64.format.signWeight = 9223372036854775808 := by decide
 have e2 : FloatKind.f64.format.binade = 4503599627370496 := by decide
 have e3 : FloatKind.f64.format.infRung = 9218868437227405312 := by decide
 have e4 : FloatKind.f64.format.leastPlace = -1074 := by decide
 rw [e1, e2, e3, e4]
 have hn : (b.toNat / 9223372036854775808 % 2 == 1) = negF b := by
  unfold negF
  by_cases hc : 9223372036854775808 ≤ b.toNat
  ·rw [Nat.ble_eq_true_of_le hc]
   have : b.toNat / 9223372036854775808 % 2 = 1 := by omega
   rw [this]; rfl
  ·have h1 : Nat.ble 9223372036854775808 b.toNat = false := Bool.eq_false_iff.2 fun q => hc (Nat.le_of_ble_eq_true q)
   rw [h1]
   have : b.toNat / 9223372036854775808 % 2 = 0 := by omega
   rw [this]; rfl
 rw [hn]
 unfold rung at h
 unfold sigF upF rung
 dsimp only
 by_cases hs : b.toNat % 9223372036854775808 < 4503599627370496
 ·rw [if_pos hs, if_pos hs, if_pos hs]
  rfl
 ·rw [if_neg hs, if_neg hs, if_neg hs, if_pos h]
theorem read_inf {b : F64} (h : rung b = 9218868437227405312) : FloatKind.f64.format.read b.toNat = .infinity (negF b) := by
 have hb : b.toNat < 18446744073709551616 := b.toNat_lt
 unfold Ieee.Format.read
 have e1 : FloatKind.f64.format.signWeight = 9223372036854775808 := by decide
 have e2 : FloatKind.f64.format.binade = 4503599627370496 := by decide
 have e3 : FloatKind.f64.format.infRung = 9218868437227405312 := by decide
 rw [e1, e2, e3]
 have hn : (b.toNat / 9223372036854775808 % 2 == 1) = negF b := by
  unfold negF
  by_cases hc : 9223372036854775808 ≤ b.toNat
  ·rw [Nat.ble_eq_true_of_le hc]
   have : b.toNat / 9223372036854775808 % 2 = 1 := by omega
   rw [this]; rfl
  ·have h1 : Nat.ble 9223372036854775808 b.toNat = false := Bool.eq_false_iff.2 fun q => hc (Nat.le_of_ble_eq_true q)
   rw [h1]
   have : b.toNat / 9223372036854775808 % 2 = 0 := by omega
   rw [this]; rfl
 rw [hn]
 unfold rung at h
 dsimp only
 rw [h, if_neg (by decide), if_neg (by decide), if_pos rfl]
theorem read_nan {b : F64} (h : rung b > 9218868437227405312) : ∃ s t, FloatKind.f64.format.read b.toNat = .nan s t := by
 unfold Ieee.Format.read
 have e1 : FloatKind.f64.format.signWeight = 9223372036854775808 := by decide
 have e2 : FloatKind.f64.format.binade = 4503599627370496 := by decide
 have e3 : FloatKind.f64.format.infRung = 9218868437227405312 := by decide
 rw [e1, e2, e3]
 unfold rung at h
 dsimp only
 rw [if_neg (by omega), if_neg (by omega), if_neg (by omega)]
 exact ⟨_, _, rfl⟩
def skey (b : F64) : Int := if negF b = true then -((rung b : Nat) : Int) else ((rung b : Nat) : Int)
theorem cmp_scale (x y : Int) {p : Nat} (hp : 0 < p) : compare x y = compare (x * (p : Int)) (y * (p : Int)) := by
 have hp2 : (0 : Int) < (p : Int) := by omega
 have h1 : x < y ↔ x * (p : Int) < y * (p : Int) := ⟨fun h => Int.mul_lt_mul_of_pos_right h hp2, fun h => Int.lt_of_mul_lt_mul_right h (Int.le_of_lt hp2)⟩
 have h2 : x = y ↔ x * (p : Int) = y * (p : Int) := ⟨fun h => by rw [h], fun h => Int.eq_of_mul_eq_mul_right (by omega) h⟩
 simp only [compare, compareOfLessAndEq]
 by_cases h3 : x < y
 ·rw [if_pos h3, if_pos (h1.1 h3)]
 ·rw [if_neg h3, if_neg (fun q => h3 (h1.2 q))]
  by_cases h4 : x = y
  ·rw [if_pos h4, if_pos (h2.1 h4)]
  ·rw [if_neg h4, if_neg (fun q => h4 (h2.2 q))]
theorem cmp_iff {x y x' y' : Int} (h1 : x < y ↔ x' < y') (h2 : x = y ↔ x' = y') : compare x y = compare x' y' := by
 simp only [compare, compareOfLessAndEq]
 by_cases h3 : x < y
 ·rw [if_pos h3, if_pos (h1.1 h3)]
 ·rw [if_neg h3, if_neg (fun q => h3 (h1.2 q))]
  by_cases h4 : x = y
  ·rw [if_pos h4, if_pos (h2.1 h4)]
  ·rw [if_neg h4, if_neg (fun q => h4 (h2.2 q))]
theorem signed_scale (s : Bool) (m up k : Nat) : Ieee.signed s m up * ((2 ^ k : Nat) : Int) = if s = true then -((m * 2 ^ (up + k) : Nat) : Int) else ((m * 2 ^ (up + k) : Nat) : Int) := by
 unfold Ieee.signed
 rw [Nat.shiftLeft_eq, Nat.pow_add, ← Nat.mul_assoc]
 split
 ·rw [Int.neg_mul]; rfl
 ·rfl
theorem ford_num {a b : F64} (ha : rung a < 9218868437227405312) (hb : rung b < 9218868437227405312) : ford a b = some (compare (skey a) (skey b)) := by
 unfold ford Ieee.Format.order
 rw [read_num ha, read_num hb]
 unfold Ieee.Datum.order
 dsimp only
 congr 1
 generalize hua : upF (rung a) = ua
 generalize hub : upF (rung b) = ub
 have hmin : min ((-1074 : Int) + (ua : Nat)) ((-1074 : Int) + (ub : Nat)) = (-1074 : Int) + ((min ua ub : Nat) : Int) := by omega
 rw [hmin]
 have e1 : ((-1074 : Int) + (ua : Nat) - ((-1074 : Int) + ((min ua ub : Nat) : Int))).toNat = ua - min ua ub := by omega
 have e2 : ((-1074 : Int) + (ub : Nat) - ((-1074 : Int) + ((min ua ub : Nat) : Int))).toNat = ub - min ua ub := by omega
 rw [e1, e2, cmp_scale _ _ (p := 2 ^ min ua ub) (Nat.two_pow_pos _), signed_scale, signed_scale, show ua - min ua ub + min ua ub = ua by omega, show ub - min ua ub + min ua ub = ub by omega, ← hua, ← hub, ← magF_eq, ← magF_eq]
 unfold skey
 have m1 : rung a < rung b ↔ magF (rung a) < magF (rung b) := ⟨magF_mono, fun h => Nat.lt_of_not_le fun q => by
  rcases Nat.lt_or_ge (rung b) (rung a) with h2 | h2
  ·have := magF_mono h2; omega
  ·have : rung a = rung b := by omega
   rw [this] at h; omega⟩
 have m2 : rung a = rung b ↔ magF (rung a) = magF (rung b) := ⟨fun h => by rw [h], magF_inj⟩
 have z1 : rung a = 0 ↔ magF (rung a) = 0 := ⟨fun h => by rw [h]; rfl, fun h => magF_inj (h.trans rfl)⟩
 have z2 : rung b = 0 ↔ magF (rung b) = 0 := ⟨fun h => by rw [h]; rfl, fun h => magF_inj (h.trans rfl)⟩
 generalize magF (rung a) = x at *
 generalize magF (rung b) = y at *
 generalize rung a = r at *
 generalize rung b = q at *
 refine cmp_iff ?_ ?_
 ·split <;> split <;> omega
 ·split <;> split <;> omega
theorem cmp_lt {x y : Int} : (compare x y = .lt) ↔ x < y := by
 simp only [compare, compareOfLessAndEq]
 by_cases h : x < y
 ·simp [h]
 ·rw [if_neg h]
  by_cases h2 : x = y
  ·simp [h2]
  ·simp [h, h2]
theorem cmp_eq {x y : Int} : (compare x y = .eq) ↔ x = y := by
 simp only [compare, compareOfLessAndEq]
 by_cases h : x < y
 ·simp [h]; omega
 ·rw [if_neg h]
  by_cases h2 : x = y
  ·simp [h2]
  ·simp [h2]
theorem cmp_gt {x y : Int} : (compare x y = .gt) ↔ y < x := by
 simp only [compare, compareOfLessAndEq]
 by_cases h : x < y
 ·simp [h]; omega
 ·rw [if_neg h]
  by_cases h2 : x = y
  ·simp [h2]
  ·simp [h2]; omega
theorem ford_eq {a b : F64} (ha : rung a ≤ 9218868437227405312) (hb : rung b ≤ 9218868437227405312) : ford a b = some (compare (skey a) (skey b)) := by
 by_cases h1 : rung a = 9218868437227405312
 ·by_cases h2 : rung b = 9218868437227405312
  ·unfold ford Ieee.Format.order skey
   rw [read_inf h1, read_inf h2, h1, h2]
   cases negF a <;> cases negF b <;> rfl
  ·unfold ford Ieee.Format.order skey
   rw [read_inf h1, read_num (by omega), h1]
   unfold Ieee.Datum.order
   dsimp only
   congr 1
   generalize rung b = q at *
   cases negF a
   ·simp only [Bool.false_eq_true, if_false]
    exact (cmp_gt.2 (by split <;> omega)).symm
   ·simp only [if_true]
    exact (cmp_lt.2 (by split <;> omega)).symm
 ·by_cases h2 : rung b = 9218868437227405312
  ·unfold ford Ieee.Format.order skey
   rw [read_inf h2, read_num (by omega), h2]
   unfold Ieee.Datum.order
   dsimp only
   congr 1
   generalize rung a = q at *
   cases negF b
   ·simp only [Bool.false_eq_true, if_false]
    exact (cmp_lt.2 (by split <;> omega)).symm
   ·simp only [if_true]
    exact (cmp_gt.2 (by split <;> omega)).symm
  ·exact ford_num (by omega) (by omega)
theorem ford_nan {a : F64} (h : rung a > 9218868437227405312) : ford a a = none := by
 obtain ⟨s, t, e⟩ := read_nan h
 unfold ford Ieee.Format.order
 rw [e]
 rfl
end Go.Proofs.YtcahembojhmpbaaDoor.VM

/- Words and rules that the proof uses. -/
namespace Go.Proofs.YtcahembojhmpbaaDoor.VM
open Go Go.RowKit
theorem word_ok {s : List UInt8} (h : 8 ≤ s.length) : ∃ w, g_utf8_word_string s = some w := by
 unfold g_utf8_word_string
 rw [if_neg (by decide), if_pos (by omega), if_pos (by omega), if_pos (by omega), if_pos (by omega), if_pos (by omega), if_pos (by omega), if_pos (by omega), if_pos (by omega), letO_eq]
 exact ⟨_, rfl⟩
theorem cutl {s : List UInt8} {a : Int} (h : 0 ≤ a ∧ a ≤ (s.length : Int)) : (cut s a (s.length : Int)).length = s.length - a.toNat := by
 rw [cut_len ⟨h.1, h.2, Int.le_refl _⟩, Int.toNat_natCast]
theorem fast_ok {s : List UInt8} (h : 32 < s.length) : ∃ b, ((g_utf8_word_string s).bind fun r'9 => if 0 ≤ (8 : Int) ∧ (8 : Int) ≤ (s.length : Int) then (g_utf8_word_string (cut s (8 : Int) (s.length : Int))).bind fun r'10 => if 0 ≤ (16 : Int) ∧ (16 : Int) ≤ (s.length : Int) then (g_utf8_word_string (cut s (16 : Int) (s.length : Int))).bind fun r'11 => if 0 ≤ (24 : Int) ∧ (24 : Int) ≤ (s.length : Int) then (g_utf8_word_string (cut s (24 : Int) (s.length : Int))).bind fun r'12 => some (decide (((r'9 ||| r'10) ||| (r'11 ||| r'12)) &&& (9259542123273814144 : UInt64) = (0 : UInt64))) else none else none else none) = some b := by
 obtain ⟨w1, h1⟩ := word_ok (s := s) (by omega)
 obtain ⟨w2, h2⟩ := word_ok (s := cut s (8 : Int) (s.length : Int)) (by rw [cutl (by omega)]; omega)
 obtain ⟨w3, h3⟩ := word_ok (s := cut s (16 : Int) (s.length : Int)) (by rw [cutl (by omega)]; omega)
 obtain ⟨w4, h4⟩ := word_ok (s := cut s (24 : Int) (s.length : Int)) (by rw [cutl (by omega)]; omega)
 rw [h1, Option.bind_some, if_pos (by omega), h2, Option.bind_some, if_pos (by omega), h3, Option.bind_some, if_pos (by omega), h4, Option.bind_some]
 exact ⟨_, rfl⟩
theorem quick_loop (n : Nat) {s : List UInt8} (h : s.length ≤ n) : ∃ r : List UInt8, loopO g_utf8_ValidString_l1 s = some r ∧ r.length ≤ n := by
 refine loopO_rule (fun s : List UInt8 => s.length ≤ n) (fun r : List UInt8 => r.length ≤ n) List.length (fun s hs => ?_) h
 unfold g_utf8_ValidString_l1
 dsimp only
 by_cases h1 : (s.length : Int) > 32
 ·rw [if_pos h1]
  obtain ⟨b, hb⟩ := fast_ok (s := s) (by omega)
  rw [hb, Option.bind_some]
  cases b with
  | true =>
   rw [if_pos rfl, if_pos (by omega)]
   exact .inl ⟨_, rfl, by rw [cutl (by omega)]; omega, by rw [cutl (by omega)]; omega⟩
  | false =>
   rw [if_neg (by decide)]
   exact .inr ⟨_, rfl, hs⟩
 ·rw [if_neg h1]
  exact .inr ⟨_, rfl, hs⟩
theorem skip_ok {s : List UInt8} (h : 0 < s.length) : ∃ j, (((if ((cut s (1 : Int) (s.length : Int)).length : Int) > (8 : Int) then (g_utf8_word_string (cut s (1 : Int) (s.length : Int))).bind fun r'3 => some (decide (r'3 &&& (9259542123273814144 : UInt64) = (0 : UInt64))) else some false)).bind fun g'4 => (if g'4 = true then if 0 ≤ (8 : Int) ∧ (8 : Int) ≤ ((cut s (1 : Int) (s.length : Int)).length : Int) then letO ((cut (cut s (1 : Int) (s.length : Int)) (8 : Int) ((cut s (1 : Int) (s.length : Int)).length : Int))) fun s0'5 => ((if (s0'5.length : Int) > (16 : Int) then (g_utf8_word_string s0'5).bind fun r'6 => if 0 ≤ (8 : Int) ∧ (8 : Int) ≤ (s0'5.length : Int) then (g_utf8_word_string (cut s0'5 (8 : Int) (s0'5.length : Int))).bind fun r'7 => some (decide ((r'6 ||| r'7) &&& (9259542123273814144 : UInt64) = (0 : UInt64))) else none else some false)).bind fun g'8 => (if g'8 = true then if 0 ≤ (16 : Int) ∧ (16 : Int) ≤ (s0'5.length : Int) then (loopO (g_utf8_ValidString_l1) (cut s0'5 (16 : Int) (s0'5.length : Int))).bind fun y'17 => some y'17 else none else some s0'5) else none else some (cut s (1 : Int) (s.length : Int)))) = some j ∧ j.length < s.length := by
 have hc : (cut s (1 : Int) (s.length : Int)).length = s.length - 1 := by rw [cutl (by omega)]; rfl
 generalize cut s (1 : Int) (s.length : Int) = t at *
 by_cases h1 : (t.length : Int) > 8
 ·rw [if_pos h1]
  obtain ⟨w, hw⟩ := word_ok (s := t) (by omega)
  rw [hw, Option.bind_some, Option.bind_some]
  by_cases h2 : decide (w &&& (9259542123273814144 : UInt64) = (0 : UInt64)) = true
  ·rw [if_pos h2, if_pos (by omega), letO_eq]
   have hu : (cut t (8 : Int) (t.length : Int)).length = t.length - 8 := by rw [cutl (by omega)]; rfl
   generalize cut t (8 : Int) (t.length : Int) = u at *
   by_cases h3 : (u.length : Int) > 16
   ·obtain ⟨w2, hw2⟩ := word_ok (s := u) (by omega)
    obtain ⟨w3, hw3⟩ := word_ok (s := cut u (8 : Int) (u.length : Int)) (by rw [cutl (by omega)]; omega)
    rw [if_pos h3, hw2, Option.bind_some, if_pos (by omega), hw3, Option.bind_some, Option.bind_some]
    by_cases h4 : decide ((w2 ||| w3) &&& (9259542123273814144 : UInt64) = (0 : UInt64)) = true
    ·rw [if_pos h4, if_pos (by omega)]
     obtain ⟨r, hr, hl⟩ := quick_loop (u.length - 16) (s := cut u (16 : Int) (u.length : Int)) (by rw [cutl (by omega)]; exact Nat.le_refl _)
     rw [hr]
     exact ⟨r, rfl, by omega⟩
    ·rw [if_neg h4]
     exact ⟨_, rfl, by omega⟩
   ·rw [if_neg h3, Option.bind_some, if_neg (by decide)]
    exact ⟨_, rfl, by omega⟩
  ·rw [if_neg h2]
   exact ⟨_, rfl, by omega⟩
 ·rw [if_neg h1, Option.bind_some, if_neg (by decide)]
  exact ⟨_, rfl, by omega⟩
theorem two_ok {s : List UInt8} {lo hi : UInt8} (h : 0 < s.length) : ∃ b, (if (s.length : Int) < (2 : Int) then some true else if 1 < s.length then (if (lrd s 1) < lo then some true else if 1 < s.length then some (decide (hi < (lrd s 1))) else none) else none) = some b ∧ (b = false → 2 ≤ s.length) := by
 by_cases h1 : (s.length : Int) < 2
 ·rw [if_pos h1]; exact ⟨_, rfl, fun q => by cases q⟩
 ·rw [if_neg h1, if_pos (by omega)]
  split
  ·exact ⟨_, rfl, fun q => by cases q⟩
  ·rw [if_pos (by omega)]; exact ⟨_, rfl, fun _ => by omega⟩
theorem valid_ok (s : List UInt8) : ∃ b, g_utf8_ValidString s = some b := by
 unfold g_utf8_ValidString
 have : ∃ r, loopO g_utf8_ValidString_l0 s = some r ∧ True := by
  refine loopO_rule (fun _ => True) (fun _ => True) List.length (fun s _ => ?_) trivial
  unfold g_utf8_ValidString_l0
  dsimp only
  by_cases h0 : (s.length : Int) > 0
  ·rw [if_pos h0, if_pos (by omega)]
   by_cases h1 : lrd s 0 < (128 : UInt8)
   ·rw [if_pos h1, if_pos (by omega)]
    obtain ⟨j, hj, hl⟩ := skip_ok (s := s) (by omega)
    rw [hj, Option.bind_some]
    exact .inl ⟨_, rfl, trivial, hl⟩
   ·have hb : (lrd s 0).toNat < 256 := (lrd s 0).toNat_lt
    have hx : ∀ x : UInt8, 0 ≤ ((shr_u8 x 4).toNat : Int) ∧ ((shr_u8 x 4).toNat : Int) < 16 := by
     intro x
     have h1 : (shr_u8 x 4).toNat = x.toNat / 16 := by
      show (x.toBitVec >>> 4).toNat = _
      rw [BitVec.toNat_ushiftRight, Nat.shiftRight_eq_div_pow]
      rfl
     have := x.toNat_lt
     rw [h1]
     omega
    rw [if_neg h1, if_pos (by omega), letO_eq, if_pos (hx _), letO_eq]
    generalize (lrd _ _ : Gutf8_acceptRange) = a
    generalize ((_ &&& (7 : UInt8)).toNat : Int) = z
    by_cases z2 : z = 2
    ·rw [if_pos z2]
     obtain ⟨b, hb, hl⟩ := two_ok (s := s) (lo := a.lo_) (hi := a.hi_) (by omega)
     rw [hb, Option.bind_some]
     cases b with
     | true => rw [if_pos rfl]; exact .inr ⟨_, rfl, trivial⟩
     | false =>
      have := hl rfl
      rw [if_neg (by decide), if_pos (by omega)]
      exact .inl ⟨_, rfl, trivial, by rw [cutl (by omega)]; omega⟩
    ·rw [if_neg z2]
     by_cases z3 : z = 3
     ·rw [if_pos z3]
      by_cases l3 : (s.length : Int) < 3
      ·rw [if_pos l3, Option.bind_some, if_pos rfl]; exact .inr ⟨_, rfl, trivial⟩
      ·rw [if_neg l3, if_pos (show 1 < s.length by omega), if_pos (show 1 < s.length by omega), if_pos (show 2 < s.length by omega), if_pos (show 2 < s.length by omega), if_pos (show 0 ≤ (3 : Int) ∧ (3 : Int) ≤ (s.length : Int) by omega)]
       have hd : (cut s (3 : Int) (s.length : Int)).length < s.length := by rw [cutl (by omega)]; omega
       split
       ·exact .inr ⟨_, rfl, trivial⟩
       ·split
        ·exact .inr ⟨_, rfl, trivial⟩
        ·split
         ·exact .inr ⟨_, rfl, trivial⟩
         ·rw [Option.bind_some]
          split
          ·exact .inr ⟨_, rfl, trivial⟩
          ·exact .inl ⟨_, rfl, trivial, hd⟩
     ·rw [if_neg z3]
      by_cases z4 : z = 4
      ·rw [if_pos z4]
       by_cases l3 : (s.length : Int) < 4
       ·rw [if_pos l3, Option.bind_some, if_pos rfl]; exact .inr ⟨_, rfl, trivial⟩
       ·rw [if_neg l3, if_pos (show 1 < s.length by omega), if_pos (show 1 < s.length by omega), if_pos (show 2 < s.length by omega), if_pos (show 2 < s.length by omega), if_pos (show 3 < s.length by omega), if_pos (show 3 < s.length by omega), if_pos (show 0 ≤ (4 : Int) ∧ (4 : Int) ≤ (s.length : Int) by omega)]
        have hd : (cut s (4 : Int) (s.length : Int)).length < s.length := by rw [cutl (by omega)]; omega
        split
        ·exact .inr ⟨_, rfl, trivial⟩
        ·split
         ·exact .inr ⟨_, rfl, trivial⟩
         ·split
          ·exact .inr ⟨_, rfl, trivial⟩
          ·split
           ·exact .inr ⟨_, rfl, trivial⟩
           ·split
            ·exact .inr ⟨_, rfl, trivial⟩
            ·rw [Option.bind_some]
             split
             ·exact .inr ⟨_, rfl, trivial⟩
             ·exact .inl ⟨_, rfl, trivial, hd⟩
      ·rw [if_neg z4]
       exact .inr ⟨_, rfl, trivial⟩
  ·rw [if_neg h0]
   exact .inr ⟨_, rfl, trivial⟩
 obtain ⟨r, hr, _⟩ := this
 rw [hr, Option.bind_some]
 cases r with
 | inl b => exact ⟨_, rfl⟩
 | inr u => exact ⟨_, rfl⟩
theorem valid_nil : g_utf8_ValidString [] = some true := by
 unfold g_utf8_ValidString
 rw [loopO_done (r := .inr ()) (by unfold g_utf8_ValidString_l0; rfl)]
 rfl
end Go.Proofs.YtcahembojhmpbaaDoor.VM

/- Words and rules that the proof uses. -/
namespace Go.Proofs.YtcahembojhmpbaaDoor.VM
open Go Go.RowKit
theorem shl1_nat (b : UInt64) : (shl_u64 b 1).toNat = 2 * (b.toNat % 9223372036854775808) := by
 show (b.toBitVec <<< 1).toNat = _
 rw [BitVec.toNat_shiftLeft, Nat.shiftLeft_eq]
 show b.toNat * 2 ^ 1 % 2 ^ 64 = _
 omega
theorem bad_iff (b : UInt64) : ((18437736874454810624 : UInt64) < shl_u64 b 1) ↔ rung b > 9218868437227405312 := by
 rw [UInt64.lt_iff_toNat_lt, shl1_nat]
 show 18437736874454810624 < _ ↔ _
 unfold rung
 omega
theorem top_iff (b : UInt64) : b = (9223372036854775808 : UInt64) ↔ b.toNat = 9223372036854775808 := by
 constructor
 ·intro h; rw [h]; rfl
 ·intro h; exact UInt64.toNat_inj.1 h
theorem sign_eq (b : UInt64) : (w64 (b.toNat : Int) < 0) ↔ 9223372036854775808 ≤ b.toNat := by
 have hb : b.toNat < 18446744073709551616 := b.toNat_lt
 unfold w64 IntKind.wrap
 have e1 : (2 ^ IntKind.i64.bits : Int) = 18446744073709551616 := by decide
 have e2 : (2 ^ (IntKind.i64.bits - 1) : Int) = 9223372036854775808 := by decide
 have e3 : IntKind.i64.signed = true := rfl
 rw [e1, e2, e3]
 simp only [Bool.true_and, decide_eq_true_eq]
 split <;> omega
theorem skey0 : skey (0 : F64) = 0 := by decide
theorem ford_self {b : F64} (h : rung b ≤ 9218868437227405312) : ford b b = some .eq := by
 rw [ford_eq h h, cmp_eq.2 rfl]
theorem real_bad (b : UInt64) : (if (fneq b b) = true then some true else (if (feq b (0 : F64)) = true then (g_math_Signbit b).bind fun r'4 => some r'4 else some false)) = some (decide ((b = (9223372036854775808 : UInt64)) ∨ ((18437736874454810624 : UInt64) < shl_u64 b 1))) := by
 have hb : b.toNat < 18446744073709551616 := b.toNat_lt
 by_cases h : rung b > 9218868437227405312
 ·have : fneq b b = true := by unfold fneq; rw [ford_nan h]; rfl
  rw [if_pos this, decide_eq_true (.inr ((bad_iff b).2 h))]
 ·have h' : rung b ≤ 9218868437227405312 := by omega
  have h1 : ¬ (fneq b b = true) := by unfold fneq; rw [ford_self h']; decide
  rw [if_neg h1]
  by_cases h2 : rung b = 0
  ·have h3 : feq b (0 : F64) = true := by
    unfold feq
    rw [ford_eq h' (by decide), skey0]
    have : skey b = 0 := by unfold skey; rw [h2]; split <;> rfl
    rw [this]
    rfl
   rw [if_pos h3]
   unfold g_math_Signbit
   rw [Option.bind_some]
   congr 1
   rw [decide_eq_decide, sign_eq, top_iff, bad_iff]
   unfold rung at *
   omega
  ·have h3 : ¬ (feq b (0 : F64) = true) := by
    unfold feq
    rw [ford_eq h' (by decide), skey0]
    intro q
    have q2 : compare (skey b) 0 = .eq := by simpa using q
    have := cmp_eq.1 q2
    unfold skey at this
    split at this <;> omega
   rw [if_neg h3, decide_eq_false]
   rw [top_iff, bad_iff]
   unfold rung at *
   omega
theorem u64i (n : Int) : (UInt64.ofInt n).toNat = (n % 18446744073709551616).toNat := by
 unfold UInt64.ofInt
 rw [UInt64.toNat_ofNat']
 have : (2 : Int) ^ 64 = 18446744073709551616 := by decide
 have : (2 : Nat) ^ 64 = 18446744073709551616 := by decide
 omega
def okV1 (v : GValue) : Prop := 0 ≤ v.Kind ∧ v.Kind ≤ 4 ∧ v.Text.length ≤ 40 ∧ (v.Kind = 3 → ¬ ((v.Bits = (9223372036854775808 : UInt64)) ∨ ((18437736874454810624 : UInt64) < shl_u64 v.Bits 1)))
theorem check_eq (v : GValue) (hi : okI v.Int_) : ∃ e : Int, g_value_Check v = some e ∧ g_ref_ValueFault v = some e ∧ (e = 0 → okV1 v) := by
 obtain ⟨k, i, b, t⟩ := v
 unfold okI at hi
 dsimp only at hi
 obtain ⟨vb, hv⟩ := valid_ok t
 unfold g_value_Check g_ref_ValueFault g_ref_badReal okV1
 dsimp only
 by_cases hk : k < 0 ∨ k > 4
 ·rw [if_pos hk, if_neg (show ¬ k = 0 by omega), if_neg (show ¬ k = 1 by omega), Option.bind_some, decide_eq_false (show ¬ k = 2 by omega), if_neg (by decide), if_neg (show ¬ k = 3 by omega), if_neg (show ¬ k = 4 by omega)]
  exact ⟨2, rfl, rfl, fun q => absurd q (by decide)⟩
 ·rw [if_neg hk]
  by_cases hl : (t.length : Int) > 40
  ·rw [if_pos hl]
   refine ⟨1, rfl, ?_, fun q => absurd q (by decide)⟩
   have hk5 : k = 0 ∨ k = 1 ∨ k = 2 ∨ k = 3 ∨ k = 4 := by omega
   rcases hk5 with rfl | rfl | rfl | rfl | rfl <;> simp [hl]
  ·rw [if_neg hl, letO_eq]
   have hk5 : k = 0 ∨ k = 1 ∨ k = 2 ∨ k = 3 ∨ k = 4 := by omega
   rcases hk5 with rfl | rfl | rfl | rfl | rfl
   ·by_cases h : t = [] ∧ b = 0 ∧ i = 0
    ·obtain ⟨rfl, rfl, rfl⟩ := h
     refine ⟨0, by simp, ?_, fun _ => by simp⟩
     simp [valid_nil, GValue.zero]
    ·refine ⟨3, ?_, ?_, fun q => absurd q (by decide)⟩
     ·rw [if_pos]
      simp
      by_cases h1 : t = []
      ·by_cases h2 : b = 0
       ·exact .inr fun q => h ⟨h1, h2, q⟩
       ·exact .inl (.inr h2)
      ·exact .inl (.inl h1)
     ·simp [GValue.zero, hl]
      rw [if_neg (fun q => h ⟨q.2.2, q.2.1, q.1⟩)]
      rfl
   ·by_cases h : t = [] ∧ b = 0
    ·obtain ⟨rfl, rfl⟩ := h
     by_cases hi2 : i = 0 ∨ i = 1
     ·have h1 : ¬ ((1 : UInt64) < UInt64.ofInt i) := by
       rw [UInt64.lt_iff_toNat_lt, u64i]
       show ¬ 1 < _
       omega
      refine ⟨0, ?_, ?_, fun _ => by simp⟩
      ·simp
       rw [if_neg (by omega)]
       rfl
      ·simp [GValue.zero, valid_nil]
       rw [if_neg h1]
       rfl
     ·have h1 : (1 : UInt64) < UInt64.ofInt i := by
       rw [UInt64.lt_iff_toNat_lt, u64i]
       show 1 < _
       omega
      refine ⟨3, ?_, ?_, fun q => absurd q (by decide)⟩
      ·simp
       rw [if_pos (by omega)]
       rfl
      ·simp [GValue.zero]
       rw [if_pos h1]
       rfl
    ·refine ⟨3, ?_, ?_, fun q => absurd q (by decide)⟩
     ·rw [if_pos]
      simp
      by_cases h1 : t = []
      ·exact .inr fun q => h ⟨h1, q⟩
      ·exact .inl h1
     ·simp [GValue.zero, hl]
      rw [if_neg (fun q => h ⟨q.2, q.1⟩)]
      rfl
   ·by_cases h : t = [] ∧ b = 0
    ·obtain ⟨rfl, rfl⟩ := h
     refine ⟨0, by simp, ?_, fun _ => by simp⟩
     simp [valid_nil, GValue.zero]
    ·refine ⟨3, ?_, ?_, fun q => absurd q (by decide)⟩
     ·rw [if_pos]
      simp
      by_cases h1 : t = []
      ·exact .inr fun q => h ⟨h1, q⟩
      ·exact .inl h1
     ·simp [GValue.zero, hl]
      rw [if_neg (fun q => h ⟨q.2, q.1⟩)]
      rfl
   ·by_cases h : t = [] ∧ i = 0
    ·obtain ⟨rfl, rfl⟩ := h
     have hr := real_bad b
     by_cases hb : (b = (9223372036854775808 : UInt64)) ∨ ((18437736874454810624 : UInt64) < shl_u64 b 1)
     ·refine ⟨3, ?_, ?_, fun q => absurd q (by decide)⟩
      ·rw [if_neg (by simp), if_neg (by decide), if_pos rfl, hr, decide_eq_true hb]
       rfl
      ·revert hb
       generalize shl_u64 b 1 = z
       intro hb
       simp [GValue.zero]
       rw [if_pos hb]
       rfl
     ·refine ⟨0, ?_, ?_, fun _ => ⟨by decide, by decide, by simp, fun _ => hb⟩⟩
      ·rw [if_neg (by simp), if_neg (by decide), if_pos rfl, hr, decide_eq_false hb]
       rfl
      ·revert hb
       generalize shl_u64 b 1 = z
       intro hb
       simp [GValue.zero, valid_nil]
       rw [if_neg hb]
       rfl
    ·refine ⟨3, ?_, ?_, fun q => absurd q (by decide)⟩
     ·rw [if_pos]
      simp
      by_cases h1 : t = []
      ·exact .inr fun q => h ⟨h1, q⟩
      ·exact .inl h1
     ·simp [GValue.zero, hl]
      rw [if_neg (fun q => h ⟨q.2, q.1⟩)]
      rfl
   ·by_cases h : b = 0 ∧ i = 0
    ·obtain ⟨rfl, rfl⟩ := h
     cases vb with
     | true =>
      refine ⟨0, ?_, ?_, fun _ => ⟨by decide, by decide, by omega, fun q => absurd q (by decide)⟩⟩
      ·simp [hv]
      ·simp [GValue.zero, hv, hl]
     | false =>
      refine ⟨3, ?_, ?_, fun q => absurd q (by decide)⟩
      ·simp [hv]
      ·simp [GValue.zero, hv, hl]
    ·refine ⟨3, ?_, ?_, fun q => absurd q (by decide)⟩
     ·rw [if_pos]
      simp
      by_cases h1 : b = 0
      ·exact .inr fun q => h ⟨h1, q⟩
      ·exact .inl h1
     ·simp [GValue.zero, hl]
      rw [if_neg (fun q => h ⟨q.2, q.1⟩)]
      rfl
end Go.Proofs.YtcahembojhmpbaaDoor.VM

/- Words and rules that the proof uses. -/
namespace Go.Proofs.YtcahembojhmpbaaDoor.VM
open Go Go.RowKit
theorem u8_all (p : UInt8 → Bool) (h : (List.range 256).all (fun n => p (UInt8.ofNat n)) = true) (c : UInt8) : p c = true := by
 have := List.all_eq_true.1 h c.toNat (List.mem_range.2 c.toNat_lt)
 rwa [UInt8.ofNat_toNat] at this
theorem any_loop {α β : Type} [Inhabited α] {step : Int → Option (Int ⊕ β)} (l : List α) (p : α → Bool) (a b : β) (hl : l.length < 9223372036854775807)
  (hs : ∀ k, k < l.length → step (k : Int) = some (if p (lrd l k) = true then .inr a else .inl (w64 ((k : Int) + 1)))) (he : step (l.length : Int) = some (.inr b)) : loopO step (0 : Int) = some (if l.any p = true then a else b) := by
 have h := loopO_goL (step := step) l (fun k (_ : Unit) => (k : Int)) (fun _ x _ => if p x = true then .inr a else .inl ()) (fun _ => b) (fun _ _ => True) (fun k s hk _ => ⟨by
  rw [hs k hk, w64_succ (by omega)]
  by_cases hp : p (lrd l k) = true
  ·rw [if_pos hp, if_pos hp]
  ·rw [if_neg hp, if_neg hp], fun _ _ => trivial⟩) (fun _ _ => he) (s := ()) trivial
 have h2 : ∀ (m : List α) (k : Nat), goL (fun _ x (_ : Unit) => if p x = true then (.inr a : Unit ⊕ β) else .inl ()) (fun _ => b) m k () = if m.any p = true then a else b := by
  intro m
  induction m with
  | nil => intro k; rfl
  | cons x m ih =>
   intro k
   have e : (x :: m).any p = (p x || m.any p) := List.any_cons
   simp only [goL]
   by_cases hp : p x = true
   ·rw [if_pos hp, if_pos (by rw [e, hp]; rfl)]
   ·rw [if_neg hp]
    simp only
    rw [ih]
    have e2 : (x :: m).any p = m.any p := by rw [e, Bool.eq_false_iff.2 hp, Bool.false_or]
    by_cases hm : m.any p = true
    ·rw [if_pos hm, if_pos (e2.trans hm)]
    ·rw [if_neg hm, if_neg (fun h => hm (e2.symm.trans h))]
 rw [h2] at h
 exact h
theorem reach_loop {α : Type} [Inhabited α] {step : Int → Option (Int ⊕ Int)} (l : List α) (p : α → Bool) (hl : l.length < 9223372036854775807)
  (hs : ∀ k, k < l.length → step (k : Int) = some (if p (lrd l k) = true then .inl (w64 ((k : Int) + 1)) else .inr (k : Int))) (he : step (l.length : Int) = some (.inr (l.length : Int))) : ∃ n : Nat, loopO step (0 : Int) = some (n : Int) ∧ (n = l.length ↔ l.all p = true) := by
 have key : ∀ (m : List α) (k : Nat), l.drop k = m → k ≤ l.length → ∃ n : Nat, loopO step (k : Int) = some (n : Int) ∧ (n = l.length ↔ m.all p = true) := by
  intro m
  induction m with
  | nil =>
   intro k hm hk
   have : k = l.length := by
    have := congrArg List.length hm
    simp at this
    omega
   subst this
   exact ⟨l.length, loopO_done he, by simp⟩
  | cons x m ih =>
   intro k hm hk
   have hlt : k < l.length := by
    rcases Nat.lt_or_ge k l.length with h | h
    ·exact h
    ·rw [List.drop_eq_nil_of_le h] at hm
     cases hm
   rw [drop_step hlt] at hm
   obtain ⟨hx, hm⟩ := List.cons.inj hm
   have h1 := hs k hlt
   rw [hx] at h1
   by_cases hp : p x = true
   ·rw [if_pos hp, w64_succ (by omega)] at h1
    obtain ⟨n, h2, h3⟩ := ih (k + 1) hm hlt
    exact ⟨n, by rw [loopO_next h1]; exact h2, by rw [h3, List.all_cons, hp, Bool.true_and]⟩
   ·rw [if_neg hp] at h1
    refine ⟨k, loopO_done h1, ?_⟩
    rw [List.all_cons, Bool.eq_false_iff.2 hp, Bool.false_and]
    constructor
    ·intro h; omega
    ·intro h; cases h
 exact key l 0 rfl (Nat.zero_le _)
theorem all_of_any {α : Type} (p q : α → Bool) (h : ∀ x, q x = !(p x)) : ∀ l : List α, l.any q = !(l.all p)
 | [] => rfl
 | x :: l => by rw [List.any_cons, List.all_cons, all_of_any p q h l, h, Bool.not_and]
def inB (c : UInt8) : Bool := (decide (97 ≤ c) && decide (c ≤ 122)) || (decide (48 ≤ c) && decide (c ≤ 57)) || decide (c = 95)
def smallB (c : UInt8) : Bool := decide (97 ≤ c) && decide (c ≤ 122)
theorem small_eq (c : UInt8) : g_lex_small c = some (smallB c) := by
 unfold g_lex_small smallB
 rw [Bool.decide_and]
theorem inName_eq (c : UInt8) : g_lex_inName c = some (inB c) := by
 unfold g_lex_inName g_lex_digit inB
 rw [small_eq, Option.bind_some]
 unfold smallB
 rw [Bool.decide_and]
 by_cases h1 : (decide (97 ≤ c) && decide (c ≤ 122)) = true
 ·rw [if_pos h1, h1]; rfl
 ·rw [if_neg h1, Bool.eq_false_iff.2 h1, Option.bind_some]
  by_cases h2 : (decide (48 ≤ c) && decide (c ≤ 57)) = true
  ·rw [if_pos h2, h2]; rfl
  ·rw [if_neg h2, Bool.eq_false_iff.2 h2]; rfl
theorem t1_in (c : UInt8) : (g_ref_isName_t1.any fun x => decide (x = c)) = inB c := by
 have := u8_all (fun c => (g_ref_isName_t1.any fun x => decide (x = c)) == inB c) (by decide +kernel) c
 exact eq_of_beq this
theorem t0_small (c : UInt8) : (g_ref_isName_t0.any fun x => decide (x = c)) = smallB c := by
 have := u8_all (fun c => (g_ref_isName_t0.any fun x => decide (x = c)) == smallB c) (by decide +kernel) c
 exact eq_of_beq this
theorem among_eq (c : UInt8) (l : List UInt8) (hl : l.length < 9223372036854775807) : g_ref_among c l = some (l.any fun x => decide (x = c)) := by
 unfold g_ref_among
 have h := any_loop (step := g_ref_among_l0 c l) l (fun x => decide (x = c)) (.inl true) (.inr ()) hl (fun k hk => by
  unfold g_ref_among_l0
  dsimp only
  rw [if_pos (natLt hk), if_pos (natIn hk), Int.toNat_natCast]
  by_cases h1 : lrd l k = c
  ·rw [if_pos h1, if_pos (decide_eq_true h1)]
  ·rw [if_neg h1, if_neg (by rw [decide_eq_false h1]; decide)]) (by
  unfold g_ref_among_l0
  dsimp only
  rw [if_neg natNlt])
 rw [h, Option.bind_some]
 by_cases h1 : (l.any fun x => decide (x = c)) = true
 ·rw [if_pos h1, h1]
 ·rw [if_neg h1, Bool.eq_false_iff.2 h1]
theorem reach_eq (s l : List UInt8) (hs : s.length < 9223372036854775807) (hl : l.length < 9223372036854775807) : ∃ n : Nat, g_ref_reach s l = some (n : Int) ∧ (n = s.length ↔ (s.all fun c => l.any fun x => decide (x = c)) = true) := by
 obtain ⟨n, h1, h2⟩ := reach_loop (step := g_ref_reach_l0 s l) s (fun c => l.any fun x => decide (x = c)) hs (fun k hk => by
  unfold g_ref_reach_l0
  dsimp only
  rw [if_pos (natLt hk), if_pos (natIn hk), Int.toNat_natCast, among_eq _ _ hl, Option.bind_some, Option.bind_some]
  by_cases h1 : (l.any fun x => decide (x = lrd s k)) = true
  ·rw [if_pos h1, if_pos h1]
  ·rw [if_neg h1, if_neg h1]) (by
  unfold g_ref_reach_l0
  dsimp only
  rw [if_neg natNlt, Option.bind_some, if_neg (by decide)])
 unfold g_ref_reach
 rw [h1]
 exact ⟨n, rfl, h2⟩
theorem all_in (s : List UInt8) (hs : s.length < 9223372036854775807) : g_lex_all_i0 s = some (s.all inB && decide (s ≠ [])) := by
 unfold g_lex_all_i0
 have h := any_loop (step := g_lex_all_i0_l0 s) s (fun x => !(inB x)) (.inl false) (.inr ()) hs (fun k hk => by
  unfold g_lex_all_i0_l0
  dsimp only
  rw [if_pos (natLt hk), if_pos (natIn hk), Int.toNat_natCast, inName_eq, Option.bind_some]
  by_cases h1 : (!(inB (lrd s k))) = true
  ·rw [if_pos h1, if_pos h1]
  ·rw [if_neg h1, if_neg h1]) (by
  unfold g_lex_all_i0_l0
  dsimp only
  rw [if_neg natNlt])
 rw [h, Option.bind_some, all_of_any inB _ (fun _ => rfl)]
 by_cases h1 : s.all inB = true
 ·rw [h1, if_neg (by decide)]; rfl
 ·rw [Bool.eq_false_iff.2 h1, if_pos (by decide)]; rfl
def isNm (s : List UInt8) : Bool := decide (s ≠ []) && (smallB (lrd s 0) && s.all inB)
theorem isName_eq (s : List UInt8) (hs : s.length < 9223372036854775807) : g_ref_isName s = some (isNm s) := by
 unfold g_ref_isName isNm
 by_cases h0 : s = []
 ·subst h0; rfl
 ·have hp : 0 < s.length := List.length_pos_iff.2 h0
  rw [if_pos h0, if_pos hp, among_eq _ _ (by decide), t0_small, Option.bind_some, decide_eq_true h0, Bool.true_and]
  obtain ⟨n, h1, h2⟩ := reach_eq s g_ref_isName_t1 hs (by decide)
  rw [h1, Option.bind_some]
  simp only [t1_in] at h2
  by_cases h3 : smallB (lrd s 0) = true
  ·rw [if_pos h3, h3, Option.bind_some, Bool.true_and]
   congr 1
   by_cases h4 : s.all inB = true
   ·have h5 := h2.2 h4
    rw [h4, decide_eq_true (by omega)]
   ·have h5 : n ≠ s.length := fun h => h4 (h2.1 h)
    rw [Bool.eq_false_iff.2 h4, decide_eq_false (by omega)]
  ·rw [if_neg h3, Bool.eq_false_iff.2 h3]
   rfl
theorem nameP_eq (s : List UInt8) (hs : s.length < 9223372036854775807) : (((g_lex_all_i0 s).bind fun r'5 => (if r'5 = true then if 0 < s.length then (g_lex_small (lrd s 0)).bind fun r'6 => some r'6 else none else some false)).bind fun g'7 => some g'7) = some (isNm s) := by
 rw [all_in s hs, Option.bind_some]
 unfold isNm
 by_cases h0 : s = []
 ·subst h0; rfl
 ·have hp : 0 < s.length := List.length_pos_iff.2 h0
  rw [decide_eq_true h0, Bool.and_true, Bool.true_and, if_pos hp, small_eq]
  by_cases h4 : s.all inB = true
  ·rw [if_pos h4, h4, Bool.and_true]; rfl
  ·rw [if_neg h4, Bool.eq_false_iff.2 h4, Bool.and_false]; rfl
end Go.Proofs.YtcahembojhmpbaaDoor.VM

/- Words and rules that the proof uses. -/
namespace Go.Proofs.YtcahembojhmpbaaDoor.VM
open Go Go.RowKit
def wrong (long ok : Prop) [Decidable long] [Decidable ok] : Int := if long then 1 else if ok then 0 else 3
theorem wrong_l {long : Prop} [Decidable long] {b b1 b2 : Bool} {w : Prop} [Decidable w] (h1 : b1 = true ↔ long) (h2 : b2 = true ↔ ¬ w) : (if b1 = true then some (1 : Int) else (if b2 = true then some (3 : Int) else ((some b : Option Bool).bind fun j'3 => (if (!j'3) = true then some (3 : Int) else some (0 : Int))))) = some (wrong long (b = true ∧ w)) := by
 unfold wrong
 by_cases hl : long
 ·rw [if_pos (h1.2 hl), if_pos hl]
 ·rw [if_neg (fun h => hl (h1.1 h)), if_neg hl]
  by_cases hw : w
  ·rw [if_neg (fun h => h2.1 h hw), Option.bind_some]
   cases b with
   | true => rw [if_neg (show ¬ ((!true) = true) by decide), if_pos ⟨rfl, hw⟩]
   | false => rw [if_pos (show (!false) = true from rfl), if_neg (by simp)]
  ·rw [if_pos (h2.2 hw), if_neg (fun h => hw h.2)]
theorem name_lex (t : GToken) (hK : t.Kind = 1) (hT : t.Text.length < 9223372036854775807) : g_lex_Check t = some (wrong ((t.Text.length : Int) > 8) (isNm t.Text = true ∧ (t.Int_ = 0 ∧ t.Bits = 0))) := by
 obtain ⟨K, T, I, B⟩ := t
 dsimp only at hK hT ⊢
 subst hK
 unfold g_lex_Check
 dsimp only
 rw [if_neg (show ¬ ((1 : Int) < 1 ∨ (1 : Int) > 6) by decide), letO_eq, letO_eq, if_pos (show (1 : Int) = 1 from rfl), nameP_eq T hT]
 exact wrong_l (by simp) (by simp [-not_and, Classical.not_and_iff_not_or_not])
theorem name_eq (s : List UInt8) (hs : s.length < 9223372036854775807) : g_lex_Check ({ { GToken.zero with Kind := (1 : Int) } with Text := s }) = some (wrong ((s.length : Int) > 8) (isNm s = true)) := by
 have h := name_lex ({ { GToken.zero with Kind := (1 : Int) } with Text := s }) rfl hs
 rw [h]
 congr 1
 unfold wrong
 by_cases h : isNm s = true
 ·simp [GToken.zero, h]
 ·simp [GToken.zero, h]
end Go.Proofs.YtcahembojhmpbaaDoor.VM

/- Words and rules that the proof uses. -/
namespace Go.Proofs.YtcahembojhmpbaaDoor.VM
open Go Go.RowKit
def lev : Nat → List GExpr → List GExpr
 | 0, l => l
 | k + 1, l => lev k (l.flatMap GExpr.Args)
def cnt : Nat → List GExpr → Nat
 | 0, _ => 0
 | k + 1, l => l.length + cnt k (l.flatMap GExpr.Args)
theorem lev_app : ∀ (k : Nat) (a b : List GExpr), lev k (a ++ b) = lev k a ++ lev k b
 | 0, _, _ => rfl
 | k + 1, a, b => by rw [lev, lev, lev, List.flatMap_append, lev_app k]
theorem cnt_app : ∀ (k : Nat) (a b : List GExpr), cnt k (a ++ b) = cnt k a + cnt k b
 | 0, _, _ => rfl
 | k + 1, a, b => by rw [cnt, cnt, cnt, List.flatMap_append, cnt_app k, List.length_append]; omega
theorem lev_succ : ∀ (k : Nat) (l : List GExpr), lev (k + 1) l = (lev k l).flatMap GExpr.Args
 | 0, _ => rfl
 | k + 1, l => by rw [lev, lev_succ k, lev]
theorem cnt_succ : ∀ (k : Nat) (l : List GExpr), cnt (k + 1) l = cnt k l + (lev k l).length
 | 0, l => by simp [cnt, lev]
 | k + 1, l => by rw [cnt, cnt_succ k, cnt, lev]; omega
theorem lev_nil : ∀ k, lev k [] = []
 | 0 => rfl
 | k + 1 => by rw [lev, List.flatMap_nil, lev_nil k]
theorem cnt_nil : ∀ k, cnt k [] = 0
 | 0 => rfl
 | k + 1 => by rw [cnt, List.flatMap_nil, cnt_nil k]; rfl
theorem lev_end {j : Nat} {l : List GExpr} (h : lev j l = []) : ∀ i, lev (j + i) l = [] ∧ cnt (j + i) l = cnt j l
 | 0 => ⟨h, rfl⟩
 | i + 1 => by
  obtain ⟨h1, h2⟩ := lev_end h i
  rw [show j + (i + 1) = (j + i) + 1 by omega, lev_succ, cnt_succ, h1, h2]
  exact ⟨rfl, rfl⟩
theorem cnt_mono {l : List GExpr} (j : Nat) : ∀ i, cnt j l ≤ cnt (j + i) l
 | 0 => Nat.le_refl _
 | i + 1 => by
  rw [show j + (i + 1) = (j + i) + 1 by omega, cnt_succ]
  have := cnt_mono (l := l) j i
  omega
def fine (m : Nat) (e : GExpr) : Prop := (lev m [e]).length = 0 ∧ cnt m [e] ≤ 40
instance (m : Nat) (e : GExpr) : Decidable (fine m e) := inferInstanceAs (Decidable (_ ∧ _))
theorem take_lev {l : List GExpr} {m k : Nat} (hk : k < l.length) : lev m (l.take (k + 1)) = lev m (l.take k) ++ lev m [lrd l k] := by rw [take_step hk, lev_app]
theorem take_cnt {l : List GExpr} {m k : Nat} (hk : k < l.length) : cnt m (l.take (k + 1)) = cnt m (l.take k) + cnt m [lrd l k] := by rw [take_step hk, cnt_app]
theorem lev_part {l : List GExpr} {m k : Nat} (hk : k < l.length) (h : lev m l = []) : lev m [lrd l k] = [] := by
 have : l = l.take k ++ ([lrd l k] ++ l.drop (k + 1)) := by
  rw [List.singleton_append, ← drop_step hk, List.take_append_drop]
 rw [this, lev_app, lev_app] at h
 exact (List.append_eq_nil_iff.1 (List.append_eq_nil_iff.1 h).2).1
theorem cnt_part {l : List GExpr} {m k : Nat} (hk : k < l.length) : cnt m (l.take k) + cnt m [lrd l k] ≤ cnt m l := by
 have : l = l.take k ++ ([lrd l k] ++ l.drop (k + 1)) := by
  rw [List.singleton_append, ← drop_step hk, List.take_append_drop]
 conv => rhs; rw [this, cnt_app, cnt_app]
 omega
theorem one_args (e : GExpr) : [e].flatMap GExpr.Args = e.Args := by simp
theorem fine_succ {m : Nat} {e : GExpr} : fine (m + 1) e ↔ lev m e.Args = [] ∧ 1 + cnt m e.Args ≤ 40 := by
 unfold fine
 rw [lev, cnt, one_args, List.length_singleton, List.length_eq_zero_iff]
theorem exOk {e : GExpr} (q : GExpr.ok e) : okI e.Op ∧ okI e.Value.Int_ ∧ e.Name.length < 9223372036854775807 ∧ e.Args.length ≤ 140737488351232 ∧ ∀ a ∈ e.Args, GExpr.ok a := by
 cases q with
 | mk h0 h1 h2 h3 h4 h5 =>
  have h6 : e.Args.length ≤ reachBytes := Nat.le_trans (Nat.le_mul_of_pos_right _ (by decide)) h3
  exact ⟨h0, h1.2.1, Nat.lt_of_le_of_lt h2 (by decide), h6, h5⟩
theorem size_eq : ∀ (m f : Nat) (e : GExpr) (d : Int), d = 8 - (m : Int) → m ≤ 7 → m < f → GExpr.ok e → g_expr_size f e d = some (if fine m e then ((cnt m [e] : Int), true) else (0, false))
 | m, 0, _, _, _, _, h, _ => by omega
 | 0, f + 1, e, d, hd, _, _, _ => by
  unfold g_expr_size g_expr_size_b
  rw [if_pos (by omega), if_neg (fun h => by have := h.1; rw [lev] at this; cases this)]
 | m + 1, f + 1, e, d, hd, hm, hf, q => by
  obtain ⟨_, _, _, hl, hargs⟩ := exOk q
  unfold g_expr_size g_expr_size_b
  rw [if_neg (by omega)]
  obtain ⟨r, h1, h2⟩ := loopO_times (step := g_expr_size_l0 e d (g_expr_size f)) e.Args.length (fun k (n : Int) => (n, (k : Int))) (fun k n => n = 1 + (cnt m (e.Args.take k) : Int) ∧ 1 + cnt m (e.Args.take k) ≤ 40 ∧ lev m (e.Args.take k) = [])
   (fun r => r = if fine (m + 1) e then .inr (1 + (cnt m e.Args : Int)) else .inl (0, false)) (fun k n hk hi => by
   obtain ⟨rfl, hc, hv⟩ := hi
   have hpart := cnt_part (m := m) hk
   have ih := size_eq m f (lrd e.Args k) (d + 1) (by omega) (by omega) (by omega) (hargs _ (lrd_mem hk))
   unfold g_expr_size_l0
   dsimp only
   rw [if_pos (natLt hk), if_pos (natIn hk), Int.toNat_natCast, w64_id (n := d + 1) (by omega), ih, Option.bind_some]
   by_cases hfine : fine m (lrd e.Args k)
   ·rw [if_pos hfine]
    have hca := hfine.2
    dsimp only
    rw [w64_id (n := 1 + (cnt m (e.Args.take k) : Int) + (cnt m [lrd e.Args k] : Int)) (by omega)]
    by_cases hs : 1 + (cnt m (e.Args.take k) : Int) + (cnt m [lrd e.Args k] : Int) > 40
    ·right
     refine ⟨.inl (0, false), by rw [if_pos (.inr hs)], ?_⟩
     rw [if_neg (fun h => by have := (fine_succ.1 h).2; omega)]
    ·left
     refine ⟨1 + (cnt m (e.Args.take k) : Int) + (cnt m [lrd e.Args k] : Int), ?_, ?_, ?_, ?_⟩
     ·rw [if_neg (by intro h; rcases h with h | h; exact absurd h (by decide); exact hs h), w64_succ (by omega)]
     ·rw [take_cnt hk]; omega
     ·rw [take_cnt hk]; omega
     ·rw [take_lev hk, hv, List.length_eq_zero_iff.1 hfine.1]; rfl
   ·rw [if_neg hfine]
    right
    refine ⟨.inl (0, false), by rw [if_pos (.inl rfl)], ?_⟩
    rw [if_neg (fun h => hfine ?_)]
    obtain ⟨h3, h4⟩ := fine_succ.1 h
    exact ⟨by rw [lev_part hk h3]; rfl, by omega⟩) (fun n hi => by
   obtain ⟨rfl, hc, hv⟩ := hi
   rw [List.take_length] at hc hv
   refine ⟨.inr (1 + (cnt m e.Args : Int)), ?_, ?_⟩
   ·unfold g_expr_size_l0
    dsimp only
    rw [if_neg natNlt, List.take_length]
   ·rw [if_pos (fine_succ.2 ⟨hv, hc⟩)]) (s := 1) ⟨by rw [List.take_zero, cnt_nil]; rfl, by rw [List.take_zero, cnt_nil]; decide, by rw [List.take_zero, lev_nil]⟩
  have h1' : loopO (g_expr_size_l0 e d (g_expr_size f)) ((1 : Int), (0 : Int)) = some r := h1
  rw [h1', h2, Option.bind_some]
  by_cases hfine : fine (m + 1) e
  ·rw [if_pos hfine, if_pos hfine]
   dsimp only
   rw [cnt, one_args, List.length_singleton]
   congr 2
  ·rw [if_neg hfine, if_neg hfine]
theorem row_next (row : List GExpr) (hl : row.length ≤ 1000) : ∃ o, loopO (g_ref_within_l1 row) ((0 : Int), ([] : List GExpr)) = some o ∧ match o with
  | .inl b => b = false ∧ 40 < (row.flatMap GExpr.Args).length
  | .inr nx => nx = row.flatMap GExpr.Args ∧ nx.length ≤ 40 := by
 refine loopO_times (step := g_ref_within_l1 row) row.length (fun k (nx : List GExpr) => ((k : Int), nx)) (fun k nx => nx = (row.take k).flatMap GExpr.Args ∧ nx.length ≤ 40) _ (fun k nx hk hi => ?_) (fun nx hi => ?_) (s := []) ⟨by simp, Nat.zero_le _⟩
 ·obtain ⟨rfl, hc⟩ := hi
  have hst : (row.take (k + 1)).flatMap GExpr.Args = (row.take k).flatMap GExpr.Args ++ (lrd row k).Args := by
   rw [take_step hk, List.flatMap_append, one_args]
  have htot : ((row.take k).flatMap GExpr.Args).length + (lrd row k).Args.length ≤ (row.flatMap GExpr.Args).length := by
   have h3 : (row.take (k + 1) ++ row.drop (k + 1)).flatMap GExpr.Args = row.flatMap GExpr.Args := by rw [List.take_append_drop]
   rw [List.flatMap_append, hst] at h3
   rw [← h3, List.length_append, List.length_append]
   omega
  unfold g_ref_within_l1
  dsimp only
  rw [if_pos (natLt hk), if_pos (natIn hk), Int.toNat_natCast]
  by_cases ha : ((lrd row k).Args.length : Int) > 40
  ·right
   exact ⟨.inl false, by rw [if_pos ha], rfl, by omega⟩
  ·rw [if_neg ha, if_pos (show room _ _ by simp only [room]; omega)]
   by_cases hs : ((((row.take k).flatMap GExpr.Args ++ (lrd row k).Args).length : Nat) : Int) > 40
   ·right
    refine ⟨.inl false, by rw [if_pos hs], rfl, ?_⟩
    rw [List.length_append] at hs
    omega
   ·left
    refine ⟨(row.take (k + 1)).flatMap GExpr.Args, by rw [if_neg hs, w64_succ (by omega), hst], rfl, ?_⟩
    rw [hst]
    omega
 ·obtain ⟨rfl, hc⟩ := hi
  rw [List.take_length] at hc
  refine ⟨.inr (row.flatMap GExpr.Args), ?_, rfl, hc⟩
  unfold g_ref_within_l1
  dsimp only
  rw [if_neg natNlt, List.take_length]
theorem within_eq (e : GExpr) : g_ref_within e = some (decide (fine 7 e)) := by
 obtain ⟨r, h1, h2⟩ := loopO_times (step := g_ref_within_l0) 7 (fun j (_ : Unit) => ((cnt j [e] : Int), ((j + 1 : Nat) : Int), lev j [e])) (fun j _ => cnt j [e] ≤ 40 ∧ (lev j [e]).length ≤ 40) (fun r => r = if fine 7 e then .inr () else .inl false) (fun j _ hj hc => by
  obtain ⟨hc, hlen⟩ := hc
  have hsucc := cnt_succ j [e]
  unfold g_ref_within_l0
  dsimp only
  by_cases h0 : (lev j [e]).length = 0
  ·right
   refine ⟨.inr (), by rw [if_neg (by omega)], ?_⟩
   have h3 := lev_end (List.length_eq_zero_iff.1 h0) (7 - j)
   rw [show j + (7 - j) = 7 by omega] at h3
   rw [if_pos ⟨by rw [h3.1]; rfl, by rw [h3.2]; exact hc⟩]
  ·rw [if_pos (by omega), w64_id (n := (cnt j [e] : Int) + ((lev j [e]).length : Int)) (by omega)]
   have hm := cnt_mono (l := [e]) (j + 1) (6 - j)
   rw [show j + 1 + (6 - j) = 7 by omega] at hm
   by_cases hb : (cnt j [e] : Int) + ((lev j [e]).length : Int) > 40
   ·right
    refine ⟨.inl false, by rw [if_pos (.inr hb)], ?_⟩
    rw [if_neg (fun h => ?_)]
    have h4 := h.2
    omega
   ·rw [if_neg (by omega)]
    obtain ⟨o, h5, h6⟩ := row_next (lev j [e]) (by omega)
    rw [h5, Option.bind_some]
    have hls : (lev j [e]).flatMap GExpr.Args = lev (j + 1) [e] := (lev_succ j [e]).symm
    cases o with
    | inl b =>
     obtain ⟨rfl, h7⟩ := h6
     right
     refine ⟨.inl false, rfl, ?_⟩
     rw [if_neg (fun h => ?_)]
     rw [hls] at h7
     rcases Nat.lt_or_ge j 6 with h8 | h8
     ·have hs2 : cnt (j + 2) [e] = cnt (j + 1) [e] + (lev (j + 1) [e]).length := cnt_succ (j + 1) [e]
      have hm2 := cnt_mono (l := [e]) (j + 2) (5 - j)
      rw [show j + 2 + (5 - j) = 7 by omega] at hm2
      have h4 := h.2
      omega
     ·have : j + 1 = 7 := by omega
      rw [this] at h7
      have h4 := h.1
      omega
    | inr nx =>
     obtain ⟨rfl, h7⟩ := h6
     rw [hls] at h7
     left
     refine ⟨(), ?_, by omega, h7⟩
     dsimp only
     rw [hls, hsucc, w64_id (by omega)]
     congr 3) (fun _ hc => by
  obtain ⟨hc, hlen⟩ := hc
  unfold g_ref_within_l0
  dsimp only
  by_cases h0 : (lev 7 [e]).length = 0
  ·exact ⟨.inr (), by rw [if_neg (by omega)], by rw [if_pos ⟨h0, hc⟩]⟩
  ·exact ⟨.inl false, by rw [if_pos (by omega), if_pos (.inl (by decide))], by rw [if_neg (fun h => h0 h.1)]⟩) (s := ()) ⟨Nat.zero_le _, show 1 ≤ 40 by decide⟩
 have h1' : loopO g_ref_within_l0 ((0 : Int), (1 : Int), ([e] : List GExpr)) = some r := h1
 unfold g_ref_within
 rw [h1', h2, Option.bind_some]
 by_cases h : fine 7 e
 ·rw [if_pos h, decide_eq_true h]
 ·rw [if_neg h, decide_eq_false h]
theorem wants_eq {op : Int} (h : 1 ≤ op ∧ op ≤ 20) : g_expr_wants op = some (lrd ([(0 : Int), (0 : Int), (0 : Int), (1 : Int), (1 : Int), (2 : Int), (2 : Int), (2 : Int), (2 : Int), (2 : Int), (2 : Int), (2 : Int), (2 : Int), (2 : Int), (2 : Int), (2 : Int), (2 : Int), (1 : Int), (1 : Int), (2 : Int), (2 : Int)] : List Int) op.toNat) := by
 have : op = 1 ∨ op = 2 ∨ op = 3 ∨ op = 4 ∨ op = 5 ∨ op = 6 ∨ op = 7 ∨ op = 8 ∨ op = 9 ∨ op = 10 ∨ op = 11 ∨ op = 12 ∨ op = 13 ∨ op = 14 ∨ op = 15 ∨ op = 16 ∨ op = 17 ∨ op = 18 ∨ op = 19 ∨ op = 20 := by omega
 rcases this with rfl | rfl | rfl | rfl | rfl | rfl | rfl | rfl | rfl | rfl | rfl | rfl | rfl | rfl | rfl | rfl | rfl | rfl | rfl | rfl <;> rfl
theorem node_eq {e : GExpr} (q : GExpr.ok e) : ∃ own : Int, g_expr_node e = some own ∧ ∀ R' : GExpr → Option Int, g_ref_nodeFault_b R' e = if own ≠ 0 then some own else (loopO (g_ref_nodeFault_l0 e R') (0 : Int)).bind fun o'13 => match o'13 with | .inl y'14 => some y'14 | .inr (y'15) => some (0 : Int) := by
 obtain ⟨_, hvi, hnm, _, _⟩ := exOk q
 unfold g_expr_node g_ref_nodeFault_b
 simp only [letO_eq]
 by_cases hop : (e.Op < (1 : Int)) ∨ (e.Op > (20 : Int))
 ·rw [if_pos hop]
  refine ⟨2, rfl, fun R' => ?_⟩
  rw [if_pos (by simp only [List.length_cons, List.length_nil]; omega), if_pos (show (2 : Int) ≠ 0 by decide)]
 ·have hop2 : 1 ≤ e.Op ∧ e.Op ≤ 20 := by omega
  rw [if_neg hop, wants_eq hop2, Option.bind_some]
  generalize hW : (lrd ([(0 : Int), (0 : Int), (0 : Int), (1 : Int), (1 : Int), (2 : Int), (2 : Int), (2 : Int), (2 : Int), (2 : Int), (2 : Int), (2 : Int), (2 : Int), (2 : Int), (2 : Int), (2 : Int), (2 : Int), (1 : Int), (1 : Int), (2 : Int), (2 : Int)] : List Int) e.Op.toNat) = W
  have hno : ¬ ((e.Op < (1 : Int)) ∨ (e.Op ≥ ((([(0 : Int), (0 : Int), (0 : Int), (1 : Int), (1 : Int), (2 : Int), (2 : Int), (2 : Int), (2 : Int), (2 : Int), (2 : Int), (2 : Int), (2 : Int), (2 : Int), (2 : Int), (2 : Int), (2 : Int), (1 : Int), (1 : Int), (2 : Int), (2 : Int)] : List Int).length : Nat) : Int))) := by
   simp only [List.length_cons, List.length_nil]; omega
  have hin : 0 ≤ e.Op ∧ e.Op < ((([(0 : Int), (0 : Int), (0 : Int), (1 : Int), (1 : Int), (2 : Int), (2 : Int), (2 : Int), (2 : Int), (2 : Int), (2 : Int), (2 : Int), (2 : Int), (2 : Int), (2 : Int), (2 : Int), (2 : Int), (1 : Int), (1 : Int), (2 : Int), (2 : Int)] : List Int).length : Nat) : Int) := by
   simp only [List.length_cons, List.length_nil]; omega
  simp only [if_neg hno, if_pos hin]
  obtain ⟨ve, hv1, hv2, _⟩ := check_eq e.Value hvi
  have hbad : ∀ (b : Bool) (R' : GExpr → Option Int), b = false → ((some b : Option Bool).bind fun j'2 => (if (!j'2) = true then some (3 : Int) else (loopO (g_ref_nodeFault_l0 e R') (0 : Int)).bind fun o'13 => match o'13 with | .inl y'14 => some y'14 | .inr (y'15) => some (0 : Int))) = if (3 : Int) ≠ 0 then some 3 else (loopO (g_ref_nodeFault_l0 e R') (0 : Int)).bind fun o'13 => match o'13 with | .inl y'14 => some y'14 | .inr (y'15) => some (0 : Int) := by
   intro b R' hb
   subst hb
   rfl
  have hgood : ∀ (b : Bool) (R' : GExpr → Option Int), b = true → ((some b : Option Bool).bind fun j'2 => (if (!j'2) = true then some (3 : Int) else (loopO (g_ref_nodeFault_l0 e R') (0 : Int)).bind fun o'13 => match o'13 with | .inl y'14 => some y'14 | .inr (y'15) => some (0 : Int))) = if (0 : Int) ≠ 0 then some 0 else (loopO (g_ref_nodeFault_l0 e R') (0 : Int)).bind fun o'13 => match o'13 with | .inl y'14 => some y'14 | .inr (y'15) => some (0 : Int) := by
   intro b R' hb
   subst hb
   rfl
  by_cases h1 : e.Op = 1
  ·-- a literal
   rw [h1]
   simp only [if_true]
   by_cases hlen : (e.Args.length : Int) = W
   ·rw [if_neg (fun q => q hlen)]
    simp only [if_pos hlen]
    by_cases hn : e.Name = []
    ·simp only [if_pos hn, hv1, hv2, Option.bind_some]
     rw [if_neg (by simp [hn])]
     by_cases hve : ve = 0
     ·subst hve
      simp only [if_true]
      by_cases hi : e.Value.Int_ < 0
      ·refine ⟨3, by simp [hi], fun R' => hbad _ R' (decide_eq_false (by omega))⟩
      ·refine ⟨0, by simp [hi], fun R' => hgood _ R' (decide_eq_true (by omega))⟩
     ·simp only [if_neg hve]
      refine ⟨3, by simp [hve], fun R' => hbad _ R' rfl⟩
    ·simp only [if_neg hn]
     refine ⟨3, ?_, fun R' => hbad _ R' rfl⟩
     rw [if_pos (.inl (by simp [hn]))]
   ·rw [if_pos hlen]
    simp only [if_neg hlen]
    exact ⟨3, rfl, fun R' => hbad _ R' rfl⟩
  ·simp only [if_neg h1]
   by_cases h2 : e.Op = 2
   ·rw [h2]
    simp only [if_true]
    by_cases hlen : (e.Args.length : Int) = W
    ·rw [if_neg (fun q => q hlen)]
     simp only [if_pos hlen]
     by_cases hz : e.Value = GValue.zero
     ·simp only [if_pos hz, isName_eq _ hnm, name_eq _ hnm, Option.bind_some]
      by_cases hn : isNm e.Name = true
      ·have hne : e.Name ≠ [] := by
        intro h0
        rw [h0] at hn
        exact absurd hn (by decide)
       simp only [if_pos hn]
       rw [if_neg (by intro h; rcases h with h | h; exact h (by simp [hne]); exact h.2 hz)]
       unfold wrong
       by_cases h8 : (e.Name.length : Int) > 8
       ·refine ⟨3, by simp [h8], fun R' => hbad _ R' (decide_eq_false (by omega))⟩
       ·refine ⟨0, by simp [h8, hn], fun R' => hgood _ R' (decide_eq_true (by omega))⟩
      ·simp only [if_neg hn]
       refine ⟨3, ?_, fun R' => hbad _ R' rfl⟩
       by_cases h0 : (decide True) ≠ (decide (e.Name ≠ [])) ∨ ((2 : Int) ≠ 1 ∧ e.Value ≠ GValue.zero)
       ·rw [if_pos h0]
       ·rw [if_neg h0]
        unfold wrong
        by_cases h8 : (e.Name.length : Int) > 8
        ·simp [h8]
        ·simp [h8, hn]
     ·simp only [if_neg hz]
      refine ⟨3, ?_, fun R' => hbad _ R' rfl⟩
      rw [if_pos (.inr ⟨by decide, hz⟩)]
    ·rw [if_pos hlen]
     simp only [if_neg hlen]
     exact ⟨3, rfl, fun R' => hbad _ R' rfl⟩
   ·simp only [if_neg h2]
    by_cases hlen : (e.Args.length : Int) = W
    ·rw [if_neg (fun q => q hlen)]
     by_cases hn : e.Name = []
     ·by_cases hz : e.Value = GValue.zero
      ·refine ⟨0, ?_, fun R' => hgood _ R' (decide_eq_true ⟨⟨hlen, hn⟩, hz⟩)⟩
       rw [if_neg (by simp [h2, hn, hz])]
       rfl
      ·refine ⟨3, ?_, fun R' => hbad _ R' (decide_eq_false (fun h => hz h.2))⟩
       rw [if_pos (.inr ⟨h1, hz⟩)]
     ·refine ⟨3, ?_, fun R' => hbad _ R' (decide_eq_false (fun h => hn h.1.2))⟩
      rw [if_pos (.inl (by simp [h2, hn]))]
    ·rw [if_pos hlen]
     exact ⟨3, rfl, fun R' => hbad _ R' (decide_eq_false (fun h => hlen h.1.1))⟩
theorem nodes_eq : ∀ (m f : Nat) (e : GExpr), m < f → GExpr.ok e → lev m [e] = [] → ∃ r, g_expr_nodes f e = some r ∧ g_ref_nodeFault f e = some r
 | _, 0, _, h, _, _ => by omega
 | 0, _, _, _, _, h => by cases h
 | m + 1, f + 1, e, hf, q, hv => by
  obtain ⟨_, _, _, hl, hargs⟩ := exOk q
  obtain ⟨own, h1, h2⟩ := node_eq q
  unfold g_expr_nodes g_expr_nodes_b g_ref_nodeFault
  rw [h1, h2, Option.bind_some]
  by_cases ho : own ≠ 0
  ·rw [if_pos ho, if_pos ho]; exact ⟨_, rfl, rfl⟩
  ·rw [if_neg ho, if_neg ho]
   rw [lev, one_args] at hv
   obtain ⟨r, h3, h4⟩ := loopO_two (step := g_expr_nodes_l0 e (g_expr_nodes f)) (step2 := g_ref_nodeFault_l0 e (g_ref_nodeFault f)) (fun a c => a = c ∧ ∃ k : Nat, a = (k : Int) ∧ k ≤ e.Args.length) (fun a => e.Args.length - a.toNat) (fun a c hR => by
    obtain ⟨rfl, k, rfl, hk⟩ := hR
    unfold g_expr_nodes_l0 g_ref_nodeFault_l0
    dsimp only
    by_cases hk2 : k < e.Args.length
    ·rw [if_pos (natLt hk2), if_pos (natIn hk2), if_pos (natLt hk2), if_pos (natIn hk2), Int.toNat_natCast]
     obtain ⟨r, h5, h6⟩ := nodes_eq m f (lrd e.Args k) (by omega) (hargs _ (lrd_mem hk2)) (lev_part hk2 hv)
     rw [h5, h6]
     simp only [Option.bind_some]
     by_cases hr : r ≠ 0
     ·simp only [if_pos hr]; exact .inr ⟨_, rfl, rfl⟩
     ·simp only [if_neg hr]
      refine .inl ⟨_, _, rfl, rfl, ⟨rfl, k + 1, w64_succ (by omega), hk2⟩, ?_⟩
      rw [w64_succ (by omega)]
      simp only [Int.toNat_natCast]
      omega
    ·have : k = e.Args.length := by omega
     subst this
     rw [if_neg natNlt, if_neg natNlt]
     exact .inr ⟨_, rfl, rfl⟩) (a := (0 : Int)) (c := (0 : Int)) ⟨rfl, 0, rfl, Nat.zero_le _⟩
   rw [h3, h4, Option.bind_some, Option.bind_some]
   cases r with
   | inl y => exact ⟨y, rfl, rfl⟩
   | inr u => exact ⟨0, rfl, rfl⟩
theorem expr_eq {e : GExpr} (q : GExpr.ok e) : ∃ r, g_expr_Check e = some r ∧ g_ref_ExprFault e = some r := by
 unfold g_expr_Check g_ref_ExprFault
 rw [size_eq 7 100000 e 1 (by decide) (by decide) (by decide) q, within_eq, Option.bind_some, Option.bind_some]
 by_cases h : fine 7 e
 ·rw [if_pos h, decide_eq_true h]
  obtain ⟨r, h1, h2⟩ := nodes_eq 7 100000 e (by decide) q (List.length_eq_zero_iff.1 h.1)
  dsimp only
  rw [if_neg (by decide), if_neg (by decide), h1, h2]
  exact ⟨_, rfl, rfl⟩
 ·rw [if_neg h, decide_eq_false h]
  exact ⟨1, rfl, rfl⟩
end Go.Proofs.YtcahembojhmpbaaDoor.VM

/- Words and rules that the proof uses. -/
namespace Go.Proofs.YtcahembojhmpbaaDoor.VM
open Go Go.RowKit
theorem ifor {b p : Bool} : (if b = true then some true else some p) = some (b || p) := by cases b <;> rfl
theorem ifand {b p : Bool} : (if b = true then some p else some false) = some (b && p) := by cases b <;> rfl
theorem ifandP {P : Prop} [Decidable P] {p : Bool} : (if P then some p else some false) = some (decide P && p) := by by_cases h : P <;> simp [h]
theorem iforP {P : Prop} [Decidable P] {p : Bool} : (if P then some true else some p) = some (decide P || p) := by by_cases h : P <;> simp [h]
theorem and_loop {α : Type} [Inhabited α] {step : Bool × Int → Option ((Bool × Int) ⊕ Bool)} (l : List α) (p : α → Bool) (hl : l.length < 9223372036854775807) (hs : ∀ (k : Nat) (b : Bool), k < l.length → step (b, (k : Int)) = some (.inl (b && p (lrd l k), w64 ((k : Int) + 1)))) (he : ∀ b, step (b, (l.length : Int)) = some (.inr b)) (b : Bool) : loopO step (b, (0 : Int)) = some (b && l.all p) := by
 obtain ⟨r, h1, h2⟩ := loopO_times (step := step) l.length (fun k (s : Bool) => (s, (k : Int))) (fun k s => s = (b && (l.take k).all p)) (fun r => r = (b && l.all p)) (fun k s hk hi => by
  left
  refine ⟨s && p (lrd l k), ?_, ?_⟩
  ·rw [hs k s hk, w64_succ (by omega)]
  ·rw [hi, take_step hk, List.all_append, List.all_cons, List.all_nil, Bool.and_true, Bool.and_assoc]) (fun s hi => ⟨s, he s, by rw [hi, List.take_length]⟩) (s := b) (by rw [List.take_zero, List.all_nil, Bool.and_true])
 rw [h2] at h1
 exact h1
theorem node_ne1 {e : GExpr} {own : Int} (h : g_expr_node e = some own) : own ≠ 1 := by
 unfold g_expr_node at h
 split at h
 ·cases h; decide
 ·obtain ⟨w, _, h⟩ := bind_elim h
  split at h
  ·cases h; decide
  ·split at h
   ·cases h; decide
   ·obtain ⟨g, _, h⟩ := bind_elim h
    split at h
    ·cases h; decide
    ·obtain ⟨g2, _, h⟩ := bind_elim h
     split at h
     ·cases h; decide
     ·cases h; decide
theorem nodes_ne1 : ∀ (m f : Nat) (e : GExpr), m < f → GExpr.ok e → lev m [e] = [] → ∀ r, g_expr_nodes f e = some r → r ≠ 1
 | _, 0, _, h, _, _, _, _ => by omega
 | 0, _, _, _, _, h, _, _ => by cases h
 | m + 1, f + 1, e, hf, q, hv, r, h => by
  obtain ⟨_, _, _, hl, hargs⟩ := exOk q
  obtain ⟨own, h1, _⟩ := node_eq q
  unfold g_expr_nodes g_expr_nodes_b at h
  rw [h1, Option.bind_some] at h
  by_cases ho : own ≠ 0
  ·rw [if_pos ho] at h
   cases h
   exact node_ne1 h1
  ·rw [if_neg ho] at h
   rw [lev, one_args] at hv
   obtain ⟨o, h2, h3⟩ := loopO_times (step := g_expr_nodes_l0 e (g_expr_nodes f)) e.Args.length (fun k (_ : Unit) => (k : Int)) (fun _ _ => True) (fun (o : Int ⊕ Unit) => match o with | .inl y => y ≠ 1 | .inr _ => True) (fun k _ hk _ => by
    obtain ⟨r, h5, _⟩ := nodes_eq m f (lrd e.Args k) (by omega) (hargs _ (lrd_mem hk)) (lev_part hk hv)
    have h6 := nodes_ne1 m f (lrd e.Args k) (by omega) (hargs _ (lrd_mem hk)) (lev_part hk hv) r h5
    unfold g_expr_nodes_l0
    dsimp only
    rw [if_pos (natLt hk), if_pos (natIn hk), Int.toNat_natCast, h5, Option.bind_some]
    by_cases hr : r ≠ 0
    ·rw [if_pos hr]; exact .inr ⟨_, rfl, h6⟩
    ·rw [if_neg hr, w64_succ (by omega)]; exact .inl ⟨(), rfl, trivial⟩) (fun _ _ => ⟨.inr (), by
    unfold g_expr_nodes_l0
    dsimp only
    rw [if_neg natNlt], trivial⟩) (s := ()) trivial
   have h2' : loopO (g_expr_nodes_l0 e (g_expr_nodes f)) (0 : Int) = some o := h2
   rw [h2', Option.bind_some] at h
   cases o with
   | inl y => cases h; exact h3
   | inr u => cases h; decide
noncomputable def xE (e : GExpr) : Int := (g_expr_Check e).getD 0
theorem xE_eq {e : GExpr} (q : GExpr.ok e) : g_expr_Check e = some (xE e) ∧ g_ref_ExprFault e = some (xE e) ∧ g_ref_within e = some (decide (xE e ≠ 1)) := by
 obtain ⟨r, h1, h2⟩ := expr_eq q
 have hx : xE e = r := by unfold xE; rw [h1]; rfl
 refine ⟨by rw [hx, h1], by rw [hx, h2], ?_⟩
 rw [within_eq, hx]
 refine congrArg some ?_
 unfold g_expr_Check at h1
 rw [size_eq 7 100000 e 1 (by decide) (by decide) (by decide) q, Option.bind_some] at h1
 by_cases hf : fine 7 e
 ·rw [if_pos hf] at h1
  obtain ⟨r', h3, _⟩ := nodes_eq 7 100000 e (by decide) q (List.length_eq_zero_iff.1 hf.1)
  dsimp only at h1
  rw [if_neg (by decide), h3, Option.bind_some] at h1
  have hr : r' = r := Option.some.inj h1
  subst hr
  rw [decide_eq_true hf, decide_eq_true (nodes_ne1 7 100000 e (by decide) q (List.length_eq_zero_iff.1 hf.1) _ h3)]
 ·rw [if_neg hf] at h1
  dsimp only at h1
  rw [if_pos (by decide)] at h1
  have hr : (1 : Int) = r := Option.some.inj h1
  subst hr
  rw [decide_eq_false hf]
  rfl
noncomputable def vE (v : GValue) : Int := (g_value_Check v).getD 0
theorem vE_eq {v : GValue} (h : okI v.Int_) : g_value_Check v = some (vE v) ∧ g_ref_ValueFault v = some (vE v) := by
 obtain ⟨r, h1, h2, _⟩ := check_eq v h
 have hx : vE v = r := by unfold vE; rw [h1]; rfl
 exact ⟨by rw [hx, h1], by rw [hx, h2]⟩
def noE (e : GExpr) : Bool := decide ((((e.Op = (0 : Int)) ∧ (e.Name = [])) ∧ (e.Value = GValue.zero)) ∧ ((e.Args.length : Int) = (0 : Int)))
theorem noE_eq (e : GExpr) : g_stmt_none e = some (noE e) ∧ g_ref_noExpr e = some (noE e) := by
 refine ⟨rfl, ?_⟩
 unfold g_ref_noExpr noE
 rw [decide_eq_decide.2 (show ((((e.Op = (0 : Int)) ∧ (e.Value = GValue.zero)) ∧ (e.Name = [])) ∧ ((e.Args.length : Int) = (0 : Int))) ↔ ((((e.Op = (0 : Int)) ∧ (e.Name = [])) ∧ (e.Value = GValue.zero)) ∧ ((e.Args.length : Int) = (0 : Int))) from ⟨fun h => ⟨⟨⟨h.1.1.1, h.1.2⟩, h.1.1.2⟩, h.2⟩, fun h => ⟨⟨⟨h.1.1.1, h.1.2⟩, h.1.1.2⟩, h.2⟩⟩)]
def nmOk (s : List UInt8) : Bool := isNm s && decide ((s.length : Int) ≤ 8)
theorem nm_eq {s : List UInt8} (h : s.length < 9223372036854775807) : g_stmt_name s = some (nmOk s) ∧ g_ref_mayName s = some (nmOk s) := by
 unfold g_stmt_name g_ref_mayName nmOk
 rw [name_eq _ h, isName_eq _ h, Option.bind_some, Option.bind_some]
 refine ⟨?_, ?_⟩
 ·congr 1
  unfold wrong
  by_cases h1 : (s.length : Int) > 8
  ·rw [if_pos h1, decide_eq_false (show ¬ (s.length : Int) ≤ 8 by omega), Bool.and_false]; rfl
  ·rw [if_neg h1, decide_eq_true (show (s.length : Int) ≤ 8 by omega), Bool.and_true]
   cases isNm s <;> rfl
 ·rw [Bool.decide_and, Bool.decide_eq_true]
noncomputable def whOk (e : GExpr) : Bool := noE e || decide (xE e = 0)
theorem wh_eq {e : GExpr} (q : GExpr.ok e) : g_stmt_condition e = some (whOk e) ∧ g_ref_mayWhere e = some (whOk e) := by
 obtain ⟨h1, h2, _⟩ := xE_eq q
 obtain ⟨h3, h4⟩ := noE_eq e
 unfold g_stmt_condition g_ref_mayWhere whOk
 rw [h1, h2, h3, h4]
 simp only [Option.bind_some, ifor, and_self]
theorem any_eq {α : Type} [Inhabited α] {step : Int → Option (Int ⊕ (Bool ⊕ Unit))} (l : List α) (p : α → Bool) (hl : l.length < 9223372036854775807)
  (hs : ∀ k, k < l.length → step (k : Int) = some (if p (lrd l k) = true then .inl (w64 ((k : Int) + 1)) else .inr (.inl false))) (he : step (l.length : Int) = some (.inr (.inr ()))) : loopO step (0 : Int) = some (if l.all p = true then .inr () else .inl false) := by
 have h := any_loop (step := step) l (fun x => !(p x)) (.inl false) (.inr ()) hl (fun k hk => by
  rw [hs k hk]
  cases p (lrd l k) <;> rfl) he
 rw [h]
 have : (l.any fun x => !(p x)) = !(l.all p) := by rw [List.not_all_eq_any_not]
 rw [this]
 cases l.all p <;> rfl
end Go.Proofs.YtcahembojhmpbaaDoor.VM

