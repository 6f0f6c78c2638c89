import Derived.Test.YtfekkhinjdmcbaaDoorVtFloat
import Derived.Test.YtfekkhinjdmcbaaDoorPuBase
/- Words and rules that the proof uses. -/
namespace Go.Proofs.YtfekkhinjdmcbaaDoor.VM
open Go Go.RowKit
def rung (b : F64) : Nat := b.toNat % 9223372036854775808
def negF (b : F64) : Bool := Nat.ble 9223372036854775808 b.toNat
def magF (r : Nat) : Nat := if r < 4503599627370496 then r else (4503599627370496 + r % 4503599627370496) * 2 ^ (r / 4503599627370496 - 1)
theorem magF_succ (r : Nat) : magF r < magF (r + 1) := by
 unfold magF
 by_cases h : r + 1 < 4503599627370496
 ·rw [if_pos h, if_pos (by omega)]; omega
 ·rw [if_neg h]
  by_cases h2 : r < 4503599627370496
  ·have : r + 1 = 4503599627370496 := by omega
   rw [if_pos h2, this]
   show r < 4503599627370496 * 2 ^ 0
   omega
  ·rw [if_neg h2]
   by_cases h3 : (r + 1) / 4503599627370496 = r / 4503599627370496
   ·rw [h3]
    refine Nat.mul_lt_mul_of_pos_right ?_ (Nat.two_pow_pos _)
    omega
   ·have h4 : (r + 1) / 4503599627370496 = r / 4503599627370496 + 1 := by omega
    have h5 : r % 4503599627370496 = 4503599627370495 := by omega
    have h6 : (r + 1) % 4503599627370496 = 0 := by omega
    have h7 : r / 4503599627370496 ≥ 1 := by omega
    rw [h4, h5, h6, show r / 4503599627370496 + 1 - 1 = (r / 4503599627370496 - 1) + 1 by omega, Nat.pow_succ]
    have := Nat.two_pow_pos (r / 4503599627370496 - 1)
    generalize 2 ^ (r / 4503599627370496 - 1) = p at *
    omega
theorem magF_mono {r q : Nat} (h : r < q) : magF r < magF q := by
 induction q with
 | zero => omega
 | succ q ih =>
  by_cases hr : r = q
  ·subst hr; exact magF_succ r
  ·exact Nat.lt_trans (ih (by omega)) (magF_succ q)
theorem magF_inj {r q : Nat} (h : magF r = magF q) : r = q := by
 rcases Nat.lt_trichotomy r q with h1 | h1 | h1
 ·have := magF_mono h1; omega
 ·exact h1
 ·have := magF_mono h1; omega
def upF (r : Nat) : Nat := if r < 4503599627370496 then 0 else r / 4503599627370496 - 1
def sigF (r : Nat) : Nat := if r < 4503599627370496 then r else 4503599627370496 + r % 4503599627370496
theorem magF_eq (r : Nat) : magF r = sigF r * 2 ^ upF r := by
 unfold magF sigF upF
 split <;> simp
theorem read_num {b : F64} (h : rung b < 9218868437227405312) : FloatKind.f64.format.read b.toNat = .number (negF b) (sigF (rung b)) ((-1074 : Int) + (upF (rung b) : Nat)) := by
 have hb : b.toNat < 18446744073709551616 := b.toNat_lt
 unfold Ieee.Format.read
 have e1 : FloatKind.f64.format.signWeight = 9223372036854775808 := by decide
 have e2 : FloatKind.f64.format.binade = 4503599627370496 := by decide
 have e3 : FloatKind.f64.format.infRung = 9218868437227405312 := by decide
 have e4 : FloatKind.f64.format.leastPlace = -1074 := by decide
 rw [e1, e2, e3, e4]
 have hn : (b.toNat / 9223372036854775808 % 2 == 1) = negF b := by
  unfold negF
  by_cases hc : 9223372036854775808 ≤ b.toNat
  ·rw [Nat.ble_eq_true_of_le hc]
   have : b.toNat / 9223372036854775808 % 2 = 1 := by omega
   rw [this]; rfl
  ·have h1 : Nat.ble 9223372036854775808 b.toNat = false := Bool.eq_false_iff.2 fun q => hc (Nat.le_of_ble_eq_true q)
   rw [h1]
   have : b.toNat / 9223372036854775808 % 2 = 0 := by omega
   rw [this]; rfl
 rw [hn]
 unfold rung at h
 unfold sigF upF rung
 dsimp only
 by_cases hs : b.toNat % 9223372036854775808 < 4503599627370496
 ·rw [if_pos hs, if_pos hs, if_pos hs]
  rfl
 ·rw [if_neg hs, if_neg hs, if_neg hs, if_pos h]
theorem read_inf {b : F64} (h : rung b = 9218868437227405312) : FloatKind.f64.format.read b.toNat = .infinity (negF b) := by
 have hb : b.toNat < 18446744073709551616 := b.toNat_lt
 unfold Ieee.Format.read
 have e1 : FloatKind.f64.format.signWeight = 9223372036854775808 := by decide
 have e2 : FloatKind.f64.format.binade = 4503599627370496 := by decide
 have e3 : FloatKind.f64.format.infRung = 9218868437227405312 := by decide
 rw [e1, e2, e3]
 have hn : (b.toNat / 9223372036854775808 % 2 == 1) = negF b := by
  unfold negF
  by_cases hc : 9223372036854775808 ≤ b.toNat
  ·rw [Nat.ble_eq_true_of_le hc]
   have : b.toNat / 9223372036854775808 % 2 = 1 := by omega
   rw [this]; rfl
  ·have h1 : Nat.ble 9223372036854775808 b.toNat = false := Bool.eq_false_iff.2 fun q => hc (Nat.le_of_ble_eq_true q)
   rw [h1]
   have : b.toNat / 9223372036854775808 % 2 = 0 := by omega
   rw [this]; rfl
 rw [hn]
 unfold rung at h
 dsimp only
 rw [h, if_neg (by decide), if_neg (by decide), if_pos rfl]
theorem read_nan {b : F64} (h : rung b > 9218868437227405312) : ∃ s t, FloatKind.f64.format.read b.toNat = .nan s t := by
 unfold Ieee.Format.read
 have e1 : FloatKind.f64.format.signWeight = 9223372036854775808 := by decide
 have e2 : FloatKind.f64.format.binade = 4503599627370496 := by decide
 have e3 : FloatKind.f64.format.infRung = 9218868437227405312 := by decide
 rw [e1, e2, e3]
 unfold rung at h
 dsimp only
 rw [if_neg (by omega), if_neg (by omega), if_neg (by omega)]
 exact ⟨_, _, rfl⟩
def skey (b : F64) : Int := if negF b = true then -((rung b : Nat) : Int) else ((rung b : Nat) : Int)
theorem cmp_scale (x y : Int) {p : Nat} (hp : 0 < p) : compare x y = compare (x * (p : Int)) (y * (p : Int)) := by
 have hp2 : (0 : Int) < (p : Int) := by omega
 have h1 : x < y ↔ x * (p : Int) < y * (p : Int) := ⟨fun h => Int.mul_lt_mul_of_pos_right h hp2, fun h => Int.lt_of_mul_lt_mul_right h (Int.le_of_lt hp2)⟩
 have h2 : x = y ↔ x * (p : Int) = y * (p : Int) := ⟨fun h => by rw [h], fun h => Int.eq_of_mul_eq_mul_right (by omega) h⟩
 simp only [compare, compareOfLessAndEq]
 by_cases h3 : x < y
 ·rw [if_pos h3, if_pos (h1.1 h3)]
 ·rw [if_neg h3, if_neg (fun q => h3 (h1.2 q))]
  by_cases h4 : x = y
  ·rw [if_pos h4, if_pos (h2.1 h4)]
  ·rw [if_neg h4, if_neg (fun q => h4 (h2.2 q))]
theorem cmp_iff {x y x' y' : Int} (h1 : x < y ↔ x' < y') (h2 : x = y ↔ x' = y') : compare x y = compare x' y' := by
 simp only [compare, compareOfLessAndEq]
 by_cases h3 : x < y
 ·rw [if_pos h3, if_pos (h1.1 h3)]
 ·rw [if_neg h3, if_neg (fun q => h3 (h1.2 q))]
  by_cases h4 : x = y
  ·rw [if_pos h4, if_pos (h2.1 h4)]
  ·rw [if_neg h4, if_neg (fun q => h4 (h2.2 q))]
theorem signed_scale (s : Bool) (m up k : Nat) : Ieee.signed s m up * ((2 ^ k : Nat) : Int) = if s = true then -((m * 2 ^ (up + k) : Nat) : Int) else ((m * 2 ^ (up + k) : Nat) : Int) := by
 unfold Ieee.signed
 rw [Nat.shiftLeft_eq, Nat.pow_add, ← Nat.mul_assoc]
 split
 ·rw [Int.neg_mul]; rfl
 ·rfl
theorem ford_num {a b : F64} (ha : rung a < 9218868437227405312) (hb : rung b < 9218868437227405312) : ford a b = some (compare (skey a) (skey b)) := by
 unfold ford Ieee.Format.order
 rw [read_num ha, read_num hb]
 unfold Ieee.Datum.order
 dsimp only
 congr 1
 generalize hua : upF (rung a) = ua
 generalize hub : upF (rung b) = ub
 have hmin : min ((-1074 : Int) + (ua : Nat)) ((-1074 : Int) + (ub : Nat)) = (-1074 : Int) + ((min ua ub : Nat) : Int) := by omega
 rw [hmin]
 have e1 : ((-1074 : Int) + (ua : Nat) - ((-1074 : Int) + ((min ua ub : Nat) : Int))).toNat = ua - min ua ub := by omega
 have e2 : ((-1074 : Int) + (ub : Nat) - ((-1074 : Int) + ((min ua ub : Nat) : Int))).toNat = ub - min ua ub := by omega
 rw [e1, e2, cmp_scale _ _ (p := 2 ^ min ua ub) (Nat.two_pow_pos _), signed_scale, signed_scale, show ua - min ua ub + min ua ub = ua by omega, show ub - min ua ub + min ua ub = ub by omega, ← hua, ← hub, ← magF_eq, ← magF_eq]
 unfold skey
 have m1 : rung a < rung b ↔ magF (rung a) < magF (rung b) := ⟨magF_mono, fun h => Nat.lt_of_not_le fun q => by
  rcases Nat.lt_or_ge (rung b) (rung a) with h2 | h2
  ·have := magF_mono h2; omega
  ·have : rung a = rung b := by omega
   rw [this] at h; omega⟩
 have m2 : rung a = rung b ↔ magF (rung a) = magF (rung b) := ⟨fun h => by rw [h], magF_inj⟩
 have z1 : rung a = 0 ↔ magF (rung a) = 0 := ⟨fun h => by rw [h]; rfl, fun h => magF_inj (h.trans rfl)⟩
 have z2 : rung b = 0 ↔ magF (rung b) = 0 := ⟨fun h => by rw [h]; rfl, fun h => magF_inj (h.trans rfl)⟩
 generalize magF (rung a) = x at *
 generalize magF (rung b) = y at *
 generalize rung a = r at *
 generalize rung b = q at *
 refine cmp_iff ?_ ?_
 ·split <;> split <;> omega
 ·split <;> split <;> omega
theorem cmp_lt {x y : Int} : (compare x y = .lt) ↔ x < y := by
 simp only [compare, compareOfLessAndEq]
 by_cases h : x < y
 ·simp [h]
 ·rw [if_neg h]
  by_cases h2 : x = y
  ·simp [h2]
  ·simp [h, h2]
theorem cmp_eq {x y : Int} : (compare x y = .eq) ↔ x = y := by
 simp only [compare, compareOfLessAndEq]
 by_cases h : x < y
 ·simp [h]; omega
 ·rw [if_neg h]
  by_cases h2 : x = y
  ·simp [h2]
  ·simp [h2]
theorem cmp_gt {x y : Int} : (compare x y = .gt) ↔ y < x := by
 simp only [compare, compareOfLessAndEq]
 by_cases h : x < y
 ·simp [h]; omega
 ·rw [if_neg h]
  by_cases h2 : x = y
  ·simp [h2]
  ·simp [h2]; omega
theorem ford_eq {a b : F64} (ha : rung a ≤ 9218868437227405312) (hb : rung b ≤ 9218868437227405312) : ford a b = some (compare (skey a) (skey b)) := by
 by_cases h1 : rung a = 9218868437227405312
 ·by_cases h2 : rung b = 9218868437227405312
  ·unfold ford Ieee.Format.order skey
   rw [read_inf h1, read_inf h2, h1, h2]
   cases negF a <;> cases negF b <;> rfl
  ·unfold ford Ieee.Format.order skey
   rw [read_inf h1, read_num (by omega), h1]
   unfold Ieee.Datum.order
   dsimp only
   congr 1
   generalize rung b = q at *
   cases negF a
   ·simp only [Bool.false_eq_true, if_false]
    exact (cmp_gt.2 (by split <;> omega)).symm
   ·simp only [if_true]
    exact (cmp_lt.2 (by split <;> omega)).symm
 ·by_cases h2 : rung b = 9218868437227405312
  ·unfold ford Ieee.Format.order skey
   rw [read_inf h2, read_num (by omega), h2]
   unfold Ieee.Datum.order
   dsimp only
   congr 1
   generalize rung a = q at *
   cases negF b
   ·simp only [Bool.false_eq_true, if_false]
    exact (cmp_lt.2 (by split <;> omega)).symm
   ·simp only [if_true]
    exact (cmp_gt.2 (by split <;> omega)).symm
  ·exact ford_num (by omega) (by omega)
theorem ford_nan {a : F64} (h : rung a > 9218868437227405312) : ford a a = none := by
 obtain ⟨s, t, e⟩ := read_nan h
 unfold ford Ieee.Format.order
 rw [e]
 rfl
end Go.Proofs.YtfekkhinjdmcbaaDoor.VM

/- Words and rules that the proof uses. -/
namespace Go.Proofs.YtfekkhinjdmcbaaDoor.VM
open Go Go.RowKit
theorem word_ok {s : List UInt8} (h : 8 ≤ s.length) : ∃ w, g_utf8_word_string s = some w := by
 unfold g_utf8_word_string
 rw [if_neg (by decide), if_pos (by omega), if_pos (by omega), if_pos (by omega), if_pos (by omega), if_pos (by omega), if_pos (by omega), if_pos (by omega), if_pos (by omega), letO_eq]
 exact ⟨_, rfl⟩
theorem cutl {s : List UInt8} {a : Int} (h : 0 ≤ a ∧ a ≤ (s.length : Int)) : (cut s a (s.length : Int)).length = s.length - a.toNat := by
 rw [cut_len ⟨h.1, h.2, Int.le_refl _⟩, Int.toNat_natCast]
theorem fast_ok {s : List UInt8} (h : 32 < s.length) : ∃ b, ((g_utf8_word_string s).bind fun r'9 => if 0 ≤ (8 : Int) ∧ (8 : Int) ≤ (s.length : Int) then (g_utf8_word_string (cut s (8 : Int) (s.length : Int))).bind fun r'10 => if 0 ≤ (16 : Int) ∧ (16 : Int) ≤ (s.length : Int) then (g_utf8_word_string (cut s (16 : Int) (s.length : Int))).bind fun r'11 => if 0 ≤ (24 : Int) ∧ (24 : Int) ≤ (s.length : Int) then (g_utf8_word_string (cut s (24 : Int) (s.length : Int))).bind fun r'12 => some (decide (((r'9 ||| r'10) ||| (r'11 ||| r'12)) &&& (9259542123273814144 : UInt64) = (0 : UInt64))) else none else none else none) = some b := by
 obtain ⟨w1, h1⟩ := word_ok (s := s) (by omega)
 obtain ⟨w2, h2⟩ := word_ok (s := cut s (8 : Int) (s.length : Int)) (by rw [cutl (by omega)]; omega)
 obtain ⟨w3, h3⟩ := word_ok (s := cut s (16 : Int) (s.length : Int)) (by rw [cutl (by omega)]; omega)
 obtain ⟨w4, h4⟩ := word_ok (s := cut s (24 : Int) (s.length : Int)) (by rw [cutl (by omega)]; omega)
 rw [h1, Option.bind_some, if_pos (by omega), h2, Option.bind_some, if_pos (by omega), h3, Option.bind_some, if_pos (by omega), h4, Option.bind_some]
 exact ⟨_, rfl⟩
theorem quick_loop (n : Nat) {s : List UInt8} (h : s.length ≤ n) : ∃ r : List UInt8, loopO g_utf8_ValidString_l1 s = some r ∧ r.length ≤ n := by
 refine loopO_rule (fun s : List UInt8 => s.length ≤ n) (fun r : List UInt8 => r.length ≤ n) List.length (fun s hs => ?_) h
 unfold g_utf8_ValidString_l1
 dsimp only
 by_cases h1 : (s.length : Int) > 32
 ·rw [if_pos h1]
  obtain ⟨b, hb⟩ := fast_ok (s := s) (by omega)
  rw [hb, Option.bind_some]
  cases b with
  | true =>
   rw [if_pos rfl, if_pos (by omega)]
   exact .inl ⟨_, rfl, by rw [cutl (by omega)]; omega, by rw [cutl (by omega)]; omega⟩
  | false =>
   rw [if_neg (by decide)]
   exact .inr ⟨_, rfl, hs⟩
 ·rw [if_neg h1]
  exact .inr ⟨_, rfl, hs⟩
theorem skip_ok {s : List UInt8} (h : 0 < s.length) : ∃ j, (((if ((cut s (1 : Int) (s.length : Int)).length : Int) > (8 : Int) then (g_utf8_word_string (cut s (1 : Int) (s.length : Int))).bind fun r'3 => some (decide (r'3 &&& (9259542123273814144 : UInt64) = (0 : UInt64))) else some false)).bind fun g'4 => (if g'4 = true then if 0 ≤ (8 : Int) ∧ (8 : Int) ≤ ((cut s (1 : Int) (s.length : Int)).length : Int) then letO ((cut (cut s (1 : Int) (s.length : Int)) (8 : Int) ((cut s (1 : Int) (s.length : Int)).length : Int))) fun s0'5 => ((if (s0'5.length : Int) > (16 : Int) then (g_utf8_word_string s0'5).bind fun r'6 => if 0 ≤ (8 : Int) ∧ (8 : Int) ≤ (s0'5.length : Int) then (g_utf8_word_string (cut s0'5 (8 : Int) (s0'5.length : Int))).bind fun r'7 => some (decide ((r'6 ||| r'7) &&& (9259542123273814144 : UInt64) = (0 : UInt64))) else none else some false)).bind fun g'8 => (if g'8 = true then if 0 ≤ (16 : Int) ∧ (16 : Int) ≤ (s0'5.length : Int) then (loopO (g_utf8_ValidString_l1) (cut s0'5 (16 : Int) (s0'5.length : Int))).bind fun y'17 => some y'17 else none else some s0'5) else none else some (cut s (1 : Int) (s.length : Int)))) = some j ∧ j.length < s.length := by
 have hc : (cut s (1 : Int) (s.length : Int)).length = s.length - 1 := by rw [cutl (by omega)]; rfl
 generalize cut s (1 : Int) (s.length : Int) = t at *
 by_cases h1 : (t.length : Int) > 8
 ·rw [if_pos h1]
  obtain ⟨w, hw⟩ := word_ok (s := t) (by omega)
  rw [hw, Option.bind_some, Option.bind_some]
  by_cases h2 : decide (w &&& (9259542123273814144 : UInt64) = (0 : UInt64)) = true
  ·rw [if_pos h2, if_pos (by omega), letO_eq]
   have hu : (cut t (8 : Int) (t.length : Int)).length = t.length - 8 := by rw [cutl (by omega)]; rfl
   generalize cut t (8 : Int) (t.length : Int) = u at *
   by_cases h3 : (u.length : Int) > 16
   ·obtain ⟨w2, hw2⟩ := word_ok (s := u) (by omega)
    obtain ⟨w3, hw3⟩ := word_ok (s := cut u (8 : Int) (u.length : Int)) (by rw [cutl (by omega)]; omega)
    rw [if_pos h3, hw2, Option.bind_some, if_pos (by omega), hw3, Option.bind_some, Option.bind_some]
    by_cases h4 : decide ((w2 ||| w3) &&& (9259542123273814144 : UInt64) = (0 : UInt64)) = true
    ·rw [if_pos h4, if_pos (by omega)]
     obtain ⟨r, hr, hl⟩ := quick_loop (u.length - 16) (s := cut u (16 : Int) (u.length : Int)) (by rw [cutl (by omega)]; exact Nat.le_refl _)
     rw [hr]
     exact ⟨r, rfl, by omega⟩
    ·rw [if_neg h4]
     exact ⟨_, rfl, by omega⟩
   ·rw [if_neg h3, Option.bind_some, if_neg (by decide)]
    exact ⟨_, rfl, by omega⟩
  ·rw [if_neg h2]
   exact ⟨_, rfl, by omega⟩
 ·rw [if_neg h1, Option.bind_some, if_neg (by decide)]
  exact ⟨_, rfl, by omega⟩
theorem two_ok {s : List UInt8} {lo hi : UInt8} (h : 0 < s.length) : ∃ b, (if (s.length : Int) < (2 : Int) then some true else if 1 < s.length then (if (lrd s 1) < lo then some true else if 1 < s.length then some (decide (hi < (lrd s 1))) else none) else none) = some b ∧ (b = false → 2 ≤ s.length) := by
 by_cases h1 : (s.length : Int) < 2
 ·rw [if_pos h1]; exact ⟨_, rfl, fun q => by cases q⟩
 ·rw [if_neg h1, if_pos (by omega)]
  split
  ·exact ⟨_, rfl, fun q => by cases q⟩
  ·rw [if_pos (by omega)]; exact ⟨_, rfl, fun _ => by omega⟩
theorem valid_ok (s : List UInt8) : ∃ b, g_utf8_ValidString s = some b := by
 unfold g_utf8_ValidString
 have : ∃ r, loopO g_utf8_ValidString_l0 s = some r ∧ True := by
  refine loopO_rule (fun _ => True) (fun _ => True) List.length (fun s _ => ?_) trivial
  unfold g_utf8_ValidString_l0
  dsimp only
  by_cases h0 : (s.length : Int) > 0
  ·rw [if_pos h0, if_pos (by omega)]
   by_cases h1 : lrd s 0 < (128 : UInt8)
   ·rw [if_pos h1, if_pos (by omega)]
    obtain ⟨j, hj, hl⟩ := skip_ok (s := s) (by omega)
    rw [hj, Option.bind_some]
    exact .inl ⟨_, rfl, trivial, hl⟩
   ·have hb : (lrd s 0).toNat < 256 := (lrd s 0).toNat_lt
    have hx : ∀ x : UInt8, 0 ≤ ((shr_u8 x 4).toNat : Int) ∧ ((shr_u8 x 4).toNat : Int) < 16 := by
     intro x
     have h1 : (shr_u8 x 4).toNat = x.toNat / 16 := by
      show (x.toBitVec >>> 4).toNat = _
      rw [BitVec.toNat_ushiftRight, Nat.shiftRight_eq_div_pow]
      rfl
     have := x.toNat_lt
     rw [h1]
     omega
    rw [if_neg h1, if_pos (by omega), letO_eq, if_pos (hx _), letO_eq]
    generalize (lrd _ _ : Gutf8_acceptRange) = a
    generalize ((_ &&& (7 : UInt8)).toNat : Int) = z
    by_cases z2 : z = 2
    ·rw [if_pos z2]
     obtain ⟨b, hb, hl⟩ := two_ok (s := s) (lo := a.lo_) (hi := a.hi_) (by omega)
     rw [hb, Option.bind_some]
     cases b with
     | true => rw [if_pos rfl]; exact .inr ⟨_, rfl, trivial⟩
     | false =>
      have := hl rfl
      rw [if_neg (by decide), if_pos (by omega)]
      exact .inl ⟨_, rfl, trivial, by rw [cutl (by omega)]; omega⟩
    ·rw [if_neg z2]
     by_cases z3 : z = 3
     ·rw [if_pos z3]
      by_cases l3 : (s.length : Int) < 3
      ·rw [if_pos l3, Option.bind_some, if_pos rfl]; exact .inr ⟨_, rfl, trivial⟩
      ·rw [if_neg l3, if_pos (show 1 < s.length by omega), if_pos (show 1 < s.length by omega), if_pos (show 2 < s.length by omega), if_pos (show 2 < s.length by omega), if_pos (show 0 ≤ (3 : Int) ∧ (3 : Int) ≤ (s.length : Int) by omega)]
       have hd : (cut s (3 : Int) (s.length : Int)).length < s.length := by rw [cutl (by omega)]; omega
       split
       ·exact .inr ⟨_, rfl, trivial⟩
       ·split
        ·exact .inr ⟨_, rfl, trivial⟩
        ·split
         ·exact .inr ⟨_, rfl, trivial⟩
         ·rw [Option.bind_some]
          split
          ·exact .inr ⟨_, rfl, trivial⟩
          ·exact .inl ⟨_, rfl, trivial, hd⟩
     ·rw [if_neg z3]
      by_cases z4 : z = 4
      ·rw [if_pos z4]
       by_cases l3 : (s.length : Int) < 4
       ·rw [if_pos l3, Option.bind_some, if_pos rfl]; exact .inr ⟨_, rfl, trivial⟩
       ·rw [if_neg l3, if_pos (show 1 < s.length by omega), if_pos (show 1 < s.length by omega), if_pos (show 2 < s.length by omega), if_pos (show 2 < s.length by omega), if_pos (show 3 < s.length by omega), if_pos (show 3 < s.length by omega), if_pos (show 0 ≤ (4 : Int) ∧ (4 : Int) ≤ (s.length : Int) by omega)]
        have hd : (cut s (4 : Int) (s.length : Int)).length < s.length := by rw [cutl (by omega)]; omega
        split
        ·exact .inr ⟨_, rfl, trivial⟩
        ·split
         ·exact .inr ⟨_, rfl, trivial⟩
         ·split
          ·exact .inr ⟨_, rfl, trivial⟩
          ·split
           ·exact .inr ⟨_, rfl, trivial⟩
           ·split
            ·exact .inr ⟨_, rfl, trivial⟩
            ·rw [Option.bind_some]
             split
             ·exact .inr ⟨_, rfl, trivial⟩
             ·exact .inl ⟨_, rfl, trivial, hd⟩
      ·rw [if_neg z4]
       exact .inr ⟨_, rfl, trivial⟩
  ·rw [if_neg h0]
   exact .inr ⟨_, rfl, trivial⟩
 obtain ⟨r, hr, _⟩ := this
 rw [hr, Option.bind_some]
 cases r with
 | inl b => exact ⟨_, rfl⟩
 | inr u => exact ⟨_, rfl⟩
theorem valid_nil : g_utf8_ValidString [] = some true := by
 unfold g_utf8_ValidString
 rw [loopO_done (r := .inr ()) (by unfold g_utf8_ValidString_l0; rfl)]
 rfl
end Go.Proofs.YtfekkhinjdmcbaaDoor.VM

