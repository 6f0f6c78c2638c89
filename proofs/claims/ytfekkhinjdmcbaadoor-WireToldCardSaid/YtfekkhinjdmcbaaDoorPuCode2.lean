import Derived.Test.YtfekkhinjdmcbaaDoorVtFloat
import Derived.Test.YtfekkhinjdmcbaaDoorPuBase
/- Words and rules that the proof uses. -/
namespace Go.Proofs.YtfekkhinjdmcbaaDoor.VM
open Go Go.RowKit
def rung (b : F64) : Nat := b.toNat % 9223372036854775808
def negF (b : F64) : Bool := Nat.ble 9223372036854775808 b.toNat
def magF (r : Nat) : Nat := if r < 4503599627370496 then r else (4503599627370496 + r % 4503599627370496) * 2 ^ (r / 4503599627370496 - 1)
theorem magF_succ (r : Nat) : magF r < magF (r + 1) := by
 unfold magF
 by_cases h : r + 1 < 4503599627370496
 ·rw [if_pos h, if_pos (by omega)]; omega
 ·rw [if_neg h]
  by_cases h2 : r < 4503599627370496
  ·have : r + 1 = 4503599627370496 := by omega
   rw [if_pos h2, this]
   show r < 4503599627370496 * 2 ^ 0
   omega
  ·rw [if_neg h2]
   by_cases h3 : (r + 1) / 4503599627370496 = r / 4503599627370496
   ·rw [h3]
    refine Nat.mul_lt_mul_of_pos_right ?_ (Nat.two_pow_pos _)
    omega
   ·have h4 : (r + 1) / 4503599627370496 = r / 4503599627370496 + 1 := by omega
    have h5 : r % 4503599627370496 = 4503599627370495 := by omega
    have h6 : (r + 1) % 4503599627370496 = 0 := by omega
    have h7 : r / 4503599627370496 ≥ 1 := by omega
    rw [h4, h5, h6, show r / 4503599627370496 + 1 - 1 = (r / 4503599627370496 - 1) + 1 by omega, Nat.pow_succ]
    have := Nat.two_pow_pos (r / 4503599627370496 - 1)
    generalize 2 ^ (r / 4503599627370496 - 1) = p at *
    omega
theorem magF_mono {r q : Nat} (h : r < q) : magF r < magF q := by
 induction q with
 | zero => omega
 | succ q ih =>
  by_cases hr : r = q
  ·subst hr; exact magF_succ r
  ·exact Nat.lt_trans (ih (by omega)) (magF_succ q)
theorem magF_inj {r q : Nat} (h : magF r = magF q) : r = q := by
 rcases Nat.lt_trichotomy r q with h1 | h1 | h1
 ·have := magF_mono h1; omega
 ·exact h1
 ·have := magF_mono h1; omega
def upF (r : Nat) : Nat := if r < 4503599627370496 then 0 else r / 4503599627370496 - 1
def sigF (r : Nat) : Nat := if r < 4503599627370496 then r else 4503599627370496 + r % 4503599627370496
theorem magF_eq (r : Nat) : magF r = sigF r * 2 ^ upF r := by
 unfold magF sigF upF
 split <;> simp
theorem read_num {b : F64} (h : rung b < 9218868437227405312) : FloatKind.f64.format.read b.toNat = .number (negF b) (sigF (rung b)) ((-1074 : Int) + (upF (rung b) : Nat)) := by
 have hb : b.toNat < 18446744073709551616 := b.toNat_lt
 unfold Ieee.Format.read
 have e1 : FloatKind.f64.format.signWeight = 9223372036854775808 := by decide
 have e2 : FloatKind.f64.format.binade = 4503599627370496 := by decide
 have e3 : FloatKind.f64.format.infRung = 9218868437227405312 := by decide
 have e4 : FloatKind.f64.format.leastPlace = -1074 := by decide
 rw [e1, e2, e3, e4]
 have hn : (b.toNat / 9223372036854775808 % 2 == 1) = negF b := by
  unfold negF
  by_cases hc : 9223372036854775808 ≤ b.toNat
  ·rw [Nat.ble_eq_true_of_le hc]
   have : b.toNat / 9223372036854775808 % 2 = 1 := by omega
   rw [this]; rfl
  ·have h1 : Nat.ble 9223372036854775808 b.toNat = false := Bool.eq_false_iff.2 fun q => hc (Nat.le_of_ble_eq_true q)
   rw [h1]
   have : b.toNat / 9223372036854775808 % 2 = 0 := by omega
   rw [this]; rfl
 rw [hn]
 unfold rung at h
 unfold sigF upF rung
 dsimp only
 by_cases hs : b.toNat % 9223372036854775808 < 4503599627370496
 ·rw [if_pos hs, if_pos hs, if_pos hs]
  rfl
 ·rw [if_neg hs, if_neg hs, if_neg hs, if_pos h]
theorem read_inf {b : F64} (h : rung b = 9218868437227405312) : FloatKind.f64.format.read b.toNat = .infinity (negF b) := by
 have hb : b.toNat < 18446744073709551616 := b.toNat_lt
 unfold Ieee.Format.read
 have e1 : FloatKind.f64.format.signWeight = 9223372036854775808 := by decide
 have e2 : FloatKind.f64.format.binade = 4503599627370496 := by decide
 have e3 : FloatKind.f64.format.infRung = 9218868437227405312 := by decide
 rw [e1, e2, e3]
 have hn : (b.toNat / 9223372036854775808 % 2 == 1) = negF b := by
  unfold negF
  by_cases hc : 9223372036854775808 ≤ b.toNat
  ·rw [Nat.ble_eq_true_of_le hc]
   have : b.toNat / 9223372036854775808 % 2 = 1 := by omega
   rw [this]; rfl
  ·have h1 : Nat.ble 9223372036854775808 b.toNat = false := Bool.eq_false_iff.2 fun q => hc (Nat.le_of_ble_eq_true q)
   rw [h1]
   have : b.toNat / 9223372036854775808 % 2 = 0 := by omega
   rw [this]; rfl
 rw [hn]
 unfold rung at h
 dsimp only
 rw [h, if_neg (by decide), if_neg (by decide), if_pos rfl]
theorem read_nan {b : F64} (h : rung b > 9218868437227405312) : ∃ s t, FloatKind.f64.format.read b.toNat = .nan s t := by
 unfold Ieee.Format.read
 have e1 : FloatKind.f64.format.signWeight = 9223372036854775808 := by decide
 have e2 : FloatKind.f64.format.binade = 4503599627370496 := by decide
 have e3 : FloatKind.f64.format.infRung = 9218868437227405312 := by decide
 rw [e1, e2, e3]
 unfold rung at h
 dsimp only
 rw [if_neg (by omega), if_neg (by omega), if_neg (by omega)]
 exact ⟨_, _, rfl⟩
def skey (b : F64) : Int := if negF b = true then -((rung b : Nat) : Int) else ((rung b : Nat) : Int)
theorem cmp_scale (x y : Int) {p : Nat} (hp : 0 < p) : compare x y = compare (x * (p : Int)) (y * (p : Int)) := by
 have hp2 : (0 : Int) < (p : Int) := by omega
 have h1 : x < y ↔ x * (p : Int) < y * (p : Int) := ⟨fun h => Int.mul_lt_mul_of_pos_right h hp2, fun h => Int.lt_of_mul_lt_mul_right h (Int.le_of_lt hp2)⟩
 have h2 : x = y ↔ x * (p : Int) = y * (p : Int) := ⟨fun h => by rw [h], fun h => Int.eq_of_mul_eq_mul_right (by omega) h⟩
 simp only [compare, compareOfLessAndEq]
 by_cases h3 : x < y
 ·rw [if_pos h3, if_pos (h1.1 h3)]
 ·rw [if_neg h3, if_neg (fun q => h3 (h1.2 q))]
  by_cases h4 : x = y
  ·rw [if_pos h4, if_pos (h2.1 h4)]
  ·rw [if_neg h4, if_neg (fun q => h4 (h2.2 q))]
theorem cmp_iff {x y x' y' : Int} (h1 : x < y ↔ x' < y') (h2 : x = y ↔ x' = y') : compare x y = compare x' y' := by
 simp only [compare, compareOfLessAndEq]
 by_cases h3 : x < y
 ·rw [if_pos h3, if_pos (h1.1 h3)]
 ·rw [if_neg h3, if_neg (fun q => h3 (h1.2 q))]
  by_cases h4 : x = y
  ·rw [if_pos h4, if_pos (h2.1 h4)]
  ·rw [if_neg h4, if_neg (fun q => h4 (h2.2 q))]
theorem signed_scale (s : Bool) (m up k : Nat) : Ieee.signed s m up * ((2 ^ k : Nat) : Int) = if s = true then -((m * 2 ^ (up + k) : Nat) : Int) else ((m * 2 ^ (up + k) : Nat) : Int) := by
 unfold Ieee.signed
 rw [Nat.shiftLeft_eq, Nat.pow_add, ← Nat.mul_assoc]
 split
 ·rw [Int.neg_mul]; rfl
 ·rfl
theorem ford_num {a b : F64} (ha : rung a < 9218868437227405312) (hb : rung b < 9218868437227405312) : ford a b = some (compare (skey a) (skey b)) := by
 unfold ford Ieee.Format.order
 rw [read_num ha, read_num hb]
 unfold Ieee.Datum.order
 dsimp only
 congr 1
 generalize hua : upF (rung a) = ua
 generalize hub : upF (rung b) = ub
 have hmin : min ((-1074 : Int) + (ua : Nat)) ((-1074 : Int) + (ub : Nat)) = (-1074 : Int) + ((min ua ub : Nat) : Int) := by omega
 rw [hmin]
 have e1 : ((-1074 : Int) + (ua : Nat) - ((-1074 : Int) + ((min ua ub : Nat) : Int))).toNat = ua - min ua ub := by omega
 have e2 : ((-1074 : Int) + (ub : Nat) - ((-1074 : Int) + ((min ua ub : Nat) : Int))).toNat = ub - min ua ub := by omega
 rw [e1, e2, cmp_scale _ _ (p := 2 ^ min ua ub) (Nat.two_pow_pos _), signed_scale, signed_scale, show ua - min ua ub + min ua ub = ua by omega, show ub - min ua ub + min ua ub = ub by omega, ← hua, ← hub, ← magF_eq, ← magF_eq]
 unfold skey
 have m1 : rung a < rung b ↔ magF (rung a) < magF (rung b) := ⟨magF_mono, fun h => Nat.lt_of_not_le fun q => by
  rcases Nat.lt_or_ge (rung b) (rung a) with h2 | h2
  ·have := magF_mono h2; omega
  ·have : rung a = rung b := by omega
   rw [this] at h; omega⟩
 have m2 : rung a = rung b ↔ magF (rung a) = magF (rung b) := ⟨fun h => by rw [h], magF_inj⟩
 have z1 : rung a = 0 ↔ magF (rung a) = 0 := ⟨fun h => by rw [h]; rfl, fun h => magF_inj (h.trans rfl)⟩
 have z2 : rung b = 0 ↔ magF (rung b) = 0 := ⟨fun h => by rw [h]; rfl, fun h => magF_inj (h.trans rfl)⟩
 generalize magF (rung a) = x at *
 generalize magF (rung b) = y at *
 generalize rung a = r at *
 generalize rung b = q at *
 refine cmp_iff ?_ ?_
 ·split <;> split <;> omega
 ·split <;> split <;> omega
theorem cmp_lt {x y : Int} : (compare x y = .lt) ↔ x < y := by
 simp only [compare, compareOfLessAndEq]
 by_cases h : x < y
 ·simp [h]
 ·rw [if_neg h]
  by_cases h2 : x = y
  ·simp [h2]
  ·simp [h, h2]
theorem cmp_eq {x y : Int} : (compare x y = .eq) ↔ x = y := by
 simp only [compare, compareOfLessAndEq]
 by_cases h : x < y
 ·simp [h]; omega
 ·rw [if_neg h]
  by_cases h2 : x = y
  ·simp [h2]
  ·simp [h2]
theorem cmp_gt {x y : Int} : (compare x y = .gt) ↔ y < x := by
 simp only [compare, compareOfLessAndEq]
 by_cases h : x < y
 ·simp [h]; omega
 ·rw [if_neg h]
  by_cases h2 : x = y
  ·simp [h2]
  ·simp [h2]; omega
theorem ford_eq {a b : F64} (ha : rung a ≤ 9218868437227405312) (hb : rung b ≤ 9218868437227405312) : ford a b = some (compare (skey a) (skey b)) := by
 by_cases h1 : rung a = 9218868437227405312
 ·by_cases h2 : rung b = 9218868437227405312
  ·unfold ford Ieee.Format.order skey
   rw [read_inf h1, read_inf h2, h1, h2]
   cases negF a <;> cases negF b <;> rfl
  ·unfold ford Ieee.Format.order skey
   rw [read_inf h1, read_num (by omega), h1]
   unfold Ieee.Datum.order
   dsimp only
   congr 1
   generalize rung b = q at *
   cases negF a
   ·simp only [Bool.false_eq_true, if_false]
    exact (cmp_gt.2 (by split <;> omega)).symm
   ·simp only [if_true]
    exact (cmp_lt.2 (by split <;> omega)).symm
 ·by_cases h2 : rung b = 9218868437227405312
  ·unfold ford Ieee.Format.order skey
   rw [read_inf h2, read_num (by omega), h2]
   unfold Ieee.Datum.order
   dsimp only
   congr 1
   generalize rung a = q at *
   cases negF b
   ·simp only [Bool.false_eq_true, if_false]
    exact (cmp_lt.2 (by split <;> omega)).symm
   ·simp only [if_true]
    exact (cmp_gt.2 (by split <;> omega)).symm
  ·exact ford_num (by omega) (by omega)
theorem ford_nan {a : F64} (h : rung a > 9218868437227405312) : ford a a = none := by
 obtain ⟨s, t, e⟩ := read_nan h
 unfold ford Ieee.Format.order
 rw [e]
 rfl
end Go.Proofs.YtfekkhinjdmcbaaDoor.VM

/- Words and rules that the proof uses. -/
namespace Go.Proofs.YtfekkhinjdmcbaaDoor.VM
open Go Go.RowKit
theorem word_ok {s : List UInt8} (h : 8 ≤ s.length) : ∃ w, g_utf8_word_string s = some w := by
 unfold g_utf8_word_string
 rw [if_neg (by decide), if_pos (by omega), if_pos (by omega), if_pos (by omega), if_pos (by omega), if_pos (by omega), if_pos (by omega), if_pos (by omega), if_pos (by omega), letO_eq]
 exact ⟨_, rfl⟩
theorem cutl {s : List UInt8} {a : Int} (h : 0 ≤ a ∧ a ≤ (s.length : Int)) : (cut s a (s.length : Int)).length = s.length - a.toNat := by
 rw [cut_len ⟨h.1, h.2, Int.le_refl _⟩, Int.toNat_natCast]
theorem fast_ok {s : List UInt8} (h : 32 < s.length) : ∃ b, ((g_utf8_word_string s).bind fun r'9 => if 0 ≤ (8 : Int) ∧ (8 : Int) ≤ (s.length : Int) then (g_utf8_word_string (cut s (8 : Int) (s.length : Int))).bind fun r'10 => if 0 ≤ (16 : Int) ∧ (16 : Int) ≤ (s.length : Int) then (g_utf8_word_string (cut s (16 : Int) (s.length : Int))).bind fun r'11 => if 0 ≤ (24 : Int) ∧ (24 : Int) ≤ (s.length : Int) then (g_utf8_word_string (cut s (24 : Int) (s.length : Int))).bind fun r'12 => some (decide (((r'9 ||| r'10) ||| (r'11 ||| r'12)) &&& (9259542123273814144 : UInt64) = (0 : UInt64))) else none else none else none) = some b := by
 obtain ⟨w1, h1⟩ := word_ok (s := s) (by omega)
 obtain ⟨w2, h2⟩ := word_ok (s := cut s (8 : Int) (s.length : Int)) (by rw [cutl (by omega)]; omega)
 obtain ⟨w3, h3⟩ := word_ok (s := cut s (16 : Int) (s.length : Int)) (by rw [cutl (by omega)]; omega)
 obtain ⟨w4, h4⟩ := word_ok (s := cut s (24 : Int) (s.length : Int)) (by rw [cutl (by omega)]; omega)
 rw [h1, Option.bind_some, if_pos (by omega), h2, Option.bind_some, if_pos (by omega), h3, Option.bind_some, if_pos (by omega), h4, Option.bind_some]
 exact ⟨_, rfl⟩
theorem quick_loop (n : Nat) {s : List UInt8} (h : s.length ≤ n) : ∃ r : List UInt8, loopO g_utf8_ValidString_l1 s = some r ∧ r.length ≤ n := by
 refine loopO_rule (fun s : List UInt8 => s.length ≤ n) (fun r : List UInt8 => r.length ≤ n) List.length (fun s hs => ?_) h
 unfold g_utf8_ValidString_l1
 dsimp only
 by_cases h1 : (s.length : Int) > 32
 ·rw [if_pos h1]
  obtain ⟨b, hb⟩ := fast_ok (s := s) (by omega)
  rw [hb, Option.bind_some]
  cases b with
  | true =>
   rw [if_pos rfl, if_pos (by omega)]
   exact .inl ⟨_, rfl, by rw [cutl (by omega)]; omega, by rw [cutl (by omega)]; omega⟩
  | false =>
   rw [if_neg (by decide)]
   exact .inr ⟨_, rfl, hs⟩
 ·rw [if_neg h1]
  exact .inr ⟨_, rfl, hs⟩
theorem skip_ok {s : List UInt8} (h : 0 < s.length) : ∃ j, (((if ((cut s (1 : Int) (s.length : Int)).length : Int) > (8 : Int) then (g_utf8_word_string (cut s (1 : Int) (s.length : Int))).bind fun r'3 => some (decide (r'3 &&& (9259542123273814144 : UInt64) = (0 : UInt64))) else some false)).bind fun g'4 => (if g'4 = true then if 0 ≤ (8 : Int) ∧ (8 : Int) ≤ ((cut s (1 : Int) (s.length : Int)).length : Int) then letO ((cut (cut s (1 : Int) (s.length : Int)) (8 : Int) ((cut s (1 : Int) (s.length : Int)).length : Int))) fun s0'5 => ((if (s0'5.length : Int) > (16 : Int) then (g_utf8_word_string s0'5).bind fun r'6 => if 0 ≤ (8 : Int) ∧ (8 : Int) ≤ (s0'5.length : Int) then (g_utf8_word_string (cut s0'5 (8 : Int) (s0'5.length : Int))).bind fun r'7 => some (decide ((r'6 ||| r'7) &&& (9259542123273814144 : UInt64) = (0 : UInt64))) else none else some false)).bind fun g'8 => (if g'8 = true then if 0 ≤ (16 : Int) ∧ (16 : Int) ≤ (s0'5.length : Int) then (loopO (g_utf8_ValidString_l1) (cut s0'5 (16 : Int) (s0'5.length : Int))).bind fun y'17 => some y'17 else none else some s0'5) else none else some (cut s (1 : Int) (s.length : Int)))) = some j ∧ j.length < s.length := by
 have hc : (cut s (1 : Int) (s.length : Int)).length = s.length - 1 := by rw [cutl (by omega)]; rfl
 generalize cut s (1 : Int) (s.length : Int) = t at *
 by_cases h1 : (t.length : Int) > 8
 ·rw [if_pos h1]
  obtain ⟨w, hw⟩ := word_ok (s := t) (by omega)
  rw [hw, Option.bind_some, Option.bind_some]
  by_cases h2 : decide (w &&& (9259542123273814144 : UInt64) = (0 : UInt64)) = true
  ·rw [if_pos h2, if_pos (by omega), letO_eq]
   have hu : (cut t (8 : Int) (t.length : Int)).length = t.length - 8 := by rw [cutl (by omega)]; rfl
   generalize cut t (8 : Int) (t.length : Int) = u at *
   by_cases h3 : (u.length : Int) > 16
   ·obtain ⟨w2, hw2⟩ := word_ok (s := u) (by omega)
    obtain ⟨w3, hw3⟩ := word_ok (s := cut u (8 : Int) (u.length : Int)) (by rw [cutl (by omega)]; omega)
    rw [if_pos h3, hw2, Option.bind_some, if_pos (by omega), hw3, Option.bind_some, Option.bind_some]
    by_cases h4 : decide ((w2 ||| w3) &&& (9259542123273814144 : UInt64) = (0 : UInt64)) = true
    ·rw [if_pos h4, if_pos (by omega)]
     obtain ⟨r, hr, hl⟩ := quick_loop (u.length - 16) (s := cut u (16 : Int) (u.length : Int)) (by rw [cutl (by omega)]; exact Nat.le_refl _)
     rw [hr]
     exact ⟨r, rfl, by omega⟩
    ·rw [if_neg h4]
     exact ⟨_, rfl, by omega⟩
   ·rw [if_neg h3, Option.bind_some, if_neg (by decide)]
    exact ⟨_, rfl, by omega⟩
  ·rw [if_neg h2]
   exact ⟨_, rfl, by omega⟩
 ·rw [if_neg h1, Option.bind_some, if_neg (by decide)]
  exact ⟨_, rfl, by omega⟩
theorem two_ok {s : List UInt8} {lo hi : UInt8} (h : 0 < s.length) : ∃ b, (if (s.length : Int) < (2 : Int) then some true else if 1 < s.length then (if (lrd s 1) < lo then some true else if 1 < s.length then some (decide (hi < (lrd s 1))) else none) else none) = some b ∧ (b = false → 2 ≤ s.length) := by
 by_cases h1 : (s.length : Int) < 2
 ·rw [if_pos h1]; exact ⟨_, rfl, fun q => by cases q⟩
 ·rw [if_neg h1, if_pos (by omega)]
  split
  ·exact ⟨_, rfl, fun q => by cases q⟩
  ·rw [if_pos (by omega)]; exact ⟨_, rfl, fun _ => by omega⟩
theorem valid_ok (s : List UInt8) : ∃ b, g_utf8_ValidString s = some b := by
 unfold g_utf8_ValidString
 have : ∃ r, loopO g_utf8_ValidString_l0 s = some r ∧ True := by
  refine loopO_rule (fun _ => True) (fun _ => True) List.length (fun s _ => ?_) trivial
  unfold g_utf8_ValidString_l0
  dsimp only
  by_cases h0 : (s.length : Int) > 0
  ·rw [if_pos h0, if_pos (by omega)]
   by_cases h1 : lrd s 0 < (128 : UInt8)
   ·rw [if_pos h1, if_pos (by omega)]
    obtain ⟨j, hj, hl⟩ := skip_ok (s := s) (by omega)
    rw [hj, Option.bind_some]
    exact .inl ⟨_, rfl, trivial, hl⟩
   ·have hb : (lrd s 0).toNat < 256 := (lrd s 0).toNat_lt
    have hx : ∀ x : UInt8, 0 ≤ ((shr_u8 x 4).toNat : Int) ∧ ((shr_u8 x 4).toNat : Int) < 16 := by
     intro x
     have h1 : (shr_u8 x 4).toNat = x.toNat / 16 := by
      show (x.toBitVec >>> 4).toNat = _
      rw [BitVec.toNat_ushiftRight, Nat.shiftRight_eq_div_pow]
      rfl
     have := x.toNat_lt
     rw [h1]
     omega
    rw [if_neg h1, if_pos (by omega), letO_eq, if_pos (hx _), letO_eq]
    generalize (lrd _ _ : Gutf8_acceptRange) = a
    generalize ((_ &&& (7 : UInt8)).toNat : Int) = z
    by_cases z2 : z = 2
    ·rw [if_pos z2]
     obtain ⟨b, hb, hl⟩ := two_ok (s := s) (lo := a.lo_) (hi := a.hi_) (by omega)
     rw [hb, Option.bind_some]
     cases b with
     | true => rw [if_pos rfl]; exact .inr ⟨_, rfl, trivial⟩
     | false =>
      have := hl rfl
      rw [if_neg (by decide), if_pos (by omega)]
      exact .inl ⟨_, rfl, trivial, by rw [cutl (by omega)]; omega⟩
    ·rw [if_neg z2]
     by_cases z3 : z = 3
     ·rw [if_pos z3]
      by_cases l3 : (s.length : Int) < 3
      ·rw [if_pos l3, Option.bind_some, if_pos rfl]; exact .inr ⟨_, rfl, trivial⟩
      ·rw [if_neg l3, if_pos (show 1 < s.length by omega), if_pos (show 1 < s.length by omega), if_pos (show 2 < s.length by omega), if_pos (show 2 < s.length by omega), if_pos (show 0 ≤ (3 : Int) ∧ (3 : Int) ≤ (s.length : Int) by omega)]
       have hd : (cut s (3 : Int) (s.length : Int)).length < s.length := by rw [cutl (by omega)]; omega
       split
       ·exact .inr ⟨_, rfl, trivial⟩
       ·split
        ·exact .inr ⟨_, rfl, trivial⟩
        ·split
         ·exact .inr ⟨_, rfl, trivial⟩
         ·rw [Option.bind_some]
          split
          ·exact .inr ⟨_, rfl, trivial⟩
          ·exact .inl ⟨_, rfl, trivial, hd⟩
     ·rw [if_neg z3]
      by_cases z4 : z = 4
      ·rw [if_pos z4]
       by_cases l3 : (s.length : Int) < 4
       ·rw [if_pos l3, Option.bind_some, if_pos rfl]; exact .inr ⟨_, rfl, trivial⟩
       ·rw [if_neg l3, if_pos (show 1 < s.length by omega), if_pos (show 1 < s.length by omega), if_pos (show 2 < s.length by omega), if_pos (show 2 < s.length by omega), if_pos (show 3 < s.length by omega), if_pos (show 3 < s.length by omega), if_pos (show 0 ≤ (4 : Int) ∧ (4 : Int) ≤ (s.length : Int) by omega)]
        have hd : (cut s (4 : Int) (s.length : Int)).length < s.length := by rw [cutl (by omega)]; omega
        split
        ·exact .inr ⟨_, rfl, trivial⟩
        ·split
         ·exact .inr ⟨_, rfl, trivial⟩
         ·split
          ·exact .inr ⟨_, rfl, trivial⟩
          ·split
           ·exact .inr ⟨_, rfl, trivial⟩
           ·split
            ·exact .inr ⟨_, rfl, trivial⟩
            ·rw [Option.bind_some]
             split
             ·exact .inr ⟨_, rfl, trivial⟩
             ·exact .inl ⟨_, rfl, trivial, hd⟩
      ·rw [if_neg z4]
       exact .inr ⟨_, rfl, trivial⟩
  ·rw [if_neg h0]
   exact .inr ⟨_, rfl, trivial⟩
 obtain ⟨r, hr, _⟩ := this
 rw [hr, Option.bind_some]
 cases r with
 | inl b => exact ⟨_, rfl⟩
 | inr u => exact ⟨_, rfl⟩
theorem valid_nil : g_utf8_ValidString [] = some true := by
 unfold g_utf8_ValidString
 rw [loopO_done (r := .inr ()) (by unfold g_utf8_ValidString_l0; rfl)]
 rfl
end Go.Proofs.YtfekkhinjdmcbaaDoor.VM

/- Words and rules that the proof uses. -/
namespace Go.Proofs.YtfekkhinjdmcbaaDoor.VM
open Go Go.RowKit
theorem shl1_nat (b : UInt64) : (shl_u64 b 1).toNat = 2 * (b.toNat % 9223372036854775808) := by
 show (b.toBitVec <<< 1).toNat = _
 rw [BitVec.toNat_shiftLeft, Nat.shiftLeft_eq]
 show b.toNat * 2 ^ 1 % 2 ^ 64 = _
 omega
theorem bad_iff (b : UInt64) : ((18437736874454810624 : UInt64) < shl_u64 b 1) ↔ rung b > 9218868437227405312 := by
 rw [UInt64.lt_iff_toNat_lt, shl1_nat]
 show 18437736874454810624 < _ ↔ _
 unfold rung
 omega
theorem top_iff (b : UInt64) : b = (9223372036854775808 : UInt64) ↔ b.toNat = 9223372036854775808 := by
 constructor
 ·intro h; rw [h]; rfl
 ·intro h; exact UInt64.toNat_inj.1 h
theorem sign_eq (b : UInt64) : (w64 (b.toNat : Int) < 0) ↔ 9223372036854775808 ≤ b.toNat := by
 have hb : b.toNat < 18446744073709551616 := b.toNat_lt
 unfold w64 IntKind.wrap
 have e1 : (2 ^ IntKind.i64.bits : Int) = 18446744073709551616 := by decide
 have e2 : (2 ^ (IntKind.i64.bits - 1) : Int) = 9223372036854775808 := by decide
 have e3 : IntKind.i64.signed = true := rfl
 rw [e1, e2, e3]
 simp only [Bool.true_and, decide_eq_true_eq]
 split <;> omega
theorem skey0 : skey (0 : F64) = 0 := by decide
theorem ford_self {b : F64} (h : rung b ≤ 9218868437227405312) : ford b b = some .eq := by
 rw [ford_eq h h, cmp_eq.2 rfl]
theorem real_bad (b : UInt64) : (if (fneq b b) = true then some true else (if (feq b (0 : F64)) = true then (g_math_Signbit b).bind fun r'4 => some r'4 else some false)) = some (decide ((b = (9223372036854775808 : UInt64)) ∨ ((18437736874454810624 : UInt64) < shl_u64 b 1))) := by
 have hb : b.toNat < 18446744073709551616 := b.toNat_lt
 by_cases h : rung b > 9218868437227405312
 ·have : fneq b b = true := by unfold fneq; rw [ford_nan h]; rfl
  rw [if_pos this, decide_eq_true (.inr ((bad_iff b).2 h))]
 ·have h' : rung b ≤ 9218868437227405312 := by omega
  have h1 : ¬ (fneq b b = true) := by unfold fneq; rw [ford_self h']; decide
  rw [if_neg h1]
  by_cases h2 : rung b = 0
  ·have h3 : feq b (0 : F64) = true := by
    unfold feq
    rw [ford_eq h' (by decide), skey0]
    have : skey b = 0 := by unfold skey; rw [h2]; split <;> rfl
    rw [this]
    rfl
   rw [if_pos h3]
   unfold g_math_Signbit
   rw [Option.bind_some]
   congr 1
   rw [decide_eq_decide, sign_eq, top_iff, bad_iff]
   unfold rung at *
   omega
  ·have h3 : ¬ (feq b (0 : F64) = true) := by
    unfold feq
    rw [ford_eq h' (by decide), skey0]
    intro q
    have q2 : compare (skey b) 0 = .eq := by simpa using q
    have := cmp_eq.1 q2
    unfold skey at this
    split at this <;> omega
   rw [if_neg h3, decide_eq_false]
   rw [top_iff, bad_iff]
   unfold rung at *
   omega
theorem u64i (n : Int) : (UInt64.ofInt n).toNat = (n % 18446744073709551616).toNat := by
 unfold UInt64.ofInt
 rw [UInt64.toNat_ofNat']
 have : (2 : Int) ^ 64 = 18446744073709551616 := by decide
 have : (2 : Nat) ^ 64 = 18446744073709551616 := by decide
 omega
def okV1 (v : GValue) : Prop := 0 ≤ v.Kind ∧ v.Kind ≤ 4 ∧ v.Text.length ≤ 40 ∧ (v.Kind = 3 → ¬ ((v.Bits = (9223372036854775808 : UInt64)) ∨ ((18437736874454810624 : UInt64) < shl_u64 v.Bits 1)))
theorem check_eq (v : GValue) (hi : okI v.Int_) : ∃ e : Int, g_value_Check v = some e ∧ g_ref_ValueFault v = some e ∧ (e = 0 → okV1 v) := by
 obtain ⟨k, i, b, t⟩ := v
 unfold okI at hi
 dsimp only at hi
 obtain ⟨vb, hv⟩ := valid_ok t
 unfold g_value_Check g_ref_ValueFault g_ref_badReal okV1
 dsimp only
 by_cases hk : k < 0 ∨ k > 4
 ·rw [if_pos hk, if_neg (show ¬ k = 0 by omega), if_neg (show ¬ k = 1 by omega), Option.bind_some, decide_eq_false (show ¬ k = 2 by omega), if_neg (by decide), if_neg (show ¬ k = 3 by omega), if_neg (show ¬ k = 4 by omega)]
  exact ⟨2, rfl, rfl, fun q => absurd q (by decide)⟩
 ·rw [if_neg hk]
  by_cases hl : (t.length : Int) > 40
  ·rw [if_pos hl]
   refine ⟨1, rfl, ?_, fun q => absurd q (by decide)⟩
   have hk5 : k = 0 ∨ k = 1 ∨ k = 2 ∨ k = 3 ∨ k = 4 := by omega
   rcases hk5 with rfl | rfl | rfl | rfl | rfl <;> simp [hl]
  ·rw [if_neg hl, letO_eq]
   have hk5 : k = 0 ∨ k = 1 ∨ k = 2 ∨ k = 3 ∨ k = 4 := by omega
   rcases hk5 with rfl | rfl | rfl | rfl | rfl
   ·by_cases h : t = [] ∧ b = 0 ∧ i = 0
    ·obtain ⟨rfl, rfl, rfl⟩ := h
     refine ⟨0, by simp, ?_, fun _ => by simp⟩
     simp [valid_nil, GValue.zero]
    ·refine ⟨3, ?_, ?_, fun q => absurd q (by decide)⟩
     ·rw [if_pos]
      simp
      by_cases h1 : t = []
      ·by_cases h2 : b = 0
       ·exact .inr fun q => h ⟨h1, h2, q⟩
       ·exact .inl (.inr h2)
      ·exact .inl (.inl h1)
     ·simp [GValue.zero, hl]
      rw [if_neg (fun q => h ⟨q.2.2, q.2.1, q.1⟩)]
      rfl
   ·by_cases h : t = [] ∧ b = 0
    ·obtain ⟨rfl, rfl⟩ := h
     by_cases hi2 : i = 0 ∨ i = 1
     ·have h1 : ¬ ((1 : UInt64) < UInt64.ofInt i) := by
       rw [UInt64.lt_iff_toNat_lt, u64i]
       show ¬ 1 < _
       omega
      refine ⟨0, ?_, ?_, fun _ => by simp⟩
      ·simp
       rw [if_neg (by omega)]
       rfl
      ·simp [GValue.zero, valid_nil]
       rw [if_neg h1]
       rfl
     ·have h1 : (1 : UInt64) < UInt64.ofInt i := by
       rw [UInt64.lt_iff_toNat_lt, u64i]
       show 1 < _
       omega
      refine ⟨3, ?_, ?_, fun q => absurd q (by decide)⟩
      ·simp
       rw [if_pos (by omega)]
       rfl
      ·simp [GValue.zero]
       rw [if_pos h1]
       rfl
    ·refine ⟨3, ?_, ?_, fun q => absurd q (by decide)⟩
     ·rw [if_pos]
      simp
      by_cases h1 : t = []
      ·exact .inr fun q => h ⟨h1, q⟩
      ·exact .inl h1
     ·simp [GValue.zero, hl]
      rw [if_neg (fun q => h ⟨q.2, q.1⟩)]
      rfl
   ·by_cases h : t = [] ∧ b = 0
    ·obtain ⟨rfl, rfl⟩ := h
     refine ⟨0, by simp, ?_, fun _ => by simp⟩
     simp [valid_nil, GValue.zero]
    ·refine ⟨3, ?_, ?_, fun q => absurd q (by decide)⟩
     ·rw [if_pos]
      simp
      by_cases h1 : t = []
      ·exact .inr fun q => h ⟨h1, q⟩
      ·exact .inl h1
     ·simp [GValue.zero, hl]
      rw [if_neg (fun q => h ⟨q.2, q.1⟩)]
      rfl
   ·by_cases h : t = [] ∧ i = 0
    ·obtain ⟨rfl, rfl⟩ := h
     have hr := real_bad b
     by_cases hb : (b = (9223372036854775808 : UInt64)) ∨ ((18437736874454810624 : UInt64) < shl_u64 b 1)
     ·refine ⟨3, ?_, ?_, fun q => absurd q (by decide)⟩
      ·rw [if_neg (by simp), if_neg (by decide), if_pos rfl, hr, decide_eq_true hb]
       rfl
      ·revert hb
       generalize shl_u64 b 1 = z
       intro hb
       simp [GValue.zero]
       rw [if_pos hb]
       rfl
     ·refine ⟨0, ?_, ?_, fun _ => ⟨by decide, by decide, by simp, fun _ => hb⟩⟩
      ·rw [if_neg (by simp), if_neg (by decide), if_pos rfl, hr, decide_eq_false hb]
       rfl
      ·revert hb
       generalize shl_u64 b 1 = z
       intro hb
       simp [GValue.zero, valid_nil]
       rw [if_neg hb]
       rfl
    ·refine ⟨3, ?_, ?_, fun q => absurd q (by decide)⟩
     ·rw [if_pos]
      simp
      by_cases h1 : t = []
      ·exact .inr fun q => h ⟨h1, q⟩
      ·exact .inl h1
     ·simp [GValue.zero, hl]
      rw [if_neg (fun q => h ⟨q.2, q.1⟩)]
      rfl
   ·by_cases h : b = 0 ∧ i = 0
    ·obtain ⟨rfl, rfl⟩ := h
     cases vb with
     | true =>
      refine ⟨0, ?_, ?_, fun _ => ⟨by decide, by decide, by omega, fun q => absurd q (by decide)⟩⟩
      ·simp [hv]
      ·simp [GValue.zero, hv, hl]
     | false =>
      refine ⟨3, ?_, ?_, fun q => absurd q (by decide)⟩
      ·simp [hv]
      ·simp [GValue.zero, hv, hl]
    ·refine ⟨3, ?_, ?_, fun q => absurd q (by decide)⟩
     ·rw [if_pos]
      simp
      by_cases h1 : b = 0
      ·exact .inr fun q => h ⟨h1, q⟩
      ·exact .inl h1
     ·simp [GValue.zero, hl]
      rw [if_neg (fun q => h ⟨q.2, q.1⟩)]
      rfl
end Go.Proofs.YtfekkhinjdmcbaaDoor.VM

/- Words and rules that the proof uses. -/
namespace Go.Proofs.YtfekkhinjdmcbaaDoor.VM
open Go Go.RowKit
def restB9 (b : List UInt8) (fl : UInt8) (k : Nat) : List UInt8 := (b.drop k).map (· ^^^ fl)
theorem rest_len (b : List UInt8) (fl : UInt8) (k : Nat) : (restB9 b fl k).length = b.length - k := by unfold restB9; rw [List.length_map, List.length_drop]
theorem rest_step {b : List UInt8} {fl : UInt8} {k : Nat} (h : k < b.length) : restB9 b fl k = (lrd b k ^^^ fl) :: restB9 b fl (k + 1) := by
 unfold restB9
 rw [drop_step h, List.map_cons]
theorem rest_end {b : List UInt8} {fl : UInt8} {k : Nat} (h : b.length ≤ k) : restB9 b fl k = [] := by
 unfold restB9
 rw [List.drop_eq_nil_of_le h]
 rfl
theorem next_eq {b : List UInt8} {fl : UInt8} {k : Nat} (hb : b.length < 9223372036854775807) (hk : k ≤ b.length) : g_code_Decode_1_i0 (k : Int) b fl = some (match restB9 b fl k with | [] => ((0 : UInt8), false, (k : Int), b, fl) | c :: _ => (c, true, ((k + 1 : Nat) : Int), b, fl)) := by
 unfold g_code_Decode_1_i0
 by_cases h : k < b.length
 ·rw [if_neg (by omega), w64_succ (by omega), w64_id (by omega), rest_step h, show (((k + 1 : Nat) : Int) - 1) = (k : Int) by omega, if_pos (natIn h), Int.toNat_natCast]
 ·have hke : k = b.length := by omega
  subst hke
  rw [if_pos (by omega), rest_end (Nat.le_refl _)]
def txtR : List UInt8 → List UInt8 → Nat → Int ⊕ (List UInt8 × Nat)
 | [], _, _ => .inl 4
 | c :: l, acc, n => if c = 0 then (match l with
   | [] => .inl 4
   | d :: l' => if d = 1 then .inr (acc, n + 2) else if d = 255 then (if acc.length = 40 then .inl 1 else txtR l' (acc ++ [0]) (n + 2)) else .inl 3)
  else if acc.length = 40 then .inl 1 else txtR l (acc ++ [c]) (n + 1)
theorem txtR_nil (acc : List UInt8) (n : Nat) : txtR [] acc n = .inl 4 := by rw [txtR]
theorem txtR_zero (acc : List UInt8) (n : Nat) : txtR [0] acc n = .inl 4 := by rw [txtR, if_pos rfl]
theorem txtR_zero2 (d : UInt8) (l acc : List UInt8) (n : Nat) : txtR (0 :: d :: l) acc n = if d = 1 then .inr (acc, n + 2) else if d = 255 then (if acc.length = 40 then .inl 1 else txtR l (acc ++ [0]) (n + 2)) else .inl 3 := by rw [txtR, if_pos rfl]
theorem txtR_cons (c : UInt8) (l acc : List UInt8) (n : Nat) (h : c ≠ 0) : txtR (c :: l) acc n = if acc.length = 40 then .inl 1 else txtR l (acc ++ [c]) (n + 1) := by
 cases l with
 | nil => conv => lhs; rw [txtR, if_neg h]
 | cons d l => conv => lhs; rw [txtR, if_neg h]
theorem txtR_fact : ∀ (m : Nat) (l acc : List UInt8) (n : Nat), l.length ≤ m → acc.length ≤ 40 → (∃ e, txtR l acc n = .inl e ∧ (e = 1 ∨ e = 3 ∨ e = 4)) ∨ ∃ t p, txtR l acc n = .inr (t, p) ∧ t.length ≤ 40 ∧ n < p ∧ p ≤ n + l.length := by
 intro m
 induction m with
 | zero =>
  intro l acc n hl _
  have : l = [] := List.eq_nil_of_length_eq_zero (by omega)
  subst this
  exact .inl ⟨4, txtR_nil _ _, by omega⟩
 | succ m ih =>
  intro l acc n hl ha
  cases l with
  | nil => exact .inl ⟨4, txtR_nil _ _, by omega⟩
  | cons c l =>
   rw [List.length_cons] at hl
   by_cases hc : c = 0
   ·subst hc
    cases l with
    | nil => exact .inl ⟨4, txtR_zero _ _, by omega⟩
    | cons d l =>
     rw [txtR_zero2]
     rw [List.length_cons] at hl
     by_cases h1 : d = 1
     ·rw [if_pos h1]
      exact .inr ⟨acc, n + 2, rfl, ha, by omega, by rw [List.length_cons, List.length_cons]; omega⟩
     ·rw [if_neg h1]
      by_cases h2 : d = 255
      ·rw [if_pos h2]
       by_cases h3 : acc.length = 40
       ·rw [if_pos h3]; exact .inl ⟨1, rfl, by omega⟩
       ·rw [if_neg h3]
        rcases ih l (acc ++ [0]) (n + 2) (by omega) (by rw [List.length_append, List.length_singleton]; omega) with h | ⟨t, p, h4, h5, h6, h7⟩
        ·exact .inl h
        ·exact .inr ⟨t, p, h4, h5, by omega, by rw [List.length_cons, List.length_cons]; omega⟩
      ·rw [if_neg h2]; exact .inl ⟨3, rfl, by omega⟩
   ·rw [txtR_cons _ _ _ _ hc]
    by_cases h3 : acc.length = 40
    ·rw [if_pos h3]; exact .inl ⟨1, rfl, by omega⟩
    ·rw [if_neg h3]
     rcases ih l (acc ++ [c]) (n + 1) (by omega) (by rw [List.length_append, List.length_singleton]; omega) with h | ⟨t, p, h4, h5, h6, h7⟩
     ·exact .inl h
     ·exact .inr ⟨t, p, h4, h5, by omega, by rw [List.length_cons]; omega⟩
theorem text_loop {b : List UInt8} {fl : UInt8} (hb : b.length < 9223372036854775807) : ∀ (m k : Nat) (k0 n : Nat) (acc : List UInt8), k = k0 + n → b.length - k ≤ m → k ≤ b.length → acc.length ≤ 40 →
  ∃ at' : Int, loopO g_code_text_i0_l0 (acc, (k : Int), b, fl) = some (match txtR (restB9 b fl k) acc n with | .inl e => .inl ([], e, at', b, fl) | .inr r => .inr (r.1, ((k0 + r.2 : Nat) : Int), b, fl)) := by
 intro m
 induction m with
 | zero =>
  intro k k0 n acc h0 hm hk _
  have he : b.length ≤ k := by omega
  refine ⟨(k : Int), ?_⟩
  rw [rest_end he, txtR_nil, loopO_done]
  unfold g_code_text_i0_l0
  dsimp only
  rw [next_eq hb hk, rest_end he, Option.bind_some]
  dsimp only
  rw [if_pos (by decide)]
 | succ m ih =>
  intro k k0 n acc h0 hm hk ha
  by_cases h : k < b.length
  ·rw [rest_step h]
   generalize hc : lrd b k ^^^ fl = c
   have hx := next_eq (fl := fl) hb hk
   rw [rest_step h, hc] at hx
   dsimp only at hx
   by_cases hc0 : c = 0
   ·subst hc0
    by_cases h2 : k + 1 < b.length
    ·have hx2 := next_eq (fl := fl) (k := k + 1) hb (by omega)
     rw [rest_step h2] at hx2 ⊢
     generalize lrd b (k + 1) ^^^ fl = d at hx2 ⊢
     dsimp only at hx2
     rw [txtR_zero2]
     by_cases h3 : d = 1
     ·refine ⟨0, ?_⟩
      rw [if_pos h3, loopO_done (r := .inr (acc, ((k0 + (n + 2) : Nat) : Int), b, fl))]
      unfold g_code_text_i0_l0
      dsimp only
      rw [hx, Option.bind_some]
      dsimp only
      rw [if_neg (by decide), if_pos rfl, hx2, Option.bind_some]
      dsimp only
      rw [if_neg (by decide), if_pos h3]
      simp only [Option.bind_some]
      rw [show k0 + (n + 2) = k + 1 + 1 by omega]
     ·rw [if_neg h3]
      by_cases h4 : d = 255
      ·rw [if_pos h4]
       by_cases h5 : acc.length = 40
       ·refine ⟨((k + 1 + 1 : Nat) : Int), ?_⟩
        rw [if_pos h5, loopO_done]
        unfold g_code_text_i0_l0
        dsimp only
        rw [hx, Option.bind_some]
        dsimp only
        rw [if_neg (by decide), if_pos rfl, hx2, Option.bind_some]
        dsimp only
        rw [if_neg (by decide), if_neg h3, if_neg (fun q => q h4)]
        simp only [Option.bind_some]
        rw [if_pos (by omega)]
       ·rw [if_neg h5]
        obtain ⟨a', hih⟩ := ih (k + 1 + 1) k0 (n + 2) (acc ++ [0]) (by omega) (by omega) (by omega) (by rw [List.length_append, List.length_singleton]; omega)
        refine ⟨a', ?_⟩
        rw [← hih, loopO_next]
        unfold g_code_text_i0_l0
        dsimp only
        rw [hx, Option.bind_some]
        dsimp only
        rw [if_neg (by decide), if_pos rfl, hx2, Option.bind_some]
        dsimp only
        rw [if_neg (by decide), if_neg h3, if_neg (fun q => q h4)]
        simp only [Option.bind_some]
        rw [if_neg (by omega), if_pos (show room _ _ by simp only [room, List.length_cons, List.length_nil]; omega)]
      ·refine ⟨((k + 1 + 1 : Nat) : Int), ?_⟩
       rw [if_neg h4, loopO_done]
       unfold g_code_text_i0_l0
       dsimp only
       rw [hx, Option.bind_some]
       dsimp only
       rw [if_neg (by decide), if_pos rfl, hx2, Option.bind_some]
       dsimp only
       rw [if_neg (by decide), if_neg h3, if_pos h4]
       simp only [Option.bind_some]
    ·have hx2 := next_eq (fl := fl) (k := k + 1) hb (by omega)
     rw [rest_end (show b.length ≤ k + 1 by omega)] at hx2 ⊢
     dsimp only at hx2
     refine ⟨((k + 1 : Nat) : Int), ?_⟩
     rw [txtR_zero, loopO_done]
     unfold g_code_text_i0_l0
     dsimp only
     rw [hx, Option.bind_some]
     dsimp only
     rw [if_neg (by decide), if_pos rfl, hx2, Option.bind_some]
     dsimp only
     rw [if_pos (by decide)]
     simp only [Option.bind_some]
   ·rw [txtR_cons _ _ _ _ hc0]
    by_cases h5 : acc.length = 40
    ·refine ⟨((k + 1 : Nat) : Int), ?_⟩
     rw [if_pos h5, loopO_done]
     unfold g_code_text_i0_l0
     dsimp only
     rw [hx, Option.bind_some]
     dsimp only
     rw [if_neg (by decide), if_neg hc0]
     simp only [Option.bind_some]
     rw [if_pos (by omega)]
    ·rw [if_neg h5]
     obtain ⟨a', hih⟩ := ih (k + 1) k0 (n + 1) (acc ++ [c]) (by omega) (by omega) (by omega) (by rw [List.length_append, List.length_singleton]; omega)
     refine ⟨a', ?_⟩
     rw [← hih, loopO_next]
     unfold g_code_text_i0_l0
     dsimp only
     rw [hx, Option.bind_some]
     dsimp only
     rw [if_neg (by decide), if_neg hc0]
     simp only [Option.bind_some]
     rw [if_neg (by omega), if_pos (show room _ _ by simp only [room, List.length_cons, List.length_nil]; omega)]
  ·have he : b.length ≤ k := by omega
   refine ⟨(k : Int), ?_⟩
   rw [rest_end he, txtR_nil, loopO_done]
   unfold g_code_text_i0_l0
   dsimp only
   rw [next_eq hb hk, rest_end he, Option.bind_some]
   dsimp only
   rw [if_pos (by decide)]
theorem valid_l0_alike : g_utf8_Valid_l0 = g_utf8_ValidString_l0 := rfl
theorem valid_alike (s : List UInt8) : g_utf8_Valid s = g_utf8_ValidString s := by
 unfold g_utf8_Valid g_utf8_ValidString
 rw [if_pos (by omega), valid_l0_alike]
 have : cut s 0 (s.length : Int) = s := by
  show (s.drop 0).take _ = s
  simp
 rw [this]
theorem text_prog {b : List UInt8} {fl : UInt8} {k : Nat} (hb : b.length < 9223372036854775807) (hk : k ≤ b.length) : ∃ at' : Int, g_code_text_i0 (k : Int) b fl = some (match txtR (restB9 b fl k) [] 0 with | .inl e => ([], e, at', b, fl) | .inr r => if g_utf8_ValidString r.1 = some true then (r.1, 0, ((k + r.2 : Nat) : Int), b, fl) else ([], 3, ((k + r.2 : Nat) : Int), b, fl)) := by
 obtain ⟨a', h⟩ := text_loop (fl := fl) hb (b.length - k) k k 0 [] (by omega) (by omega) hk (by decide)
 refine ⟨a', ?_⟩
 unfold g_code_text_i0
 rw [h, Option.bind_some]
 cases txtR (restB9 b fl k) [] 0 with
 | inl e => rfl
 | inr r =>
  dsimp only
  rw [valid_alike]
  obtain ⟨v, hv⟩ := valid_ok r.1
  rw [hv, Option.bind_some]
  cases v with
  | true => rw [if_neg (by decide), if_pos rfl]
  | false => rw [if_pos (by decide), if_neg (by decide)]
noncomputable def fin9 (r : Int ⊕ (List UInt8 × Nat)) : (GValue × Int × Int) ⊕ Unit := match r with
 | .inl e => if e = 4 then .inr () else .inl (GValue.zero, 0, e)
 | .inr r => if g_utf8_ValidString r.1 = some true then .inl ({ { GValue.zero with Kind := (4 : Int) } with Text := r.1 }, ((r.2 + 1 : Nat) : Int), 0) else .inl (GValue.zero, 0, 3)
theorem cut_one {s : List UInt8} {i : Nat} (h : i < s.length) : cut s (i : Int) ((i + 1 : Nat) : Int) = [lrd s i] := by
 show (s.drop (i : Int).toNat).take (((i + 1 : Nat) : Int).toNat - (i : Int).toNat) = _
 rw [Int.toNat_natCast, Int.toNat_natCast, drop_step h, show i + 1 - i = 1 by omega]
 rfl
theorem textOf_loop {s : List UInt8} (hs : s.length < 9223372036854775800) : ∀ (m i : Nat) (t : List UInt8), s.length - i ≤ m → i ≤ s.length → t.length ≤ 40 →
  loopO (g_ref_textOf_l0 s) (t, (i : Int)) = some (fin9 (txtR (s.drop i) t i)) := by
 intro m
 induction m with
 | zero =>
  intro i t hm hi _
  have he : s.length ≤ i := by omega
  rw [List.drop_eq_nil_of_le he, txtR_nil, loopO_done]
  unfold g_ref_textOf_l0
  dsimp only
  rw [if_neg (by omega)]
  rfl
 | succ m ih =>
  intro i t hm hi ht
  by_cases h : i < s.length
  ·have hw1 : w64 ((i : Int) + 1) = ((i + 1 : Nat) : Int) := w64_succ (by omega)
   rw [drop_step h]
   generalize hc : lrd s i = c
   have hstep : g_ref_textOf_l0 s (t, (i : Int)) = g_ref_textOf_l0 s (t, (i : Int)) := rfl
   by_cases hc0 : c = 0
   ·subst hc0
    by_cases h2 : i + 1 < s.length
    ·rw [drop_step h2]
     generalize hd : lrd s (i + 1) = d
     have hw2 : w64 (((i + 1 : Nat) : Int) + 1) = ((i + 2 : Nat) : Int) := w64_succ (by omega)
     rw [txtR_zero2]
     by_cases h3 : d = 1
     ·rw [if_pos h3, loopO_done]
      unfold g_ref_textOf_l0
      dsimp only
      rw [if_pos (natLt h), hw1, if_pos (by omega), cut_one h, hc, if_pos rfl, if_neg (by omega), if_pos (natIn h2), Int.toNat_natCast, hd, if_pos h3]
      obtain ⟨v, hv⟩ := valid_ok t
      rw [hv, Option.bind_some]
      cases v with
      | true =>
       rw [if_neg (by decide)]
       simp only [Option.bind_some]
       unfold fin9
       dsimp only
       rw [if_pos hv, show (((i + 1 : Nat) : Int) + 2) = ((i + 2 : Nat) : Int) + 1 by omega, w64_succ (by omega)]
      | false =>
       rw [if_pos (by decide)]
       simp only [Option.bind_some]
       unfold fin9
       dsimp only
       rw [if_neg (by rw [hv]; decide)]
     ·rw [if_neg h3]
      by_cases h4 : d = 255
      ·rw [if_pos h4]
       have hb : ∀ r, (if (((t ++ [(0 : UInt8)]).length : Nat) : Int) > (40 : Int) then some (.inr (.inl (GValue.zero, (0 : Int), (1 : Int)))) else some (.inl (t ++ [(0 : UInt8)], w64 (((i + 1 : Nat) : Int) + (1 : Int))))) = some r → g_ref_textOf_l0 s (t, (i : Int)) = some r := by
        intro r hr
        unfold g_ref_textOf_l0
        dsimp only
        rw [if_pos (natLt h), hw1, if_pos (by omega), cut_one h, hc, if_pos rfl, if_neg (by omega), if_pos (natIn h2), Int.toNat_natCast, hd, if_neg h3, if_pos (natIn h2), if_neg (fun q => q h4)]
        simp only [Option.bind_some]
        rw [if_pos (by rw [List.length_singleton]; omega)]
        exact hr
       have hl : (t ++ [(0 : UInt8)]).length = t.length + 1 := by rw [List.length_append, List.length_singleton]
       by_cases h5 : t.length = 40
       ·rw [if_pos h5, loopO_done]
        refine hb _ ?_
        rw [if_pos (by omega)]
        rfl
       ·rw [if_neg h5, ← ih (i + 2) (t ++ [0]) (by omega) (by omega) (by omega), loopO_next]
        refine hb _ ?_
        rw [if_neg (by omega), hw2]
      ·rw [if_neg h4, loopO_done]
       unfold g_ref_textOf_l0
       dsimp only
       rw [if_pos (natLt h), hw1, if_pos (by omega), cut_one h, hc, if_pos rfl, if_neg (by omega), if_pos (natIn h2), Int.toNat_natCast, hd, if_neg h3, if_pos (natIn h2), if_pos h4]
       rfl
    ·rw [List.drop_eq_nil_of_le (show s.length ≤ i + 1 by omega), txtR_zero, loopO_done]
     unfold g_ref_textOf_l0
     dsimp only
     rw [if_pos (natLt h), hw1, if_pos (by omega), cut_one h, hc, if_pos rfl, if_pos (by omega)]
     rfl
   ·rw [txtR_cons _ _ _ _ hc0]
    have hb : ∀ r, (if (((t ++ [c]).length : Nat) : Int) > (40 : Int) then some (.inr (.inl (GValue.zero, (0 : Int), (1 : Int)))) else some (.inl (t ++ [c], w64 ((i : Int) + (1 : Int))))) = some r → g_ref_textOf_l0 s (t, (i : Int)) = some r := by
     intro r hr
     unfold g_ref_textOf_l0
     dsimp only
     rw [if_pos (natLt h)]
     rw [hw1] at hr ⊢
     rw [if_pos (by omega), cut_one h, hc, if_neg (fun q => hc0 (by injection q))]
     simp only [Option.bind_some]
     rw [if_pos (by rw [List.length_singleton]; omega), hw1]
     exact hr
    have hl : (t ++ [c]).length = t.length + 1 := by rw [List.length_append, List.length_singleton]
    by_cases h5 : t.length = 40
    ·rw [if_pos h5, loopO_done]
     refine hb _ ?_
     rw [if_pos (by omega)]
     rfl
    ·rw [if_neg h5, ← ih (i + 1) (t ++ [c]) (by omega) (by omega) (by omega), loopO_next]
     refine hb _ ?_
     rw [if_neg (by omega), hw1]
  ·have he : s.length ≤ i := by omega
   rw [List.drop_eq_nil_of_le he, txtR_nil, loopO_done]
   unfold g_ref_textOf_l0
   dsimp only
   rw [if_neg (by omega)]
   rfl
theorem text_ref {s : List UInt8} (hs : s.length < 9223372036854775800) : g_ref_textOf s = some (match txtR s [] 0 with | .inl e => (GValue.zero, 0, e) | .inr r => if g_utf8_ValidString r.1 = some true then ({ { GValue.zero with Kind := (4 : Int) } with Text := r.1 }, ((r.2 + 1 : Nat) : Int), 0) else (GValue.zero, 0, 3)) := by
 unfold g_ref_textOf
 have h := textOf_loop hs s.length 0 [] (by omega) (by omega) (by decide)
 rw [List.drop_zero] at h
 rw [show ((0 : Int)) = ((0 : Nat) : Int) from rfl, h, Option.bind_some]
 rcases txtR_fact s.length s [] 0 (Nat.le_refl _) (by decide) with ⟨e, h1, h2⟩ | ⟨t, p, h1, _⟩
 ·rw [h1]
  unfold fin9
  dsimp only
  by_cases he : e = 4
  ·subst he; rfl
  ·rw [if_neg he]
   rfl
 ·rw [h1]
  unfold fin9
  dsimp only
  by_cases hv : g_utf8_ValidString t = some true
  ·rw [if_pos hv, if_pos hv]
   rfl
  ·rw [if_neg hv, if_neg hv]
   rfl
def stepN (n : UInt64) (c : UInt8) : UInt64 := n * 256 + c.toUInt64
theorem byte_or (n : UInt64) (c : UInt8) : (shl_u64 n 8) ||| c.toUInt64 = stepN n c := by
 unfold stepN
 apply UInt64.toBitVec_inj.1
 show (n.toBitVec <<< 8) ||| c.toUInt64.toBitVec = n.toBitVec * 256#64 + c.toUInt64.toBitVec
 have hc : c.toUInt64.toBitVec = c.toBitVec.setWidth 64 := by
  apply BitVec.eq_of_toNat_eq
  have := c.toNat_lt
  show c.toUInt64.toNat = _
  rw [UInt8.toNat_toUInt64, BitVec.toNat_setWidth]
  show c.toNat = c.toNat % _
  rw [Nat.mod_eq_of_lt (by omega)]
 have hm : n.toBitVec * 256#64 = n.toBitVec <<< 8 := by
  apply BitVec.eq_of_toNat_eq
  rw [BitVec.toNat_mul, BitVec.toNat_shiftLeft, Nat.shiftLeft_eq]
  rfl
 rw [hm, hc]
 refine (BitVec.add_eq_or_of_and_eq_zero _ _ ?_).symm
 ext i hi
 rw [BitVec.getElem_and, BitVec.getElem_shiftLeft, BitVec.getElem_setWidth]
 by_cases h : i < 8
 ·simp [h]
 ·simp [h, BitVec.getLsbD_of_ge _ _ (show 8 ≤ i by omega)]
theorem num_loop {b : List UInt8} {fl : UInt8} (hb : b.length < 9223372036854775807) : ∀ (m j k : Nat) (n : UInt64), m + j = 8 → k ≤ b.length →
  ∃ at' : Int, loopO g_code_read_i0_l0 (n, (j : Int), (k : Int), b, fl) = some (if k + m ≤ b.length then .inr (((restB9 b fl k).take m).foldl stepN n, ((k + m : Nat) : Int), b, fl) else .inl (GValue.zero, 4, at', b, fl)) := by
 intro m
 induction m with
 | zero =>
  intro j k n hj hk
  refine ⟨0, ?_⟩
  rw [if_pos (by omega), loopO_done]
  unfold g_code_read_i0_l0
  dsimp only
  rw [if_neg (by omega)]
  rfl
 | succ m ih =>
  intro j k n hj hk
  by_cases h : k < b.length
  ·obtain ⟨a', hi⟩ := ih (j + 1) (k + 1) (stepN n (lrd b k ^^^ fl)) (by omega) (by omega)
   refine ⟨a', ?_⟩
   have hx := next_eq (fl := fl) hb hk
   rw [rest_step h] at hx ⊢
   dsimp only at hx
   rw [loopO_next (b := (stepN n (lrd b k ^^^ fl), ((j + 1 : Nat) : Int), ((k + 1 : Nat) : Int), b, fl)), hi, List.take_succ_cons, List.foldl_cons, show k + 1 + m = k + (m + 1) by omega]
   unfold g_code_read_i0_l0
   dsimp only
   rw [if_pos (by omega), hx, Option.bind_some]
   dsimp only
   rw [if_neg (by decide), w64_succ (by omega), byte_or]
  ·refine ⟨(k : Int), ?_⟩
   have hx := next_eq (fl := fl) hb hk
   rw [rest_end (show b.length ≤ k by omega)] at hx
   dsimp only at hx
   rw [if_neg (by omega), loopO_done]
   unfold g_code_read_i0_l0
   dsimp only
   rw [if_pos (by omega), hx, Option.bind_some]
   dsimp only
   rw [if_pos (by decide)]
theorem number_eq {s : List UInt8} (hs : s.length < 9223372036854775807) : g_ref_number s = some (s.foldl stepN 0) := by
 unfold g_ref_number
 have := loopO_fold (step := g_ref_number_l0 s) s (fun k n => (n, (k : Int))) stepN id (fun _ _ => True) (fun k n hk _ => ⟨by
  unfold g_ref_number_l0
  dsimp only
  rw [if_pos (natLt hk), if_pos (natIn hk), w64_succ (by omega), Int.toNat_natCast]
  rfl, trivial⟩) (fun n _ => by
  unfold g_ref_number_l0
  dsimp only
  rw [if_neg natNlt]
  rfl) (s := 0) trivial
 rw [show ((0 : Int)) = ((0 : Nat) : Int) from rfl, this]
 rfl
end Go.Proofs.YtfekkhinjdmcbaaDoor.VM

/- Words and rules that the proof uses. -/
namespace Go.Proofs.YtfekkhinjdmcbaaDoor.VM
open Go Go.RowKit
theorem top_xor (n : UInt64) : n ^^^ (9223372036854775808 : UInt64) = n - (9223372036854775808 : UInt64) := by
 apply UInt64.toBitVec_inj.1
 show n.toBitVec ^^^ 9223372036854775808#64 = n.toBitVec - 9223372036854775808#64
 generalize n.toBitVec = x
 have hT : -(9223372036854775808#64) = 9223372036854775808#64 := by decide
 rw [BitVec.sub_eq_add_neg, hT]
 apply BitVec.eq_of_getLsbD_eq
 intro i hi
 rw [BitVec.getLsbD_xor, BitVec.getLsbD_add hi]
 have hc : BitVec.carry i x 9223372036854775808#64 false = false := by
  unfold BitVec.carry
  have h0 : (9223372036854775808#64).toNat % 2 ^ i = 0 := by
   show 2 ^ 63 % 2 ^ i = 0
   exact Nat.mod_eq_zero_of_dvd (Nat.pow_dvd_pow 2 (by omega))
  have := Nat.mod_lt x.toNat (Nat.pow_pos (n := i) (show 0 < 2 by decide))
  rw [h0]
  simp
  omega
 rw [hc, Bool.xor_false]
theorem top_lt (n : UInt64) : (n &&& (9223372036854775808 : UInt64) ≠ 0) ↔ ¬ n < (9223372036854775808 : UInt64) := by
 rw [UInt64.lt_iff_toNat_lt]
 have h1 : n &&& (9223372036854775808 : UInt64) = if 9223372036854775808 ≤ n.toNat then 9223372036854775808 else 0 := by
  apply UInt64.toBitVec_inj.1
  show n.toBitVec &&& BitVec.twoPow 64 63 = _
  rw [BitVec.and_twoPow]
  have h2 : n.toBitVec.getLsbD 63 = decide (9223372036854775808 ≤ n.toNat) := by
   have := BitVec.msb_eq_decide n.toBitVec
   rw [BitVec.msb_eq_getLsbD_last] at this
   exact this
  rw [h2]
  by_cases h : 9223372036854775808 ≤ n.toNat
  ·rw [if_pos (decide_eq_true h), if_pos h]; rfl
  ·rw [if_neg (by rw [decide_eq_false h]; decide), if_neg h]; rfl
 rw [h1]
 show _ ↔ ¬ n.toNat < 9223372036854775808
 by_cases h : 9223372036854775808 ≤ n.toNat
 ·rw [if_pos h]
  exact ⟨fun _ => by omega, fun _ => by decide⟩
 ·rw [if_neg h]
  exact ⟨fun q => absurd rfl q, fun q => absurd (by omega) q⟩
theorem top_off {n : UInt64} (h : n &&& (9223372036854775808 : UInt64) ≠ 0) : n &&& (~~~ (9223372036854775808 : UInt64)) = n - (9223372036854775808 : UInt64) := by
 rw [← top_xor]
 have h3 := (top_lt n).1 h
 rw [UInt64.lt_iff_toNat_lt] at h3
 have h2 : n.toBitVec.getLsbD 63 = true := by
  have := BitVec.msb_eq_decide n.toBitVec
  rw [BitVec.msb_eq_getLsbD_last] at this
  rw [this]
  refine decide_eq_true ?_
  have h4 : ¬ n.toBitVec.toNat < 9223372036854775808 := h3
  show 9223372036854775808 ≤ n.toBitVec.toNat
  omega
 apply UInt64.toBitVec_inj.1
 show n.toBitVec &&& ~~~ (BitVec.twoPow 64 63) = n.toBitVec ^^^ (BitVec.twoPow 64 63)
 revert h2
 generalize n.toBitVec = x
 intro h2
 apply BitVec.eq_of_getLsbD_eq
 intro i hi
 rw [BitVec.getLsbD_and, BitVec.getLsbD_not, BitVec.getLsbD_xor, BitVec.getLsbD_twoPow]
 by_cases h : i = 63
 ·subst h
  rw [h2]
  decide
 ·simp [hi, Ne.symm h]
theorem back_eq (n : UInt64) : g_code_back n = some (if n < (9223372036854775808 : UInt64) then ~~~ n else n - (9223372036854775808 : UInt64)) := by
 unfold g_code_back
 by_cases h : n &&& (9223372036854775808 : UInt64) ≠ 0
 ·rw [if_pos h, if_neg ((top_lt n).1 h), top_off h]
 ·rw [if_neg h, if_pos (Classical.byContradiction fun q => h ((top_lt n).2 q))]
theorem stepN_one (d : UInt8) : [d].foldl stepN 0 = d.toUInt64 := by
 show (0 : UInt64) * 256 + d.toUInt64 = _
 simp
theorem fault_null : g_ref_ValueFault { GValue.zero with Kind := (0 : Int) } = some 0 := by
 unfold g_ref_ValueFault
 simp [GValue.zero, valid_nil]
theorem check_text {t : List UInt8} (hl : t.length ≤ 40) (hv : g_utf8_ValidString t = some true) : g_value_Check { { GValue.zero with Kind := (4 : Int) } with Text := t } = some 0 := by
 unfold g_value_Check
 simp [GValue.zero, hv, letO_eq]
 omega
def SameV (b : List UInt8) (fl : UInt8) (k : Nat) (R : Int ⊕ (GValue × Nat)) : Prop :=
 (∀ e, R = .inl e → e ≠ 0) ∧ (∀ v p, R = .inr (v, p) → k + p ≤ b.length) ∧
 (∃ at' : Int, g_code_read_i0 (k : Int) b fl = some (match R with | .inl e => (GValue.zero, e, at', b, fl) | .inr r => (r.1, 0, ((k + r.2 : Nat) : Int), b, fl))) ∧
 g_ref_valueOf (restB9 b fl k) = some (match R with | .inl e => (GValue.zero, 0, e) | .inr r => (r.1, (r.2 : Int), 0))
theorem lrd5 (κ : Int) (h : 0 ≤ κ ∧ κ ≤ 4) : (0 : Int) ≤ κ ∧ κ < (([(0 : Int), (1 : Int), (8 : Int), (8 : Int), (0 : Int)] : List Int).length : Int) := by
 refine ⟨h.1, ?_⟩
 show κ < 5
 omega
theorem read_eq {b : List UInt8} {fl : UInt8} {k : Nat} (hb : b.length < 9223372036854775000) (hk : k ≤ b.length) : ∃ R, SameV b fl k R := by
 have hx := next_eq (fl := fl) (show b.length < 9223372036854775807 by omega) hk
 by_cases h : k < b.length
 ·rw [rest_step h] at hx
  dsimp only at hx
  have hlen : (restB9 b fl (k + 1)).length = b.length - (k + 1) := rest_len b fl (k + 1)
  have hr := rest_step (fl := fl) h
  generalize lrd b k ^^^ fl = c at hx hr
  have hc : c.toNat < 256 := c.toNat_lt
  obtain ⟨κ, hκ⟩ : ∃ κ : Int, κ = (c.toNat : Int) - 1 := ⟨_, rfl⟩
  have hw : w64 ((c.toNat : Int) - 1) = κ := by rw [w64_id (by omega), hκ]
  unfold SameV
  rw [hr]
  obtain ⟨l, hl⟩ : ∃ l, l = restB9 b fl (k + 1) := ⟨_, rfl⟩
  rw [← hl] at hlen ⊢
  have hll : (c :: l).length = b.length - k := by rw [List.length_cons]; omega
  unfold g_code_read_i0 g_ref_valueOf
  rw [hx, Option.bind_some, if_neg (List.cons_ne_nil _ _), if_pos (show 0 < (c :: l).length by omega), lrd_cons_zero]
  dsimp only
  rw [if_neg (by decide)]
  simp only [letO_eq, hw]
  by_cases hbad : κ < 0 ∨ κ > 4
  ·refine ⟨.inl 3, (fun e he => by cases he; decide), (fun v p he => by cases he), ⟨((k + 1 : Nat) : Int), ?_⟩, ?_⟩
   ·rw [if_neg (by omega), if_neg (by omega), if_neg (by omega), decide_eq_false (show ¬ κ = 3 by omega), Option.bind_some, if_neg (by decide), if_neg (by omega)]
    rfl
   ·rw [if_pos hbad]
  ·rw [if_neg hbad]
   have hk5 : κ = 0 ∨ κ = 1 ∨ κ = 2 ∨ κ = 3 ∨ κ = 4 := by omega
   rcases hk5 with h5 | h5 | h5 | h5 | h5
   ·rw [h5]
    refine ⟨.inr ({ GValue.zero with Kind := (0 : Int) }, 1), (fun e he => by cases he), (fun v p he => by cases he; omega), ⟨0, ?_⟩, ?_⟩
    ·rw [if_pos rfl]
     rfl
    ·rw [if_neg (by decide), if_pos (lrd5 0 (by decide))]
     rw [show w64 ((1 : Int) + lrd ([(0 : Int), (1 : Int), (8 : Int), (8 : Int), (0 : Int)] : List Int) ((0 : Int).toNat)) = 1 from by decide]
     rw [if_neg (by omega), if_pos (by omega), show cut (c :: l) (1 : Int) 1 = [] from rfl, number_eq (by decide), Option.bind_some, if_neg (by decide), if_neg (by decide), if_neg (by decide), Option.bind_some, fault_null, Option.bind_some, if_neg (by decide)]
     rfl
   ·rw [h5]
    cases l with
    | nil =>
     have hx2 := next_eq (fl := fl) (k := k + 1) (show b.length < 9223372036854775807 by omega) (by omega)
     rw [← hl] at hx2
     dsimp only at hx2
     refine ⟨.inl 4, (fun e he => by cases he; decide), (fun v p he => by cases he), ⟨((k + 1 : Nat) : Int), ?_⟩, ?_⟩
     ·rw [if_neg (by decide), if_pos rfl, hx2, Option.bind_some]
      dsimp only
      rw [if_pos (by decide)]
      rfl
     ·rw [if_neg (by decide), if_pos (lrd5 1 (by decide))]
      rw [show w64 ((1 : Int) + lrd ([(0 : Int), (1 : Int), (8 : Int), (8 : Int), (0 : Int)] : List Int) ((1 : Int).toNat)) = 2 from by decide]
      rw [if_pos (by rw [List.length_singleton]; decide)]
    | cons d l =>
     have hx2 := next_eq (fl := fl) (k := k + 1) (show b.length < 9223372036854775807 by omega) (by omega)
     rw [← hl] at hx2
     dsimp only at hx2
     have hd : d.toNat < 256 := d.toNat_lt
     rw [List.length_cons] at hlen
     obtain ⟨e, he1, he2, _⟩ := check_eq { { GValue.zero with Kind := (1 : Int) } with Int_ := (d.toNat : Int) } (by unfold okI; dsimp only; omega)
     refine ⟨if e = 0 then .inr ({ { GValue.zero with Kind := (1 : Int) } with Int_ := (d.toNat : Int) }, 2) else .inl 3, ?_, ?_, ⟨((k + 2 : Nat) : Int), ?_⟩, ?_⟩
     ·intro e' h'
      split at h'
      ·cases h'
      ·cases h'; decide
     ·intro v p h'
      split at h'
      ·cases h'; omega
      ·cases h'
     ·rw [if_neg (by decide), if_pos rfl, hx2, Option.bind_some]
      dsimp only
      rw [if_neg (by decide)]
      simp only [Option.bind_some]
      rw [he1, Option.bind_some]
      by_cases h0 : e = 0
      ·rw [if_neg (fun q => q h0), if_pos h0]
       rfl
      ·rw [if_pos h0, if_neg h0]
     ·rw [if_neg (by decide), if_pos (lrd5 1 (by decide))]
      rw [show w64 ((1 : Int) + lrd ([(0 : Int), (1 : Int), (8 : Int), (8 : Int), (0 : Int)] : List Int) ((1 : Int).toNat)) = 2 from by decide]
      rw [if_neg (by rw [hll]; omega), if_pos (by rw [hll]; omega), show cut (c :: d :: l) (1 : Int) 2 = [d] from rfl, number_eq (show ([d] : List UInt8).length < 9223372036854775807 by rw [List.length_singleton]; decide), Option.bind_some, if_pos rfl, Option.bind_some, stepN_one]
      rw [UInt8.toNat_toUInt64, w64_id (by omega), he2, Option.bind_some]
      by_cases h0 : e = 0
      ·rw [if_neg (fun q => q h0), if_pos h0]
       rfl
      ·rw [if_pos h0, if_neg h0]
   ·rw [h5]
    obtain ⟨a', hn⟩ := num_loop (fl := fl) (show b.length < 9223372036854775807 by omega) 8 0 (k + 1) 0 rfl (by omega)
    rw [← hl] at hn
    have hcut : cut (c :: l) (1 : Int) 9 = l.take 8 := rfl
    by_cases h8 : k + 1 + 8 ≤ b.length
    ·rw [if_pos h8] at hn
     obtain ⟨N, hN⟩ : ∃ N, N = (l.take 8).foldl stepN 0 := ⟨_, rfl⟩
     rw [← hN] at hn
     have hk64 : -9223372036854775808 ≤ w64 ((N - (9223372036854775808 : UInt64)).toNat : Int) ∧ w64 ((N - (9223372036854775808 : UInt64)).toNat : Int) ≤ 9223372036854775807 := by
      have := (N - (9223372036854775808 : UInt64)).toNat_lt
      unfold w64 IntKind.wrap
      have e1 : (2 ^ IntKind.i64.bits : Int) = 18446744073709551616 := by decide
      have e2 : (2 ^ (IntKind.i64.bits - 1) : Int) = 9223372036854775808 := by decide
      have e3 : IntKind.i64.signed = true := rfl
      rw [e1, e2, e3]
      simp only [Bool.true_and, decide_eq_true_eq]
      split <;> omega
     obtain ⟨e, he1, he2, _⟩ := check_eq { { GValue.zero with Kind := (2 : Int) } with Int_ := w64 ((N - (9223372036854775808 : UInt64)).toNat  : Int) } (by unfold okI; exact hk64)
     refine ⟨if e = 0 then .inr ({ { GValue.zero with Kind := (2 : Int) } with Int_ := w64 ((N - (9223372036854775808 : UInt64)).toNat : Int) }, 9) else .inl 3, ?_, ?_, ⟨((k + 1 + 8 : Nat) : Int), ?_⟩, ?_⟩
     ·intro e' h'
      split at h'
      ·cases h'
      ·cases h'; decide
     ·intro v p h'
      split at h'
      ·cases h'; omega
      ·cases h'
     ·rw [if_neg (by decide), if_neg (by decide), if_pos rfl, Option.bind_some, if_pos (by decide), show ((0 : Int)) = ((0 : Nat) : Int) from rfl, hn, Option.bind_some]
      dsimp only
      rw [if_pos rfl]
      simp only [Option.bind_some]
      rw [top_xor, show (((0 : Nat) : Int)) = (0 : Int) from rfl, he1, Option.bind_some]
      by_cases h0 : e = 0
      ·rw [if_neg (fun q => q h0), if_pos h0]
       rfl
      ·rw [if_pos h0, if_neg h0]
     ·rw [if_neg (by decide), if_pos (lrd5 2 (by decide))]
      rw [show w64 ((1 : Int) + lrd ([(0 : Int), (1 : Int), (8 : Int), (8 : Int), (0 : Int)] : List Int) ((2 : Int).toNat)) = 9 from by decide]
      rw [if_neg (by rw [hll]; omega), if_pos (by rw [hll]; omega), hcut, number_eq (by rw [List.length_take]; omega), Option.bind_some, ← hN, if_neg (by decide), if_pos rfl, Option.bind_some, he2, Option.bind_some]
      by_cases h0 : e = 0
      ·rw [if_neg (fun q => q h0), if_pos h0]
       rfl
      ·rw [if_pos h0, if_neg h0]
    ·rw [if_neg h8] at hn
     refine ⟨.inl 4, (fun e he => by cases he; decide), (fun v p he => by cases he), ⟨a', ?_⟩, ?_⟩
     ·rw [if_neg (by decide), if_neg (by decide), if_pos rfl, Option.bind_some, if_pos (by decide), show ((0 : Int)) = ((0 : Nat) : Int) from rfl, hn, Option.bind_some]
      rfl
     ·rw [if_neg (by decide), if_pos (lrd5 2 (by decide))]
      rw [show w64 ((1 : Int) + lrd ([(0 : Int), (1 : Int), (8 : Int), (8 : Int), (0 : Int)] : List Int) ((2 : Int).toNat)) = 9 from by decide]
      rw [if_pos (by rw [hll]; omega)]
   ·rw [h5]
    obtain ⟨a', hn⟩ := num_loop (fl := fl) (show b.length < 9223372036854775807 by omega) 8 0 (k + 1) 0 rfl (by omega)
    rw [← hl] at hn
    have hcut : cut (c :: l) (1 : Int) 9 = l.take 8 := rfl
    by_cases h8 : k + 1 + 8 ≤ b.length
    ·rw [if_pos h8] at hn
     obtain ⟨N, hN⟩ : ∃ N, N = (l.take 8).foldl stepN 0 := ⟨_, rfl⟩
     rw [← hN] at hn
     obtain ⟨X, hX⟩ : ∃ X, X = if N < (9223372036854775808 : UInt64) then ~~~ N else N - (9223372036854775808 : UInt64) := ⟨_, rfl⟩
     obtain ⟨e, he1, he2, _⟩ := check_eq { { GValue.zero with Kind := (3 : Int) } with Bits := X } (by unfold okI; show (-9223372036854775808 : Int) ≤ 0 ∧ (0 : Int) ≤ 9223372036854775807; decide)
     refine ⟨if e = 0 then .inr ({ { GValue.zero with Kind := (3 : Int) } with Bits := X }, 9) else .inl 3, ?_, ?_, ⟨((k + 1 + 8 : Nat) : Int), ?_⟩, ?_⟩
     ·intro e' h'
      split at h'
      ·cases h'
      ·cases h'; decide
     ·intro v p h'
      split at h'
      ·cases h'; omega
      ·cases h'
     ·rw [if_neg (by decide), if_neg (by decide), if_neg (by decide), Option.bind_some, if_pos (by decide), show ((0 : Int)) = ((0 : Nat) : Int) from rfl, hn, Option.bind_some]
      dsimp only
      rw [if_neg (by decide), back_eq, ← hX]
      simp only [Option.bind_some]
      rw [show (((0 : Nat) : Int)) = (0 : Int) from rfl, he1, Option.bind_some]
      by_cases h0 : e = 0
      ·rw [if_neg (fun q => q h0), if_pos h0]
       rfl
      ·rw [if_pos h0, if_neg h0]
     ·rw [if_neg (by decide), if_pos (lrd5 3 (by decide))]
      rw [show w64 ((1 : Int) + lrd ([(0 : Int), (1 : Int), (8 : Int), (8 : Int), (0 : Int)] : List Int) ((3 : Int).toNat)) = 9 from by decide]
      rw [if_neg (by rw [hll]; omega), if_pos (by rw [hll]; omega), hcut, number_eq (by rw [List.length_take]; omega), Option.bind_some, ← hN, if_neg (by decide), if_neg (by decide), if_pos rfl]
      have : (if N < (9223372036854775808 : UInt64) then some { { { GValue.zero with Kind := (3 : Int) } with Bits := N - (9223372036854775808 : UInt64) } with Bits := ~~~ N } else some { { GValue.zero with Kind := (3 : Int) } with Bits := N - (9223372036854775808 : UInt64) }) = some { { GValue.zero with Kind := (3 : Int) } with Bits := X } := by
       rw [hX]
       split <;> rfl
      rw [this, Option.bind_some, he2, Option.bind_some]
      by_cases h0 : e = 0
      ·rw [if_neg (fun q => q h0), if_pos h0]
       rfl
      ·rw [if_pos h0, if_neg h0]
    ·rw [if_neg h8] at hn
     refine ⟨.inl 4, (fun e he => by cases he; decide), (fun v p he => by cases he), ⟨a', ?_⟩, ?_⟩
     ·rw [if_neg (by decide), if_neg (by decide), if_neg (by decide), Option.bind_some, if_pos (by decide), show ((0 : Int)) = ((0 : Nat) : Int) from rfl, hn, Option.bind_some]
      rfl
     ·rw [if_neg (by decide), if_pos (lrd5 3 (by decide))]
      rw [show w64 ((1 : Int) + lrd ([(0 : Int), (1 : Int), (8 : Int), (8 : Int), (0 : Int)] : List Int) ((3 : Int).toNat)) = 9 from by decide]
      rw [if_pos (by rw [hll]; omega)]
   ·rw [h5]
    obtain ⟨a', hp⟩ := text_prog (fl := fl) (show b.length < 9223372036854775807 by omega) (show k + 1 ≤ b.length by omega)
    rw [← hl] at hp
    have hcut : cut (c :: l) (1 : Int) ((c :: l).length : Int) = l := by
     show l.take (((c :: l).length : Int).toNat - 1) = l
     rw [Int.toNat_natCast, List.length_cons, Nat.add_sub_cancel, List.take_length]
    have ht := text_ref (s := l) (by omega)
    rcases txtR_fact l.length l [] 0 (Nat.le_refl _) (by decide) with ⟨e, h1, h2⟩ | ⟨t, p, h1, h2, h3, h4⟩
    ·rw [h1] at hp ht
     dsimp only at hp ht
     refine ⟨.inl e, (fun e' he => by cases he; omega), (fun v p he => by cases he), ⟨a', ?_⟩, ?_⟩
     ·rw [if_neg (by decide), if_neg (by decide), if_neg (by decide), decide_eq_false (by decide), Option.bind_some, if_neg (by decide), if_pos rfl, hp, Option.bind_some]
      dsimp only
      rw [if_pos (by omega)]
      rfl
     ·rw [if_pos rfl, if_pos (by omega), hcut, ht, Option.bind_some]
    ·rw [h1] at hp ht
     dsimp only at hp ht
     by_cases hv : g_utf8_ValidString t = some true
     ·rw [if_pos hv] at hp ht
      refine ⟨.inr ({ { GValue.zero with Kind := (4 : Int) } with Text := t }, p + 1), (fun e' he => by cases he), (fun v p he => by cases he; omega), ⟨0, ?_⟩, ?_⟩
      ·rw [if_neg (by decide), if_neg (by decide), if_neg (by decide), decide_eq_false (by decide), Option.bind_some, if_neg (by decide), if_pos rfl, hp, Option.bind_some]
       dsimp only
       rw [if_neg (by decide)]
       simp only [Option.bind_some]
       rw [check_text h2 hv, Option.bind_some, if_neg (by decide), show k + 1 + p = k + (p + 1) by omega]
      ·rw [if_pos rfl, if_pos (by omega), hcut, ht, Option.bind_some]
     ·rw [if_neg hv] at hp ht
      refine ⟨.inl 3, (fun e' he => by cases he; decide), (fun v p he => by cases he), ⟨((k + 1 + p : Nat) : Int), ?_⟩, ?_⟩
      ·rw [if_neg (by decide), if_neg (by decide), if_neg (by decide), decide_eq_false (by decide), Option.bind_some, if_neg (by decide), if_pos rfl, hp, Option.bind_some]
       dsimp only
       rw [if_pos (by decide)]
       rfl
      ·rw [if_pos rfl, if_pos (by omega), hcut, ht, Option.bind_some]
 ·refine ⟨.inl 4, (fun e he => by cases he; decide), (fun v p he => by cases he), ⟨(k : Int), ?_⟩, ?_⟩
  ·rw [rest_end (by omega)] at hx
   dsimp only at hx
   unfold g_code_read_i0
   rw [hx, Option.bind_some]
   dsimp only
   rw [if_pos (by decide)]
  ·rw [rest_end (by omega)]
   unfold g_ref_valueOf
   rw [if_pos rfl]
end Go.Proofs.YtfekkhinjdmcbaaDoor.VM

