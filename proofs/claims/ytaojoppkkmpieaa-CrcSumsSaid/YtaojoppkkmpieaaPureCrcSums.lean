/- The law CrcSums answers true at every list of bytes: sum.Crc and the reference's Checked agree. No condition. -/
import Derived.Test.YtaojoppkkmpieaaPCrcSumsx1
namespace Go.Proofs.Ytaojoppkkmpieaa.Pure
open Go.RowKit Go.Proofs.Ytaojoppkkmpieaa.PCrcSums Go.Proofs.YtaojoppkkmpieaaW.PrintWords Go.Proofs.YtaojoppkkmpieaaW.PrintLast

def crcP : Nat := 2197175160
def stepP (c : Nat) : Nat := if c % 2 = 1 then (c / 2) ^^^ crcP else c / 2
def stepR (x i l : Nat) : Nat := (l / 2) ^^^ (((l ^^^ (x >>> i)) % 2) * crcP)
def iterP : Nat → Nat → Nat
  | 0, c => c
  | m + 1, c => iterP m (stepP c)
def iterR (x : Nat) : Nat → Nat → Nat → Nat
  | _, 0, l => l
  | i, m + 1, l => iterR x (i + 1) m (stepR x i l)

theorem half_xor (a b : Nat) : (a ^^^ b) / 2 = (a / 2) ^^^ (b / 2) := by
  have h : ∀ n : Nat, n / 2 = n >>> 1 := fun n => by rw [Nat.shiftRight_eq_div_pow]
  rw [h, h, h, Nat.shiftRight_xor_distrib]

theorem shift_half (x i : Nat) : (x >>> i) / 2 = x >>> (i + 1) := by
  rw [Nat.shiftRight_succ]

theorem step_same (x i l : Nat) : stepP (l ^^^ (x >>> i)) = stepR x i l ^^^ (x >>> (i + 1)) := by
  unfold stepP stepR
  have h2 : (l ^^^ (x >>> i)) % 2 = 0 ∨ (l ^^^ (x >>> i)) % 2 = 1 := by omega
  rw [half_xor, shift_half]
  rcases h2 with h | h
  · rw [h, if_neg (by omega), Nat.zero_mul, Nat.xor_zero]
  · rw [h, if_pos rfl, Nat.one_mul, Nat.xor_assoc, Nat.xor_assoc, Nat.xor_comm crcP]

theorem iter_same (x : Nat) (m : Nat) : ∀ (i l : Nat), iterP m (l ^^^ (x >>> i)) = iterR x i m l ^^^ (x >>> (i + m)) := by
  induction m with
  | zero => intro i l; rfl
  | succ m ih =>
    intro i l
    unfold iterP iterR
    rw [step_same, ih, show i + 1 + m = i + (m + 1) from by omega]

theorem iter_eight (x : Nat) (hx : x < 256) (l : Nat) : iterP 8 (l ^^^ x) = iterR x 0 8 l := by
  have h := iter_same x 8 0 l
  rw [Nat.shiftRight_zero] at h
  rw [h, show x >>> (0 + 8) = 0 from by rw [Nat.zero_add, Nat.shiftRight_eq_div_pow]; omega, Nat.xor_zero]

theorem xor_lt (a b : Nat) (ha : a < 4294967296) (hb : b < 4294967296) : a ^^^ b < 4294967296 :=
  Nat.xor_lt_two_pow (n := 32) (by omega) (by omega)

theorem stepP_lt (c : Nat) (hc : c < 4294967296) : stepP c < 4294967296 := by
  unfold stepP
  split
  · exact xor_lt _ _ (by omega) (by decide)
  · omega

theorem iterP_lt (m : Nat) : ∀ (c : Nat), c < 4294967296 → iterP m c < 4294967296 := by
  induction m with
  | zero => intro c h; exact h
  | succ m ih => intro c h; exact ih _ (stepP_lt c h)

theorem wrap_small (i : Nat) (h : i < 1000) : wrap64 ((i : Int) + 1) = ((i + 1 : Nat) : Int) := by
  unfold wrap64; omega

theorem and_one (c : Nat) (hc : c < 4294967296) : Go.bits .and .u32 (c : Int) 1 = ((c % 2 : Nat) : Int) := by
  have h := u32_and_nat c 1 hc (by decide)
  rw [Nat.and_one_is_mod] at h
  exact h

theorem prog_inner (m : Nat) : ∀ (i c : Nat) (k : Nat) (xs : List Int) (n j : Int), i + m = 8 → c < 4294967296 →
    sum_Crc.l1 (k + 1 + m) (c : Int) xs n j (i : Int) = sum_Crc.l0 k ((iterP m c : Nat) : Int) xs n (wrap64 (j + 1)) := by
  induction m with
  | zero =>
    intro i c k xs n j hi hc
    obtain rfl : i = 8 := by omega
    simp only [sum_Crc.l1]
    rw [if_neg (by omega)]
    rfl
  | succ m ih =>
    intro i c k xs n j hi hc
    have e : k + 1 + (m + 1) = (k + 1 + m) + 1 := by omega
    rw [e]
    simp only [sum_Crc.l1]
    rw [if_pos (by omega), and_one c hc, wrap_small i (by omega)]
    have hd : ((c : Int) / 2) = ((c / 2 : Nat) : Int) := by omega
    rw [hd]
    by_cases h : c % 2 = 1
    · rw [if_pos (by omega)]
      have hx := u32_xor_nat (c / 2) crcP (by omega) (by decide)
      have hx2 : Go.bits .xor .u32 ((c / 2 : Nat) : Int) 2197175160 = ((c / 2 ^^^ crcP : Nat) : Int) := hx
      rw [hx2, ih (i + 1) (c / 2 ^^^ crcP) k xs n j (by omega) (xor_lt _ _ (by omega) (by decide))]
      have hs : stepP c = c / 2 ^^^ crcP := by unfold stepP; rw [if_pos h]
      show _ = sum_Crc.l0 k ((iterP m (stepP c) : Nat) : Int) xs n _
      rw [hs]
    · rw [if_neg (by omega), ih (i + 1) (c / 2) k xs n j (by omega) (by omega)]
      have hs : stepP c = c / 2 := by unfold stepP; rw [if_neg h]
      show _ = sum_Crc.l0 k ((iterP m (stepP c) : Nat) : Int) xs n _
      rw [hs]

theorem shr_is (x i : Nat) (hx : x < 256) (hi : i < 8) : shr .u32 ((x : Int) % 4294967296) (i : Int) = ((x >>> i : Nat) : Int) := by
  unfold shr
  have h1 : ((x : Int) % 4294967296) = (x : Int) := by omega
  have h2 : min (i : Int).toNat IntKind.u32.bits = i := by
    rw [Int.toNat_natCast]
    exact Nat.min_eq_left (by show i ≤ 32; omega)
  rw [h1, h2, Nat.shiftRight_eq_div_pow]
  have h3 : ((2 : Int) ^ i) = ((2 ^ i : Nat) : Int) := by rw [Int.natCast_pow]; rfl
  rw [h3]
  exact (Int.natCast_ediv x (2 ^ i)).symm

theorem stepR_lt (x i l : Nat) (hl : l < 4294967296) : stepR x i l < 4294967296 := by
  unfold stepR
  refine xor_lt _ _ (by omega) ?_
  have h2 : (l ^^^ (x >>> i)) % 2 = 0 ∨ (l ^^^ (x >>> i)) % 2 = 1 := by omega
  rcases h2 with h | h <;> rw [h] <;> decide

theorem ref_inner (x : Nat) (hx : x < 256) (m : Nat) : ∀ (i l : Nat) (k : Nat) (xs : List Int) (n j : Int), i + m = 8 → l < 4294967296 →
    chirographref_Checked.l1 (k + 1 + m) (l : Int) (x : Int) (i : Int) xs n j = chirographref_Checked.l0 k ((iterR x i m l : Nat) : Int) xs n (wrap64 (j + 1)) := by
  induction m with
  | zero =>
    intro i c k xs n j hi hc
    obtain rfl : i = 8 := by omega
    simp only [chirographref_Checked.l1]
    rw [if_neg (by omega)]
    rfl
  | succ m ih =>
    intro i c k xs n j hi hc
    have e : k + 1 + (m + 1) = (k + 1 + m) + 1 := by omega
    rw [e]
    simp only [chirographref_Checked.l1]
    rw [if_pos (by omega), if_pos (by omega), wrap_small i (by omega), shr_is x i hx (by omega)]
    have hsh : x >>> i < 4294967296 := by rw [Nat.shiftRight_eq_div_pow]; exact Nat.lt_of_le_of_lt (Nat.div_le_self _ _) (by omega)
    rw [u32_xor_nat c (x >>> i) hc hsh, and_one _ (xor_lt _ _ hc hsh)]
    have hd : ((c : Int) / 2) = ((c / 2 : Nat) : Int) := by omega
    have hm : ((((c ^^^ x >>> i) % 2 : Nat) : Int) * 2197175160) % 4294967296 = (((c ^^^ x >>> i) % 2 * crcP : Nat) : Int) := by
      have h2 : (c ^^^ (x >>> i)) % 2 = 0 ∨ (c ^^^ (x >>> i)) % 2 = 1 := by omega
      rcases h2 with h | h <;> rw [h] <;> rfl
    have hlt : (c ^^^ x >>> i) % 2 * crcP < 4294967296 := by
      have h2 : (c ^^^ (x >>> i)) % 2 = 0 ∨ (c ^^^ (x >>> i)) % 2 = 1 := by omega
      rcases h2 with h | h <;> rw [h] <;> decide
    rw [hd, hm, u32_xor_nat _ _ (by omega) hlt]
    exact ih (i + 1) (stepR x i c) k xs n j (by omega) (stepR_lt x i c hc)

theorem rd_byte (xs : List Int) (h : ∀ x ∈ xs, (Lit.int .u8 x).wf = true) (j : Nat) (hj : j < xs.length) : ∃ x : Nat, x < 256 ∧ rd xs (j : Int) = (x : Int) := by
  have hm : rd xs (j : Int) ∈ xs := by
    unfold rd
    rw [Int.toNat_natCast, List.getD_eq_getElem?_getD, List.getElem?_eq_getElem hj]
    exact List.getElem_mem hj
  have hw := h _ hm
  have hb : 0 ≤ rd xs (j : Int) ∧ rd xs (j : Int) < 256 := by
    simp [Lit.wf, IntKind.min, IntKind.max, IntKind.signed, IntKind.bits] at hw
    omega
  exact ⟨(rd xs (j : Int)).toNat, by omega, by omega⟩

theorem crc_both (xs : List Int) (h : ∀ x ∈ xs, (Lit.int .u8 x).wf = true) (hl : xs.length ≤ 140737488351232) (d : Nat) : ∀ (j c : Nat), j + d = xs.length → c < 4294967296 →
    ∃ r : Nat, r < 4294967296 ∧ sum_Crc.l0 (10 * d + 1) (c : Int) xs (xs.length : Int) (j : Int) = some (Go.bits .xor .u32 4294967295 (r : Int)) ∧
      chirographref_Checked.l0 (10 * d + 1) (c : Int) xs (xs.length : Int) (j : Int) = some (Go.bits .xor .u32 (r : Int) 4294967295) := by
  induction d with
  | zero =>
    intro j c hj hc
    refine ⟨c, hc, ?_, ?_⟩
    · simp only [Nat.mul_zero, Nat.zero_add, sum_Crc.l0]
      rw [if_neg (by omega)]
    · simp only [Nat.mul_zero, Nat.zero_add, chirographref_Checked.l0]
      rw [if_neg (by omega)]
  | succ d ih =>
    intro j c hj hc
    obtain ⟨x, hx, hr⟩ := rd_byte xs h j (by omega)
    have hxor : c ^^^ x < 4294967296 := xor_lt _ _ hc (by omega)
    obtain ⟨r, h1, h2, h3⟩ := ih (j + 1) (iterP 8 (c ^^^ x)) (by omega) (iterP_lt 8 _ hxor)
    have hw : wrap64 ((j : Int) + 1) = ((j + 1 : Nat) : Int) := by unfold wrap64; omega
    refine ⟨r, h1, ?_, ?_⟩
    · rw [show 10 * (d + 1) + 1 = (10 * d + 1 + 1 + 8) + 1 from by omega]
      simp only [sum_Crc.l0]
      rw [if_pos (by omega), if_pos (by omega), if_pos (by omega), hr, show ((x : Int) % 4294967296) = (x : Int) from by omega, u32_xor_nat c x hc (by omega)]
      have e := prog_inner 8 0 (c ^^^ x) (10 * d + 1) xs (xs.length : Int) (j : Int) rfl hxor
      rw [show ((0 : Nat) : Int) = 0 from rfl] at e
      rw [e, hw]
      exact h2
    · rw [show 10 * (d + 1) + 1 = (10 * d + 1 + 1 + 8) + 1 from by omega]
      simp only [chirographref_Checked.l0]
      rw [if_pos (by omega), if_pos (by omega), if_pos (by omega), hr]
      have e := ref_inner x hx 8 0 c (10 * d + 1) xs (xs.length : Int) (j : Int) rfl hc
      rw [show ((0 : Nat) : Int) = 0 from rfl] at e
      rw [e, hw, ← iter_eight x hx c]
      exact h3

theorem CrcSums : chirographlaw_CrcSums.Pure := by
  intro xs _ hl hw
  obtain ⟨r, h1, h2, h3⟩ := crc_both xs hw (by omega) xs.length 0 4294967295 (by omega) (by decide)
  refine ⟨10 * xs.length + 1, ?_⟩
  unfold chirographlaw_CrcSums.f sum_Crc.f chirographref_Checked.f
  rw [show ((0 : Nat) : Int) = 0 from rfl] at h2 h3
  rw [show ((4294967295 : Nat) : Int) = 4294967295 from rfl] at h2 h3
  rw [h2, h3]
  simp only [Option.bind_some]
  have e1 := u32_xor_nat 4294967295 r (by decide) h1
  have e2 := u32_xor_nat r 4294967295 h1 (by decide)
  rw [show ((4294967295 : Nat) : Int) = 4294967295 from rfl] at e1 e2
  rw [e1, e2, Nat.xor_comm]
  simp

end Go.Proofs.Ytaojoppkkmpieaa.Pure
