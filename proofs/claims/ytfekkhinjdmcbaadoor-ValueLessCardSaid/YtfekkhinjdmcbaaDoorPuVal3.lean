/- Values: their order, and the laws. -/
import Derived.Test.YtfekkhinjdmcbaaDoorPuVal2
namespace Go.Proofs.YtfekkhinjdmcbaaDoor.VM
open Go Go.RowKit
def ris (b : UInt64) : UInt64 := if b < (9223372036854775808 : UInt64) then b + 9223372036854775808 else ~~~ b
theorem risen_eq (b : UInt64) : g_ref_risen b = some (ris b) := by
  unfold g_ref_risen ris
  split <;> rfl
theorem ris_nat (b : UInt64) : (ris b).toNat = if b.toNat < 9223372036854775808 then b.toNat + 9223372036854775808 else 18446744073709551615 - b.toNat := by
  have hb : b.toNat < 18446744073709551616 := b.toNat_lt
  unfold ris
  by_cases h : b.toNat < 9223372036854775808
  · have h1 : b < (9223372036854775808 : UInt64) := UInt64.lt_iff_toNat_lt.2 h
    rw [if_pos h1, if_pos h, UInt64.toNat_add]
    show (b.toNat + 9223372036854775808) % 2 ^ 64 = _
    omega
  · have h1 : ¬ b < (9223372036854775808 : UInt64) := fun q => h (UInt64.lt_iff_toNat_lt.1 q)
    rw [if_neg h1, if_neg h]
    show (~~~ b.toBitVec).toNat = _
    rw [BitVec.toNat_not]
    show 2 ^ 64 - 1 - b.toNat = _
    omega
theorem negF_iff (b : F64) : negF b = true ↔ 9223372036854775808 ≤ b.toNat := ⟨Nat.le_of_ble_eq_true, Nat.ble_eq_true_of_le⟩
theorem ris_lt {a b : UInt64} (ha : ¬ (a = (9223372036854775808 : UInt64) ∨ (18437736874454810624 : UInt64) < shl_u64 a 1)) (hb : ¬ (b = (9223372036854775808 : UInt64) ∨ (18437736874454810624 : UInt64) < shl_u64 b 1)) : (ris a < ris b ↔ skey a < skey b) ∧ rung a ≤ 9218868437227405312 ∧ rung b ≤ 9218868437227405312 := by
  rw [top_iff, bad_iff] at ha hb
  have h1 : a.toNat < 18446744073709551616 := a.toNat_lt
  have h2 : b.toNat < 18446744073709551616 := b.toNat_lt
  refine ⟨?_, by omega, by omega⟩
  rw [UInt64.lt_iff_toNat_lt, ris_nat, ris_nat]
  unfold skey
  have ea : rung a = a.toNat % 9223372036854775808 := rfl
  have eb : rung b = b.toNat % 9223372036854775808 := rfl
  by_cases na : 9223372036854775808 ≤ a.toNat
  · rw [if_pos ((negF_iff a).2 na), if_neg (by omega)]
    by_cases nb : 9223372036854775808 ≤ b.toNat
    · rw [if_pos ((negF_iff b).2 nb), if_neg (by omega)]
      omega
    · rw [if_neg (fun q => nb ((negF_iff b).1 q)), if_pos (by omega)]
      omega
  · rw [if_neg (fun q => na ((negF_iff a).1 q)), if_pos (by omega)]
    by_cases nb : 9223372036854775808 ≤ b.toNat
    · rw [if_pos ((negF_iff b).2 nb), if_neg (by omega)]
      omega
    · rw [if_neg (fun q => nb ((negF_iff b).1 q)), if_pos (by omega)]
      omega
theorem flt_eq {a b : F64} (ha : rung a ≤ 9218868437227405312) (hb : rung b ≤ 9218868437227405312) : flt a b = decide (skey a < skey b) := by
  unfold flt
  rw [ford_eq ha hb]
  by_cases h : skey a < skey b
  · rw [cmp_lt.2 h, decide_eq_true h]; rfl
  · rw [decide_eq_false h]
    have : compare (skey a) (skey b) ≠ .lt := fun q => h (cmp_lt.1 q)
    revert this
    cases compare (skey a) (skey b) <;> simp
theorem fgt_eq {a b : F64} (ha : rung a ≤ 9218868437227405312) (hb : rung b ≤ 9218868437227405312) : fgt a b = decide (skey b < skey a) := by
  unfold fgt
  rw [ford_eq ha hb]
  by_cases h : skey b < skey a
  · rw [cmp_gt.2 h, decide_eq_true h]; rfl
  · rw [decide_eq_false h]
    have : compare (skey a) (skey b) ≠ .gt := fun q => h (cmp_gt.1 q)
    revert this
    cases compare (skey a) (skey b) <;> simp
/-- How two texts stand. -/
def cmpB (a b : List UInt8) : Int := if Op.bytesLess a b = true then -1 else if a = b then 0 else 1
theorem cmpB_pre : ∀ (p x y : List UInt8), cmpB (p ++ x) (p ++ y) = cmpB x y
  | [], x, y => rfl
  | c :: p, x, y => by
    rw [← cmpB_pre p x y]
    unfold cmpB
    simp [Op.bytesLess]
theorem cmpB_diff {c d : UInt8} (x y : List UInt8) (h : c ≠ d) : cmpB (c :: x) (d :: y) = if c < d then -1 else 1 := by
  unfold cmpB
  simp [Op.bytesLess, h]
theorem cmpB_nil_l (x : List UInt8) : cmpB [] x = if x.length = 0 then 0 else -1 := by
  cases x with
  | nil => rfl
  | cons c x => rfl
theorem cmpB_nil_r (x : List UInt8) : cmpB x [] = if x.length = 0 then 0 else 1 := by
  cases x with
  | nil => rfl
  | cons c x => simp [cmpB, Op.bytesLess]
theorem split_at {a : List UInt8} {k : Nat} (h : k < a.length) : a = a.take k ++ lrd a k :: a.drop (k + 1) := by
  conv => lhs; rw [← List.take_append_drop k a, List.drop_eq_getElem_cons h]
  simp [lrd, h]
theorem bytesOrder_eq (a b : List UInt8) (ha : a.length ≤ 140737488355328) (hb : b.length ≤ 140737488355328) : g_ref_bytesOrder a b = some (cmpB a b) := by
  have : ∃ r, loopO (g_ref_bytesOrder_l0 a b) (0 : Int) = some r ∧ ((r = .inl (cmpB a b)) ∨ (r = .inr () ∧ ∃ k, a.take k = b.take k ∧ k ≤ a.length ∧ k ≤ b.length ∧ (k = a.length ∨ k = b.length))) := by
    refine loopO_rule (fun i : Int => ∃ k : Nat, i = (k : Int) ∧ a.take k = b.take k ∧ k ≤ a.length ∧ k ≤ b.length) _ (fun i => a.length - i.toNat) (fun i hi => ?_) ⟨0, rfl, by simp, Nat.zero_le _, Nat.zero_le _⟩
    obtain ⟨k, rfl, h1, h2, h3⟩ := hi
    unfold g_ref_bytesOrder_l0
    dsimp only
    by_cases hc : k < a.length ∧ k < b.length
    · rw [if_pos (by omega), if_pos (by omega), if_pos (by omega), Int.toNat_natCast]
      by_cases hd : lrd a k ≠ lrd b k
      · rw [if_pos hd, if_pos (by omega), if_pos (by omega)]
        have e : cmpB a b = if lrd a k < lrd b k then -1 else 1 := by
          have e0 : cmpB a b = cmpB (a.take k ++ lrd a k :: a.drop (k + 1)) (b.take k ++ lrd b k :: b.drop (k + 1)) := by rw [← split_at hc.1, ← split_at hc.2]
          rw [e0, h1, cmpB_pre, cmpB_diff _ _ hd]
        rw [e]
        by_cases hlt : lrd a k < lrd b k
        · rw [if_pos hlt, if_pos hlt]; exact .inr ⟨_, rfl, .inl rfl⟩
        · rw [if_neg hlt, if_neg hlt]; exact .inr ⟨_, rfl, .inl rfl⟩
      · rw [if_neg hd, w64_succ (by omega)]
        refine .inl ⟨_, rfl, ⟨k + 1, rfl, ?_, by omega, by omega⟩, ?_⟩
        · rw [take_step hc.1, take_step hc.2, h1, Classical.not_not.1 hd]
        · simp only [Int.toNat_natCast]; omega
    · rw [if_neg (by omega)]
      exact .inr ⟨_, rfl, .inr ⟨rfl, k, h1, h2, h3, by omega⟩⟩
  obtain ⟨r, hr, h⟩ := this
  unfold g_ref_bytesOrder
  rw [hr]
  rcases h with rfl | ⟨rfl, k, h1, h2, h3, h4⟩
  · rfl
  · rw [Option.bind_some]
    dsimp only
    unfold g_ref_sign
    rw [w64_id (by omega)]
    rcases h4 with rfl | rfl
    · rw [List.take_length] at h1
      have e : cmpB a b = cmpB [] (b.drop a.length) := by
        conv => lhs; rw [← List.take_append_drop a.length b, ← h1]; lhs; rw [← List.append_nil a]
        exact cmpB_pre a [] _
      rw [e, cmpB_nil_l, List.length_drop]
      by_cases hz : b.length - a.length = 0
      · rw [if_pos hz, if_neg (by omega), if_neg (by omega)]; rfl
      · rw [if_neg hz, if_neg (by omega), if_pos (by omega)]; rfl
    · rw [List.take_length] at h1
      have e : cmpB a b = cmpB (a.drop b.length) [] := by
        conv => lhs; rw [← List.take_append_drop b.length a, h1]; rhs; rw [← List.append_nil b]
        exact cmpB_pre b _ []
      rw [e, cmpB_nil_r, List.length_drop]
      by_cases hz : a.length - b.length = 0
      · rw [if_pos hz, if_neg (by omega), if_neg (by omega)]; rfl
      · rw [if_neg hz, if_pos (by omega)]; rfl
theorem shift_nat {n : Int} (h : okI n) : ((UInt64.ofInt n) + (9223372036854775808 : UInt64)).toNat = (n + 9223372036854775808).toNat := by
  unfold okI at h
  rw [UInt64.toNat_add, u64i]
  show ((n % 18446744073709551616).toNat + 9223372036854775808) % 2 ^ 64 = _
  omega
theorem bitsOrder_eq (a b : UInt64) : g_ref_bitsOrder a b = some (if a < b then -1 else if b < a then 1 else 0) := by
  unfold g_ref_bitsOrder
  split
  · rfl
  · split <;> rfl
theorem order_eq {a b : GValue} (ha : okV1 a) (hb : okV1 b) (ia : okI a.Int_) (ib : okI b.Int_) : ∃ r : Int, g_value_order a b = some r ∧ g_ref_Order a b = some r ∧ -1 ≤ r := by
  obtain ⟨a0, a1, a2, a3⟩ := ha
  obtain ⟨b0, b1, b2, b3⟩ := hb
  unfold g_value_order g_ref_Order
  by_cases hk : a.Kind ≠ b.Kind
  · rw [if_pos hk, if_pos hk, Option.bind_some]
    unfold g_ref_sign
    rw [w64_id (by omega)]
    dsimp only
    by_cases hl : a.Kind < b.Kind
    · rw [if_pos (decide_eq_true hl), if_neg (by omega), if_pos (by omega)]
      exact ⟨-1, rfl, rfl, by decide⟩
    · rw [if_neg (by simpa using hl), if_pos (decide_eq_true (by omega)), if_pos (by omega)]
      exact ⟨1, rfl, rfl, by decide⟩
  · rw [if_neg hk, if_neg hk]
    have hk : a.Kind = b.Kind := Classical.not_not.1 hk
    by_cases h3 : a.Kind = 3
    · rw [if_pos h3, if_pos h3, risen_eq, risen_eq, Option.bind_some, Option.bind_some, Option.bind_some, bitsOrder_eq, Option.bind_some]
      obtain ⟨r1, r2, r3⟩ := ris_lt (a3 h3) (b3 (by omega))
      obtain ⟨r4, _, _⟩ := ris_lt (b3 (by omega)) (a3 h3)
      dsimp only
      rw [flt_eq r2 r3, fgt_eq r2 r3]
      by_cases hl : skey a.Bits < skey b.Bits
      · rw [if_pos (decide_eq_true hl), if_pos (r1.2 hl)]
        exact ⟨-1, rfl, rfl, by decide⟩
      · rw [if_neg (by simpa using hl), if_neg (fun q => hl (r1.1 q))]
        by_cases hg : skey b.Bits < skey a.Bits
        · rw [if_pos (decide_eq_true hg), if_pos (r4.2 hg)]
          exact ⟨1, rfl, rfl, by decide⟩
        · rw [if_neg (by simpa using hg), if_neg (fun q => hg (r4.1 q))]
          exact ⟨0, rfl, rfl, by decide⟩
    · rw [if_neg h3, if_neg h3]
      by_cases h4 : a.Kind = 4
      · rw [if_pos h4, if_pos h4, bytesOrder_eq _ _ (by omega) (by omega), Option.bind_some, Option.bind_some]
        dsimp only
        unfold cmpB
        by_cases hl : Op.bytesLess a.Text b.Text = true
        · rw [if_pos hl, if_pos hl]
          exact ⟨-1, rfl, rfl, by decide⟩
        · rw [if_neg hl, if_neg hl]
          have hl : Op.bytesLess a.Text b.Text = false := by simpa using hl
          rw [hl]
          by_cases he : a.Text = b.Text
          · rw [if_pos he, if_neg (by simp [he])]
            exact ⟨0, rfl, rfl, by decide⟩
          · rw [if_neg he, if_pos (by simp [he])]
            exact ⟨1, rfl, rfl, by decide⟩
      · rw [if_neg h4, if_neg h4, bitsOrder_eq, Option.bind_some, Option.bind_some]
        dsimp only
        unfold okI at ia ib
        have e1 := shift_nat ia
        have e2 := shift_nat ib
        by_cases hl : a.Int_ < b.Int_
        · rw [if_pos (decide_eq_true hl), if_pos (UInt64.lt_iff_toNat_lt.2 (by omega))]
          exact ⟨-1, rfl, rfl, by decide⟩
        · have nl : ¬ (UInt64.ofInt a.Int_ + 9223372036854775808 < UInt64.ofInt b.Int_ + 9223372036854775808) := fun q => hl (by have := UInt64.lt_iff_toNat_lt.1 q; omega)
          rw [if_neg (by simpa using hl), if_neg nl]
          by_cases hg : a.Int_ > b.Int_
          · rw [if_pos (decide_eq_true hg), if_pos (UInt64.lt_iff_toNat_lt.2 (by omega))]
            exact ⟨1, rfl, rfl, by decide⟩
          · have ng : ¬ (UInt64.ofInt b.Int_ + 9223372036854775808 < UInt64.ofInt a.Int_ + 9223372036854775808) := fun q => hg (by have := UInt64.lt_iff_toNat_lt.1 q; omega)
            rw [if_neg (show ¬ (decide (a.Int_ > b.Int_) = true) by simpa using hg), if_neg ng]
            exact ⟨0, rfl, rfl, by decide⟩
/-- Both checked. -/
theorem both_eq (a b : GValue) (ia : okI a.Int_) (ib : okI b.Int_) : ∃ e : Int, g_value_both a b = some e ∧ g_ref_faults [a, b] = some e ∧ (e = 0 → okV1 a ∧ okV1 b) := by
  obtain ⟨e1, h1, h2, h3⟩ := check_eq a ia
  obtain ⟨e2, h4, h5, h6⟩ := check_eq b ib
  unfold g_value_both g_ref_faults
  rw [h1, h4, Option.bind_some]
  have s0 : g_ref_faults_l0 [a, b] (0 : Int) = if e1 ≠ 0 then some (.inr (.inl e1)) else some (.inl 1) := by
    unfold g_ref_faults_l0
    dsimp only
    rw [if_pos (by simp), if_pos (by simp), show lrd [a, b] (0 : Int).toNat = a from rfl, h2, Option.bind_some]
    rfl
  have s1 : g_ref_faults_l0 [a, b] (1 : Int) = if e2 ≠ 0 then some (.inr (.inl e2)) else some (.inl 2) := by
    unfold g_ref_faults_l0
    dsimp only
    rw [if_pos (by simp), if_pos (by simp), show lrd [a, b] (1 : Int).toNat = b from rfl, h5, Option.bind_some]
    rfl
  have s2 : g_ref_faults_l0 [a, b] (2 : Int) = some (.inr (.inr ())) := by
    unfold g_ref_faults_l0
    dsimp only
    rw [if_neg (by simp)]
  by_cases c1 : e1 ≠ 0
  · rw [if_pos c1] at s0
    rw [if_pos c1, loopO_done s0]
    exact ⟨_, rfl, rfl, fun q => absurd q c1⟩
  · rw [if_neg c1] at s0
    rw [if_neg c1, loopO_next s0]
    have c1 := Classical.not_not.1 c1
    by_cases c2 : e2 ≠ 0
    · rw [if_pos c2] at s1
      rw [loopO_done s1]
      exact ⟨_, rfl, rfl, fun q => absurd q c2⟩
    · rw [if_neg c2] at s1
      rw [loopO_next s1, loopO_done s2]
      have c2 := Classical.not_not.1 c2
      exact ⟨_, rfl, by rw [c2]; rfl, fun _ => ⟨h3 c1, h6 c2⟩⟩
theorem g_law_ValueCompares_true {x0 : GValue} {x1 : GValue} (q0 : GValue.ok x0) (q1 : GValue.ok x1) : g_law_ValueCompares x0 x1 = some true := by
  obtain ⟨e, h1, h2, h3⟩ := both_eq x0 x1 q0.2.1 q1.2.1
  unfold g_law_ValueCompares g_value_Compare g_ref_Compared
  rw [h1, h2, Option.bind_some, Option.bind_some]
  by_cases he : e ≠ 0
  · rw [if_pos he, if_pos he]
    simp
  · rw [if_neg he, if_neg he]
    obtain ⟨v1, v2⟩ := h3 (Classical.not_not.1 he)
    obtain ⟨r, h4, h5, _⟩ := order_eq v1 v2 q0.2.1 q1.2.1
    rw [h4, h5]
    simp
theorem g_law_ValueEquals_true {x0 : GValue} {x1 : GValue} (q0 : GValue.ok x0) (q1 : GValue.ok x1) : g_law_ValueEquals x0 x1 = some true := by
  obtain ⟨e, h1, h2, h3⟩ := both_eq x0 x1 q0.2.1 q1.2.1
  unfold g_law_ValueEquals g_value_Equal g_value_asked_i0 g_value_Equal_1 g_ref_Held
  rw [h1, h2, Option.bind_some, Option.bind_some]
  by_cases he : e ≠ 0
  · rw [if_pos he, if_pos he]
    simp
  · rw [if_neg he, if_neg he]
    obtain ⟨v1, v2⟩ := h3 (Classical.not_not.1 he)
    obtain ⟨r, h4, h5, _⟩ := order_eq v1 v2 q0.2.1 q1.2.1
    rw [h4, h5]
    by_cases c1 : x0.Kind = 0 ∨ x1.Kind = 0
    · simp [c1]
    · rw [if_neg c1, if_neg c1]
      by_cases c2 : x0.Kind ≠ x1.Kind
      · simp [c2]
      · rw [if_neg c2, if_neg c2]
        by_cases c3 : r = 0
        · simp [c3]
        · simp [c3]
theorem g_law_ValueLess_true {x0 : GValue} {x1 : GValue} (q0 : GValue.ok x0) (q1 : GValue.ok x1) : g_law_ValueLess x0 x1 = some true := by
  obtain ⟨e, h1, h2, h3⟩ := both_eq x0 x1 q0.2.1 q1.2.1
  unfold g_law_ValueLess g_value_Less g_value_asked_i1 g_value_Less_1 g_ref_Held
  rw [h1, h2, Option.bind_some, Option.bind_some]
  by_cases he : e ≠ 0
  · rw [if_pos he, if_pos he]
    simp
  · rw [if_neg he, if_neg he]
    obtain ⟨v1, v2⟩ := h3 (Classical.not_not.1 he)
    obtain ⟨r, h4, h5, h6⟩ := order_eq v1 v2 q0.2.1 q1.2.1
    rw [h4, h5]
    by_cases c1 : x0.Kind = 0 ∨ x1.Kind = 0
    · simp [c1]
    · rw [if_neg c1, if_neg c1]
      by_cases c2 : x0.Kind ≠ x1.Kind
      · simp [c2]
      · rw [if_neg c2, if_neg c2]
        by_cases c3 : r < 0
        · have : r = -1 := by omega
          simp [this]
        · have : ¬ r = -1 := by omega
          simp [this, c3]
end Go.Proofs.YtfekkhinjdmcbaaDoor.VM
