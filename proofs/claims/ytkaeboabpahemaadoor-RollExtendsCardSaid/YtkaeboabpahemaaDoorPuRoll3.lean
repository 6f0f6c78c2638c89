/- The roll: its root by halves, and by peaks. -/
import Derived.Test.YtkaeboabpahemaaDoorPuRollH
namespace Go.Proofs.YtkaeboabpahemaaDoor.VM
open Go Go.RowKit
/-- A digest, or none. -/
noncomputable def od (m tag : Int) (l : List (List UInt8)) : Option (List UInt8) := if (dg m tag l).2 = 0 then some (dg m tag l).1 else none
def toR : Option (List UInt8) → List UInt8 × Int
  | some b => (b, 0)
  | none => ([], 1)
theorem dg_err {m tag : Int} {l : List (List UInt8)} (hm : m = 1 ∨ m = 2) (ht : 1 ≤ tag ∧ tag ≤ 9) : (dg m tag l).2 = 0 ∨ dg m tag l = ([], 1) := by
  by_cases hf : (frameR tag l).2 = 0
  · left
    obtain ⟨v, h1, _⟩ := sum_eq (frameR tag l).1 (by have := frameR_len tag l; omega)
    have hv : v.toList.length = 32 := vlen v
    have h := dg_o m tag l
    unfold g_oracle_Digest at h
    rw [if_neg (by omega), Frame_eq, Option.bind_some] at h
    by_cases hc : (frameR tag l).2 ≠ 0 ∨ m = 2
    · rw [if_pos hc] at h
      rw [← Option.some.inj h]
      exact hf
    · rw [if_neg hc, h1, Option.bind_some, if_pos (show room _ _ by simp only [room, List.length_nil]; omega)] at h
      rw [← Option.some.inj h]
  · right
    have h := dg_o m tag l
    unfold g_oracle_Digest at h
    rw [if_neg (by omega), Frame_eq, Option.bind_some, if_pos (.inl hf)] at h
    rw [← Option.some.inj h]
    unfold frameR at hf ⊢
    rw [if_neg (by omega)] at hf ⊢
    split
    · rfl
    · rename_i h8
      rw [if_neg h8] at hf
      split
      · rfl
      · rename_i h9
        rw [if_neg h9] at hf
        exact absurd rfl hf
theorem dg_od {m tag : Int} {l : List (List UInt8)} (hm : m = 1 ∨ m = 2) (ht : 1 ≤ tag ∧ tag ≤ 9) : dg m tag l = toR (od m tag l) := by
  unfold od
  rcases dg_err (l := l) hm ht with h | h
  · rw [if_pos h]
    show _ = ((dg m tag l).1, 0)
    rw [← h]
  · rw [h]
    rfl
/-- The root by halves. -/
noncomputable def RT (m : Int) : Nat → List (List UInt8) → Option (List UInt8)
  | 0, _ => none
  | f + 1, l => if l.length = 0 then od m 4 [] else if l.length = 1 then od m 5 l else (RT m f (l.take (halfN l.length))).bind fun a => (RT m f (l.drop (halfN l.length))).bind fun b => od m 6 [a, b]
theorem RT_eq (m : Int) : ∀ (f g : Nat) (l : List (List UInt8)), l.length < f → l.length < g → RT m f l = RT m g l
  | 0, _, _, h, _ => by omega
  | _, 0, _, _, h => by omega
  | f + 1, g + 1, l, h1, h2 => by
    unfold RT
    by_cases h0 : l.length = 0
    · rw [if_pos h0, if_pos h0]
    · rw [if_neg h0, if_neg h0]
      by_cases h3 : l.length = 1
      · rw [if_pos h3, if_pos h3]
      · rw [if_neg h3, if_neg h3]
        have hh := halfN_lt (n := l.length) (by omega)
        rw [RT_eq m f g (l.take (halfN l.length)) (by rw [List.length_take]; omega) (by rw [List.length_take]; omega), RT_eq m f g (l.drop (halfN l.length)) (by rw [List.length_drop]; omega) (by rw [List.length_drop]; omega)]
noncomputable def T (m : Int) (l : List (List UInt8)) : Option (List UInt8) := RT m (l.length + 1) l
theorem T_one {m : Int} {l : List (List UInt8)} (h : l.length = 1) : T m l = od m 5 l := by
  unfold T RT
  rw [if_neg (by omega), if_pos h]
theorem T_nil {m : Int} {l : List (List UInt8)} (h : l.length = 0) : T m l = od m 4 [] := by
  unfold T RT
  rw [if_pos h]
theorem T_half {m : Int} {l : List (List UInt8)} (h : 2 ≤ l.length) : T m l = (T m (l.take (halfN l.length))).bind fun a => (T m (l.drop (halfN l.length))).bind fun b => od m 6 [a, b] := by
  have hh := halfN_lt (n := l.length) h
  unfold T
  rw [RT, if_neg (by omega), if_neg (by omega)]
  rw [RT_eq m l.length ((l.take (halfN l.length)).length + 1) (l.take (halfN l.length)) (by rw [List.length_take]; omega) (by omega), RT_eq m l.length ((l.drop (halfN l.length)).length + 1) (l.drop (halfN l.length)) (by rw [List.length_drop]; omega) (by omega)]
theorem T_cat {m : Int} {a b : List (List UInt8)} (h : halfN (a.length + b.length) = a.length) (h2 : 2 ≤ a.length + b.length) : T m (a ++ b) = (T m a).bind fun x => (T m b).bind fun y => od m 6 [x, y] := by
  rw [T_half (by rw [List.length_append]; exact h2), List.length_append, h, List.take_left' rfl, List.drop_left' rfl]
theorem cut_tail {α : Type} {l : List α} {k : Nat} : cut l (k : Int) (l.length : Int) = l.drop k := by
  simp only [cut, Int.toNat_natCast]
  rw [List.take_of_length_le (by rw [List.length_drop]; exact Nat.le_refl _)]
theorem root_eq {m : Int} (hm : m = 1 ∨ m = 2) : ∀ (f : Nat) (l : List (List UInt8)), l.length < f → l.length ≤ 64 → g_roll_root f m l = some (toR (T m l))
  | 0, _, h, _ => by omega
  | f + 1, l, h, h64 => by
    unfold g_roll_root g_roll_root_b
    by_cases h0 : (l.length : Int) = 0
    · rw [if_pos h0, dg_o, Option.bind_some, T_nil (by omega), ← dg_od hm (by decide)]
    · rw [if_neg h0]
      by_cases h1 : (l.length : Int) = 1
      · rw [if_pos h1, if_pos (by omega), dg_o, Option.bind_some, T_one (by omega), ← dg_od hm (by decide)]
        rw [show (1 : Int) = ((1 : Nat) : Int) from rfl, cut_init, List.take_of_length_le (by omega)]
      · have hh := halfN_lt (n := l.length) (by omega)
        have hb : (0 : Int) ≤ (halfN l.length : Int) ∧ (halfN l.length : Int) ≤ (l.length : Int) := by omega
        rw [if_neg h1, half_eq h64, Option.bind_some, if_pos hb, cut_init, cut_tail, root_eq hm f _ (by rw [List.length_take]; omega) (by rw [List.length_take]; omega), Option.bind_some, T_half (l := l) (by omega)]
        cases hA : T m (l.take (halfN l.length)) with
        | none => rfl
        | some a =>
          rw [if_neg (by simp [toR]), if_pos hb, root_eq hm f _ (by rw [List.length_drop]; omega) (by rw [List.length_drop]; omega), Option.bind_some, Option.bind_some]
          cases hB : T m (l.drop (halfN l.length)) with
          | none => rfl
          | some b =>
            rw [if_neg (by simp [toR])]
            unfold g_roll_pair
            rw [dg_o, Option.bind_some, Option.bind_some, Option.bind_some, dg_od hm (by decide)]
            rfl
/-! What fails in a part fails in all -/
theorem halfN_pow : ((List.range 65).all fun n => (List.range 7).all fun j => !(decide (2 ≤ n) && decide (2 ^ j < n)) || ((halfN n) % 2 ^ j == 0 && decide (2 ^ j ≤ halfN n))) = true := by decide +kernel
theorem halfN_dvd {n j : Nat} (hn : n ≤ 64) (h2 : 2 ≤ n) (h : 2 ^ j < n) : halfN n % 2 ^ j = 0 ∧ 2 ^ j ≤ halfN n := by
  have hj : j < 7 := by
    rcases Nat.lt_or_ge j 7 with h3 | h3
    · exact h3
    · have : 2 ^ 7 ≤ 2 ^ j := Nat.pow_le_pow_right (by decide) h3
      omega
  have h1 := List.all_eq_true.1 (List.all_eq_true.1 halfN_pow n (List.mem_range.2 (by omega))) j (List.mem_range.2 hj)
  simp only [Bool.or_eq_true, Bool.not_eq_true', Bool.and_eq_false_iff, decide_eq_false_iff_not, Bool.and_eq_true, beq_iff_eq, decide_eq_true_eq] at h1
  rcases h1 with (h1 | h1) | h1
  · exact absurd h2 h1
  · exact absurd h h1
  · exact h1
theorem T_part {m : Int} : ∀ (n : Nat) (l : List (List UInt8)) (o j : Nat), l.length = n → n ≤ 64 → o % 2 ^ j = 0 → o + 2 ^ j ≤ n → T m ((l.drop o).take (2 ^ j)) = none → T m l = none := by
  intro n
  induction n using Nat.strongRecOn with
  | _ n ih =>
    intro l o j hl h64 ho hle hnone
    have hp : 0 < 2 ^ j := Nat.pow_pos (by decide)
    by_cases he : 2 ^ j = n
    · have : o = 0 := by omega
      subst this
      rw [List.drop_zero, List.take_of_length_le (by omega)] at hnone
      exact hnone
    · have h2 : 2 ≤ n := by omega
      obtain ⟨hk1, hk2⟩ := halfN_dvd (j := j) h64 h2 (by omega)
      have hh := halfN_lt h2
      rw [T_half (by omega), hl]
      generalize halfN n = k at *
      by_cases hc : o + 2 ^ j ≤ k
      · rw [ih k hh.2 (l.take k) o j (by rw [List.length_take]; omega) (by omega) ho hc (by
          rw [List.drop_take, List.take_take, Nat.min_eq_left (by omega)]
          exact hnone)]
        rfl
      · have hok : k ≤ o := by
          rcases Nat.lt_or_ge o k with h3 | h3
          · exfalso
            have e1 : o = 2 ^ j * (o / 2 ^ j) := by have := Nat.div_add_mod o (2 ^ j); omega
            have e2 : k = 2 ^ j * (k / 2 ^ j) := by have := Nat.div_add_mod k (2 ^ j); omega
            have h4 : o / 2 ^ j < k / 2 ^ j := by
              rcases Nat.lt_or_ge (o / 2 ^ j) (k / 2 ^ j) with h5 | h5
              · exact h5
              · have := Nat.mul_le_mul_left (2 ^ j) h5
                omega
            have h6 : 2 ^ j * (o / 2 ^ j + 1) ≤ 2 ^ j * (k / 2 ^ j) := Nat.mul_le_mul_left _ h4
            rw [Nat.mul_add] at h6
            omega
          · exact h3
        have hd : (o - k) % 2 ^ j = 0 := (Nat.mod_eq_zero_of_dvd (Nat.dvd_sub (Nat.dvd_of_mod_eq_zero ho) (Nat.dvd_of_mod_eq_zero hk1)))
        rw [ih (n - k) (by omega) (l.drop k) (o - k) j (by rw [List.length_drop]; omega) (by omega) hd (by omega) (by
          rw [List.drop_drop, show k + (o - k) = o by omega]
          exact hnone)]
        cases T m (l.take k) <;> rfl
/-! Peaks -/
def pkOne (m : Int) (b : List (List UInt8)) : Option (List UInt8) → Gchirographref_peak := fun r => ⟨(b.length : Int), r.getD []⟩
noncomputable def pk1 (m : Int) (b : List (List UInt8)) : Gchirographref_peak := ⟨(b.length : Int), (T m b).getD []⟩
noncomputable def pk (m : Int) (bs : List (List (List UInt8))) : List Gchirographref_peak := bs.map (pk1 m)
/-- Blocks of powers of two, that have roots. -/
def blkOk (m : Int) (b : List (List UInt8)) : Prop := (∃ j, b.length = 2 ^ j) ∧ T m b ≠ none
structure GoodB (m : Int) (bs : List (List (List UInt8))) : Prop where
  ok : ∀ b ∈ bs, blkOk m b
  dec : bs.Pairwise fun a b => b.length < a.length
theorem pow_two_lt {a b : Nat} (h : 2 ^ a < 2 ^ b) : 2 * 2 ^ a ≤ 2 ^ b := by
  have : a < b := (Nat.pow_lt_pow_iff_right (by decide)).1 h
  have := Nat.pow_le_pow_right (n := 2) (by decide) (Nat.succ_le_of_lt this)
  rw [Nat.pow_succ] at this
  omega
theorem len_pos {m : Int} {b : List (List UInt8)} (h : blkOk m b) : 0 < b.length := by
  obtain ⟨⟨j, hj⟩, _⟩ := h
  rw [hj]
  exact Nat.pow_pos (by decide)
theorem blocks_le {m : Int} : ∀ {bs : List (List (List UInt8))}, (∀ b ∈ bs, blkOk m b) → bs.length ≤ bs.flatten.length
  | [], _ => Nat.le_refl _
  | b :: bs, h => by
    have h1 := len_pos (h b List.mem_cons_self)
    have h2 := blocks_le (bs := bs) fun x hx => h x (List.mem_cons_of_mem _ hx)
    rw [List.flatten_cons, List.length_append, List.length_cons]
    omega
/-- What is behind a block is shorter than the block. -/
theorem rest_lt {m : Int} : ∀ {b : List (List UInt8)} {bs : List (List (List UInt8))}, GoodB m (b :: bs) → bs.flatten.length < b.length
  | b, [], h => by
    have := len_pos (h.ok b List.mem_cons_self)
    simpa using this
  | b, c :: bs, h => by
    have hd := List.pairwise_cons.1 h.dec
    have h1 := rest_lt (b := c) (bs := bs) ⟨fun x hx => h.ok x (List.mem_cons_of_mem _ hx), hd.2⟩
    have h2 : c.length < b.length := hd.1 c List.mem_cons_self
    obtain ⟨⟨j, hj⟩, _⟩ := h.ok b List.mem_cons_self
    obtain ⟨⟨i, hi⟩, _⟩ := h.ok c (List.mem_cons_of_mem _ List.mem_cons_self)
    rw [hi, hj] at h2
    have := pow_two_lt h2
    rw [List.flatten_cons, List.length_append, hi]
    rw [hi] at h1
    rw [hj]
    omega
theorem halfN_sum : ((List.range 7).all fun j => (List.range 65).all fun r => !(decide (1 ≤ r) && decide (r ≤ 2 ^ j) && decide (2 ^ j + r ≤ 64)) || halfN (2 ^ j + r) == 2 ^ j) = true := by decide +kernel
theorem halfN_add {j r : Nat} (h1 : 1 ≤ r) (h2 : r ≤ 2 ^ j) (h64 : 2 ^ j + r ≤ 64) : halfN (2 ^ j + r) = 2 ^ j := by
  have hj : j < 7 := by
    rcases Nat.lt_or_ge j 7 with h3 | h3
    · exact h3
    · have : 2 ^ 7 ≤ 2 ^ j := Nat.pow_le_pow_right (by decide) h3
      omega
  have h := List.all_eq_true.1 (List.all_eq_true.1 halfN_sum j (List.mem_range.2 hj)) r (List.mem_range.2 (by omega))
  simp only [Bool.or_eq_true, Bool.not_eq_true', Bool.and_eq_false_iff, decide_eq_false_iff_not, beq_iff_eq] at h
  rcases h with ((h | h) | h) | h
  · exact absurd h1 h
  · exact absurd h2 h
  · exact absurd h64 h
  · exact h
theorem getD_some {x : Option (List UInt8)} (h : x ≠ none) : ∃ a, x = some a ∧ x.getD [] = a := by
  cases x with
  | none => exact absurd rfl h
  | some a => exact ⟨a, rfl, rfl⟩
/-- Blocks ahead are of greater powers: all places are multiples. -/
theorem flat_mod {j : Nat} : ∀ {bs : List (List (List UInt8))}, (∀ b ∈ bs, b.length % 2 ^ j = 0) → bs.flatten.length % 2 ^ j = 0
  | [], _ => by simp
  | b :: bs, h => by
    rw [List.flatten_cons, List.length_append, Nat.add_mod, h b List.mem_cons_self, flat_mod (bs := bs) fun x hx => h x (List.mem_cons_of_mem _ hx)]
    simp
theorem pow_mod {i j : Nat} (h : i ≤ j) : 2 ^ j % 2 ^ i = 0 := Nat.mod_eq_zero_of_dvd (Nat.pow_dvd_pow 2 h)
theorem inner_eq {m : Int} (hm : m = 1 ∨ m = 2) {l : List (List UInt8)} (hl : l.length ≤ 64) : ∀ (n : Nat) (bs : List (List (List UInt8))) (c : List (List UInt8)) (k : Nat), bs.length = n → GoodB m bs → blkOk m c → (∀ b ∈ bs, c.length ≤ b.length) → bs.flatten ++ c = l.take k →
    ∃ o, loopO (g_ref_rollOf_l1 m) (pk m bs, pk1 m c) = some o ∧ match o with
      | .inl r => r = ([], 1) ∧ T m l = none
      | .inr (P, q) => ∃ bs' c', P = pk m bs' ∧ q = pk1 m c' ∧ GoodB m (bs' ++ [c']) ∧ bs'.flatten ++ c' = l.take k := by
  intro n
  induction n with
  | zero =>
    intro bs c k hn hg hc hle hk
    obtain rfl := List.eq_nil_of_length_eq_zero hn
    refine ⟨.inr (pk m [], pk1 m c), loopO_done ?_, [], c, rfl, rfl, ⟨fun b hb => ?_, ?_⟩, hk⟩
    · unfold g_ref_rollOf_l1
      dsimp only
      rw [if_neg (by show ¬ ((([] : List Gchirographref_peak).length : Int) > 0); decide), Option.bind_some, if_neg (by decide)]
    · simp only [List.nil_append, List.mem_singleton] at hb
      rw [hb]; exact hc
    · exact List.pairwise_singleton _ _
  | succ n ih =>
    intro bs c k hn hg hc hle hk
    obtain ⟨bs0, b, rfl⟩ : ∃ bs0 b, bs = bs0 ++ [b] := by
      rcases List.eq_nil_or_concat bs with h | ⟨x, y, h⟩
      · rw [h] at hn; cases hn
      · exact ⟨x, y, by simpa using h⟩
    have hn0 : bs0.length = n := by simpa using hn
    have hpl : (pk m (bs0 ++ [b])).length = n + 1 := by simp [pk, hn0]
    have hlast : lrd (pk m (bs0 ++ [b])) n = pk1 m b := by
      unfold pk
      rw [List.map_append, lrd_app_ge (by simp [hn0]), List.length_map, hn0, Nat.sub_self]
      rfl
    have htk : (pk m (bs0 ++ [b])).take n = pk m bs0 := by
      unfold pk
      rw [List.map_append, List.take_left' (by simp [hn0])]
    have htot : bs0.flatten.length + b.length + c.length ≤ l.length := by
      have := congrArg List.length hk
      simp only [List.flatten_append, List.length_append, List.flatten_cons, List.flatten_nil, List.length_nil, List.length_take] at this
      omega
    have hbl := blocks_le hg.ok
    have hfl : (bs0 ++ [b]).flatten.length = bs0.flatten.length + b.length := by simp
    have hn64 : n + 1 ≤ 64 := by rw [List.length_append, List.length_singleton] at hbl; omega
    have hw : w64 ((((pk m (bs0 ++ [b])).length : Nat) : Int) - 1) = (n : Int) := by rw [hpl, w64_id (by omega)]; omega
    have hin : (0 : Int) ≤ (n : Int) ∧ (n : Int) < (((pk m (bs0 ++ [b])).length : Nat) : Int) := by rw [hpl]; omega
    have hokb := hg.ok b (by simp)
    have hpa := List.pairwise_append.1 hg.dec
    by_cases he : b.length = c.length
    · obtain ⟨⟨j, hj⟩, hTb⟩ := hokb
      obtain ⟨x, hx, hx2⟩ := getD_some hTb
      obtain ⟨y, hy, hy2⟩ := getD_some hc.2
      have hjc : c.length = 2 ^ j := by omega
      have hTc : T m (b ++ c) = od m 6 [x, y] := by
        rw [T_cat (by rw [hj, hjc]; exact halfN_add (Nat.pow_pos (by decide)) (Nat.le_refl _) (by omega)) (by have := Nat.pow_pos (n := j) (show 0 < 2 by decide); omega), hx, hy]
        rfl
      have hstep : g_ref_rollOf_l1 m (pk m (bs0 ++ [b]), pk1 m c) = match od m 6 [x, y] with
          | some d => some (.inl (pk m bs0, ({ { Gchirographref_peak.zero with size_ := w64 ((2 : Int) * (pk1 m c).size_) } with root_ := d } : Gchirographref_peak)))
          | none => some (.inr (.inl ([], 1))) := by
        unfold g_ref_rollOf_l1
        dsimp only
        rw [if_pos (by rw [hpl]; omega), hw, if_pos hin, Option.bind_some, Int.toNat_natCast, hlast, decide_eq_true (show (pk1 m b).size_ = (pk1 m c).size_ by show (b.length : Int) = (c.length : Int); omega), if_pos rfl, if_pos hin, dg_r, Option.bind_some]
        rw [show (pk1 m b).root_ = x from hx2, show (pk1 m c).root_ = y from hy2, dg_od hm (by decide)]
        cases od m 6 [x, y] with
        | none =>
          rw [if_pos (show (toR none).2 ≠ 0 by decide)]
          rfl
        | some d =>
          rw [if_neg (show ¬ ((toR (some d)).2 ≠ 0) by simp [toR]), if_pos (by omega), letO_eq, letO_eq, htk]
          rfl
      cases hod : od m 6 [x, y] with
      | none =>
        rw [hod] at hstep hTc
        refine ⟨.inl ([], 1), loopO_done hstep, rfl, ?_⟩
        have hdr : ((l.take k).drop bs0.flatten.length) = b ++ c := by
          rw [← hk, List.flatten_append, List.append_assoc, List.drop_left' rfl]
          simp
        refine T_part l.length l bs0.flatten.length (j + 1) rfl hl (flat_mod fun z hz => ?_) (by rw [Nat.pow_succ]; omega) ?_
        · obtain ⟨⟨i, hi⟩, _⟩ := hg.ok z (List.mem_append_left _ hz)
          have h5 : b.length < z.length := hpa.2.2 z hz b (List.mem_singleton.2 rfl)
          rw [hi, hj] at h5
          rw [hi]
          exact pow_mod ((Nat.pow_lt_pow_iff_right (by decide)).1 h5)
        · have hlen2 : (b ++ c).length = 2 ^ (j + 1) := by rw [List.length_append, Nat.pow_succ]; omega
          have : (l.drop bs0.flatten.length).take (2 ^ (j + 1)) = b ++ c := by
            rw [List.drop_take] at hdr
            have h6 := congrArg (List.take (2 ^ (j + 1))) hdr
            rw [List.take_take, List.take_of_length_le (l := b ++ c) (by omega)] at h6
            rw [← h6]
            congr 1
            have h7 := congrArg List.length hk
            simp only [List.flatten_append, List.length_append, List.flatten_cons, List.flatten_nil, List.length_nil, List.length_take] at h7
            rw [Nat.pow_succ]
            omega
          rw [this]
          exact hTc
      | some d =>
        rw [hod] at hstep hTc
        have hsz : w64 ((2 : Int) * (pk1 m c).size_) = ((b ++ c).length : Int) := by
          show w64 (2 * (c.length : Int)) = _
          rw [w64_id (by omega), List.length_append]
          omega
        have hpk : ({ { Gchirographref_peak.zero with size_ := w64 ((2 : Int) * (pk1 m c).size_) } with root_ := d } : Gchirographref_peak) = pk1 m (b ++ c) := by
          unfold pk1
          rw [hTc]
          show (⟨w64 ((2 : Int) * (pk1 m c).size_), d⟩ : Gchirographref_peak) = _
          rw [hsz]
          rfl
        have hstep2 : g_ref_rollOf_l1 m (pk m (bs0 ++ [b]), pk1 m c) = some (.inl (pk m bs0, pk1 m (b ++ c))) := hstep.trans (congrArg (fun q => some (Sum.inl (pk m bs0, q))) hpk)
        rw [loopO_next hstep2]
        refine ih bs0 (b ++ c) k hn0 ⟨fun z hz => hg.ok z (List.mem_append_left _ hz), hpa.1⟩ ⟨⟨j + 1, by rw [List.length_append, Nat.pow_succ]; omega⟩, by rw [hTc]; simp⟩ (fun z hz => ?_) (by rw [← hk]; simp)
        obtain ⟨⟨i, hi⟩, _⟩ := hg.ok z (List.mem_append_left _ hz)
        have h5 : b.length < z.length := hpa.2.2 z hz b (List.mem_singleton.2 rfl)
        rw [hi, hj] at h5
        have := pow_two_lt h5
        rw [List.length_append]
        omega
    · have hlt : c.length < b.length := by
        have := hle b (by simp)
        omega
      refine ⟨.inr (pk m (bs0 ++ [b]), pk1 m c), loopO_done ?_, bs0 ++ [b], c, rfl, rfl, ⟨fun z hz => ?_, ?_⟩, hk⟩
      · unfold g_ref_rollOf_l1
        dsimp only
        rw [if_pos (by rw [hpl]; omega), hw, if_pos hin, Option.bind_some, Int.toNat_natCast, hlast, decide_eq_false (show ¬ (pk1 m b).size_ = (pk1 m c).size_ by show ¬ (b.length : Int) = (c.length : Int); omega), if_neg (by decide)]
      · rcases List.mem_append.1 hz with h | h
        · exact hg.ok z h
        · rw [List.mem_singleton.1 h]; exact hc
      · refine List.pairwise_append.2 ⟨hg.dec, List.pairwise_singleton _ _, fun z hz y hy => ?_⟩
        rw [List.mem_singleton.1 hy]
        rcases List.mem_append.1 hz with h | h
        · have := hpa.2.2 z h b (List.mem_singleton.2 rfl)
          omega
        · rw [List.mem_singleton.1 h]; exact hlt
theorem peaks_eq {m : Int} (hm : m = 1 ∨ m = 2) {l : List (List UInt8)} (hl : l.length ≤ 64) : ∃ r, loopO (g_ref_rollOf_l0 m l) ((0 : Int), ([] : List Gchirographref_peak)) = some r ∧ match r with
    | .inl e => e = ([], 1) ∧ T m l = none
    | .inr P => ∃ bs, P = pk m bs ∧ GoodB m bs ∧ bs.flatten = l := by
  refine loopO_times (step := g_ref_rollOf_l0 m l) l.length (fun k (bs : List (List (List UInt8))) => ((k : Int), pk m bs)) (fun k bs => GoodB m bs ∧ bs.flatten = l.take k) _ (fun k bs hk hi => ?_) (fun bs hi => ?_) (s := []) ⟨⟨fun b hb => (by cases hb), List.Pairwise.nil⟩, by simp⟩
  · obtain ⟨hg, hf⟩ := hi
    unfold g_ref_rollOf_l0
    dsimp only
    rw [if_pos (natLt hk), if_pos (natIn hk), Int.toNat_natCast, dg_r, Option.bind_some, dg_od hm (by decide)]
    have hT1 : T m [lrd l k] = od m 5 [lrd l k] := T_one rfl
    cases hod : od m 5 [lrd l k] with
    | none =>
      right
      refine ⟨.inl ([], 1), by rw [if_pos (show (toR none).2 ≠ 0 by decide)]; rfl, rfl, ?_⟩
      refine T_part l.length l k 0 rfl hl (Nat.mod_one _) hk ?_
      rw [drop_step hk, Nat.pow_zero, List.take_succ_cons, List.take_zero, hT1, hod]
    | some d =>
      rw [hod] at hT1
      rw [if_neg (show ¬ ((toR (some d)).2 ≠ 0) by simp [toR]), letO_eq, show (toR (some d)).1 = d from rfl]
      have hpk : ({ { Gchirographref_peak.zero with size_ := (1 : Int) } with root_ := d } : Gchirographref_peak) = pk1 m [lrd l k] := by
        unfold pk1
        rw [hT1]
        rfl
      rw [hpk]
      have hin := inner_eq hm hl bs.length bs [lrd l k] (k + 1) rfl hg ⟨⟨0, rfl⟩, by rw [hT1]; simp⟩ (fun b hb => len_pos (hg.ok b hb)) (by rw [hf, take_step hk])
      obtain ⟨o, h1, h2⟩ := hin
      rw [h1, Option.bind_some]
      cases o with
      | inl e =>
        right
        exact ⟨.inl e, rfl, h2⟩
      | inr pq =>
        obtain ⟨P, q⟩ := pq
        obtain ⟨bs', c', rfl, rfl, hg', hf'⟩ := h2
        left
        have hb := blocks_le hg'.ok
        have hfl : (bs' ++ [c']).flatten = l.take (k + 1) := by rw [← hf']; simp
        have hlen : (bs' ++ [c']).length ≤ 64 := by
          rw [hfl, List.length_take] at hb
          omega
        rw [List.length_append, List.length_singleton] at hlen
        refine ⟨bs' ++ [c'], ?_, hg', hfl⟩
        dsimp only
        rw [if_pos (show room _ _ by simp only [room, pk, List.length_map, List.length_cons, List.length_nil]; omega), w64_succ (by omega)]
        simp [pk]
  · obtain ⟨hg, hf⟩ := hi
    unfold g_ref_rollOf_l0
    dsimp only
    rw [if_neg natNlt]
    exact ⟨_, rfl, bs, rfl, hg, by rw [hf, List.take_length]⟩
theorem good_drop {m : Int} {bs : List (List (List UInt8))} (h : GoodB m bs) (i : Nat) : GoodB m (bs.drop i) :=
  ⟨fun b hb => h.ok b (List.mem_of_mem_drop hb), h.dec.sublist (List.drop_sublist _ _)⟩
theorem T_step {m : Int} {bs : List (List (List UInt8))} (hg : GoodB m bs) (h64 : bs.flatten.length ≤ 64) {i : Nat} (hi : i + 1 < bs.length) : T m (bs.drop i).flatten = (T m (lrd bs i)).bind fun x => (T m (bs.drop (i + 1)).flatten).bind fun y => od m 6 [x, y] := by
  have hd : bs.drop i = lrd bs i :: bs.drop (i + 1) := drop_step (by omega)
  have hgi := good_drop hg i
  rw [hd] at hgi
  have hlt := rest_lt hgi
  have hne : 0 < (bs.drop (i + 1)).flatten.length := by
    have := blocks_le (good_drop hg (i + 1)).ok
    rw [List.length_drop] at this
    omega
  obtain ⟨⟨j, hj⟩, _⟩ := hgi.ok _ List.mem_cons_self
  have htot : (bs.drop i).flatten.length ≤ bs.flatten.length := by
    have h3 : (bs.take i ++ bs.drop i).flatten.length = bs.flatten.length := by rw [List.take_append_drop]
    rw [List.flatten_append, List.length_append] at h3
    omega
  rw [hd, List.flatten_cons] at htot ⊢
  rw [List.length_append] at htot
  rw [hj] at hlt htot
  exact T_cat (by rw [hj]; exact halfN_add (by omega) (by omega) (by omega)) (by omega)
theorem T_up {m : Int} {bs : List (List (List UInt8))} (hg : GoodB m bs) (h64 : bs.flatten.length ≤ 64) : ∀ (i : Nat), i < bs.length → T m (bs.drop i).flatten = none → T m bs.flatten = none
  | 0, _, h => by rwa [List.drop_zero] at h
  | i + 1, hi, h => T_up hg h64 i (by omega) (by
      rw [T_step hg h64 hi, h]
      cases T m (lrd bs i) <;> rfl)
theorem lrd_pk {m : Int} {bs : List (List (List UInt8))} {i : Nat} (h : i < bs.length) : lrd (pk m bs) i = pk1 m (lrd bs i) := by
  unfold pk
  rw [lrd_at (by simpa using h), lrd_at h, List.getElem_map]
theorem fold_eq {m : Int} (hm : m = 1 ∨ m = 2) {bs : List (List (List UInt8))} (hg : GoodB m bs) (h64 : bs.flatten.length ≤ 64) : ∀ (i : Nat) (d : List UInt8), i < bs.length → T m (bs.drop i).flatten = some d →
    ∃ o, loopO (g_ref_rollOf_l2 m (pk m bs)) (d, (i : Int) - 1) = some o ∧ match o with
      | .inl r => r = ([], 1) ∧ T m bs.flatten = none
      | .inr d' => T m bs.flatten = some d' := by
  have hlen := blocks_le hg.ok
  intro i
  induction i with
  | zero =>
    intro d hi hT
    refine ⟨.inr d, loopO_done ?_, by rwa [List.drop_zero] at hT⟩
    unfold g_ref_rollOf_l2
    dsimp only
    rw [if_neg (by decide)]
  | succ i ih =>
    intro d hi hT
    rw [show ((i + 1 : Nat) : Int) - 1 = (i : Int) by omega]
    obtain ⟨x, hx, hx2⟩ := getD_some (hg.ok (lrd bs i) (lrd_mem (by omega))).2
    have hs := T_step hg h64 hi
    rw [hx, hT, Option.bind_some, Option.bind_some] at hs
    have hpl : (pk m bs).length = bs.length := by simp [pk]
    have hstep : g_ref_rollOf_l2 m (pk m bs) (d, (i : Int)) = match od m 6 [x, d] with
        | some d' => some (.inl (d', (i : Int) - 1))
        | none => some (.inr (.inl ([], 1))) := by
      unfold g_ref_rollOf_l2
      dsimp only
      rw [if_pos (by omega), if_pos (by rw [hpl]; omega), Int.toNat_natCast, lrd_pk (by omega), show (pk1 m (lrd bs i)).root_ = x from hx2, dg_r, Option.bind_some, dg_od hm (by decide), w64_id (by omega)]
      cases od m 6 [x, d] with
      | none =>
        rw [if_pos (show (toR none).2 ≠ 0 by decide)]
        rfl
      | some d' =>
        rw [if_neg (show ¬ ((toR (some d')).2 ≠ 0) by simp [toR])]
        rfl
    cases hod : od m 6 [x, d] with
    | none =>
      rw [hod] at hstep hs
      exact ⟨.inl ([], 1), loopO_done hstep, rfl, T_up hg h64 i (by omega) hs⟩
    | some d' =>
      rw [hod] at hstep hs
      rw [loopO_next hstep]
      exact ih d' (by omega) hs
/-- The root by peaks is the one by halves. -/
theorem rollOf_eq {m : Int} (hm : m = 1 ∨ m = 2) {l : List (List UInt8)} (hl : l.length ≤ 64) : g_ref_rollOf m l = some (toR (T m l)) := by
  unfold g_ref_rollOf
  by_cases h0 : (l.length : Int) = 0
  · rw [if_pos h0, dg_r, Option.bind_some, T_nil (by omega), ← dg_od hm (by decide)]
  · rw [if_neg h0]
    obtain ⟨r, h1, h2⟩ := peaks_eq hm hl
    rw [h1, Option.bind_some]
    cases r with
    | inl e =>
      obtain ⟨rfl, hT⟩ := h2
      rw [hT]
      rfl
    | inr P =>
      obtain ⟨bs, rfl, hg, rfl⟩ := h2
      have hpl : (pk m bs).length = bs.length := by simp [pk]
      have hne : 0 < bs.length := by
        rcases Nat.eq_zero_or_pos bs.length with h | h
        · obtain rfl := List.eq_nil_of_length_eq_zero h
          exact absurd rfl h0
        · exact h
      have hlen := blocks_le hg.ok
      dsimp only
      rw [hpl, w64_id (by omega), w64_id (by omega), if_pos (by omega), show ((bs.length : Int) - 1).toNat = bs.length - 1 by omega, lrd_pk (by omega)]
      obtain ⟨x, hx, hx2⟩ := getD_some (hg.ok (lrd bs (bs.length - 1)) (lrd_mem (by omega))).2
      have hd : bs.drop (bs.length - 1) = [lrd bs (bs.length - 1)] := by
        rw [drop_step (by omega), List.drop_eq_nil_of_le (by omega)]
      obtain ⟨o, h3, h4⟩ := fold_eq hm hg hl (bs.length - 1) x (by omega) (by rw [hd]; simpa using hx)
      rw [show (pk1 m (lrd bs (bs.length - 1))).root_ = x from hx2, show (bs.length : Int) - 2 = ((bs.length - 1 : Nat) : Int) - 1 by omega, h3, Option.bind_some]
      cases o with
      | inl e =>
        obtain ⟨rfl, hT⟩ := h4
        rw [hT]
        rfl
      | inr d =>
        rw [h4]
        rfl
end Go.Proofs.YtkaeboabpahemaaDoor.VM
