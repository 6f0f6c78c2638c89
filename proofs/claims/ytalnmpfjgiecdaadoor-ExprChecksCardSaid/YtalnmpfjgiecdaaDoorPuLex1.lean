/- Words and rules that the proof uses. -/
import Derived.Test.YtalnmpfjgiecdaaDoorPuVal2
namespace Go.Proofs.YtalnmpfjgiecdaaDoor.VM
open Go Go.RowKit
theorem u8_all (p : UInt8 → Bool) (h : (List.range 256).all (fun n => p (UInt8.ofNat n)) = true) (c : UInt8) : p c = true := by
 have := List.all_eq_true.1 h c.toNat (List.mem_range.2 c.toNat_lt)
 rwa [UInt8.ofNat_toNat] at this
theorem any_loop {α β : Type} [Inhabited α] {step : Int → Option (Int ⊕ β)} (l : List α) (p : α → Bool) (a b : β) (hl : l.length < 9223372036854775807)
  (hs : ∀ k, k < l.length → step (k : Int) = some (if p (lrd l k) = true then .inr a else .inl (w64 ((k : Int) + 1)))) (he : step (l.length : Int) = some (.inr b)) : loopO step (0 : Int) = some (if l.any p = true then a else b) := by
 have h := loopO_goL (step := step) l (fun k (_ : Unit) => (k : Int)) (fun _ x _ => if p x = true then .inr a else .inl ()) (fun _ => b) (fun _ _ => True) (fun k s hk _ => ⟨by
  rw [hs k hk, w64_succ (by omega)]
  by_cases hp : p (lrd l k) = true
  ·rw [if_pos hp, if_pos hp]
  ·rw [if_neg hp, if_neg hp], fun _ _ => trivial⟩) (fun _ _ => he) (s := ()) trivial
 have h2 : ∀ (m : List α) (k : Nat), goL (fun _ x (_ : Unit) => if p x = true then (.inr a : Unit ⊕ β) else .inl ()) (fun _ => b) m k () = if m.any p = true then a else b := by
  intro m
  induction m with
  | nil => intro k; rfl
  | cons x m ih =>
   intro k
   have e : (x :: m).any p = (p x || m.any p) := List.any_cons
   simp only [goL]
   by_cases hp : p x = true
   ·rw [if_pos hp, if_pos (by rw [e, hp]; rfl)]
   ·rw [if_neg hp]
    simp only
    rw [ih]
    have e2 : (x :: m).any p = m.any p := by rw [e, Bool.eq_false_iff.2 hp, Bool.false_or]
    by_cases hm : m.any p = true
    ·rw [if_pos hm, if_pos (e2.trans hm)]
    ·rw [if_neg hm, if_neg (fun h => hm (e2.symm.trans h))]
 rw [h2] at h
 exact h
theorem reach_loop {α : Type} [Inhabited α] {step : Int → Option (Int ⊕ Int)} (l : List α) (p : α → Bool) (hl : l.length < 9223372036854775807)
  (hs : ∀ k, k < l.length → step (k : Int) = some (if p (lrd l k) = true then .inl (w64 ((k : Int) + 1)) else .inr (k : Int))) (he : step (l.length : Int) = some (.inr (l.length : Int))) : ∃ n : Nat, loopO step (0 : Int) = some (n : Int) ∧ (n = l.length ↔ l.all p = true) := by
 have key : ∀ (m : List α) (k : Nat), l.drop k = m → k ≤ l.length → ∃ n : Nat, loopO step (k : Int) = some (n : Int) ∧ (n = l.length ↔ m.all p = true) := by
  intro m
  induction m with
  | nil =>
   intro k hm hk
   have : k = l.length := by
    have := congrArg List.length hm
    simp at this
    omega
   subst this
   exact ⟨l.length, loopO_done he, by simp⟩
  | cons x m ih =>
   intro k hm hk
   have hlt : k < l.length := by
    rcases Nat.lt_or_ge k l.length with h | h
    ·exact h
    ·rw [List.drop_eq_nil_of_le h] at hm
     cases hm
   rw [drop_step hlt] at hm
   obtain ⟨hx, hm⟩ := List.cons.inj hm
   have h1 := hs k hlt
   rw [hx] at h1
   by_cases hp : p x = true
   ·rw [if_pos hp, w64_succ (by omega)] at h1
    obtain ⟨n, h2, h3⟩ := ih (k + 1) hm hlt
    exact ⟨n, by rw [loopO_next h1]; exact h2, by rw [h3, List.all_cons, hp, Bool.true_and]⟩
   ·rw [if_neg hp] at h1
    refine ⟨k, loopO_done h1, ?_⟩
    rw [List.all_cons, Bool.eq_false_iff.2 hp, Bool.false_and]
    constructor
    ·intro h; omega
    ·intro h; cases h
 exact key l 0 rfl (Nat.zero_le _)
theorem all_of_any {α : Type} (p q : α → Bool) (h : ∀ x, q x = !(p x)) : ∀ l : List α, l.any q = !(l.all p)
 | [] => rfl
 | x :: l => by rw [List.any_cons, List.all_cons, all_of_any p q h l, h, Bool.not_and]
def inB (c : UInt8) : Bool := (decide (97 ≤ c) && decide (c ≤ 122)) || (decide (48 ≤ c) && decide (c ≤ 57)) || decide (c = 95)
def smallB (c : UInt8) : Bool := decide (97 ≤ c) && decide (c ≤ 122)
theorem small_eq (c : UInt8) : g_lex_small c = some (smallB c) := by
 unfold g_lex_small smallB
 rw [Bool.decide_and]
theorem inName_eq (c : UInt8) : g_lex_inName c = some (inB c) := by
 unfold g_lex_inName g_lex_digit inB
 rw [small_eq, Option.bind_some]
 unfold smallB
 rw [Bool.decide_and]
 by_cases h1 : (decide (97 ≤ c) && decide (c ≤ 122)) = true
 ·rw [if_pos h1, h1]; rfl
 ·rw [if_neg h1, Bool.eq_false_iff.2 h1, Option.bind_some]
  by_cases h2 : (decide (48 ≤ c) && decide (c ≤ 57)) = true
  ·rw [if_pos h2, h2]; rfl
  ·rw [if_neg h2, Bool.eq_false_iff.2 h2]; rfl
theorem t1_in (c : UInt8) : (g_ref_isName_t1.any fun x => decide (x = c)) = inB c := by
 have := u8_all (fun c => (g_ref_isName_t1.any fun x => decide (x = c)) == inB c) (by decide +kernel) c
 exact eq_of_beq this
theorem t0_small (c : UInt8) : (g_ref_isName_t0.any fun x => decide (x = c)) = smallB c := by
 have := u8_all (fun c => (g_ref_isName_t0.any fun x => decide (x = c)) == smallB c) (by decide +kernel) c
 exact eq_of_beq this
theorem among_eq (c : UInt8) (l : List UInt8) (hl : l.length < 9223372036854775807) : g_ref_among c l = some (l.any fun x => decide (x = c)) := by
 unfold g_ref_among
 have h := any_loop (step := g_ref_among_l0 c l) l (fun x => decide (x = c)) (.inl true) (.inr ()) hl (fun k hk => by
  unfold g_ref_among_l0
  dsimp only
  rw [if_pos (natLt hk), if_pos (natIn hk), Int.toNat_natCast]
  by_cases h1 : lrd l k = c
  ·rw [if_pos h1, if_pos (decide_eq_true h1)]
  ·rw [if_neg h1, if_neg (by rw [decide_eq_false h1]; decide)]) (by
  unfold g_ref_among_l0
  dsimp only
  rw [if_neg natNlt])
 rw [h, Option.bind_some]
 by_cases h1 : (l.any fun x => decide (x = c)) = true
 ·rw [if_pos h1, h1]
 ·rw [if_neg h1, Bool.eq_false_iff.2 h1]
theorem reach_eq (s l : List UInt8) (hs : s.length < 9223372036854775807) (hl : l.length < 9223372036854775807) : ∃ n : Nat, g_ref_reach s l = some (n : Int) ∧ (n = s.length ↔ (s.all fun c => l.any fun x => decide (x = c)) = true) := by
 obtain ⟨n, h1, h2⟩ := reach_loop (step := g_ref_reach_l0 s l) s (fun c => l.any fun x => decide (x = c)) hs (fun k hk => by
  unfold g_ref_reach_l0
  dsimp only
  rw [if_pos (natLt hk), if_pos (natIn hk), Int.toNat_natCast, among_eq _ _ hl, Option.bind_some, Option.bind_some]
  by_cases h1 : (l.any fun x => decide (x = lrd s k)) = true
  ·rw [if_pos h1, if_pos h1]
  ·rw [if_neg h1, if_neg h1]) (by
  unfold g_ref_reach_l0
  dsimp only
  rw [if_neg natNlt, Option.bind_some, if_neg (by decide)])
 unfold g_ref_reach
 rw [h1]
 exact ⟨n, rfl, h2⟩
theorem all_in (s : List UInt8) (hs : s.length < 9223372036854775807) : g_lex_all_i0 s = some (s.all inB && decide (s ≠ [])) := by
 unfold g_lex_all_i0
 have h := any_loop (step := g_lex_all_i0_l0 s) s (fun x => !(inB x)) (.inl false) (.inr ()) hs (fun k hk => by
  unfold g_lex_all_i0_l0
  dsimp only
  rw [if_pos (natLt hk), if_pos (natIn hk), Int.toNat_natCast, inName_eq, Option.bind_some]
  by_cases h1 : (!(inB (lrd s k))) = true
  ·rw [if_pos h1, if_pos h1]
  ·rw [if_neg h1, if_neg h1]) (by
  unfold g_lex_all_i0_l0
  dsimp only
  rw [if_neg natNlt])
 rw [h, Option.bind_some, all_of_any inB _ (fun _ => rfl)]
 by_cases h1 : s.all inB = true
 ·rw [h1, if_neg (by decide)]; rfl
 ·rw [Bool.eq_false_iff.2 h1, if_pos (by decide)]; rfl
def isNm (s : List UInt8) : Bool := decide (s ≠ []) && (smallB (lrd s 0) && s.all inB)
theorem isName_eq (s : List UInt8) (hs : s.length < 9223372036854775807) : g_ref_isName s = some (isNm s) := by
 unfold g_ref_isName isNm
 by_cases h0 : s = []
 ·subst h0; rfl
 ·have hp : 0 < s.length := List.length_pos_iff.2 h0
  rw [if_pos h0, if_pos hp, among_eq _ _ (by decide), t0_small, Option.bind_some, decide_eq_true h0, Bool.true_and]
  obtain ⟨n, h1, h2⟩ := reach_eq s g_ref_isName_t1 hs (by decide)
  rw [h1, Option.bind_some]
  simp only [t1_in] at h2
  by_cases h3 : smallB (lrd s 0) = true
  ·rw [if_pos h3, h3, Option.bind_some, Bool.true_and]
   congr 1
   by_cases h4 : s.all inB = true
   ·have h5 := h2.2 h4
    rw [h4, decide_eq_true (by omega)]
   ·have h5 : n ≠ s.length := fun h => h4 (h2.1 h)
    rw [Bool.eq_false_iff.2 h4, decide_eq_false (by omega)]
  ·rw [if_neg h3, Bool.eq_false_iff.2 h3]
   rfl
theorem nameP_eq (s : List UInt8) (hs : s.length < 9223372036854775807) : (((g_lex_all_i0 s).bind fun r'5 => (if r'5 = true then if 0 < s.length then (g_lex_small (lrd s 0)).bind fun r'6 => some r'6 else none else some false)).bind fun g'7 => some g'7) = some (isNm s) := by
 rw [all_in s hs, Option.bind_some]
 unfold isNm
 by_cases h0 : s = []
 ·subst h0; rfl
 ·have hp : 0 < s.length := List.length_pos_iff.2 h0
  rw [decide_eq_true h0, Bool.and_true, Bool.true_and, if_pos hp, small_eq]
  by_cases h4 : s.all inB = true
  ·rw [if_pos h4, h4, Bool.and_true]; rfl
  ·rw [if_neg h4, Bool.eq_false_iff.2 h4, Bool.and_false]; rfl
end Go.Proofs.YtalnmpfjgiecdaaDoor.VM
