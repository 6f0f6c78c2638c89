/- Words and rules that the proof uses. -/
import Derived.Test.YtalnmpfjgiecdaaDoorPuBase
namespace Go.Proofs.YtalnmpfjgiecdaaDoor.VM
open Go Go.RowKit
theorem same_lp {β : Type} {step : Int → Option (Int ⊕ β)} (n : Nat) (b : β) (hn : n < 9223372036854775807) (hs : ∀ k, k < n → step (k : Int) = some (.inl (w64 ((k : Int) + 1)))) (he : step (n : Int) = some (.inr b)) : loopO step (0 : Int) = some b := by
 obtain ⟨r, h1, h2⟩ := loopO_times (step := step) n (fun k (_ : Unit) => (k : Int)) (fun _ _ => True) (fun r => r = b) (fun k _ hk _ => .inl ⟨(), by rw [hs k hk, w64_succ (by omega)], trivial⟩) (fun _ _ => ⟨b, he, rfl⟩) (s := ()) trivial
 rw [← h2]
 exact h1
theorem sameRow_same (a : List GValue) (h : a.length < 9223372036854775807) : g_law_sameRow a a = some true := by
 unfold g_law_sameRow
 rw [if_neg (fun q => q rfl), same_lp (step := g_law_sameRow_l0 a a) a.length (.inr ()) h (fun k hk => by
  unfold g_law_sameRow_l0
  dsimp only
  rw [if_pos (natLt hk), if_pos (natIn hk), if_pos (natIn hk), if_neg (fun q => q rfl)]) (by
  unfold g_law_sameRow_l0
  dsimp only
  rw [if_neg natNlt])]
 rfl
abbrev TRow := List GValue
def kyR (r : TRow) : Int := (lrd r 0).Int_
def posN (T : List TRow) (r : TRow) : Nat → Nat
 | 0 => 0
 | k + 1 => if kyR r < kyR (lrd T k) then posN T r k else k + 1
def insR (T : List TRow) (r : TRow) : List TRow := T.take (posN T r T.length) ++ r :: T.drop (posN T r T.length)
def isort (L : List TRow) : List TRow := L.foldl insR []
theorem posN_le (T : List TRow) (r : TRow) : ∀ k, posN T r k ≤ k
 | 0 => Nat.le_refl _
 | k + 1 => by
  rw [posN]
  split
  ·exact Nat.le_succ_of_le (posN_le T r k)
  ·exact Nat.le_refl _
theorem posN_gt (T : List TRow) (r : TRow) : ∀ n k, posN T r n ≤ k → k < n → kyR r < kyR (lrd T k)
 | 0, k, _, h => absurd h (Nat.not_lt_zero _)
 | n + 1, k, h1, h2 => by
  rw [posN] at h1
  split at h1
  ·rcases Nat.lt_or_ge k n with h3 | h3
   ·exact posN_gt T r n k h1 h3
   ·rw [show k = n by omega]; assumption
  ·omega
theorem posN_last (T : List TRow) (r : TRow) : ∀ n, posN T r n = 0 ∨ ¬ kyR r < kyR (lrd T (posN T r n - 1))
 | 0 => .inl rfl
 | n + 1 => by
  rw [posN]
  split
  ·exact posN_last T r n
  ·right; assumption
def sortedR (R : List TRow) : Prop := ∀ a b, a < b → b < R.length → kyR (lrd R a) ≤ kyR (lrd R b)
theorem posN_low {R : List TRow} {r : TRow} (hs : sortedR R) {k : Nat} (hk : k < posN R r R.length) : kyR (lrd R k) ≤ kyR r := by
 have h1 := posN_le R r R.length
 rcases posN_last R r R.length with h | h
 ·omega
 ·rcases Nat.lt_or_ge k (posN R r R.length - 1) with h2 | h2
  ·have := hs k (posN R r R.length - 1) h2 (by omega)
   omega
  ·rw [show k = posN R r R.length - 1 by omega]
   omega
theorem ins_len (R : List TRow) (r : TRow) : (insR R r).length = R.length + 1 := by
 unfold insR
 have := posN_le R r R.length
 rw [List.length_append, List.length_cons, List.length_take, List.length_drop]
 omega
theorem ins_lt {R : List TRow} {r : TRow} {k : Nat} (hk : k < posN R r R.length) : lrd (insR R r) k = lrd R k := by
 have := posN_le R r R.length
 unfold insR
 rw [lrd_app_lt (by rw [List.length_take]; omega), lrd_at (by rw [List.length_take]; omega), lrd_at (by omega), List.getElem_take]
theorem ins_eq (R : List TRow) (r : TRow) : lrd (insR R r) (posN R r R.length) = r := by
 have := posN_le R r R.length
 have hl : (R.take (posN R r R.length)).length = posN R r R.length := by rw [List.length_take]; omega
 unfold insR
 rw [lrd_app_ge (by omega), hl, Nat.sub_self]
 rfl
theorem ins_gt {R : List TRow} {r : TRow} {k : Nat} (hk : posN R r R.length ≤ k) (hkl : k < R.length) : lrd (insR R r) (k + 1) = lrd R k := by
 have := posN_le R r R.length
 have hl : (R.take (posN R r R.length)).length = posN R r R.length := by rw [List.length_take]; omega
 unfold insR
 rw [lrd_app_ge (by omega), hl, show k + 1 - posN R r R.length = (k - posN R r R.length) + 1 by omega, lrd_cons_succ, lrd_at (by rw [List.length_drop]; omega), lrd_at hkl, List.getElem_drop]
 congr 1
 omega
theorem ins_sorted {R : List TRow} {r : TRow} (hs : sortedR R) : sortedR (insR R r) := by
 intro a b hab hb
 rw [ins_len] at hb
 have hp := posN_le R r R.length
 rcases Nat.lt_trichotomy a (posN R r R.length) with h1 | h1 | h1
 ·rw [ins_lt h1]
  rcases Nat.lt_trichotomy b (posN R r R.length) with h2 | h2 | h2
  ·rw [ins_lt h2]; exact hs a b hab (by omega)
  ·rw [h2, ins_eq]; exact posN_low hs h1
  ·obtain ⟨c, rfl⟩ : ∃ c, b = c + 1 := ⟨b - 1, by omega⟩
   rw [ins_gt (by omega) (by omega)]
   exact hs a c (by omega) (by omega)
 ·obtain ⟨c, rfl⟩ : ∃ c, b = c + 1 := ⟨b - 1, by omega⟩
  rw [h1, ins_eq, ins_gt (by omega) (by omega)]
  exact Int.le_of_lt (posN_gt R r R.length c (by omega) (by omega))
 ·obtain ⟨c, rfl⟩ : ∃ c, b = c + 1 := ⟨b - 1, by omega⟩
  obtain ⟨d, rfl⟩ : ∃ d, a = d + 1 := ⟨a - 1, by omega⟩
  rw [ins_gt (by omega) (by omega), ins_gt (by omega) (by omega)]
  exact hs d c (by omega) (by omega)
def befR (L : List TRow) (j i : Nat) : Bool := decide (kyR (lrd L j) < kyR (lrd L i)) || (decide (kyR (lrd L j) = kyR (lrd L i)) && decide (j < i))
def cntR (L : List TRow) (i : Nat) : Nat → Nat
 | 0 => 0
 | j + 1 => cntR L i j + if befR L j i = true then 1 else 0
def rankR (L : List TRow) (i : Nat) : Nat := cntR L i L.length
theorem cnt_app (L : List TRow) (r : TRow) (i : Nat) (hi : i < L.length) : ∀ n, n ≤ L.length → cntR (L ++ [r]) i n = cntR L i n
 | 0, _ => rfl
 | n + 1, hn => by
  rw [cntR, cntR, cnt_app L r i hi n (by omega)]
  unfold befR
  rw [lrd_app_lt (show n < L.length by omega), lrd_app_lt hi]
theorem rank_old {L : List TRow} {r : TRow} {i : Nat} (hi : i < L.length) : rankR (L ++ [r]) i = rankR L i + if kyR r < kyR (lrd L i) then 1 else 0 := by
 unfold rankR
 rw [List.length_append, List.length_singleton, cntR, cnt_app L r i hi _ (Nat.le_refl _)]
 congr 1
 unfold befR
 rw [lrd_app_eq rfl, lrd_app_lt hi, decide_eq_false (show ¬ L.length < i by omega), Bool.and_false, Bool.or_false]
 by_cases h : kyR r < kyR (lrd L i)
 ·rw [if_pos (decide_eq_true h), if_pos h]
 ·rw [if_neg (by rw [decide_eq_false h]; decide), if_neg h]
theorem cnt_new (L : List TRow) (r : TRow) : ∀ n, n ≤ L.length → cntR (L ++ [r]) L.length n = (L.take n).countP fun x => decide (kyR x ≤ kyR r)
 | 0, _ => rfl
 | n + 1, hn => by
  rw [cntR, cnt_new L r n (by omega), take_step (show n < L.length by omega), List.countP_append, List.countP_singleton]
  congr 1
  unfold befR
  rw [lrd_app_lt (show n < L.length by omega), lrd_app_eq rfl, decide_eq_true (show n < L.length by omega), Bool.and_true]
  by_cases h : kyR (lrd L n) ≤ kyR r
  ·rw [if_pos (decide_eq_true h)]
   by_cases h2 : kyR (lrd L n) < kyR r
   ·rw [decide_eq_true h2]; rfl
   ·rw [decide_eq_true (show kyR (lrd L n) = kyR r by omega), Bool.or_true]; rfl
  ·rw [decide_eq_false h, decide_eq_false (show ¬ kyR (lrd L n) < kyR r by omega), decide_eq_false (show ¬ kyR (lrd L n) = kyR r by omega)]; rfl
theorem rank_new {L : List TRow} {r : TRow} : rankR (L ++ [r]) L.length = L.countP fun x => decide (kyR x ≤ kyR r) := by
 unfold rankR
 rw [List.length_append, List.length_singleton, cntR, cnt_new L r _ (Nat.le_refl _), List.take_length]
 have : befR (L ++ [r]) L.length L.length = false := by
  unfold befR
  simp
 rw [this]
 rfl
theorem mem_at {l : List TRow} {x : TRow} (h : x ∈ l) : ∃ k, k < l.length ∧ lrd l k = x := by
 obtain ⟨k, hk, he⟩ := List.getElem_of_mem h
 exact ⟨k, hk, by rw [lrd_at hk]; exact he⟩
theorem count_pos {R : List TRow} {r : TRow} (hs : sortedR R) : (R.countP fun x => decide (kyR x ≤ kyR r)) = posN R r R.length := by
 have hp := posN_le R r R.length
 have e : R.countP (fun x => decide (kyR x ≤ kyR r)) = (R.take (posN R r R.length)).countP (fun x => decide (kyR x ≤ kyR r)) + (R.drop (posN R r R.length)).countP (fun x => decide (kyR x ≤ kyR r)) := by
  rw [← List.countP_append, List.take_append_drop]
 have h1 : (R.take (posN R r R.length)).countP (fun x => decide (kyR x ≤ kyR r)) = (R.take (posN R r R.length)).length := by
  refine List.countP_eq_length.2 fun x hx => ?_
  obtain ⟨k, hk, rfl⟩ := mem_at hx
  rw [List.length_take] at hk
  rw [lrd_at (by rw [List.length_take]; exact hk), List.getElem_take, ← lrd_at (show k < R.length by omega)]
  exact decide_eq_true (posN_low hs (by omega))
 have h2 : (R.drop (posN R r R.length)).countP (fun x => decide (kyR x ≤ kyR r)) = 0 := by
  refine List.countP_eq_zero.2 fun x hx => ?_
  obtain ⟨k, hk, rfl⟩ := mem_at hx
  rw [List.length_drop] at hk
  rw [lrd_at (by rw [List.length_drop]; exact hk), List.getElem_drop, ← lrd_at (show posN R r R.length + k < R.length by omega)]
  have := posN_gt R r R.length (posN R r R.length + k) (by omega) (by omega)
  rw [decide_eq_false (by omega)]
  decide
 rw [e, h1, h2, List.length_take]
 omega
structure Ranks (L R : List TRow) : Prop where
 perm : L.Perm R
 sort : sortedR R
 get : ∀ i, i < L.length → rankR L i < L.length ∧ lrd R (rankR L i) = lrd L i
 onto : ∀ q, q < L.length → ∃ i, i < L.length ∧ rankR L i = q
theorem ranks_nil : Ranks [] [] := ⟨List.Perm.refl _, fun a b _ h => absurd h (Nat.not_lt_zero _), fun i h => absurd h (Nat.not_lt_zero _), fun i h => absurd h (Nat.not_lt_zero _)⟩
theorem ranks_step {L R : List TRow} {r : TRow} (h : Ranks L R) : Ranks (L ++ [r]) (insR R r) := by
 have hlen : R.length = L.length := h.perm.length_eq.symm
 have hp := posN_le R r R.length
 have hnew : rankR (L ++ [r]) L.length = posN R r R.length := by
  rw [rank_new, h.perm.countP_eq, count_pos h.sort]
 have hold : ∀ i, i < L.length → (kyR r < kyR (lrd L i) → posN R r R.length ≤ rankR L i ∧ rankR (L ++ [r]) i = rankR L i + 1) ∧ (¬ kyR r < kyR (lrd L i) → rankR L i < posN R r R.length ∧ rankR (L ++ [r]) i = rankR L i) := by
  intro i hi
  obtain ⟨g1, g2⟩ := h.get i hi
  refine ⟨fun hk => ⟨?_, by rw [rank_old hi, if_pos hk]⟩, fun hk => ⟨?_, by rw [rank_old hi, if_neg hk]; rfl⟩⟩
  ·rcases Nat.lt_or_ge (rankR L i) (posN R r R.length) with h1 | h1
   ·have := posN_low h.sort h1
    rw [g2] at this
    omega
   ·exact h1
  ·rcases Nat.lt_or_ge (rankR L i) (posN R r R.length) with h1 | h1
   ·exact h1
   ·have := posN_gt R r R.length _ h1 (by omega)
    rw [g2] at this
    exact absurd this hk
 refine ⟨?_, ins_sorted h.sort, fun i hi => ?_, fun q hq => ?_⟩
 ·unfold insR
  refine (List.Perm.append_right [r] h.perm).trans ?_
  refine List.Perm.trans ?_ List.perm_middle.symm
  rw [List.take_append_drop]
  exact List.perm_append_singleton r R
 ·rw [List.length_append, List.length_singleton] at hi ⊢
  rcases Nat.lt_or_ge i L.length with h1 | h1
  ·obtain ⟨g1, g2⟩ := h.get i h1
   rw [lrd_app_lt h1]
   by_cases hk : kyR r < kyR (lrd L i)
   ·obtain ⟨e1, e2⟩ := (hold i h1).1 hk
    rw [e2, ins_gt e1 (by omega)]
    exact ⟨by omega, g2⟩
   ·obtain ⟨e1, e2⟩ := (hold i h1).2 hk
    rw [e2, ins_lt e1]
    exact ⟨by omega, g2⟩
  ·have hie : i = L.length := by omega
   subst hie
   rw [hnew, ins_eq, lrd_app_eq rfl]
   exact ⟨by omega, rfl⟩
 ·rw [List.length_append, List.length_singleton] at hq ⊢
  rcases Nat.lt_trichotomy q (posN R r R.length) with h1 | h1 | h1
  ·obtain ⟨i, hi, he⟩ := h.onto q (by omega)
   refine ⟨i, by omega, ?_⟩
   by_cases hk : kyR r < kyR (lrd L i)
   ·have := ((hold i hi).1 hk).1
    omega
   ·rw [((hold i hi).2 hk).2, he]
  ·exact ⟨L.length, by omega, by rw [hnew, h1]⟩
  ·obtain ⟨i, hi, he⟩ := h.onto (q - 1) (by omega)
   refine ⟨i, by omega, ?_⟩
   by_cases hk : kyR r < kyR (lrd L i)
   ·rw [((hold i hi).1 hk).2, he]; omega
   ·have := ((hold i hi).2 hk).1
    omega
theorem ranks_of (L : List TRow) : Ranks L (isort L) := by
 have key : ∀ (M A R : List TRow), Ranks A R → Ranks (A ++ M) (M.foldl insR R) := by
  intro M
  induction M with
  | nil => intro A R h; rw [List.append_nil]; exact h
  | cons r M ih =>
   intro A R h
   have := ih (A ++ [r]) (insR R r) (ranks_step h)
   rw [List.append_assoc] at this
   exact this
 exact key L [] [] ranks_nil
end Go.Proofs.YtalnmpfjgiecdaaDoor.VM
