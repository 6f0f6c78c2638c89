/- SHA-256: feeding byte by byte, and block by block. -/
import Derived.Test.YtkaeboabpahemaaDoorPuSha2
namespace Go.Proofs.YtkaeboabpahemaaDoor.VM
open Go Go.RowKit
/-- A block's words, of 64 bytes. -/
noncomputable def B (h : Vector UInt32 8) (c : List UInt8) : Vector UInt32 8 := (g_ref_block h c).getD default
theorem turn_B (h : Vector UInt32 8) (b : Vector UInt8 64) : g_sum_turn h b = some (B h b.toList) := by
  obtain ⟨r, h1, h2⟩ := turn_block h b
  unfold B
  rw [h1, h2]
  rfl
theorem block_B (h : Vector UInt32 8) {c : List UInt8} (hc : c.length = 64) : g_ref_block h c = some (B h c) := by
  obtain ⟨r, h1, h2⟩ := turn_block h (⟨c.toArray, by simpa using hc⟩ : Vector UInt8 64)
  have : (⟨c.toArray, by simpa using hc⟩ : Vector UInt8 64).toList = c := rfl
  rw [this] at h2
  unfold B
  rw [h2]
  rfl
abbrev HP := Vector UInt32 8 × List UInt8
noncomputable def sstep (st : HP) (c : UInt8) : HP := if st.2.length + 1 = 64 then (B st.1 (st.2 ++ [c]), []) else (st.1, st.2 ++ [c])
noncomputable def S (h : Vector UInt32 8) (l : List UInt8) : HP := l.foldl sstep (h, [])
theorem s_few : ∀ (l : List UInt8) (st : HP), st.2.length + l.length < 64 → l.foldl sstep st = (st.1, st.2 ++ l)
  | [], st, _ => by simp
  | c :: l, st, h => by
    rw [List.length_cons] at h
    have h1 : sstep st c = (st.1, st.2 ++ [c]) := by unfold sstep; rw [if_neg (by omega)]
    rw [List.foldl_cons, h1, s_few l _ (by simp only [List.length_append, List.length_cons, List.length_nil]; omega)]
    simp
theorem s_full (l : List UInt8) (st : HP) (h : st.2.length + l.length = 64) (hl : 0 < l.length) : l.foldl sstep st = (B st.1 (st.2 ++ l), []) := by
  obtain ⟨m, c, rfl⟩ : ∃ m c, l = m ++ [c] := ⟨l.dropLast, l.getLast (by intro e; simp [e] at hl), (List.dropLast_concat_getLast _).symm⟩
  simp only [List.length_append, List.length_cons, List.length_nil] at h
  rw [List.foldl_append, s_few m st (by omega)]
  simp only [List.foldl_cons, List.foldl_nil]
  unfold sstep
  rw [if_pos (by simp only [List.length_append]; omega)]
  simp
theorem S_few {h : Vector UInt32 8} {l : List UInt8} (hl : l.length < 64) : S h l = (h, l) := by
  unfold S
  rw [s_few l _ (by simpa using hl)]
  simp
theorem S_more {h : Vector UInt32 8} {l : List UInt8} (hl : 64 ≤ l.length) : S h l = S (B h (l.take 64)) (l.drop 64) := by
  unfold S
  conv => lhs; rw [← List.take_append_drop 64 l]
  rw [List.foldl_append, s_full (l.take 64) (h, []) (by simp; omega) (by simp; omega)]
  simp
theorem S_len : ∀ (n : Nat) (h : Vector UInt32 8) (l : List UInt8), l.length = n → (S h l).2.length = l.length % 64 := by
  intro n
  induction n using Nat.strongRecOn with
  | ind n ih =>
    intro h l hl
    by_cases h64 : 64 ≤ l.length
    · rw [S_more h64, ih (l.drop 64).length (by simp; omega) _ _ rfl]
      simp only [List.length_drop]
      omega
    · rw [S_few (by omega)]
      simp only
      omega
theorem S_rest : ∀ (n : Nat) (h : Vector UInt32 8) (l : List UInt8), l.length = n → (S h l).2 = l.drop (l.length - l.length % 64) := by
  intro n
  induction n using Nat.strongRecOn with
  | ind n ih =>
    intro h l hl
    by_cases h64 : 64 ≤ l.length
    · rw [S_more h64, ih (l.drop 64).length (by simp; omega) _ _ rfl]
      simp only [List.length_drop, List.drop_drop]
      congr 1
      omega
    · rw [S_few (by omega)]
      simp only
      rw [show l.length - l.length % 64 = 0 by omega]
      rfl
theorem blocks_S (l : List UInt8) (h : Vector UInt32 8) : g_ref_blocks h l = some (S h l).1 := by
  unfold g_ref_blocks
  have key : ∀ (n : Nat) (h : Vector UInt32 8) (l : List UInt8), l.length = n → loopO g_ref_blocks_l0 (l, h) = some (S h l).1 := by
    intro n
    induction n using Nat.strongRecOn with
    | ind n ih =>
      intro h l hl
      by_cases h64 : 64 ≤ l.length
      · have hs : g_ref_blocks_l0 (l, h) = some (.inl (l.drop 64, B h (l.take 64))) := by
          unfold g_ref_blocks_l0
          simp only
          have e1 : cut l 0 64 = l.take 64 := rfl
          have e2 : cut l 64 (l.length : Int) = l.drop 64 := by
            show (l.drop (64 : Int).toNat).take ((l.length : Int).toNat - (64 : Int).toNat) = _
            rw [List.take_of_length_le (by simp)]
            rfl
          rw [if_pos (by omega), if_pos (by omega), e1, block_B h (by simp; omega), Option.bind_some, if_pos (by omega), e2]
        rw [loopO_next hs, ih (l.drop 64).length (by simp; omega) _ _ rfl, S_more h64]
      · have hs : g_ref_blocks_l0 (l, h) = some (.inr h) := by
          unfold g_ref_blocks_l0
          simp only
          rw [if_neg (by omega)]
        rw [loopO_done hs, S_few (by omega)]
  rw [key l.length h l rfl]
  rfl
/-- A stream that stands at such a state. -/
structure Fits8 (s : GStream) (st : HP) : Prop where
  h : s.H = st.1
  n : s.N = (st.2.length : Int)
  lt : st.2.length < 64
  held : s.Held.toList = st.2 ++ List.replicate (64 - st.2.length) 0
theorem Fits8.eq {s s' : GStream} {st : HP} (a : Fits8 s st) (b : Fits8 s' st) (hl : s.Len = s'.Len) : s = s' := by
  cases s
  cases s'
  have h1 := a.h.trans b.h.symm
  have h2 := a.n.trans b.n.symm
  have h3 := Vector.toList_inj.1 (a.held.trans b.held.symm)
  simp only at h1 h2 h3 hl
  subst h1 h2 h3 hl
  rfl
theorem set_pad {p : List UInt8} {k : Nat} {c : UInt8} : (p ++ List.replicate (k + 1) 0).set p.length c = (p ++ [c]) ++ List.replicate k 0 := by
  rw [List.set_append_right _ _ (Nat.le_refl _), Nat.sub_self, List.replicate_succ]
  simp
theorem feed_loop {l : List UInt8} (hl : l.length ≤ 140737488355328) {s : GStream} {st : HP} (f : Fits8 s st) : ∃ s', loopO (g_sum_feed_l0 l) ((0 : Int), s) = some s' ∧ Fits8 s' (l.foldl sstep st) ∧ s'.Len = s.Len := by
  refine loopO_rule (fun p : Int × GStream => 0 ≤ p.1 ∧ p.1 ≤ (l.length : Int) ∧ Fits8 p.2 ((l.take p.1.toNat).foldl sstep st) ∧ p.2.Len = s.Len) _ (fun p => ((l.length : Int) - p.1).toNat) (fun p hp => ?_) (a := ((0 : Int), s)) ⟨(show (0 : Int) ≤ 0 by decide), (show (0 : Int) ≤ (l.length : Int) by omega), f, rfl⟩
  obtain ⟨t, u⟩ := p
  obtain ⟨h1, h2, h3, h4⟩ := hp
  simp only at h1 h2 h3 h4
  unfold g_sum_feed_l0
  simp only
  by_cases ht : t < l.length
  · have w5 : w64 (t + 1) = t + 1 := w64_id (by omega)
    have hN := h3.n
    have hlt := h3.lt
    generalize hst : (l.take t.toNat).foldl sstep st = st1 at h3 hN hlt
    have hnext : (l.take (t + 1).toNat).foldl sstep st = sstep st1 (lrd l t.toNat) := by
      rw [show (t + 1).toNat = t.toNat + 1 by omega, take_step (by omega), List.foldl_append, hst]
      rfl
    have w6 : w64 (u.N + 1) = u.N + 1 := w64_id (by omega)
    have hheld : (vwr u.Held u.N.toNat (lrd l t.toNat)).toList = (st1.2 ++ [lrd l t.toNat]) ++ List.replicate (63 - st1.2.length) 0 := by
      rw [vwr_list, h3.held, show u.N.toNat = st1.2.length by omega, show 64 - st1.2.length = (63 - st1.2.length) + 1 by omega, set_pad]
    rw [if_pos ht, if_pos ⟨h1, ht⟩, if_pos ⟨by omega, by omega⟩]
    simp only [letO_eq]
    rw [w6, w5]
    by_cases h64 : u.N + 1 = 64
    · rw [if_pos h64, turn_B]
      simp only [Option.bind_some]
      refine .inl ⟨_, rfl, ⟨by simp only; omega, by simp only; omega, ?_, h4⟩, by simp only; omega⟩
      simp only
      rw [hnext]
      unfold sstep
      rw [if_pos (by omega)]
      refine ⟨?_, rfl, (by decide : 0 < 64), by simp⟩
      simp only
      rw [h3.h, hheld, show 63 - st1.2.length = 0 by omega]
      simp
    · rw [if_neg h64]
      simp only [Option.bind_some]
      refine .inl ⟨_, rfl, ⟨by simp only; omega, by simp only; omega, ?_, h4⟩, by simp only; omega⟩
      simp only
      rw [hnext]
      unfold sstep
      rw [if_neg (by omega)]
      refine ⟨h3.h, ?_, ?_, ?_⟩
      · simp only [List.length_append, List.length_cons, List.length_nil]
        omega
      · simp only [List.length_append, List.length_cons, List.length_nil]
        omega
      · simp only
        rw [hheld]
        congr 2
        simp only [List.length_append, List.length_cons, List.length_nil]
        omega
  · rw [if_neg ht]
    refine .inr ⟨_, rfl, ?_, h4⟩
    rw [List.take_of_length_le (by omega)] at h3
    exact h3
theorem feed_ok {l : List UInt8} (hl : l.length ≤ 140737488355328) {s : GStream} {st : HP} (f : Fits8 s st) : ∃ s', g_sum_feed s l = some s' ∧ Fits8 s' (l.foldl sstep st) ∧ s'.Len = w64 (s.Len + (l.length : Int)) := by
  obtain ⟨s', h1, h2, h3⟩ := feed_loop hl (s := { s with Len := w64 (s.Len + (l.length : Int)) }) (st := st) ⟨f.h, f.n, f.lt, f.held⟩
  refine ⟨s', ?_, h2, h3⟩
  unfold g_sum_feed
  rw [h1]
  rfl
end Go.Proofs.YtkaeboabpahemaaDoor.VM
