/- The roll: its root, what proves an entry, and what proves that it has grown: the laws. -/
import Derived.Test.YtkaeboabpahemaaDoorPuRoll3
namespace Go.Proofs.YtkaeboabpahemaaDoor.VM
open Go Go.RowKit
theorem fault_eq (m : Int) (l : List (List UInt8)) : ∃ e, g_roll_fault m l = some e ∧ g_ref_rollFault m l = some e ∧ (e = 0 → (m = 1 ∨ m = 2) ∧ l.length ≤ 64) := by
  unfold g_roll_fault g_ref_rollFault g_roll_modes g_ref_badMode
  simp only [Option.bind_some]
  by_cases hm : m = 1 ∨ m = 2
  · have hb : decide (m ≠ 1 ∧ m ≠ 2) = false := decide_eq_false (by omega)
    rw [decide_eq_true hm, hb]
    simp only [Bool.not_true, Bool.false_eq_true, if_false]
    by_cases hl : (l.length : Int) > 64
    · rw [if_pos hl]; exact ⟨1, rfl, rfl, fun h => absurd h (by decide)⟩
    · rw [if_neg hl]; exact ⟨0, rfl, rfl, fun _ => ⟨hm, by omega⟩⟩
  · have hb : decide (m ≠ 1 ∧ m ≠ 2) = true := decide_eq_true (by omega)
    rw [decide_eq_false hm, hb]
    exact ⟨2, rfl, rfl, fun h => absurd h (by decide)⟩
theorem rl_true (a : List UInt8) : g_law_sameBytes a a = some true := by
  unfold g_law_sameBytes
  simp
theorem rl_same (a : List (List UInt8)) (h : a.length < 9223372036854775807) : g_law_sameLists a a = some true := by
  unfold g_law_sameLists
  obtain ⟨r, h1, h2⟩ := loopO_times (step := g_law_sameLists_l0 a a) a.length (fun k (_ : Unit) => (k : Int)) (fun _ _ => True) (fun r => r = .inr ()) (fun k _ hk _ => .inl ⟨(), by
    unfold g_law_sameLists_l0
    dsimp only
    rw [if_pos (natLt hk), if_pos (natIn hk), if_pos (natIn hk), if_neg (fun q => q rfl), w64_succ (by omega)], trivial⟩) (fun _ _ => ⟨.inr (), by
    unfold g_law_sameLists_l0
    dsimp only
    rw [if_neg natNlt], rfl⟩) (s := ()) trivial
  have h1' : loopO (g_law_sameLists_l0 a a) (0 : Int) = some r := h1
  rw [if_neg (fun q => q rfl), h1', h2]
  rfl
theorem g_law_RollRoots_true {x0 : Int} {x1 : List (List UInt8)} (_q0 : okI x0) (_q1 : (okL 24 (okL 1 okA)) x1) : g_law_RollRoots x0 x1 = some true := by
  have key : ∃ r, g_roll_Root x0 x1 = some r ∧ g_ref_RollOf x0 x1 = some r := by
    unfold g_roll_Root g_ref_RollOf
    obtain ⟨e, h1, h2, h3⟩ := fault_eq x0 x1
    rw [h1, h2, Option.bind_some, Option.bind_some]
    by_cases he : e ≠ 0
    · rw [if_pos he, if_pos he]; exact ⟨_, rfl, rfl⟩
    · obtain ⟨hm, hl⟩ := h3 (by omega)
      rw [if_neg he, if_neg he, root_eq hm 100000 x1 (by omega) hl, rollOf_eq hm hl]
      exact ⟨_, rfl, rfl⟩
  obtain ⟨r, h1, h2⟩ := key
  unfold g_law_RollRoots
  rw [h1, h2, Option.bind_some, Option.bind_some, if_pos rfl, rl_true]
  rfl
/-! What both sides take from -/
theorem below_eq {n : Nat} (h2 : 2 ≤ n) (h : n ≤ 64) : g_ref_below (n : Int) = some ((halfN n : Nat) : Int) := by
  have hs : ∀ k q : Nat, k = 2 * q → n ≤ k → k ≤ 64 → loopO (g_ref_below_l0 (n : Int)) (k : Int) = loopO (g_ref_below_l0 (n : Int)) (q : Int) := by
    intro k q hk hn h64
    refine loopO_next ?_
    unfold g_ref_below_l0
    dsimp only
    rw [if_pos (by omega)]
    have : (k : Int).tdiv 2 = (q : Int) := by rw [hk]; rw [show ((2 * q : Nat) : Int) = (q : Int) * 2 by omega]; exact Int.mul_tdiv_cancel _ (by decide)
    rw [this, w64_id (by omega)]
  have hd : ∀ k : Nat, k < n → loopO (g_ref_below_l0 (n : Int)) (k : Int) = some (k : Int) := by
    intro k hn
    refine loopO_done ?_
    unfold g_ref_below_l0
    dsimp only
    rw [if_neg (by omega)]
  unfold g_ref_below halfN
  rw [show (32 : Int) = ((32 : Nat) : Int) from rfl]
  by_cases h32 : n ≤ 32
  · rw [hs 32 16 rfl h32 (by decide)]
    by_cases h16 : n ≤ 16
    · rw [hs 16 8 rfl h16 (by decide)]
      by_cases h8 : n ≤ 8
      · rw [hs 8 4 rfl h8 (by decide)]
        by_cases h4 : n ≤ 4
        · rw [hs 4 2 rfl h4 (by decide)]
          by_cases h2' : n ≤ 2
          · rw [hs 2 1 rfl h2' (by decide), hd 1 (by omega), if_pos h2']; rfl
          · rw [hd 2 (by omega), if_neg h2', if_pos h4]; rfl
        · rw [hd 4 (by omega), if_neg (by omega), if_neg h4, if_pos h8]; rfl
      · rw [hd 8 (by omega), if_neg (by omega), if_neg (by omega), if_neg h8, if_pos h16]; rfl
    · rw [hd 16 (by omega), if_neg (by omega), if_neg (by omega), if_neg (by omega), if_neg h16, if_pos h32]; rfl
  · rw [hd 32 (by omega), if_neg (by omega), if_neg (by omega), if_neg (by omega), if_neg (by omega), if_neg h32]; rfl
theorem turned_eq (l : List (List UInt8)) (h : l.length ≤ 1000) : g_ref_turnedRound l = some l.reverse := by
  have key : ∀ j, j ≤ l.length → loopO (g_ref_turnedRound_l0 l) ((j : Int) - 1, (l.drop j).reverse) = some l.reverse := by
    intro j
    induction j with
    | zero =>
      intro _
      rw [List.drop_zero]
      refine loopO_done ?_
      unfold g_ref_turnedRound_l0
      dsimp only
      rw [if_neg (by decide)]
    | succ j ih =>
      intro hj
      rw [show ((j + 1 : Nat) : Int) - 1 = (j : Int) by omega]
      have hstep : g_ref_turnedRound_l0 l ((j : Int), (l.drop (j + 1)).reverse) = some (.inl ((j : Int) - 1, (l.drop j).reverse)) := by
        unfold g_ref_turnedRound_l0
        dsimp only
        rw [if_pos (by omega), if_pos (by omega), if_pos (show room _ _ by simp only [room, List.length_reverse, List.length_drop, List.length_cons, List.length_nil]; omega), w64_id (by omega), Int.toNat_natCast, drop_step (show j < l.length by omega), List.reverse_cons]
      rw [loopO_next hstep]
      exact ih (by omega)
  have := key l.length (Nat.le_refl _)
  rw [List.drop_length, List.reverse_nil] at this
  unfold g_ref_turnedRound
  rw [w64_id (by omega), this]
  rfl
theorem T_parts {m : Int} {l : List (List UInt8)} (h2 : 2 ≤ l.length) (h : T m l ≠ none) : ∃ a b, T m (l.take (halfN l.length)) = some a ∧ T m (l.drop (halfN l.length)) = some b := by
  rw [T_half h2] at h
  cases ha : T m (l.take (halfN l.length)) with
  | none => rw [ha] at h; exact absurd rfl h
  | some a =>
    rw [ha] at h
    cases hb : T m (l.drop (halfN l.length)) with
    | none => rw [hb] at h; exact absurd rfl h
    | some b => exact ⟨a, b, rfl, rfl⟩
/-- The pieces of a path, from the bottom up. -/
noncomputable def IP (m : Int) : Nat → List (List UInt8) → Nat → List (List UInt8)
  | 0, _, _ => []
  | f + 1, l, i => if l.length ≤ 1 then [] else if i < halfN l.length then IP m f (l.take (halfN l.length)) i ++ [(T m (l.drop (halfN l.length))).getD []] else IP m f (l.drop (halfN l.length)) (i - halfN l.length) ++ [(T m (l.take (halfN l.length))).getD []]
theorem IP_len (m : Int) : ∀ (f : Nat) (l : List (List UInt8)) (i : Nat), (IP m f l i).length ≤ l.length
  | 0, _, _ => Nat.zero_le _
  | f + 1, l, i => by
    unfold IP
    split
    · exact Nat.zero_le _
    · have hh := halfN_lt (n := l.length) (by omega)
      split
      · have := IP_len m f (l.take (halfN l.length)) i
        rw [List.length_append, List.length_singleton]
        rw [List.length_take] at this
        omega
      · have := IP_len m f (l.drop (halfN l.length)) (i - halfN l.length)
        rw [List.length_append, List.length_singleton]
        rw [List.length_drop] at this
        omega
theorem include_run {m : Int} (hm : m = 1 ∨ m = 2) : ∀ (f : Nat) (l : List (List UInt8)) (i : Nat), l.length < f → l.length ≤ 64 → i < l.length → T m l ≠ none → g_roll_include f m l (i : Int) = some (IP m f l i, 0)
  | 0, _, _, h, _, _, _ => by omega
  | f + 1, l, i, hf, h64, hi, hT => by
    unfold g_roll_include g_roll_include_b IP
    by_cases h1 : (l.length : Int) = 1
    · rw [if_pos h1, if_pos (by omega)]
    · have hh := halfN_lt (n := l.length) (by omega)
      have hb : (0 : Int) ≤ (halfN l.length : Int) ∧ (halfN l.length : Int) ≤ (l.length : Int) := by omega
      obtain ⟨a, b, ha, hbb⟩ := T_parts (by omega) hT
      rw [if_neg h1, if_neg (by omega), half_eq h64, Option.bind_some, if_pos hb, if_pos hb, cut_init, cut_tail]
      by_cases hk : i < halfN l.length
      · rw [if_neg (show ¬ ((i : Int) ≥ (halfN l.length : Int)) by omega), Option.bind_some, if_pos hk]
        dsimp only
        rw [include_run hm f _ i (by rw [List.length_take]; omega) (by rw [List.length_take]; omega) (by rw [List.length_take]; omega) (by rw [ha]; simp), Option.bind_some, if_neg (fun q => q rfl), root_eq hm 100000 _ (by rw [List.length_drop]; omega) (by rw [List.length_drop]; omega), Option.bind_some, hbb]
        have := IP_len m f (l.take (halfN l.length)) i
        rw [if_neg (fun q => q rfl), if_pos (show room _ _ by rw [List.length_take] at this; simp only [room, List.length_cons, List.length_nil]; omega)]
        rfl
      · have e : w64 ((i : Int) - (halfN l.length : Int)) = ((i - halfN l.length : Nat) : Int) := by rw [w64_id (by omega)]; omega
        rw [if_pos (show (i : Int) ≥ (halfN l.length : Int) by omega), Option.bind_some, if_neg hk, e]
        dsimp only
        rw [include_run hm f _ (i - halfN l.length) (by rw [List.length_drop]; omega) (by rw [List.length_drop]; omega) (by rw [List.length_drop]; omega) (by rw [hbb]; simp), Option.bind_some, if_neg (fun q => q rfl), root_eq hm 100000 _ (by rw [List.length_take]; omega) (by rw [List.length_take]; omega), Option.bind_some, ha]
        have := IP_len m f (l.drop (halfN l.length)) (i - halfN l.length)
        rw [if_neg (fun q => q rfl), if_pos (show room _ _ by rw [List.length_drop] at this; simp only [room, List.length_cons, List.length_nil]; omega)]
        rfl
theorem include_ref {m : Int} (hm : m = 1 ∨ m = 2) : ∀ (f : Nat) (l : List (List UInt8)) (i : Nat) (down : List (List UInt8)), l.length < f → l.length ≤ 64 → i < l.length → T m l ≠ none → down.length + l.length ≤ 1000 → loopO (g_ref_IncludeOf_l0 m) (l, (i : Int), down) = some (down ++ (IP m f l i).reverse)
  | 0, _, _, _, h, _, _, _, _ => by omega
  | f + 1, l, i, down, hf, h64, hi, hT, hdn => by
    unfold IP
    by_cases h1 : l.length ≤ 1
    · rw [if_pos h1, List.reverse_nil, List.append_nil]
      refine loopO_done ?_
      unfold g_ref_IncludeOf_l0
      dsimp only
      rw [if_neg (by omega)]
    · have hh := halfN_lt (n := l.length) (by omega)
      have hb : (0 : Int) ≤ (halfN l.length : Int) ∧ (halfN l.length : Int) ≤ (l.length : Int) := by omega
      obtain ⟨a, b, ha, hbb⟩ := T_parts (by omega) hT
      rw [if_neg h1]
      by_cases hk : i < halfN l.length
      · have hstep : g_ref_IncludeOf_l0 m (l, (i : Int), down) = some (.inl (l.take (halfN l.length), (i : Int), down ++ [b])) := by
          unfold g_ref_IncludeOf_l0
          dsimp only
          rw [if_pos (by omega), below_eq (by omega) h64, Option.bind_some, if_pos hb, cut_init, cut_tail, if_pos (show (i : Int) < (halfN l.length : Int) by omega), if_pos hb, Option.bind_some]
          dsimp only
          rw [rollOf_eq hm (by rw [List.length_drop]; omega), Option.bind_some, hbb, if_pos (show room _ _ by simp only [room, List.length_cons, List.length_nil]; omega)]
          rfl
        rw [loopO_next hstep, include_ref hm f _ i _ (by rw [List.length_take]; omega) (by rw [List.length_take]; omega) (by rw [List.length_take]; omega) (by rw [ha]; simp) (by rw [List.length_append, List.length_singleton, List.length_take]; omega), if_pos hk, hbb]
        simp
      · have e : w64 ((i : Int) - (halfN l.length : Int)) = ((i - halfN l.length : Nat) : Int) := by rw [w64_id (by omega)]; omega
        have hstep : g_ref_IncludeOf_l0 m (l, (i : Int), down) = some (.inl (l.drop (halfN l.length), ((i - halfN l.length : Nat) : Int), down ++ [a])) := by
          unfold g_ref_IncludeOf_l0
          dsimp only
          rw [if_pos (by omega), below_eq (by omega) h64, Option.bind_some, if_pos hb, cut_init, cut_tail, if_neg (show ¬ ((i : Int) < (halfN l.length : Int)) by omega), if_pos hb, if_pos hb, Option.bind_some, e]
          dsimp only
          rw [rollOf_eq hm (by rw [List.length_take]; omega), Option.bind_some, ha, if_pos (show room _ _ by simp only [room, List.length_cons, List.length_nil]; omega)]
          rfl
        rw [loopO_next hstep, include_ref hm f _ (i - halfN l.length) _ (by rw [List.length_drop]; omega) (by rw [List.length_drop]; omega) (by rw [List.length_drop]; omega) (by rw [hbb]; simp) (by rw [List.length_append, List.length_singleton, List.length_drop]; omega), if_neg hk, ha]
        simp
theorem g_law_RollIncludes_true {x0 : Int} {x1 : List (List UInt8)} {x2 : Int} (_q0 : okI x0) (_q1 : (okL 24 (okL 1 okA)) x1) (_q2 : okI x2) : g_law_RollIncludes x0 x1 x2 = some true := by
  have key : ∃ r, g_roll_Include x0 x1 x2 = some r ∧ g_ref_IncludeOf x0 x1 x2 = some r ∧ r.1.length ≤ 64 := by
    unfold g_roll_Include g_ref_IncludeOf
    obtain ⟨e, h1, h2, h3⟩ := fault_eq x0 x1
    rw [h1, h2, Option.bind_some, Option.bind_some]
    by_cases he : e ≠ 0
    · rw [if_pos he, if_pos he]; exact ⟨_, rfl, rfl, Nat.zero_le _⟩
    · obtain ⟨hm, hl⟩ := h3 (by omega)
      rw [if_neg he, if_neg he]
      by_cases hi : (x2 < (0 : Int)) ∨ (x2 ≥ (x1.length : Int))
      · rw [if_pos hi, if_pos hi]; exact ⟨_, rfl, rfl, Nat.zero_le _⟩
      · rw [if_neg hi, if_neg hi, root_eq hm 100000 x1 (by omega) hl, rollOf_eq hm hl, Option.bind_some, Option.bind_some]
        by_cases hT : T x0 x1 = none
        · rw [hT, if_pos (show (toR none).2 ≠ 0 by decide), if_pos (show (toR none).2 ≠ 0 by decide)]
          exact ⟨_, rfl, rfl, Nat.zero_le _⟩
        · obtain ⟨t, ht⟩ := Option.ne_none_iff_exists'.1 hT
          obtain ⟨i, rfl⟩ := Int.eq_ofNat_of_zero_le (show 0 ≤ x2 by omega)
          have hi2 : i < x1.length := by omega
          rw [ht, if_neg (show ¬ ((toR (some t)).2 ≠ 0) by simp [toR]), if_neg (show ¬ ((toR (some t)).2 ≠ 0) by simp [toR]), include_run hm 100000 x1 i (by omega) hl hi2 hT, include_ref hm 100000 x1 i [] (by omega) hl hi2 hT (by simp only [List.length_nil]; omega), Option.bind_some, Option.bind_some, List.nil_append]
          have := IP_len x0 100000 x1 i
          rw [turned_eq _ (by rw [List.length_reverse]; omega), Option.bind_some, List.reverse_reverse]
          exact ⟨_, rfl, rfl, by dsimp only; omega⟩
  obtain ⟨r, h1, h2, h3⟩ := key
  unfold g_law_RollIncludes
  rw [h1, h2, Option.bind_some, Option.bind_some, if_pos rfl, rl_same _ (by omega)]
  rfl
/-- The pieces that prove that a roll has grown, from the bottom up. -/
noncomputable def EP (m : Int) : Nat → List (List UInt8) → Nat → Bool → List (List UInt8)
  | 0, _, _, _ => []
  | f + 1, l, i, known => if i = l.length then (if known = true then [] else [(T m l).getD []]) else if i ≤ halfN l.length then EP m f (l.take (halfN l.length)) i known ++ [(T m (l.drop (halfN l.length))).getD []] else EP m f (l.drop (halfN l.length)) (i - halfN l.length) false ++ [(T m (l.take (halfN l.length))).getD []]
theorem EP_len (m : Int) : ∀ (f : Nat) (l : List (List UInt8)) (i : Nat) (known : Bool), 1 ≤ i → i ≤ l.length → (EP m f l i known).length ≤ l.length
  | 0, _, _, _, _, _ => Nat.zero_le _
  | f + 1, l, i, known, h1, h2 => by
    unfold EP
    split
    · split
      · exact Nat.zero_le _
      · rw [List.length_singleton]; omega
    · have hh := halfN_lt (n := l.length) (by omega)
      split
      · have := EP_len m f (l.take (halfN l.length)) i known h1 (by rw [List.length_take]; omega)
        rw [List.length_append, List.length_singleton]
        rw [List.length_take] at this
        omega
      · have := EP_len m f (l.drop (halfN l.length)) (i - halfN l.length) false (by omega) (by rw [List.length_drop]; omega)
        rw [List.length_append, List.length_singleton]
        rw [List.length_drop] at this
        omega
theorem extend_run {m : Int} (hm : m = 1 ∨ m = 2) : ∀ (f : Nat) (l : List (List UInt8)) (i : Nat) (known : Bool), l.length < f → l.length ≤ 64 → 1 ≤ i → i ≤ l.length → T m l ≠ none → g_roll_extend f m l (i : Int) known = some (EP m f l i known, 0)
  | 0, _, _, _, h, _, _, _, _ => by omega
  | f + 1, l, i, known, hf, h64, hi1, hi, hT => by
    unfold g_roll_extend g_roll_extend_b EP
    by_cases h1 : (i : Int) = (l.length : Int)
    · rw [if_pos h1, if_pos (show i = l.length by omega)]
      cases known with
      | true => rw [if_pos rfl, if_pos rfl]
      | false =>
        obtain ⟨t, ht⟩ := Option.ne_none_iff_exists'.1 hT
        rw [if_neg (by decide), if_neg (by decide), root_eq hm 100000 _ (by omega) h64, Option.bind_some, ht]
        rfl
    · have hh := halfN_lt (n := l.length) (by omega)
      have hb : (0 : Int) ≤ (halfN l.length : Int) ∧ (halfN l.length : Int) ≤ (l.length : Int) := by omega
      obtain ⟨a, b, ha, hbb⟩ := T_parts (by omega) hT
      rw [if_neg h1, if_neg (show ¬ i = l.length by omega), half_eq h64, Option.bind_some, if_pos hb, if_pos hb, cut_init, cut_tail]
      by_cases hk : i ≤ halfN l.length
      · rw [if_neg (show ¬ ((i : Int) > (halfN l.length : Int)) by omega), Option.bind_some, if_pos hk]
        dsimp only
        rw [extend_run hm f _ i known (by rw [List.length_take]; omega) (by rw [List.length_take]; omega) hi1 (by rw [List.length_take]; omega) (by rw [ha]; simp), Option.bind_some, if_neg (fun q => q rfl), root_eq hm 100000 _ (by rw [List.length_drop]; omega) (by rw [List.length_drop]; omega), Option.bind_some, hbb]
        have := EP_len m f (l.take (halfN l.length)) i known hi1 (by rw [List.length_take]; omega)
        rw [if_neg (fun q => q rfl), if_pos (show room _ _ by rw [List.length_take] at this; simp only [room, List.length_cons, List.length_nil]; omega)]
        rfl
      · have e : w64 ((i : Int) - (halfN l.length : Int)) = ((i - halfN l.length : Nat) : Int) := by rw [w64_id (by omega)]; omega
        rw [if_pos (show (i : Int) > (halfN l.length : Int) by omega), Option.bind_some, if_neg hk, e]
        dsimp only
        rw [extend_run hm f _ (i - halfN l.length) false (by rw [List.length_drop]; omega) (by rw [List.length_drop]; omega) (by omega) (by rw [List.length_drop]; omega) (by rw [hbb]; simp), Option.bind_some, if_neg (fun q => q rfl), root_eq hm 100000 _ (by rw [List.length_take]; omega) (by rw [List.length_take]; omega), Option.bind_some, ha]
        have := EP_len m f (l.drop (halfN l.length)) (i - halfN l.length) false (by omega) (by rw [List.length_drop]; omega)
        rw [if_neg (fun q => q rfl), if_pos (show room _ _ by rw [List.length_drop] at this; simp only [room, List.length_cons, List.length_nil]; omega)]
        rfl
theorem extend_ref {m : Int} (hm : m = 1 ∨ m = 2) : ∀ (f : Nat) (l : List (List UInt8)) (i : Nat) (known : Bool) (down : List (List UInt8)), l.length < f → l.length ≤ 64 → 1 ≤ i → i ≤ l.length → T m l ≠ none → down.length + l.length ≤ 1000 →
    ∃ l' known' down', loopO (g_ref_ExtendOf_l0 m) (l, (i : Int), known, down) = some (l', known', down') ∧ l'.length ≤ 64 ∧ T m l' ≠ none ∧ down'.length ≤ 1000 ∧ (if known' = true then down' else down' ++ [(T m l').getD []]) = down ++ (EP m f l i known).reverse
  | 0, _, _, _, _, h, _, _, _, _, _ => by omega
  | f + 1, l, i, known, down, hf, h64, hi1, hi, hT, hdn => by
    by_cases h1 : i = l.length
    · refine ⟨l, known, down, loopO_done ?_, h64, hT, by omega, ?_⟩
      · unfold g_ref_ExtendOf_l0
        dsimp only
        rw [if_neg (by omega)]
      · unfold EP
        rw [if_pos h1]
        cases known with
        | true => rw [if_pos rfl, if_pos rfl, List.reverse_nil, List.append_nil]
        | false => rw [if_neg (by decide), if_neg (by decide)]; rfl
    · have hh := halfN_lt (n := l.length) (by omega)
      have hb : (0 : Int) ≤ (halfN l.length : Int) ∧ (halfN l.length : Int) ≤ (l.length : Int) := by omega
      obtain ⟨a, b, ha, hbb⟩ := T_parts (by omega) hT
      by_cases hk : i ≤ halfN l.length
      · have hstep : g_ref_ExtendOf_l0 m (l, (i : Int), known, down) = some (.inl (l.take (halfN l.length), (i : Int), known, down ++ [b])) := by
          unfold g_ref_ExtendOf_l0
          dsimp only
          rw [if_pos (by omega), below_eq (by omega) h64, Option.bind_some, if_pos hb, cut_init, cut_tail, if_pos (show (i : Int) ≤ (halfN l.length : Int) by omega), if_pos hb, Option.bind_some]
          dsimp only
          rw [rollOf_eq hm (by rw [List.length_drop]; omega), Option.bind_some, hbb, if_pos (show room _ _ by simp only [room, List.length_cons, List.length_nil]; omega)]
          rfl
        obtain ⟨l', kn, dn, h3, h4, h5, h6, h7⟩ := extend_ref hm f (l.take (halfN l.length)) i known (down ++ [b]) (by rw [List.length_take]; omega) (by rw [List.length_take]; omega) hi1 (by rw [List.length_take]; omega) (by rw [ha]; simp) (by rw [List.length_append, List.length_singleton, List.length_take]; omega)
        refine ⟨l', kn, dn, by rw [loopO_next hstep]; exact h3, h4, h5, h6, ?_⟩
        rw [h7]
        conv => rhs; unfold EP
        rw [if_neg h1, if_pos hk, hbb]
        simp
      · have e : w64 ((i : Int) - (halfN l.length : Int)) = ((i - halfN l.length : Nat) : Int) := by rw [w64_id (by omega)]; omega
        have hstep : g_ref_ExtendOf_l0 m (l, (i : Int), known, down) = some (.inl (l.drop (halfN l.length), ((i - halfN l.length : Nat) : Int), false, down ++ [a])) := by
          unfold g_ref_ExtendOf_l0
          dsimp only
          rw [if_pos (by omega), below_eq (by omega) h64, Option.bind_some, if_pos hb, cut_init, cut_tail, if_neg (show ¬ ((i : Int) ≤ (halfN l.length : Int)) by omega), if_pos hb, if_pos hb, Option.bind_some, e]
          dsimp only
          rw [rollOf_eq hm (by rw [List.length_take]; omega), Option.bind_some, ha, if_pos (show room _ _ by simp only [room, List.length_cons, List.length_nil]; omega)]
          rfl
        obtain ⟨l', kn, dn, h3, h4, h5, h6, h7⟩ := extend_ref hm f (l.drop (halfN l.length)) (i - halfN l.length) false (down ++ [a]) (by rw [List.length_drop]; omega) (by rw [List.length_drop]; omega) (by omega) (by rw [List.length_drop]; omega) (by rw [hbb]; simp) (by rw [List.length_append, List.length_singleton, List.length_drop]; omega)
        refine ⟨l', kn, dn, by rw [loopO_next hstep]; exact h3, h4, h5, h6, ?_⟩
        rw [h7]
        conv => rhs; unfold EP
        rw [if_neg h1, if_neg hk, ha]
        simp
theorem g_law_RollExtends_true {x0 : Int} {x1 : List (List UInt8)} {x2 : Int} (_q0 : okI x0) (_q1 : (okL 24 (okL 1 okA)) x1) (_q2 : okI x2) : g_law_RollExtends x0 x1 x2 = some true := by
  have key : ∃ r, g_roll_Extend x0 x1 x2 = some r ∧ g_ref_ExtendOf x0 x1 x2 = some r ∧ r.1.length ≤ 64 := by
    unfold g_roll_Extend g_ref_ExtendOf
    obtain ⟨e, h1, h2, h3⟩ := fault_eq x0 x1
    rw [h1, h2, Option.bind_some, Option.bind_some]
    by_cases he : e ≠ 0
    · rw [if_pos he, if_pos he]; exact ⟨_, rfl, rfl, Nat.zero_le _⟩
    · obtain ⟨hm, hl⟩ := h3 (by omega)
      rw [if_neg he, if_neg he]
      by_cases hi : (x2 < (0 : Int)) ∨ (x2 > (x1.length : Int))
      · rw [if_pos hi, if_pos hi]; exact ⟨_, rfl, rfl, Nat.zero_le _⟩
      · rw [if_neg hi, if_neg hi, root_eq hm 100000 x1 (by omega) hl, rollOf_eq hm hl, Option.bind_some, Option.bind_some]
        by_cases hT : T x0 x1 = none
        · rw [hT, if_pos (show (toR none).2 ≠ 0 by decide), if_pos (show (toR none).2 ≠ 0 by decide)]
          exact ⟨_, rfl, rfl, Nat.zero_le _⟩
        · obtain ⟨t, ht⟩ := Option.ne_none_iff_exists'.1 hT
          rw [ht, if_neg (show ¬ ((toR (some t)).2 ≠ 0) by simp [toR]), if_neg (show ¬ ((toR (some t)).2 ≠ 0) by simp [toR])]
          obtain ⟨i, rfl⟩ := Int.eq_ofNat_of_zero_le (show 0 ≤ x2 by omega)
          by_cases h0 : (i : Int) = 0
          · rw [if_pos h0, if_pos (.inl h0)]; exact ⟨_, rfl, rfl, Nat.zero_le _⟩
          · rw [if_neg h0, extend_run hm 100000 x1 i true (by omega) hl (by omega) (by omega) hT, Option.bind_some]
            by_cases hii : (i : Int) = (x1.length : Int)
            · rw [if_pos (.inr hii)]
              have : EP x0 100000 x1 i true = [] := by
                unfold EP
                rw [if_pos (by omega), if_pos rfl]
              rw [this]
              exact ⟨_, rfl, rfl, Nat.zero_le _⟩
            · rw [if_neg (by omega)]
              obtain ⟨l', kn, dn, h4, h5, h6, h7, h8⟩ := extend_ref hm 100000 x1 i true [] (by omega) hl (by omega) (by omega) hT (by simp only [List.length_nil]; omega)
              rw [h4, Option.bind_some]
              dsimp only
              have hlen := EP_len x0 100000 x1 i true (by omega) (by omega)
              rw [List.nil_append] at h8
              have hj : ((if (!kn) = true then (g_ref_rollOf x0 l').bind fun r'11 => if room (dn.length + ([r'11.1] : List (List UInt8)).length) 24 then some (dn ++ ([r'11.1] : List (List UInt8))) else none else some dn)) = some (EP x0 100000 x1 i true).reverse := by
                rw [← h8]
                cases kn with
                | true => rw [if_neg (by decide), if_pos rfl]
                | false =>
                  obtain ⟨t', ht'⟩ := Option.ne_none_iff_exists'.1 h6
                  rw [if_pos (by decide), if_neg (by decide), rollOf_eq hm h5, Option.bind_some, if_pos (show room _ _ by simp only [room, List.length_cons, List.length_nil]; omega), ht']
                  rfl
              rw [hj, Option.bind_some, turned_eq _ (by rw [List.length_reverse]; omega), Option.bind_some, List.reverse_reverse]
              exact ⟨_, rfl, rfl, by dsimp only; omega⟩
  obtain ⟨r, h1, h2, h3⟩ := key
  unfold g_law_RollExtends
  rw [h1, h2, Option.bind_some, Option.bind_some, if_pos rfl, rl_same _ (by omega)]
  rfl
end Go.Proofs.YtkaeboabpahemaaDoor.VM
