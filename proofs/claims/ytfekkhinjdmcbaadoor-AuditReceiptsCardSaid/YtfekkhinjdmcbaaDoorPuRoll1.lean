/- The roll: checking that an entry is in it. -/
import Derived.Test.YtfekkhinjdmcbaaDoorPuRollH
namespace Go.Proofs.YtfekkhinjdmcbaaDoor.VM
open Go Go.RowKit
/-! Shapes: on which side each piece of a path is joined (true: it is the right one) -/
def incR : Nat → Nat → Nat → List Bool
  | 0, _, _ => []
  | f + 1, n, i => if n ≤ 1 then [] else if i < halfN n then incR f (halfN n) i ++ [true] else incR f (n - halfN n) (i - halfN n) ++ [false]
def strip : Nat → Nat → Nat → Nat × Nat
  | 0, a, l => (a, l)
  | f + 1, a, l => if a % 2 = 0 ∧ a > 0 then strip f (a / 2) (l / 2) else (a, l)
def incI : Nat → Nat → Nat → List Bool
  | 0, _, _ => []
  | f + 1, a, l => if l = 0 then [] else if a % 2 = 1 ∨ a = l then false :: incI f ((strip 7 a l).1 / 2) ((strip 7 a l).2 / 2) else true :: incI f (a / 2) (l / 2)
theorem shapes_inc : ((List.range 65).all fun n => (List.range n).all fun i => incR 64 n i == incI 7 i (n - 1)) = true := by decide +kernel
theorem shape_inc {n i : Nat} (hn : n ≤ 64) (hi : i < n) : incR 64 n i = incI 7 i (n - 1) :=
  eq_of_beq (List.all_eq_true.1 (List.all_eq_true.1 shapes_inc n (List.mem_range.2 (by omega))) i (List.mem_range.2 hi))
noncomputable def stN (m : Int) (o : Option (List UInt8)) (z : Bool × List UInt8) : Option (List UInt8) := o.bind fun x => if (dg m 6 (if z.1 = true then [x, z.2] else [z.2, x])).2 = 0 then some (dg m 6 (if z.1 = true then [x, z.2] else [z.2, x])).1 else none
theorem stN_none (m : Int) : ∀ zs : List (Bool × List UInt8), zs.foldl (stN m) none = none
  | [] => rfl
  | z :: zs => stN_none m zs
/-- The entry's own digest. -/
noncomputable def seed5 (m : Int) (entry : List UInt8) : Option (List UInt8) := if (dg m 5 [entry]).2 = 0 then some (dg m 5 [entry]).1 else none
theorem last_of {α : Type} {l : List α} (h : l.length ≠ 0) : ∃ q c, l = q ++ [c] := by
  rcases List.eq_nil_or_concat l with rfl | ⟨q, c, rfl⟩
  · exact absurd rfl h
  · exact ⟨q, c, by simp⟩
theorem init_of {q : List (List UInt8)} {c : List UInt8} (h : (q ++ [c]).length ≤ 140737488355328) : w64 (((q ++ [c]).length : Int) - 1) = (q.length : Int) := by
  rw [List.length_append, List.length_singleton] at h ⊢
  rw [w64_id (by omega)]
  omega
theorem cut_of {q : List (List UInt8)} {c : List UInt8} : cut (q ++ [c]) 0 (q.length : Int) = q := by
  rw [cut_init, List.take_left]
theorem lrd_of {q : List (List UInt8)} {c : List UInt8} : lrd (q ++ [c]) ((q.length : Int)).toNat = c := by
  rw [Int.toNat_natCast, lrd_app_eq rfl]
/-- What a path of the roll comes to, from its end. -/
def Comes (m : Int) (d : Option (List UInt8)) (sh : List Bool) (path : List (List UInt8)) (r : List UInt8 × Bool) : Prop :=
  (path.length = sh.length → (r.2 = true ∧ (sh.zip path).foldl (stN m) d = some r.1) ∨ (r.2 = false ∧ (sh.zip path).foldl (stN m) d = none)) ∧ (path.length ≠ sh.length → r.2 = false)
theorem Comes.snoc {m : Int} {d : Option (List UInt8)} {sh : List Bool} {q : List (List UInt8)} {c : List UInt8} {b : Bool} {r : List UInt8 × Bool} (h : Comes m d sh q r) (hr : r.2 = true) : Comes m d (sh ++ [b]) (q ++ [c]) ((dg m 6 (if b = true then [r.1, c] else [c, r.1])).1, decide ((dg m 6 (if b = true then [r.1, c] else [c, r.1])).2 = 0)) := by
  have hl : q.length = sh.length := Classical.byContradiction fun q => by
    rw [h.2 q] at hr
    cases hr
  refine ⟨fun _ => ?_, fun q => absurd (by simp [hl]) q⟩
  rcases h.1 hl with ⟨_, h2⟩ | ⟨h2, _⟩
  · rw [List.zip_append hl.symm, List.foldl_append, h2]
    show _ ∨ _ ∧ stN m (some r.1) (b, c) = none
    by_cases he : (dg m 6 (if b = true then [r.1, c] else [c, r.1])).2 = 0
    · refine .inl ⟨decide_eq_true he, ?_⟩
      show stN m (some r.1) (b, c) = _
      unfold stN
      rw [Option.bind_some, if_pos he]
    · refine .inr ⟨decide_eq_false he, ?_⟩
      unfold stN
      rw [Option.bind_some, if_neg he]
  · rw [hr] at h2; cases h2
theorem Comes.fail {m : Int} {d : Option (List UInt8)} {sh : List Bool} {q : List (List UInt8)} {c : List UInt8} {b : Bool} {r : List UInt8 × Bool} (h : Comes m d sh q r) (hr : r.2 = false) : Comes m d (sh ++ [b]) (q ++ [c]) ([], false) := by
  refine ⟨fun hl => .inr ⟨rfl, ?_⟩, fun _ => rfl⟩
  have hl : q.length = sh.length := by simpa using hl
  rcases h.1 hl with ⟨h2, _⟩ | ⟨_, h2⟩
  · rw [hr] at h2; cases h2
  · rw [List.zip_append hl.symm, List.foldl_append, h2]
    rfl
theorem included_eq (m : Int) (entry : List UInt8) : ∀ (f fu n i : Nat) (path : List (List UInt8)), n ≤ f → f < fu → f ≤ 64 → i < n → path.length ≤ 140737488355328 → ∃ r : List UInt8 × Bool, g_roll_included fu m (n : Int) (i : Int) entry path = some r ∧ Comes m (seed5 m entry) (incR f n i) path r
  | 0, fu, n, i, path, hn, _, _, hi, _ => by omega
  | f + 1, fu + 1, n, i, path, hn, hfu, h64, hi, hp => by
    unfold g_roll_included g_roll_included_b incR
    by_cases h1 : n = 1
    · subst h1
      rw [if_pos (show ((1 : Nat) : Int) = 1 from rfl), dg_o, Option.bind_some, if_pos (by decide)]
      refine ⟨_, rfl, fun hl => ?_, fun hl => decide_eq_false (fun q => hl (by simpa using q.2))⟩
      have hl0 : path = [] := List.length_eq_zero_iff.1 hl
      subst hl0
      show (decide _ = true ∧ seed5 m entry = _) ∨ (decide _ = false ∧ seed5 m entry = none)
      unfold seed5
      by_cases he : (dg m 5 [entry]).2 = 0
      · rw [if_pos he]; exact .inl ⟨decide_eq_true ⟨he, rfl⟩, rfl⟩
      · rw [if_neg he]; exact .inr ⟨decide_eq_false (fun q => he q.1), rfl⟩
    · rw [if_neg (show ¬ (n : Int) = 1 by omega), if_neg (show ¬ n ≤ 1 by omega)]
      obtain ⟨g1, g2⟩ := halfN_lt (n := n) (by omega)
      by_cases h0 : (path.length : Int) = 0
      · rw [if_pos h0]
        refine ⟨_, rfl, fun hl => ?_, fun _ => rfl⟩
        exfalso
        have hl0 : path.length = 0 := by omega
        rw [hl0] at hl
        split at hl <;> simp at hl
      · rw [if_neg h0, half_eq (by omega), Option.bind_some]
        obtain ⟨q, c, rfl⟩ := last_of (l := path) (by omega)
        have hq : q.length ≤ 140737488355328 := by rw [List.length_append] at hp; omega
        have hlen : ((q ++ [c]).length : Int) = (q.length : Int) + 1 := by simp
        rw [init_of hp, cut_of, lrd_of]
        by_cases hih : i < halfN n
        · rw [if_pos hih, if_pos (show (i : Int) < ((halfN n : Nat) : Int) by omega), if_pos (by omega)]
          obtain ⟨r, h3, h4⟩ := included_eq m entry f fu (halfN n) i q (by omega) (by omega) (by omega) hih hq
          rw [h3, Option.bind_some]
          by_cases hr : r.2 = true
          · rw [hr]
            simp only [Bool.not_true, Bool.false_eq_true, if_false]
            rw [if_pos (by omega)]
            unfold g_roll_pair
            rw [dg_o, Option.bind_some, Option.bind_some]
            exact ⟨_, rfl, h4.snoc (b := true) hr⟩
          · have hr : r.2 = false := by simpa using hr
            rw [hr]
            exact ⟨_, rfl, h4.fail hr⟩
        · rw [if_neg hih, if_neg (show ¬ (i : Int) < ((halfN n : Nat) : Int) by omega), if_pos (by omega)]
          obtain ⟨r, h3, h4⟩ := included_eq m entry f fu (n - halfN n) (i - halfN n) q (by omega) (by omega) (by omega) (by omega) hq
          have e1 : w64 ((n : Int) - ((halfN n : Nat) : Int)) = ((n - halfN n : Nat) : Int) := by rw [w64_id (by omega)]; omega
          have e2 : w64 ((i : Int) - ((halfN n : Nat) : Int)) = ((i - halfN n : Nat) : Int) := by rw [w64_id (by omega)]; omega
          rw [e1, e2, h3, Option.bind_some]
          by_cases hr : r.2 = true
          · rw [hr]
            simp only [Bool.not_true, Bool.false_eq_true, if_false]
            rw [if_pos (by omega)]
            unfold g_roll_pair
            rw [dg_o, Option.bind_some, Option.bind_some]
            exact ⟨_, rfl, h4.snoc (b := false) hr⟩
          · have hr : r.2 = false := by simpa using hr
            rw [hr]
            exact ⟨_, rfl, h4.fail hr⟩
/-! From the front -/
theorem strip_eq : ∀ (f a l : Nat), a < 2 ^ f → a ≤ 64 → l ≤ 64 → loopO g_ref_IncludeFault_l1 ((a : Int), (l : Int)) = some (((strip f a l).1 : Int), ((strip f a l).2 : Int)) ∧ (strip f a l).1 ≤ a ∧ (strip f a l).2 ≤ l
  | 0, a, l, h, h1, h2 => by
    have : a = 0 := by omega
    subst this
    refine ⟨loopO_done ?_, Nat.le_refl _, Nat.le_refl _⟩
    unfold g_ref_IncludeFault_l1
    dsimp only
    rw [if_neg (by omega)]
    rfl
  | f + 1, a, l, h, h1, h2 => by
    unfold strip
    by_cases hc : a % 2 = 0 ∧ a > 0
    · rw [if_pos hc]
      obtain ⟨h3, h4, h5⟩ := strip_eq f (a / 2) (l / 2) (by rw [Nat.pow_succ] at h; omega) (by omega) (by omega)
      refine ⟨?_, by omega, by omega⟩
      rw [← h3]
      refine loopO_next ?_
      unfold g_ref_IncludeFault_l1
      dsimp only
      rw [if_pos (by
        have : (a : Int).tmod 2 = ((a % 2 : Nat) : Int) := rfl
        omega), show (a : Int).tdiv 2 = ((a / 2 : Nat) : Int) from rfl, show (l : Int).tdiv 2 = ((l / 2 : Nat) : Int) from rfl, w64_div (by omega), w64_div (by omega)]
    · rw [if_neg hc]
      refine ⟨loopO_done ?_, Nat.le_refl _, Nat.le_refl _⟩
      unfold g_ref_IncludeFault_l1
      dsimp only
      rw [if_neg (by
        have : (a : Int).tmod 2 = ((a % 2 : Nat) : Int) := rfl
        omega)]
theorem zip_step {sh : List Bool} {path : List (List UInt8)} {k : Nat} (h1 : k < sh.length) (h2 : k < path.length) : (sh.zip path).take (k + 1) = (sh.zip path).take k ++ [(lrd sh k, lrd path k)] := by
  have hz : k < (sh.zip path).length := by rw [List.length_zip]; omega
  rw [take_step hz]
  congr 2
  simp only [lrd, List.getD_eq_getElem?_getD, List.getElem?_eq_getElem hz, List.getElem?_eq_getElem h1, List.getElem?_eq_getElem h2, Option.getD_some, List.getElem_zip]
theorem zip_take_all {sh : List Bool} {path : List (List UInt8)} {k : Nat} (h : (sh.zip path).length ≤ k) : (sh.zip path).take k = sh.zip path := List.take_of_length_le h
theorem fold_none {m : Int} {d : Option (List UInt8)} {zs : List (Bool × List UInt8)} {k : Nat} (h : (zs.take k).foldl (stN m) d = none) : zs.foldl (stN m) d = none := by
  rw [← List.take_append_drop k zs, List.foldl_append, h, stN_none]
theorem drop_cons {α : Type} [Inhabited α] {l : List α} {k : Nat} {b : α} {rest : List α} (h : l.drop k = b :: rest) : k < l.length ∧ lrd l k = b ∧ l.drop (k + 1) = rest := by
  have hk : k < l.length := Classical.byContradiction fun q => by
    rw [List.drop_eq_nil_of_le (by omega)] at h
    cases h
  rw [List.drop_eq_getElem_cons hk] at h
  cases h
  exact ⟨hk, by simp [lrd, hk], rfl⟩
theorem front_loop {m : Int} {sh : List Bool} {d0 : List UInt8 × Int} {path : List (List UInt8)} {a l : Nat} (hsh : incI 7 a l = sh) (ha : a ≤ 63) (hl : l ≤ 63) (hp : path.length ≤ 140737488355328) : ∃ r, loopO (g_ref_IncludeFault_l0 m path) (d0.1, d0.2, (a : Int), (l : Int), (0 : Int)) = some r ∧
    ((r = .inl 10 ∧ (path.length ≠ sh.length ∨ (sh.zip path).foldl (stN m) (if d0.2 = 0 then some d0.1 else none) = none)) ∨
     ∃ x : List UInt8 × Int, ∃ l' : Nat, r = .inr (x.1, x.2, (l' : Int)) ∧ (l' = 0 ↔ path.length = sh.length) ∧ (sh.zip path).foldl (stN m) (if d0.2 = 0 then some d0.1 else none) = if x.2 = 0 then some x.1 else none) := by
  refine loopO_rule (I := fun s : List UInt8 × Int × Int × Int × Int => ∃ (k a l f : Nat) (x : List UInt8 × Int), s = (x.1, x.2, (a : Int), (l : Int), (k : Int)) ∧ k ≤ path.length ∧ k ≤ sh.length ∧ a ≤ 63 ∧ l ≤ 63 ∧ l < 2 ^ f ∧ incI f a l = sh.drop k ∧ ((sh.zip path).take k).foldl (stN m) (if d0.2 = 0 then some d0.1 else none) = if x.2 = 0 then some x.1 else none) _ (fun s => path.length - s.2.2.2.2.toNat) (fun s hs => ?_) ⟨0, a, l, 7, d0, rfl, Nat.zero_le _, Nat.zero_le _, ha, hl, by omega, hsh, rfl⟩
  obtain ⟨k, a, l, f, x, rfl, hk, hks, ha, hl, hlf, hi, hf⟩ := hs
  unfold g_ref_IncludeFault_l0
  dsimp only
  by_cases hkl : k < path.length
  · rw [if_pos (natLt hkl), if_pos (natIn hkl), Int.toNat_natCast]
    by_cases hx : x.2 ≠ 0 ∨ (l : Int) = 0
    · rw [if_pos hx]
      refine .inr ⟨_, rfl, .inl ⟨rfl, ?_⟩⟩
      rcases hx with hx | hx
      · rw [if_neg hx] at hf
        exact .inr (fold_none hf)
      · left
        have : sh.drop k = [] := by
          rw [← hi, show l = 0 by omega]
          cases f <;> rfl
        have := List.drop_eq_nil_iff.1 this
        omega
    · rw [if_neg hx]
      have hx0 : x.2 = 0 := by omega
      have hl0 : l ≠ 0 := by omega
      obtain ⟨f, rfl⟩ : ∃ g, f = g + 1 := ⟨f - 1, by
        cases f with
        | zero => omega
        | succ f => rfl⟩
      rw [if_pos hx0] at hf
      have e1 : (a : Int).tmod 2 = ((a % 2 : Nat) : Int) := rfl
      unfold incI at hi
      rw [if_neg hl0] at hi
      by_cases hc : a % 2 = 1 ∨ a = l
      · rw [if_pos hc] at hi
        obtain ⟨h1, h2, h3⟩ := drop_cons hi.symm
        obtain ⟨s1, s2, s3⟩ := strip_eq 7 a l (by omega) (by omega) (by omega)
        rw [if_pos (by omega), dg_r, Option.bind_some, s1, Option.bind_some, Option.bind_some]
        dsimp only
        rw [show (((strip 7 a l).1 : Nat) : Int).tdiv 2 = (((strip 7 a l).1 / 2 : Nat) : Int) from rfl, show (((strip 7 a l).2 : Nat) : Int).tdiv 2 = (((strip 7 a l).2 / 2 : Nat) : Int) from rfl, w64_div (by omega), w64_div (by omega), w64_succ (by omega)]
        refine .inl ⟨_, rfl, ⟨k + 1, _, _, f, dg m 6 [lrd path k, x.1], rfl, hkl, h1, by omega, by omega, by rw [Nat.pow_succ] at hlf; omega, h3.symm, ?_⟩, ?_⟩
        · rw [zip_step h1 hkl, List.foldl_append, hf, h2]
          rfl
        · simp only [Int.toNat_natCast]; omega
      · rw [if_neg hc] at hi
        obtain ⟨h1, h2, h3⟩ := drop_cons hi.symm
        rw [if_neg (by omega), dg_r, Option.bind_some, Option.bind_some]
        dsimp only
        rw [show (a : Int).tdiv 2 = ((a / 2 : Nat) : Int) from rfl, show (l : Int).tdiv 2 = ((l / 2 : Nat) : Int) from rfl, w64_div (by omega), w64_div (by omega), w64_succ (by omega)]
        refine .inl ⟨_, rfl, ⟨k + 1, _, _, f, dg m 6 [x.1, lrd path k], rfl, hkl, h1, by omega, by omega, by rw [Nat.pow_succ] at hlf; omega, h3.symm, ?_⟩, ?_⟩
        · rw [zip_step h1 hkl, List.foldl_append, hf, h2]
          rfl
        · simp only [Int.toNat_natCast]; omega
  · have : k = path.length := by omega
    subst this
    rw [if_neg natNlt]
    refine .inr ⟨_, rfl, .inr ⟨x, l, rfl, ?_, ?_⟩⟩
    · constructor
      · intro h
        have : sh.drop path.length = [] := by
          rw [← hi, h]
          cases f <;> rfl
        have := List.drop_eq_nil_iff.1 this
        omega
      · intro h
        rw [h, List.drop_length] at hi
        cases f with
        | zero => omega
        | succ f =>
          unfold incI at hi
          by_cases h0 : l = 0
          · exact h0
          · rw [if_neg h0] at hi
            split at hi <;> cases hi
    · rw [← hf, zip_take_all (by rw [List.length_zip]; omega)]
theorem len24 {x : List (List UInt8)} (q : (okL 24 (okL 1 okA)) x) : x.length * 24 ≤ 70368744177664 ∨ x.length ≤ 140737488355328 := by
  have := q.1
  simp only [reachBytes] at this
  omega
theorem include_eq {x0 : Int} {x1 : List UInt8} {x2 : Int} {x3 : Int} {x4 : List UInt8} {x5 : List (List UInt8)} (q5 : (okL 24 (okL 1 okA)) x5) : ∃ r : Int, g_roll_CheckInclude x0 x1 x2 x3 x4 x5 = some r ∧ g_ref_IncludeFault x0 x1 x2 x3 x4 x5 = some r := by
  have hl5 : x5.length ≤ 140737488355328 := by
    have := q5.1
    simp only [reachBytes] at this
    omega
  unfold g_roll_CheckInclude g_ref_IncludeFault g_roll_modes g_ref_badMode
  simp only [Option.bind_some]
  by_cases hm : x0 = 1 ∨ x0 = 2
  · have hb : decide (x0 ≠ 1 ∧ x0 ≠ 2) = false := decide_eq_false (by omega)
    rw [decide_eq_true hm, hb]
    simp only [Bool.not_true, Bool.false_eq_true, if_false]
    by_cases hn : x2 < 0 ∨ x2 > 64
    · rw [if_pos hn, if_pos hn]
      exact ⟨_, rfl, rfl⟩
    · rw [if_neg hn, if_neg hn]
      by_cases hi : x3 < 0 ∨ x3 ≥ x2
      · rw [if_pos hi, if_pos hi]
        exact ⟨_, rfl, rfl⟩
      · rw [if_neg hi, if_neg hi, dg_r, Option.bind_some]
        obtain ⟨n, rfl⟩ := Int.eq_ofNat_of_zero_le (show 0 ≤ x2 by omega)
        obtain ⟨i, rfl⟩ := Int.eq_ofNat_of_zero_le (show 0 ≤ x3 by omega)
        have hn64 : n ≤ 64 := by omega
        have hin : i < n := by omega
        obtain ⟨r, h1, h2⟩ := included_eq x0 x4 64 100000 n i x5 hn64 (by decide) (Nat.le_refl _) hin hl5
        rw [shape_inc hn64 hin] at h2
        have e1 : w64 ((n : Int) - 1) = ((n - 1 : Nat) : Int) := by rw [w64_id (by omega)]; omega
        obtain ⟨q, h3, h4⟩ := front_loop (m := x0) (d0 := dg x0 5 [x4]) (path := x5) (a := i) (l := n - 1) rfl (by omega) (by omega) hl5
        rw [h1, e1, h3, Option.bind_some, Option.bind_some]
        change (q = _ ∧ (_ ∨ List.foldl (stN x0) (seed5 x0 x4) _ = none)) ∨ ∃ x : List UInt8 × Int, ∃ l' : Nat, _ ∧ _ ∧ List.foldl (stN x0) (seed5 x0 x4) _ = _ at h4
        by_cases hl : x5.length = (incI 7 i (n - 1)).length
        · rcases h2.1 hl with ⟨h5, h6⟩ | ⟨h5, h6⟩
          · rcases h4 with ⟨_, h7 | h7⟩ | ⟨x, l', rfl, h7, h8⟩
            · exact absurd hl h7
            · rw [h6] at h7; cases h7
            · rw [h6] at h8
              by_cases hx : x.2 = 0
              · rw [if_pos hx] at h8
                have h8 := Option.some.inj h8
                rw [h5]
                unfold g_bytes_Equal
                have hl0 : l' = 0 := h7.2 hl
                simp only [Bool.not_true, Bool.false_eq_true, if_false, Option.bind_some]
                by_cases h9 : r.1 = x1
                · have h10 : x.1 = x1 := by rw [← h8]; exact h9
                  refine ⟨0, by simp [h9], ?_⟩
                  rw [if_neg (by rw [hl0]; intro q; rcases q with (q | q) | q <;> simp_all)]
                · have h10 : x.1 ≠ x1 := by rw [← h8]; exact h9
                  refine ⟨10, by simp [h9], ?_⟩
                  rw [if_pos (.inr h10)]
              · rw [if_neg hx] at h8; cases h8
          · rw [h5]
            refine ⟨10, by simp, ?_⟩
            rcases h4 with ⟨rfl, _⟩ | ⟨x, l', rfl, h7, h8⟩
            · rfl
            · rw [h6] at h8
              by_cases hx : x.2 = 0
              · rw [if_pos hx] at h8; cases h8
              · dsimp only
                rw [if_pos (.inl (.inl hx))]
        · rw [h2.2 hl]
          refine ⟨10, by simp, ?_⟩
          rcases h4 with ⟨rfl, _⟩ | ⟨x, l', rfl, h7, h8⟩
          · rfl
          · have : l' ≠ 0 := fun q => hl (h7.1 q)
            dsimp only
            rw [if_pos (.inl (.inr (by omega)))]
  · have hb : decide (x0 ≠ 1 ∧ x0 ≠ 2) = true := decide_eq_true (by omega)
    rw [decide_eq_false hm, hb]
    exact ⟨_, rfl, rfl⟩
end Go.Proofs.YtfekkhinjdmcbaaDoor.VM
