/- The roll: checking that one head goes on from another. -/
import Derived.Test.YtkaeboabpahemaaDoorPuRoll1
namespace Go.Proofs.YtkaeboabpahemaaDoor.VM
open Go Go.RowKit
def extR : Nat → Nat → Nat → Bool → List Bool × Bool
  | 0, _, _, k => ([], k)
  | f + 1, m, n, k => if m = n then ([], k) else if m ≤ halfN n then ((extR f m (halfN n) k).1 ++ [true], (extR f m (halfN n) k).2) else ((extR f (m - halfN n) (n - halfN n) false).1 ++ [false], (extR f (m - halfN n) (n - halfN n) false).2)
def strip1 : Nat → Nat → Nat → Nat × Nat
  | 0, a, l => (a, l)
  | f + 1, a, l => if a % 2 = 1 then strip1 f (a / 2) (l / 2) else (a, l)
theorem shapes_ext : ((List.range 65).all fun n => (List.range n).all fun m => m == 0 || extR 64 m n true == (incI 7 (strip1 7 (m - 1) (n - 1)).1 (strip1 7 (m - 1) (n - 1)).2, (strip1 7 (m - 1) (n - 1)).1 == 0)) = true := by decide +kernel
theorem shape_ext {n m : Nat} (hn : n ≤ 64) (h1 : 1 ≤ m) (hm : m < n) : extR 64 m n true = (incI 7 (strip1 7 (m - 1) (n - 1)).1 (strip1 7 (m - 1) (n - 1)).2, (strip1 7 (m - 1) (n - 1)).1 == 0) := by
  have h := List.all_eq_true.1 (List.all_eq_true.1 shapes_ext n (List.mem_range.2 (by omega))) m (List.mem_range.2 hm)
  rw [Bool.or_eq_true] at h
  rcases h with h | h
  · have := eq_of_beq h; omega
  · exact eq_of_beq h
noncomputable def stE (m : Int) (o : Option (List UInt8 × List UInt8)) (z : Bool × List UInt8) : Option (List UInt8 × List UInt8) := o.bind fun x => if z.1 = true then (if (dg m 6 [x.2, z.2]).2 = 0 then some (x.1, (dg m 6 [x.2, z.2]).1) else none) else (if (dg m 6 [z.2, x.1]).2 = 0 ∧ (dg m 6 [z.2, x.2]).2 = 0 then some ((dg m 6 [z.2, x.1]).1, (dg m 6 [z.2, x.2]).1) else none)
theorem stE_none (m : Int) : ∀ zs : List (Bool × List UInt8), zs.foldl (stE m) none = none
  | [] => rfl
  | z :: zs => stE_none m zs
theorem foldE_none {m : Int} {d : Option (List UInt8 × List UInt8)} {zs : List (Bool × List UInt8)} {k : Nat} (h : (zs.take k).foldl (stE m) d = none) : zs.foldl (stE m) d = none := by
  rw [← List.take_append_drop k zs, List.foldl_append, h, stE_none]
/-- The path with what is known ahead of it. -/
def withOld (old : List UInt8) (k : Bool) (path : List (List UInt8)) : List (List UInt8) := if k = true then [old] ++ path else path
theorem withOld_snoc (old : List UInt8) (k : Bool) (q : List (List UInt8)) (c : List UInt8) : withOld old k (q ++ [c]) = withOld old k q ++ [c] := by
  unfold withOld
  split
  · rw [List.append_assoc]
  · rfl
def ComesE (m : Int) (w : List (List UInt8)) (sh : List Bool) (r : List UInt8 × List UInt8 × Bool) : Prop :=
  (w.length = sh.length + 1 → (r.2.2 = true ∧ (sh.zip (w.drop 1)).foldl (stE m) (some (lrd w 0, lrd w 0)) = some (r.1, r.2.1)) ∨ (r.2.2 = false ∧ (sh.zip (w.drop 1)).foldl (stE m) (some (lrd w 0, lrd w 0)) = none)) ∧ (w.length ≠ sh.length + 1 → r.2.2 = false)
theorem snoc_fold {m : Int} {w : List (List UInt8)} {sh : List Bool} {c : List UInt8} {b : Bool} (hl : w.length = sh.length + 1) : ((sh ++ [b]).zip ((w ++ [c]).drop 1)).foldl (stE m) (some (lrd (w ++ [c]) 0, lrd (w ++ [c]) 0)) = stE m ((sh.zip (w.drop 1)).foldl (stE m) (some (lrd w 0, lrd w 0))) (b, c) := by
  have h1 : (w ++ [c]).drop 1 = w.drop 1 ++ [c] := List.drop_append_of_le_length (by omega)
  have h2 : lrd (w ++ [c]) 0 = lrd w 0 := lrd_app_lt (by omega)
  have h3 : sh.length = (w.drop 1).length := by rw [List.length_drop]; omega
  rw [h1, h2, List.zip_append h3, List.foldl_append]
  rfl
theorem ComesE.snocR {m : Int} {w : List (List UInt8)} {sh : List Bool} {c : List UInt8} {r : List UInt8 × List UInt8 × Bool} (h : ComesE m w sh r) (hr : r.2.2 = true) : ComesE m (w ++ [c]) (sh ++ [true]) (r.1, (dg m 6 [r.2.1, c]).1, decide ((dg m 6 [r.2.1, c]).2 = 0)) := by
  have hl : w.length = sh.length + 1 := Classical.byContradiction fun q => by
    rw [h.2 q] at hr
    cases hr
  refine ⟨fun _ => ?_, fun q => absurd (by simp [hl]) q⟩
  rcases h.1 hl with ⟨_, h2⟩ | ⟨h2, _⟩
  · rw [snoc_fold hl, h2]
    unfold stE
    rw [Option.bind_some, if_pos rfl]
    by_cases he : (dg m 6 [r.2.1, c]).2 = 0
    · exact .inl ⟨decide_eq_true he, by rw [if_pos he]⟩
    · exact .inr ⟨decide_eq_false he, by rw [if_neg he]⟩
  · rw [hr] at h2; cases h2
theorem ComesE.snocL {m : Int} {w : List (List UInt8)} {sh : List Bool} {c : List UInt8} {r : List UInt8 × List UInt8 × Bool} (h : ComesE m w sh r) (hr : r.2.2 = true) : ComesE m (w ++ [c]) (sh ++ [false]) ((dg m 6 [c, r.1]).1, (dg m 6 [c, r.2.1]).1, decide ((dg m 6 [c, r.1]).2 = 0 ∧ (dg m 6 [c, r.2.1]).2 = 0)) := by
  have hl : w.length = sh.length + 1 := Classical.byContradiction fun q => by
    rw [h.2 q] at hr
    cases hr
  refine ⟨fun _ => ?_, fun q => absurd (by simp [hl]) q⟩
  rcases h.1 hl with ⟨_, h2⟩ | ⟨h2, _⟩
  · rw [snoc_fold hl, h2]
    unfold stE
    rw [Option.bind_some, if_neg (by simp)]
    by_cases he : (dg m 6 [c, r.1]).2 = 0 ∧ (dg m 6 [c, r.2.1]).2 = 0
    · exact .inl ⟨decide_eq_true he, by rw [if_pos he]⟩
    · exact .inr ⟨decide_eq_false he, by rw [if_neg he]⟩
  · rw [hr] at h2; cases h2
theorem ComesE.fail {m : Int} {w : List (List UInt8)} {sh : List Bool} {c : List UInt8} {b : Bool} {r : List UInt8 × List UInt8 × Bool} (h : ComesE m w sh r) (hr : r.2.2 = false) : ComesE m (w ++ [c]) (sh ++ [b]) ([], [], false) := by
  refine ⟨fun hl => .inr ⟨rfl, ?_⟩, fun _ => rfl⟩
  have hl : w.length = sh.length + 1 := by simpa using hl
  rcases h.1 hl with ⟨h2, _⟩ | ⟨_, h2⟩
  · rw [hr] at h2; cases h2
  · rw [snoc_fold hl, h2]
    rfl
theorem roots_eq (x : Groll_extension) : ∀ (f fu m n : Nat) (k : Bool) (path : List (List UInt8)), n ≤ f → f < fu → f ≤ 64 → 1 ≤ m → m ≤ n → path.length ≤ 140737488355328 → ∃ r : List UInt8 × List UInt8 × Bool, g_roll_extension_roots fu x (m : Int) (n : Int) k path = some r ∧ ComesE x.mode_ (withOld x.old_ (extR f m n k).2 path) (extR f m n k).1 r
  | 0, fu, m, n, k, path, hn, _, _, h1, hm, _ => by omega
  | f + 1, fu + 1, m, n, k, path, hn, hfu, h64, h1, hm, hp => by
    unfold g_roll_extension_roots g_roll_extension_roots_b extR
    by_cases he : m = n
    · subst he
      rw [if_pos rfl, if_pos rfl]
      dsimp only
      cases k with
      | true =>
        rw [if_pos rfl]
        refine ⟨_, rfl, fun hl => .inl ⟨?_, rfl⟩, fun hl => ?_⟩
        · simp only [withOld, if_true, List.length_append, List.length_cons, List.length_nil] at hl
          exact decide_eq_true (by omega)
        · simp only [withOld, if_true, List.length_append, List.length_cons, List.length_nil] at hl
          exact decide_eq_false (by omega)
      | false =>
        rw [if_neg (by decide)]
        have hw : withOld x.old_ false path = path := rfl
        rw [hw]
        by_cases hl : (path.length : Int) ≠ 1
        · rw [if_pos hl]
          exact ⟨_, rfl, fun q => absurd (show (path.length : Int) = 1 by rw [q]; rfl) hl, fun _ => rfl⟩
        · rw [if_neg hl, if_pos (by omega), if_pos (by omega)]
          exact ⟨_, rfl, fun _ => .inl ⟨rfl, rfl⟩, fun q => absurd (show path.length = 0 + 1 by omega) q⟩
    · rw [if_neg (show ¬ (m : Int) = (n : Int) by omega), if_neg he]
      obtain ⟨g1, g2⟩ := halfN_lt (n := n) (by omega)
      by_cases h0 : (path.length : Int) = 0
      · rw [if_pos h0]
        refine ⟨_, rfl, fun hl => ?_, fun _ => rfl⟩
        exfalso
        have hl0 : path.length = 0 := by omega
        have hw : ∀ k, (withOld x.old_ k path).length ≤ 1 := by
          intro k
          unfold withOld
          split
          · rw [List.length_append, hl0]; simp
          · omega
        split at hl
        · have := hw (extR f m (halfN n) k).2
          simp only [List.length_append, List.length_cons, List.length_nil] at hl
          omega
        · have := hw (extR f (m - halfN n) (n - halfN n) false).2
          simp only [List.length_append, List.length_cons, List.length_nil] at hl
          omega
      · rw [if_neg h0, half_eq (by omega), Option.bind_some]
        obtain ⟨q, c, rfl⟩ := last_of (l := path) (by omega)
        have hq : q.length ≤ 140737488355328 := by rw [List.length_append] at hp; omega
        have hlen : ((q ++ [c]).length : Int) = (q.length : Int) + 1 := by simp
        rw [init_of hp, cut_of, lrd_of]
        by_cases hih : m ≤ halfN n
        · rw [if_pos hih, if_pos (show (m : Int) ≤ ((halfN n : Nat) : Int) by omega), if_pos (by omega)]
          obtain ⟨r, h3, h4⟩ := roots_eq x f fu m (halfN n) k q (by omega) (by omega) (by omega) h1 hih hq
          rw [h3, Option.bind_some, withOld_snoc]
          by_cases hr : r.2.2 = true
          · rw [hr]
            simp only [Bool.not_true, Bool.false_eq_true, if_false]
            rw [if_pos (by omega)]
            unfold g_roll_pair
            rw [dg_o, Option.bind_some, Option.bind_some]
            exact ⟨_, rfl, h4.snocR hr⟩
          · have hr : r.2.2 = false := by simpa using hr
            rw [hr]
            exact ⟨_, rfl, h4.fail hr⟩
        · rw [if_neg hih, if_neg (show ¬ (m : Int) ≤ ((halfN n : Nat) : Int) by omega), if_pos (by omega)]
          obtain ⟨r, h3, h4⟩ := roots_eq x f fu (m - halfN n) (n - halfN n) false q (by omega) (by omega) (by omega) (by omega) (by omega) hq
          have e1 : w64 ((n : Int) - ((halfN n : Nat) : Int)) = ((n - halfN n : Nat) : Int) := by rw [w64_id (by omega)]; omega
          have e2 : w64 ((m : Int) - ((halfN n : Nat) : Int)) = ((m - halfN n : Nat) : Int) := by rw [w64_id (by omega)]; omega
          rw [e1, e2, h3, Option.bind_some, withOld_snoc]
          by_cases hr : r.2.2 = true
          · rw [hr]
            simp only [Bool.not_true, Bool.false_eq_true, if_false]
            rw [if_pos (by omega)]
            unfold g_roll_pair
            rw [dg_o, Option.bind_some, Option.bind_some, if_pos (by omega), dg_o, Option.bind_some, Option.bind_some]
            exact ⟨_, rfl, h4.snocL hr⟩
          · have hr : r.2.2 = false := by simpa using hr
            rw [hr]
            exact ⟨_, rfl, h4.fail hr⟩
/-! From the front -/
theorem strip1_eq : ∀ (f a l : Nat), a < 2 ^ f → a ≤ 64 → l ≤ 64 → loopO g_ref_extended_l0 ((a : Int), (l : Int)) = some (((strip1 f a l).1 : Int), ((strip1 f a l).2 : Int)) ∧ (strip1 f a l).1 ≤ a ∧ (strip1 f a l).2 ≤ l
  | 0, a, l, h, h1, h2 => by
    have : a = 0 := by omega
    subst this
    refine ⟨loopO_done ?_, Nat.le_refl _, Nat.le_refl _⟩
    unfold g_ref_extended_l0
    dsimp only
    rw [if_neg (by decide)]
    rfl
  | f + 1, a, l, h, h1, h2 => by
    unfold strip1
    have e : (a : Int).tmod 2 = ((a % 2 : Nat) : Int) := rfl
    by_cases hc : a % 2 = 1
    · rw [if_pos hc]
      obtain ⟨h3, h4, h5⟩ := strip1_eq f (a / 2) (l / 2) (by rw [Nat.pow_succ] at h; omega) (by omega) (by omega)
      refine ⟨?_, by omega, by omega⟩
      rw [← h3]
      refine loopO_next ?_
      unfold g_ref_extended_l0
      dsimp only
      rw [if_pos (by omega), show (a : Int).tdiv 2 = ((a / 2 : Nat) : Int) from rfl, show (l : Int).tdiv 2 = ((l / 2 : Nat) : Int) from rfl, w64_div (by omega), w64_div (by omega)]
    · rw [if_neg hc]
      refine ⟨loopO_done ?_, Nat.le_refl _, Nat.le_refl _⟩
      unfold g_ref_extended_l0
      dsimp only
      rw [if_neg (by omega)]
theorem strip_eq2 : ∀ (f a l : Nat), a < 2 ^ f → a ≤ 64 → l ≤ 64 → loopO g_ref_extended_l2 ((a : Int), (l : Int)) = some (((strip f a l).1 : Int), ((strip f a l).2 : Int)) ∧ (strip f a l).1 ≤ a ∧ (strip f a l).2 ≤ l
  | 0, a, l, h, h1, h2 => by
    have : a = 0 := by omega
    subst this
    refine ⟨loopO_done ?_, Nat.le_refl _, Nat.le_refl _⟩
    unfold g_ref_extended_l2
    dsimp only
    rw [if_neg (by omega)]
    rfl
  | f + 1, a, l, h, h1, h2 => by
    unfold strip
    have e : (a : Int).tmod 2 = ((a % 2 : Nat) : Int) := rfl
    by_cases hc : a % 2 = 0 ∧ a > 0
    · rw [if_pos hc]
      obtain ⟨h3, h4, h5⟩ := strip_eq2 f (a / 2) (l / 2) (by rw [Nat.pow_succ] at h; omega) (by omega) (by omega)
      refine ⟨?_, by omega, by omega⟩
      rw [← h3]
      refine loopO_next ?_
      unfold g_ref_extended_l2
      dsimp only
      rw [if_pos (by omega), show (a : Int).tdiv 2 = ((a / 2 : Nat) : Int) from rfl, show (l : Int).tdiv 2 = ((l / 2 : Nat) : Int) from rfl, w64_div (by omega), w64_div (by omega)]
    · rw [if_neg hc]
      refine ⟨loopO_done ?_, Nat.le_refl _, Nat.le_refl _⟩
      unfold g_ref_extended_l2
      dsimp only
      rw [if_neg (by omega)]
theorem cut_tail {w : List (List UInt8)} : cut w 1 (w.length : Int) = w.drop 1 := by
  simp only [cut, Int.toNat_natCast]
  rw [List.take_of_length_le (by rw [List.length_drop]; exact Nat.le_refl _)]
  rfl
theorem frontE_loop {m : Int} {sh : List Bool} {w : List (List UInt8)} {p0 : List UInt8} {a l : Nat} (hsh : incI 7 a l = sh) (ha : a ≤ 63) (hl : l ≤ 63) (hp : w.length ≤ 140737488355328) : ∃ r, loopO (g_ref_extended_l1 m w) ((a : Int), (l : Int), p0, p0, (0 : Int), (0 : Int), (0 : Int)) = some r ∧
    ((r = .inl false ∧ ((w.drop 1).length ≠ sh.length ∨ (sh.zip (w.drop 1)).foldl (stE m) (some (p0, p0)) = none)) ∨
     ∃ (x : List UInt8 × List UInt8) (e f : Int) (l' : Nat), r = .inr ((l' : Int), x.1, x.2, e, f) ∧ (l' = 0 ↔ (w.drop 1).length = sh.length) ∧ (sh.zip (w.drop 1)).foldl (stE m) (some (p0, p0)) = if e = 0 ∧ f = 0 then some x else none) := by
  have hpl : (w.drop 1).length ≤ 140737488355328 := by rw [List.length_drop]; omega
  refine loopO_rule (I := fun s : Int × Int × List UInt8 × List UInt8 × Int × Int × Int => ∃ (k a l g : Nat) (x : List UInt8 × List UInt8) (e f : Int), s = ((a : Int), (l : Int), x.1, x.2, e, f, (k : Int)) ∧ k ≤ (w.drop 1).length ∧ k ≤ sh.length ∧ a ≤ 63 ∧ l ≤ 63 ∧ l < 2 ^ g ∧ incI g a l = sh.drop k ∧ ((sh.zip (w.drop 1)).take k).foldl (stE m) (some (p0, p0)) = if e = 0 ∧ f = 0 then some x else none) _ (fun s => (w.drop 1).length - s.2.2.2.2.2.2.toNat) (fun s hs => ?_) ⟨0, a, l, 7, (p0, p0), 0, 0, rfl, Nat.zero_le _, Nat.zero_le _, ha, hl, by omega, hsh, rfl⟩
  obtain ⟨k, a, l, g, x, e, f, rfl, hk, hks, ha, hl, hlf, hi, hf⟩ := hs
  unfold g_ref_extended_l1
  dsimp only
  rw [cut_tail]
  generalize w.drop 1 = path at *
  by_cases hkl : k < path.length
  · rw [if_pos (natLt hkl), if_pos (natIn hkl), Int.toNat_natCast]
    by_cases hx : ((l : Int) = 0 ∨ e ≠ 0) ∨ f ≠ 0
    · rw [if_pos hx]
      refine .inr ⟨_, rfl, .inl ⟨rfl, ?_⟩⟩
      by_cases hef : e = 0 ∧ f = 0
      · left
        have : sh.drop k = [] := by
          rw [← hi, show l = 0 by omega]
          cases g <;> rfl
        have := List.drop_eq_nil_iff.1 this
        omega
      · rw [if_neg hef] at hf
        exact .inr (foldE_none hf)
    · rw [if_neg hx]
      have hef : e = 0 ∧ f = 0 := by omega
      obtain ⟨rfl, rfl⟩ := hef
      have hl0 : l ≠ 0 := by omega
      obtain ⟨g, rfl⟩ : ∃ t, g = t + 1 := ⟨g - 1, by
        cases g with
        | zero => omega
        | succ f => rfl⟩
      rw [if_pos ⟨rfl, rfl⟩] at hf
      have e1 : (a : Int).tmod 2 = ((a % 2 : Nat) : Int) := rfl
      unfold incI at hi
      rw [if_neg hl0] at hi
      by_cases hc : a % 2 = 1 ∨ a = l
      · rw [if_pos hc] at hi
        obtain ⟨h1, h2, h3⟩ := drop_cons hi.symm
        obtain ⟨s1, s2, s3⟩ := strip_eq2 7 a l (by omega) (by omega) (by omega)
        rw [if_pos (by omega), dg_r, Option.bind_some, dg_r, Option.bind_some, s1, Option.bind_some, Option.bind_some]
        dsimp only
        rw [show (((strip 7 a l).1 : Nat) : Int).tdiv 2 = (((strip 7 a l).1 / 2 : Nat) : Int) from rfl, show (((strip 7 a l).2 : Nat) : Int).tdiv 2 = (((strip 7 a l).2 / 2 : Nat) : Int) from rfl, w64_div (by omega), w64_div (by omega), w64_succ (by omega)]
        refine .inl ⟨_, rfl, ⟨k + 1, _, _, g, ((dg m 6 [lrd path k, x.1]).1, (dg m 6 [lrd path k, x.2]).1), _, _, rfl, hkl, h1, by omega, by omega, by rw [Nat.pow_succ] at hlf; omega, h3.symm, ?_⟩, ?_⟩
        · rw [zip_step h1 hkl, List.foldl_append, hf, h2]
          rfl
        · simp only [Int.toNat_natCast]; omega
      · rw [if_neg hc] at hi
        obtain ⟨h1, h2, h3⟩ := drop_cons hi.symm
        rw [if_neg (by omega), dg_r, Option.bind_some, Option.bind_some]
        dsimp only
        rw [show (a : Int).tdiv 2 = ((a / 2 : Nat) : Int) from rfl, show (l : Int).tdiv 2 = ((l / 2 : Nat) : Int) from rfl, w64_div (by omega), w64_div (by omega), w64_succ (by omega)]
        refine .inl ⟨_, rfl, ⟨k + 1, _, _, g, (x.1, (dg m 6 [x.2, lrd path k]).1), _, _, rfl, hkl, h1, by omega, by omega, by rw [Nat.pow_succ] at hlf; omega, h3.symm, ?_⟩, ?_⟩
        · rw [zip_step h1 hkl, List.foldl_append, hf, h2]
          show stE m (some x) (true, lrd path k) = _
          unfold stE
          rw [Option.bind_some, if_pos rfl]
          by_cases he : (dg m 6 [x.2, lrd path k]).2 = 0
          · rw [if_pos he, if_pos ⟨rfl, he⟩]
          · rw [if_neg he, if_neg (fun q => he q.2)]
        · simp only [Int.toNat_natCast]; omega
  · have : k = path.length := by omega
    subst this
    rw [if_neg natNlt]
    refine .inr ⟨_, rfl, .inr ⟨x, e, f, l, rfl, ?_, ?_⟩⟩
    · constructor
      · intro h
        have : sh.drop path.length = [] := by
          rw [← hi, h]
          cases g <;> rfl
        have := List.drop_eq_nil_iff.1 this
        omega
      · intro h
        rw [h, List.drop_length] at hi
        cases g with
        | zero => omega
        | succ g =>
          unfold incI at hi
          by_cases h0 : l = 0
          · exact h0
          · rw [if_neg h0] at hi
            split at hi <;> cases hi
    · rw [← hf, zip_take_all (by rw [List.length_zip]; omega)]
open Classical in
theorem extended_eq {mo : Int} {old top : List UInt8} {m n : Nat} {path : List (List UInt8)} (h1 : 1 ≤ m) (hm : m < n) (hn : n ≤ 64) (hp : path.length * 24 ≤ 140737488351232) : ∃ r : List UInt8 × List UInt8 × Bool, g_roll_extension_roots 100000 ({ { Groll_extension.zero with mode_ := mo } with old_ := old }) (m : Int) (n : Int) true path = some r ∧ g_ref_extended mo old (m : Int) top (n : Int) path = some (decide (r.2.2 = true ∧ r.1 = old ∧ r.2.1 = top)) := by
  obtain ⟨r, h2, h3⟩ := roots_eq ({ { Groll_extension.zero with mode_ := mo } with old_ := old }) 64 100000 m n true path hn (by decide) (Nat.le_refl _) h1 (by omega) (by omega)
  refine ⟨r, h2, ?_⟩
  rw [shape_ext hn h1 hm] at h3
  unfold g_ref_extended
  have e1 : w64 ((m : Int) - 1) = ((m - 1 : Nat) : Int) := by rw [w64_id (by omega)]; omega
  have e2 : w64 ((n : Int) - 1) = ((n - 1 : Nat) : Int) := by rw [w64_id (by omega)]; omega
  obtain ⟨s1, s2, s3⟩ := strip1_eq 7 (m - 1) (n - 1) (by omega) (by omega) (by omega)
  rw [e1, e2, s1, Option.bind_some]
  generalize (strip1 7 (m - 1) (n - 1)).1 = a at *
  generalize (strip1 7 (m - 1) (n - 1)).2 = l at *
  dsimp only at h3 ⊢
  have hw : (if (a : Int) = 0 then if room (([old] : List (List UInt8)).length + path.length) 24 then some (([old] : List (List UInt8)) ++ path) else none else some path) = some (withOld old (a == 0) path) := by
    unfold withOld
    by_cases ha : a = 0
    · subst ha
      rw [if_pos (by rfl), if_pos (show room _ _ by simp only [room, List.length_cons, List.length_nil]; omega)]
      rfl
    · rw [if_neg (by omega), if_neg (by simpa using ha)]
  rw [hw, Option.bind_some]
  have hwl : (withOld old (a == 0) path).length ≤ path.length + 1 := by
    unfold withOld
    split
    · rw [List.length_append, List.length_singleton]; omega
    · omega
  generalize withOld old (a == 0) path = w at *
  by_cases h0 : (w.length : Int) = 0
  · rw [if_pos h0]
    have : r.2.2 = false := h3.2 (by omega)
    rw [this]
    simp
  · rw [if_neg h0, if_pos (by omega), if_pos (by omega), if_pos (by omega)]
    obtain ⟨q, h4, h5⟩ := frontE_loop (m := mo) (w := w) (p0 := lrd w 0) (a := a) (l := l) rfl (by omega) (by omega) (by omega)
    rw [h4, Option.bind_some]
    have hd : (w.drop 1).length = w.length - 1 := List.length_drop
    by_cases hl : w.length = (incI 7 a l).length + 1
    · rcases h3.1 hl with ⟨h6, h7⟩ | ⟨h6, h7⟩
      · rcases h5 with ⟨_, h8 | h8⟩ | ⟨x, e, f, l', rfl, h8, h9⟩
        · omega
        · change List.foldl (stE mo) _ _ = _ at h7
          rw [h8] at h7; cases h7
        · change List.foldl (stE mo) _ _ = _ at h7
          rw [h7] at h9
          by_cases hef : e = 0 ∧ f = 0
          · rw [if_pos hef] at h9
            have h9 := Option.some.inj h9
            have hl0 : l' = 0 := h8.2 (by omega)
            subst hl0
            dsimp only
            congr 1
            rw [decide_eq_decide, ← h9, h6]
            obtain ⟨rfl, rfl⟩ := hef
            simp
          · rw [if_neg hef] at h9; cases h9
      · rw [h6]
        rcases h5 with ⟨rfl, _⟩ | ⟨x, e, f, l', rfl, h8, h9⟩
        · simp
        · change List.foldl (stE mo) _ _ = _ at h7
          rw [h7] at h9
          by_cases hef : e = 0 ∧ f = 0
          · rw [if_pos hef] at h9; cases h9
          · dsimp only
            congr 1
            rw [decide_eq_decide]
            constructor
            · exact fun q => absurd q.1.1.1 hef
            · intro q; exact absurd q.1 (by decide)
    · rw [h3.2 hl]
      rcases h5 with ⟨rfl, _⟩ | ⟨x, e, f, l', rfl, h8, h9⟩
      · simp
      · have hl' : l' ≠ 0 := fun q => hl (by have := h8.1 q; omega)
        dsimp only
        congr 1
        rw [decide_eq_decide]
        constructor
        · intro q
          have := q.1.1.2
          omega
        · intro q; exact absurd q.1 (by decide)
open Classical in
theorem g_law_RollExtendChecks_true {x0 : Int} {x1 : List UInt8} {x2 : Int} {x3 : List UInt8} {x4 : Int} {x5 : List (List UInt8)} (_q0 : okI x0) (_q1 : (okL 1 okA) x1) (_q2 : okI x2) (_q3 : (okL 1 okA) x3) (_q4 : okI x4) (q5 : (okL 24 (okL 1 okA)) x5) : g_law_RollExtendChecks x0 x1 x2 x3 x4 x5 = some true := by
  have hl5 : x5.length * 24 ≤ 140737488351232 := by
    have := q5.1
    simp only [reachBytes] at this
    omega
  have key : ∃ r : Int, g_roll_CheckExtend x0 x1 x2 x3 x4 x5 = some r ∧ g_ref_ExtendFault x0 x1 x2 x3 x4 x5 = some r := by
    unfold g_roll_CheckExtend g_ref_ExtendFault g_roll_modes g_ref_badMode
    simp only [Option.bind_some]
    by_cases hm : x0 = 1 ∨ x0 = 2
    · have hb : decide (x0 ≠ 1 ∧ x0 ≠ 2) = false := decide_eq_false (by omega)
      rw [decide_eq_true hm, hb]
      simp only [Bool.not_true, Bool.false_eq_true, if_false]
      by_cases hn : x4 < 0 ∨ x4 > 64
      · rw [if_pos hn, if_pos hn]
        exact ⟨_, rfl, rfl⟩
      · rw [if_neg hn, if_neg hn]
        by_cases hi : x2 < 0 ∨ x2 > x4
        · rw [if_pos hi, if_pos hi]
          exact ⟨_, rfl, rfl⟩
        · rw [if_neg hi, if_neg hi, dg_r, Option.bind_some]
          by_cases h0 : x2 = 0
          · rw [if_pos h0, if_pos h0, dg_o, Option.bind_some]
            have hd := (dg_ok (m := x0) (tag := 4) (l := []) hm ⟨by decide, by decide⟩ (by decide) (by decide)).1
            rw [if_neg (fun q => q hd)]
            unfold g_bytes_Equal
            generalize dg x0 4 [] = d
            simp only [Option.bind_some]
            by_cases hp : (x5.length : Int) > 0
            · rw [if_pos hp]
              refine ⟨10, rfl, ?_⟩
              rw [decide_eq_false (fun q => by omega)]
              rfl
            · rw [if_neg hp]
              by_cases hd1 : d.1 = x1
              · rw [decide_eq_true hd1]
                simp only [Bool.not_true, Bool.false_eq_true, if_false]
                by_cases hx4 : x4 = 0
                · rw [if_pos hx4, Option.bind_some]
                  by_cases h3 : d.1 = x3
                  · refine ⟨0, by rw [decide_eq_true h3]; rfl, ?_⟩
                    rw [decide_eq_true ⟨⟨by omega, hd1.symm⟩, .inr (by rw [← h3, hd1])⟩]
                    rfl
                  · refine ⟨10, by rw [decide_eq_false h3]; rfl, ?_⟩
                    rw [decide_eq_false (fun q => by
                      rcases q.2 with q2 | q2
                      · omega
                      · exact h3 (by rw [q2, hd1]))]
                    rfl
                · rw [if_neg hx4]
                  refine ⟨0, rfl, ?_⟩
                  rw [decide_eq_true ⟨⟨by omega, hd1.symm⟩, .inl (by omega)⟩]
                  rfl
              · rw [decide_eq_false hd1]
                refine ⟨10, rfl, ?_⟩
                rw [decide_eq_false (fun q => hd1 q.1.2.symm)]
                rfl
          · rw [if_neg h0, if_neg h0]
            obtain ⟨m, rfl⟩ := Int.eq_ofNat_of_zero_le (show 0 ≤ x2 by omega)
            obtain ⟨n, rfl⟩ := Int.eq_ofNat_of_zero_le (show 0 ≤ x4 by omega)
            have key2 : ∃ r : List UInt8 × List UInt8 × Bool, g_roll_extension_roots 100000 ({ { Groll_extension.zero with mode_ := x0 } with old_ := x1 }) (m : Int) (n : Int) true x5 = some r ∧ (if (m : Int) = (n : Int) then some (decide (((x5.length : Int) = (0 : Int)) ∧ (x1 = x3))) else (g_ref_extended x0 x1 (m : Int) x3 (n : Int) x5).bind fun r'4 => some r'4) = some (decide (r.2.2 = true ∧ r.1 = x1 ∧ r.2.1 = x3)) := by
              by_cases hmn : m = n
              · subst hmn
                refine ⟨(x1, x1, decide ((x5.length : Int) = 0)), ?_, ?_⟩
                · show g_roll_extension_roots_b _ _ _ _ _ _ = _
                  unfold g_roll_extension_roots_b
                  rw [if_pos rfl, if_pos rfl]
                · rw [if_pos rfl]
                  congr 1
                  rw [decide_eq_decide]
                  simp
              · obtain ⟨r, h1, h2⟩ := extended_eq (mo := x0) (old := x1) (top := x3) (m := m) (n := n) (path := x5) (by omega) (by omega) (by omega) hl5
                refine ⟨r, h1, ?_⟩
                rw [if_neg (by omega), h2]
                rfl
            obtain ⟨r, h1, h2⟩ := key2
            rw [h1, h2, Option.bind_some, Option.bind_some]
            unfold g_bytes_Equal
            simp only [Option.bind_some]
            by_cases hk : r.2.2 = true
            · rw [hk]
              simp only [Bool.not_true, Bool.false_eq_true, if_false]
              by_cases hr1 : r.1 = x1
              · rw [decide_eq_true hr1]
                simp only [Bool.not_true, Bool.false_eq_true, if_false]
                by_cases hr2 : r.2.1 = x3
                · refine ⟨0, by rw [decide_eq_true hr2]; rfl, ?_⟩
                  rw [decide_eq_true ⟨trivial, hr1, hr2⟩]
                  rfl
                · refine ⟨10, by rw [decide_eq_false hr2]; rfl, ?_⟩
                  rw [decide_eq_false (fun q => hr2 q.2.2)]
                  rfl
              · rw [decide_eq_false hr1]
                refine ⟨10, rfl, ?_⟩
                rw [decide_eq_false (fun q => hr1 q.2.1)]
                rfl
            · have hk : r.2.2 = false := by simpa using hk
              rw [hk]
              refine ⟨10, rfl, ?_⟩
              rw [decide_eq_false (fun q => absurd q.1 (by decide))]
              rfl
    · have hb : decide (x0 ≠ 1 ∧ x0 ≠ 2) = true := decide_eq_true (by omega)
      rw [decide_eq_false hm, hb]
      exact ⟨_, rfl, rfl⟩
  obtain ⟨r, h1, h2⟩ := key
  unfold g_law_RollExtendChecks
  rw [h1, h2]
  simp
end Go.Proofs.YtkaeboabpahemaaDoor.VM
