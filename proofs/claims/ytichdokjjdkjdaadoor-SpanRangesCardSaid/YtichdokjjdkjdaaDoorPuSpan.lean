/- Words and rules that the proof uses. -/
import Derived.Test.YtichdokjjdkjdaaDoorPuExpr
namespace Go.Proofs.YtichdokjjdkjdaaDoor.VM
open Go Go.RowKit
theorem loop_pass {step : Int → Option (Int ⊕ (Int ⊕ Unit))} (n : Nat) (hn : n < 9223372036854775807) (hs : ∀ k, k < n → step (k : Int) = some (.inl (w64 ((k : Int) + 1))) ∨ ∃ r, r ≠ 0 ∧ step (k : Int) = some (.inr (.inl r))) (he : step (n : Int) = some (.inr (.inr ()))) :
  ∃ o, loopO step (0 : Int) = some o ∧ match o with | .inl y => y ≠ 0 | .inr _ => ∀ k, k < n → step (k : Int) = some (.inl (w64 ((k : Int) + 1))) := by
 refine loopO_times (step := step) n (fun k (_ : Unit) => (k : Int)) (fun k _ => ∀ j, j < k → step (j : Int) = some (.inl (w64 ((j : Int) + 1)))) _ (fun k _ hk hi => ?_) (fun _ hi => ⟨_, he, hi⟩) (s := ()) (fun j hj => by omega)
 rcases hs k hk with h | ⟨r, hr, h⟩
 ·left
  refine ⟨(), by rw [h, w64_succ (by omega)], fun j hj => ?_⟩
  rcases Nat.lt_or_ge j k with h1 | h1
  ·exact hi j h1
  ·rw [show j = k by omega]; exact h
 ·exact .inr ⟨_, h, hr⟩
def goodS : Nat → GExpr → Prop
 | 0, _ => False
 | m + 1, e => (1 ≤ e.Op ∧ e.Op ≤ 20) ∧ g_expr_wants e.Op = some (e.Args.length : Int) ∧ okI e.Value.Int_ ∧ (e.Op = 1 → 0 ≤ e.Value.Int_) ∧ ∀ k, k < e.Args.length → goodS m (lrd e.Args k)
theorem node_goodS {e : GExpr} (q : GExpr.ok e) (h : g_expr_node e = some 0) : (1 ≤ e.Op ∧ e.Op ≤ 20) ∧ g_expr_wants e.Op = some (e.Args.length : Int) ∧ (e.Op = 1 → 0 ≤ e.Value.Int_) := by
 obtain ⟨_, hvi, hnm, _, _⟩ := exOk q
 unfold g_expr_node at h
 by_cases hop : (e.Op < (1 : Int)) ∨ (e.Op > (20 : Int))
 ·rw [if_pos hop] at h; cases h
 ·have hop2 : 1 ≤ e.Op ∧ e.Op ≤ 20 := by omega
  rw [if_neg hop, wants_eq hop2, Option.bind_some] at h
  rw [wants_eq hop2]
  refine ⟨hop2, ?_, fun h1 => ?_⟩
  ·generalize (lrd _ e.Op.toNat : Int) = W at h ⊢
   by_cases hlen : (e.Args.length : Int) ≠ W
   ·rw [if_pos hlen] at h; cases h
   ·congr 1; omega
  ·generalize (lrd _ e.Op.toNat : Int) = W at h
   by_cases hlen : (e.Args.length : Int) ≠ W
   ·rw [if_pos hlen] at h; cases h
   ·rw [if_neg hlen] at h
    split at h
    ·cases h
    ·rw [if_neg (show ¬ e.Op = 2 by omega), Option.bind_some, if_neg (show ¬ (false = true) by decide)] at h
     try rw [if_pos h1] at h
     obtain ⟨ve, hv1, _, hv3⟩ := check_eq e.Value hvi
     rw [hv1, Option.bind_some] at h
     by_cases hve : ve ≠ 0
     ·rw [if_pos hve, Option.bind_some, if_pos rfl] at h; cases h
     ·rw [if_neg hve, Option.bind_some] at h
      by_cases hn : e.Value.Int_ < 0
      ·rw [if_pos (decide_eq_true hn)] at h; cases h
      ·omega
theorem nodes_goodS : ∀ (m f : Nat) (e : GExpr), m < f → GExpr.ok e → lev m [e] = [] → g_expr_nodes f e = some 0 → goodS m e
 | _, 0, _, h, _, _, _ => by omega
 | 0, _, _, _, _, h, _ => by cases h
 | m + 1, f + 1, e, hf, q, hv, h => by
  obtain ⟨_, hvi, _, hl, hargs⟩ := exOk q
  obtain ⟨own, h1, _⟩ := node_eq q
  unfold g_expr_nodes g_expr_nodes_b at h
  rw [h1, Option.bind_some] at h
  by_cases ho : own ≠ 0
  ·rw [if_pos ho] at h
   exact absurd (Option.some.inj h) ho
  ·have ho0 : own = 0 := by omega
   rw [if_neg ho] at h
   rw [ho0] at h1
   rw [lev, one_args] at hv
   obtain ⟨g1, g2, g3⟩ := node_goodS q h1
   obtain ⟨o, h2, h3⟩ := loop_pass (step := g_expr_nodes_l0 e (g_expr_nodes f)) e.Args.length (by omega) (fun k hk => by
    unfold g_expr_nodes_l0
    dsimp only
    obtain ⟨r, h5, _⟩ := nodes_eq m f (lrd e.Args k) (by omega) (hargs _ (lrd_mem hk)) (lev_part hk hv)
    rw [if_pos (natLt hk), if_pos (natIn hk), Int.toNat_natCast, h5, Option.bind_some]
    by_cases hr : r ≠ 0
    ·rw [if_pos hr]; exact .inr ⟨r, hr, rfl⟩
    ·rw [if_neg hr]; exact .inl rfl) (by
    unfold g_expr_nodes_l0
    dsimp only
    rw [if_neg natNlt])
   rw [h2, Option.bind_some] at h
   cases o with
   | inl y => exact absurd (Option.some.inj h) h3
   | inr u =>
    refine ⟨g1, g2, hvi, g3, fun k hk => ?_⟩
    have h4 := h3 k hk
    obtain ⟨r, h5, _⟩ := nodes_eq m f (lrd e.Args k) (by omega) (hargs _ (lrd_mem hk)) (lev_part hk hv)
    unfold g_expr_nodes_l0 at h4
    dsimp only at h4
    rw [if_pos (natLt hk), if_pos (natIn hk), Int.toNat_natCast, h5, Option.bind_some] at h4
    by_cases hr : r ≠ 0
    ·rw [if_pos hr] at h4; cases h4
    ·have hr0 : r = 0 := by omega
     rw [hr0] at h5
     exact nodes_goodS m f (lrd e.Args k) (by omega) (hargs _ (lrd_mem hk)) (lev_part hk hv) h5
theorem check_goodS {e : GExpr} (q : GExpr.ok e) (h : g_expr_Check e = some 0) : goodS 7 e := by
 unfold g_expr_Check at h
 rw [size_eq 7 100000 e 1 (by decide) (by decide) (by decide) q, Option.bind_some] at h
 by_cases hf : fine 7 e
 ·rw [if_pos hf] at h
  dsimp only at h
  rw [if_neg (by decide)] at h
  obtain ⟨r, h1, _⟩ := nodes_eq 7 100000 e (by decide) q (List.length_eq_zero_iff.1 hf.1)
  rw [h1, Option.bind_some] at h
  rw [Option.some.inj h] at h1
  exact nodes_goodS 7 100000 e (by decide) q (List.length_eq_zero_iff.1 hf.1) h1
 ·rw [if_neg hf] at h
  cases h
def litN (e : GExpr) : Option Int :=
 if e.Op = 3 then (if (lrd e.Args 0).Op = 1 ∧ (lrd e.Args 0).Value.Kind = 2 then some (0 - (lrd e.Args 0).Value.Int_) else none) else if e.Op = 1 ∧ e.Value.Kind = 2 then some e.Value.Int_ else none
theorem args3 {m : Nat} {e : GExpr} (g : goodS (m + 1) e) (h : e.Op = 3) : e.Args.length = 1 := by
 have h2 := g.2.1
 rw [h] at h2
 have := Option.some.inj h2
 omega
theorem lit_in {m : Nat} {e : GExpr} (g : goodS (m + 1) e) {n : Int} (h : litN e = some n) : -9223372036854775807 ≤ n ∧ n ≤ 9223372036854775807 := by
 unfold litN at h
 by_cases h3 : e.Op = 3
 ·rw [if_pos h3] at h
  have hl := args3 g h3
  have ga := g.2.2.2.2 0 (by omega)
  split at h
  ·rename_i hc
   cases h
   cases m with
   | zero => exact ga.elim
   | succ m =>
    have h5 := ga.2.2.1
    have h6 := ga.2.2.2.1 hc.1
    unfold okI at h5
    omega
  ·cases h
 ·rw [if_neg h3] at h
  split at h
  ·rename_i hc
   cases h
   have h5 := g.2.2.1
   have h6 := g.2.2.2.1 hc.1
   unfold okI at h5
   omega
  ·cases h
theorem lit_prog {m : Nat} {e : GExpr} (g : goodS (m + 1) e) : ∃ n b, g_span_literal e = some (n, b) ∧ litN e = if b = true then some n else none := by
 unfold g_span_literal litN
 by_cases h3 : e.Op = 3
 ·have hl := args3 g h3
  have ga := g.2.2.2.2 0 (by omega)
  simp only [if_pos h3, if_pos (show 0 < e.Args.length by omega)]
  by_cases h1 : (lrd e.Args 0).Op = 1
  ·by_cases h2 : (lrd e.Args 0).Value.Kind = 2
   ·have hok : okI (lrd e.Args 0).Value.Int_ ∧ 0 ≤ (lrd e.Args 0).Value.Int_ := by
     cases m with
     | zero => exact ga.elim
     | succ m => exact ⟨ga.2.2.1, ga.2.2.2.1 h1⟩
    have h5 := hok.1
    unfold okI at h5
    refine ⟨0 - (lrd e.Args 0).Value.Int_, true, ?_, ?_⟩
    ·simp only [if_pos h1, h2, decide_true, Option.bind_some, if_true]
     rw [w64_id (by omega)]
    ·rw [if_pos ⟨h1, h2⟩]; rfl
   ·refine ⟨e.Value.Int_, false, ?_, ?_⟩
    ·simp only [if_pos h1, decide_eq_false h2, Option.bind_some]
     rw [if_neg (by decide), if_neg (show ¬ e.Op = 1 by omega)]
     rfl
    ·rw [if_neg (fun h => h2 h.2)]; rfl
  ·refine ⟨e.Value.Int_, false, ?_, ?_⟩
   ·simp only [if_neg h1, Option.bind_some]
    rw [if_neg (by decide), if_neg (show ¬ e.Op = 1 by omega)]
    rfl
   ·rw [if_neg (fun h => h1 h.1)]; rfl
 ·simp only [if_neg h3, Option.bind_some]
  rw [if_neg (by decide)]
  by_cases h1 : e.Op = 1
  ·rw [if_pos h1, Option.bind_some]
   refine ⟨_, _, rfl, ?_⟩
   by_cases h2 : e.Value.Kind = 2
   ·rw [if_pos ⟨h1, h2⟩, if_pos (decide_eq_true h2)]
   ·rw [if_neg (fun h => h2 h.2), if_neg (by rw [decide_eq_false h2]; decide)]
  ·rw [if_neg h1, Option.bind_some]
   refine ⟨_, _, rfl, ?_⟩
   rw [if_neg (fun h => h1 h.1), if_neg (by decide)]
theorem lit_ref {m : Nat} {e : GExpr} (g : goodS (m + 1) e) : ∃ n b, g_ref_litNumber e = some (n, b) ∧ litN e = if b = true then some n else none := by
 unfold g_ref_litNumber litN
 by_cases h3 : e.Op = 3
 ·have hl := args3 g h3
  have ga := g.2.2.2.2 0 (by omega)
  simp only [if_pos h3, if_pos (show 0 < e.Args.length by omega), Option.bind_some]
  by_cases hc : (lrd e.Args 0).Op = 1 ∧ (lrd e.Args 0).Value.Kind = 2
  ·have hok : okI (lrd e.Args 0).Value.Int_ ∧ 0 ≤ (lrd e.Args 0).Value.Int_ := by
    cases m with
    | zero => exact ga.elim
    | succ m => exact ⟨ga.2.2.1, ga.2.2.2.1 hc.1⟩
   have h5 := hok.1
   unfold okI at h5
   rw [if_neg (fun h => h.elim (fun h => h hc.1) (fun h => h hc.2)), if_pos hc, w64_id (by omega)]
   exact ⟨_, _, rfl, rfl⟩
  ·rw [if_pos (show ((lrd e.Args 0).Op ≠ (1 : Int)) ∨ ((lrd e.Args 0).Value.Kind ≠ (2 : Int)) from (Decidable.not_and_iff_not_or_not.1 hc)), if_neg hc]
   exact ⟨_, _, rfl, rfl⟩
 ·simp only [if_neg h3, Option.bind_some]
  by_cases hc : e.Op = 1 ∧ e.Value.Kind = 2
  ·rw [if_neg (fun h => h.elim (fun h => h hc.1) (fun h => h hc.2)), if_pos hc]
   exact ⟨_, _, rfl, rfl⟩
  ·rw [if_pos (show (e.Op ≠ (1 : Int)) ∨ (e.Value.Kind ≠ (2 : Int)) from (Decidable.not_and_iff_not_or_not.1 hc)), if_neg hc]
   exact ⟨_, _, rfl, rfl⟩
def turnN (op : Int) : Int := if op = 11 then 13 else if op = 12 then 14 else if op = 13 then 11 else if op = 14 then 12 else op
def cmpN (col : List UInt8) (x : GExpr) : Option (Int × Int) :=
 if (lrd x.Args 0).Op = 2 then (if (lrd x.Args 0).Name = col then (litN (lrd x.Args 1)).map fun n => (x.Op, n) else none)
 else if (lrd x.Args 1).Op = 2 ∧ (lrd x.Args 1).Name = col then (litN (lrd x.Args 0)).map fun n => (turnN x.Op, n) else none
def allR : GRange := ⟨-9223372036854775808, 9223372036854775807⟩
def bndR (op n : Int) : GRange := if op = 9 then ⟨n, n⟩ else if op = 11 then ⟨-9223372036854775808, n - 1⟩ else if op = 12 then ⟨-9223372036854775808, n⟩ else if op = 13 then (if n = 9223372036854775807 then ⟨1, 0⟩ else ⟨n + 1, 9223372036854775807⟩) else if op = 14 then ⟨n, 9223372036854775807⟩ else allR
def oneR (col : List UInt8) (x : GExpr) : GRange := if x.Op < 9 ∨ x.Op > 14 then allR else match cmpN col x with | some (op, n) => bndR op n | none => allR
def meetR (a b : GRange) : GRange := ⟨max a.Lo b.Lo, min a.Hi b.Hi⟩
def inR (r : GRange) : Prop := -9223372036854775808 ≤ r.Lo ∧ r.Hi ≤ 9223372036854775807
theorem allR_in : inR allR := ⟨Int.le_refl _, Int.le_refl _⟩
theorem bnd_in {op n : Int} (h : -9223372036854775807 ≤ n ∧ n ≤ 9223372036854775807) : inR (bndR op n) := by
 unfold bndR inR
 split
 ·dsimp only; omega
 ·split
  ·dsimp only; omega
  ·split
   ·dsimp only; omega
   ·split
    ·split
     ·decide
     ·dsimp only; omega
    ·split
     ·dsimp only; omega
     ·decide
theorem bounds_eq {op n : Int} (h : -9223372036854775807 ≤ n ∧ n ≤ 9223372036854775807) : g_span_bounds op n = some (bndR op n) := by
 unfold g_span_bounds bndR
 rw [letO_eq]
 by_cases h9 : op = 9
 ·rw [if_pos h9, if_pos h9]; rfl
 ·rw [if_neg h9, if_neg h9]
  by_cases h11 : op = 11
  ·rw [if_pos h11, if_pos h11, if_neg (by omega), w64_id (by omega)]; rfl
  ·rw [if_neg h11, if_neg h11]
   by_cases h12 : op = 12
   ·rw [if_pos h12, if_pos h12]; rfl
   ·rw [if_neg h12, if_neg h12]
    by_cases h13 : op = 13
    ·rw [if_pos h13, if_pos h13]
     by_cases hn : n = 9223372036854775807
     ·rw [if_pos hn, if_pos hn]; rfl
     ·rw [if_neg hn, if_neg hn, w64_id (by omega)]; rfl
    ·rw [if_neg h13, if_neg h13]
     by_cases h14 : op = 14
     ·rw [if_pos h14, if_pos h14]; rfl
     ·rw [if_neg h14, if_neg h14]; rfl
theorem turn_eq (op : Int) : g_span_turned op = some (turnN op) := by
 unfold g_span_turned turnN
 split
 ·rfl
 ·split
  ·rfl
  ·split
   ·rfl
   ·split <;> rfl
theorem args2 {m : Nat} {e : GExpr} (g : goodS (m + 1) e) (h : 9 ≤ e.Op ∧ e.Op ≤ 15) : e.Args.length = 2 := by
 have h2 := g.2.1
 have : e.Op = 9 ∨ e.Op = 10 ∨ e.Op = 11 ∨ e.Op = 12 ∨ e.Op = 13 ∨ e.Op = 14 ∨ e.Op = 15 := by omega
 rcases this with h | h | h | h | h | h | h <;> rw [h] at h2 <;> have := Option.some.inj h2 <;> omega
theorem lit_col {e : GExpr} (h : e.Op = 2) : litN e = none := by
 unfold litN
 rw [if_neg (by omega), if_neg (fun q => by omega)]
theorem cmp_in {m : Nat} {e : GExpr} {col : List UInt8} (g : goodS (m + 1) e) (h : 9 ≤ e.Op ∧ e.Op ≤ 14) {op n : Int} (hc : cmpN col e = some (op, n)) : -9223372036854775807 ≤ n ∧ n ≤ 9223372036854775807 := by
 have hl := args2 g (by omega)
 have g0 := g.2.2.2.2 0 (by omega)
 have g1 := g.2.2.2.2 1 (by omega)
 cases m with
 | zero => exact g0.elim
 | succ m =>
  unfold cmpN at hc
  split at hc
  ·split at hc
   ·obtain ⟨x, hx, he⟩ := Option.map_eq_some_iff.1 hc
    cases he
    exact lit_in g1 hx
   ·cases hc
  ·split at hc
   ·obtain ⟨x, hx, he⟩ := Option.map_eq_some_iff.1 hc
    cases he
    exact lit_in g0 hx
   ·cases hc
theorem one_in {m : Nat} {e : GExpr} {col : List UInt8} (g : goodS (m + 1) e) : inR (oneR col e) := by
 unfold oneR
 split
 ·exact allR_in
 ·rename_i h
  split
  ·rename_i op n hc
   exact bnd_in (cmp_in g (by omega) hc)
  ·exact allR_in
theorem of_one {m f : Nat} {e : GExpr} {col : List UInt8} (g : goodS (m + 1) e) (h15 : e.Op ≠ 15) : g_span_of (f + 1) e col = some (oneR col e) := by
 unfold g_span_of g_span_of_b oneR
 rw [letO_eq, if_neg h15]
 by_cases hc : (e.Op < (9 : Int)) ∨ (e.Op > (14 : Int))
 ·rw [if_pos hc, if_pos hc]; rfl
 ·have hl := args2 g (by omega)
  have g0 := g.2.2.2.2 0 (by omega)
  have g1 := g.2.2.2.2 1 (by omega)
  rw [if_neg hc, if_neg hc, if_pos (by omega), if_pos (by omega)]
  cases m with
  | zero => exact g0.elim
  | succ m =>
   obtain ⟨n1, b1, p1, p2⟩ := lit_prog g1
   obtain ⟨n0, b0, p3, p4⟩ := lit_prog g0
   rw [p1, Option.bind_some]
   unfold cmpN
   by_cases hcol : (lrd e.Args 0).Op = 2
   ·have hb0 : b0 = false := by
     rw [lit_col hcol] at p4
     cases b0
     ·rfl
     ·cases p4
    rw [if_pos hcol]
    by_cases hnm : (lrd e.Args 0).Name = col
    ·rw [if_pos hnm, p2]
     cases b1
     ·rw [if_neg (show ¬ (((n1, false).2 = true ∧ (lrd e.Args 0).Op = 2) ∧ (lrd e.Args 0).Name = col) from fun q => Bool.false_ne_true q.1.1), p3, Option.bind_some, hb0, if_neg (fun q => Bool.false_ne_true q.1.1)]
      rfl
     ·rw [if_pos (show (((n1, true).2 = true ∧ (lrd e.Args 0).Op = 2) ∧ (lrd e.Args 0).Name = col) from ⟨⟨rfl, hcol⟩, hnm⟩), bounds_eq (lit_in g1 p2)]
      rfl
    ·rw [if_neg (fun q => hnm q.2), if_neg hnm, p3, Option.bind_some, hb0, if_neg (fun q => Bool.false_ne_true q.1.1)]
     rfl
   ·rw [if_neg (fun q => hcol q.1.2), if_neg hcol, p3, Option.bind_some]
    by_cases hc1 : (lrd e.Args 1).Op = 2 ∧ (lrd e.Args 1).Name = col
    ·rw [if_pos hc1, p4]
     cases b0
     ·rw [if_neg (fun q => Bool.false_ne_true q.1.1)]
      rfl
     ·rw [if_pos ⟨⟨rfl, hc1.1⟩, hc1.2⟩, turn_eq, Option.bind_some, bounds_eq (lit_in g0 p4)]
      rfl
    ·rw [if_neg (fun q => hc1 ⟨q.1.2, q.2⟩), if_neg hc1]
     rfl
def foldR (col : List UInt8) (a : GRange) (l : List GExpr) : GRange := l.foldl (fun r x => meetR r (oneR col x)) a
theorem meet_all {a : GRange} (h : inR a) : meetR allR a = a := by
 obtain ⟨x, y⟩ := a
 unfold inR at h
 dsimp only at h
 unfold meetR allR
 dsimp only
 congr 1 <;> omega
theorem meet_assoc (a b c : GRange) : meetR (meetR a b) c = meetR a (meetR b c) := by
 unfold meetR
 dsimp only
 congr 1 <;> omega
theorem meet_in {a b : GRange} (ha : inR a) (hb : inR b) : inR (meetR a b) := by
 unfold inR meetR at *
 dsimp only
 omega
theorem fold_meet (col : List UInt8) : ∀ (l : List GExpr) (a : GRange), inR a → (∀ x ∈ l, inR (oneR col x)) → foldR col a l = meetR a (foldR col allR l) ∧ inR (foldR col allR l)
 | [], a, ha, _ => by
  refine ⟨?_, allR_in⟩
  obtain ⟨x, y⟩ := a
  unfold inR at ha
  dsimp only at ha
  unfold foldR meetR allR
  dsimp only [List.foldl]
  congr 1 <;> omega
 | x :: l, a, ha, hl => by
  have hx := hl x (List.mem_cons_self)
  have hl2 : ∀ y ∈ l, inR (oneR col y) := fun y hy => hl y (List.mem_cons_of_mem _ hy)
  obtain ⟨h1, h2⟩ := fold_meet col l (meetR a (oneR col x)) (meet_in ha hx) hl2
  obtain ⟨h3, _⟩ := fold_meet col l (meetR allR (oneR col x)) (meet_in allR_in hx) hl2
  have e1 : foldR col a (x :: l) = foldR col (meetR a (oneR col x)) l := rfl
  have e2 : foldR col allR (x :: l) = foldR col (meetR allR (oneR col x)) l := rfl
  rw [e1, e2, h1, h3, meet_all hx, meet_assoc]
  exact ⟨rfl, meet_in hx h2⟩
theorem fold_app (col : List UInt8) (l1 l2 : List GExpr) (h1 : ∀ x ∈ l1, inR (oneR col x)) (h2 : ∀ x ∈ l2, inR (oneR col x)) : foldR col allR (l1 ++ l2) = meetR (foldR col allR l1) (foldR col allR l2) := by
 have e : foldR col allR (l1 ++ l2) = foldR col (foldR col allR l1) l2 := by unfold foldR; rw [List.foldl_append]
 rw [e]
 exact (fold_meet col l2 _ (fold_meet col l1 allR allR_in h1).2 h2).1
theorem imax_eq (a b : Int) : imax a b = max a b := by unfold imax; split <;> omega
theorem imin_eq (a b : Int) : imin a b = min a b := by unfold imin; split <;> omega
theorem span_main (col : List UInt8) : ∀ (m f : Nat) (e : GExpr), m < f → m ≤ 7 → goodS m e → ∃ l, g_ref_ands f e = some l ∧ g_span_of f e col = some (foldR col allR l) ∧ 0 < l.length ∧ l.length ≤ 2 ^ m ∧ (∀ x ∈ l, ∃ m', goodS (m' + 1) x)
 | _, 0, _, h, _, _ => by omega
 | 0, _, _, _, _, h => h.elim
 | m + 1, f + 1, e, hf, hm, g => by
  by_cases h15 : e.Op = 15
  ·have hl := args2 g (by omega)
   obtain ⟨l1, a1, a2, a3, a4, a5⟩ := span_main col m f (lrd e.Args 0) (by omega) (by omega) (g.2.2.2.2 0 (by omega))
   obtain ⟨l2, b1, b2, b3, b4, b5⟩ := span_main col m f (lrd e.Args 1) (by omega) (by omega) (g.2.2.2.2 1 (by omega))
   have hp : 2 ^ m ≤ 64 := Nat.le_trans (Nat.pow_le_pow_right (by decide) (show m ≤ 6 by omega)) (by decide)
   have hp2 : 2 ^ (m + 1) = 2 ^ m + 2 ^ m := by rw [Nat.pow_succ]; omega
   refine ⟨l1 ++ l2, ?_, ?_, ?_, ?_, ?_⟩
   ·unfold g_ref_ands g_ref_ands_b
    rw [if_pos h15, if_pos (by omega), a1, Option.bind_some, if_pos a3, if_pos (by omega), b1, Option.bind_some, if_pos (show room _ _ by simp only [room]; omega)]
   ·unfold g_span_of g_span_of_b
    rw [letO_eq, if_pos h15, if_pos (by omega), a2, Option.bind_some, if_pos (by omega), b2, Option.bind_some, letO_eq, imax_eq, imin_eq, fold_app col l1 l2 (fun x hx => (a5 x hx).elim fun m' g => one_in g) (fun x hx => (b5 x hx).elim fun m' g => one_in g)]
    rfl
   ·rw [List.length_append]; omega
   ·rw [List.length_append, hp2]; omega
   ·intro x hx
    rcases List.mem_append.1 hx with h | h
    ·exact a5 x h
    ·exact b5 x h
  ·refine ⟨[e], ?_, ?_, Nat.zero_lt_one, ?_, ?_⟩
   ·unfold g_ref_ands g_ref_ands_b
    rw [if_neg h15]
   ·rw [of_one g h15]
    show _ = some (meetR allR (oneR col e))
    rw [meet_all (one_in g)]
   ·exact Nat.pow_pos (by decide)
   ·intro x hx
    rw [List.mem_singleton] at hx
    rw [hx]
    exact ⟨m, g⟩
def stepR (col : List UInt8) (s : Bool × GRange) (x : GExpr) : Bool × GRange :=
 if x.Op < 9 ∨ x.Op > 14 then s else match cmpN col x with
  | none => s
  | some (op, n) => if op = 9 then (s.1, ⟨max s.2.Lo n, min s.2.Hi n⟩) else if op = 11 then (s.1, ⟨s.2.Lo, min s.2.Hi (n - 1)⟩) else if op = 12 then (s.1, ⟨s.2.Lo, min s.2.Hi n⟩) else if op = 13 then (if n < 9223372036854775807 then (s.1, ⟨max s.2.Lo (n + 1), s.2.Hi⟩) else (true, ⟨max s.2.Lo n, s.2.Hi⟩)) else if op = 14 then (s.1, ⟨max s.2.Lo n, s.2.Hi⟩) else s
def fitR (s : Bool × GRange) (r : GRange) : Prop := (s.1 = false → s.2 = r) ∧ (s.1 = true → r.Lo > r.Hi)
theorem step_fit {m : Nat} {col : List UInt8} {x : GExpr} {s : Bool × GRange} {r : GRange} (g : goodS (m + 1) x) (hr : inR r) (h : fitR s r) : fitR (stepR col s x) (meetR r (oneR col x)) := by
 have key : ∀ (s' : Bool × GRange) (b : GRange), (s.1 = false → s'.1 = false → s'.2 = meetR s.2 b) → (s.1 = true → s'.1 = true) → (s.1 = false → s'.1 = true → (meetR s.2 b).Lo > (meetR s.2 b).Hi) → fitR s' (meetR r b) := by
  intro s' b h1 h2 h3
  refine ⟨fun h4 => ?_, fun h4 => ?_⟩
  ·cases hs : s.1
   ·rw [h1 hs h4, h.1 hs]
   ·rw [h2 hs] at h4; cases h4
  ·cases hs : s.1
   ·have := h3 hs h4
    rw [h.1 hs] at this
    exact this
   ·have := h.2 hs
    unfold meetR
    dsimp only
    omega
 have hself : fitR s (meetR r allR) := by
  have : meetR r allR = r := by
   obtain ⟨a, b⟩ := r
   unfold inR at hr
   dsimp only at hr
   unfold meetR allR
   dsimp only
   congr 1 <;> omega
  rw [this]
  exact h
 unfold stepR oneR
 by_cases hc : x.Op < 9 ∨ x.Op > 14
 ·rw [if_pos hc, if_pos hc]; exact hself
 ·rw [if_neg hc, if_neg hc]
  cases hcm : cmpN col x with
  | none => exact hself
  | some q =>
   obtain ⟨op, n⟩ := q
   have hn := cmp_in g (by omega) hcm
   dsimp only
   unfold bndR
   have hs2 : s.1 = false → inR s.2 := fun h0 => by rw [h.1 h0]; exact hr
   by_cases h9 : op = 9
   ·rw [if_pos h9, if_pos h9]
    exact key _ _ (fun _ _ => rfl) (fun h => h) (fun h1 h2 => absurd (h1.symm.trans h2) (by decide))
   ·rw [if_neg h9, if_neg h9]
    by_cases h11 : op = 11
    ·rw [if_pos h11, if_pos h11]
     refine key _ _ (fun h0 _ => ?_) (fun h => h) (fun h1 h2 => absurd (h1.symm.trans h2) (by decide))
     have := hs2 h0
     unfold inR at this
     unfold meetR
     dsimp only
     congr 1
     omega
    ·rw [if_neg h11, if_neg h11]
     by_cases h12 : op = 12
     ·rw [if_pos h12, if_pos h12]
      refine key _ _ (fun h0 _ => ?_) (fun h => h) (fun h1 h2 => absurd (h1.symm.trans h2) (by decide))
      have := hs2 h0
      unfold inR at this
      unfold meetR
      dsimp only
      congr 1
      omega
     ·rw [if_neg h12, if_neg h12]
      by_cases h13 : op = 13
      ·rw [if_pos h13, if_pos h13]
       by_cases hmx : n < 9223372036854775807
       ·rw [if_pos hmx, if_neg (by omega)]
        refine key _ _ (fun h0 _ => ?_) (fun h => h) (fun h1 h2 => absurd (h1.symm.trans h2) (by decide))
        have := hs2 h0
        unfold inR at this
        unfold meetR
        dsimp only
        congr 1
        omega
       ·rw [if_neg hmx, if_pos (by omega)]
        refine key _ _ (fun _ h0 => by cases h0) (fun _ => rfl) (fun _ _ => ?_)
        unfold meetR
        dsimp only
        omega
      ·rw [if_neg h13, if_neg h13]
       by_cases h14 : op = 14
       ·rw [if_pos h14, if_pos h14]
        refine key _ _ (fun h0 _ => ?_) (fun h => h) (fun h1 h2 => absurd (h1.symm.trans h2) (by decide))
        have := hs2 h0
        unfold inR at this
        unfold meetR
        dsimp only
        congr 1
        omega
       ·rw [if_neg h14, if_neg h14]
        exact hself
theorem turn_tab {op : Int} (h : 9 ≤ op ∧ op ≤ 14) : lrd ([(9 : Int), (10 : Int), (13 : Int), (14 : Int), (11 : Int), (12 : Int)] : List Int) (op - 9).toNat = turnN op := by
 have : op = 9 ∨ op = 10 ∨ op = 11 ∨ op = 12 ∨ op = 13 ∨ op = 14 := by omega
 rcases this with rfl | rfl | rfl | rfl | rfl | rfl <;> rfl
theorem turn_in {op : Int} (h : 9 ≤ op ∧ op ≤ 14) : 9 ≤ turnN op ∧ turnN op ≤ 14 := by
 have : op = 9 ∨ op = 10 ∨ op = 11 ∨ op = 12 ∨ op = 13 ∨ op = 14 := by omega
 rcases this with rfl | rfl | rfl | rfl | rfl | rfl <;> decide
end Go.Proofs.YtichdokjjdkjdaaDoor.VM
