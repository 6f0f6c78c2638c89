/- Words and rules that the proof uses. -/
import Derived.Test.YtcahembojhmpbaaDoorPuKOf2
namespace Go.Proofs.YtcahembojhmpbaaDoor.VM
open Go Go.RowKit
theorem nothing_eq (e : GExpr) : ∃ b, g_query_none e = some b ∧ g_ref_noExpr e = some b := by
 unfold g_query_none g_ref_noExpr
 refine ⟨_, rfl, ?_⟩
 rw [decide_eq_decide.2 (show ((((e.Op = (0 : Int)) ∧ (e.Value = GValue.zero)) ∧ (e.Name = [])) ∧ ((e.Args.length : Int) = (0 : Int))) ↔ ((((e.Op = (0 : Int)) ∧ (e.Name = [])) ∧ (e.Value = GValue.zero)) ∧ ((e.Args.length : Int) = (0 : Int))) from ⟨fun h => ⟨⟨⟨h.1.1.1, h.1.2⟩, h.1.1.2⟩, h.2⟩, fun h => ⟨⟨⟨h.1.1.1, h.1.2⟩, h.1.1.2⟩, h.2⟩⟩)]
theorem item_eq {it : GItem} {cols : List GColumn} {q : GQuery} (h : GExpr.ok it.Expr) (hl : cols.length < 9223372036854775807) (hc : ∀ c ∈ cols, c.Name.length < 9223372036854775807) : ∃ r, g_query_item it cols q = some r ∧ g_ref_itemFault it cols q.Group = some r := by
 unfold g_query_item g_ref_itemFault
 by_cases h1 : it.Agg = 1
 ·obtain ⟨b, h2, h3⟩ := nothing_eq it.Expr
  rw [if_neg (by omega), if_pos h1, if_pos h1, h2, h3, Option.bind_some, Option.bind_some]
  cases b
  ·exact ⟨3, rfl, rfl⟩
  ·exact ⟨0, rfl, rfl⟩
 ·by_cases h5 : it.Agg < 0 ∨ it.Agg > 4
  ·rw [if_pos h5, if_neg h1, if_neg (by omega), if_neg (by omega), if_neg (by omega), decide_eq_false (by omega), Option.bind_some, if_neg (by decide)]
   exact ⟨2, rfl, rfl⟩
  ·have hj : ((if it.Agg = (0 : Int) then some (decide (it.Agg = (0 : Int))) else (if it.Agg = (2 : Int) then some (decide (it.Agg = (2 : Int))) else (if it.Agg = (3 : Int) then some (decide (it.Agg = (3 : Int))) else some (decide (it.Agg = (4 : Int))))))) = some true := by
    have : it.Agg = 0 ∨ it.Agg = 2 ∨ it.Agg = 3 ∨ it.Agg = 4 := by omega
    rcases this with h | h | h | h <;> rw [h] <;> rfl
   obtain ⟨r, h2, h3, _⟩ := of_eq h hl hc
   rw [if_neg h5, if_neg h1, if_neg h1, hj, h2, h3]
   simp only [Option.bind_some, if_true]
   by_cases ha : r.2.2 ≠ 0
   ·simp only [if_pos ha]; exact ⟨_, rfl, rfl⟩
   ·simp only [if_neg ha]
    by_cases hb : ((it.Agg = (2 : Int)) ∧ (r.1 ≠ (2 : Int))) ∧ (r.1 ≠ (0 : Int))
    ·simp only [if_pos hb]; exact ⟨_, rfl, rfl⟩
    ·simp only [if_neg hb]
     by_cases hd : ((it.Agg = (0 : Int)) ∧ (q.Group ≠ [])) ∧ ((it.Expr.Op ≠ (2 : Int)) ∨ (it.Expr.Name ≠ q.Group))
     ·simp only [if_pos hd]; exact ⟨_, rfl, rfl⟩
     ·simp only [if_neg hd]; exact ⟨_, rfl, rfl⟩
theorem there_eq (cols : List GColumn) (q : GQuery) (hl : cols.length < 9223372036854775807) : ∃ b, loopO (g_query_Check_l0 cols q) ((decide (q.Group = [])), (0 : Int)) = some b ∧ ((if q.Group ≠ [] then (g_ref_columnAt cols q.Group).bind fun r'4 => some (decide (r'4 < (0 : Int))) else some false)) = some (!b) := by
 obtain ⟨b, h1, h2⟩ := loopO_times (step := g_query_Check_l0 cols q) cols.length (fun k (b : Bool) => (b, (k : Int))) (fun k b => (b = true ↔ (q.Group = [] ∨ ∃ i, i < k ∧ (lrd cols i).Name = q.Group))) (fun b => (b = true ↔ (q.Group = [] ∨ ∃ i, i < cols.length ∧ (lrd cols i).Name = q.Group))) (fun k b hk hi => by
  left
  refine ⟨decide ((b = true) ∨ ((lrd cols k).Name = q.Group)), ?_, ?_⟩
  ·unfold g_query_Check_l0
   dsimp only
   rw [if_pos (natLt hk), if_pos (natIn hk), Int.toNat_natCast, w64_succ (by omega)]
  ·rw [decide_eq_true_iff, hi]
   constructor
   ·rintro ((h | ⟨i, h3, h4⟩) | h)
    ·exact .inl h
    ·exact .inr ⟨i, by omega, h4⟩
    ·exact .inr ⟨k, by omega, h⟩
   ·rintro (h | ⟨i, h3, h4⟩)
    ·exact .inl (.inl h)
    ·rcases Nat.lt_or_ge i k with h5 | h5
     ·exact .inl (.inr ⟨i, h5, h4⟩)
     ·rw [show i = k by omega] at h4
      exact .inr h4) (fun b hi => ⟨b, by
  unfold g_query_Check_l0
  dsimp only
  rw [if_neg natNlt], hi⟩) (s := decide (q.Group = [])) (by
  rw [decide_eq_true_iff]
  exact ⟨.inl, fun h => h.elim id (fun ⟨i, h3, _⟩ => absurd h3 (Nat.not_lt_zero _))⟩)
 refine ⟨b, h1, ?_⟩
 by_cases hg : q.Group = []
 ·rw [if_neg (fun h => h hg), h2.2 (.inl hg)]; rfl
 ·rw [if_pos hg]
  rcases colAt cols q.Group hl with ⟨i, hi, hn, hc⟩ | ⟨hno, hc⟩
  ·rw [hc, Option.bind_some, h2.2 (.inr ⟨i, hi, hn⟩), decide_eq_false (by omega)]; rfl
  ·have hb : b = false := Bool.eq_false_iff.2 (fun h => by
    rcases h2.1 h with h3 | ⟨i, hi, h3⟩
    ·exact hg h3
    ·exact hno i hi h3)
   rw [hc, Option.bind_some, hb]; rfl
theorem items_eq {cols : List GColumn} {q : GQuery} (hs : ∀ it ∈ q.Items, GExpr.ok it.Expr) (hl : cols.length < 9223372036854775807) (hc : ∀ c ∈ cols, c.Name.length < 9223372036854775807) (hn : q.Items.length < 9223372036854775807) : ∃ o, loopO (g_query_Check_l1 cols q) ((0 : Int), (0 : Int)) = some o ∧ loopO (g_ref_QueryFault_l0 cols q) ((0 : Int), (0 : Int)) = some o ∧ match o with | .inl _ => True | .inr p => 0 ≤ p ∧ p ≤ (q.Items.length : Int) := by
 have both : ∀ (k : Nat) (p : Int), k < q.Items.length → 0 ≤ p ∧ p ≤ (k : Int) → (∃ p', (0 ≤ p' ∧ p' ≤ ((k + 1 : Nat) : Int)) ∧ g_query_Check_l1 cols q (p, (k : Int)) = some (.inl (p', ((k + 1 : Nat) : Int))) ∧ g_ref_QueryFault_l0 cols q (p, (k : Int)) = some (.inl (p', ((k + 1 : Nat) : Int)))) ∨ ∃ y, g_query_Check_l1 cols q (p, (k : Int)) = some (.inr (.inl y)) ∧ g_ref_QueryFault_l0 cols q (p, (k : Int)) = some (.inr (.inl y)) := by
  intro k p hk hp
  obtain ⟨r, h1, h2⟩ := item_eq (q := q) (hs _ (lrd_mem hk)) hl hc
  unfold g_query_Check_l1 g_ref_QueryFault_l0
  dsimp only
  rw [if_pos (natLt hk), if_pos (natIn hk), if_pos (natLt hk), if_pos (natIn hk), Int.toNat_natCast, h1, h2, w64_succ (k := k) (by omega)]
  simp only [Option.bind_some]
  by_cases hr : r ≠ 0
  ·simp only [if_pos hr, Option.bind_some]
   exact .inr ⟨r, rfl, rfl⟩
  ·simp only [if_neg hr]
   left
   by_cases ha : (lrd q.Items k).Agg = 0
   ·simp only [if_pos ha, Option.bind_some]
    rw [w64_id (n := p + 1) (by omega)]
    exact ⟨p + 1, by omega, rfl, rfl⟩
   ·simp only [if_neg ha, Option.bind_some]
    exact ⟨p, by omega, rfl, rfl⟩
 have done1 : ∀ p : Int, g_query_Check_l1 cols q (p, (q.Items.length : Int)) = some (.inr (.inr p)) := by
  intro p
  unfold g_query_Check_l1
  dsimp only
  rw [if_neg natNlt]
 have done2 : ∀ p : Int, g_ref_QueryFault_l0 cols q (p, (q.Items.length : Int)) = some (.inr (.inr p)) := by
  intro p
  unfold g_ref_QueryFault_l0
  dsimp only
  rw [if_neg natNlt]
 obtain ⟨r, h1, h2⟩ := loopO_times (step := g_query_Check_l1 cols q) q.Items.length (fun k (p : Int) => (p, (k : Int))) (fun k p => 0 ≤ p ∧ p ≤ (k : Int)) (fun o => match o with | .inl _ => True | .inr p => 0 ≤ p ∧ p ≤ (q.Items.length : Int)) (fun k p hk hp => by
  rcases both k p hk hp with ⟨p', h3, h4, _⟩ | ⟨y, h4, _⟩
  ·exact .inl ⟨p', h4, h3⟩
  ·exact .inr ⟨_, h4, trivial⟩) (fun p hp => ⟨_, done1 p, hp⟩) (s := 0) ⟨Int.le_refl _, Int.le_refl _⟩
 obtain ⟨r', h3, h4⟩ := loopO_two (step := g_query_Check_l1 cols q) (step2 := g_ref_QueryFault_l0 cols q) (fun a c => a = c ∧ ∃ k : Nat, a.2 = (k : Int) ∧ k ≤ q.Items.length ∧ 0 ≤ a.1 ∧ a.1 ≤ (k : Int)) (fun a => q.Items.length - a.2.toNat) (fun a c hR => by
  obtain ⟨rfl, k, hk1, hk2, hp⟩ := hR
  obtain ⟨p, t⟩ := a
  dsimp only at hk1 hp ⊢
  subst hk1
  by_cases hk : k < q.Items.length
  ·rcases both k p hk hp with ⟨p', h5, h6, h7⟩ | ⟨y, h6, h7⟩
   ·refine .inl ⟨_, _, h6, h7, ⟨rfl, k + 1, rfl, hk, h5⟩, ?_⟩
    simp only [Int.toNat_natCast]
    omega
   ·exact .inr ⟨_, h6, h7⟩
  ·have hke : k = q.Items.length := by omega
   subst hke
   exact .inr ⟨_, done1 p, done2 p⟩) (a := ((0 : Int), (0 : Int))) (c := ((0 : Int), (0 : Int))) ⟨rfl, 0, rfl, Nat.zero_le _, Int.le_refl _, Int.le_refl _⟩
 have h1' : loopO (g_query_Check_l1 cols q) ((0 : Int), (0 : Int)) = some r := h1
 have : r' = r := Option.some.inj (h3.symm.trans h1')
 subst this
 exact ⟨r', h3, h4, h2⟩
theorem sorts_eq {q : GQuery} (hn : q.Sorts.length < 9223372036854775807) : ∃ o, loopO (g_query_Check_l2 q) (0 : Int) = some o ∧ loopO (g_ref_QueryFault_l1 q) (0 : Int) = some o := by
 refine loopO_two (step := g_query_Check_l2 q) (step2 := g_ref_QueryFault_l1 q) (fun a c => a = c ∧ ∃ k : Nat, a = (k : Int) ∧ k ≤ q.Sorts.length) (fun a => q.Sorts.length - a.toNat) (fun a c hR => ?_) (a := (0 : Int)) (c := (0 : Int)) ⟨rfl, 0, rfl, Nat.zero_le _⟩
 obtain ⟨rfl, k, rfl, hk⟩ := hR
 unfold g_query_Check_l2 g_ref_QueryFault_l1
 dsimp only
 by_cases hk2 : k < q.Sorts.length
 ·rw [if_pos (natLt hk2), if_pos (natIn hk2), if_pos (natLt hk2), if_pos (natIn hk2), Int.toNat_natCast, w64_succ (by omega)]
  by_cases hb : ((lrd q.Sorts k).Item < (1 : Int)) ∨ ((lrd q.Sorts k).Item > (q.Items.length : Int))
  ·rw [if_pos hb, if_pos (by omega)]
   exact .inr ⟨_, rfl, rfl⟩
  ·rw [if_neg hb, if_neg (by omega)]
   refine .inl ⟨_, _, rfl, rfl, ⟨rfl, k + 1, rfl, hk2⟩, ?_⟩
   simp only [Int.toNat_natCast]
   omega
 ·have hke : k = q.Sorts.length := by omega
  subst hke
  rw [if_neg natNlt, if_neg natNlt]
  exact .inr ⟨_, rfl, rfl⟩
theorem query_eq {cols : List GColumn} {q : GQuery} (hl : cols.length < 9223372036854775807) (hc : ∀ c ∈ cols, c.Name.length < 9223372036854775807) (hs : ∀ it ∈ q.Items, GExpr.ok it.Expr) (hw : GExpr.ok q.Where) (hn : q.Items.length < 9223372036854775807) (hm : q.Sorts.length < 9223372036854775807) : ∃ r, g_query_Check cols q = some r ∧ g_ref_QueryFault cols q = some r := by
 unfold g_query_Check g_ref_QueryFault
 obtain ⟨y, h3, h4⟩ := cols_eq cols hl hc
 rw [h3, h4, Option.bind_some, Option.bind_some]
 by_cases hy : y ≠ 0
 ·rw [if_pos hy, if_pos hy]; exact ⟨_, rfl, rfl⟩
 ·rw [if_neg hy, if_neg hy]
  by_cases hk : (((q.Items.length : Int) < (1 : Int)) ∨ ((q.Items.length : Int) > (4 : Int))) ∨ ((q.Sorts.length : Int) > (4 : Int))
  ·rw [if_pos hk, if_pos (show (((q.Items.length : Int) = (0 : Int)) ∨ ((q.Items.length : Int) > (4 : Int))) ∨ ((q.Sorts.length : Int) > (4 : Int)) by omega)]
   exact ⟨_, rfl, rfl⟩
  ·rw [if_neg hk, if_neg (show ¬ ((((q.Items.length : Int) = (0 : Int)) ∨ ((q.Items.length : Int) > (4 : Int))) ∨ ((q.Sorts.length : Int) > (4 : Int))) by omega)]
   obtain ⟨w, h5, h6⟩ := cond_eq hw hl hc
   rw [h5, h6, Option.bind_some, Option.bind_some]
   by_cases hx : w ≠ 0
   ·rw [if_pos hx, if_pos hx]; exact ⟨_, rfl, rfl⟩
   ·rw [if_neg hx, if_neg hx]
    obtain ⟨b, h7, h8⟩ := there_eq cols q hl
    rw [h7, h8, Option.bind_some, Option.bind_some]
    by_cases hb : (!b) = true
    ·rw [if_pos hb, if_pos hb]; exact ⟨_, rfl, rfl⟩
    ·rw [if_neg hb, if_neg hb]
     obtain ⟨o, h9, h10, h11⟩ := items_eq (q := q) hs hl hc hn
     rw [h9, h10, Option.bind_some, Option.bind_some]
     cases o with
     | inl z => exact ⟨z, rfl, rfl⟩
     | inr p =>
      dsimp only at h11 ⊢
      by_cases hp : ((q.Group = []) ∧ (p ≠ (0 : Int))) ∧ (p ≠ (q.Items.length : Int))
      ·rw [if_pos hp, if_pos (show ((q.Group = []) ∧ (p > (0 : Int))) ∧ (p < (q.Items.length : Int)) from ⟨⟨hp.1.1, by omega⟩, by omega⟩)]
       exact ⟨_, rfl, rfl⟩
      ·rw [if_neg hp, if_neg (show ¬ (((q.Group = []) ∧ (p > (0 : Int))) ∧ (p < (q.Items.length : Int))) from fun h => hp ⟨⟨h.1.1, by omega⟩, by omega⟩)]
       obtain ⟨o, h12, h13⟩ := sorts_eq (q := q) hm
       rw [h12, h13, Option.bind_some, Option.bind_some]
       cases o with
       | inl z => exact ⟨z, rfl, rfl⟩
       | inr u =>
        dsimp only
        by_cases hq : ((q.Cut = true) ∧ (q.Most < (0 : Int))) ∨ (((!q.Cut) = true) ∧ (q.Most ≠ (0 : Int)))
        ·rw [if_pos hq, if_pos (show (q.Most < (0 : Int)) ∨ ((q.Most > (0 : Int)) ∧ ((!q.Cut) = true)) by
          rcases hq with h | h
          ·exact .inl h.2
          ·rcases Int.lt_or_lt_of_ne h.2 with h0 | h0
           ·exact .inl h0
           ·exact .inr ⟨h0, h.1⟩)]
         exact ⟨_, rfl, rfl⟩
        ·rw [if_neg hq, if_neg (show ¬ ((q.Most < (0 : Int)) ∨ ((q.Most > (0 : Int)) ∧ ((!q.Cut) = true))) from fun h => hq (by
          rcases h with h | h
          ·cases hcut : q.Cut
           ·exact .inr ⟨rfl, by omega⟩
           ·exact .inl ⟨rfl, h⟩
          ·exact .inr ⟨h.2, by omega⟩))]
         exact ⟨_, rfl, rfl⟩
theorem g_law_QueryChecks_true {x0 : List GColumn} {x1 : GQuery} (q0 : (okL 32 GColumn.ok) x0) (q1 : GQuery.ok x1) : g_law_QueryChecks x0 x1 = some true := by
 obtain ⟨⟨hi1, _, hi2⟩, hw, _, ⟨hs1, _⟩, _⟩ := q1
 obtain ⟨r, h1, h2⟩ := query_eq (colsOk q0).1 (colsOk q0).2 (q := x1) (fun it h => (hi2 it h).2) hw (Nat.lt_of_le_of_lt (Nat.le_mul_of_pos_right _ (by decide)) (Nat.lt_of_le_of_lt hi1 (by decide))) (Nat.lt_of_le_of_lt (Nat.le_mul_of_pos_right _ (by decide)) (Nat.lt_of_le_of_lt hs1 (by decide)))
 unfold g_law_QueryChecks
 rw [h1, h2]
 simp
end Go.Proofs.YtcahembojhmpbaaDoor.VM
