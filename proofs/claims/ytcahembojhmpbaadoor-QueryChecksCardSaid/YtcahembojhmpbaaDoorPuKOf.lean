/- Words and rules that the proof uses. -/
import Derived.Test.YtcahembojhmpbaaDoorPuCols
namespace Go.Proofs.YtcahembojhmpbaaDoor.VM
open Go Go.RowKit
def goodE : Nat → GExpr → Prop
 | 0, _ => False
 | m + 1, e => (1 ≤ e.Op ∧ e.Op ≤ 20) ∧ g_expr_wants e.Op = some (e.Args.length : Int) ∧ (e.Op = 1 → 0 ≤ e.Value.Kind ∧ e.Value.Kind ≤ 4) ∧ ∀ k, k < e.Args.length → goodE m (lrd e.Args k)
theorem node_good {e : GExpr} (q : GExpr.ok e) (h : g_expr_node e = some 0) : (1 ≤ e.Op ∧ e.Op ≤ 20) ∧ g_expr_wants e.Op = some (e.Args.length : Int) ∧ (e.Op = 1 → 0 ≤ e.Value.Kind ∧ e.Value.Kind ≤ 4) := by
 obtain ⟨_, hvi, hnm, _, _⟩ := exOk q
 unfold g_expr_node at h
 by_cases hop : (e.Op < (1 : Int)) ∨ (e.Op > (20 : Int))
 ·rw [if_pos hop] at h; cases h
 ·have hop2 : 1 ≤ e.Op ∧ e.Op ≤ 20 := by omega
  rw [if_neg hop, wants_eq hop2, Option.bind_some] at h
  rw [wants_eq hop2]
  refine ⟨hop2, ?_, fun h1 => ?_⟩
  ·generalize (lrd _ e.Op.toNat : Int) = W at h ⊢
   by_cases hlen : (e.Args.length : Int) ≠ W
   ·rw [if_pos hlen] at h; cases h
   ·congr 1; omega
  ·generalize (lrd _ e.Op.toNat : Int) = W at h
   by_cases hlen : (e.Args.length : Int) ≠ W
   ·rw [if_pos hlen] at h; cases h
   ·rw [if_neg hlen] at h
    split at h
    ·cases h
    ·rw [if_neg (show ¬ e.Op = 2 by omega), Option.bind_some, if_neg (show ¬ (false = true) by decide)] at h
     try rw [if_pos h1] at h
     obtain ⟨ve, hv1, _, hv3⟩ := check_eq e.Value hvi
     rw [hv1, Option.bind_some] at h
     by_cases hve : ve ≠ 0
     ·rw [if_pos hve, Option.bind_some, if_pos rfl] at h; cases h
     ·have := hv3 (by omega)
      exact ⟨this.1, this.2.1⟩
theorem nodes_good : ∀ (m f : Nat) (e : GExpr), m < f → GExpr.ok e → lev m [e] = [] → g_expr_nodes f e = some 0 → goodE m e
 | _, 0, _, h, _, _, _ => by omega
 | 0, _, _, _, _, h, _ => by cases h
 | m + 1, f + 1, e, hf, q, hv, h => by
  obtain ⟨_, _, _, hl, hargs⟩ := exOk q
  obtain ⟨own, h1, _⟩ := node_eq q
  unfold g_expr_nodes g_expr_nodes_b at h
  rw [h1, Option.bind_some] at h
  by_cases ho : own ≠ 0
  ·rw [if_pos ho] at h
   exact absurd (Option.some.inj h) ho
  ·have ho0 : own = 0 := by omega
   rw [if_neg ho] at h
   rw [ho0] at h1
   rw [lev, one_args] at hv
   obtain ⟨g1, g2, g3⟩ := node_good q h1
   obtain ⟨o, h2, h3⟩ := loop_passes (step := g_expr_nodes_l0 e (g_expr_nodes f)) e.Args.length (by omega) (fun k hk => by
    unfold g_expr_nodes_l0
    dsimp only
    obtain ⟨r, h5, _⟩ := nodes_eq m f (lrd e.Args k) (by omega) (hargs _ (lrd_mem hk)) (lev_part hk hv)
    rw [if_pos (natLt hk), if_pos (natIn hk), Int.toNat_natCast, h5, Option.bind_some]
    by_cases hr : r ≠ 0
    ·rw [if_pos hr]; exact .inr ⟨r, hr, rfl⟩
    ·rw [if_neg hr]; exact .inl rfl) (by
    unfold g_expr_nodes_l0
    dsimp only
    rw [if_neg natNlt])
   rw [h2, Option.bind_some] at h
   cases o with
   | inl y => exact absurd (Option.some.inj h) h3
   | inr u =>
    refine ⟨g1, g2, g3, fun k hk => ?_⟩
    have h4 := h3 k hk
    obtain ⟨r, h5, _⟩ := nodes_eq m f (lrd e.Args k) (by omega) (hargs _ (lrd_mem hk)) (lev_part hk hv)
    unfold g_expr_nodes_l0 at h4
    dsimp only at h4
    rw [if_pos (natLt hk), if_pos (natIn hk), Int.toNat_natCast, h5, Option.bind_some] at h4
    by_cases hr : r ≠ 0
    ·rw [if_pos hr] at h4; cases h4
    ·have hr0 : r = 0 := by omega
     rw [hr0] at h5
     exact nodes_good m f (lrd e.Args k) (by omega) (hargs _ (lrd_mem hk)) (lev_part hk hv) h5
theorem check_good {e : GExpr} (q : GExpr.ok e) (h : g_expr_Check e = some 0) : goodE 7 e := by
 unfold g_expr_Check at h
 rw [size_eq 7 100000 e 1 (by decide) (by decide) (by decide) q, Option.bind_some] at h
 by_cases hf : fine 7 e
 ·rw [if_pos hf] at h
  dsimp only at h
  rw [if_neg (by decide)] at h
  obtain ⟨r, h1, _⟩ := nodes_eq 7 100000 e (by decide) q (List.length_eq_zero_iff.1 hf.1)
  rw [h1, Option.bind_some] at h
  rw [Option.some.inj h] at h1
  exact nodes_good 7 100000 e (by decide) q (List.length_eq_zero_iff.1 hf.1) h1
 ·rw [if_neg hf] at h
  cases h
structure colsFine (cols : List GColumn) : Prop where
 kinds : ∀ k, k < cols.length → 1 ≤ (lrd cols k).Kind ∧ (lrd cols k).Kind ≤ 4
 once : ∀ i j, i < cols.length → j < cols.length → (lrd cols i).Name = (lrd cols j).Name → i = j
theorem cols_fine {cols : List GColumn} (hl : cols.length < 9223372036854775807) (hc : ∀ c ∈ cols, c.Name.length < 9223372036854775807) (h : g_kinds_Columns cols = some 0) : colsFine cols := by
 have hstep : ∀ k, k < cols.length → g_kinds_Columns_l0 cols (k : Int) = if wrong (((lrd cols k).Name.length : Int) > 8) (isNm (lrd cols k).Name = true) ≠ 0 then some (.inr (.inl 3)) else if (lrd cols k).Kind < 1 ∨ (lrd cols k).Kind > 4 then some (.inr (.inl 2)) else if ((cut cols 0 (k : Int)).any fun d => decide (d.Name = (lrd cols k).Name)) = true then some (.inr (.inl 8)) else some (.inl (w64 ((k : Int) + 1))) := by
  intro k hk
  unfold g_kinds_Columns_l0
  dsimp only
  rw [if_pos (natLt hk), if_pos (natIn hk), Int.toNat_natCast, name_eq _ (hc _ (lrd_mem hk)), Option.bind_some, if_pos (show (0 : Int) ≤ (k : Int) ∧ (k : Int) ≤ (cols.length : Int) by omega)]
  have ht := twice_eq cols (k : Int) (natIn hk) hl
  rw [Int.toNat_natCast] at ht
  rw [ht, Option.bind_some]
  by_cases hw : wrong (((lrd cols k).Name.length : Int) > 8) (isNm (lrd cols k).Name = true) ≠ 0
  ·rw [if_pos hw, if_pos hw]
  ·rw [if_neg hw, if_neg hw]
   by_cases hkd : (lrd cols k).Kind < 1 ∨ (lrd cols k).Kind > 4
   ·rw [if_pos hkd, if_pos hkd]
   ·rw [if_neg hkd, if_neg hkd]
    by_cases ha : ((cut cols 0 (k : Int)).any fun d => decide (d.Name = (lrd cols k).Name)) = true
    ·simp only [if_pos ha]
    ·simp only [if_neg ha]
 unfold g_kinds_Columns at h
 by_cases h5 : (cols.length : Int) > 5
 ·rw [if_pos h5] at h; cases h
 ·rw [if_neg h5] at h
  obtain ⟨o, h1, h2⟩ := loop_passes (step := g_kinds_Columns_l0 cols) cols.length hl (fun k hk => by
   rw [hstep k hk]
   split
   ·exact .inr ⟨3, by decide, rfl⟩
   ·split
    ·exact .inr ⟨2, by decide, rfl⟩
    ·split
     ·exact .inr ⟨8, by decide, rfl⟩
     ·exact .inl rfl) (by
   unfold g_kinds_Columns_l0
   dsimp only
   rw [if_neg natNlt])
  rw [h1, Option.bind_some] at h
  cases o with
  | inl y => exact absurd (Option.some.inj h) h2
  | inr u =>
   have h3 : ∀ k, k < cols.length → ¬ ((lrd cols k).Kind < 1 ∨ (lrd cols k).Kind > 4) ∧ ¬ (((cut cols 0 (k : Int)).any fun d => decide (d.Name = (lrd cols k).Name)) = true) := by
    intro k hk
    have h4 := h2 k hk
    rw [hstep k hk] at h4
    split at h4
    ·cases h4
    ·split at h4
     ·cases h4
     ·split at h4
      ·cases h4
      ·exact ⟨by assumption, by assumption⟩
   have hlt : ∀ i j, i < j → j < cols.length → (lrd cols i).Name ≠ (lrd cols j).Name := by
    intro i j hij hj he
    refine (h3 j hj).2 (List.any_eq_true.2 ⟨lrd cols i, ?_, decide_eq_true he⟩)
    rw [show cut cols 0 (j : Int) = cols.take j by simp only [cut, Int.toNat_zero, Int.toNat_natCast, List.drop_zero, Nat.sub_zero]]
    have : lrd (cols.take j) i = lrd cols i := by
     rw [lrd_at (by rw [List.length_take]; omega), lrd_at (by omega), List.getElem_take]
    rw [← this]
    exact lrd_mem (by rw [List.length_take]; omega)
   refine ⟨fun k hk => by have := (h3 k hk).1; omega, fun i j hi hj he => ?_⟩
   rcases Nat.lt_trichotomy i j with h4 | h4 | h4
   ·exact absurd he (hlt i j h4 hj)
   ·exact h4
   ·exact absurd he.symm (hlt j i h4 hi)
theorem down_idx {α : Type} [Inhabited α] {step : Int → Option (Int ⊕ (Int ⊕ Unit))} (l : List α) (p : α → Bool) (hl : l.length < 9223372036854775807) (hs : ∀ k, k < l.length → step (k : Int) = some (if p (lrd l k) = true then .inr (.inl (k : Int)) else .inl (w64 ((k : Int) - 1)))) (he : step (-1) = some (.inr (.inr ()))) :
  ∀ j, j ≤ l.length → ∃ o, loopO step ((j : Int) - 1) = some o ∧ match o with | .inl r => ∃ i, i < l.length ∧ r = (i : Int) ∧ p (lrd l i) = true | .inr _ => ∀ i, i < j → p (lrd l i) = false := by
 intro j
 induction j with
 | zero => intro _; exact ⟨.inr (), loopO_done he, fun i hi => by omega⟩
 | succ j ih =>
  intro hj
  rw [show ((j + 1 : Nat) : Int) - 1 = (j : Int) by omega]
  have h1 := hs j (by omega)
  by_cases hp : p (lrd l j) = true
  ·rw [if_pos hp] at h1
   exact ⟨_, loopO_done h1, j, by omega, rfl, hp⟩
  ·rw [if_neg hp, w64_id (by omega)] at h1
   obtain ⟨o, h2, h3⟩ := ih (by omega)
   refine ⟨o, by rw [loopO_next h1]; exact h2, ?_⟩
   cases o with
   | inl r => exact h3
   | inr u =>
    intro i hi
    rcases Nat.lt_or_ge i j with h4 | h4
    ·exact h3 i h4
    ·rw [show i = j by omega]; exact Bool.eq_false_iff.2 hp
theorem colAt (l : List GColumn) (n : List UInt8) (hl : l.length < 9223372036854775807) : (∃ i, i < l.length ∧ (lrd l i).Name = n ∧ g_ref_columnAt l n = some (i : Int)) ∨ ((∀ i, i < l.length → (lrd l i).Name ≠ n) ∧ g_ref_columnAt l n = some (-1)) := by
 obtain ⟨o, h1, h2⟩ := down_idx (step := g_ref_columnAt_l0 l n) l (fun c => decide (c.Name = n)) hl (fun k hk => by
  unfold g_ref_columnAt_l0
  dsimp only
  rw [if_pos (by omega), if_pos (natIn hk), Int.toNat_natCast]
  by_cases h1 : (lrd l k).Name = n
  ·rw [if_pos h1, if_pos (decide_eq_true h1)]
  ·rw [if_neg h1, if_neg (by rw [decide_eq_false h1]; decide)]) (by
  unfold g_ref_columnAt_l0
  dsimp only
  rw [if_neg (by decide)]) l.length (Nat.le_refl _)
 unfold g_ref_columnAt
 rw [w64_id (by omega), h1, Option.bind_some]
 cases o with
 | inl r =>
  obtain ⟨i, hi, rfl, hp⟩ := h2
  exact .inl ⟨i, hi, of_decide_eq_true hp, rfl⟩
 | inr u => exact .inr ⟨fun i hi => of_decide_eq_false (h2 i hi), rfl⟩
theorem of_col (e : GExpr) (cols : List GColumn) (hl : cols.length < 9223372036854775807) : ∃ r, loopO (g_kinds_of_l0 e cols) (0 : Int) = some r ∧ ((∃ i, i < cols.length ∧ (lrd cols i).Name = e.Name ∧ r = .inl (⟨(lrd cols i).Kind, (lrd cols i).Null⟩, 0)) ∨ ((∀ i, i < cols.length → (lrd cols i).Name ≠ e.Name) ∧ r = .inr ())) := by
 refine loopO_times (step := g_kinds_of_l0 e cols) cols.length (fun k (_ : Unit) => (k : Int)) (fun k _ => ∀ i, i < k → (lrd cols i).Name ≠ e.Name) _ (fun k _ hk hi => ?_) (fun _ hi => ?_) (s := ()) (fun i hi => by omega)
 ·unfold g_kinds_of_l0
  dsimp only
  rw [if_pos (natLt hk), if_pos (natIn hk), Int.toNat_natCast]
  by_cases h : (lrd cols k).Name = e.Name
  ·right
   exact ⟨.inl (⟨(lrd cols k).Kind, (lrd cols k).Null⟩, 0), by rw [if_pos h, letO_eq], .inl ⟨k, hk, h, rfl⟩⟩
  ·left
   refine ⟨(), by rw [if_neg h, w64_succ (by omega)], fun i hik => ?_⟩
   rcases Nat.lt_or_ge i k with h4 | h4
   ·exact hi i h4
   ·rw [show i = k by omega]; exact h
 ·unfold g_kinds_of_l0
  dsimp only
  rw [if_neg natNlt]
  exact ⟨_, rfl, .inr ⟨hi, rfl⟩⟩
def fitB (s : Gkinds_sort) (kind : Int) : Bool := decide (s.kind_ = kind ∨ s.kind_ = 0)
theorem two_front {l : Vector Gkinds_sort 2} {n k : Nat} (hk : k < n) (hn : n ≤ 2) : lrd (List.take (n : Int).toNat l.toList) k = vrd l k ∧ k < (List.take (n : Int).toNat l.toList).length := by
 have hlen : l.toList.length = 2 := vlen l
 have h2 : k < (List.take (n : Int).toNat l.toList).length := by rw [List.length_take, Int.toNat_natCast]; omega
 refine ⟨?_, h2⟩
 rw [lrd_at h2, List.getElem_take, ← lrd_vec, lrd_at (by omega)]
theorem asks_step (kind : Int) (l : Vector Gkinds_sort 2) {n k : Nat} (hk : k < n) (hn : n ≤ 2) (s : Gkinds_sort) : g_kinds_joined_1_i0_l0 kind l (n : Int) ((k : Int), s) = if fitB (vrd l k) kind = true then some (.inl (((k + 1 : Nat) : Int), { s with null_ := (s.null_ || (vrd l k).null_) })) else some (.inr (.inl (Gkinds_sort.zero, 2))) := by
 obtain ⟨h1, h2⟩ := two_front (l := l) hk hn
 unfold g_kinds_joined_1_i0_l0 g_kinds_sort_fits
 dsimp only
 rw [if_pos (natLt h2), if_pos (natIn h2), Int.toNat_natCast (n := k), h1, Option.bind_some, w64_succ (by omega), letO_eq]
 unfold fitB
 by_cases h : (vrd l k).kind_ = kind ∨ (vrd l k).kind_ = 0
 ·rw [decide_eq_true h, if_neg (by decide), if_pos rfl, Bool.decide_or]
  simp
 ·rw [decide_eq_false h, if_pos (by decide), if_neg (by decide)]
theorem asks_done (kind : Int) (l : Vector Gkinds_sort 2) {n : Nat} (hn : n ≤ 2) (s : Gkinds_sort) : g_kinds_joined_1_i0_l0 kind l (n : Int) ((n : Int), s) = some (.inr (.inr s)) := by
 unfold g_kinds_joined_1_i0_l0
 dsimp only
 have hlen : l.toList.length = 2 := vlen l
 rw [if_neg (by rw [List.length_take, Int.toNat_natCast]; omega)]
theorem asks_one (kind gives : Int) (l : Vector Gkinds_sort 2) : g_kinds_joined_1_i0 kind gives l (1 : Int) = some (if fitB (vrd l 0) kind = true then (⟨gives, (vrd l 0).null_⟩, 0) else (Gkinds_sort.zero, 2)) := by
 unfold g_kinds_joined_1_i0
 rw [if_pos (by decide)]
 have h0 := asks_step kind l (n := 1) (k := 0) (by decide) (by decide) { Gkinds_sort.zero with kind_ := gives }
 by_cases h : fitB (vrd l 0) kind = true
 ·rw [if_pos h] at h0 ⊢
  have h1 := asks_done kind l (n := 1) (by decide) { ({ Gkinds_sort.zero with kind_ := gives } : Gkinds_sort) with null_ := (({ Gkinds_sort.zero with kind_ := gives } : Gkinds_sort).null_ || (vrd l 0).null_) }
  have h2 := (loopO_next h0).trans (loopO_done h1)
  rw [show (loopO (g_kinds_joined_1_i0_l0 kind l 1) ((0 : Int), ({ Gkinds_sort.zero with kind_ := gives } : Gkinds_sort))) = _ from h2]
  rfl
 ·rw [if_neg h] at h0 ⊢
  rw [show (loopO (g_kinds_joined_1_i0_l0 kind l 1) ((0 : Int), ({ Gkinds_sort.zero with kind_ := gives } : Gkinds_sort))) = _ from loopO_done h0]
  rfl
theorem asks_two (kind gives : Int) (l : Vector Gkinds_sort 2) : g_kinds_joined_1_i0 kind gives l (2 : Int) = some (if fitB (vrd l 0) kind = true ∧ fitB (vrd l 1) kind = true then (⟨gives, (vrd l 0).null_ || (vrd l 1).null_⟩, 0) else (Gkinds_sort.zero, 2)) := by
 unfold g_kinds_joined_1_i0
 rw [if_pos (by decide)]
 have h0 := asks_step kind l (n := 2) (k := 0) (by decide) (by decide) { Gkinds_sort.zero with kind_ := gives }
 by_cases h : fitB (vrd l 0) kind = true
 ·rw [if_pos h] at h0
  have h1 := asks_step kind l (n := 2) (k := 1) (by decide) (by decide) { ({ Gkinds_sort.zero with kind_ := gives } : Gkinds_sort) with null_ := (({ Gkinds_sort.zero with kind_ := gives } : Gkinds_sort).null_ || (vrd l 0).null_) }
  by_cases hb : fitB (vrd l 1) kind = true
  ·rw [if_pos hb] at h1
   rw [if_pos ⟨h, hb⟩]
   have h2 := asks_done kind l (n := 2) (by decide) ⟨gives, (false || (vrd l 0).null_) || (vrd l 1).null_⟩
   have h3 := (loopO_next h0).trans ((loopO_next h1).trans (loopO_done h2))
   rw [show (loopO (g_kinds_joined_1_i0_l0 kind l 2) ((0 : Int), ({ Gkinds_sort.zero with kind_ := gives } : Gkinds_sort))) = _ from h3]
   rfl
  ·rw [if_neg hb] at h1
   rw [if_neg (fun q => hb q.2)]
   have h3 := (loopO_next h0).trans (loopO_done h1)
   rw [show (loopO (g_kinds_joined_1_i0_l0 kind l 2) ((0 : Int), ({ Gkinds_sort.zero with kind_ := gives } : Gkinds_sort))) = _ from h3]
   rfl
 ·rw [if_neg h] at h0
  rw [if_neg (fun q => h q.1), show (loopO (g_kinds_joined_1_i0_l0 kind l 2) ((0 : Int), ({ Gkinds_sort.zero with kind_ := gives } : Gkinds_sort))) = _ from loopO_done h0]
  rfl
end Go.Proofs.YtcahembojhmpbaaDoor.VM
