/- Words and rules that the proof uses. -/
import Derived.Test.YtichdokjjdkjdaaDoorPuLexW
namespace Go.Proofs.YtichdokjjdkjdaaDoor.VM
open Go Go.RowKit
def lev : Nat → List GExpr → List GExpr
 | 0, l => l
 | k + 1, l => lev k (l.flatMap GExpr.Args)
def cnt : Nat → List GExpr → Nat
 | 0, _ => 0
 | k + 1, l => l.length + cnt k (l.flatMap GExpr.Args)
theorem lev_app : ∀ (k : Nat) (a b : List GExpr), lev k (a ++ b) = lev k a ++ lev k b
 | 0, _, _ => rfl
 | k + 1, a, b => by rw [lev, lev, lev, List.flatMap_append, lev_app k]
theorem cnt_app : ∀ (k : Nat) (a b : List GExpr), cnt k (a ++ b) = cnt k a + cnt k b
 | 0, _, _ => rfl
 | k + 1, a, b => by rw [cnt, cnt, cnt, List.flatMap_append, cnt_app k, List.length_append]; omega
theorem lev_succ : ∀ (k : Nat) (l : List GExpr), lev (k + 1) l = (lev k l).flatMap GExpr.Args
 | 0, _ => rfl
 | k + 1, l => by rw [lev, lev_succ k, lev]
theorem cnt_succ : ∀ (k : Nat) (l : List GExpr), cnt (k + 1) l = cnt k l + (lev k l).length
 | 0, l => by simp [cnt, lev]
 | k + 1, l => by rw [cnt, cnt_succ k, cnt, lev]; omega
theorem lev_nil : ∀ k, lev k [] = []
 | 0 => rfl
 | k + 1 => by rw [lev, List.flatMap_nil, lev_nil k]
theorem cnt_nil : ∀ k, cnt k [] = 0
 | 0 => rfl
 | k + 1 => by rw [cnt, List.flatMap_nil, cnt_nil k]; rfl
theorem lev_end {j : Nat} {l : List GExpr} (h : lev j l = []) : ∀ i, lev (j + i) l = [] ∧ cnt (j + i) l = cnt j l
 | 0 => ⟨h, rfl⟩
 | i + 1 => by
  obtain ⟨h1, h2⟩ := lev_end h i
  rw [show j + (i + 1) = (j + i) + 1 by omega, lev_succ, cnt_succ, h1, h2]
  exact ⟨rfl, rfl⟩
theorem cnt_mono {l : List GExpr} (j : Nat) : ∀ i, cnt j l ≤ cnt (j + i) l
 | 0 => Nat.le_refl _
 | i + 1 => by
  rw [show j + (i + 1) = (j + i) + 1 by omega, cnt_succ]
  have := cnt_mono (l := l) j i
  omega
def fine (m : Nat) (e : GExpr) : Prop := (lev m [e]).length = 0 ∧ cnt m [e] ≤ 40
instance (m : Nat) (e : GExpr) : Decidable (fine m e) := inferInstanceAs (Decidable (_ ∧ _))
theorem take_lev {l : List GExpr} {m k : Nat} (hk : k < l.length) : lev m (l.take (k + 1)) = lev m (l.take k) ++ lev m [lrd l k] := by rw [take_step hk, lev_app]
theorem take_cnt {l : List GExpr} {m k : Nat} (hk : k < l.length) : cnt m (l.take (k + 1)) = cnt m (l.take k) + cnt m [lrd l k] := by rw [take_step hk, cnt_app]
theorem lev_part {l : List GExpr} {m k : Nat} (hk : k < l.length) (h : lev m l = []) : lev m [lrd l k] = [] := by
 have : l = l.take k ++ ([lrd l k] ++ l.drop (k + 1)) := by
  rw [List.singleton_append, ← drop_step hk, List.take_append_drop]
 rw [this, lev_app, lev_app] at h
 exact (List.append_eq_nil_iff.1 (List.append_eq_nil_iff.1 h).2).1
theorem cnt_part {l : List GExpr} {m k : Nat} (hk : k < l.length) : cnt m (l.take k) + cnt m [lrd l k] ≤ cnt m l := by
 have : l = l.take k ++ ([lrd l k] ++ l.drop (k + 1)) := by
  rw [List.singleton_append, ← drop_step hk, List.take_append_drop]
 conv => rhs; rw [this, cnt_app, cnt_app]
 omega
theorem one_args (e : GExpr) : [e].flatMap GExpr.Args = e.Args := by simp
theorem fine_succ {m : Nat} {e : GExpr} : fine (m + 1) e ↔ lev m e.Args = [] ∧ 1 + cnt m e.Args ≤ 40 := by
 unfold fine
 rw [lev, cnt, one_args, List.length_singleton, List.length_eq_zero_iff]
theorem exOk {e : GExpr} (q : GExpr.ok e) : okI e.Op ∧ okI e.Value.Int_ ∧ e.Name.length < 9223372036854775807 ∧ e.Args.length ≤ 140737488351232 ∧ ∀ a ∈ e.Args, GExpr.ok a := by
 cases q with
 | mk h0 h1 h2 h3 h4 h5 =>
  have h6 : e.Args.length ≤ reachBytes := Nat.le_trans (Nat.le_mul_of_pos_right _ (by decide)) h3
  exact ⟨h0, h1.2.1, Nat.lt_of_le_of_lt h2 (by decide), h6, h5⟩
theorem size_eq : ∀ (m f : Nat) (e : GExpr) (d : Int), d = 8 - (m : Int) → m ≤ 7 → m < f → GExpr.ok e → g_expr_size f e d = some (if fine m e then ((cnt m [e] : Int), true) else (0, false))
 | m, 0, _, _, _, _, h, _ => by omega
 | 0, f + 1, e, d, hd, _, _, _ => by
  unfold g_expr_size g_expr_size_b
  rw [if_pos (by omega), if_neg (fun h => by have := h.1; rw [lev] at this; cases this)]
 | m + 1, f + 1, e, d, hd, hm, hf, q => by
  obtain ⟨_, _, _, hl, hargs⟩ := exOk q
  unfold g_expr_size g_expr_size_b
  rw [if_neg (by omega)]
  obtain ⟨r, h1, h2⟩ := loopO_times (step := g_expr_size_l0 e d (g_expr_size f)) e.Args.length (fun k (n : Int) => (n, (k : Int))) (fun k n => n = 1 + (cnt m (e.Args.take k) : Int) ∧ 1 + cnt m (e.Args.take k) ≤ 40 ∧ lev m (e.Args.take k) = [])
   (fun r => r = if fine (m + 1) e then .inr (1 + (cnt m e.Args : Int)) else .inl (0, false)) (fun k n hk hi => by
   obtain ⟨rfl, hc, hv⟩ := hi
   have hpart := cnt_part (m := m) hk
   have ih := size_eq m f (lrd e.Args k) (d + 1) (by omega) (by omega) (by omega) (hargs _ (lrd_mem hk))
   unfold g_expr_size_l0
   dsimp only
   rw [if_pos (natLt hk), if_pos (natIn hk), Int.toNat_natCast, w64_id (n := d + 1) (by omega), ih, Option.bind_some]
   by_cases hfine : fine m (lrd e.Args k)
   ·rw [if_pos hfine]
    have hca := hfine.2
    dsimp only
    rw [w64_id (n := 1 + (cnt m (e.Args.take k) : Int) + (cnt m [lrd e.Args k] : Int)) (by omega)]
    by_cases hs : 1 + (cnt m (e.Args.take k) : Int) + (cnt m [lrd e.Args k] : Int) > 40
    ·right
     refine ⟨.inl (0, false), by rw [if_pos (.inr hs)], ?_⟩
     rw [if_neg (fun h => by have := (fine_succ.1 h).2; omega)]
    ·left
     refine ⟨1 + (cnt m (e.Args.take k) : Int) + (cnt m [lrd e.Args k] : Int), ?_, ?_, ?_, ?_⟩
     ·rw [if_neg (by intro h; rcases h with h | h; exact absurd h (by decide); exact hs h), w64_succ (by omega)]
     ·rw [take_cnt hk]; omega
     ·rw [take_cnt hk]; omega
     ·rw [take_lev hk, hv, List.length_eq_zero_iff.1 hfine.1]; rfl
   ·rw [if_neg hfine]
    right
    refine ⟨.inl (0, false), by rw [if_pos (.inl rfl)], ?_⟩
    rw [if_neg (fun h => hfine ?_)]
    obtain ⟨h3, h4⟩ := fine_succ.1 h
    exact ⟨by rw [lev_part hk h3]; rfl, by omega⟩) (fun n hi => by
   obtain ⟨rfl, hc, hv⟩ := hi
   rw [List.take_length] at hc hv
   refine ⟨.inr (1 + (cnt m e.Args : Int)), ?_, ?_⟩
   ·unfold g_expr_size_l0
    dsimp only
    rw [if_neg natNlt, List.take_length]
   ·rw [if_pos (fine_succ.2 ⟨hv, hc⟩)]) (s := 1) ⟨by rw [List.take_zero, cnt_nil]; rfl, by rw [List.take_zero, cnt_nil]; decide, by rw [List.take_zero, lev_nil]⟩
  have h1' : loopO (g_expr_size_l0 e d (g_expr_size f)) ((1 : Int), (0 : Int)) = some r := h1
  rw [h1', h2, Option.bind_some]
  by_cases hfine : fine (m + 1) e
  ·rw [if_pos hfine, if_pos hfine]
   dsimp only
   rw [cnt, one_args, List.length_singleton]
   congr 2
  ·rw [if_neg hfine, if_neg hfine]
theorem row_next (row : List GExpr) (hl : row.length ≤ 1000) : ∃ o, loopO (g_ref_within_l1 row) ((0 : Int), ([] : List GExpr)) = some o ∧ match o with
  | .inl b => b = false ∧ 40 < (row.flatMap GExpr.Args).length
  | .inr nx => nx = row.flatMap GExpr.Args ∧ nx.length ≤ 40 := by
 refine loopO_times (step := g_ref_within_l1 row) row.length (fun k (nx : List GExpr) => ((k : Int), nx)) (fun k nx => nx = (row.take k).flatMap GExpr.Args ∧ nx.length ≤ 40) _ (fun k nx hk hi => ?_) (fun nx hi => ?_) (s := []) ⟨by simp, Nat.zero_le _⟩
 ·obtain ⟨rfl, hc⟩ := hi
  have hst : (row.take (k + 1)).flatMap GExpr.Args = (row.take k).flatMap GExpr.Args ++ (lrd row k).Args := by
   rw [take_step hk, List.flatMap_append, one_args]
  have htot : ((row.take k).flatMap GExpr.Args).length + (lrd row k).Args.length ≤ (row.flatMap GExpr.Args).length := by
   have h3 : (row.take (k + 1) ++ row.drop (k + 1)).flatMap GExpr.Args = row.flatMap GExpr.Args := by rw [List.take_append_drop]
   rw [List.flatMap_append, hst] at h3
   rw [← h3, List.length_append, List.length_append]
   omega
  unfold g_ref_within_l1
  dsimp only
  rw [if_pos (natLt hk), if_pos (natIn hk), Int.toNat_natCast]
  by_cases ha : ((lrd row k).Args.length : Int) > 40
  ·right
   exact ⟨.inl false, by rw [if_pos ha], rfl, by omega⟩
  ·rw [if_neg ha, if_pos (show room _ _ by simp only [room]; omega)]
   by_cases hs : ((((row.take k).flatMap GExpr.Args ++ (lrd row k).Args).length : Nat) : Int) > 40
   ·right
    refine ⟨.inl false, by rw [if_pos hs], rfl, ?_⟩
    rw [List.length_append] at hs
    omega
   ·left
    refine ⟨(row.take (k + 1)).flatMap GExpr.Args, by rw [if_neg hs, w64_succ (by omega), hst], rfl, ?_⟩
    rw [hst]
    omega
 ·obtain ⟨rfl, hc⟩ := hi
  rw [List.take_length] at hc
  refine ⟨.inr (row.flatMap GExpr.Args), ?_, rfl, hc⟩
  unfold g_ref_within_l1
  dsimp only
  rw [if_neg natNlt, List.take_length]
theorem within_eq (e : GExpr) : g_ref_within e = some (decide (fine 7 e)) := by
 obtain ⟨r, h1, h2⟩ := loopO_times (step := g_ref_within_l0) 7 (fun j (_ : Unit) => ((cnt j [e] : Int), ((j + 1 : Nat) : Int), lev j [e])) (fun j _ => cnt j [e] ≤ 40 ∧ (lev j [e]).length ≤ 40) (fun r => r = if fine 7 e then .inr () else .inl false) (fun j _ hj hc => by
  obtain ⟨hc, hlen⟩ := hc
  have hsucc := cnt_succ j [e]
  unfold g_ref_within_l0
  dsimp only
  by_cases h0 : (lev j [e]).length = 0
  ·right
   refine ⟨.inr (), by rw [if_neg (by omega)], ?_⟩
   have h3 := lev_end (List.length_eq_zero_iff.1 h0) (7 - j)
   rw [show j + (7 - j) = 7 by omega] at h3
   rw [if_pos ⟨by rw [h3.1]; rfl, by rw [h3.2]; exact hc⟩]
  ·rw [if_pos (by omega), w64_id (n := (cnt j [e] : Int) + ((lev j [e]).length : Int)) (by omega)]
   have hm := cnt_mono (l := [e]) (j + 1) (6 - j)
   rw [show j + 1 + (6 - j) = 7 by omega] at hm
   by_cases hb : (cnt j [e] : Int) + ((lev j [e]).length : Int) > 40
   ·right
    refine ⟨.inl false, by rw [if_pos (.inr hb)], ?_⟩
    rw [if_neg (fun h => ?_)]
    have h4 := h.2
    omega
   ·rw [if_neg (by omega)]
    obtain ⟨o, h5, h6⟩ := row_next (lev j [e]) (by omega)
    rw [h5, Option.bind_some]
    have hls : (lev j [e]).flatMap GExpr.Args = lev (j + 1) [e] := (lev_succ j [e]).symm
    cases o with
    | inl b =>
     obtain ⟨rfl, h7⟩ := h6
     right
     refine ⟨.inl false, rfl, ?_⟩
     rw [if_neg (fun h => ?_)]
     rw [hls] at h7
     rcases Nat.lt_or_ge j 6 with h8 | h8
     ·have hs2 : cnt (j + 2) [e] = cnt (j + 1) [e] + (lev (j + 1) [e]).length := cnt_succ (j + 1) [e]
      have hm2 := cnt_mono (l := [e]) (j + 2) (5 - j)
      rw [show j + 2 + (5 - j) = 7 by omega] at hm2
      have h4 := h.2
      omega
     ·have : j + 1 = 7 := by omega
      rw [this] at h7
      have h4 := h.1
      omega
    | inr nx =>
     obtain ⟨rfl, h7⟩ := h6
     rw [hls] at h7
     left
     refine ⟨(), ?_, by omega, h7⟩
     dsimp only
     rw [hls, hsucc, w64_id (by omega)]
     congr 3) (fun _ hc => by
  obtain ⟨hc, hlen⟩ := hc
  unfold g_ref_within_l0
  dsimp only
  by_cases h0 : (lev 7 [e]).length = 0
  ·exact ⟨.inr (), by rw [if_neg (by omega)], by rw [if_pos ⟨h0, hc⟩]⟩
  ·exact ⟨.inl false, by rw [if_pos (by omega), if_pos (.inl (by decide))], by rw [if_neg (fun h => h0 h.1)]⟩) (s := ()) ⟨Nat.zero_le _, show 1 ≤ 40 by decide⟩
 have h1' : loopO g_ref_within_l0 ((0 : Int), (1 : Int), ([e] : List GExpr)) = some r := h1
 unfold g_ref_within
 rw [h1', h2, Option.bind_some]
 by_cases h : fine 7 e
 ·rw [if_pos h, decide_eq_true h]
 ·rw [if_neg h, decide_eq_false h]
theorem wants_eq {op : Int} (h : 1 ≤ op ∧ op ≤ 20) : g_expr_wants op = some (lrd ([(0 : Int), (0 : Int), (0 : Int), (1 : Int), (1 : Int), (2 : Int), (2 : Int), (2 : Int), (2 : Int), (2 : Int), (2 : Int), (2 : Int), (2 : Int), (2 : Int), (2 : Int), (2 : Int), (2 : Int), (1 : Int), (1 : Int), (2 : Int), (2 : Int)] : List Int) op.toNat) := by
 have : op = 1 ∨ op = 2 ∨ op = 3 ∨ op = 4 ∨ op = 5 ∨ op = 6 ∨ op = 7 ∨ op = 8 ∨ op = 9 ∨ op = 10 ∨ op = 11 ∨ op = 12 ∨ op = 13 ∨ op = 14 ∨ op = 15 ∨ op = 16 ∨ op = 17 ∨ op = 18 ∨ op = 19 ∨ op = 20 := by omega
 rcases this with rfl | rfl | rfl | rfl | rfl | rfl | rfl | rfl | rfl | rfl | rfl | rfl | rfl | rfl | rfl | rfl | rfl | rfl | rfl | rfl <;> rfl
theorem node_eq {e : GExpr} (q : GExpr.ok e) : ∃ own : Int, g_expr_node e = some own ∧ ∀ R' : GExpr → Option Int, g_ref_nodeFault_b R' e = if own ≠ 0 then some own else (loopO (g_ref_nodeFault_l0 e R') (0 : Int)).bind fun o'13 => match o'13 with | .inl y'14 => some y'14 | .inr (y'15) => some (0 : Int) := by
 obtain ⟨_, hvi, hnm, _, _⟩ := exOk q
 unfold g_expr_node g_ref_nodeFault_b
 simp only [letO_eq]
 by_cases hop : (e.Op < (1 : Int)) ∨ (e.Op > (20 : Int))
 ·rw [if_pos hop]
  refine ⟨2, rfl, fun R' => ?_⟩
  rw [if_pos (by simp only [List.length_cons, List.length_nil]; omega), if_pos (show (2 : Int) ≠ 0 by decide)]
 ·have hop2 : 1 ≤ e.Op ∧ e.Op ≤ 20 := by omega
  rw [if_neg hop, wants_eq hop2, Option.bind_some]
  generalize hW : (lrd ([(0 : Int), (0 : Int), (0 : Int), (1 : Int), (1 : Int), (2 : Int), (2 : Int), (2 : Int), (2 : Int), (2 : Int), (2 : Int), (2 : Int), (2 : Int), (2 : Int), (2 : Int), (2 : Int), (2 : Int), (1 : Int), (1 : Int), (2 : Int), (2 : Int)] : List Int) e.Op.toNat) = W
  have hno : ¬ ((e.Op < (1 : Int)) ∨ (e.Op ≥ ((([(0 : Int), (0 : Int), (0 : Int), (1 : Int), (1 : Int), (2 : Int), (2 : Int), (2 : Int), (2 : Int), (2 : Int), (2 : Int), (2 : Int), (2 : Int), (2 : Int), (2 : Int), (2 : Int), (2 : Int), (1 : Int), (1 : Int), (2 : Int), (2 : Int)] : List Int).length : Nat) : Int))) := by
   simp only [List.length_cons, List.length_nil]; omega
  have hin : 0 ≤ e.Op ∧ e.Op < ((([(0 : Int), (0 : Int), (0 : Int), (1 : Int), (1 : Int), (2 : Int), (2 : Int), (2 : Int), (2 : Int), (2 : Int), (2 : Int), (2 : Int), (2 : Int), (2 : Int), (2 : Int), (2 : Int), (2 : Int), (1 : Int), (1 : Int), (2 : Int), (2 : Int)] : List Int).length : Nat) : Int) := by
   simp only [List.length_cons, List.length_nil]; omega
  simp only [if_neg hno, if_pos hin]
  obtain ⟨ve, hv1, hv2, _⟩ := check_eq e.Value hvi
  have hbad : ∀ (b : Bool) (R' : GExpr → Option Int), b = false → ((some b : Option Bool).bind fun j'2 => (if (!j'2) = true then some (3 : Int) else (loopO (g_ref_nodeFault_l0 e R') (0 : Int)).bind fun o'13 => match o'13 with | .inl y'14 => some y'14 | .inr (y'15) => some (0 : Int))) = if (3 : Int) ≠ 0 then some 3 else (loopO (g_ref_nodeFault_l0 e R') (0 : Int)).bind fun o'13 => match o'13 with | .inl y'14 => some y'14 | .inr (y'15) => some (0 : Int) := by
   intro b R' hb
   subst hb
   rfl
  have hgood : ∀ (b : Bool) (R' : GExpr → Option Int), b = true → ((some b : Option Bool).bind fun j'2 => (if (!j'2) = true then some (3 : Int) else (loopO (g_ref_nodeFault_l0 e R') (0 : Int)).bind fun o'13 => match o'13 with | .inl y'14 => some y'14 | .inr (y'15) => some (0 : Int))) = if (0 : Int) ≠ 0 then some 0 else (loopO (g_ref_nodeFault_l0 e R') (0 : Int)).bind fun o'13 => match o'13 with | .inl y'14 => some y'14 | .inr (y'15) => some (0 : Int) := by
   intro b R' hb
   subst hb
   rfl
  by_cases h1 : e.Op = 1
  ·-- a literal
   rw [h1]
   simp only [if_true]
   by_cases hlen : (e.Args.length : Int) = W
   ·rw [if_neg (fun q => q hlen)]
    simp only [if_pos hlen]
    by_cases hn : e.Name = []
    ·simp only [if_pos hn, hv1, hv2, Option.bind_some]
     rw [if_neg (by simp [hn])]
     by_cases hve : ve = 0
     ·subst hve
      simp only [if_true]
      by_cases hi : e.Value.Int_ < 0
      ·refine ⟨3, by simp [hi], fun R' => hbad _ R' (decide_eq_false (by omega))⟩
      ·refine ⟨0, by simp [hi], fun R' => hgood _ R' (decide_eq_true (by omega))⟩
     ·simp only [if_neg hve]
      refine ⟨3, by simp [hve], fun R' => hbad _ R' rfl⟩
    ·simp only [if_neg hn]
     refine ⟨3, ?_, fun R' => hbad _ R' rfl⟩
     rw [if_pos (.inl (by simp [hn]))]
   ·rw [if_pos hlen]
    simp only [if_neg hlen]
    exact ⟨3, rfl, fun R' => hbad _ R' rfl⟩
  ·simp only [if_neg h1]
   by_cases h2 : e.Op = 2
   ·rw [h2]
    simp only [if_true]
    by_cases hlen : (e.Args.length : Int) = W
    ·rw [if_neg (fun q => q hlen)]
     simp only [if_pos hlen]
     by_cases hz : e.Value = GValue.zero
     ·simp only [if_pos hz, isName_eq _ hnm, name_eq _ hnm, Option.bind_some]
      by_cases hn : isNm e.Name = true
      ·have hne : e.Name ≠ [] := by
        intro h0
        rw [h0] at hn
        exact absurd hn (by decide)
       simp only [if_pos hn]
       rw [if_neg (by intro h; rcases h with h | h; exact h (by simp [hne]); exact h.2 hz)]
       unfold wrong
       by_cases h8 : (e.Name.length : Int) > 8
       ·refine ⟨3, by simp [h8], fun R' => hbad _ R' (decide_eq_false (by omega))⟩
       ·refine ⟨0, by simp [h8, hn], fun R' => hgood _ R' (decide_eq_true (by omega))⟩
      ·simp only [if_neg hn]
       refine ⟨3, ?_, fun R' => hbad _ R' rfl⟩
       by_cases h0 : (decide True) ≠ (decide (e.Name ≠ [])) ∨ ((2 : Int) ≠ 1 ∧ e.Value ≠ GValue.zero)
       ·rw [if_pos h0]
       ·rw [if_neg h0]
        unfold wrong
        by_cases h8 : (e.Name.length : Int) > 8
        ·simp [h8]
        ·simp [h8, hn]
     ·simp only [if_neg hz]
      refine ⟨3, ?_, fun R' => hbad _ R' rfl⟩
      rw [if_pos (.inr ⟨by decide, hz⟩)]
    ·rw [if_pos hlen]
     simp only [if_neg hlen]
     exact ⟨3, rfl, fun R' => hbad _ R' rfl⟩
   ·simp only [if_neg h2]
    by_cases hlen : (e.Args.length : Int) = W
    ·rw [if_neg (fun q => q hlen)]
     by_cases hn : e.Name = []
     ·by_cases hz : e.Value = GValue.zero
      ·refine ⟨0, ?_, fun R' => hgood _ R' (decide_eq_true ⟨⟨hlen, hn⟩, hz⟩)⟩
       rw [if_neg (by simp [h2, hn, hz])]
       rfl
      ·refine ⟨3, ?_, fun R' => hbad _ R' (decide_eq_false (fun h => hz h.2))⟩
       rw [if_pos (.inr ⟨h1, hz⟩)]
     ·refine ⟨3, ?_, fun R' => hbad _ R' (decide_eq_false (fun h => hn h.1.2))⟩
      rw [if_pos (.inl (by simp [h2, hn]))]
    ·rw [if_pos hlen]
     exact ⟨3, rfl, fun R' => hbad _ R' (decide_eq_false (fun h => hlen h.1.1))⟩
theorem nodes_eq : ∀ (m f : Nat) (e : GExpr), m < f → GExpr.ok e → lev m [e] = [] → ∃ r, g_expr_nodes f e = some r ∧ g_ref_nodeFault f e = some r
 | _, 0, _, h, _, _ => by omega
 | 0, _, _, _, _, h => by cases h
 | m + 1, f + 1, e, hf, q, hv => by
  obtain ⟨_, _, _, hl, hargs⟩ := exOk q
  obtain ⟨own, h1, h2⟩ := node_eq q
  unfold g_expr_nodes g_expr_nodes_b g_ref_nodeFault
  rw [h1, h2, Option.bind_some]
  by_cases ho : own ≠ 0
  ·rw [if_pos ho, if_pos ho]; exact ⟨_, rfl, rfl⟩
  ·rw [if_neg ho, if_neg ho]
   rw [lev, one_args] at hv
   obtain ⟨r, h3, h4⟩ := loopO_two (step := g_expr_nodes_l0 e (g_expr_nodes f)) (step2 := g_ref_nodeFault_l0 e (g_ref_nodeFault f)) (fun a c => a = c ∧ ∃ k : Nat, a = (k : Int) ∧ k ≤ e.Args.length) (fun a => e.Args.length - a.toNat) (fun a c hR => by
    obtain ⟨rfl, k, rfl, hk⟩ := hR
    unfold g_expr_nodes_l0 g_ref_nodeFault_l0
    dsimp only
    by_cases hk2 : k < e.Args.length
    ·rw [if_pos (natLt hk2), if_pos (natIn hk2), if_pos (natLt hk2), if_pos (natIn hk2), Int.toNat_natCast]
     obtain ⟨r, h5, h6⟩ := nodes_eq m f (lrd e.Args k) (by omega) (hargs _ (lrd_mem hk2)) (lev_part hk2 hv)
     rw [h5, h6]
     simp only [Option.bind_some]
     by_cases hr : r ≠ 0
     ·simp only [if_pos hr]; exact .inr ⟨_, rfl, rfl⟩
     ·simp only [if_neg hr]
      refine .inl ⟨_, _, rfl, rfl, ⟨rfl, k + 1, w64_succ (by omega), hk2⟩, ?_⟩
      rw [w64_succ (by omega)]
      simp only [Int.toNat_natCast]
      omega
    ·have : k = e.Args.length := by omega
     subst this
     rw [if_neg natNlt, if_neg natNlt]
     exact .inr ⟨_, rfl, rfl⟩) (a := (0 : Int)) (c := (0 : Int)) ⟨rfl, 0, rfl, Nat.zero_le _⟩
   rw [h3, h4, Option.bind_some, Option.bind_some]
   cases r with
   | inl y => exact ⟨y, rfl, rfl⟩
   | inr u => exact ⟨0, rfl, rfl⟩
theorem expr_eq {e : GExpr} (q : GExpr.ok e) : ∃ r, g_expr_Check e = some r ∧ g_ref_ExprFault e = some r := by
 unfold g_expr_Check g_ref_ExprFault
 rw [size_eq 7 100000 e 1 (by decide) (by decide) (by decide) q, within_eq, Option.bind_some, Option.bind_some]
 by_cases h : fine 7 e
 ·rw [if_pos h, decide_eq_true h]
  obtain ⟨r, h1, h2⟩ := nodes_eq 7 100000 e (by decide) q (List.length_eq_zero_iff.1 h.1)
  dsimp only
  rw [if_neg (by decide), if_neg (by decide), h1, h2]
  exact ⟨_, rfl, rfl⟩
 ·rw [if_neg h, decide_eq_false h]
  exact ⟨1, rfl, rfl⟩
end Go.Proofs.YtichdokjjdkjdaaDoor.VM
