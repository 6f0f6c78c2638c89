/- Words and rules that the proof uses. -/
import Derived.Test.YtalnmpfjgiecdaaDoorPuTab
import Derived.Test.YtalnmpfjgiecdaaDoorPuSame
namespace Go.Proofs.YtalnmpfjgiecdaaDoor.VM
open Go Go.RowKit
structure TabLen (t : GTable) : Prop where
 cols : t.Cols.length * 32 ≤ 140737488355328
 rows : ∀ i j, i < 2 → j < 4 → (vrd (vrd t.Drawers i) j).Row.length * 40 ≤ 140737488355328
theorem tab_len {t : GTable} (q : GTable.ok t) : TabLen t := by
 refine ⟨Nat.le_trans q.2.2.1.1 (by decide), fun i j hi hj => ?_⟩
 exact Nat.le_trans (q.2.2.2 (vrd t.Drawers i) (vrd_mem hi) (vrd (vrd t.Drawers i) j) (vrd_mem hj)).2.1 (by decide)
theorem vwr_self {α : Type} [Inhabited α] {n : Nat} {v : Vector α n} {j : Nat} (h : j < n) : vwr v j (vrd v j) = v := by
 refine vec_eq_of fun i hi => ?_
 by_cases e : i = j
 ·rw [e, vrd_vwr_eq h]
 ·rw [vrd_vwr_ne hi e]
theorem row_copy {r : List GValue} (h : r.length * 40 ≤ 140737488355328) : g_table_row r = some r := by
 unfold g_table_row
 rw [if_pos (show room _ _ by simp only [room, List.length_nil]; omega), List.nil_append]
theorem fresh_eq {t : GTable} (h : TabLen t) : g_table_fresh t = some t := by
 have hin : ∀ i : Nat, i < 2 → loopO (g_table_fresh_l1 (i : Int)) ((0 : Int), t) = some t := by
  intro i hi
  obtain ⟨r, h1, h2⟩ := loopO_times (step := g_table_fresh_l1 (i : Int)) 4 (fun k (s : GTable) => ((k : Int), s)) (fun _ s => s = t) (fun r => r = t) (fun k s hk hs => by
   subst hs
   left
   refine ⟨s, ?_, rfl⟩
   unfold g_table_fresh_l1
   dsimp only
   rw [if_pos (by omega), if_pos (by omega), if_pos (by omega), Int.toNat_natCast, Int.toNat_natCast, row_copy (h.rows i k hi hk), Option.bind_some, letO_eq, w64_succ (by omega)]
   have e1 : ({ (vrd (vrd s.Drawers i) k) with Row := (vrd (vrd s.Drawers i) k).Row } : GCell) = vrd (vrd s.Drawers i) k := rfl
   rw [e1, vwr_self (v := vrd s.Drawers i) hk, vwr_self hi]) (fun s hs => ⟨t, by
   subst hs
   unfold g_table_fresh_l1
   dsimp only
   rw [if_neg (by decide)], rfl⟩) (s := t) rfl
  have h1' : loopO (g_table_fresh_l1 (i : Int)) ((0 : Int), t) = some r := h1
  rw [h1', h2]
 obtain ⟨r, h1, h2⟩ := loopO_times (step := g_table_fresh_l0) 2 (fun k (s : GTable) => ((k : Int), s)) (fun _ s => s = t) (fun r => r = t) (fun k s hk hs => by
  subst hs
  left
  refine ⟨s, ?_, rfl⟩
  unfold g_table_fresh_l0
  dsimp only
  rw [if_pos (by omega), hin k hk, Option.bind_some, w64_succ (by omega)]) (fun s hs => ⟨t, by
  subst hs
  unfold g_table_fresh_l0
  dsimp only
  rw [if_neg (by decide)], rfl⟩) (s := t) rfl
 have h1' : loopO g_table_fresh_l0 ((0 : Int), t) = some r := h1
 unfold g_table_fresh
 have e : ({ t with Cols := ([] : List GColumn) ++ t.Cols } : GTable) = t := rfl
 have hc := h.cols
 rw [if_pos (show room _ _ by simp only [room, List.length_nil]; omega), e, h1', h2]
 rfl
def ffw (f : Nat → Bool) : Nat → Int
 | 0 => -1
 | k + 1 => if f k = false ∧ ffw f k < 0 then (k : Int) else ffw f k
def fbw (f : Nat → Bool) : Nat → Int
 | 0 => 4
 | m + 1 => if f (3 - m) = false then ((3 - m : Nat) : Int) else fbw f m
def ebw (f q : Nat → Bool) : Nat → Int
 | 0 => 0
 | m + 1 => if f (3 - m) = false then ebw f q m else if q (3 - m) = true then 8 else ebw f q m
theorem free_eq (f : Nat → Bool) : ffw f 4 = if fbw f 4 = 4 then -1 else fbw f 4 := by
 simp only [ffw, fbw]
 rcases Bool.eq_false_or_eq_true (f 0) with h0 | h0 <;> rcases Bool.eq_false_or_eq_true (f 1) with h1 | h1 <;> rcases Bool.eq_false_or_eq_true (f 2) with h2 | h2 <;> rcases Bool.eq_false_or_eq_true (f 3) with h3 | h3 <;> simp [h0, h1, h2, h3]
theorem twice_bw (f q : Nat → Bool) : ebw f q 4 = if ((List.range 4).any fun i => f i && q i) = true then 8 else 0 := by
 simp only [ebw, show List.range 4 = [0, 1, 2, 3] from rfl, List.any_cons, List.any_nil]
 rcases Bool.eq_false_or_eq_true (f 0) with h0 | h0 <;> rcases Bool.eq_false_or_eq_true (f 1) with h1 | h1 <;> rcases Bool.eq_false_or_eq_true (f 2) with h2 | h2 <;> rcases Bool.eq_false_or_eq_true (f 3) with h3 | h3 <;> rcases Bool.eq_false_or_eq_true (q 0) with g0 | g0 <;> rcases Bool.eq_false_or_eq_true (q 1) with g1 | g1 <;> rcases Bool.eq_false_or_eq_true (q 2) with g2 | g2 <;> rcases Bool.eq_false_or_eq_true (q 3) with g3 | g3 <;> simp [h0, h1, h2, h3, g0, g1, g2, g3]
theorem fbw_in (f : Nat → Bool) : 0 ≤ fbw f 4 ∧ fbw f 4 ≤ 4 := by
 simp only [fbw]
 rcases Bool.eq_false_or_eq_true (f 0) with h0 | h0 <;> rcases Bool.eq_false_or_eq_true (f 1) with h1 | h1 <;> rcases Bool.eq_false_or_eq_true (f 2) with h2 | h2 <;> rcases Bool.eq_false_or_eq_true (f 3) with h3 | h3 <;> simp [h0, h1, h2, h3]
def rowEq (d : Vector GCell 4) (r : List GValue) (i : Nat) : Bool := decide (intAt d i = (lrd r 0).Int_)
theorem ins_prog {t : GTable} {r : List GValue} {b : Nat} (e : Int) (hb : b < 2) (H : keysOk (vrd t.Drawers b)) (hr : 0 < r.length ∧ (lrd r 0).Kind = 2 ∧ (lrd r 0).Bits = 0 ∧ (lrd r 0).Text = []) :
  loopO (g_table_Insert_l0 (b : Int) r (t, e)) ((-1 : Int), (0 : Int)) = some (if ((List.range 4).any fun i => fullAt (vrd t.Drawers b) i && rowEq (vrd t.Drawers b) r i) = true then .inl (GTable.zero, 8) else .inr (ffw (fullAt (vrd t.Drawers b)) 4)) := by
 obtain ⟨o, h1, h2⟩ := loopO_times (step := g_table_Insert_l0 (b : Int) r (t, e)) 4 (fun k (s : Int) => (s, (k : Int))) (fun k s => s = ffw (fullAt (vrd t.Drawers b)) k ∧ ((List.range k).any fun i => fullAt (vrd t.Drawers b) i && rowEq (vrd t.Drawers b) r i) = false)
  (fun o => o = if ((List.range 4).any fun i => fullAt (vrd t.Drawers b) i && rowEq (vrd t.Drawers b) r i) = true then .inl (GTable.zero, 8) else .inr (ffw (fullAt (vrd t.Drawers b)) 4)) (fun k s hk hi => by
  obtain ⟨rfl, hno⟩ := hi
  unfold g_table_Insert_l0
  dsimp only
  rw [if_pos (by omega), if_pos (by omega), Int.toNat_natCast, Int.toNat_natCast]
  have hfk : (vrd (vrd t.Drawers b) k).Full = fullAt (vrd t.Drawers b) k := rfl
  rw [hfk]
  have hfs : (List.range (k + 1)).any (fun i => fullAt (vrd t.Drawers b) i && rowEq (vrd t.Drawers b) r i) = (fullAt (vrd t.Drawers b) k && rowEq (vrd t.Drawers b) r k) := by
   rw [List.range_succ, List.any_append, hno]
   simp
  by_cases hf : fullAt (vrd t.Drawers b) k = true
  ·obtain ⟨p1, p2⟩ := H k hk hf
   rw [if_pos hf, if_pos p1, if_pos hr.1, Option.bind_some]
   have e1 : decide ((lrd (vrd (vrd t.Drawers b) k).Row 0) = (lrd r 0)) = rowEq (vrd t.Drawers b) r k := decide_eq_decide.2 (val_eq p2 hr.2)
   rw [e1]
   by_cases hq : rowEq (vrd t.Drawers b) r k = true
   ·right
    refine ⟨.inl (GTable.zero, 8), by rw [if_pos hq]; rfl, ?_⟩
    rw [if_pos (List.any_eq_true.2 ⟨k, List.mem_range.2 hk, by rw [hf, hq]; rfl⟩)]
   ·left
    refine ⟨ffw (fullAt (vrd t.Drawers b)) (k + 1), ?_, rfl, by rw [hfs, hf, Bool.eq_false_iff.2 hq]; rfl⟩
    rw [if_neg hq, if_neg (fun h => by rw [hf] at h; exact absurd h.1 (by decide)), Option.bind_some, w64_succ (by omega)]
    have : ffw (fullAt (vrd t.Drawers b)) (k + 1) = ffw (fullAt (vrd t.Drawers b)) k := by
     rw [ffw, if_neg (fun h => by rw [hf] at h; exact absurd h.1 (by decide))]
    rw [this]
  ·have hf0 := Bool.eq_false_iff.2 hf
   left
   refine ⟨ffw (fullAt (vrd t.Drawers b)) (k + 1), ?_, rfl, by rw [hfs, hf0]; rfl⟩
   rw [if_neg hf, Option.bind_some, if_neg (show ¬ (false = true) by decide)]
   by_cases hat : ffw (fullAt (vrd t.Drawers b)) k < 0
   ·rw [if_pos ⟨by rw [hf0]; rfl, hat⟩, Option.bind_some, w64_succ (by omega), ffw, if_pos ⟨hf0, hat⟩]
   ·rw [if_neg (fun h => hat h.2), Option.bind_some, w64_succ (by omega), ffw, if_neg (fun h => hat h.2)]) (fun s hi => by
  obtain ⟨rfl, hno⟩ := hi
  refine ⟨.inr (ffw (fullAt (vrd t.Drawers b)) 4), ?_, by rw [hno]; rfl⟩
  unfold g_table_Insert_l0
  dsimp only
  rw [if_neg (by decide)]) (s := -1) ⟨rfl, rfl⟩
 rw [← h2]
 exact h1
theorem ins_ref {t : GTable} {r : List GValue} {b : Nat} (hb : b < 2) (H : keysOk (vrd t.Drawers b)) (hr : 0 < r.length) : loopO (g_ref_Inserted_l0 t (b : Int) r) ((0 : Int), (4 : Int), (3 : Int)) = some (ebw (fullAt (vrd t.Drawers b)) (rowEq (vrd t.Drawers b) r) 4, fbw (fullAt (vrd t.Drawers b)) 4) := by
 have key : ∀ (n m : Nat), m + n = 4 → loopO (g_ref_Inserted_l0 t (b : Int) r) (ebw (fullAt (vrd t.Drawers b)) (rowEq (vrd t.Drawers b) r) m, fbw (fullAt (vrd t.Drawers b)) m, (n : Int) - 1) = some (ebw (fullAt (vrd t.Drawers b)) (rowEq (vrd t.Drawers b) r) 4, fbw (fullAt (vrd t.Drawers b)) 4) := by
  intro n
  induction n with
  | zero =>
   intro m hm
   obtain rfl : m = 4 := by omega
   refine loopO_done ?_
   unfold g_ref_Inserted_l0
   dsimp only
   rw [if_neg (by decide)]
  | succ n ih =>
   intro m hm
   rw [show ((n + 1 : Nat) : Int) - 1 = (n : Int) by omega]
   have hn3 : 3 - m = n := by omega
   have hstep : g_ref_Inserted_l0 t (b : Int) r (ebw (fullAt (vrd t.Drawers b)) (rowEq (vrd t.Drawers b) r) m, fbw (fullAt (vrd t.Drawers b)) m, (n : Int)) = some (.inl (ebw (fullAt (vrd t.Drawers b)) (rowEq (vrd t.Drawers b) r) (m + 1), fbw (fullAt (vrd t.Drawers b)) (m + 1), (n : Int) - 1)) := by
    unfold g_ref_Inserted_l0
    dsimp only
    rw [if_pos (by omega), if_pos (by omega), if_pos (by omega), Int.toNat_natCast, Int.toNat_natCast, w64_id (by omega)]
    have hfk : (vrd (vrd t.Drawers b) n).Full = fullAt (vrd t.Drawers b) n := rfl
    rw [hfk, ebw, fbw, hn3]
    by_cases hf : fullAt (vrd t.Drawers b) n = true
    ·have hnf : ¬ (fullAt (vrd t.Drawers b) n = false) := by rw [hf]; decide
     rw [if_neg (show ¬ ((!(fullAt (vrd t.Drawers b) n)) = true) by rw [hf]; decide), if_pos (H n (by omega) hf).1, if_pos hr, if_neg hnf, if_neg hnf]
     by_cases hq : rowEq (vrd t.Drawers b) r n = true
     ·have hq2 : (lrd (vrd (vrd t.Drawers b) n).Row 0).Int_ = (lrd r 0).Int_ := of_decide_eq_true hq
      rw [if_pos hq2, if_pos hq]
      rfl
     ·have hq2 : ¬ (lrd (vrd (vrd t.Drawers b) n).Row 0).Int_ = (lrd r 0).Int_ := fun h => hq (decide_eq_true h)
      rw [if_neg hq2, if_neg hq]
      rfl
    ·have hf0 : fullAt (vrd t.Drawers b) n = false := Bool.eq_false_iff.2 hf
     rw [if_pos (show (!(fullAt (vrd t.Drawers b) n)) = true by rw [hf0]; rfl), if_pos hf0, if_pos hf0]
     rfl
   rw [loopO_next hstep]
   exact ih (m + 1) (by omega)
 exact key 4 0 rfl
theorem put_rows {D : Vector (Vector GCell 4) 2} {b f : Nat} {c : GCell} {m : Nat} (h : ∀ i j, i < 2 → j < 4 → (vrd (vrd D i) j).Row.length < m) (hc : c.Row.length < m) : ∀ i j, i < 2 → j < 4 → (vrd (vrd (vwr D b (vwr (vrd D b) f c)) i) j).Row.length < m := by
 intro i j hi hj
 by_cases hib : i = b
 ·subst hib
  rw [vrd_vwr_eq hi]
  by_cases hjf : j = f
  ·subst hjf
   rw [vrd_vwr_eq hj]
   exact hc
  ·rw [vrd_vwr_ne hj hjf]
   exact h i j hi hj
 ·rw [vrd_vwr_ne hi hib]
  exact h i j hi hj
theorem g_law_TableInserts_true {x0 : GTable} {x1 : Int} {x2 : List GValue} (q0 : GTable.ok x0) (_q1 : okI x1) (q2 : (okL 40 GValue.ok) x2) : g_law_TableInserts x0 x1 x2 = some true := by
 have ok := tab_ok q0
 have len := tab_len q0
 have hr2 : ∀ v ∈ x2, okI v.Int_ := fun v hv => (q2.2.2 v hv).2.1
 have hl2 : x2.length * 40 ≤ 140737488355328 := Nat.le_trans q2.1 (by decide)
 have key : ∃ r : GTable × Int, g_table_Insert x0 x1 x2 = some r ∧ g_ref_Inserted x0 x1 x2 = some r ∧ g_law_sameTable r.1 r.1 = some true := by
  obtain ⟨e, h1, h2, h3⟩ := table_eq ok
  unfold g_table_Insert g_ref_Inserted g_table_begun g_ref_ready
  rw [h1, h2, Option.bind_some, Option.bind_some]
  by_cases he : e ≠ 0
  ·rw [if_pos he, Option.bind_some, if_pos he]
   simp only [if_pos he, Option.bind_some]
   rw [if_neg he, Option.bind_some, if_pos he]
   exact ⟨_, rfl, rfl, sameTable_zero⟩
  ·have he0 : e = 0 := by omega
   subst he0
   obtain ⟨_, hpos, hk, hn, H⟩ := h3 rfl
   rw [if_neg he]
   by_cases hd : (x1 < (0 : Int)) ∨ (x1 ≥ (2 : Int))
   ·have hd2 : x1 ≠ 0 ∧ x1 ≠ 1 := by omega
    rw [if_pos hd]
    simp only [if_neg he, if_pos hd2, Option.bind_some]
    exact ⟨_, rfl, rfl, sameTable_zero⟩
   ·have hd2 : ¬ (x1 ≠ 0 ∧ x1 ≠ 1) := by omega
    obtain ⟨b, rfl⟩ := Int.eq_ofNat_of_zero_le (show 0 ≤ x1 by omega)
    have hb : b < 2 := by omega
    have hbI : (0 : Int) ≤ (b : Int) ∧ (b : Int) < 2 := by omega
    obtain ⟨e2, h4, h5⟩ := row_eq x2 x0.Cols ok.cols ok.names hr2
    rw [if_neg hd, fresh_eq len, Option.bind_some]
    simp only [if_neg he, if_neg hd2, Option.bind_some, if_true, h4, h5]
    by_cases he2 : e2 ≠ 0
    ·simp only [if_pos he2]
     exact ⟨_, rfl, rfl, sameTable_zero⟩
    ·have he20 : e2 = 0 := by omega
     subst he20
     have hr := row_first h4 ok.cols ok.names hr2 hpos hk hn
     simp only [if_neg he2, if_pos hbI]
     rw [ins_prog 0 hb (H b hb) hr, ins_ref hb (H b hb) hr.1, Option.bind_some, Option.bind_some]
     have ht := twice_bw (fullAt (vrd x0.Drawers b)) (rowEq (vrd x0.Drawers b) x2)
     by_cases hany : ((List.range 4).any fun i => fullAt (vrd x0.Drawers b) i && rowEq (vrd x0.Drawers b) x2 i) = true
     ·rw [if_pos hany] at ht ⊢
      rw [ht]
      simp only
      rw [if_neg (fun h => absurd h.1 (by decide)), Option.bind_some, if_pos (by decide)]
      exact ⟨_, rfl, rfl, sameTable_zero⟩
     ·rw [if_neg hany] at ht ⊢
      rw [ht, free_eq]
      have hin := fbw_in (fullAt (vrd x0.Drawers b))
      generalize fbw (fullAt (vrd x0.Drawers b)) 4 = f at *
      simp only
      by_cases hf : f = 4
      ·rw [if_pos hf, if_pos (show (-1 : Int) < 0 by decide), if_pos ⟨trivial, hf⟩, Option.bind_some, if_pos (by decide)]
       exact ⟨_, rfl, rfl, sameTable_zero⟩
      ·have hfI : 0 ≤ f ∧ f < 4 := by omega
       rw [if_neg hf, if_neg (show ¬ f < 0 by omega), if_neg (fun h => hf h.2), row_copy hl2, Option.bind_some, Option.bind_some, if_pos hfI, if_neg he, letO_eq]
       try rw [if_pos hfI]
       try rw [letO_eq]
       refine ⟨_, rfl, rfl, ?_⟩
       have hlim : ∀ i j, i < 2 → j < 4 → (vrd (vrd x0.Drawers i) j).Row.length < 9223372036854775807 := fun i j hi hj => by
        have := len.rows i j hi hj
        omega
       exact sameTable_refl _ ok.cols (put_rows (b := b) (f := f.toNat) (c := { GCell.zero with Full := true, Row := x2 }) hlim (show x2.length < 9223372036854775807 by omega))
 obtain ⟨r, h1, h2, h3⟩ := key
 unfold g_law_TableInserts
 rw [h1, h2, Option.bind_some, Option.bind_some, if_pos rfl, h3]
 rfl
end Go.Proofs.YtalnmpfjgiecdaaDoor.VM
