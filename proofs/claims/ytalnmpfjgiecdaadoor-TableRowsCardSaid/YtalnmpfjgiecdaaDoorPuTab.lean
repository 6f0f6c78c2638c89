/- Words and rules that the proof uses. -/
import Derived.Test.YtalnmpfjgiecdaaDoorPuKind
namespace Go.Proofs.YtalnmpfjgiecdaaDoor.VM
open Go Go.RowKit
theorem value_int {v : GValue} (h : g_value_Check v = some 0) (hk : v.Kind = 2) : v.Bits = 0 ∧ v.Text = [] := by
 unfold g_value_Check at h
 rw [hk, if_neg (by decide)] at h
 by_cases hl : (v.Text.length : Int) > 40
 ·rw [if_pos hl] at h; cases h
 ·rw [if_neg hl, letO_eq] at h
  by_cases hb : v.Bits = 0 ∧ v.Text = []
  ·exact hb
  ·rw [if_pos (by
    refine decide_eq_true (.inl ?_)
    by_cases h1 : v.Text = []
    ·exact .inr ⟨by decide, fun h2 => hb ⟨h2, h1⟩⟩
    ·exact .inl ⟨by decide, h1⟩)] at h
   cases h
theorem row_loop (row : List GValue) (cols : List GColumn) (hlen : row.length = cols.length) (hl : cols.length < 9223372036854775807) (hr : ∀ v ∈ row, okI v.Int_) : ∃ o, loopO (g_kinds_fits_l0 row cols) (0 : Int) = some o ∧ match o with | .inl y => y ≠ 0 | .inr _ => ∀ k, k < row.length → g_kinds_fits_l0 row cols (k : Int) = some (.inl (w64 ((k : Int) + 1))) := by
 refine loop_passes row.length (by omega) (fun k hk => ?_) ?_
 ·unfold g_kinds_fits_l0
  dsimp only
  obtain ⟨e, h1, _, _⟩ := check_eq (lrd row k) (hr _ (lrd_mem hk))
  have hk2 : (0 : Int) ≤ (k : Int) ∧ (k : Int) < (cols.length : Int) := by omega
  rw [if_pos (natLt hk), if_pos (natIn hk), Int.toNat_natCast, h1, Option.bind_some]
  by_cases he : e ≠ 0
  ·rw [if_pos he]; exact .inr ⟨e, he, rfl⟩
  ·rw [if_neg he]
   simp only [if_pos hk2]
   by_cases h0 : (lrd row k).Kind = 0
   ·rw [if_pos h0, Option.bind_some]
    by_cases hn : (!((lrd cols k).Null)) = true
    ·rw [if_pos hn]; exact .inr ⟨12, by decide, rfl⟩
    ·rw [if_neg hn, if_neg (fun q => q h0), Option.bind_some, if_neg (by decide)]; exact .inl rfl
   ·rw [if_neg h0, Option.bind_some, if_neg (show ¬ (false = true) by decide), if_pos h0, Option.bind_some]
    by_cases hn : (lrd row k).Kind ≠ (lrd cols k).Kind
    ·rw [if_pos (decide_eq_true hn)]; exact .inr ⟨2, by decide, rfl⟩
    ·rw [if_neg (by rw [decide_eq_false hn]; decide)]; exact .inl rfl
 ·unfold g_kinds_fits_l0
  dsimp only
  rw [if_neg natNlt]
theorem row_first {row : List GValue} {cols : List GColumn} (h : g_kinds_Row row cols = some 0) (hl : cols.length < 9223372036854775807) (hc : ∀ c ∈ cols, c.Name.length < 9223372036854775807) (hr : ∀ v ∈ row, okI v.Int_) (hpos : 0 < cols.length) (hk : (lrd cols 0).Kind = 2) (hn : (lrd cols 0).Null = false) :
  0 < row.length ∧ (lrd row 0).Kind = 2 ∧ (lrd row 0).Bits = 0 ∧ (lrd row 0).Text = [] := by
 unfold g_kinds_Row g_kinds_fits at h
 obtain ⟨e, h1, _⟩ := cols_eq cols hl hc
 rw [h1, Option.bind_some] at h
 by_cases he : e ≠ 0
 ·rw [if_pos he] at h
  exact absurd (Option.some.inj h) he
 ·rw [if_neg he] at h
  by_cases hlen : (row.length : Int) ≠ (cols.length : Int)
  ·rw [if_pos hlen] at h; cases h
  ·have hlen2 : row.length = cols.length := by omega
   rw [if_neg hlen] at h
   obtain ⟨o, h2, h3⟩ := row_loop row cols hlen2 hl hr
   rw [h2, Option.bind_some] at h
   cases o with
   | inl y => exact absurd (Option.some.inj h) h3
   | inr u =>
    have h4 := h3 0 (by omega)
    obtain ⟨e2, h5, _, _⟩ := check_eq (lrd row 0) (hr _ (lrd_mem (by omega)))
    unfold g_kinds_fits_l0 at h4
    dsimp only at h4
    have hk1 : (0 : Int) ≤ ((0 : Nat) : Int) ∧ ((0 : Nat) : Int) < (row.length : Int) := by omega
    have hk2 : (0 : Int) ≤ ((0 : Nat) : Int) ∧ ((0 : Nat) : Int) < (cols.length : Int) := by omega
    rw [if_pos hk1.2, if_pos hk1, Int.toNat_natCast, h5, Option.bind_some] at h4
    simp only [if_pos hk2] at h4
    by_cases he2 : e2 ≠ 0
    ·rw [if_pos he2] at h4; cases h4
    ·rw [if_neg he2] at h4
     have he3 : e2 = 0 := by omega
     subst he3
     by_cases h0 : (lrd row 0).Kind = 0
     ·rw [if_pos h0, hn, Option.bind_some, if_pos (by decide)] at h4; cases h4
     ·rw [if_neg h0, Option.bind_some, if_neg (show ¬ (false = true) by decide), if_pos h0, hk, Option.bind_some] at h4
      by_cases h6 : (lrd row 0).Kind ≠ 2
      ·rw [if_pos (decide_eq_true h6)] at h4; cases h4
      ·have h7 : (lrd row 0).Kind = 2 := by omega
       exact ⟨by omega, h7, value_int h5 h7⟩
def fullAt (d : Vector GCell 4) (i : Nat) : Bool := (vrd d i).Full
def intAt (d : Vector GCell 4) (i : Nat) : Int := (lrd (vrd d i).Row 0).Int_
def dupB (d : Vector GCell 4) (i : Nat) : Bool := (List.range i).any fun j => fullAt d i && (fullAt d j && decide (intAt d j = intAt d i))
def keysOk (d : Vector GCell 4) : Prop := ∀ i, i < 4 → fullAt d i = true → 0 < (vrd d i).Row.length ∧ (lrd (vrd d i).Row 0).Kind = 2 ∧ (lrd (vrd d i).Row 0).Bits = 0 ∧ (lrd (vrd d i).Row 0).Text = []
theorem lrd_range {n k : Nat} (h : k < n) : lrd (List.range n) k = k := by
 rw [lrd_at (by rw [List.length_range]; exact h), List.getElem_range]
theorem val_eq {a b : GValue} (h1 : a.Kind = 2 ∧ a.Bits = 0 ∧ a.Text = []) (h2 : b.Kind = 2 ∧ b.Bits = 0 ∧ b.Text = []) : (a = b) ↔ a.Int_ = b.Int_ := by
 obtain ⟨k, i, bb, t⟩ := a
 obtain ⟨k2, i2, bb2, t2⟩ := b
 dsimp only at *
 obtain ⟨rfl, rfl, rfl⟩ := h1
 obtain ⟨rfl, rfl, rfl⟩ := h2
 simp
theorem keys_eq {d : Vector GCell 4} (H : keysOk d) : g_table_keys d = some (if (List.range 4).any (dupB d) = true then 8 else 0) := by
 have hin : ∀ i : Nat, i < 4 → loopO (g_table_keys_l1 d (i : Int)) (0 : Int) = some (if dupB d i = true then .inl 8 else .inr ()) := by
  intro i hi
  refine any_loop (step := g_table_keys_l1 d (i : Int)) (List.range i) (fun j => fullAt d i && (fullAt d j && decide (intAt d j = intAt d i))) (.inl 8) (.inr ()) (by rw [List.length_range]; omega) (fun k hk => ?_) ?_
  ·rw [List.length_range] at hk
   rw [lrd_range hk]
   unfold g_table_keys_l1
   dsimp only
   rw [Int.toNat_natCast, if_pos (natLt hk), if_pos (natIn hk), Int.toNat_natCast]
   have hfi : (vrd d i).Full = fullAt d i := rfl
   have hfk : (vrd d k).Full = fullAt d k := rfl
   rw [hfi, hfk]
   by_cases h1 : fullAt d i = true
   ·rw [if_pos h1]
    by_cases h2 : fullAt d k = true
    ·obtain ⟨p1, p2⟩ := H i hi h1
     obtain ⟨p3, p4⟩ := H k (by omega) h2
     rw [if_pos h2, if_pos p3, if_pos p1, Option.bind_some, h1, h2, Bool.true_and, Bool.true_and]
     have e : decide ((lrd (vrd d k).Row 0) = (lrd (vrd d i).Row 0)) = decide (intAt d k = intAt d i) := decide_eq_decide.2 (val_eq p4 p2)
     rw [e]
     by_cases h3 : decide (intAt d k = intAt d i) = true
     ·rw [if_pos h3, if_pos h3]
     ·rw [if_neg h3, if_neg h3]
    ·rw [if_neg h2, Option.bind_some, h1, Bool.eq_false_iff.2 h2]
     rfl
   ·rw [if_neg h1, Option.bind_some, Bool.eq_false_iff.2 h1]
    rfl
  ·unfold g_table_keys_l1
   dsimp only
   rw [List.length_range, Int.toNat_natCast, if_neg natNlt]
 unfold g_table_keys
 have h := any_loop (step := g_table_keys_l0 d) (List.range 4) (dupB d) (.inl 8) (.inr ()) (by decide) (fun k hk => by
  rw [List.length_range] at hk
  rw [lrd_range hk]
  unfold g_table_keys_l0
  dsimp only
  rw [if_pos (by omega), if_pos (by omega), if_pos (by omega), hin k hk, Option.bind_some]
  by_cases h1 : dupB d k = true
  ·rw [if_pos h1, if_pos h1]
  ·rw [if_neg h1, if_neg h1]) (by
  unfold g_table_keys_l0
  dsimp only
  rw [if_neg (by decide)])
 rw [h, Option.bind_some]
 by_cases h1 : (List.range 4).any (dupB d) = true
 ·rw [if_pos h1, if_pos h1]
 ·rw [if_neg h1, if_neg h1]
def keyAt (d : Vector GCell 4) (i : Nat) : Option Int := if fullAt d i = true then some (intAt d i) else none
theorem keysFault_eq {d : Vector GCell 4} (H : keysOk d) : g_ref_keysFault d = some (if (List.range 4).any (dupB d) = true then 8 else 0) := by
 have hin : ∀ (i : Nat) (seen : List Int), i < 4 → fullAt d i = true → seen.length ≤ 4 → loopO (g_ref_keysFault_l1 d (i : Int) seen) (0 : Int) = some (if (seen.any fun x => decide (x = intAt d i)) = true then .inl 8 else .inr ()) := by
  intro i seen hi hf hs
  refine any_loop (step := g_ref_keysFault_l1 d (i : Int) seen) seen (fun x => decide (x = intAt d i)) (.inl 8) (.inr ()) (by omega) (fun k hk => ?_) ?_
  ·unfold g_ref_keysFault_l1
   dsimp only
   rw [if_pos (natLt hk), if_pos (natIn hk), Int.toNat_natCast, Int.toNat_natCast, if_pos (H i hi hf).1]
   by_cases h1 : lrd seen k = intAt d i
   ·rw [if_pos (decide_eq_true h1)]; exact if_pos h1
   ·rw [if_neg (show ¬ (decide (lrd seen k = intAt d i) = true) by rw [decide_eq_false h1]; decide)]; exact if_neg h1
  ·unfold g_ref_keysFault_l1
   dsimp only
   rw [if_neg natNlt]
 have hdup : ∀ i, fullAt d i = true → (((List.range i).filterMap (keyAt d)).any fun x => decide (x = intAt d i)) = dupB d i := by
  intro i hf
  unfold dupB
  rw [List.any_filterMap]
  congr 1
  funext j
  unfold keyAt
  by_cases h : fullAt d j = true
  ·rw [if_pos h, hf, h]; rfl
  ·rw [if_neg h, hf, Bool.eq_false_iff.2 h]; rfl
 have hlen : ∀ i, ((List.range i).filterMap (keyAt d)).length ≤ i := fun i => by
  have := List.length_filterMap_le (keyAt d) (List.range i)
  rwa [List.length_range] at this
 obtain ⟨r, h1, h2⟩ := loopO_times (step := g_ref_keysFault_l0 d) 4 (fun k (s : List Int) => ((k : Int), s)) (fun k s => s = (List.range k).filterMap (keyAt d) ∧ (List.range k).any (dupB d) = false) (fun r => r = if (List.range 4).any (dupB d) = true then .inl 8 else .inr ()) (fun k s hk hi => by
  obtain ⟨rfl, hno⟩ := hi
  have hl := hlen k
  unfold g_ref_keysFault_l0
  dsimp only
  rw [if_pos (by omega), if_pos (by omega)]
  have hfk : (vrd d k).Full = fullAt d k := rfl
  rw [Int.toNat_natCast, hfk]
  by_cases hf : fullAt d k = true
  ·rw [if_neg (by rw [hf]; decide), hin k _ hk hf (by omega), hdup k hf, Option.bind_some]
   by_cases hdk : dupB d k = true
   ·right
    refine ⟨.inl 8, by rw [if_pos hdk]; rfl, ?_⟩
    rw [if_pos (List.any_eq_true.2 ⟨k, List.mem_range.2 hk, hdk⟩)]
   ·left
    refine ⟨(List.range (k + 1)).filterMap (keyAt d), ?_, rfl, ?_⟩
    ·rw [if_neg hdk]
     dsimp only
     rw [if_pos (H k hk hf).1, if_pos (show room _ _ by simp only [room, List.length_cons, List.length_nil]; omega), Option.bind_some, w64_succ (by omega), List.range_succ, List.filterMap_append]
     have : keyAt d k = some (intAt d k) := if_pos hf
     rw [show List.filterMap (keyAt d) [k] = [intAt d k] by simp [this]]
     rfl
    ·rw [List.range_succ, List.any_append, hno]
     simp [Bool.eq_false_iff.2 hdk]
  ·left
   rw [if_pos (by rw [Bool.eq_false_iff.2 hf]; rfl), Option.bind_some]
   refine ⟨(List.range (k + 1)).filterMap (keyAt d), ?_, rfl, ?_⟩
   ·rw [w64_succ (by omega), List.range_succ, List.filterMap_append]
    have : keyAt d k = none := if_neg hf
    simp [this]
   ·rw [List.range_succ, List.any_append, hno]
    have : dupB d k = false := by
     unfold dupB
     rw [Bool.eq_false_iff.2 hf]
     simp
    simp [this]) (fun s hi => by
  obtain ⟨rfl, hno⟩ := hi
  refine ⟨.inr (), ?_, by rw [hno]; rfl⟩
  unfold g_ref_keysFault_l0
  dsimp only
  rw [if_neg (by decide)]) (s := []) ⟨rfl, rfl⟩
 have h1' : loopO (g_ref_keysFault_l0 d) ((0 : Int), ([] : List Int)) = some r := h1
 unfold g_ref_keysFault
 rw [h1', h2, Option.bind_some]
 by_cases h3 : (List.range 4).any (dupB d) = true
 ·rw [if_pos h3, if_pos h3]
 ·rw [if_neg h3, if_neg h3]
structure TabOk (t : GTable) : Prop where
 name : t.Name.length < 9223372036854775807
 cols : t.Cols.length < 9223372036854775807
 names : ∀ c ∈ t.Cols, c.Name.length < 9223372036854775807
 rows : ∀ i j, i < 2 → j < 4 → ∀ v ∈ (vrd (vrd t.Drawers i) j).Row, okI v.Int_
theorem vrd_mem {α : Type} [Inhabited α] {n : Nat} {v : Vector α n} {j : Nat} (h : j < n) : vrd v j ∈ v.toList := by
 rw [vrd_at h]
 simp
theorem tab_ok {t : GTable} (q : GTable.ok t) : TabOk t := by
 refine ⟨Nat.lt_of_le_of_lt q.2.1 (by decide), (colsOk q.2.2.1).1, (colsOk q.2.2.1).2, fun i j hi hj v hv => ?_⟩
 exact ((q.2.2.2 (vrd t.Drawers i) (vrd_mem hi) (vrd (vrd t.Drawers i) j) (vrd_mem hj)).2.2.2 v hv).2.1
theorem cells_eq {t : GTable} (ok : TabOk t) {i : Nat} (hi : i < 2) : g_table_Check_l1 t (i : Int) = g_ref_TableFault_l1 t (i : Int) := by
 funext k
 unfold g_table_Check_l1 g_ref_TableFault_l1
 dsimp only
 by_cases h : k < 4
 ·rw [if_pos h, if_pos h]
  by_cases h0 : 0 ≤ k ∧ k < 4
  ·rw [if_pos h0, if_pos h0, Int.toNat_natCast]
   obtain ⟨e, h1, h2⟩ := row_eq (vrd (vrd t.Drawers i) k.toNat).Row t.Cols ok.cols ok.names (ok.rows i k.toNat hi (by omega))
   rw [h1, h2]
   by_cases hf : (vrd (vrd t.Drawers i) k.toNat).Full = true
   ·rw [if_neg (show ¬ ((!(vrd (vrd t.Drawers i) k.toNat).Full) = true ∧ _) by rw [hf]; simp), if_neg (show ¬ ((!(vrd (vrd t.Drawers i) k.toNat).Full) = true) by rw [hf]; simp), if_pos hf]
    rfl
   ·rw [if_neg hf]
    by_cases hl : ((vrd (vrd t.Drawers i) k.toNat).Row.length : Int) > 0
    ·rw [if_pos (show (!(vrd (vrd t.Drawers i) k.toNat).Full) = true ∧ _ from ⟨by rw [Bool.eq_false_iff.2 hf]; rfl, hl⟩), if_pos (by omega)]
     rfl
    ·rw [if_neg (fun q => hl q.2), if_pos (show (!(vrd (vrd t.Drawers i) k.toNat).Full) = true by rw [Bool.eq_false_iff.2 hf]; rfl), if_neg (by omega)]
     rfl
  ·rw [if_neg h0, if_neg h0]
   rfl
 ·rw [if_neg h, if_neg h]
theorem cells_loop {t : GTable} (ok : TabOk t) (hpos : 0 < t.Cols.length) (hk : (lrd t.Cols 0).Kind = 2) (hn : (lrd t.Cols 0).Null = false) {i : Nat} (hi : i < 2) : ∃ o, loopO (g_table_Check_l1 t (i : Int)) (0 : Int) = some o ∧ match o with | .inl y => y ≠ 0 | .inr _ => keysOk (vrd t.Drawers i) := by
 obtain ⟨o, h1, h2⟩ := loop_passes (step := g_table_Check_l1 t (i : Int)) 4 (by decide) (fun k hk => by
  unfold g_table_Check_l1
  dsimp only
  rw [if_pos (by omega), if_pos (by omega), Int.toNat_natCast, Int.toNat_natCast]
  obtain ⟨e, h1, h2⟩ := row_eq (vrd (vrd t.Drawers i) k).Row t.Cols ok.cols ok.names (ok.rows i k hi hk)
  rw [h1]
  split
  ·exact .inr ⟨3, by decide, rfl⟩
  ·split
   ·exact .inl rfl
   ·rw [Option.bind_some]
    by_cases he : e ≠ 0
    ·rw [if_pos he]; exact .inr ⟨e, he, rfl⟩
    ·rw [if_neg he]; exact .inl rfl) (by
  unfold g_table_Check_l1
  dsimp only
  rw [if_neg (by decide)])
 refine ⟨o, h1, ?_⟩
 cases o with
 | inl y => exact h2
 | inr u =>
  intro k hk4 hf
  have h3 := h2 k hk4
  have hf2 : (vrd (vrd t.Drawers i) k).Full = true := hf
  unfold g_table_Check_l1 at h3
  dsimp only at h3
  obtain ⟨e, h4, _⟩ := row_eq (vrd (vrd t.Drawers i) k).Row t.Cols ok.cols ok.names (ok.rows i k hi hk4)
  rw [if_pos (by omega), if_pos (by omega), Int.toNat_natCast, Int.toNat_natCast, h4, if_neg (show ¬ ((!(vrd (vrd t.Drawers i) k).Full) = true ∧ _) by rw [hf2]; simp), if_neg (show ¬ ((!(vrd (vrd t.Drawers i) k).Full) = true) by rw [hf2]; simp), Option.bind_some] at h3
  by_cases he : e ≠ 0
  ·rw [if_pos he] at h3; cases h3
  ·have he0 : e = 0 := by omega
   rw [he0] at h4
   exact row_first h4 ok.cols ok.names (ok.rows i k hi hk4) hpos hk hn
theorem drawers_eq {t : GTable} (ok : TabOk t) (hpos : 0 < t.Cols.length) (hk : (lrd t.Cols 0).Kind = 2) (hn : (lrd t.Cols 0).Null = false) : g_table_Check_l0 t = g_ref_TableFault_l0 t := by
 funext k
 unfold g_table_Check_l0 g_ref_TableFault_l0
 dsimp only
 by_cases h : k < 2
 ·rw [if_pos h, if_pos h]
  by_cases h0 : 0 ≤ k ∧ k < 2
  ·rw [if_pos h0, if_pos h0]
   obtain ⟨i, rfl⟩ := Int.eq_ofNat_of_zero_le h0.1
   have hi : i < 2 := by omega
   obtain ⟨o, h1, h2⟩ := cells_loop ok hpos hk hn hi
   rw [← cells_eq ok hi, h1, Option.bind_some, Option.bind_some, Int.toNat_natCast]
   cases o with
   | inl y => rfl
   | inr u =>
    dsimp only at h2 ⊢
    rw [keys_eq h2, keysFault_eq h2]
  ·rw [if_neg h0, if_neg h0]
 ·rw [if_neg h, if_neg h]
theorem table_eq {t : GTable} (ok : TabOk t) : ∃ e, g_table_Check t = some e ∧ g_ref_TableFault t = some e ∧ (e = 0 → t.There = true ∧ 0 < t.Cols.length ∧ (lrd t.Cols 0).Kind = 2 ∧ (lrd t.Cols 0).Null = false ∧ ∀ i, i < 2 → keysOk (vrd t.Drawers i)) := by
 unfold g_table_Check g_ref_TableFault
 by_cases h1 : (!t.There) = true
 ·rw [if_pos h1, if_pos h1]; exact ⟨5, rfl, rfl, fun h => absurd h (by decide)⟩
 ·rw [if_neg h1, if_neg h1, name_eq _ ok.name, isName_eq _ ok.name, Option.bind_some, Option.bind_some]
  unfold wrong
  by_cases h2 : (t.Name.length : Int) > 8
  ·rw [if_pos h2, if_pos (show (1 : Int) ≠ 0 by decide), if_pos (.inr h2)]; exact ⟨3, rfl, rfl, fun h => absurd h (by decide)⟩
  ·rw [if_neg h2]
   by_cases h3 : isNm t.Name = true
   ·rw [if_pos h3, if_neg (show ¬ ((0 : Int) ≠ 0) by decide), if_neg (show ¬ ((!(isNm t.Name)) = true ∨ (t.Name.length : Int) > 8) by rw [h3]; intro hh; rcases hh with hh | hh; exact absurd hh (by decide); exact h2 hh)]
    obtain ⟨e, h4, h5⟩ := cols_eq t.Cols ok.cols ok.names
    rw [h4, h5, Option.bind_some, Option.bind_some]
    by_cases h6 : e ≠ 0
    ·rw [if_pos h6, if_pos h6]; exact ⟨e, rfl, rfl, fun h => absurd h h6⟩
    ·rw [if_neg h6, if_neg h6]
     have hg : ∃ g : Bool, ((if (t.Cols.length : Int) = (0 : Int) then some true else if 0 < t.Cols.length then (if (lrd t.Cols 0).Kind ≠ (2 : Int) then some true else if 0 < t.Cols.length then some ((lrd t.Cols 0).Null) else none) else none)) = some g ∧ (g = false → 0 < t.Cols.length ∧ (lrd t.Cols 0).Kind = 2 ∧ (lrd t.Cols 0).Null = false) := by
      by_cases h7 : (t.Cols.length : Int) = 0
      ·rw [if_pos h7]; exact ⟨true, rfl, fun h => by cases h⟩
      ·have hp : 0 < t.Cols.length := by omega
       rw [if_neg h7, if_pos hp]
       by_cases h8 : (lrd t.Cols 0).Kind ≠ 2
       ·rw [if_pos h8]; exact ⟨true, rfl, fun h => by cases h⟩
       ·rw [if_neg h8, if_pos hp]; exact ⟨_, rfl, fun h => ⟨hp, by omega, h⟩⟩
     obtain ⟨g, h7, h8⟩ := hg
     rw [h7, Option.bind_some, Option.bind_some]
     cases g with
     | true => rw [if_pos rfl, if_pos rfl]; exact ⟨3, rfl, rfl, fun h => absurd h (by decide)⟩
     | false =>
      obtain ⟨hpos, hk, hn⟩ := h8 rfl
      rw [if_neg (by decide), if_neg (by decide), ← drawers_eq ok hpos hk hn]
      obtain ⟨o, h9, h10⟩ := loop_passes (step := g_table_Check_l0 t) 2 (by decide) (fun k hk2 => by
       unfold g_table_Check_l0
       dsimp only
       obtain ⟨o, h11, h12⟩ := cells_loop ok hpos hk hn hk2
       rw [if_pos (by omega), if_pos (by omega), h11, Option.bind_some, Int.toNat_natCast]
       cases o with
       | inl y => exact .inr ⟨y, h12, rfl⟩
       | inr u =>
        dsimp only at h12 ⊢
        rw [keys_eq h12, Option.bind_some]
        by_cases h13 : (List.range 4).any (dupB (vrd t.Drawers k)) = true
        ·rw [if_pos h13]; exact .inr ⟨8, by decide, rfl⟩
        ·rw [if_neg h13]; exact .inl rfl) (by
       unfold g_table_Check_l0
       dsimp only
       rw [if_neg (by decide)])
      rw [h9, Option.bind_some]
      cases o with
      | inl y => exact ⟨y, rfl, rfl, fun h => absurd h h10⟩
      | inr u =>
       refine ⟨0, rfl, rfl, fun _ => ⟨by simpa using h1, hpos, hk, hn, fun i hi => ?_⟩⟩
       have h11 := h10 i hi
       obtain ⟨o, h12, h13⟩ := cells_loop ok hpos hk hn hi
       unfold g_table_Check_l0 at h11
       dsimp only at h11
       rw [if_pos (by omega), if_pos (by omega), h12, Option.bind_some] at h11
       cases o with
       | inl y => cases h11
       | inr u => exact h13
   ·rw [if_neg h3, if_pos (show (3 : Int) ≠ 0 by decide), if_pos (.inl (by rw [Bool.eq_false_iff.2 h3]; rfl))]; exact ⟨3, rfl, rfl, fun h => absurd h (by decide)⟩
end Go.Proofs.YtalnmpfjgiecdaaDoor.VM
