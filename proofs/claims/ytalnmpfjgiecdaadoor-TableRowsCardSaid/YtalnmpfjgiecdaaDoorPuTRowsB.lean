/- Words and rules that the proof uses. -/
import Derived.Test.YtalnmpfjgiecdaaDoorPuTRows
namespace Go.Proofs.YtalnmpfjgiecdaaDoor.VM
open Go Go.RowKit
theorem key_nat {a : Int} (h : -9223372036854775808 ≤ a ∧ a ≤ 9223372036854775807) : ((UInt64.ofInt a + (9223372036854775808 : UInt64)).toNat : Int) = a + 9223372036854775808 := by
 rw [UInt64.toNat_add]
 unfold UInt64.ofInt
 rw [UInt64.toNat_ofNat', show (9223372036854775808 : UInt64).toNat = 9223372036854775808 from rfl]
 have : (2 : Int) ^ 64 = 18446744073709551616 := by decide
 have h2 : (2 : Nat) ^ 64 = 18446744073709551616 := by decide
 rw [this, h2]
 omega
theorem ord_key {a b : Int} (ha : okI a) (hb : okI b) : (UInt64.ofInt a + (9223372036854775808 : UInt64) < UInt64.ofInt b + (9223372036854775808 : UInt64)) ↔ a < b := by
 rw [UInt64.lt_iff_toNat_lt]
 have h1 := key_nat ha
 have h2 := key_nat hb
 omega
theorem swap_at {α : Type} : ∀ (A : List α) (x r : α) (B : List α), ((A ++ x :: r :: B).set (A.length + 1) x).set A.length r = A ++ r :: x :: B
 | [], _, _, _ => rfl
 | a :: A, x, r, B => congrArg (List.cons a) (swap_at A x r B)
structure Keyed (r : TRow) : Prop where
 some : 0 < r.length
 key : okI (kyR r)
 len : r.length * 40 ≤ 140737488355328
theorem trow_copy {r : TRow} (h : Keyed r) : g_table_row r = some r := by
 have := h.len
 unfold g_table_row
 rw [if_pos (show room _ _ by simp only [room, List.length_nil]; omega), List.nil_append]
theorem bub {pre T : List TRow} {r : TRow} (hr : Keyed r) (hT : ∀ x ∈ T, Keyed x) (hlen : pre.length + T.length < 1000) : ∀ k, k ≤ T.length → loopO (g_table_Rows_l2 pre) (((pre.length + k : Nat) : Int), pre ++ (T.take k ++ r :: T.drop k)) = some (pre ++ (T.take (posN T r k) ++ r :: T.drop (posN T r k)))
 | 0, _ => by
  refine loopO_done ?_
  unfold g_table_Rows_l2
  dsimp only
  rw [if_neg (by omega), Option.bind_some, if_neg (by decide)]
  rfl
 | k + 1, hk => by
  have hx : Keyed (lrd T k) := hT _ (lrd_mem (by omega))
  have hA : (pre ++ T.take k).length = pre.length + k := by rw [List.length_append, List.length_take]; omega
  have hout : pre ++ (T.take (k + 1) ++ r :: T.drop (k + 1)) = (pre ++ T.take k) ++ lrd T k :: r :: T.drop (k + 1) := by
   rw [take_step (show k < T.length by omega)]
   simp
  have hlo : (pre ++ (T.take (k + 1) ++ r :: T.drop (k + 1))).length = pre.length + T.length + 1 := by
   rw [List.length_append, List.length_append, List.length_cons, List.length_take, List.length_drop]
   omega
  have e1 : lrd (pre ++ (T.take (k + 1) ++ r :: T.drop (k + 1))) (pre.length + (k + 1)) = r := by
   rw [hout, lrd_app_ge (by omega), hA, show pre.length + (k + 1) - (pre.length + k) = 0 + 1 by omega, lrd_cons_succ, lrd_cons_zero]
  have e2 : lrd (pre ++ (T.take (k + 1) ++ r :: T.drop (k + 1))) (pre.length + k) = lrd T k := by
   rw [hout, lrd_app_ge (by omega), hA, Nat.sub_self, lrd_cons_zero]
  have hj : w64 (((pre.length + (k + 1) : Nat) : Int) - 1) = ((pre.length + k : Nat) : Int) := by rw [w64_id (by omega)]; omega
  by_cases hc : kyR r < kyR (lrd T k)
  ·have hstep : g_table_Rows_l2 pre (((pre.length + (k + 1) : Nat) : Int), pre ++ (T.take (k + 1) ++ r :: T.drop (k + 1))) = some (.inl (((pre.length + k : Nat) : Int), pre ++ (T.take k ++ r :: T.drop k))) := by
    unfold g_table_Rows_l2
    dsimp only
    rw [hj, Int.toNat_natCast, Int.toNat_natCast, e1, e2, hlo, if_pos (by omega), if_pos (by omega), if_pos hr.some, if_pos (by omega), if_pos hx.some, decide_eq_true (show (lrd r 0).Int_ < (lrd (lrd T k) 0).Int_ from hc), Option.bind_some, if_pos rfl, if_pos (by omega), if_pos (by omega), if_pos (by omega), List.length_set, hlo, if_pos (by omega), letO_eq]
    have hsw : ((pre ++ (T.take (k + 1) ++ r :: T.drop (k + 1))).set (pre.length + (k + 1)) (lrd T k)).set (pre.length + k) r = pre ++ (T.take k ++ r :: T.drop k) := by
     have := swap_at (pre ++ T.take k) (lrd T k) r (T.drop (k + 1))
     rw [hA] at this
     rw [hout, show pre.length + (k + 1) = pre.length + k + 1 by omega, this, drop_step (show k < T.length by omega), List.append_assoc]
    rw [hsw]
   rw [loopO_next hstep, bub hr hT hlen k (by omega), posN, if_pos hc]
  ·refine loopO_done ?_
   unfold g_table_Rows_l2
   dsimp only
   rw [hj, Int.toNat_natCast, Int.toNat_natCast, e1, e2, hlo, if_pos (by omega), if_pos (by omega), if_pos hr.some, if_pos (by omega), if_pos hx.some, decide_eq_false (show ¬ (lrd r 0).Int_ < (lrd (lrd T k) 0).Int_ from hc), Option.bind_some, if_neg (by decide), posN, if_neg hc]
def cellAt (t : GTable) (i k : Nat) : GCell := vrd (vrd t.Drawers i) k
def fullL (t : GTable) (i : Nat) : Nat → List TRow
 | 0 => []
 | k + 1 => if (cellAt t i k).Full = true then fullL t i k ++ [(cellAt t i k).Row] else fullL t i k
theorem full_len (t : GTable) (i : Nat) : ∀ k, (fullL t i k).length ≤ k
 | 0 => Nat.le_refl _
 | k + 1 => by
  have := full_len t i k
  rw [fullL]
  split
  ·rw [List.length_append, List.length_singleton]; omega
  ·omega
structure KeyedT (t : GTable) : Prop where
 cells : ∀ i k, i < 2 → k < 4 → (cellAt t i k).Full = true → Keyed (cellAt t i k).Row
theorem full_keyed {t : GTable} (h : KeyedT t) {i : Nat} (hi : i < 2) : ∀ k, k ≤ 4 → ∀ x ∈ fullL t i k, Keyed x
 | 0, _, x, hx => by cases hx
 | k + 1, hk, x, hx => by
  rw [fullL] at hx
  split at hx
  ·rename_i hf
   rcases List.mem_append.1 hx with h1 | h1
   ·exact full_keyed h hi k (by omega) x h1
   ·rw [List.mem_singleton] at h1
    rw [h1]
    exact h.cells i k hi (by omega) hf
  ·exact full_keyed h hi k (by omega) x hx
theorem isort_app (L : List TRow) (r : TRow) : isort (L ++ [r]) = insR (isort L) r := by unfold isort; rw [List.foldl_append]; rfl
theorem isort_len (L : List TRow) : (isort L).length = L.length := (ranks_of L).perm.length_eq.symm
theorem isort_keyed {L : List TRow} (h : ∀ x ∈ L, Keyed x) : ∀ x ∈ isort L, Keyed x := fun x hx => h x ((ranks_of L).perm.mem_iff.2 hx)
theorem prog_drawer {t : GTable} {op : Vector Bool 2} (h : KeyedT t) {i : Nat} (hi : i < 2) (pre : List TRow) (hp : pre.length ≤ 8) : loopO (g_table_Rows_l1 t op (i : Int) pre) ((0 : Int), pre) = some (pre ++ if vrd op i = true then isort (fullL t i 4) else []) := by
 obtain ⟨r, h1, h2⟩ := loopO_times (step := g_table_Rows_l1 t op (i : Int) pre) 4 (fun k (s : List TRow) => ((k : Int), s)) (fun k s => s = pre ++ if vrd op i = true then isort (fullL t i k) else []) (fun s => s = pre ++ if vrd op i = true then isort (fullL t i 4) else []) (fun k s hk hs => by
  subst hs
  left
  refine ⟨_, ?_, rfl⟩
  unfold g_table_Rows_l1
  dsimp only
  rw [if_pos (by omega), if_pos (by omega), if_pos (by omega), Int.toNat_natCast, Int.toNat_natCast, w64_succ (by omega)]
  have hce : vrd (vrd t.Drawers i) k = cellAt t i k := rfl
  rw [hce]
  by_cases ho : vrd op i = true
  ·simp only [if_pos ho]
   by_cases hf : (cellAt t i k).Full = true
   ·have hr := h.cells i k hi hk hf
    have hT := isort_keyed (full_keyed h hi k (by omega))
    have hl := full_len t i k
    have hil := isort_len (fullL t i k)
    rw [if_neg (by rw [ho, hf]; decide), trow_copy hr, Option.bind_some, if_pos (show room _ _ by simp only [room, List.length_append, List.length_cons, List.length_nil]; omega), letO_eq, fullL, if_pos hf, isort_app]
    have hb := bub (pre := pre) (T := isort (fullL t i k)) hr hT (by omega) (isort (fullL t i k)).length (Nat.le_refl _)
    rw [List.take_length, List.drop_length] at hb
    have hidx : w64 ((((pre ++ isort (fullL t i k)) ++ ([(cellAt t i k).Row] : List (List GValue))).length : Int) - (1 : Int)) = ((pre.length + (isort (fullL t i k)).length : Nat) : Int) := by
     rw [List.length_append, List.length_append, List.length_singleton, w64_id (by omega)]
     omega
    rw [hidx, List.append_assoc]
    refine (congrArg (fun o : Option (List (List GValue)) => (o.bind fun y'10 => some y'10).bind _) hb).trans ?_
    rfl
   ·rw [if_pos (.inr (by rw [Bool.eq_false_iff.2 hf]; rfl)), fullL, if_neg hf]
    rfl
  ·simp only [if_neg ho]
   rw [if_pos (.inl (by rw [Bool.eq_false_iff.2 ho]; rfl))]
   rfl) (fun s hs => ⟨s, by
  unfold g_table_Rows_l1
  dsimp only
  rw [if_neg (by decide)], hs⟩) (s := pre) (by split <;> simp [fullL, isort])
 have h1' : loopO (g_table_Rows_l1 t op (i : Int) pre) ((0 : Int), pre) = some r := h1
 rw [h1', h2]
theorem ref_drawer (t : GTable) {i : Nat} (hi : i < 2) : loopO (g_ref_rowsOf_l1 t (i : Int)) ((0 : Int), ([] : List TRow)) = some (fullL t i 4) := by
 obtain ⟨r, h1, h2⟩ := loopO_times (step := g_ref_rowsOf_l1 t (i : Int)) 4 (fun k (s : List TRow) => ((k : Int), s)) (fun k s => s = fullL t i k) (fun s => s = fullL t i 4) (fun k s hk hs => by
  subst hs
  have hl := full_len t i k
  left
  refine ⟨_, ?_, rfl⟩
  unfold g_ref_rowsOf_l1
  dsimp only
  rw [if_pos (by omega), if_pos (by omega), Int.toNat_natCast, Int.toNat_natCast, w64_succ (by omega)]
  have hce : vrd (vrd t.Drawers i) k = cellAt t i k := rfl
  rw [hce, fullL]
  by_cases hf : (cellAt t i k).Full = true
  ·rw [if_pos hf, if_pos hf, if_pos (show room _ _ by simp only [room, List.length_cons, List.length_nil]; omega), letO_eq]
   rfl
  ·rw [if_neg hf, if_neg hf]
   rfl) (fun s hs => ⟨s, by
  unfold g_ref_rowsOf_l1
  dsimp only
  rw [if_neg (by decide)], hs⟩) (s := []) rfl
 have h1' : loopO (g_ref_rowsOf_l1 t (i : Int)) ((0 : Int), ([] : List TRow)) = some r := h1
 rw [h1', h2]
theorem order_eq {a b : TRow} (ha : Keyed a) (hb : Keyed b) : g_ref_rowsOf_1 a b = some (if kyR a < kyR b then -1 else if kyR b < kyR a then 1 else 0) := by
 unfold g_ref_rowsOf_1 g_ref_bitsOrder
 rw [if_pos ha.some, if_pos hb.some]
 have h1 := ord_key ha.key hb.key
 have h2 := ord_key hb.key ha.key
 unfold kyR at h1 h2 ⊢
 by_cases c1 : (lrd a 0).Int_ < (lrd b 0).Int_
 ·rw [if_pos (h1.2 c1), if_pos c1]; rfl
 ·rw [if_neg (fun q => c1 (h1.1 q)), if_neg c1]
  by_cases c2 : (lrd b 0).Int_ < (lrd a 0).Int_
  ·rw [if_pos (h2.2 c2), if_pos c2]; rfl
  ·rw [if_neg (fun q => c2 (h2.1 q)), if_neg c2]; rfl
theorem rank_loop {L : List TRow} (hL : ∀ x ∈ L, Keyed x) (hn : L.length ≤ 4) {i : Nat} (hi : i < L.length) : loopO (g_ref_ranked_i0_l1 L (i : Int)) ((0 : Int), (0 : Int)) = some (rankR L i : Int) := by
 have hcnt : ∀ n, cntR L i n ≤ n := fun n => by
  induction n with
  | zero => exact Nat.le_refl _
  | succ n ih => rw [cntR]; split <;> omega
 obtain ⟨r, h1, h2⟩ := loopO_times (step := g_ref_ranked_i0_l1 L (i : Int)) L.length (fun k (s : Int) => (s, (k : Int))) (fun k s => s = (cntR L i k : Int)) (fun s => s = (rankR L i : Int)) (fun k s hk hs => by
  subst hs
  have hk2 := hcnt k
  left
  refine ⟨((cntR L i (k + 1) : Nat) : Int), ?_, rfl⟩
  unfold g_ref_ranked_i0_l1
  dsimp only
  rw [if_pos (natLt hk), if_pos (natIn hk), Int.toNat_natCast, Int.toNat_natCast, w64_succ (k := k) (by omega), order_eq (hL _ (lrd_mem hk)) (hL _ (lrd_mem hi)), Option.bind_some, w64_succ (k := cntR L i k) (by omega), cntR]
  unfold befR
  by_cases c1 : kyR (lrd L k) < kyR (lrd L i)
  ·rw [if_pos c1, if_pos (.inl (by decide)), decide_eq_true c1]
   rfl
  ·rw [if_neg c1, decide_eq_false c1]
   by_cases c2 : kyR (lrd L i) < kyR (lrd L k)
   ·rw [if_pos c2, if_neg (by omega), decide_eq_false (show ¬ kyR (lrd L k) = kyR (lrd L i) by omega)]
    rfl
   ·rw [if_neg c2, decide_eq_true (show kyR (lrd L k) = kyR (lrd L i) by omega)]
    by_cases c3 : k < i
    ·rw [if_pos (.inr ⟨rfl, by omega⟩), decide_eq_true c3]
     rfl
    ·rw [if_neg (by omega), decide_eq_false c3]
     rfl) (fun s hs => ⟨s, by
  unfold g_ref_ranked_i0_l1
  dsimp only
  rw [if_neg natNlt], hs⟩) (s := 0) rfl
 have h1' : loopO (g_ref_ranked_i0_l1 L (i : Int)) ((0 : Int), (0 : Int)) = some r := h1
 rw [h1', h2]
theorem ranked_eq {L : List TRow} (hL : ∀ x ∈ L, Keyed x) (hn : L.length ≤ 4) : g_ref_ranked_i0 L = some (isort L) := by
 have hR := ranks_of L
 have hlen := isort_len L
 unfold g_ref_ranked_i0
 rw [if_pos (by omega), Int.toNat_natCast, if_pos (by omega)]
 obtain ⟨r, h1, h2, h3⟩ := loopO_times (step := g_ref_ranked_i0_l0 L) L.length (fun k (s : List TRow) => ((k : Int), s)) (fun k s => s.length = L.length ∧ ∀ i, i < k → lrd s (rankR L i) = lrd (isort L) (rankR L i)) (fun s => s.length = L.length ∧ ∀ i, i < L.length → lrd s (rankR L i) = lrd (isort L) (rankR L i)) (fun k s hk hs => by
  obtain ⟨g1, g2⟩ := hR.get k hk
  left
  refine ⟨s.set (rankR L k) (lrd L k), ?_, by rw [List.length_set]; exact hs.1, fun i hi => ?_⟩
  ·unfold g_ref_ranked_i0_l0
   dsimp only
   rw [if_pos (natLt hk), if_pos (natIn hk), rank_loop hL hn hk, Option.bind_some, if_pos (by rw [hs.1]; omega), Int.toNat_natCast, Int.toNat_natCast, w64_succ (by omega)]
  ·obtain ⟨g3, _⟩ := hR.get i (by omega)
   rw [lrd_set (by rw [hs.1]; exact g3)]
   by_cases he : rankR L k = rankR L i
   ·rw [if_pos he, ← he, g2]
   ·rw [if_neg he]
    have : i ≠ k := fun h => he (by rw [h])
    exact hs.2 i (by omega)) (fun s hs => ⟨s, by
  unfold g_ref_ranked_i0_l0
  dsimp only
  rw [if_neg natNlt], hs⟩) (s := List.replicate L.length []) ⟨List.length_replicate, fun i hi => absurd hi (Nat.not_lt_zero _)⟩
 have h1' : loopO (g_ref_ranked_i0_l0 L) ((0 : Int), (List.replicate L.length [])) = some r := h1
 have hr : r = isort L := by
  refine lrd_inj (by rw [h2, hlen]) fun q hq => ?_
  obtain ⟨i, hi, rfl⟩ := hR.onto q (by omega)
  exact h3 i hi
 rw [h1', hr]
 rfl
def allL (t : GTable) (op : Vector Bool 2) : Nat → List TRow
 | 0 => []
 | i + 1 => allL t op i ++ if vrd op i = true then isort (fullL t i 4) else []
theorem all_len (t : GTable) (op : Vector Bool 2) : ∀ i, (allL t op i).length ≤ 4 * i
 | 0 => Nat.le_refl _
 | i + 1 => by
  have h1 := all_len t op i
  have h2 := full_len t i 4
  have h3 := isort_len (fullL t i 4)
  rw [allL, List.length_append]
  split
  ·omega
  ·rw [List.length_nil]; omega
theorem prog_all {t : GTable} {op : Vector Bool 2} (h : KeyedT t) : loopO (g_table_Rows_l0 t op) ((0 : Int), ([] : List TRow)) = some (allL t op 2) := by
 obtain ⟨r, h1, h2⟩ := loopO_times (step := g_table_Rows_l0 t op) 2 (fun k (s : List TRow) => ((k : Int), s)) (fun k s => s = allL t op k) (fun s => s = allL t op 2) (fun k s hk hs => by
  subst hs
  have hl := all_len t op k
  left
  refine ⟨_, ?_, rfl⟩
  unfold g_table_Rows_l0
  dsimp only
  rw [if_pos (by omega), if_pos (by omega), prog_drawer h hk _ (by omega), Option.bind_some, w64_succ (by omega), allL]) (fun s hs => ⟨s, by
  unfold g_table_Rows_l0
  dsimp only
  rw [if_neg (by decide)], hs⟩) (s := []) rfl
 have h1' : loopO (g_table_Rows_l0 t op) ((0 : Int), ([] : List TRow)) = some r := h1
 rw [h1', h2]
theorem ref_all {t : GTable} {op : Vector Bool 2} (h : KeyedT t) : g_ref_rowsOf t op = some (allL t op 2) := by
 obtain ⟨r, h1, h2⟩ := loopO_times (step := g_ref_rowsOf_l0 t op) 2 (fun k (s : List TRow) => ((k : Int), s)) (fun k s => s = allL t op k) (fun s => s = allL t op 2) (fun k s hk hs => by
  subst hs
  have hl := all_len t op k
  have hf := full_len t k 4
  have hi := isort_len (fullL t k 4)
  left
  refine ⟨_, ?_, rfl⟩
  unfold g_ref_rowsOf_l0
  dsimp only
  rw [if_pos (by omega), if_pos (by omega), if_pos (by omega), Int.toNat_natCast, w64_succ (by omega), allL]
  by_cases ho : vrd op k = true
  ·rw [if_neg (by rw [ho]; decide), ref_drawer t hk, Option.bind_some, ranked_eq (full_keyed h hk 4 (Nat.le_refl _)) (by omega), Option.bind_some, if_pos (show room _ _ by simp only [room]; omega), if_pos ho]
   rfl
  ·rw [if_pos (by rw [Bool.eq_false_iff.2 ho]; rfl), if_neg ho, List.append_nil]
   rfl) (fun s hs => ⟨s, by
  unfold g_ref_rowsOf_l0
  dsimp only
  rw [if_neg (by decide)], hs⟩) (s := []) rfl
 have h1' : loopO (g_ref_rowsOf_l0 t op) ((0 : Int), ([] : List TRow)) = some r := h1
 unfold g_ref_rowsOf
 rw [h1', h2]
 rfl
theorem sameRows_same {l : List TRow} (hl : l.length < 1000) (hr : ∀ x ∈ l, x.length < 9223372036854775807) : g_law_sameRows l l = some true := by
 unfold g_law_sameRows
 rw [if_neg (fun q => q rfl), same_lp (step := g_law_sameRows_l0 l l) l.length (.inr ()) (by omega) (fun k hk => by
  unfold g_law_sameRows_l0
  dsimp only
  rw [if_pos (natLt hk), if_pos (natIn hk), if_pos (natIn hk), sameRow_same _ (hr _ (by rw [Int.toNat_natCast]; exact lrd_mem hk)), Option.bind_some, if_neg (by decide)]) (by
  unfold g_law_sameRows_l0
  dsimp only
  rw [if_neg natNlt])]
 rfl
theorem all_keyed {t : GTable} {op : Vector Bool 2} (h : KeyedT t) : ∀ i, i ≤ 2 → ∀ x ∈ allL t op i, Keyed x
 | 0, _, x, hx => by cases hx
 | i + 1, hi, x, hx => by
  rw [allL] at hx
  rcases List.mem_append.1 hx with h1 | h1
  ·exact all_keyed h i (by omega) x h1
  ·split at h1
   ·exact isort_keyed (full_keyed h (by omega) 4 (Nat.le_refl _)) x h1
   ·cases h1
end Go.Proofs.YtalnmpfjgiecdaaDoor.VM
