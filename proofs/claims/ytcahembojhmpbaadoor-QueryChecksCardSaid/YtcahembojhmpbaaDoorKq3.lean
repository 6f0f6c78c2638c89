/- Functions of the program, as they answer, and that their code comes to these answers. -/
import Derived.Test.YtcahembojhmpbaaDoorKq2
namespace Go.Proofs.YtcahembojhmpbaaDoor.VM
open Go Go.RowKit

theorem in_34 : Info Tryd.prog 34 1 24 (.slice none 0 0) := by unfold Info; kernel_rfl
theorem one_34 : (.slice none 0 0 : Value).cells.all (·.oneCell') = true := by kernel_rfl
theorem zc_34 : ((.slice none 0 0 : Value).cells.toList.map zcell) = [((fun q : List GItem => AV.lst (q.flatMap GItem.cs) q.length) [])] := by rfl
theorem in_35 : Info Tryd.prog 35 1 24 (.slice none 0 0) := by unfold Info; kernel_rfl
theorem one_35 : (.slice none 0 0 : Value).cells.all (·.oneCell') = true := by kernel_rfl
theorem zc_35 : ((.slice none 0 0 : Value).cells.toList.map zcell) = [((fun q : List GSort => AV.lst (q.flatMap GSort.cs) q.length) [])] := by rfl
theorem in_61 : Info Tryd.prog 61 8 96 (.agg #[.int .i64 0, .int .i64 0, .int .i64 0, .int .i64 0, .int .u64 0, .string ⟨#[]⟩, .string ⟨#[]⟩, .slice none 0 0]) := by unfold Info; kernel_rfl
theorem one_61 : (.agg #[.int .i64 0, .int .i64 0, .int .i64 0, .int .i64 0, .int .u64 0, .string ⟨#[]⟩, .string ⟨#[]⟩, .slice none 0 0] : Value).cells.all (·.oneCell') = true := by kernel_rfl
theorem zc_61 : ((.agg #[.int .i64 0, .int .i64 0, .int .i64 0, .int .i64 0, .int .u64 0, .string ⟨#[]⟩, .string ⟨#[]⟩, .slice none 0 0] : Value).cells.toList.map zcell) = GItem.cs GItem.zero := by rfl
theorem pl_61 : placesOf Tryd.prog 61 = some [(0, 1), (1, 7)] := by kernel_rfl
theorem in_37 : Info Tryd.prog 37 12 168 (.agg #[.slice none 0 0, .int .i64 0, .int .i64 0, .int .i64 0, .int .u64 0, .string ⟨#[]⟩, .string ⟨#[]⟩, .slice none 0 0, .string ⟨#[]⟩, .slice none 0 0, .bool false, .int .i64 0]) := by unfold Info; kernel_rfl
theorem one_37 : (.agg #[.slice none 0 0, .int .i64 0, .int .i64 0, .int .i64 0, .int .u64 0, .string ⟨#[]⟩, .string ⟨#[]⟩, .slice none 0 0, .string ⟨#[]⟩, .slice none 0 0, .bool false, .int .i64 0] : Value).cells.all (·.oneCell') = true := by kernel_rfl
theorem zc_37 : ((.agg #[.slice none 0 0, .int .i64 0, .int .i64 0, .int .i64 0, .int .u64 0, .string ⟨#[]⟩, .string ⟨#[]⟩, .slice none 0 0, .string ⟨#[]⟩, .slice none 0 0, .bool false, .int .i64 0] : Value).cells.toList.map zcell) = GQuery.cs GQuery.zero := by rfl
theorem pl_37 : placesOf Tryd.prog 37 = some [(0, 1), (1, 7), (8, 1), (9, 1), (10, 1), (11, 1)] := by kernel_rfl
theorem in_64 : Info Tryd.prog 64 2 16 (.agg #[.int .i64 0, .bool false]) := by unfold Info; kernel_rfl
theorem one_64 : (.agg #[.int .i64 0, .bool false] : Value).cells.all (·.oneCell') = true := by kernel_rfl
theorem zc_64 : ((.agg #[.int .i64 0, .bool false] : Value).cells.toList.map zcell) = GSort.cs GSort.zero := by rfl
theorem pl_64 : placesOf Tryd.prog 64 = some [(0, 1), (1, 1)] := by kernel_rfl

/-! query.Check -/
noncomputable def g_query_Check_l0 (cols0 : List GColumn) (q1 : GQuery) : Bool × Int → Option ((Bool × Int) ⊕ (Bool))
  | (there7_0, t49_0) => (if t49_0 < (cols0.length : Int) then if 0 ≤ t49_0 ∧ t49_0 < (cols0.length : Int) then some (.inl ((decide ((there7_0 = true) ∨ ((lrd cols0 t49_0.toNat).Name = q1.Group))), w64 (t49_0 + (1 : Int)))) else none else some (.inr there7_0))
noncomputable def g_query_Check_l1 (cols0 : List GColumn) (q1 : GQuery) : Int × Int → Option ((Int × Int) ⊕ (Int ⊕ Int))
  | (plain10_1, t67_1) => (if t67_1 < (q1.Items.length : Int) then (show Option (Int ⊕ Int) from if 0 ≤ t67_1 ∧ t67_1 < (q1.Items.length : Int) then (g_query_item (lrd q1.Items t67_1.toNat) cols0 q1).bind fun r'8 => (if r'8 ≠ (0 : Int) then some (.inl r'8) else (if (lrd q1.Items t67_1.toNat).Agg = (0 : Int) then some (.inr (w64 (plain10_1 + (1 : Int)))) else some (.inr plain10_1))) else none).bind fun o'10 => match o'10 with | .inl y'9 => some (.inr (.inl y'9)) | .inr j'7 => some (.inl (j'7, w64 (t67_1 + (1 : Int)))) else some (.inr (.inr plain10_1)))
noncomputable def g_query_Check_l2 (q1 : GQuery) : Int → Option (Int ⊕ (Int ⊕ Unit))
  | t101_2 => (if t101_2 < (q1.Sorts.length : Int) then if 0 ≤ t101_2 ∧ t101_2 < (q1.Sorts.length : Int) then (if ((lrd q1.Sorts t101_2.toNat).Item < (1 : Int)) ∨ ((lrd q1.Sorts t101_2.toNat).Item > (q1.Items.length : Int)) then some (.inr (.inl (6 : Int))) else some (.inl (w64 (t101_2 + (1 : Int))))) else none else some (.inr (.inr ())))
noncomputable def g_query_Check (cols0 : List GColumn) (q1 : GQuery) : Option (Int) :=
  (g_kinds_Columns cols0).bind fun r'1 => (if r'1 ≠ (0 : Int) then some r'1 else (if (((q1.Items.length : Int) < (1 : Int)) ∨ ((q1.Items.length : Int) > (4 : Int))) ∨ ((q1.Sorts.length : Int) > (4 : Int)) then some (1 : Int) else (g_table_Condition q1.Where cols0).bind fun r'2 => (if r'2 ≠ (0 : Int) then some r'2 else (loopO (g_query_Check_l0 cols0 q1) ((decide (q1.Group = [])), (0 : Int))).bind fun y'6 => (if (!y'6) = true then some (5 : Int) else (loopO (g_query_Check_l1 cols0 q1) ((0 : Int), (0 : Int))).bind fun o'14 => match o'14 with | .inl y'15 => some y'15 | .inr (y'16) => (if ((q1.Group = []) ∧ (y'16 ≠ (0 : Int))) ∧ (y'16 ≠ (q1.Items.length : Int)) then some (3 : Int) else (loopO (g_query_Check_l2 q1) (0 : Int)).bind fun o'20 => match o'20 with | .inl y'21 => some y'21 | .inr (y'22) => (if ((q1.Cut = true) ∧ (q1.Most < (0 : Int))) ∨ (((!q1.Cut) = true) ∧ (q1.Most ≠ (0 : Int))) then some (6 : Int) else some (0 : Int)))))))
set_option maxHeartbeats 4000000 in
set_option maxRecDepth 100000 in
theorem g_query_Check_ac {cols0 : List GColumn} {q1 : GQuery} {r : Int} (H : g_query_Check cols0 q1 = some r) : ACp Tryd.prog 12 [((fun q : List GColumn => AV.lst (q.flatMap GColumn.cs) q.length) cols0), (.agg (GQuery.cs q1))] (AV.int r) := by
 refine ACp_of (AC2_of_body (vs := [.i r]) Tryd.func12 rfl rfl (Nat.le_of_ble_eq_true rfl) rfl ?_) (fun _ => .same _)
 unfold g_query_Check at H
 refine as2 [(0, .p ((fun q : List GColumn => AV.lst (q.flatMap GColumn.cs) q.length) cols0)), (1, .g (GQuery.cs q1))] [] rfl rfl rfl ?_
 refine sg [0, 1] rfl ?_
 refine r_op rfl rfl (MakeD.opD (n_box 3 rfl rfl) rfl rfl rfl rfl) ?_
 refine rp rfl rfl (p_asg rfl rfl) ?_
 refine rz [(0, .p ((fun q : List GColumn => AV.lst (q.flatMap GColumn.cs) q.length) cols0)), (3, .q 3 (0))] [(3, .pure (GQuery.cs q1))] rfl rfl rfl ?_
 refine AW2_seq ?_
 refine sg [0, 1, 2] rfl ?_
 refine rp rfl rfl (p_move rfl rfl) ?_
 refine bindK H fun r'1 h1 H => ?_
 refine rp rfl rfl (p_callp rfl rfl rfl Tryd.func19 rfl rfl (g_kinds_Columns_ac h1) ⟨rfl, trivial⟩) ?_
 refine rp rfl rfl (p_asg rfl rfl) ?_
 refine rz [(0, .p ((fun q : List GColumn => AV.lst (q.flatMap GColumn.cs) q.length) cols0)), (3, .q 3 (0)), (5, .i r'1)] [(3, .pure (GQuery.cs q1))] rfl rfl rfl ?_
 refine sg [0, 1] rfl ?_
 refine rp rfl rfl (p_move rfl rfl) ?_
 refine rp rfl rfl (p_ine rfl rfl rfl) ?_
 refine rz [(0, .p ((fun q : List GColumn => AV.lst (q.flatMap GColumn.cs) q.length) cols0)), (3, .q 3 (0)), (5, .i r'1), (19, .b (decide (r'1 ≠ (0 : Int))))] [(3, .pure (GQuery.cs q1))] rfl rfl rfl ?_
 refine AW2_if (p := r'1 ≠ (0 : Int)) rfl (fun h2 => ?_) (fun h2 => ?_)
 ·replace H := ite_then h2 H
  refine sg [0, 1] rfl ?_
  refine rp rfl rfl (p_move rfl rfl) ?_
  refine rp rfl rfl (p_asg rfl rfl) ?_
  refine rz [(4, .i r'1)] [] rfl rfl rfl ?_
  refine AW2_ret ?_
  have hz := some_elim H
  subst hz
  exact ⟨⟨res_tmp (.same _), trivial⟩, trivial⟩
 ·replace H := ite_else h2 H
  refine as2 [(0, .p ((fun q : List GColumn => AV.lst (q.flatMap GColumn.cs) q.length) cols0)), (3, .q 3 (0))] [(3, .pure (GQuery.cs q1))] rfl rfl rfl ?_
  refine AW2_skip ?_
  refine AW2_seq ?_
  refine AW2_seq ?_
  refine AW2_mid (⟨[(0, .p ((fun q : List GColumn => AV.lst (q.flatMap GColumn.cs) q.length) cols0)), (3, .q 3 (0)), (36, .b (decide ((((q1.Items.length : Int) < (1 : Int)) ∨ ((q1.Items.length : Int) > (4 : Int))) ∨ ((q1.Sorts.length : Int) > (4 : Int)))))], [(3, .pure (GQuery.cs q1))], 134⟩ : TS) ?_ ?_
  ·refine AW2_reg [0, 1, 2, 3, 4, 5, 6, 7, 8, 9, 10, 11, 12, 13, 14, 15] rfl ?_
   refine rp rfl rfl (u_fa rfl rfl Tryd.underlying37 rfl in_34 (Nat.succ_ne_zero _) rfl rfl (ne_of_lt (n := 0) (Nat.lt_of_lt_of_eq (by decide) (Eq.symm (GQuery.len q1))))) ?_
   refine rp rfl rfl (u_ld rfl rfl Tryd.underlying34 rfl rfl ((Sub.refl _).trans (GQuery.sub0 q1))) ?_
   refine rp rfl rfl (p_lenl rfl Tryd.underlying34 rfl rfl) ?_
   refine rp rfl rfl (p_bin rfl rfl rfl rfl) ?_
   refine rp rfl rfl (p_move rfl rfl) ?_
   refine (Classical.em ((q1.Items.length : Int) < (1 : Int))).elim (fun h3 => ?_) (fun h3 => ?_)
   ·iterate 4 (refine r_off rfl rfl rfl rfl (decide_eq_true h3) rfl rfl ?_)
    have qq1 := decide_eq_true (p := ((q1.Items.length : Int) < (1 : Int)) ∨ ((q1.Items.length : Int) > (4 : Int))) (Or.inl h3)
    refine rp rfl rfl (p_pkt rfl rfl (decide_eq_true h3) (tb qq1.symm)) ?_
    refine rp rfl rfl (p_move rfl rfl) ?_
    iterate 4 (refine r_off rfl rfl rfl rfl qq1 rfl rfl ?_)
    refine rp rfl rfl (p_pkt rfl rfl qq1 (tb (decide_eq_true (p := (((q1.Items.length : Int) < (1 : Int)) ∨ ((q1.Items.length : Int) > (4 : Int))) ∨ ((q1.Sorts.length : Int) > (4 : Int))) (Or.inl (Or.inl h3))).symm)) ?_
    refine rs [(0, .p ((fun q : List GColumn => AV.lst (q.flatMap GColumn.cs) q.length) cols0)), (3, .q 3 (0)), (36, .b (decide ((((q1.Items.length : Int) < (1 : Int)) ∨ ((q1.Items.length : Int) > (4 : Int))) ∨ ((q1.Sorts.length : Int) > (4 : Int)))))] [(3, .pure (GQuery.cs q1))] rfl rfl rfl ?_
    exact RunW_nil rfl
   ·refine r_on rfl rfl rfl rfl (decide_eq_false h3) rfl (PureD.opD (u_fa rfl rfl Tryd.underlying37 rfl in_34 (Nat.succ_ne_zero _) rfl rfl (ne_of_lt (n := 0) (Nat.lt_of_lt_of_eq (by decide) (Eq.symm (GQuery.len q1)))))) ?_
    refine r_on rfl rfl rfl rfl (decide_eq_false h3) rfl (PureD.opD (u_ld rfl rfl Tryd.underlying34 rfl rfl ((Sub.refl _).trans (GQuery.sub0 q1)))) ?_
    refine r_on rfl rfl rfl rfl (decide_eq_false h3) rfl (PureD.opD (p_lenl rfl Tryd.underlying34 rfl rfl)) ?_
    refine r_on rfl rfl rfl rfl (decide_eq_false h3) rfl (PureD.opD (p_bin rfl rfl rfl rfl)) ?_
    refine rp rfl rfl (p_pkf rfl rfl (decide_eq_false h3) (tb ((or_l (p := (q1.Items.length : Int) < (1 : Int)) (q := (q1.Items.length : Int) > (4 : Int)) h3)))) ?_
    refine rp rfl rfl (p_move rfl rfl) ?_
    refine (Classical.em ((q1.Items.length : Int) > (4 : Int))).elim (fun h4 => ?_) (fun h4 => ?_)
    ·have qq2 := decide_eq_true (p := ((q1.Items.length : Int) < (1 : Int)) ∨ ((q1.Items.length : Int) > (4 : Int))) (Or.inr h4)
     iterate 4 (refine r_off rfl rfl rfl rfl qq2 rfl rfl ?_)
     refine rp rfl rfl (p_pkt rfl rfl qq2 (tb (decide_eq_true (p := (((q1.Items.length : Int) < (1 : Int)) ∨ ((q1.Items.length : Int) > (4 : Int))) ∨ ((q1.Sorts.length : Int) > (4 : Int))) (Or.inl (Or.inr h4))).symm)) ?_
     refine rs [(0, .p ((fun q : List GColumn => AV.lst (q.flatMap GColumn.cs) q.length) cols0)), (3, .q 3 (0)), (36, .b (decide ((((q1.Items.length : Int) < (1 : Int)) ∨ ((q1.Items.length : Int) > (4 : Int))) ∨ ((q1.Sorts.length : Int) > (4 : Int)))))] [(3, .pure (GQuery.cs q1))] rfl rfl rfl ?_
     exact RunW_nil rfl
    ·have qq3 := decide_eq_false (p := ((q1.Items.length : Int) < (1 : Int)) ∨ ((q1.Items.length : Int) > (4 : Int))) (not_or.2 ⟨h3, h4⟩)
     refine rn rfl rfl rfl rfl qq3 rfl (u_fa rfl rfl Tryd.underlying37 rfl in_35 (Nat.succ_ne_zero _) rfl rfl (ne_of_lt (n := 0) (Nat.lt_of_lt_of_eq (by decide) (Eq.symm (GQuery.len q1))))) ?_
     refine rn rfl rfl rfl rfl qq3 rfl (u_ld rfl rfl Tryd.underlying35 rfl rfl ((Sub.refl _).trans (GQuery.sub3 q1))) ?_
     refine rn rfl rfl rfl rfl qq3 rfl (p_lenl rfl Tryd.underlying35 rfl rfl) ?_
     refine rn rfl rfl rfl rfl qq3 rfl (p_bin rfl rfl rfl rfl) ?_
     refine rp rfl rfl (p_pkf rfl rfl qq3 (tb ((or_l (p := ((q1.Items.length : Int) < (1 : Int)) ∨ ((q1.Items.length : Int) > (4 : Int))) (q := (q1.Sorts.length : Int) > (4 : Int)) (not_or.2 ⟨h3, h4⟩))))) ?_
     refine rs [(0, .p ((fun q : List GColumn => AV.lst (q.flatMap GColumn.cs) q.length) cols0)), (3, .q 3 (0)), (36, .b (decide ((((q1.Items.length : Int) < (1 : Int)) ∨ ((q1.Items.length : Int) > (4 : Int))) ∨ ((q1.Sorts.length : Int) > (4 : Int)))))] [(3, .pure (GQuery.cs q1))] rfl rfl rfl ?_
     exact RunW_nil rfl
  ·refine AW2_if (p := (((q1.Items.length : Int) < (1 : Int)) ∨ ((q1.Items.length : Int) > (4 : Int))) ∨ ((q1.Sorts.length : Int) > (4 : Int))) rfl (fun h5 => ?_) (fun h5 => ?_)
   ·replace H := ite_then h5 H
    refine sg [0] rfl ?_
    refine rp rfl rfl (p_asg rfl rfl) ?_
    refine rz [(4, .i (1 : Int))] [] rfl rfl rfl ?_
    refine AW2_ret ?_
    have hz := some_elim H
    subst hz
    exact ⟨⟨res_tmp (.same _), trivial⟩, trivial⟩
   ·replace H := ite_else h5 H
    refine as2 [(0, .p ((fun q : List GColumn => AV.lst (q.flatMap GColumn.cs) q.length) cols0)), (3, .q 3 (0))] [(3, .pure (GQuery.cs q1))] rfl rfl rfl ?_
    refine AW2_skip ?_
    refine AW2_seq ?_
    refine sg [0, 1, 2, 3, 4] rfl ?_
    refine rp rfl rfl (u_fa rfl rfl Tryd.underlying37 rfl in_27 (Nat.succ_ne_zero _) rfl rfl (ne_of_lt (n := 0) (Nat.lt_of_lt_of_eq (by decide) (Eq.symm (GQuery.len q1))))) ?_
    refine rp rfl rfl (u_lda rfl rfl Tryd.underlying27 rfl in_27 rfl (Nat.succ_pos _) ((Sub.refl _).trans (GQuery.sub1 q1)) (GExpr.len q1.Where)) ?_
    refine rp rfl rfl (p_move rfl rfl) ?_
    refine bindK H fun r'2 h6 H => ?_
    refine rp rfl rfl (p_callp rfl rfl rfl Tryd.func10 rfl rfl (g_table_Condition_ac h6) ⟨rfl, rfl, trivial⟩) ?_
    refine rp rfl rfl (p_asg rfl rfl) ?_
    refine rz [(0, .p ((fun q : List GColumn => AV.lst (q.flatMap GColumn.cs) q.length) cols0)), (3, .q 3 (0)), (6, .i r'2)] [(3, .pure (GQuery.cs q1))] rfl rfl rfl ?_
    refine sg [0, 1] rfl ?_
    refine rp rfl rfl (p_move rfl rfl) ?_
    refine rp rfl rfl (p_ine rfl rfl rfl) ?_
    refine rz [(0, .p ((fun q : List GColumn => AV.lst (q.flatMap GColumn.cs) q.length) cols0)), (3, .q 3 (0)), (6, .i r'2), (42, .b (decide (r'2 ≠ (0 : Int))))] [(3, .pure (GQuery.cs q1))] rfl rfl rfl ?_
    refine AW2_if (p := r'2 ≠ (0 : Int)) rfl (fun h7 => ?_) (fun h7 => ?_)
    ·replace H := ite_then h7 H
     refine sg [0, 1] rfl ?_
     refine rp rfl rfl (p_move rfl rfl) ?_
     refine rp rfl rfl (p_asg rfl rfl) ?_
     refine rz [(4, .i r'2)] [] rfl rfl rfl ?_
     refine AW2_ret ?_
     have hz := some_elim H
     subst hz
     exact ⟨⟨res_tmp (.same _), trivial⟩, trivial⟩
    ·replace H := ite_else h7 H
     refine as2 [(0, .p ((fun q : List GColumn => AV.lst (q.flatMap GColumn.cs) q.length) cols0)), (3, .q 3 (0))] [(3, .pure (GQuery.cs q1))] rfl rfl rfl ?_
     refine AW2_skip ?_
     refine sg [0, 1, 2, 3] rfl ?_
     refine rp rfl rfl (u_fa rfl rfl Tryd.underlying37 rfl in_9 (Nat.succ_ne_zero _) rfl rfl (ne_of_lt (n := 0) (Nat.lt_of_lt_of_eq (by decide) (Eq.symm (GQuery.len q1))))) ?_
     refine rp rfl rfl (u_ld rfl rfl Tryd.underlying9 rfl rfl ((Sub.refl _).trans (GQuery.sub2 q1))) ?_
     refine rp rfl rfl (p_seq rfl rfl rfl) ?_
     refine rp rfl rfl (p_asg rfl rfl) ?_
     refine rz [(0, .p ((fun q : List GColumn => AV.lst (q.flatMap GColumn.cs) q.length) cols0)), (3, .q 3 (0)), (7, .b (decide (q1.Group = [])))] [(3, .pure (GQuery.cs q1))] rfl rfl rfl ?_
     refine AW2_seq ?_
     refine sg [0, 1, 2] rfl ?_
     refine rp rfl rfl (p_move rfl rfl) ?_
     refine rp rfl rfl (p_lenl rfl Tryd.underlying28 rfl rfl) ?_
     refine rp rfl rfl (p_move rfl rfl) ?_
     refine rz [(0, .p ((fun q : List GColumn => AV.lst (q.flatMap GColumn.cs) q.length) cols0)), (3, .q 3 (0)), (7, .b (decide (q1.Group = []))), (47, .p ((fun q : List GColumn => AV.lst (q.flatMap GColumn.cs) q.length) cols0)), (48, .i (cols0.length : Int)), (49, .i (0 : Int))] [(3, .pure (GQuery.cs q1))] rfl rfl rfl ?_
     refine AW2_block ?_
     refine as2 [(0, .p ((fun q : List GColumn => AV.lst (q.flatMap GColumn.cs) q.length) cols0)), (3, .q 3 (0)), (7, .b (decide (q1.Group = []))), (47, .p ((fun q : List GColumn => AV.lst (q.flatMap GColumn.cs) q.length) cols0)), (48, .i (cols0.length : Int)), (49, .i (0 : Int))] [(3, .pure (GQuery.cs q1))] rfl rfl rfl ?_
     refine bindK H fun y'6 h11 H => ?_
     refine AW2_loopO (fun a'3 : Bool × Int => (⟨[(0, .p ((fun q : List GColumn => AV.lst (q.flatMap GColumn.cs) q.length) cols0)), (3, .q 3 (0)), (7, .b a'3.1), (47, .p ((fun q : List GColumn => AV.lst (q.flatMap GColumn.cs) q.length) cols0)), (48, .i (cols0.length : Int)), (49, .i a'3.2)], [(3, .pure (GQuery.cs q1))], 134⟩ : TS)) (fun (y'4 : Bool) e s' => e = Go.Exit.exit 0 ∧ s' = (⟨[(0, .p ((fun q : List GColumn => AV.lst (q.flatMap GColumn.cs) q.length) cols0)), (3, .q 3 (0)), (7, .b y'4)], [(3, .pure (GQuery.cs q1))], 134⟩ : TS)) h11 rfl (fun a x hx => ?_) (fun e s' hs => ?_)
     ·clear H
      obtain ⟨there7_0, t49_0⟩ := a
      have H := hx
      clear hx
      unfold g_query_Check_l0 at H
      refine sg [0] rfl ?_
      refine rp rfl rfl (p_bin rfl rfl rfl rfl) ?_
      refine rz [(0, .p ((fun q : List GColumn => AV.lst (q.flatMap GColumn.cs) q.length) cols0)), (3, .q 3 (0)), (7, .b there7_0), (47, .p ((fun q : List GColumn => AV.lst (q.flatMap GColumn.cs) q.length) cols0)), (48, .i (cols0.length : Int)), (49, .i t49_0), (50, .b (decide (t49_0 < (cols0.length : Int))))] [(3, .pure (GQuery.cs q1))] rfl rfl rfl ?_
      refine AW2_seq ?_
      refine AW2_if (p := t49_0 < (cols0.length : Int)) rfl (fun h8 => ?_) (fun h8 => ?_)
      ·replace H := ite_then h8 H
       refine as2 [(0, .p ((fun q : List GColumn => AV.lst (q.flatMap GColumn.cs) q.length) cols0)), (3, .q 3 (0)), (7, .b there7_0), (47, .p ((fun q : List GColumn => AV.lst (q.flatMap GColumn.cs) q.length) cols0)), (48, .i (cols0.length : Int)), (49, .i t49_0)] [(3, .pure (GQuery.cs q1))] rfl rfl rfl ?_
       refine AW2_skip ?_
       refine AW2_seq ?_
       refine AW2_block ?_
       refine sg [0, 1, 2, 3] rfl ?_
       refine chkK H fun h9 H => ?_
       refine rp rfl rfl (u_ixl rfl rfl Tryd.underlying28 in_59 rfl rfl (ixe h9) (ixn h9) (fne (fun x => (GColumn.len x)) (by decide) (ixn h9))) ?_
       refine rp rfl rfl (u_lda rfl rfl Tryd.underlying59 rfl in_59 rfl (Nat.succ_pos _) (Sub.fm default (fun x => (GColumn.len x)) (ixn h9)) (GColumn.len (lrd cols0 t49_0.toNat))) ?_
       refine r_op rfl rfl (MakeD.opD (u_alloc 9 rfl in_59 one_59 zc_59) rfl rfl rfl rfl) ?_
       refine r_op rfl rfl (u_st rfl rfl rfl rfl rfl in_59 (GColumn.len (lrd cols0 t49_0.toNat)) (ne_of_lt (n := 0) (Nat.lt_of_lt_of_eq (by decide) (Eq.symm (GColumn.len GColumn.zero)))) (Upd.refl ((GColumn.len (lrd cols0 t49_0.toNat)).trans (GColumn.len GColumn.zero).symm))) ?_
       refine rz [(0, .p ((fun q : List GColumn => AV.lst (q.flatMap GColumn.cs) q.length) cols0)), (3, .q 3 (0)), (7, .b there7_0), (9, .q 9 (0)), (47, .p ((fun q : List GColumn => AV.lst (q.flatMap GColumn.cs) q.length) cols0)), (48, .i (cols0.length : Int)), (49, .i t49_0)] [(3, .pure (GQuery.cs q1)), (9, .pure (GColumn.cs (lrd cols0 t49_0.toNat)))] rfl rfl rfl ?_
       refine AW2_mid (⟨[(0, .p ((fun q : List GColumn => AV.lst (q.flatMap GColumn.cs) q.length) cols0)), (3, .q 3 (0)), (7, .b (decide ((there7_0 = true) ∨ ((lrd cols0 t49_0.toNat).Name = q1.Group)))), (47, .p ((fun q : List GColumn => AV.lst (q.flatMap GColumn.cs) q.length) cols0)), (48, .i (cols0.length : Int)), (49, .i t49_0)], [(3, .pure (GQuery.cs q1))], 134⟩ : TS) ?_ ?_
       ·refine AW2_reg [0, 1, 2, 3, 4, 5, 6, 7, 8] rfl ?_
        refine rp rfl rfl (p_move rfl rfl) ?_
        refine rp rfl rfl (p_move rfl rfl) ?_
        refine (Classical.em (there7_0 = true)).elim (fun h10 => ?_) (fun h10 => ?_)
        ·iterate 5 (refine r_off rfl rfl rfl rfl h10 rfl rfl ?_)
         refine rp rfl rfl (p_pkt rfl rfl h10 (tb (decide_eq_true (p := (there7_0 = true) ∨ ((lrd cols0 t49_0.toNat).Name = q1.Group)) (Or.inl h10)).symm)) ?_
         refine rp rfl rfl (p_asg rfl rfl) ?_
         refine rs [(0, .p ((fun q : List GColumn => AV.lst (q.flatMap GColumn.cs) q.length) cols0)), (3, .q 3 (0)), (7, .b (decide ((there7_0 = true) ∨ ((lrd cols0 t49_0.toNat).Name = q1.Group)))), (47, .p ((fun q : List GColumn => AV.lst (q.flatMap GColumn.cs) q.length) cols0)), (48, .i (cols0.length : Int)), (49, .i t49_0)] [(3, .pure (GQuery.cs q1))] rfl rfl rfl ?_
         exact RunW_nil rfl
        ·refine r_on rfl rfl rfl rfl (bfalse h10) rfl (PureD.opD (u_fa rfl rfl Tryd.underlying59 rfl in_9 (Nat.succ_ne_zero _) rfl rfl (ne_of_lt (n := 0) (Nat.lt_of_lt_of_eq (by decide) (Eq.symm (GColumn.len (lrd cols0 t49_0.toNat))))))) ?_
         refine r_on rfl rfl rfl rfl (bfalse h10) rfl (PureD.opD (u_ld rfl rfl Tryd.underlying9 rfl rfl ((Sub.refl _).trans (GColumn.sub0 (lrd cols0 t49_0.toNat))))) ?_
         refine r_on rfl rfl rfl rfl (bfalse h10) rfl (PureD.opD (u_fa rfl rfl Tryd.underlying37 rfl in_9 (Nat.succ_ne_zero _) rfl rfl (ne_of_lt (n := 0) (Nat.lt_of_lt_of_eq (by decide) (Eq.symm (GQuery.len q1)))))) ?_
         refine r_on rfl rfl rfl rfl (bfalse h10) rfl (PureD.opD (u_ld rfl rfl Tryd.underlying9 rfl rfl ((Sub.refl _).trans (GQuery.sub2 q1)))) ?_
         refine r_on rfl rfl rfl rfl (bfalse h10) rfl (PureD.opD (p_seq rfl rfl rfl)) ?_
         refine rp rfl rfl (p_pkf rfl rfl (bfalse h10) (tb ((or_l (p := there7_0 = true) (q := (lrd cols0 t49_0.toNat).Name = q1.Group) h10)))) ?_
         refine rp rfl rfl (p_asg rfl rfl) ?_
         refine rs [(0, .p ((fun q : List GColumn => AV.lst (q.flatMap GColumn.cs) q.length) cols0)), (3, .q 3 (0)), (7, .b (decide ((there7_0 = true) ∨ ((lrd cols0 t49_0.toNat).Name = q1.Group)))), (47, .p ((fun q : List GColumn => AV.lst (q.flatMap GColumn.cs) q.length) cols0)), (48, .i (cols0.length : Int)), (49, .i t49_0)] [(3, .pure (GQuery.cs q1))] rfl rfl rfl ?_
         exact RunW_nil rfl
       ·refine AW2_reg [0, 1] rfl ?_
        refine rp rfl rfl (p_bin rfl rfl rfl rfl) ?_
        refine rp rfl rfl (p_move rfl rfl) ?_
        refine rz [(0, .p ((fun q : List GColumn => AV.lst (q.flatMap GColumn.cs) q.length) cols0)), (3, .q 3 (0)), (7, .b (decide ((there7_0 = true) ∨ ((lrd cols0 t49_0.toNat).Name = q1.Group)))), (47, .p ((fun q : List GColumn => AV.lst (q.flatMap GColumn.cs) q.length) cols0)), (48, .i (cols0.length : Int)), (49, .i (w64 (t49_0 + (1 : Int))))] [(3, .pure (GQuery.cs q1))] rfl rfl rfl ?_
        have hz := some_elim H
        subst hz
        exact ⟨rfl, rfl⟩
      ·replace H := ite_else h8 H
       refine as2 [(0, .p ((fun q : List GColumn => AV.lst (q.flatMap GColumn.cs) q.length) cols0)), (3, .q 3 (0)), (7, .b there7_0)] [(3, .pure (GQuery.cs q1))] rfl rfl rfl ?_
       refine AW2_exit ?_
       refine thenQ2_exit ?_
       have hz := some_elim H
       subst hz
       exact ⟨rfl, rfl⟩
     ·obtain ⟨rfl, rfl⟩ := hs
      refine ⟨by simp, ?_⟩
      refine blockQ2_exit ?_
      refine AW2_seq ?_
      refine sg [0, 1] rfl ?_
      refine rp rfl rfl (p_move rfl rfl) ?_
      refine rp rfl rfl (p_not rfl rfl) ?_
      refine rz [(0, .p ((fun q : List GColumn => AV.lst (q.flatMap GColumn.cs) q.length) cols0)), (3, .q 3 (0)), (63, .b (!y'6))] [(3, .pure (GQuery.cs q1))] rfl rfl rfl ?_
      refine AW2_cond rfl (fun h12 => ?_) (fun h12 => ?_)
      ·replace H := ite_then h12 H
       refine sg [0] rfl ?_
       refine rp rfl rfl (p_asg rfl rfl) ?_
       refine rz [(4, .i (5 : Int))] [] rfl rfl rfl ?_
       refine AW2_ret ?_
       have hz := some_elim H
       subst hz
       exact ⟨⟨res_tmp (.same _), trivial⟩, trivial⟩
      ·replace H := ite_else (ne_true h12) H
       refine as2 [(0, .p ((fun q : List GColumn => AV.lst (q.flatMap GColumn.cs) q.length) cols0)), (3, .q 3 (0))] [(3, .pure (GQuery.cs q1))] rfl rfl rfl ?_
       refine AW2_skip ?_
       refine sg [0] rfl ?_
       refine rp rfl rfl (p_asg rfl rfl) ?_
       refine rz [(0, .p ((fun q : List GColumn => AV.lst (q.flatMap GColumn.cs) q.length) cols0)), (3, .q 3 (0)), (10, .i (0 : Int))] [(3, .pure (GQuery.cs q1))] rfl rfl rfl ?_
       refine AW2_seq ?_
       refine sg [0, 1, 2, 3] rfl ?_
       refine rp rfl rfl (u_fa rfl rfl Tryd.underlying37 rfl in_34 (Nat.succ_ne_zero _) rfl rfl (ne_of_lt (n := 0) (Nat.lt_of_lt_of_eq (by decide) (Eq.symm (GQuery.len q1))))) ?_
       refine rp rfl rfl (u_ld rfl rfl Tryd.underlying34 rfl rfl ((Sub.refl _).trans (GQuery.sub0 q1))) ?_
       refine rp rfl rfl (p_lenl rfl Tryd.underlying34 rfl rfl) ?_
       refine rp rfl rfl (p_move rfl rfl) ?_
       refine rz [(0, .p ((fun q : List GColumn => AV.lst (q.flatMap GColumn.cs) q.length) cols0)), (3, .q 3 (0)), (10, .i (0 : Int)), (65, .p ((fun q : List GItem => AV.lst (q.flatMap GItem.cs) q.length) q1.Items)), (66, .i (q1.Items.length : Int)), (67, .i (0 : Int))] [(3, .pure (GQuery.cs q1))] rfl rfl rfl ?_
       refine AW2_block ?_
       refine as2 [(0, .p ((fun q : List GColumn => AV.lst (q.flatMap GColumn.cs) q.length) cols0)), (3, .q 3 (0)), (10, .i (0 : Int)), (65, .p ((fun q : List GItem => AV.lst (q.flatMap GItem.cs) q.length) q1.Items)), (66, .i (q1.Items.length : Int)), (67, .i (0 : Int))] [(3, .pure (GQuery.cs q1))] rfl rfl rfl ?_
       refine bindK H fun o'14 h19 H => ?_
       refine AW2_loopO (fun a'11 : Int × Int => (⟨[(0, .p ((fun q : List GColumn => AV.lst (q.flatMap GColumn.cs) q.length) cols0)), (3, .q 3 (0)), (10, .i a'11.1), (65, .p ((fun q : List GItem => AV.lst (q.flatMap GItem.cs) q.length) q1.Items)), (66, .i (q1.Items.length : Int)), (67, .i a'11.2)], [(3, .pure (GQuery.cs q1))], 134⟩ : TS)) (fun (o : Int ⊕ Int) e s' => match o with | .inl y'12 => e = Go.Exit.ret ∧ ResAll Tryd.prog s' [ResultVar.tmp 4] [.i y'12] ∧ HFits s' [] | .inr (y'13) => e = Go.Exit.exit 2 ∧ s' = (⟨[(3, .q 3 (0)), (10, .i y'13)], [(3, .pure (GQuery.cs q1))], 134⟩ : TS)) h19 rfl (fun a x hx => ?_) (fun e s' hs => ?_)
       ·clear H
        obtain ⟨plain10_1, t67_1⟩ := a
        have H := hx
        clear hx
        unfold g_query_Check_l1 at H
        refine sg [0] rfl ?_
        refine rp rfl rfl (p_bin rfl rfl rfl rfl) ?_
        refine rz [(0, .p ((fun q : List GColumn => AV.lst (q.flatMap GColumn.cs) q.length) cols0)), (3, .q 3 (0)), (10, .i plain10_1), (65, .p ((fun q : List GItem => AV.lst (q.flatMap GItem.cs) q.length) q1.Items)), (66, .i (q1.Items.length : Int)), (67, .i t67_1), (68, .b (decide (t67_1 < (q1.Items.length : Int))))] [(3, .pure (GQuery.cs q1))] rfl rfl rfl ?_
        refine AW2_seq ?_
        refine AW2_if (p := t67_1 < (q1.Items.length : Int)) rfl (fun h13 => ?_) (fun h13 => ?_)
        ·replace H := ite_then h13 H
         refine as2 [(0, .p ((fun q : List GColumn => AV.lst (q.flatMap GColumn.cs) q.length) cols0)), (3, .q 3 (0)), (10, .i plain10_1), (65, .p ((fun q : List GItem => AV.lst (q.flatMap GItem.cs) q.length) q1.Items)), (66, .i (q1.Items.length : Int)), (67, .i t67_1)] [(3, .pure (GQuery.cs q1))] rfl rfl rfl ?_
         refine AW2_skip ?_
         refine AW2_seq ?_
         refine bindK H fun o'10 h14 H => ?_
         refine AW2_join (fun j'7 : Int => (⟨[(0, .p ((fun q : List GColumn => AV.lst (q.flatMap GColumn.cs) q.length) cols0)), (3, .q 3 (0)), (10, .i j'7), (65, .p ((fun q : List GItem => AV.lst (q.flatMap GItem.cs) q.length) q1.Items)), (66, .i (q1.Items.length : Int)), (67, .i t67_1)], [(3, .pure (GQuery.cs q1))], 134⟩ : TS)) (fun r e s' => e = Go.Exit.ret ∧ ResAll Tryd.prog s' [ResultVar.tmp 4] [.i r] ∧ HFits s' []) (x := o'10) ?_ (fun j'7 hy => ?_) (fun y'9 e s' hy hs => ?_)
         ·clear H
          have H := h14
          clear h14
          refine AW2_block ?_
          refine sg [0, 1, 2, 3] rfl ?_
          refine chkK H fun h15 H => ?_
          refine rp rfl rfl (u_ixl rfl rfl Tryd.underlying34 in_61 rfl rfl (ixe h15) (ixn h15) (fne (fun x => (GItem.len x)) (by decide) (ixn h15))) ?_
          refine rp rfl rfl (u_lda rfl rfl Tryd.underlying61 rfl in_61 rfl (Nat.succ_pos _) (Sub.fm default (fun x => (GItem.len x)) (ixn h15)) (GItem.len (lrd q1.Items t67_1.toNat))) ?_
          refine r_op rfl rfl (MakeD.opD (u_alloc 12 rfl in_61 one_61 zc_61) rfl rfl rfl rfl) ?_
          refine r_op rfl rfl (u_st rfl rfl rfl rfl rfl in_61 (GItem.len (lrd q1.Items t67_1.toNat)) (ne_of_lt (n := 0) (Nat.lt_of_lt_of_eq (by decide) (Eq.symm (GItem.len GItem.zero)))) (Upd.refl ((GItem.len (lrd q1.Items t67_1.toNat)).trans (GItem.len GItem.zero).symm))) ?_
          refine rz [(0, .p ((fun q : List GColumn => AV.lst (q.flatMap GColumn.cs) q.length) cols0)), (3, .q 3 (0)), (10, .i plain10_1), (12, .q 12 (0)), (65, .p ((fun q : List GItem => AV.lst (q.flatMap GItem.cs) q.length) q1.Items)), (66, .i (q1.Items.length : Int)), (67, .i t67_1)] [(3, .pure (GQuery.cs q1)), (12, .pure (GItem.cs (lrd q1.Items t67_1.toNat)))] rfl rfl rfl ?_
          refine AW2_seq ?_
          refine sg [0, 1, 2, 3, 4] rfl ?_
          refine rp rfl rfl (u_lda rfl rfl Tryd.underlying61 rfl in_61 rfl (Nat.succ_pos _) (Sub.refl _) (GItem.len (lrd q1.Items t67_1.toNat))) ?_
          refine rp rfl rfl (p_move rfl rfl) ?_
          refine rp rfl rfl (u_lda rfl rfl Tryd.underlying37 rfl in_37 rfl (Nat.succ_pos _) (Sub.refl _) (GQuery.len q1)) ?_
          refine bindK H fun r'8 h16 H => ?_
          refine rp rfl rfl (p_callp rfl rfl rfl Tryd.func26 rfl rfl (g_query_item_ac h16) ⟨rfl, rfl, rfl, trivial⟩) ?_
          refine rp rfl rfl (p_asg rfl rfl) ?_
          refine rz [(0, .p ((fun q : List GColumn => AV.lst (q.flatMap GColumn.cs) q.length) cols0)), (3, .q 3 (0)), (10, .i plain10_1), (12, .q 12 (0)), (13, .i r'8), (65, .p ((fun q : List GItem => AV.lst (q.flatMap GItem.cs) q.length) q1.Items)), (66, .i (q1.Items.length : Int)), (67, .i t67_1)] [(3, .pure (GQuery.cs q1)), (12, .pure (GItem.cs (lrd q1.Items t67_1.toNat)))] rfl rfl rfl ?_
          refine sg [0, 1] rfl ?_
          refine rp rfl rfl (p_move rfl rfl) ?_
          refine rp rfl rfl (p_ine rfl rfl rfl) ?_
          refine rz [(0, .p ((fun q : List GColumn => AV.lst (q.flatMap GColumn.cs) q.length) cols0)), (3, .q 3 (0)), (10, .i plain10_1), (12, .q 12 (0)), (13, .i r'8), (65, .p ((fun q : List GItem => AV.lst (q.flatMap GItem.cs) q.length) q1.Items)), (66, .i (q1.Items.length : Int)), (67, .i t67_1), (76, .b (decide (r'8 ≠ (0 : Int))))] [(3, .pure (GQuery.cs q1)), (12, .pure (GItem.cs (lrd q1.Items t67_1.toNat)))] rfl rfl rfl ?_
          refine AW2_if (p := r'8 ≠ (0 : Int)) rfl (fun h17 => ?_) (fun h17 => ?_)
          ·replace H := ite_then h17 H
           refine sg [0, 1] rfl ?_
           refine rp rfl rfl (p_move rfl rfl) ?_
           refine rp rfl rfl (p_asg rfl rfl) ?_
           refine rz [(4, .i r'8)] [] rfl rfl rfl ?_
           refine AW2_ret ?_
           have hz := some_elim H
           subst hz
           exact ⟨rfl, ⟨res_tmp (.same _), trivial⟩, trivial⟩
          ·replace H := ite_else h17 H
           refine as2 [(0, .p ((fun q : List GColumn => AV.lst (q.flatMap GColumn.cs) q.length) cols0)), (3, .q 3 (0)), (10, .i plain10_1), (12, .q 12 (0)), (65, .p ((fun q : List GItem => AV.lst (q.flatMap GItem.cs) q.length) q1.Items)), (66, .i (q1.Items.length : Int)), (67, .i t67_1)] [(3, .pure (GQuery.cs q1)), (12, .pure (GItem.cs (lrd q1.Items t67_1.toNat)))] rfl rfl rfl ?_
           refine AW2_skip ?_
           refine sg [0, 1, 2] rfl ?_
           refine rp rfl rfl (u_fa rfl rfl Tryd.underlying61 rfl in_3 (Nat.succ_ne_zero _) rfl rfl (ne_of_lt (n := 0) (Nat.lt_of_lt_of_eq (by decide) (Eq.symm (GItem.len (lrd q1.Items t67_1.toNat)))))) ?_
           refine rp rfl rfl (u_ld rfl rfl Tryd.underlying3 rfl rfl ((Sub.refl _).trans (GItem.sub0 (lrd q1.Items t67_1.toNat)))) ?_
           refine rp rfl rfl (p_ieq rfl rfl rfl) ?_
           refine rz [(0, .p ((fun q : List GColumn => AV.lst (q.flatMap GColumn.cs) q.length) cols0)), (3, .q 3 (0)), (10, .i plain10_1), (65, .p ((fun q : List GItem => AV.lst (q.flatMap GItem.cs) q.length) q1.Items)), (66, .i (q1.Items.length : Int)), (67, .i t67_1), (80, .b (decide ((lrd q1.Items t67_1.toNat).Agg = (0 : Int))))] [(3, .pure (GQuery.cs q1))] rfl rfl rfl ?_
           refine AW2_if (p := (lrd q1.Items t67_1.toNat).Agg = (0 : Int)) rfl (fun h18 => ?_) (fun h18 => ?_)
           ·replace H := ite_then h18 H
            refine AW2_reg [0, 1, 2] rfl ?_
            refine rp rfl rfl (p_move rfl rfl) ?_
            refine rp rfl rfl (p_bin rfl rfl rfl rfl) ?_
            refine rp rfl rfl (p_asg rfl rfl) ?_
            refine rz [(0, .p ((fun q : List GColumn => AV.lst (q.flatMap GColumn.cs) q.length) cols0)), (3, .q 3 (0)), (10, .i (w64 (plain10_1 + (1 : Int)))), (65, .p ((fun q : List GItem => AV.lst (q.flatMap GItem.cs) q.length) q1.Items)), (66, .i (q1.Items.length : Int)), (67, .i t67_1)] [(3, .pure (GQuery.cs q1))] rfl rfl rfl ?_
            have hz := some_elim H
            subst hz
            exact ⟨rfl, rfl⟩
           ·replace H := ite_else h18 H
            refine as2 [(0, .p ((fun q : List GColumn => AV.lst (q.flatMap GColumn.cs) q.length) cols0)), (3, .q 3 (0)), (10, .i plain10_1), (65, .p ((fun q : List GItem => AV.lst (q.flatMap GItem.cs) q.length) q1.Items)), (66, .i (q1.Items.length : Int)), (67, .i t67_1)] [(3, .pure (GQuery.cs q1))] rfl rfl rfl ?_
            refine AW2_skip ?_
            have hz := some_elim H
            subst hz
            exact ⟨rfl, rfl⟩
         ·subst hy
          refine AW2_reg [0, 1] rfl ?_
          refine rp rfl rfl (p_bin rfl rfl rfl rfl) ?_
          refine rp rfl rfl (p_move rfl rfl) ?_
          refine rz [(0, .p ((fun q : List GColumn => AV.lst (q.flatMap GColumn.cs) q.length) cols0)), (3, .q 3 (0)), (10, .i j'7), (65, .p ((fun q : List GItem => AV.lst (q.flatMap GItem.cs) q.length) q1.Items)), (66, .i (q1.Items.length : Int)), (67, .i (w64 (t67_1 + (1 : Int))))] [(3, .pure (GQuery.cs q1))] rfl rfl rfl ?_
          have hz := some_elim H
          subst hz
          exact ⟨rfl, rfl⟩
         ·subst hy
          obtain ⟨rfl, hs⟩ := hs
          have hz := some_elim H
          subst hz
          exact ⟨rfl, hs.1, hs.2⟩
        ·replace H := ite_else h13 H
         refine as2 [(3, .q 3 (0)), (10, .i plain10_1)] [(3, .pure (GQuery.cs q1))] rfl rfl rfl ?_
         refine AW2_exit ?_
         refine thenQ2_exit ?_
         have hz := some_elim H
         subst hz
         exact ⟨rfl, rfl⟩
       ·rcases o'14 with y'15 | y'16
        ·obtain ⟨rfl, hs⟩ := hs
         refine ⟨by simp, ?_⟩
         have hz := some_elim H
         subst hz
         exact ⟨hs.1, hs.2⟩
        ·obtain ⟨rfl, rfl⟩ := hs
         refine ⟨by simp, ?_⟩
         refine blockQ2_exit ?_
         refine AW2_seq ?_
         refine AW2_seq ?_
         refine AW2_mid (⟨[(3, .q 3 (0)), (97, .b (decide (((q1.Group = []) ∧ (y'16 ≠ (0 : Int))) ∧ (y'16 ≠ (q1.Items.length : Int)))))], [(3, .pure (GQuery.cs q1))], 134⟩ : TS) ?_ ?_
         ·refine AW2_reg [0, 1, 2, 3, 4, 5, 6, 7, 8, 9, 10, 11, 12, 13] rfl ?_
          refine rp rfl rfl (u_fa rfl rfl Tryd.underlying37 rfl in_9 (Nat.succ_ne_zero _) rfl rfl (ne_of_lt (n := 0) (Nat.lt_of_lt_of_eq (by decide) (Eq.symm (GQuery.len q1))))) ?_
          refine rp rfl rfl (u_ld rfl rfl Tryd.underlying9 rfl rfl ((Sub.refl _).trans (GQuery.sub2 q1))) ?_
          refine rp rfl rfl (p_seq rfl rfl rfl) ?_
          refine rp rfl rfl (p_move rfl rfl) ?_
          refine (Classical.em (q1.Group = [])).elim (fun h20 => ?_) (fun h20 => ?_)
          ·refine r_on rfl rfl rfl rfl (decide_eq_true h20) rfl (PureD.opD (p_move rfl rfl)) ?_
           refine r_on rfl rfl rfl rfl (decide_eq_true h20) rfl (PureD.opD (p_ine rfl rfl rfl)) ?_
           refine rp rfl rfl (p_pkt rfl rfl (decide_eq_true h20) (tb ((and_l (p := q1.Group = []) (q := y'16 ≠ (0 : Int)) h20)))) ?_
           refine rp rfl rfl (p_move rfl rfl) ?_
           refine (Classical.em (y'16 ≠ (0 : Int))).elim (fun h21 => ?_) (fun h21 => ?_)
           ·have qq4 := decide_eq_true (p := (q1.Group = []) ∧ (y'16 ≠ (0 : Int))) ⟨h20, h21⟩
            refine rn rfl rfl rfl rfl qq4 rfl (p_move rfl rfl) ?_
            refine rn rfl rfl rfl rfl qq4 rfl (u_fa rfl rfl Tryd.underlying37 rfl in_34 (Nat.succ_ne_zero _) rfl rfl (ne_of_lt (n := 0) (Nat.lt_of_lt_of_eq (by decide) (Eq.symm (GQuery.len q1))))) ?_
            refine rn rfl rfl rfl rfl qq4 rfl (u_ld rfl rfl Tryd.underlying34 rfl rfl ((Sub.refl _).trans (GQuery.sub0 q1))) ?_
            refine rn rfl rfl rfl rfl qq4 rfl (p_lenl rfl Tryd.underlying34 rfl rfl) ?_
            refine rn rfl rfl rfl rfl qq4 rfl (p_ine rfl rfl rfl) ?_
            refine rp rfl rfl (p_pkt rfl rfl qq4 (tb ((and_l (p := (q1.Group = []) ∧ (y'16 ≠ (0 : Int))) (q := y'16 ≠ (q1.Items.length : Int)) ⟨h20, h21⟩)))) ?_
            refine rs [(3, .q 3 (0)), (97, .b (decide (((q1.Group = []) ∧ (y'16 ≠ (0 : Int))) ∧ (y'16 ≠ (q1.Items.length : Int)))))] [(3, .pure (GQuery.cs q1))] rfl rfl rfl ?_
            exact RunW_nil rfl
           ·have qq5 := decide_eq_false (p := (q1.Group = []) ∧ (y'16 ≠ (0 : Int))) (fun h => h21 h.2)
            iterate 5 (refine r_off rfl rfl rfl rfl qq5 rfl rfl ?_)
            refine rp rfl rfl (p_pkf rfl rfl qq5 (tb (decide_eq_false (p := ((q1.Group = []) ∧ (y'16 ≠ (0 : Int))) ∧ (y'16 ≠ (q1.Items.length : Int))) (fun x => (fun h => h21 h.2) x.1)).symm)) ?_
            refine rs [(3, .q 3 (0)), (97, .b (decide (((q1.Group = []) ∧ (y'16 ≠ (0 : Int))) ∧ (y'16 ≠ (q1.Items.length : Int)))))] [(3, .pure (GQuery.cs q1))] rfl rfl rfl ?_
            exact RunW_nil rfl
          ·iterate 2 (refine r_off rfl rfl rfl rfl (decide_eq_false h20) rfl rfl ?_)
           refine rp rfl rfl (p_pkf rfl rfl (decide_eq_false h20) (tb (decide_eq_false (p := (q1.Group = []) ∧ (y'16 ≠ (0 : Int))) (fun x => h20 x.1)).symm)) ?_
           refine rp rfl rfl (p_move rfl rfl) ?_
           have qq6 := decide_eq_false (p := (q1.Group = []) ∧ (y'16 ≠ (0 : Int))) (fun h => h20 h.1)
           iterate 5 (refine r_off rfl rfl rfl rfl qq6 rfl rfl ?_)
           refine rp rfl rfl (p_pkf rfl rfl qq6 (tb (decide_eq_false (p := ((q1.Group = []) ∧ (y'16 ≠ (0 : Int))) ∧ (y'16 ≠ (q1.Items.length : Int))) (fun x => (fun h => h20 h.1) x.1)).symm)) ?_
           refine rs [(3, .q 3 (0)), (97, .b (decide (((q1.Group = []) ∧ (y'16 ≠ (0 : Int))) ∧ (y'16 ≠ (q1.Items.length : Int)))))] [(3, .pure (GQuery.cs q1))] rfl rfl rfl ?_
           exact RunW_nil rfl
         ·refine AW2_if (p := ((q1.Group = []) ∧ (y'16 ≠ (0 : Int))) ∧ (y'16 ≠ (q1.Items.length : Int))) rfl (fun h22 => ?_) (fun h22 => ?_)
          ·replace H := ite_then h22 H
           refine sg [0] rfl ?_
           refine rp rfl rfl (p_asg rfl rfl) ?_
           refine rz [(4, .i (3 : Int))] [] rfl rfl rfl ?_
           refine AW2_ret ?_
           have hz := some_elim H
           subst hz
           exact ⟨⟨res_tmp (.same _), trivial⟩, trivial⟩
          ·replace H := ite_else h22 H
           refine as2 [(3, .q 3 (0))] [(3, .pure (GQuery.cs q1))] rfl rfl rfl ?_
           refine AW2_skip ?_
           refine AW2_seq ?_
           refine sg [0, 1, 2, 3] rfl ?_
           refine rp rfl rfl (u_fa rfl rfl Tryd.underlying37 rfl in_35 (Nat.succ_ne_zero _) rfl rfl (ne_of_lt (n := 0) (Nat.lt_of_lt_of_eq (by decide) (Eq.symm (GQuery.len q1))))) ?_
           refine rp rfl rfl (u_ld rfl rfl Tryd.underlying35 rfl rfl ((Sub.refl _).trans (GQuery.sub3 q1))) ?_
           refine rp rfl rfl (p_lenl rfl Tryd.underlying35 rfl rfl) ?_
           refine rp rfl rfl (p_move rfl rfl) ?_
           refine rz [(3, .q 3 (0)), (99, .p ((fun q : List GSort => AV.lst (q.flatMap GSort.cs) q.length) q1.Sorts)), (100, .i (q1.Sorts.length : Int)), (101, .i (0 : Int))] [(3, .pure (GQuery.cs q1))] rfl rfl rfl ?_
           refine AW2_block ?_
           refine as2 [(3, .q 3 (0)), (99, .p ((fun q : List GSort => AV.lst (q.flatMap GSort.cs) q.length) q1.Sorts)), (100, .i (q1.Sorts.length : Int)), (101, .i (0 : Int))] [(3, .pure (GQuery.cs q1))] rfl rfl rfl ?_
           refine bindK H fun o'20 h27 H => ?_
           refine AW2_loopO (fun a'17 : Int => (⟨[(3, .q 3 (0)), (99, .p ((fun q : List GSort => AV.lst (q.flatMap GSort.cs) q.length) q1.Sorts)), (100, .i (q1.Sorts.length : Int)), (101, .i a'17)], [(3, .pure (GQuery.cs q1))], 134⟩ : TS)) (fun (o : Int ⊕ Unit) e s' => match o with | .inl y'18 => e = Go.Exit.ret ∧ ResAll Tryd.prog s' [ResultVar.tmp 4] [.i y'18] ∧ HFits s' [] | .inr (y'19) => e = Go.Exit.exit 4 ∧ s' = (⟨[(3, .q 3 (0))], [(3, .pure (GQuery.cs q1))], 134⟩ : TS)) h27 rfl (fun t101_2 x hx => ?_) (fun e s' hs => ?_)
           ·clear H
            have H := hx
            clear hx
            unfold g_query_Check_l2 at H
            refine sg [0] rfl ?_
            refine rp rfl rfl (p_bin rfl rfl rfl rfl) ?_
            refine rz [(3, .q 3 (0)), (99, .p ((fun q : List GSort => AV.lst (q.flatMap GSort.cs) q.length) q1.Sorts)), (100, .i (q1.Sorts.length : Int)), (101, .i t101_2), (102, .b (decide (t101_2 < (q1.Sorts.length : Int))))] [(3, .pure (GQuery.cs q1))] rfl rfl rfl ?_
            refine AW2_seq ?_
            refine AW2_if (p := t101_2 < (q1.Sorts.length : Int)) rfl (fun h23 => ?_) (fun h23 => ?_)
            ·replace H := ite_then h23 H
             refine as2 [(3, .q 3 (0)), (99, .p ((fun q : List GSort => AV.lst (q.flatMap GSort.cs) q.length) q1.Sorts)), (100, .i (q1.Sorts.length : Int)), (101, .i t101_2)] [(3, .pure (GQuery.cs q1))] rfl rfl rfl ?_
             refine AW2_skip ?_
             refine AW2_seq ?_
             refine AW2_block ?_
             refine sg [0, 1, 2, 3] rfl ?_
             refine chkK H fun h24 H => ?_
             refine rp rfl rfl (u_ixl rfl rfl Tryd.underlying35 in_64 rfl rfl (ixe h24) (ixn h24) (fne (fun x => (GSort.len x)) (by decide) (ixn h24))) ?_
             refine rp rfl rfl (u_lda rfl rfl Tryd.underlying64 rfl in_64 rfl (Nat.succ_pos _) (Sub.fm default (fun x => (GSort.len x)) (ixn h24)) (GSort.len (lrd q1.Sorts t101_2.toNat))) ?_
             refine r_op rfl rfl (MakeD.opD (u_alloc 15 rfl in_64 one_64 zc_64) rfl rfl rfl rfl) ?_
             refine r_op rfl rfl (u_st rfl rfl rfl rfl rfl in_64 (GSort.len (lrd q1.Sorts t101_2.toNat)) (ne_of_lt (n := 0) (Nat.lt_of_lt_of_eq (by decide) (Eq.symm (GSort.len GSort.zero)))) (Upd.refl ((GSort.len (lrd q1.Sorts t101_2.toNat)).trans (GSort.len GSort.zero).symm))) ?_
             refine rz [(3, .q 3 (0)), (15, .q 15 (0)), (99, .p ((fun q : List GSort => AV.lst (q.flatMap GSort.cs) q.length) q1.Sorts)), (100, .i (q1.Sorts.length : Int)), (101, .i t101_2)] [(3, .pure (GQuery.cs q1)), (15, .pure (GSort.cs (lrd q1.Sorts t101_2.toNat)))] rfl rfl rfl ?_
             refine AW2_seq ?_
             refine AW2_mid (⟨[(3, .q 3 (0)), (99, .p ((fun q : List GSort => AV.lst (q.flatMap GSort.cs) q.length) q1.Sorts)), (100, .i (q1.Sorts.length : Int)), (101, .i t101_2), (115, .b (decide (((lrd q1.Sorts t101_2.toNat).Item < (1 : Int)) ∨ ((lrd q1.Sorts t101_2.toNat).Item > (q1.Items.length : Int)))))], [(3, .pure (GQuery.cs q1))], 134⟩ : TS) ?_ ?_
             ·refine AW2_reg [0, 1, 2, 3, 4, 5, 6, 7, 8, 9, 10] rfl ?_
              refine rp rfl rfl (u_fa rfl rfl Tryd.underlying64 rfl in_3 (Nat.succ_ne_zero _) rfl rfl (ne_of_lt (n := 0) (Nat.lt_of_lt_of_eq (by decide) (Eq.symm (GSort.len (lrd q1.Sorts t101_2.toNat)))))) ?_
              refine rp rfl rfl (u_ld rfl rfl Tryd.underlying3 rfl rfl ((Sub.refl _).trans (GSort.sub0 (lrd q1.Sorts t101_2.toNat)))) ?_
              refine rp rfl rfl (p_bin rfl rfl rfl rfl) ?_
              refine rp rfl rfl (p_move rfl rfl) ?_
              refine (Classical.em ((lrd q1.Sorts t101_2.toNat).Item < (1 : Int))).elim (fun h25 => ?_) (fun h25 => ?_)
              ·iterate 6 (refine r_off rfl rfl rfl rfl (decide_eq_true h25) rfl rfl ?_)
               refine rp rfl rfl (p_pkt rfl rfl (decide_eq_true h25) (tb (decide_eq_true (p := ((lrd q1.Sorts t101_2.toNat).Item < (1 : Int)) ∨ ((lrd q1.Sorts t101_2.toNat).Item > (q1.Items.length : Int))) (Or.inl h25)).symm)) ?_
               refine rs [(3, .q 3 (0)), (99, .p ((fun q : List GSort => AV.lst (q.flatMap GSort.cs) q.length) q1.Sorts)), (100, .i (q1.Sorts.length : Int)), (101, .i t101_2), (115, .b (decide (((lrd q1.Sorts t101_2.toNat).Item < (1 : Int)) ∨ ((lrd q1.Sorts t101_2.toNat).Item > (q1.Items.length : Int)))))] [(3, .pure (GQuery.cs q1))] rfl rfl rfl ?_
               exact RunW_nil rfl
              ·refine r_on rfl rfl rfl rfl (decide_eq_false h25) rfl (PureD.opD (u_fa rfl rfl Tryd.underlying64 rfl in_3 (Nat.succ_ne_zero _) rfl rfl (ne_of_lt (n := 0) (Nat.lt_of_lt_of_eq (by decide) (Eq.symm (GSort.len (lrd q1.Sorts t101_2.toNat))))))) ?_
               refine r_on rfl rfl rfl rfl (decide_eq_false h25) rfl (PureD.opD (u_ld rfl rfl Tryd.underlying3 rfl rfl ((Sub.refl _).trans (GSort.sub0 (lrd q1.Sorts t101_2.toNat))))) ?_
               refine r_on rfl rfl rfl rfl (decide_eq_false h25) rfl (PureD.opD (u_fa rfl rfl Tryd.underlying37 rfl in_34 (Nat.succ_ne_zero _) rfl rfl (ne_of_lt (n := 0) (Nat.lt_of_lt_of_eq (by decide) (Eq.symm (GQuery.len q1)))))) ?_
               refine r_on rfl rfl rfl rfl (decide_eq_false h25) rfl (PureD.opD (u_ld rfl rfl Tryd.underlying34 rfl rfl ((Sub.refl _).trans (GQuery.sub0 q1)))) ?_
               refine r_on rfl rfl rfl rfl (decide_eq_false h25) rfl (PureD.opD (p_lenl rfl Tryd.underlying34 rfl rfl)) ?_
               refine r_on rfl rfl rfl rfl (decide_eq_false h25) rfl (PureD.opD (p_bin rfl rfl rfl rfl)) ?_
               refine rp rfl rfl (p_pkf rfl rfl (decide_eq_false h25) (tb ((or_l (p := (lrd q1.Sorts t101_2.toNat).Item < (1 : Int)) (q := (lrd q1.Sorts t101_2.toNat).Item > (q1.Items.length : Int)) h25)))) ?_
               refine rs [(3, .q 3 (0)), (99, .p ((fun q : List GSort => AV.lst (q.flatMap GSort.cs) q.length) q1.Sorts)), (100, .i (q1.Sorts.length : Int)), (101, .i t101_2), (115, .b (decide (((lrd q1.Sorts t101_2.toNat).Item < (1 : Int)) ∨ ((lrd q1.Sorts t101_2.toNat).Item > (q1.Items.length : Int)))))] [(3, .pure (GQuery.cs q1))] rfl rfl rfl ?_
               exact RunW_nil rfl
             ·refine AW2_if (p := ((lrd q1.Sorts t101_2.toNat).Item < (1 : Int)) ∨ ((lrd q1.Sorts t101_2.toNat).Item > (q1.Items.length : Int))) rfl (fun h26 => ?_) (fun h26 => ?_)
              ·replace H := ite_then h26 H
               refine sg [0] rfl ?_
               refine rp rfl rfl (p_asg rfl rfl) ?_
               refine rz [(4, .i (6 : Int))] [] rfl rfl rfl ?_
               refine AW2_ret ?_
               have hz := some_elim H
               subst hz
               exact ⟨rfl, ⟨res_tmp (.same _), trivial⟩, trivial⟩
              ·replace H := ite_else h26 H
               refine as2 [(3, .q 3 (0)), (99, .p ((fun q : List GSort => AV.lst (q.flatMap GSort.cs) q.length) q1.Sorts)), (100, .i (q1.Sorts.length : Int)), (101, .i t101_2)] [(3, .pure (GQuery.cs q1))] rfl rfl rfl ?_
               refine AW2_skip ?_
               refine AW2_reg [0, 1] rfl ?_
               refine rp rfl rfl (p_bin rfl rfl rfl rfl) ?_
               refine rp rfl rfl (p_move rfl rfl) ?_
               refine rz [(3, .q 3 (0)), (99, .p ((fun q : List GSort => AV.lst (q.flatMap GSort.cs) q.length) q1.Sorts)), (100, .i (q1.Sorts.length : Int)), (101, .i (w64 (t101_2 + (1 : Int))))] [(3, .pure (GQuery.cs q1))] rfl rfl rfl ?_
               have hz := some_elim H
               subst hz
               exact ⟨rfl, rfl⟩
            ·replace H := ite_else h23 H
             refine as2 [(3, .q 3 (0))] [(3, .pure (GQuery.cs q1))] rfl rfl rfl ?_
             refine AW2_exit ?_
             refine thenQ2_exit ?_
             have hz := some_elim H
             subst hz
             exact ⟨rfl, rfl⟩
           ·rcases o'20 with y'21 | y'22
            ·obtain ⟨rfl, hs⟩ := hs
             refine ⟨by simp, ?_⟩
             have hz := some_elim H
             subst hz
             exact ⟨hs.1, hs.2⟩
            ·obtain ⟨rfl, rfl⟩ := hs
             refine ⟨by simp, ?_⟩
             refine blockQ2_exit ?_
             refine AW2_seq ?_
             refine AW2_seq ?_
             refine AW2_mid (⟨[(133, .b (decide (((q1.Cut = true) ∧ (q1.Most < (0 : Int))) ∨ (((!q1.Cut) = true) ∧ (q1.Most ≠ (0 : Int))))))], [], 134⟩ : TS) ?_ ?_
             ·refine AW2_reg [0, 1, 2, 3, 4, 5, 6, 7, 8, 9, 10, 11, 12, 13, 14, 15, 16] rfl ?_
              refine rp rfl rfl (u_fa rfl rfl Tryd.underlying37 rfl in_4 (Nat.succ_ne_zero _) rfl rfl (ne_of_lt (n := 0) (Nat.lt_of_lt_of_eq (by decide) (Eq.symm (GQuery.len q1))))) ?_
              refine rp rfl rfl (u_ld rfl rfl Tryd.underlying4 rfl rfl ((Sub.refl _).trans (GQuery.sub4 q1))) ?_
              refine rp rfl rfl (p_move rfl rfl) ?_
              refine (Classical.em (q1.Cut = true)).elim (fun h28 => ?_) (fun h28 => ?_)
              ·refine rn rfl rfl rfl rfl h28 rfl (u_fa rfl rfl Tryd.underlying37 rfl in_3 (Nat.succ_ne_zero _) rfl rfl (ne_of_lt (n := 0) (Nat.lt_of_lt_of_eq (by decide) (Eq.symm (GQuery.len q1))))) ?_
               refine rn rfl rfl rfl rfl h28 rfl (u_ld rfl rfl Tryd.underlying3 rfl rfl ((Sub.refl _).trans (GQuery.sub5 q1))) ?_
               refine rn rfl rfl rfl rfl h28 rfl (p_bin rfl rfl rfl rfl) ?_
               refine rp rfl rfl (p_pkt rfl rfl h28 (tb ((and_l (p := q1.Cut = true) (q := q1.Most < (0 : Int)) h28)))) ?_
               refine rp rfl rfl (p_move rfl rfl) ?_
               refine (Classical.em (q1.Most < (0 : Int))).elim (fun h29 => ?_) (fun h29 => ?_)
               ·have qq7 := decide_eq_true (p := (q1.Cut = true) ∧ (q1.Most < (0 : Int))) ⟨h28, h29⟩
                iterate 4 (refine r_off rfl rfl rfl rfl qq7 rfl rfl ?_)
                iterate 3 (refine r_off2 rfl rfl rfl rfl rfl rfl ?_)
                refine r_off rfl rfl rfl rfl qq7 rfl rfl ?_
                refine rp rfl rfl (p_pkt rfl rfl qq7 (tb (decide_eq_true (p := ((q1.Cut = true) ∧ (q1.Most < (0 : Int))) ∨ (((!q1.Cut) = true) ∧ (q1.Most ≠ (0 : Int)))) (Or.inl ⟨h28, h29⟩)).symm)) ?_
                refine rs [(133, .b (decide (((q1.Cut = true) ∧ (q1.Most < (0 : Int))) ∨ (((!q1.Cut) = true) ∧ (q1.Most ≠ (0 : Int))))))] [] rfl rfl rfl ?_
                exact RunW_nil rfl
               ·have qq8 := decide_eq_false (p := (q1.Cut = true) ∧ (q1.Most < (0 : Int))) (fun h => h29 h.2)
                refine rn rfl rfl rfl rfl qq8 rfl (u_fa rfl rfl Tryd.underlying37 rfl in_4 (Nat.succ_ne_zero _) rfl rfl (ne_of_lt (n := 0) (Nat.lt_of_lt_of_eq (by decide) (Eq.symm (GQuery.len q1))))) ?_
                refine rn rfl rfl rfl rfl qq8 rfl (u_ld rfl rfl Tryd.underlying4 rfl rfl ((Sub.refl _).trans (GQuery.sub4 q1))) ?_
                refine rn rfl rfl rfl rfl qq8 rfl (p_not rfl rfl) ?_
                refine rn rfl rfl rfl rfl qq8 rfl (p_move rfl rfl) ?_
                refine (Classical.em ((!q1.Cut) = true)).elim (fun h30 => ?_) (fun h30 => ?_)
                ·refine rn rfl rfl rfl rfl h30 rfl (u_fa rfl rfl Tryd.underlying37 rfl in_3 (Nat.succ_ne_zero _) rfl rfl (ne_of_lt (n := 0) (Nat.lt_of_lt_of_eq (by decide) (Eq.symm (GQuery.len q1))))) ?_
                 refine rn rfl rfl rfl rfl h30 rfl (u_ld rfl rfl Tryd.underlying3 rfl rfl ((Sub.refl _).trans (GQuery.sub5 q1))) ?_
                 refine rn rfl rfl rfl rfl h30 rfl (p_ine rfl rfl rfl) ?_
                 refine rn rfl rfl rfl rfl qq8 rfl (p_pkt rfl rfl h30 (tb ((and_l (p := (!q1.Cut) = true) (q := q1.Most ≠ (0 : Int)) h30)))) ?_
                 refine rp rfl rfl (p_pkf rfl rfl qq8 (tb ((or_l (p := (q1.Cut = true) ∧ (q1.Most < (0 : Int))) (q := ((!q1.Cut) = true) ∧ (q1.Most ≠ (0 : Int))) (fun h => h29 h.2))))) ?_
                 refine rs [(133, .b (decide (((q1.Cut = true) ∧ (q1.Most < (0 : Int))) ∨ (((!q1.Cut) = true) ∧ (q1.Most ≠ (0 : Int))))))] [] rfl rfl rfl ?_
                 exact RunW_nil rfl
                ·iterate 3 (refine r_off rfl rfl rfl rfl (bfalse h30) rfl rfl ?_)
                 refine rn rfl rfl rfl rfl qq8 rfl (p_pkf rfl rfl (bfalse h30) (tb (decide_eq_false (p := ((!q1.Cut) = true) ∧ (q1.Most ≠ (0 : Int))) (fun x => h30 x.1)).symm)) ?_
                 refine rp rfl rfl (p_pkf rfl rfl qq8 (tb ((or_l (p := (q1.Cut = true) ∧ (q1.Most < (0 : Int))) (q := ((!q1.Cut) = true) ∧ (q1.Most ≠ (0 : Int))) (fun h => h29 h.2))))) ?_
                 refine rs [(133, .b (decide (((q1.Cut = true) ∧ (q1.Most < (0 : Int))) ∨ (((!q1.Cut) = true) ∧ (q1.Most ≠ (0 : Int))))))] [] rfl rfl rfl ?_
                 exact RunW_nil rfl
              ·iterate 3 (refine r_off rfl rfl rfl rfl (bfalse h28) rfl rfl ?_)
               refine rp rfl rfl (p_pkf rfl rfl (bfalse h28) (tb (decide_eq_false (p := (q1.Cut = true) ∧ (q1.Most < (0 : Int))) (fun x => h28 x.1)).symm)) ?_
               refine rp rfl rfl (p_move rfl rfl) ?_
               have qq9 := decide_eq_false (p := (q1.Cut = true) ∧ (q1.Most < (0 : Int))) (fun h => h28 h.1)
               refine rn rfl rfl rfl rfl qq9 rfl (u_fa rfl rfl Tryd.underlying37 rfl in_4 (Nat.succ_ne_zero _) rfl rfl (ne_of_lt (n := 0) (Nat.lt_of_lt_of_eq (by decide) (Eq.symm (GQuery.len q1))))) ?_
               refine rn rfl rfl rfl rfl qq9 rfl (u_ld rfl rfl Tryd.underlying4 rfl rfl ((Sub.refl _).trans (GQuery.sub4 q1))) ?_
               refine rn rfl rfl rfl rfl qq9 rfl (p_not rfl rfl) ?_
               refine rn rfl rfl rfl rfl qq9 rfl (p_move rfl rfl) ?_
               refine (Classical.em ((!q1.Cut) = true)).elim (fun h31 => ?_) (fun h31 => ?_)
               ·refine rn rfl rfl rfl rfl h31 rfl (u_fa rfl rfl Tryd.underlying37 rfl in_3 (Nat.succ_ne_zero _) rfl rfl (ne_of_lt (n := 0) (Nat.lt_of_lt_of_eq (by decide) (Eq.symm (GQuery.len q1))))) ?_
                refine rn rfl rfl rfl rfl h31 rfl (u_ld rfl rfl Tryd.underlying3 rfl rfl ((Sub.refl _).trans (GQuery.sub5 q1))) ?_
                refine rn rfl rfl rfl rfl h31 rfl (p_ine rfl rfl rfl) ?_
                refine rn rfl rfl rfl rfl qq9 rfl (p_pkt rfl rfl h31 (tb ((and_l (p := (!q1.Cut) = true) (q := q1.Most ≠ (0 : Int)) h31)))) ?_
                refine rp rfl rfl (p_pkf rfl rfl qq9 (tb ((or_l (p := (q1.Cut = true) ∧ (q1.Most < (0 : Int))) (q := ((!q1.Cut) = true) ∧ (q1.Most ≠ (0 : Int))) (fun h => h28 h.1))))) ?_
                refine rs [(133, .b (decide (((q1.Cut = true) ∧ (q1.Most < (0 : Int))) ∨ (((!q1.Cut) = true) ∧ (q1.Most ≠ (0 : Int))))))] [] rfl rfl rfl ?_
                exact RunW_nil rfl
               ·iterate 3 (refine r_off rfl rfl rfl rfl (bfalse h31) rfl rfl ?_)
                refine rn rfl rfl rfl rfl qq9 rfl (p_pkf rfl rfl (bfalse h31) (tb (decide_eq_false (p := ((!q1.Cut) = true) ∧ (q1.Most ≠ (0 : Int))) (fun x => h31 x.1)).symm)) ?_
                refine rp rfl rfl (p_pkf rfl rfl qq9 (tb ((or_l (p := (q1.Cut = true) ∧ (q1.Most < (0 : Int))) (q := ((!q1.Cut) = true) ∧ (q1.Most ≠ (0 : Int))) (fun h => h28 h.1))))) ?_
                refine rs [(133, .b (decide (((q1.Cut = true) ∧ (q1.Most < (0 : Int))) ∨ (((!q1.Cut) = true) ∧ (q1.Most ≠ (0 : Int))))))] [] rfl rfl rfl ?_
                exact RunW_nil rfl
             ·refine AW2_if (p := ((q1.Cut = true) ∧ (q1.Most < (0 : Int))) ∨ (((!q1.Cut) = true) ∧ (q1.Most ≠ (0 : Int)))) rfl (fun h32 => ?_) (fun h32 => ?_)
              ·replace H := ite_then h32 H
               refine sg [0] rfl ?_
               refine rp rfl rfl (p_asg rfl rfl) ?_
               refine rz [(4, .i (6 : Int))] [] rfl rfl rfl ?_
               refine AW2_ret ?_
               have hz := some_elim H
               subst hz
               exact ⟨⟨res_tmp (.same _), trivial⟩, trivial⟩
              ·replace H := ite_else h32 H
               refine as2 [] [] rfl rfl rfl ?_
               refine AW2_skip ?_
               refine sg [0] rfl ?_
               refine rp rfl rfl (p_asg rfl rfl) ?_
               refine rz [(4, .i (0 : Int))] [] rfl rfl rfl ?_
               refine AW2_ret ?_
               have hz := some_elim H
               subst hz
               exact ⟨⟨res_tmp (.same _), trivial⟩, trivial⟩

/-! chirographref.among -/
noncomputable def g_ref_among_l0 (c0 : UInt8) (l1 : List UInt8) : Int → Option (Int ⊕ (Bool ⊕ Unit))
  | i5_0 => (if i5_0 < (l1.length : Int) then if 0 ≤ i5_0 ∧ i5_0 < (l1.length : Int) then (if (lrd l1 i5_0.toNat) = c0 then some (.inr (.inl true)) else some (.inl (w64 (i5_0 + (1 : Int))))) else none else some (.inr (.inr ())))
noncomputable def g_ref_among (c0 : UInt8) (l1 : List UInt8) : Option (Bool) :=
  (loopO (g_ref_among_l0 c0 l1) (0 : Int)).bind fun o'4 => match o'4 with | .inl y'5 => some y'5 | .inr (y'6) => some false
set_option maxHeartbeats 4000000 in
set_option maxRecDepth 100000 in
theorem g_ref_among_ac {c0 : UInt8} {l1 : List UInt8} {r : Bool} (H : g_ref_among c0 l1 = some r) : ACp Tryd.prog 72 [(AV.b8 c0), (AV.txt l1)] (AV.bool r) := by
 refine ACp_of (AC2_of_body (vs := [.b r]) Tryd.func72 rfl rfl (Nat.le_of_ble_eq_true rfl) rfl ?_) (fun _ => .same _)
 unfold g_ref_among at H
 refine as2 [(0, .p (AV.b8 c0)), (1, .t l1)] [] rfl rfl rfl ?_
 refine sg [0] rfl ?_
 refine rp rfl rfl (p_asg rfl rfl) ?_
 refine rz [(0, .p (AV.b8 c0)), (1, .t l1)] [] rfl rfl rfl ?_
 refine AW2_seq ?_
 refine sg [0] rfl ?_
 refine rp rfl rfl (p_asg rfl rfl) ?_
 refine rz [(0, .p (AV.b8 c0)), (1, .t l1), (5, .i (0 : Int))] [] rfl rfl rfl ?_
 refine AW2_block ?_
 refine as2 [(0, .p (AV.b8 c0)), (1, .t l1), (5, .i (0 : Int))] [] rfl rfl rfl ?_
 refine bindK H fun o'4 h4 H => ?_
 refine AW2_loopO (fun a'1 : Int => (⟨[(0, .p (AV.b8 c0)), (1, .t l1), (5, .i a'1)], [], 17⟩ : TS)) (fun (o : Bool ⊕ Unit) e s' => match o with | .inl y'2 => e = Go.Exit.ret ∧ ResAll Tryd.prog s' [ResultVar.tmp 4] [.b y'2] ∧ HFits s' [] | .inr (y'3) => e = Go.Exit.exit 0 ∧ s' = (⟨[], [], 17⟩ : TS)) h4 rfl (fun i5_0 x hx => ?_) (fun e s' hs => ?_)
 ·clear H
  have H := hx
  clear hx
  unfold g_ref_among_l0 at H
  refine AW2_seq ?_
  refine sg [0, 1, 2, 3] rfl ?_
  refine rp rfl rfl (p_move rfl rfl) ?_
  refine rp rfl rfl (p_move rfl rfl) ?_
  refine rp rfl rfl (p_lent rfl Tryd.underlying9 rfl) ?_
  refine rp rfl rfl (p_bin rfl rfl rfl rfl) ?_
  refine rz [(0, .p (AV.b8 c0)), (1, .t l1), (5, .i i5_0), (9, .b (decide (i5_0 < (l1.length : Int))))] [] rfl rfl rfl ?_
  refine AW2_if (p := i5_0 < (l1.length : Int)) rfl (fun h1 => ?_) (fun h1 => ?_)
  ·replace H := ite_then h1 H
   refine as2 [(0, .p (AV.b8 c0)), (1, .t l1), (5, .i i5_0)] [] rfl rfl rfl ?_
   refine AW2_skip ?_
   refine AW2_seq ?_
   refine AW2_block ?_
   refine sg [0, 1, 2, 3, 4] rfl ?_
   refine rp rfl rfl (p_move rfl rfl) ?_
   refine rp rfl rfl (p_move rfl rfl) ?_
   refine chkK H fun h2 H => ?_
   refine rp rfl rfl (p_ixt rfl Tryd.underlying9 rfl rfl (ixe h2) (lrd_get (ixn h2))) ?_
   refine rp rfl rfl (p_move rfl rfl) ?_
   refine rp rfl rfl (p_u8eq (a := (lrd l1 i5_0.toNat)) (b := c0) rfl rfl rfl) ?_
   refine rz [(0, .p (AV.b8 c0)), (1, .t l1), (5, .i i5_0), (16, .b (decide ((lrd l1 i5_0.toNat) = c0)))] [] rfl rfl rfl ?_
   refine AW2_if (p := (lrd l1 i5_0.toNat) = c0) rfl (fun h3 => ?_) (fun h3 => ?_)
   ·replace H := ite_then h3 H
    refine sg [0] rfl ?_
    refine rp rfl rfl (p_asg rfl rfl) ?_
    refine rz [(4, .b true)] [] rfl rfl rfl ?_
    refine AW2_ret ?_
    have hz := some_elim H
    subst hz
    exact ⟨rfl, ⟨res_tmp (.same _), trivial⟩, trivial⟩
   ·replace H := ite_else h3 H
    refine as2 [(0, .p (AV.b8 c0)), (1, .t l1), (5, .i i5_0)] [] rfl rfl rfl ?_
    refine AW2_skip ?_
    refine AW2_reg [0, 1, 2] rfl ?_
    refine rp rfl rfl (p_move rfl rfl) ?_
    refine rp rfl rfl (p_bin rfl rfl rfl rfl) ?_
    refine rp rfl rfl (p_asg rfl rfl) ?_
    refine rz [(0, .p (AV.b8 c0)), (1, .t l1), (5, .i (w64 (i5_0 + (1 : Int))))] [] rfl rfl rfl ?_
    have hz := some_elim H
    subst hz
    exact ⟨rfl, rfl⟩
  ·replace H := ite_else h1 H
   refine as2 [] [] rfl rfl rfl ?_
   refine AW2_exit ?_
   refine thenQ2_exit ?_
   have hz := some_elim H
   subst hz
   exact ⟨rfl, rfl⟩
 ·rcases o'4 with y'5 | y'6
  ·obtain ⟨rfl, hs⟩ := hs
   refine ⟨by simp, ?_⟩
   have hz := some_elim H
   subst hz
   exact ⟨hs.1, hs.2⟩
  ·obtain ⟨rfl, rfl⟩ := hs
   refine ⟨by simp, ?_⟩
   refine blockQ2_exit ?_
   refine sg [0] rfl ?_
   refine rp rfl rfl (p_asg rfl rfl) ?_
   refine rz [(4, .b false)] [] rfl rfl rfl ?_
   refine AW2_ret ?_
   have hz := some_elim H
   subst hz
   exact ⟨⟨res_tmp (.same _), trivial⟩, trivial⟩

/-! chirographref.reach -/
noncomputable def g_ref_reach_l0 (s0 : List UInt8) (l1 : List UInt8) : Int → Option (Int ⊕ (Int))
  | n5_0 => ((if n5_0 < (s0.length : Int) then if 0 ≤ n5_0 ∧ n5_0 < (s0.length : Int) then (g_ref_among (lrd s0 n5_0.toNat) l1).bind fun r'1 => some r'1 else none else some false)).bind fun g'2 => (if g'2 = true then some (.inl (w64 (n5_0 + (1 : Int)))) else some (.inr n5_0))
noncomputable def g_ref_reach (s0 : List UInt8) (l1 : List UInt8) : Option (Int) :=
  (loopO (g_ref_reach_l0 s0 l1) (0 : Int)).bind fun y'6 => some y'6
set_option maxHeartbeats 4000000 in
set_option maxRecDepth 100000 in
theorem g_ref_reach_ac {s0 : List UInt8} {l1 : List UInt8} {r : Int} (H : g_ref_reach s0 l1 = some r) : ACp Tryd.prog 73 [(AV.txt s0), (AV.txt l1)] (AV.int r) := by
 refine ACp_of (AC2_of_body (vs := [.i r]) Tryd.func73 rfl rfl (Nat.le_of_ble_eq_true rfl) rfl ?_) (fun _ => .same _)
 unfold g_ref_reach at H
 refine as2 [(0, .t s0), (1, .t l1)] [] rfl rfl rfl ?_
 refine sg [0] rfl ?_
 refine rp rfl rfl (p_asg rfl rfl) ?_
 refine rz [(0, .t s0), (1, .t l1)] [] rfl rfl rfl ?_
 refine sg [0] rfl ?_
 refine rp rfl rfl (p_asg rfl rfl) ?_
 refine rz [(0, .t s0), (1, .t l1), (5, .i (0 : Int))] [] rfl rfl rfl ?_
 refine AW2_seq ?_
 refine AW2_block ?_
 refine as2 [(0, .t s0), (1, .t l1), (5, .i (0 : Int))] [] rfl rfl rfl ?_
 refine bindK H fun y'6 h8 H => ?_
 refine AW2_loopO (fun a'3 : Int => (⟨[(0, .t s0), (1, .t l1), (5, .i a'3)], [], 20⟩ : TS)) (fun (y'4 : Int) e s' => e = Go.Exit.exit 0 ∧ s' = (⟨[(5, .i y'4)], [], 20⟩ : TS)) h8 rfl (fun n5_0 x hx => ?_) (fun e s' hs => ?_)
 ·clear H
  have H := hx
  clear hx
  unfold g_ref_reach_l0 at H
  refine AW2_seq ?_
  refine AW2_seq ?_
  refine bindK H fun g'2 h5 H => ?_
  refine AW2_mid (⟨[(0, .t s0), (1, .t l1), (5, .i n5_0), (16, .b g'2)], [], 20⟩ : TS) ?_ ?_
  ·clear H
   have H := h5
   clear h5
   refine AW2_reg [0, 1, 2, 3, 4, 5, 6, 7, 8, 9, 10] rfl ?_
   refine rp rfl rfl (p_move rfl rfl) ?_
   refine rp rfl rfl (p_move rfl rfl) ?_
   refine rp rfl rfl (p_lent rfl Tryd.underlying9 rfl) ?_
   refine rp rfl rfl (p_bin rfl rfl rfl rfl) ?_
   refine rp rfl rfl (p_move rfl rfl) ?_
   refine (Classical.em (n5_0 < (s0.length : Int))).elim (fun h2 => ?_) (fun h2 => ?_)
   ·replace H := ite_then h2 H
    refine r_on rfl rfl rfl rfl (decide_eq_true h2) rfl (PureD.opD (p_move rfl rfl)) ?_
    refine r_on rfl rfl rfl rfl (decide_eq_true h2) rfl (PureD.opD (p_move rfl rfl)) ?_
    refine chkK H fun h3 H => ?_
    refine r_on rfl rfl rfl rfl (decide_eq_true h2) rfl (PureD.opD (p_ixt rfl Tryd.underlying9 rfl rfl (ixe h3) (lrd_get (ixn h3)))) ?_
    refine r_on rfl rfl rfl rfl (decide_eq_true h2) rfl (PureD.opD (p_move rfl rfl)) ?_
    refine bindK H fun r'1 h4 H => ?_
    refine r_on rfl rfl rfl rfl (decide_eq_true h2) rfl (PureD.opD (p_callp rfl rfl rfl Tryd.func72 rfl rfl (g_ref_among_ac h4) ⟨rfl, rfl, trivial⟩)) ?_
    refine rp rfl rfl (p_pkt rfl rfl (decide_eq_true h2) (.same _)) ?_
    refine rs [(0, .t s0), (1, .t l1), (5, .i n5_0), (16, .b r'1)] [] rfl rfl rfl ?_
    have hz := some_elim H
    subst hz
    exact RunW_nil rfl
   ·replace H := ite_else h2 H
    refine r_off rfl rfl rfl rfl (decide_eq_false h2) rfl rfl ?_
    refine r_off rfl rfl rfl rfl (decide_eq_false h2) rfl rfl ?_
    refine r_off rfl rfl rfl rfl (decide_eq_false h2) rfl rfl ?_
    refine r_off rfl rfl rfl rfl (decide_eq_false h2) rfl rfl ?_
    refine r_off rfl rfl rfl rfl (decide_eq_false h2) rfl rfl ?_
    refine rp rfl rfl (p_pkf rfl rfl (decide_eq_false h2) (.same _)) ?_
    refine rs [(0, .t s0), (1, .t l1), (5, .i n5_0), (16, .b false)] [] rfl rfl rfl ?_
    have hz := some_elim H
    subst hz
    exact RunW_nil rfl
  ·refine AW2_cond rfl (fun h6 => ?_) (fun h6 => ?_)
   ·replace H := ite_then h6 H
    refine as2 [(0, .t s0), (1, .t l1), (5, .i n5_0)] [] rfl rfl rfl ?_
    refine AW2_skip ?_
    refine AW2_block ?_
    refine AW2_reg [0, 1, 2] rfl ?_
    refine rp rfl rfl (p_move rfl rfl) ?_
    refine rp rfl rfl (p_bin rfl rfl rfl rfl) ?_
    refine rp rfl rfl (p_asg rfl rfl) ?_
    refine rz [(0, .t s0), (1, .t l1), (5, .i (w64 (n5_0 + (1 : Int))))] [] rfl rfl rfl ?_
    have hz := some_elim H
    subst hz
    exact ⟨rfl, rfl⟩
   ·replace H := ite_else (ne_true h6) H
    refine as2 [(5, .i n5_0)] [] rfl rfl rfl ?_
    refine AW2_exit ?_
    refine thenQ2_exit ?_
    have hz := some_elim H
    subst hz
    exact ⟨rfl, rfl⟩
 ·obtain ⟨rfl, rfl⟩ := hs
  refine ⟨by simp, ?_⟩
  refine blockQ2_exit ?_
  refine sg [0, 1] rfl ?_
  refine rp rfl rfl (p_move rfl rfl) ?_
  refine rp rfl rfl (p_asg rfl rfl) ?_
  refine rz [(4, .i y'6)] [] rfl rfl rfl ?_
  refine AW2_ret ?_
  have hz := some_elim H
  subst hz
  exact ⟨⟨res_tmp (.same _), trivial⟩, trivial⟩

/-! chirographref.isName -/
def g_ref_isName_t0 : List UInt8 := [97, 98, 99, 100, 101, 102, 103, 104, 105, 106, 107, 108, 109, 110, 111, 112, 113, 114, 115, 116, 117, 118, 119, 120, 121, 122]
def g_ref_isName_t1 : List UInt8 := [97, 98, 99, 100, 101, 102, 103, 104, 105, 106, 107, 108, 109, 110, 111, 112, 113, 114, 115, 116, 117, 118, 119, 120, 121, 122, 48, 49, 50, 51, 52, 53, 54, 55, 56, 57, 95]
noncomputable def g_ref_isName (s0 : List UInt8) : Option (Bool) :=
  ((if s0 ≠ [] then if 0 < s0.length then (g_ref_among (lrd s0 0) g_ref_isName_t0).bind fun r'1 => (if r'1 = true then (g_ref_reach s0 g_ref_isName_t1).bind fun r'2 => some (decide (r'2 = (s0.length : Int))) else some false) else none else some false)).bind fun g'3 => some g'3
set_option maxHeartbeats 4000000 in
set_option maxRecDepth 100000 in
theorem g_ref_isName_ac {s0 : List UInt8} {r : Bool} (H : g_ref_isName s0 = some r) : ACp Tryd.prog 48 [(AV.txt s0)] (AV.bool r) := by
 refine ACp_of (AC2_of_body (vs := [.b r]) Tryd.func48 rfl rfl (Nat.le_of_ble_eq_true rfl) rfl ?_) (fun _ => .same _)
 unfold g_ref_isName at H
 refine as2 [(0, .t s0)] [] rfl rfl rfl ?_
 refine sg [0] rfl ?_
 refine rp rfl rfl (p_asg rfl rfl) ?_
 refine rz [(0, .t s0)] [] rfl rfl rfl ?_
 refine AW2_seq ?_
 refine bindK H fun g'3 h7 H => ?_
 refine AW2_mid (⟨[(2, .b g'3)], [], 17⟩ : TS) ?_ ?_
 ·clear H
  have H := h7
  clear h7
  refine AW2_reg [0, 1, 2, 3, 4, 5, 6, 7, 8, 9, 10, 11, 12, 13, 14] rfl ?_
  refine rp rfl rfl (p_move rfl rfl) ?_
  refine rp rfl rfl (p_sne rfl rfl rfl) ?_
  refine rp rfl rfl (p_move rfl rfl) ?_
  refine (Classical.em (s0 ≠ [])).elim (fun h2 => ?_) (fun h2 => ?_)
  ·replace H := ite_then h2 H
   refine r_on rfl rfl rfl rfl (decide_eq_true h2) rfl (PureD.opD (p_move rfl rfl)) ?_
   refine chkK H fun h3 H => ?_
   refine r_on rfl rfl rfl rfl (decide_eq_true h2) rfl (PureD.opD (p_ixt rfl Tryd.underlying9 rfl rfl rfl (lrd_get h3))) ?_
   refine bindK H fun r'1 h4 H => ?_
   refine r_on rfl rfl rfl rfl (decide_eq_true h2) rfl (PureD.opD (p_callp rfl rfl rfl Tryd.func72 rfl rfl (g_ref_among_ac h4) ⟨rfl, by kernel_rfl, trivial⟩)) ?_
   refine rp rfl rfl (p_pkt rfl rfl (decide_eq_true h2) (.same _)) ?_
   refine rp rfl rfl (p_move rfl rfl) ?_
   refine (Classical.em (r'1 = true)).elim (fun h5 => ?_) (fun h5 => ?_)
   ·replace H := ite_then h5 H
    refine rn rfl rfl rfl rfl h5 rfl (p_move rfl rfl) ?_
    refine bindK H fun r'2 h6 H => ?_
    refine rn rfl rfl rfl rfl h5 rfl (p_callp rfl rfl rfl Tryd.func73 rfl rfl (g_ref_reach_ac h6) ⟨rfl, by kernel_rfl, trivial⟩) ?_
    refine rn rfl rfl rfl rfl h5 rfl (p_move rfl rfl) ?_
    refine rn rfl rfl rfl rfl h5 rfl (p_lent rfl Tryd.underlying9 rfl) ?_
    refine rn rfl rfl rfl rfl h5 rfl (p_ieq rfl rfl rfl) ?_
    refine rp rfl rfl (p_pkt rfl rfl h5 (.same _)) ?_
    refine rp rfl rfl (p_asg rfl rfl) ?_
    refine rs [(2, .b (decide (r'2 = (s0.length : Int))))] [] rfl rfl rfl ?_
    have hz := some_elim H
    subst hz
    exact RunW_nil rfl
   ·replace H := ite_else h5 H
    refine r_off rfl rfl rfl rfl (bfalse h5) rfl rfl ?_
    refine r_off rfl rfl rfl rfl (bfalse h5) rfl rfl ?_
    refine r_off rfl rfl rfl rfl (bfalse h5) rfl rfl ?_
    refine r_off rfl rfl rfl rfl (bfalse h5) rfl rfl ?_
    refine r_off rfl rfl rfl rfl (bfalse h5) rfl rfl ?_
    refine rp rfl rfl (p_pkf rfl rfl (bfalse h5) (.same _)) ?_
    refine rp rfl rfl (p_asg rfl rfl) ?_
    refine rs [(2, .b false)] [] rfl rfl rfl ?_
    have hz := some_elim H
    subst hz
    exact RunW_nil rfl
  ·replace H := ite_else h2 H
   refine r_off rfl rfl rfl rfl (decide_eq_false h2) rfl rfl ?_
   refine r_off rfl rfl rfl rfl (decide_eq_false h2) rfl rfl ?_
   refine r_off rfl rfl rfl rfl (decide_eq_false h2) rfl rfl ?_
   refine rp rfl rfl (p_pkf rfl rfl (decide_eq_false h2) (.same _)) ?_
   refine rp rfl rfl (p_move rfl rfl) ?_
   refine r_off rfl rfl rfl rfl (bfalse (by decide)) rfl rfl ?_
   refine r_off rfl rfl rfl rfl (bfalse (by decide)) rfl rfl ?_
   refine r_off rfl rfl rfl rfl (bfalse (by decide)) rfl rfl ?_
   refine r_off rfl rfl rfl rfl (bfalse (by decide)) rfl rfl ?_
   refine r_off rfl rfl rfl rfl (bfalse (by decide)) rfl rfl ?_
   refine rp rfl rfl (p_pkf rfl rfl (bfalse (by decide)) (.same _)) ?_
   refine rp rfl rfl (p_asg rfl rfl) ?_
   refine rs [(2, .b false)] [] rfl rfl rfl ?_
   have hz := some_elim H
   subst hz
   exact RunW_nil rfl
 ·refine AW2_ret ?_
  have hz := some_elim H
  subst hz
  exact ⟨⟨res_tmp (.same _), trivial⟩, trivial⟩

/-! chirographref.columnAt -/
noncomputable def g_ref_columnAt_l0 (cols0 : List GColumn) (name1 : List UInt8) : Int → Option (Int ⊕ (Int ⊕ Unit))
  | i5_0 => (if i5_0 ≥ (0 : Int) then if 0 ≤ i5_0 ∧ i5_0 < (cols0.length : Int) then (if (lrd cols0 i5_0.toNat).Name = name1 then some (.inr (.inl i5_0)) else some (.inl (w64 (i5_0 - (1 : Int))))) else none else some (.inr (.inr ())))
noncomputable def g_ref_columnAt (cols0 : List GColumn) (name1 : List UInt8) : Option (Int) :=
  (loopO (g_ref_columnAt_l0 cols0 name1) (w64 ((cols0.length : Int) - (1 : Int)))).bind fun o'4 => match o'4 with | .inl y'5 => some y'5 | .inr (y'6) => some (-1 : Int)
set_option maxHeartbeats 4000000 in
set_option maxRecDepth 100000 in
theorem g_ref_columnAt_ac {cols0 : List GColumn} {name1 : List UInt8} {r : Int} (H : g_ref_columnAt cols0 name1 = some r) : ACp Tryd.prog 27 [((fun q : List GColumn => AV.lst (q.flatMap GColumn.cs) q.length) cols0), (AV.txt name1)] (AV.int r) := by
 refine ACp_of (AC2_of_body (vs := [.i r]) Tryd.func27 rfl rfl (Nat.le_of_ble_eq_true rfl) rfl ?_) (fun _ => .same _)
 unfold g_ref_columnAt at H
 refine as2 [(0, .p ((fun q : List GColumn => AV.lst (q.flatMap GColumn.cs) q.length) cols0)), (1, .t name1)] [] rfl rfl rfl ?_
 refine sg [0] rfl ?_
 refine rp rfl rfl (p_asg rfl rfl) ?_
 refine rz [(0, .p ((fun q : List GColumn => AV.lst (q.flatMap GColumn.cs) q.length) cols0)), (1, .t name1)] [] rfl rfl rfl ?_
 refine AW2_seq ?_
 refine sg [0, 1, 2, 3] rfl ?_
 refine rp rfl rfl (p_move rfl rfl) ?_
 refine rp rfl rfl (p_lenl rfl Tryd.underlying28 rfl rfl) ?_
 refine rp rfl rfl (p_bin rfl rfl rfl rfl) ?_
 refine rp rfl rfl (p_asg rfl rfl) ?_
 refine rz [(0, .p ((fun q : List GColumn => AV.lst (q.flatMap GColumn.cs) q.length) cols0)), (1, .t name1), (5, .i (w64 ((cols0.length : Int) - (1 : Int))))] [] rfl rfl rfl ?_
 refine AW2_block ?_
 refine as2 [(0, .p ((fun q : List GColumn => AV.lst (q.flatMap GColumn.cs) q.length) cols0)), (1, .t name1), (5, .i (w64 ((cols0.length : Int) - (1 : Int))))] [] rfl rfl rfl ?_
 refine bindK H fun o'4 h4 H => ?_
 refine AW2_loopO (fun a'1 : Int => (⟨[(0, .p ((fun q : List GColumn => AV.lst (q.flatMap GColumn.cs) q.length) cols0)), (1, .t name1), (5, .i a'1)], [], 21⟩ : TS)) (fun (o : Int ⊕ Unit) e s' => match o with | .inl y'2 => e = Go.Exit.ret ∧ ResAll Tryd.prog s' [ResultVar.tmp 4] [.i y'2] ∧ HFits s' [] | .inr (y'3) => e = Go.Exit.exit 0 ∧ s' = (⟨[], [], 21⟩ : TS)) h4 rfl (fun i5_0 x hx => ?_) (fun e s' hs => ?_)
 ·clear H
  have H := hx
  clear hx
  unfold g_ref_columnAt_l0 at H
  refine AW2_seq ?_
  refine sg [0, 1] rfl ?_
  refine rp rfl rfl (p_move rfl rfl) ?_
  refine rp rfl rfl (p_bin rfl rfl rfl rfl) ?_
  refine rz [(0, .p ((fun q : List GColumn => AV.lst (q.flatMap GColumn.cs) q.length) cols0)), (1, .t name1), (5, .i i5_0), (10, .b (decide (i5_0 ≥ (0 : Int))))] [] rfl rfl rfl ?_
  refine AW2_if (p := i5_0 ≥ (0 : Int)) rfl (fun h1 => ?_) (fun h1 => ?_)
  ·replace H := ite_then h1 H
   refine as2 [(0, .p ((fun q : List GColumn => AV.lst (q.flatMap GColumn.cs) q.length) cols0)), (1, .t name1), (5, .i i5_0)] [] rfl rfl rfl ?_
   refine AW2_skip ?_
   refine AW2_seq ?_
   refine AW2_block ?_
   refine sg [0, 1, 2, 3, 4, 5, 6] rfl ?_
   refine rp rfl rfl (p_move rfl rfl) ?_
   refine rp rfl rfl (p_move rfl rfl) ?_
   refine chkK H fun h2 H => ?_
   refine rp rfl rfl (u_ixl rfl rfl Tryd.underlying28 in_59 rfl rfl (ixe h2) (ixn h2) (fne (fun x => (GColumn.len x)) (by decide) (ixn h2))) ?_
   refine rp rfl rfl (u_far rfl rfl Tryd.underlying59 rfl in_9 (Nat.succ_ne_zero _) rfl) ?_
   refine rp rfl rfl (u_ld rfl rfl Tryd.underlying9 rfl rfl ((Sub.fm default (fun x => (GColumn.len x)) (ixn h2)).trans (GColumn.sub0 (lrd cols0 i5_0.toNat)))) ?_
   refine rp rfl rfl (p_move rfl rfl) ?_
   refine rp rfl rfl (p_seq rfl rfl rfl) ?_
   refine rz [(0, .p ((fun q : List GColumn => AV.lst (q.flatMap GColumn.cs) q.length) cols0)), (1, .t name1), (5, .i i5_0), (19, .b (decide ((lrd cols0 i5_0.toNat).Name = name1)))] [] rfl rfl rfl ?_
   refine AW2_if (p := (lrd cols0 i5_0.toNat).Name = name1) rfl (fun h3 => ?_) (fun h3 => ?_)
   ·replace H := ite_then h3 H
    refine sg [0, 1] rfl ?_
    refine rp rfl rfl (p_move rfl rfl) ?_
    refine rp rfl rfl (p_asg rfl rfl) ?_
    refine rz [(4, .i i5_0)] [] rfl rfl rfl ?_
    refine AW2_ret ?_
    have hz := some_elim H
    subst hz
    exact ⟨rfl, ⟨res_tmp (.same _), trivial⟩, trivial⟩
   ·replace H := ite_else h3 H
    refine as2 [(0, .p ((fun q : List GColumn => AV.lst (q.flatMap GColumn.cs) q.length) cols0)), (1, .t name1), (5, .i i5_0)] [] rfl rfl rfl ?_
    refine AW2_skip ?_
    refine AW2_reg [0, 1, 2] rfl ?_
    refine rp rfl rfl (p_move rfl rfl) ?_
    refine rp rfl rfl (p_bin rfl rfl rfl rfl) ?_
    refine rp rfl rfl (p_asg rfl rfl) ?_
    refine rz [(0, .p ((fun q : List GColumn => AV.lst (q.flatMap GColumn.cs) q.length) cols0)), (1, .t name1), (5, .i (w64 (i5_0 - (1 : Int))))] [] rfl rfl rfl ?_
    have hz := some_elim H
    subst hz
    exact ⟨rfl, rfl⟩
  ·replace H := ite_else h1 H
   refine as2 [] [] rfl rfl rfl ?_
   refine AW2_exit ?_
   refine thenQ2_exit ?_
   have hz := some_elim H
   subst hz
   exact ⟨rfl, rfl⟩
 ·rcases o'4 with y'5 | y'6
  ·obtain ⟨rfl, hs⟩ := hs
   refine ⟨by simp, ?_⟩
   have hz := some_elim H
   subst hz
   exact ⟨hs.1, hs.2⟩
  ·obtain ⟨rfl, rfl⟩ := hs
   refine ⟨by simp, ?_⟩
   refine blockQ2_exit ?_
   refine sg [0] rfl ?_
   refine rp rfl rfl (p_asg rfl rfl) ?_
   refine rz [(4, .i (-1 : Int))] [] rfl rfl rfl ?_
   refine AW2_ret ?_
   have hz := some_elim H
   subst hz
   exact ⟨⟨res_tmp (.same _), trivial⟩, trivial⟩

/-! chirographref.ColumnsFault -/
def g_ref_ColumnsFault_r10 : List (List (Nat × Option Nat)) := [[(0, none)], [(3, none)], [(46, some 0), (47, some 1)], [(4, none)], [(49, some 3)]]
def g_ref_ColumnsFault_r10c : List (List Nat) := [[], [], [0, 1], [], [3], [0, 1, 2, 3, 4], [0, 1, 2, 3, 4, 5], [0, 1, 2, 3, 4, 5, 6]]
noncomputable def g_ref_ColumnsFault_l0 (cols0 : List GColumn) : Int → Option (Int ⊕ (Int ⊕ Unit))
  | t10_0 => (if t10_0 < (cols0.length : Int) then if 0 ≤ t10_0 ∧ t10_0 < (cols0.length : Int) then (g_ref_isName ((lrd cols0 t10_0.toNat).Name)).bind fun r'1 => (if ((!r'1) = true) ∨ ((((lrd cols0 t10_0.toNat).Name).length : Int) > (8 : Int)) then some (.inr (.inl (3 : Int))) else letO (decide (((((lrd cols0 t10_0.toNat).Kind ≠ (1 : Int)) ∧ ((lrd cols0 t10_0.toNat).Kind ≠ (2 : Int))) ∧ ((lrd cols0 t10_0.toNat).Kind ≠ (3 : Int))) ∧ ((lrd cols0 t10_0.toNat).Kind ≠ (4 : Int)))) fun t26'2 => (if t26'2 = true then some (.inr (.inl (2 : Int))) else if 0 ≤ t10_0 ∧ t10_0 ≤ (cols0.length : Int) then (g_ref_columnAt (cut cols0 (0 : Int) t10_0) ((lrd cols0 t10_0.toNat).Name)).bind fun r'3 => (if r'3 ≥ (0 : Int) then some (.inr (.inl (8 : Int))) else some (.inl (w64 (t10_0 + (1 : Int))))) else none)) else none else some (.inr (.inr ())))
noncomputable def g_ref_ColumnsFault (cols0 : List GColumn) : Option (Int) :=
  (if (cols0.length : Int) > (5 : Int) then some (1 : Int) else (loopO (g_ref_ColumnsFault_l0 cols0) (0 : Int)).bind fun o'7 => match o'7 with | .inl y'8 => some y'8 | .inr (y'9) => some (0 : Int))
set_option maxHeartbeats 4000000 in
set_option maxRecDepth 100000 in
theorem g_ref_ColumnsFault_ac {cols0 : List GColumn} {r : Int} (H : g_ref_ColumnsFault cols0 = some r) : ACp Tryd.prog 22 [((fun q : List GColumn => AV.lst (q.flatMap GColumn.cs) q.length) cols0)] (AV.int r) := by
 refine ACp_of (AC2_of_body (vs := [.i r]) Tryd.func22 rfl rfl (Nat.le_of_ble_eq_true rfl) rfl ?_) (fun _ => .same _)
 unfold g_ref_ColumnsFault at H
 refine as2 [(0, .p ((fun q : List GColumn => AV.lst (q.flatMap GColumn.cs) q.length) cols0))] [] rfl rfl rfl ?_
 refine sg [0] rfl ?_
 refine rp rfl rfl (p_asg rfl rfl) ?_
 refine rz [(0, .p ((fun q : List GColumn => AV.lst (q.flatMap GColumn.cs) q.length) cols0))] [] rfl rfl rfl ?_
 refine AW2_seq ?_
 refine sg [0, 1, 2] rfl ?_
 refine rp rfl rfl (p_move rfl rfl) ?_
 refine rp rfl rfl (p_lenl rfl Tryd.underlying28 rfl rfl) ?_
 refine rp rfl rfl (p_bin rfl rfl rfl rfl) ?_
 refine rz [(0, .p ((fun q : List GColumn => AV.lst (q.flatMap GColumn.cs) q.length) cols0)), (7, .b (decide ((cols0.length : Int) > (5 : Int))))] [] rfl rfl rfl ?_
 refine AW2_if (p := (cols0.length : Int) > (5 : Int)) rfl (fun h1 => ?_) (fun h1 => ?_)
 ·replace H := ite_then h1 H
  refine sg [0] rfl ?_
  refine rp rfl rfl (p_asg rfl rfl) ?_
  refine rz [(2, .i (1 : Int))] [] rfl rfl rfl ?_
  refine AW2_ret ?_
  have hz := some_elim H
  subst hz
  exact ⟨⟨res_tmp (.same _), trivial⟩, trivial⟩
 ·replace H := ite_else h1 H
  refine as2 [(0, .p ((fun q : List GColumn => AV.lst (q.flatMap GColumn.cs) q.length) cols0))] [] rfl rfl rfl ?_
  refine AW2_skip ?_
  refine AW2_seq ?_
  refine sg [0, 1, 2] rfl ?_
  refine rp rfl rfl (p_move rfl rfl) ?_
  refine rp rfl rfl (p_lenl rfl Tryd.underlying28 rfl rfl) ?_
  refine rp rfl rfl (p_move rfl rfl) ?_
  refine rz [(0, .p ((fun q : List GColumn => AV.lst (q.flatMap GColumn.cs) q.length) cols0)), (8, .p ((fun q : List GColumn => AV.lst (q.flatMap GColumn.cs) q.length) cols0)), (9, .i (cols0.length : Int)), (10, .i (0 : Int))] [] rfl rfl rfl ?_
  refine AW2_block ?_
  refine as2 [(0, .p ((fun q : List GColumn => AV.lst (q.flatMap GColumn.cs) q.length) cols0)), (8, .p ((fun q : List GColumn => AV.lst (q.flatMap GColumn.cs) q.length) cols0)), (9, .i (cols0.length : Int)), (10, .i (0 : Int))] [] rfl rfl rfl ?_
  refine bindK H fun o'7 h14 H => ?_
  refine AW2_loopO (fun a'4 : Int => (⟨[(0, .p ((fun q : List GColumn => AV.lst (q.flatMap GColumn.cs) q.length) cols0)), (8, .p ((fun q : List GColumn => AV.lst (q.flatMap GColumn.cs) q.length) cols0)), (9, .i (cols0.length : Int)), (10, .i a'4)], [], 54⟩ : TS)) (fun (o : Int ⊕ Unit) e s' => match o with | .inl y'5 => e = Go.Exit.ret ∧ ResAll Tryd.prog s' [ResultVar.tmp 2] [.i y'5] ∧ HFits s' [] | .inr (y'6) => e = Go.Exit.exit 0 ∧ s' = (⟨[], [], 54⟩ : TS)) h14 rfl (fun t10_0 x hx => ?_) (fun e s' hs => ?_)
  ·clear H
   have H := hx
   clear hx
   unfold g_ref_ColumnsFault_l0 at H
   refine sg [0] rfl ?_
   refine rp rfl rfl (p_bin rfl rfl rfl rfl) ?_
   refine rz [(0, .p ((fun q : List GColumn => AV.lst (q.flatMap GColumn.cs) q.length) cols0)), (8, .p ((fun q : List GColumn => AV.lst (q.flatMap GColumn.cs) q.length) cols0)), (9, .i (cols0.length : Int)), (10, .i t10_0), (11, .b (decide (t10_0 < (cols0.length : Int))))] [] rfl rfl rfl ?_
   refine AW2_seq ?_
   refine AW2_if (p := t10_0 < (cols0.length : Int)) rfl (fun h2 => ?_) (fun h2 => ?_)
   ·replace H := ite_then h2 H
    refine as2 [(0, .p ((fun q : List GColumn => AV.lst (q.flatMap GColumn.cs) q.length) cols0)), (8, .p ((fun q : List GColumn => AV.lst (q.flatMap GColumn.cs) q.length) cols0)), (9, .i (cols0.length : Int)), (10, .i t10_0)] [] rfl rfl rfl ?_
    refine AW2_skip ?_
    refine AW2_seq ?_
    refine AW2_block ?_
    refine sg [0, 1, 2, 3, 4, 5] rfl ?_
    refine rp rfl rfl (p_move rfl rfl) ?_
    refine chkK H fun h3 H => ?_
    refine rp rfl rfl (u_ixl rfl rfl Tryd.underlying28 in_59 rfl rfl (ixe h3) (ixn h3) (fne (fun x => (GColumn.len x)) (by decide) (ixn h3))) ?_
    refine rp rfl rfl (u_lda rfl rfl Tryd.underlying59 rfl in_59 rfl (Nat.succ_pos _) (Sub.fm default (fun x => (GColumn.len x)) (ixn h3)) (GColumn.len (lrd cols0 t10_0.toNat))) ?_
    refine r_op rfl rfl (MakeD.opD (u_alloc 4 rfl in_59 one_59 zc_59) rfl rfl rfl rfl) ?_
    refine rp rfl rfl (p_asg rfl rfl) ?_
    refine r_op rfl rfl (u_st rfl rfl rfl rfl rfl in_59 (GColumn.len (lrd cols0 t10_0.toNat)) (ne_of_lt (n := 0) (Nat.lt_of_lt_of_eq (by decide) (Eq.symm (GColumn.len GColumn.zero)))) (Upd.refl ((GColumn.len (lrd cols0 t10_0.toNat)).trans (GColumn.len GColumn.zero).symm))) ?_
    refine rz [(0, .p ((fun q : List GColumn => AV.lst (q.flatMap GColumn.cs) q.length) cols0)), (3, .i t10_0), (4, .q 4 (0)), (8, .p ((fun q : List GColumn => AV.lst (q.flatMap GColumn.cs) q.length) cols0)), (9, .i (cols0.length : Int)), (10, .i t10_0)] [(4, .pure (GColumn.cs (lrd cols0 t10_0.toNat)))] rfl rfl rfl ?_
    refine AW2_block ?_
    refine AW2_seq ?_
    refine bindK H fun r'1 h4 H => ?_
    refine AW2_mid (⟨[(0, .p ((fun q : List GColumn => AV.lst (q.flatMap GColumn.cs) q.length) cols0)), (3, .i t10_0), (4, .q 4 (0)), (8, .p ((fun q : List GColumn => AV.lst (q.flatMap GColumn.cs) q.length) cols0)), (9, .i (cols0.length : Int)), (10, .i t10_0), (15, .b (decide (((!r'1) = true) ∨ ((((lrd cols0 t10_0.toNat).Name).length : Int) > (8 : Int)))))], [(4, .pure (GColumn.cs (lrd cols0 t10_0.toNat)))], 54⟩ : TS) ?_ ?_
    ·refine AW2_reg [0, 1, 2, 3, 4, 5, 6, 7, 8, 9, 10] rfl ?_
     refine rp rfl rfl (u_fa rfl rfl Tryd.underlying59 rfl in_9 (Nat.succ_ne_zero _) rfl rfl (ne_of_lt (n := 0) (Nat.lt_of_lt_of_eq (by decide) (Eq.symm (GColumn.len (lrd cols0 t10_0.toNat)))))) ?_
     refine rp rfl rfl (u_ld rfl rfl Tryd.underlying9 rfl rfl ((Sub.refl _).trans (GColumn.sub0 (lrd cols0 t10_0.toNat)))) ?_
     refine rp rfl rfl (p_callp rfl rfl rfl Tryd.func48 rfl rfl (g_ref_isName_ac h4) ⟨rfl, trivial⟩) ?_
     refine rp rfl rfl (p_not rfl rfl) ?_
     refine rp rfl rfl (p_move rfl rfl) ?_
     refine (Classical.em ((!r'1) = true)).elim (fun h5 => ?_) (fun h5 => ?_)
     ·refine r_off rfl rfl rfl rfl h5 rfl rfl ?_
      refine r_off rfl rfl rfl rfl h5 rfl rfl ?_
      refine r_off rfl rfl rfl rfl h5 rfl rfl ?_
      refine r_off rfl rfl rfl rfl h5 rfl rfl ?_
      refine rp rfl rfl (p_pkt rfl rfl h5 (tb (decide_eq_true (p := ((!r'1) = true) ∨ ((((lrd cols0 t10_0.toNat).Name).length : Int) > (8 : Int))) (Or.inl h5)).symm)) ?_
      refine rp rfl rfl (p_asg rfl rfl) ?_
      refine rs [(0, .p ((fun q : List GColumn => AV.lst (q.flatMap GColumn.cs) q.length) cols0)), (3, .i t10_0), (4, .q 4 (0)), (8, .p ((fun q : List GColumn => AV.lst (q.flatMap GColumn.cs) q.length) cols0)), (9, .i (cols0.length : Int)), (10, .i t10_0), (15, .b (decide (((!r'1) = true) ∨ ((((lrd cols0 t10_0.toNat).Name).length : Int) > (8 : Int)))))] [(4, .pure (GColumn.cs (lrd cols0 t10_0.toNat)))] rfl rfl rfl ?_
      exact RunW_nil rfl
     ·refine r_on rfl rfl rfl rfl (bfalse h5) rfl (PureD.opD (u_fa rfl rfl Tryd.underlying59 rfl in_9 (Nat.succ_ne_zero _) rfl rfl (ne_of_lt (n := 0) (Nat.lt_of_lt_of_eq (by decide) (Eq.symm (GColumn.len (lrd cols0 t10_0.toNat))))))) ?_
      refine r_on rfl rfl rfl rfl (bfalse h5) rfl (PureD.opD (u_ld rfl rfl Tryd.underlying9 rfl rfl ((Sub.refl _).trans (GColumn.sub0 (lrd cols0 t10_0.toNat))))) ?_
      refine r_on rfl rfl rfl rfl (bfalse h5) rfl (PureD.opD (p_lent rfl Tryd.underlying9 rfl)) ?_
      refine r_on rfl rfl rfl rfl (bfalse h5) rfl (PureD.opD (p_bin rfl rfl rfl rfl)) ?_
      refine rp rfl rfl (p_pkf rfl rfl (bfalse h5) (tb ((or_l (p := (!r'1) = true) (q := (((lrd cols0 t10_0.toNat).Name).length : Int) > (8 : Int)) h5)))) ?_
      refine rp rfl rfl (p_asg rfl rfl) ?_
      refine rs [(0, .p ((fun q : List GColumn => AV.lst (q.flatMap GColumn.cs) q.length) cols0)), (3, .i t10_0), (4, .q 4 (0)), (8, .p ((fun q : List GColumn => AV.lst (q.flatMap GColumn.cs) q.length) cols0)), (9, .i (cols0.length : Int)), (10, .i t10_0), (15, .b (decide (((!r'1) = true) ∨ ((((lrd cols0 t10_0.toNat).Name).length : Int) > (8 : Int)))))] [(4, .pure (GColumn.cs (lrd cols0 t10_0.toNat)))] rfl rfl rfl ?_
      exact RunW_nil rfl
    ·refine AW2_if (p := ((!r'1) = true) ∨ ((((lrd cols0 t10_0.toNat).Name).length : Int) > (8 : Int))) rfl (fun h6 => ?_) (fun h6 => ?_)
     ·replace H := ite_then h6 H
      refine sg [0] rfl ?_
      refine rp rfl rfl (p_asg rfl rfl) ?_
      refine rz [(2, .i (3 : Int))] [] rfl rfl rfl ?_
      refine AW2_ret ?_
      have hz := some_elim H
      subst hz
      exact ⟨rfl, ⟨res_tmp (.same _), trivial⟩, trivial⟩
     ·replace H := ite_else h6 H
      refine AW2_seq ?_
      refine AW2_mid (⟨[(0, .p ((fun q : List GColumn => AV.lst (q.flatMap GColumn.cs) q.length) cols0)), (3, .i t10_0), (4, .q 4 (0)), (8, .p ((fun q : List GColumn => AV.lst (q.flatMap GColumn.cs) q.length) cols0)), (9, .i (cols0.length : Int)), (10, .i t10_0), (26, .b (decide (((((lrd cols0 t10_0.toNat).Kind ≠ (1 : Int)) ∧ ((lrd cols0 t10_0.toNat).Kind ≠ (2 : Int))) ∧ ((lrd cols0 t10_0.toNat).Kind ≠ (3 : Int))) ∧ ((lrd cols0 t10_0.toNat).Kind ≠ (4 : Int)))))], [(4, .pure (GColumn.cs (lrd cols0 t10_0.toNat)))], 54⟩ : TS) ?_ ?_
      ·refine AW2_reg [0, 1, 2, 3, 4, 5, 6, 7, 8, 9, 10, 11, 12, 13, 14, 15, 16, 17, 18] rfl ?_
       refine rp rfl rfl (u_fa rfl rfl Tryd.underlying59 rfl in_3 (Nat.succ_ne_zero _) rfl rfl (ne_of_lt (n := 0) (Nat.lt_of_lt_of_eq (by decide) (Eq.symm (GColumn.len (lrd cols0 t10_0.toNat)))))) ?_
       refine rp rfl rfl (u_ld rfl rfl Tryd.underlying3 rfl rfl ((Sub.refl _).trans (GColumn.sub1 (lrd cols0 t10_0.toNat)))) ?_
       refine rp rfl rfl (p_ine rfl rfl rfl) ?_
       refine rp rfl rfl (p_move rfl rfl) ?_
       refine (Classical.em ((lrd cols0 t10_0.toNat).Kind ≠ (1 : Int))).elim (fun h7 => ?_) (fun h7 => ?_)
       ·refine r_on rfl rfl rfl rfl (decide_eq_true h7) rfl (PureD.opD (u_fa rfl rfl Tryd.underlying59 rfl in_3 (Nat.succ_ne_zero _) rfl rfl (ne_of_lt (n := 0) (Nat.lt_of_lt_of_eq (by decide) (Eq.symm (GColumn.len (lrd cols0 t10_0.toNat))))))) ?_
        refine r_on rfl rfl rfl rfl (decide_eq_true h7) rfl (PureD.opD (u_ld rfl rfl Tryd.underlying3 rfl rfl ((Sub.refl _).trans (GColumn.sub1 (lrd cols0 t10_0.toNat))))) ?_
        refine r_on rfl rfl rfl rfl (decide_eq_true h7) rfl (PureD.opD (p_ine rfl rfl rfl)) ?_
        refine rp rfl rfl (p_pkt rfl rfl (decide_eq_true h7) (tb ((and_l (p := (lrd cols0 t10_0.toNat).Kind ≠ (1 : Int)) (q := (lrd cols0 t10_0.toNat).Kind ≠ (2 : Int)) h7)))) ?_
        refine rp rfl rfl (p_move rfl rfl) ?_
        refine (Classical.em ((lrd cols0 t10_0.toNat).Kind ≠ (2 : Int))).elim (fun h8 => ?_) (fun h8 => ?_)
        ·refine r_on rfl rfl rfl rfl (decide_eq_true (p := ((lrd cols0 t10_0.toNat).Kind ≠ (1 : Int)) ∧ ((lrd cols0 t10_0.toNat).Kind ≠ (2 : Int))) ⟨h7, h8⟩) rfl (PureD.opD (u_fa rfl rfl Tryd.underlying59 rfl in_3 (Nat.succ_ne_zero _) rfl rfl (ne_of_lt (n := 0) (Nat.lt_of_lt_of_eq (by decide) (Eq.symm (GColumn.len (lrd cols0 t10_0.toNat))))))) ?_
         refine r_on rfl rfl rfl rfl (decide_eq_true (p := ((lrd cols0 t10_0.toNat).Kind ≠ (1 : Int)) ∧ ((lrd cols0 t10_0.toNat).Kind ≠ (2 : Int))) ⟨h7, h8⟩) rfl (PureD.opD (u_ld rfl rfl Tryd.underlying3 rfl rfl ((Sub.refl _).trans (GColumn.sub1 (lrd cols0 t10_0.toNat))))) ?_
         refine r_on rfl rfl rfl rfl (decide_eq_true (p := ((lrd cols0 t10_0.toNat).Kind ≠ (1 : Int)) ∧ ((lrd cols0 t10_0.toNat).Kind ≠ (2 : Int))) ⟨h7, h8⟩) rfl (PureD.opD (p_ine rfl rfl rfl)) ?_
         refine rp rfl rfl (p_pkt rfl rfl (decide_eq_true (p := ((lrd cols0 t10_0.toNat).Kind ≠ (1 : Int)) ∧ ((lrd cols0 t10_0.toNat).Kind ≠ (2 : Int))) ⟨h7, h8⟩) (tb ((and_l (p := ((lrd cols0 t10_0.toNat).Kind ≠ (1 : Int)) ∧ ((lrd cols0 t10_0.toNat).Kind ≠ (2 : Int))) (q := (lrd cols0 t10_0.toNat).Kind ≠ (3 : Int)) ⟨h7, h8⟩)))) ?_
         refine rp rfl rfl (p_move rfl rfl) ?_
         refine (Classical.em ((lrd cols0 t10_0.toNat).Kind ≠ (3 : Int))).elim (fun h9 => ?_) (fun h9 => ?_)
         ·refine r_on rfl rfl rfl rfl (decide_eq_true (p := (((lrd cols0 t10_0.toNat).Kind ≠ (1 : Int)) ∧ ((lrd cols0 t10_0.toNat).Kind ≠ (2 : Int))) ∧ ((lrd cols0 t10_0.toNat).Kind ≠ (3 : Int))) ⟨⟨h7, h8⟩, h9⟩) rfl (PureD.opD (u_fa rfl rfl Tryd.underlying59 rfl in_3 (Nat.succ_ne_zero _) rfl rfl (ne_of_lt (n := 0) (Nat.lt_of_lt_of_eq (by decide) (Eq.symm (GColumn.len (lrd cols0 t10_0.toNat))))))) ?_
          refine r_on rfl rfl rfl rfl (decide_eq_true (p := (((lrd cols0 t10_0.toNat).Kind ≠ (1 : Int)) ∧ ((lrd cols0 t10_0.toNat).Kind ≠ (2 : Int))) ∧ ((lrd cols0 t10_0.toNat).Kind ≠ (3 : Int))) ⟨⟨h7, h8⟩, h9⟩) rfl (PureD.opD (u_ld rfl rfl Tryd.underlying3 rfl rfl ((Sub.refl _).trans (GColumn.sub1 (lrd cols0 t10_0.toNat))))) ?_
          refine r_on rfl rfl rfl rfl (decide_eq_true (p := (((lrd cols0 t10_0.toNat).Kind ≠ (1 : Int)) ∧ ((lrd cols0 t10_0.toNat).Kind ≠ (2 : Int))) ∧ ((lrd cols0 t10_0.toNat).Kind ≠ (3 : Int))) ⟨⟨h7, h8⟩, h9⟩) rfl (PureD.opD (p_ine rfl rfl rfl)) ?_
          refine rp rfl rfl (p_pkt rfl rfl (decide_eq_true (p := (((lrd cols0 t10_0.toNat).Kind ≠ (1 : Int)) ∧ ((lrd cols0 t10_0.toNat).Kind ≠ (2 : Int))) ∧ ((lrd cols0 t10_0.toNat).Kind ≠ (3 : Int))) ⟨⟨h7, h8⟩, h9⟩) (tb ((and_l (p := (((lrd cols0 t10_0.toNat).Kind ≠ (1 : Int)) ∧ ((lrd cols0 t10_0.toNat).Kind ≠ (2 : Int))) ∧ ((lrd cols0 t10_0.toNat).Kind ≠ (3 : Int))) (q := (lrd cols0 t10_0.toNat).Kind ≠ (4 : Int)) ⟨⟨h7, h8⟩, h9⟩)))) ?_
          refine rp rfl rfl (p_asg rfl rfl) ?_
          refine rs [(0, .p ((fun q : List GColumn => AV.lst (q.flatMap GColumn.cs) q.length) cols0)), (3, .i t10_0), (4, .q 4 (0)), (8, .p ((fun q : List GColumn => AV.lst (q.flatMap GColumn.cs) q.length) cols0)), (9, .i (cols0.length : Int)), (10, .i t10_0), (26, .b (decide (((((lrd cols0 t10_0.toNat).Kind ≠ (1 : Int)) ∧ ((lrd cols0 t10_0.toNat).Kind ≠ (2 : Int))) ∧ ((lrd cols0 t10_0.toNat).Kind ≠ (3 : Int))) ∧ ((lrd cols0 t10_0.toNat).Kind ≠ (4 : Int)))))] [(4, .pure (GColumn.cs (lrd cols0 t10_0.toNat)))] rfl rfl rfl ?_
          exact RunW_nil rfl
         ·refine r_off rfl rfl rfl rfl (decide_eq_false (p := (((lrd cols0 t10_0.toNat).Kind ≠ (1 : Int)) ∧ ((lrd cols0 t10_0.toNat).Kind ≠ (2 : Int))) ∧ ((lrd cols0 t10_0.toNat).Kind ≠ (3 : Int))) (fun h => h9 h.2)) rfl rfl ?_
          refine r_off rfl rfl rfl rfl (decide_eq_false (p := (((lrd cols0 t10_0.toNat).Kind ≠ (1 : Int)) ∧ ((lrd cols0 t10_0.toNat).Kind ≠ (2 : Int))) ∧ ((lrd cols0 t10_0.toNat).Kind ≠ (3 : Int))) (fun h => h9 h.2)) rfl rfl ?_
          refine r_off rfl rfl rfl rfl (decide_eq_false (p := (((lrd cols0 t10_0.toNat).Kind ≠ (1 : Int)) ∧ ((lrd cols0 t10_0.toNat).Kind ≠ (2 : Int))) ∧ ((lrd cols0 t10_0.toNat).Kind ≠ (3 : Int))) (fun h => h9 h.2)) rfl rfl ?_
          refine rp rfl rfl (p_pkf rfl rfl (decide_eq_false (p := (((lrd cols0 t10_0.toNat).Kind ≠ (1 : Int)) ∧ ((lrd cols0 t10_0.toNat).Kind ≠ (2 : Int))) ∧ ((lrd cols0 t10_0.toNat).Kind ≠ (3 : Int))) (fun h => h9 h.2)) (tb (decide_eq_false (p := ((((lrd cols0 t10_0.toNat).Kind ≠ (1 : Int)) ∧ ((lrd cols0 t10_0.toNat).Kind ≠ (2 : Int))) ∧ ((lrd cols0 t10_0.toNat).Kind ≠ (3 : Int))) ∧ ((lrd cols0 t10_0.toNat).Kind ≠ (4 : Int))) (fun x => (fun h => h9 h.2) x.1)).symm)) ?_
          refine rp rfl rfl (p_asg rfl rfl) ?_
          refine rs [(0, .p ((fun q : List GColumn => AV.lst (q.flatMap GColumn.cs) q.length) cols0)), (3, .i t10_0), (4, .q 4 (0)), (8, .p ((fun q : List GColumn => AV.lst (q.flatMap GColumn.cs) q.length) cols0)), (9, .i (cols0.length : Int)), (10, .i t10_0), (26, .b (decide (((((lrd cols0 t10_0.toNat).Kind ≠ (1 : Int)) ∧ ((lrd cols0 t10_0.toNat).Kind ≠ (2 : Int))) ∧ ((lrd cols0 t10_0.toNat).Kind ≠ (3 : Int))) ∧ ((lrd cols0 t10_0.toNat).Kind ≠ (4 : Int)))))] [(4, .pure (GColumn.cs (lrd cols0 t10_0.toNat)))] rfl rfl rfl ?_
          exact RunW_nil rfl
        ·refine r_off rfl rfl rfl rfl (decide_eq_false (p := ((lrd cols0 t10_0.toNat).Kind ≠ (1 : Int)) ∧ ((lrd cols0 t10_0.toNat).Kind ≠ (2 : Int))) (fun h => h8 h.2)) rfl rfl ?_
         refine r_off rfl rfl rfl rfl (decide_eq_false (p := ((lrd cols0 t10_0.toNat).Kind ≠ (1 : Int)) ∧ ((lrd cols0 t10_0.toNat).Kind ≠ (2 : Int))) (fun h => h8 h.2)) rfl rfl ?_
         refine r_off rfl rfl rfl rfl (decide_eq_false (p := ((lrd cols0 t10_0.toNat).Kind ≠ (1 : Int)) ∧ ((lrd cols0 t10_0.toNat).Kind ≠ (2 : Int))) (fun h => h8 h.2)) rfl rfl ?_
         refine rp rfl rfl (p_pkf rfl rfl (decide_eq_false (p := ((lrd cols0 t10_0.toNat).Kind ≠ (1 : Int)) ∧ ((lrd cols0 t10_0.toNat).Kind ≠ (2 : Int))) (fun h => h8 h.2)) (tb (decide_eq_false (p := (((lrd cols0 t10_0.toNat).Kind ≠ (1 : Int)) ∧ ((lrd cols0 t10_0.toNat).Kind ≠ (2 : Int))) ∧ ((lrd cols0 t10_0.toNat).Kind ≠ (3 : Int))) (fun x => (fun h => h8 h.2) x.1)).symm)) ?_
         refine rp rfl rfl (p_move rfl rfl) ?_
         refine r_off rfl rfl rfl rfl (decide_eq_false (p := (((lrd cols0 t10_0.toNat).Kind ≠ (1 : Int)) ∧ ((lrd cols0 t10_0.toNat).Kind ≠ (2 : Int))) ∧ ((lrd cols0 t10_0.toNat).Kind ≠ (3 : Int))) (fun h => (fun h => h8 h.2) h.1)) rfl rfl ?_
         refine r_off rfl rfl rfl rfl (decide_eq_false (p := (((lrd cols0 t10_0.toNat).Kind ≠ (1 : Int)) ∧ ((lrd cols0 t10_0.toNat).Kind ≠ (2 : Int))) ∧ ((lrd cols0 t10_0.toNat).Kind ≠ (3 : Int))) (fun h => (fun h => h8 h.2) h.1)) rfl rfl ?_
         refine r_off rfl rfl rfl rfl (decide_eq_false (p := (((lrd cols0 t10_0.toNat).Kind ≠ (1 : Int)) ∧ ((lrd cols0 t10_0.toNat).Kind ≠ (2 : Int))) ∧ ((lrd cols0 t10_0.toNat).Kind ≠ (3 : Int))) (fun h => (fun h => h8 h.2) h.1)) rfl rfl ?_
         refine rp rfl rfl (p_pkf rfl rfl (decide_eq_false (p := (((lrd cols0 t10_0.toNat).Kind ≠ (1 : Int)) ∧ ((lrd cols0 t10_0.toNat).Kind ≠ (2 : Int))) ∧ ((lrd cols0 t10_0.toNat).Kind ≠ (3 : Int))) (fun h => (fun h => h8 h.2) h.1)) (tb (decide_eq_false (p := ((((lrd cols0 t10_0.toNat).Kind ≠ (1 : Int)) ∧ ((lrd cols0 t10_0.toNat).Kind ≠ (2 : Int))) ∧ ((lrd cols0 t10_0.toNat).Kind ≠ (3 : Int))) ∧ ((lrd cols0 t10_0.toNat).Kind ≠ (4 : Int))) (fun x => (fun h => (fun h => h8 h.2) h.1) x.1)).symm)) ?_
         refine rp rfl rfl (p_asg rfl rfl) ?_
         refine rs [(0, .p ((fun q : List GColumn => AV.lst (q.flatMap GColumn.cs) q.length) cols0)), (3, .i t10_0), (4, .q 4 (0)), (8, .p ((fun q : List GColumn => AV.lst (q.flatMap GColumn.cs) q.length) cols0)), (9, .i (cols0.length : Int)), (10, .i t10_0), (26, .b (decide (((((lrd cols0 t10_0.toNat).Kind ≠ (1 : Int)) ∧ ((lrd cols0 t10_0.toNat).Kind ≠ (2 : Int))) ∧ ((lrd cols0 t10_0.toNat).Kind ≠ (3 : Int))) ∧ ((lrd cols0 t10_0.toNat).Kind ≠ (4 : Int)))))] [(4, .pure (GColumn.cs (lrd cols0 t10_0.toNat)))] rfl rfl rfl ?_
         exact RunW_nil rfl
       ·refine r_off rfl rfl rfl rfl (decide_eq_false h7) rfl rfl ?_
        refine r_off rfl rfl rfl rfl (decide_eq_false h7) rfl rfl ?_
        refine r_off rfl rfl rfl rfl (decide_eq_false h7) rfl rfl ?_
        refine rp rfl rfl (p_pkf rfl rfl (decide_eq_false h7) (tb (decide_eq_false (p := ((lrd cols0 t10_0.toNat).Kind ≠ (1 : Int)) ∧ ((lrd cols0 t10_0.toNat).Kind ≠ (2 : Int))) (fun x => h7 x.1)).symm)) ?_
        refine rp rfl rfl (p_move rfl rfl) ?_
        refine r_off rfl rfl rfl rfl (decide_eq_false (p := ((lrd cols0 t10_0.toNat).Kind ≠ (1 : Int)) ∧ ((lrd cols0 t10_0.toNat).Kind ≠ (2 : Int))) (fun h => h7 h.1)) rfl rfl ?_
        refine r_off rfl rfl rfl rfl (decide_eq_false (p := ((lrd cols0 t10_0.toNat).Kind ≠ (1 : Int)) ∧ ((lrd cols0 t10_0.toNat).Kind ≠ (2 : Int))) (fun h => h7 h.1)) rfl rfl ?_
        refine r_off rfl rfl rfl rfl (decide_eq_false (p := ((lrd cols0 t10_0.toNat).Kind ≠ (1 : Int)) ∧ ((lrd cols0 t10_0.toNat).Kind ≠ (2 : Int))) (fun h => h7 h.1)) rfl rfl ?_
        refine rp rfl rfl (p_pkf rfl rfl (decide_eq_false (p := ((lrd cols0 t10_0.toNat).Kind ≠ (1 : Int)) ∧ ((lrd cols0 t10_0.toNat).Kind ≠ (2 : Int))) (fun h => h7 h.1)) (tb (decide_eq_false (p := (((lrd cols0 t10_0.toNat).Kind ≠ (1 : Int)) ∧ ((lrd cols0 t10_0.toNat).Kind ≠ (2 : Int))) ∧ ((lrd cols0 t10_0.toNat).Kind ≠ (3 : Int))) (fun x => (fun h => h7 h.1) x.1)).symm)) ?_
        refine rp rfl rfl (p_move rfl rfl) ?_
        refine r_off rfl rfl rfl rfl (decide_eq_false (p := (((lrd cols0 t10_0.toNat).Kind ≠ (1 : Int)) ∧ ((lrd cols0 t10_0.toNat).Kind ≠ (2 : Int))) ∧ ((lrd cols0 t10_0.toNat).Kind ≠ (3 : Int))) (fun h => (fun h => h7 h.1) h.1)) rfl rfl ?_
        refine r_off rfl rfl rfl rfl (decide_eq_false (p := (((lrd cols0 t10_0.toNat).Kind ≠ (1 : Int)) ∧ ((lrd cols0 t10_0.toNat).Kind ≠ (2 : Int))) ∧ ((lrd cols0 t10_0.toNat).Kind ≠ (3 : Int))) (fun h => (fun h => h7 h.1) h.1)) rfl rfl ?_
        refine r_off rfl rfl rfl rfl (decide_eq_false (p := (((lrd cols0 t10_0.toNat).Kind ≠ (1 : Int)) ∧ ((lrd cols0 t10_0.toNat).Kind ≠ (2 : Int))) ∧ ((lrd cols0 t10_0.toNat).Kind ≠ (3 : Int))) (fun h => (fun h => h7 h.1) h.1)) rfl rfl ?_
        refine rp rfl rfl (p_pkf rfl rfl (decide_eq_false (p := (((lrd cols0 t10_0.toNat).Kind ≠ (1 : Int)) ∧ ((lrd cols0 t10_0.toNat).Kind ≠ (2 : Int))) ∧ ((lrd cols0 t10_0.toNat).Kind ≠ (3 : Int))) (fun h => (fun h => h7 h.1) h.1)) (tb (decide_eq_false (p := ((((lrd cols0 t10_0.toNat).Kind ≠ (1 : Int)) ∧ ((lrd cols0 t10_0.toNat).Kind ≠ (2 : Int))) ∧ ((lrd cols0 t10_0.toNat).Kind ≠ (3 : Int))) ∧ ((lrd cols0 t10_0.toNat).Kind ≠ (4 : Int))) (fun x => (fun h => (fun h => h7 h.1) h.1) x.1)).symm)) ?_
        refine rp rfl rfl (p_asg rfl rfl) ?_
        refine rs [(0, .p ((fun q : List GColumn => AV.lst (q.flatMap GColumn.cs) q.length) cols0)), (3, .i t10_0), (4, .q 4 (0)), (8, .p ((fun q : List GColumn => AV.lst (q.flatMap GColumn.cs) q.length) cols0)), (9, .i (cols0.length : Int)), (10, .i t10_0), (26, .b (decide (((((lrd cols0 t10_0.toNat).Kind ≠ (1 : Int)) ∧ ((lrd cols0 t10_0.toNat).Kind ≠ (2 : Int))) ∧ ((lrd cols0 t10_0.toNat).Kind ≠ (3 : Int))) ∧ ((lrd cols0 t10_0.toNat).Kind ≠ (4 : Int)))))] [(4, .pure (GColumn.cs (lrd cols0 t10_0.toNat)))] rfl rfl rfl ?_
        exact RunW_nil rfl
      ·refine gen1 (fun t26'2 => (⟨[(0, .p ((fun q : List GColumn => AV.lst (q.flatMap GColumn.cs) q.length) cols0)), (3, .i t10_0), (4, .q 4 (0)), (8, .p ((fun q : List GColumn => AV.lst (q.flatMap GColumn.cs) q.length) cols0)), (9, .i (cols0.length : Int)), (10, .i t10_0), (26, .b t26'2)], [(4, .pure (GColumn.cs (lrd cols0 t10_0.toNat)))], 54⟩ : TS)) H ?_
       intro t26'2 H
       refine AW2_cond rfl (fun h10 => ?_) (fun h10 => ?_)
       ·replace H := ite_then h10 H
        refine sg [0] rfl ?_
        refine rp rfl rfl (p_asg rfl rfl) ?_
        refine rz [(2, .i (2 : Int))] [] rfl rfl rfl ?_
        refine AW2_ret ?_
        have hz := some_elim H
        subst hz
        exact ⟨rfl, ⟨res_tmp (.same _), trivial⟩, trivial⟩
       ·replace H := ite_else (ne_true h10) H
        refine AW2_seq ?_
        refine chkK H fun h11 H => ?_
        refine bindK H fun r'3 h12 H => ?_
        refine AW2_ghoQ ?_
        refine AW2_draw 5 [5, 6, 7] (fun k => ([.p ((fun q : List GColumn => AV.lst (q.flatMap GColumn.cs) q.length) cols0), .i t10_0, .p ((fun q : List GColumn => AV.lst (q.flatMap GColumn.cs) q.length) (cut cols0 (0 : Int) t10_0)), .q 4 (0 + 0), .t ((lrd cols0 t10_0.toNat).Name)] : List TV).getD k TV.any) (fun k => g_ref_ColumnsFault_r10.getD k []) [(0, none), (8, none), (9, none), (10, none), (48, some 2), (50, some 4)] [] (fun k => g_ref_ColumnsFault_r10c.getD k []) mixed (by kernel_rfl) rfl rfl (a_op (g_x rfl (x_p rfl (p_move rfl rfl) rfl)) (a_op (g_x rfl (x_p rfl (p_move rfl rfl) rfl)) (a_op (g_x rfl (x_p rfl (u_cutl (g := (fun l => l.flatMap GColumn.cs)) (a := (0 : Int)) (b := t10_0) rfl rfl Tryd.underlying28 in_59 rfl bT_zero (bT_i (Int.le_trans (show 0 ≤ (0 : Int) ∧ (0 : Int) ≤ t10_0 ∧ t10_0 ≤ (cols0.length : Int) from ⟨Int.le_refl _, h11.1, h11.2⟩).1 (show 0 ≤ (0 : Int) ∧ (0 : Int) ≤ t10_0 ∧ t10_0 ≤ (cols0.length : Int) from ⟨Int.le_refl _, h11.1, h11.2⟩).2.1) rfl) (.inl rfl) (show 0 ≤ (0 : Int) ∧ (0 : Int) ≤ t10_0 ∧ t10_0 ≤ (cols0.length : Int) from ⟨Int.le_refl _, h11.1, h11.2⟩) (g_fm (fun x => (GColumn.len x)))) rfl)) (a_op (g_x rfl (x_p rfl (u_fa rfl rfl Tryd.underlying59 rfl in_9 (Nat.succ_ne_zero _) rfl rfl (ne_of_lt (n := 0) (Nat.lt_of_lt_of_eq (by decide) (Eq.symm (GColumn.len (lrd cols0 t10_0.toNat)))))) rfl)) (a_op (g_x rfl (x_p rfl (u_ld rfl rfl Tryd.underlying9 rfl rfl ((Sub.refl _).trans (GColumn.sub0 (lrd cols0 t10_0.toNat)))) rfl)) (a_nil)))))) ?_
        refine t_op rfl rfl (PureD.opD (p_callp rfl rfl rfl Tryd.func27 rfl rfl (g_ref_columnAt_ac h12) ⟨rfl, rfl, trivial⟩)) ?_
        refine t_op rfl rfl (PureD.opD (p_bin rfl rfl rfl rfl)) ?_
        refine t_op rfl rfl (PureD.opD (p_asg rfl rfl)) ?_
        refine t_gho (Gho_st (L := [(0, .p ((fun q : List GColumn => AV.lst (q.flatMap GColumn.cs) q.length) cols0)), (8, .p ((fun q : List GColumn => AV.lst (q.flatMap GColumn.cs) q.length) cols0)), (9, .i (cols0.length : Int)), (10, .i t10_0), (45, .b (decide (r'3 ≥ (0 : Int))))]) (H := []) (N := 54) rfl ⟨TLes.same _, TLes.same _, TLes.same _, TLes.same _, TLes.same _, trivial⟩ trivial) ?_
        refine AW2_if (p := r'3 ≥ (0 : Int)) rfl (fun h13 => ?_) (fun h13 => ?_)
        ·replace H := ite_then h13 H
         refine sg [0] rfl ?_
         refine rp rfl rfl (p_asg rfl rfl) ?_
         refine rz [(2, .i (8 : Int))] [] rfl rfl rfl ?_
         refine AW2_ret ?_
         have hz := some_elim H
         subst hz
         exact ⟨rfl, ⟨res_tmp (.same _), trivial⟩, trivial⟩
        ·replace H := ite_else h13 H
         refine as2 [(0, .p ((fun q : List GColumn => AV.lst (q.flatMap GColumn.cs) q.length) cols0)), (8, .p ((fun q : List GColumn => AV.lst (q.flatMap GColumn.cs) q.length) cols0)), (9, .i (cols0.length : Int)), (10, .i t10_0)] [] rfl rfl rfl ?_
         refine AW2_skip ?_
         refine AW2_reg [0, 1] rfl ?_
         refine rp rfl rfl (p_bin rfl rfl rfl rfl) ?_
         refine rp rfl rfl (p_move rfl rfl) ?_
         refine rz [(0, .p ((fun q : List GColumn => AV.lst (q.flatMap GColumn.cs) q.length) cols0)), (8, .p ((fun q : List GColumn => AV.lst (q.flatMap GColumn.cs) q.length) cols0)), (9, .i (cols0.length : Int)), (10, .i (w64 (t10_0 + (1 : Int))))] [] rfl rfl rfl ?_
         have hz := some_elim H
         subst hz
         exact ⟨rfl, rfl⟩
   ·replace H := ite_else h2 H
    refine as2 [] [] rfl rfl rfl ?_
    refine AW2_exit ?_
    refine thenQ2_exit ?_
    have hz := some_elim H
    subst hz
    exact ⟨rfl, rfl⟩
  ·rcases o'7 with y'8 | y'9
   ·obtain ⟨rfl, hs⟩ := hs
    refine ⟨by simp, ?_⟩
    have hz := some_elim H
    subst hz
    exact ⟨hs.1, hs.2⟩
   ·obtain ⟨rfl, rfl⟩ := hs
    refine ⟨by simp, ?_⟩
    refine blockQ2_exit ?_
    refine sg [0] rfl ?_
    refine rp rfl rfl (p_asg rfl rfl) ?_
    refine rz [(2, .i (0 : Int))] [] rfl rfl rfl ?_
    refine AW2_ret ?_
    have hz := some_elim H
    subst hz
    exact ⟨⟨res_tmp (.same _), trivial⟩, trivial⟩

/-! chirographref.noExpr -/
noncomputable def g_ref_noExpr (e0 : GExpr) : Option (Bool) :=
  some (decide ((((e0.Op = (0 : Int)) ∧ (e0.Value = GValue.zero)) ∧ (e0.Name = [])) ∧ ((e0.Args.length : Int) = (0 : Int))))
set_option maxHeartbeats 4000000 in
set_option maxRecDepth 100000 in
theorem g_ref_noExpr_ac {e0 : GExpr} {r : Bool} (H : g_ref_noExpr e0 = some r) : ACp Tryd.prog 25 [(.agg (GExpr.cs e0))] (AV.bool r) := by
 refine ACp_of (AC2_of_body (vs := [.b r]) Tryd.func25 rfl rfl (Nat.le_of_ble_eq_true rfl) rfl ?_) (fun _ => .same _)
 unfold g_ref_noExpr at H
 refine as2 [(0, .g (GExpr.cs e0))] [] rfl rfl rfl ?_
 refine sg [0, 1] rfl ?_
 refine r_op rfl rfl (MakeD.opD (n_box 1 rfl rfl) rfl rfl rfl rfl) ?_
 refine rp rfl rfl (p_asg rfl rfl) ?_
 refine rz [(1, .q 1 (0))] [(1, .pure (GExpr.cs e0))] rfl rfl rfl ?_
 refine AW2_seq ?_
 refine AW2_mid (⟨[(2, .b (decide ((((e0.Op = (0 : Int)) ∧ (e0.Value = GValue.zero)) ∧ (e0.Name = [])) ∧ ((e0.Args.length : Int) = (0 : Int)))))], [], 23⟩ : TS) ?_ ?_
 ·refine AW2_reg [0, 1, 2, 3, 4, 5, 6, 7, 8, 9, 10, 11, 12, 13, 14, 15, 16, 17, 18, 19, 20] rfl ?_
  refine rp rfl rfl (u_fa rfl rfl Tryd.underlying27 rfl in_3 (Nat.succ_ne_zero _) rfl rfl (ne_of_lt (n := 0) (Nat.lt_of_lt_of_eq (by decide) (Eq.symm (GExpr.len e0))))) ?_
  refine rp rfl rfl (u_ld rfl rfl Tryd.underlying3 rfl rfl ((Sub.refl _).trans (GExpr.sub0 e0))) ?_
  refine rp rfl rfl (p_ieq rfl rfl rfl) ?_
  refine rp rfl rfl (p_move rfl rfl) ?_
  refine (Classical.em (e0.Op = (0 : Int))).elim (fun h1 => ?_) (fun h1 => ?_)
  ·refine r_on rfl rfl rfl rfl (decide_eq_true h1) rfl (PureD.opD (u_fa rfl rfl Tryd.underlying27 rfl in_24 (Nat.succ_ne_zero _) rfl rfl (ne_of_lt (n := 0) (Nat.lt_of_lt_of_eq (by decide) (Eq.symm (GExpr.len e0)))))) ?_
   refine r_on rfl rfl rfl rfl (decide_eq_true h1) rfl (PureD.opD (u_lda rfl rfl Tryd.underlying24 rfl in_24 rfl (Nat.succ_pos _) ((Sub.refl _).trans (GExpr.sub1 e0)) (GValue.len e0.Value))) ?_
   refine r_on rfl rfl rfl rfl (decide_eq_true h1) rfl (PureD.opD (u_bld rfl in_24 one_24 zc_24 pl_24 rfl rfl)) ?_
   refine r_on rfl rfl rfl rfl (decide_eq_true h1) rfl (PureD.opD (p_eqa (a := e0.Value) (b := GValue.zero) rfl eq_24 rfl (by kernel_rfl) rfl rfl)) ?_
   refine rp rfl rfl (p_pkt rfl rfl (decide_eq_true h1) (tb ((and_l (p := e0.Op = (0 : Int)) (q := e0.Value = GValue.zero) h1)))) ?_
   refine rp rfl rfl (p_move rfl rfl) ?_
   refine (Classical.em (e0.Value = GValue.zero)).elim (fun h2 => ?_) (fun h2 => ?_)
   ·refine r_on rfl rfl rfl rfl (decide_eq_true (p := (e0.Op = (0 : Int)) ∧ (e0.Value = GValue.zero)) ⟨h1, h2⟩) rfl (PureD.opD (u_fa rfl rfl Tryd.underlying27 rfl in_9 (Nat.succ_ne_zero _) rfl rfl (ne_of_lt (n := 0) (Nat.lt_of_lt_of_eq (by decide) (Eq.symm (GExpr.len e0)))))) ?_
    refine r_on rfl rfl rfl rfl (decide_eq_true (p := (e0.Op = (0 : Int)) ∧ (e0.Value = GValue.zero)) ⟨h1, h2⟩) rfl (PureD.opD (u_ld rfl rfl Tryd.underlying9 rfl rfl ((Sub.refl _).trans (GExpr.sub2 e0)))) ?_
    refine r_on rfl rfl rfl rfl (decide_eq_true (p := (e0.Op = (0 : Int)) ∧ (e0.Value = GValue.zero)) ⟨h1, h2⟩) rfl (PureD.opD (p_seq rfl rfl rfl)) ?_
    refine rp rfl rfl (p_pkt rfl rfl (decide_eq_true (p := (e0.Op = (0 : Int)) ∧ (e0.Value = GValue.zero)) ⟨h1, h2⟩) (tb ((and_l (p := (e0.Op = (0 : Int)) ∧ (e0.Value = GValue.zero)) (q := e0.Name = []) ⟨h1, h2⟩)))) ?_
    refine rp rfl rfl (p_move rfl rfl) ?_
    refine (Classical.em (e0.Name = [])).elim (fun h3 => ?_) (fun h3 => ?_)
    ·refine r_on rfl rfl rfl rfl (decide_eq_true (p := ((e0.Op = (0 : Int)) ∧ (e0.Value = GValue.zero)) ∧ (e0.Name = [])) ⟨⟨h1, h2⟩, h3⟩) rfl (PureD.opD (u_fa rfl rfl Tryd.underlying27 rfl in_25 (Nat.succ_ne_zero _) rfl rfl (ne_of_lt (n := 0) (Nat.lt_of_lt_of_eq (by decide) (Eq.symm (GExpr.len e0)))))) ?_
     refine r_on rfl rfl rfl rfl (decide_eq_true (p := ((e0.Op = (0 : Int)) ∧ (e0.Value = GValue.zero)) ∧ (e0.Name = [])) ⟨⟨h1, h2⟩, h3⟩) rfl (PureD.opD (u_ld rfl rfl Tryd.underlying25 rfl rfl ((Sub.refl _).trans (GExpr.sub3 e0)))) ?_
     refine r_on rfl rfl rfl rfl (decide_eq_true (p := ((e0.Op = (0 : Int)) ∧ (e0.Value = GValue.zero)) ∧ (e0.Name = [])) ⟨⟨h1, h2⟩, h3⟩) rfl (PureD.opD (p_lenl rfl Tryd.underlying25 rfl rfl)) ?_
     refine r_on rfl rfl rfl rfl (decide_eq_true (p := ((e0.Op = (0 : Int)) ∧ (e0.Value = GValue.zero)) ∧ (e0.Name = [])) ⟨⟨h1, h2⟩, h3⟩) rfl (PureD.opD (p_ieq rfl rfl rfl)) ?_
     refine rp rfl rfl (p_pkt rfl rfl (decide_eq_true (p := ((e0.Op = (0 : Int)) ∧ (e0.Value = GValue.zero)) ∧ (e0.Name = [])) ⟨⟨h1, h2⟩, h3⟩) (tb ((and_l (p := ((e0.Op = (0 : Int)) ∧ (e0.Value = GValue.zero)) ∧ (e0.Name = [])) (q := (e0.Args.length : Int) = (0 : Int)) ⟨⟨h1, h2⟩, h3⟩)))) ?_
     refine rp rfl rfl (p_asg rfl rfl) ?_
     refine rs [(2, .b (decide ((((e0.Op = (0 : Int)) ∧ (e0.Value = GValue.zero)) ∧ (e0.Name = [])) ∧ ((e0.Args.length : Int) = (0 : Int)))))] [] rfl rfl rfl ?_
     exact RunW_nil rfl
    ·refine r_off rfl rfl rfl rfl (decide_eq_false (p := ((e0.Op = (0 : Int)) ∧ (e0.Value = GValue.zero)) ∧ (e0.Name = [])) (fun h => h3 h.2)) rfl rfl ?_
     refine r_off rfl rfl rfl rfl (decide_eq_false (p := ((e0.Op = (0 : Int)) ∧ (e0.Value = GValue.zero)) ∧ (e0.Name = [])) (fun h => h3 h.2)) rfl rfl ?_
     refine r_off rfl rfl rfl rfl (decide_eq_false (p := ((e0.Op = (0 : Int)) ∧ (e0.Value = GValue.zero)) ∧ (e0.Name = [])) (fun h => h3 h.2)) rfl rfl ?_
     refine r_off rfl rfl rfl rfl (decide_eq_false (p := ((e0.Op = (0 : Int)) ∧ (e0.Value = GValue.zero)) ∧ (e0.Name = [])) (fun h => h3 h.2)) rfl rfl ?_
     refine rp rfl rfl (p_pkf rfl rfl (decide_eq_false (p := ((e0.Op = (0 : Int)) ∧ (e0.Value = GValue.zero)) ∧ (e0.Name = [])) (fun h => h3 h.2)) (tb (decide_eq_false (p := (((e0.Op = (0 : Int)) ∧ (e0.Value = GValue.zero)) ∧ (e0.Name = [])) ∧ ((e0.Args.length : Int) = (0 : Int))) (fun x => (fun h => h3 h.2) x.1)).symm)) ?_
     refine rp rfl rfl (p_asg rfl rfl) ?_
     refine rs [(2, .b (decide ((((e0.Op = (0 : Int)) ∧ (e0.Value = GValue.zero)) ∧ (e0.Name = [])) ∧ ((e0.Args.length : Int) = (0 : Int)))))] [] rfl rfl rfl ?_
     exact RunW_nil rfl
   ·refine r_off rfl rfl rfl rfl (decide_eq_false (p := (e0.Op = (0 : Int)) ∧ (e0.Value = GValue.zero)) (fun h => h2 h.2)) rfl rfl ?_
    refine r_off rfl rfl rfl rfl (decide_eq_false (p := (e0.Op = (0 : Int)) ∧ (e0.Value = GValue.zero)) (fun h => h2 h.2)) rfl rfl ?_
    refine r_off rfl rfl rfl rfl (decide_eq_false (p := (e0.Op = (0 : Int)) ∧ (e0.Value = GValue.zero)) (fun h => h2 h.2)) rfl rfl ?_
    refine rp rfl rfl (p_pkf rfl rfl (decide_eq_false (p := (e0.Op = (0 : Int)) ∧ (e0.Value = GValue.zero)) (fun h => h2 h.2)) (tb (decide_eq_false (p := ((e0.Op = (0 : Int)) ∧ (e0.Value = GValue.zero)) ∧ (e0.Name = [])) (fun x => (fun h => h2 h.2) x.1)).symm)) ?_
    refine rp rfl rfl (p_move rfl rfl) ?_
    refine r_off rfl rfl rfl rfl (decide_eq_false (p := ((e0.Op = (0 : Int)) ∧ (e0.Value = GValue.zero)) ∧ (e0.Name = [])) (fun h => (fun h => h2 h.2) h.1)) rfl rfl ?_
    refine r_off rfl rfl rfl rfl (decide_eq_false (p := ((e0.Op = (0 : Int)) ∧ (e0.Value = GValue.zero)) ∧ (e0.Name = [])) (fun h => (fun h => h2 h.2) h.1)) rfl rfl ?_
    refine r_off rfl rfl rfl rfl (decide_eq_false (p := ((e0.Op = (0 : Int)) ∧ (e0.Value = GValue.zero)) ∧ (e0.Name = [])) (fun h => (fun h => h2 h.2) h.1)) rfl rfl ?_
    refine r_off rfl rfl rfl rfl (decide_eq_false (p := ((e0.Op = (0 : Int)) ∧ (e0.Value = GValue.zero)) ∧ (e0.Name = [])) (fun h => (fun h => h2 h.2) h.1)) rfl rfl ?_
    refine rp rfl rfl (p_pkf rfl rfl (decide_eq_false (p := ((e0.Op = (0 : Int)) ∧ (e0.Value = GValue.zero)) ∧ (e0.Name = [])) (fun h => (fun h => h2 h.2) h.1)) (tb (decide_eq_false (p := (((e0.Op = (0 : Int)) ∧ (e0.Value = GValue.zero)) ∧ (e0.Name = [])) ∧ ((e0.Args.length : Int) = (0 : Int))) (fun x => (fun h => (fun h => h2 h.2) h.1) x.1)).symm)) ?_
    refine rp rfl rfl (p_asg rfl rfl) ?_
    refine rs [(2, .b (decide ((((e0.Op = (0 : Int)) ∧ (e0.Value = GValue.zero)) ∧ (e0.Name = [])) ∧ ((e0.Args.length : Int) = (0 : Int)))))] [] rfl rfl rfl ?_
    exact RunW_nil rfl
  ·refine r_off rfl rfl rfl rfl (decide_eq_false h1) rfl rfl ?_
   refine r_off rfl rfl rfl rfl (decide_eq_false h1) rfl rfl ?_
   refine r_off rfl rfl rfl rfl (decide_eq_false h1) rfl rfl ?_
   refine r_off rfl rfl rfl rfl (decide_eq_false h1) rfl rfl ?_
   refine rp rfl rfl (p_pkf rfl rfl (decide_eq_false h1) (tb (decide_eq_false (p := (e0.Op = (0 : Int)) ∧ (e0.Value = GValue.zero)) (fun x => h1 x.1)).symm)) ?_
   refine rp rfl rfl (p_move rfl rfl) ?_
   refine r_off rfl rfl rfl rfl (decide_eq_false (p := (e0.Op = (0 : Int)) ∧ (e0.Value = GValue.zero)) (fun h => h1 h.1)) rfl rfl ?_
   refine r_off rfl rfl rfl rfl (decide_eq_false (p := (e0.Op = (0 : Int)) ∧ (e0.Value = GValue.zero)) (fun h => h1 h.1)) rfl rfl ?_
   refine r_off rfl rfl rfl rfl (decide_eq_false (p := (e0.Op = (0 : Int)) ∧ (e0.Value = GValue.zero)) (fun h => h1 h.1)) rfl rfl ?_
   refine rp rfl rfl (p_pkf rfl rfl (decide_eq_false (p := (e0.Op = (0 : Int)) ∧ (e0.Value = GValue.zero)) (fun h => h1 h.1)) (tb (decide_eq_false (p := ((e0.Op = (0 : Int)) ∧ (e0.Value = GValue.zero)) ∧ (e0.Name = [])) (fun x => (fun h => h1 h.1) x.1)).symm)) ?_
   refine rp rfl rfl (p_move rfl rfl) ?_
   refine r_off rfl rfl rfl rfl (decide_eq_false (p := ((e0.Op = (0 : Int)) ∧ (e0.Value = GValue.zero)) ∧ (e0.Name = [])) (fun h => (fun h => h1 h.1) h.1)) rfl rfl ?_
   refine r_off rfl rfl rfl rfl (decide_eq_false (p := ((e0.Op = (0 : Int)) ∧ (e0.Value = GValue.zero)) ∧ (e0.Name = [])) (fun h => (fun h => h1 h.1) h.1)) rfl rfl ?_
   refine r_off rfl rfl rfl rfl (decide_eq_false (p := ((e0.Op = (0 : Int)) ∧ (e0.Value = GValue.zero)) ∧ (e0.Name = [])) (fun h => (fun h => h1 h.1) h.1)) rfl rfl ?_
   refine r_off rfl rfl rfl rfl (decide_eq_false (p := ((e0.Op = (0 : Int)) ∧ (e0.Value = GValue.zero)) ∧ (e0.Name = [])) (fun h => (fun h => h1 h.1) h.1)) rfl rfl ?_
   refine rp rfl rfl (p_pkf rfl rfl (decide_eq_false (p := ((e0.Op = (0 : Int)) ∧ (e0.Value = GValue.zero)) ∧ (e0.Name = [])) (fun h => (fun h => h1 h.1) h.1)) (tb (decide_eq_false (p := (((e0.Op = (0 : Int)) ∧ (e0.Value = GValue.zero)) ∧ (e0.Name = [])) ∧ ((e0.Args.length : Int) = (0 : Int))) (fun x => (fun h => (fun h => h1 h.1) h.1) x.1)).symm)) ?_
   refine rp rfl rfl (p_asg rfl rfl) ?_
   refine rs [(2, .b (decide ((((e0.Op = (0 : Int)) ∧ (e0.Value = GValue.zero)) ∧ (e0.Name = [])) ∧ ((e0.Args.length : Int) = (0 : Int)))))] [] rfl rfl rfl ?_
   exact RunW_nil rfl
 ·refine AW2_ret ?_
  have hz := some_elim H
  subst hz
  exact ⟨⟨res_tmp (.same _), trivial⟩, trivial⟩

/-! chirographref.within -/
noncomputable def g_ref_within_l1 (row3_0 : List GExpr) : Int × (List GExpr) → Option ((Int × (List GExpr)) ⊕ (Bool ⊕ ((List GExpr))))
  | (t28_1, next6_1) => (if t28_1 < (row3_0.length : Int) then if 0 ≤ t28_1 ∧ t28_1 < (row3_0.length : Int) then (if (((lrd row3_0 t28_1.toNat).Args).length : Int) > (40 : Int) then some (.inr (.inl false)) else if room (next6_1.length + ((lrd row3_0 t28_1.toNat).Args).length) 88 then (if ((next6_1 ++ ((lrd row3_0 t28_1.toNat).Args)).length : Int) > (40 : Int) then some (.inr (.inl false)) else some (.inl (w64 (t28_1 + (1 : Int)), next6_1 ++ ((lrd row3_0 t28_1.toNat).Args)))) else none) else none else some (.inr (.inr next6_1)))
noncomputable def g_ref_within_l0 : Int × Int × (List GExpr) → Option ((Int × Int × (List GExpr)) ⊕ (Bool ⊕ Unit))
  | (all4_0, deep5_0, row3_0) => (if (row3_0.length : Int) > (0 : Int) then (if (deep5_0 > (7 : Int)) ∨ (w64 (all4_0 + (row3_0.length : Int)) > (40 : Int)) then some (.inr (.inl false)) else (loopO (g_ref_within_l1 row3_0) ((0 : Int), ([] : List GExpr))).bind fun o'4 => match o'4 with | .inl y'5 => some (.inr (.inl y'5)) | .inr (y'6) => some (.inl (w64 (all4_0 + (row3_0.length : Int)), w64 (deep5_0 + (1 : Int)), y'6))) else some (.inr (.inr ())))
noncomputable def g_ref_within (e0 : GExpr) : Option (Bool) :=
  (loopO (g_ref_within_l0) ((0 : Int), (1 : Int), ([e0] : List GExpr))).bind fun o'10 => match o'10 with | .inl y'11 => some y'11 | .inr (y'12) => some true
set_option maxHeartbeats 4000000 in
set_option maxRecDepth 100000 in
theorem g_ref_within_ac {e0 : GExpr} {r : Bool} (H : g_ref_within e0 = some r) : ACp Tryd.prog 33 [(.agg (GExpr.cs e0))] (AV.bool r) := by
 refine ACp_of (AC2_of_body (vs := [.b r]) Tryd.func33 rfl rfl (Nat.le_of_ble_eq_true rfl) rfl ?_) (fun _ => .same _)
 unfold g_ref_within at H
 refine as2 [(0, .g (GExpr.cs e0))] [] rfl rfl rfl ?_
 refine sg [0, 1] rfl ?_
 refine r_op rfl rfl (MakeD.opD (n_box 1 rfl rfl) rfl rfl rfl rfl) ?_
 refine rp rfl rfl (p_asg rfl rfl) ?_
 refine rz [(1, .q 1 (0))] [(1, .pure (GExpr.cs e0))] rfl rfl rfl ?_
 refine sg [0, 1, 2] rfl ?_
 refine rp rfl rfl (u_lda rfl rfl Tryd.underlying27 rfl in_27 rfl (Nat.succ_pos _) (Sub.refl _) (GExpr.len e0)) ?_
 refine r_op rfl rfl (MakeD.opD (u_bs 10 rfl Tryd.underlying25 in_27 rfl one_27 (by decide) (by decide) zc_27 rfl (af_lit (g := GExpr.cs) (fun x => (GExpr.len x)) (GExpr.len GExpr.zero) [e0])) rfl rfl rfl rfl) ?_
 refine rp rfl rfl (p_asg rfl rfl) ?_
 refine RunW_st [(3, .c (.own 10 ([e0] : List GExpr).length 7))] [(10, .pure (([e0] : List GExpr).flatMap GExpr.cs))] rfl ⟨TLes.own rfl, trivial⟩ ⟨rfl, trivial⟩ ?_
 refine RunW_gho (Gho_ren 10 3 rfl rfl rfl rfl rfl) ?_
 refine rz [(3, .c (.own 3 ([e0] : List GExpr).length 7))] [(3, .pure (([e0] : List GExpr).flatMap GExpr.cs))] rfl rfl rfl ?_
 refine sg [0] rfl ?_
 refine rp rfl rfl (p_asg rfl rfl) ?_
 refine rz [(3, .c (.own 3 ([e0] : List GExpr).length 7)), (4, .i (0 : Int))] [(3, .pure (([e0] : List GExpr).flatMap GExpr.cs))] rfl rfl rfl ?_
 refine AW2_seq ?_
 refine sg [0] rfl ?_
 refine rp rfl rfl (p_asg rfl rfl) ?_
 refine rz [(3, .c (.own 3 ([e0] : List GExpr).length 7)), (4, .i (0 : Int)), (5, .i (1 : Int))] [(3, .pure (([e0] : List GExpr).flatMap GExpr.cs))] rfl rfl rfl ?_
 refine AW2_block ?_
 refine as2 [(3, .c (.own 3 ([e0] : List GExpr).length 7)), (4, .i (0 : Int)), (5, .i (1 : Int))] [(3, .pure (([e0] : List GExpr).flatMap GExpr.cs))] rfl rfl rfl ?_
 refine bindK H fun o'10 h10 H => ?_
 refine AW2_loopO (fun a'7 : Int × Int × (List GExpr) => (⟨[(3, .c (.own 3 a'7.2.2.length 7)), (4, .i a'7.1), (5, .i a'7.2.1)], [(3, .pure (a'7.2.2.flatMap GExpr.cs))], 45⟩ : TS)) (fun (o : Bool ⊕ Unit) e s' => match o with | .inl y'8 => e = Go.Exit.ret ∧ ResAll Tryd.prog s' [ResultVar.tmp 2] [.b y'8] ∧ HFits s' [] | .inr (y'9) => e = Go.Exit.exit 0 ∧ s' = (⟨[], [], 45⟩ : TS)) h10 rfl (fun a x hx => ?_) (fun e s' hs => ?_)
 ·clear H
  obtain ⟨all4_0, deep5_0, row3_0⟩ := a
  have H := hx
  clear hx
  unfold g_ref_within_l0 at H
  refine AW2_seq ?_
  refine sg [0, 1, 2] rfl ?_
  refine rp rfl rfl (p_move rfl rfl) ?_
  refine rp rfl rfl (p_leno rfl Tryd.underlying25 rfl rfl rfl (fm_length (fun x => (GExpr.len x)) row3_0) (by decide)) ?_
  refine rp rfl rfl (p_bin rfl rfl rfl rfl) ?_
  refine rz [(3, .c (.own 3 row3_0.length 7)), (4, .i all4_0), (5, .i deep5_0), (13, .b (decide ((row3_0.length : Int) > (0 : Int))))] [(3, .pure (row3_0.flatMap GExpr.cs))] rfl rfl rfl ?_
  refine AW2_if (p := (row3_0.length : Int) > (0 : Int)) rfl (fun h1 => ?_) (fun h1 => ?_)
  ·replace H := ite_then h1 H
   refine as2 [(3, .c (.own 3 row3_0.length 7)), (4, .i all4_0), (5, .i deep5_0)] [(3, .pure (row3_0.flatMap GExpr.cs))] rfl rfl rfl ?_
   refine AW2_skip ?_
   refine AW2_seq ?_
   refine AW2_block ?_
   refine sg [0, 1, 2, 3, 4] rfl ?_
   refine rp rfl rfl (p_move rfl rfl) ?_
   refine rp rfl rfl (p_move rfl rfl) ?_
   refine rp rfl rfl (p_leno rfl Tryd.underlying25 rfl rfl rfl (fm_length (fun x => (GExpr.len x)) row3_0) (by decide)) ?_
   refine rp rfl rfl (p_bin rfl rfl rfl rfl) ?_
   refine rp rfl rfl (p_asg rfl rfl) ?_
   refine rz [(3, .c (.own 3 row3_0.length 7)), (4, .i (w64 (all4_0 + (row3_0.length : Int)))), (5, .i deep5_0)] [(3, .pure (row3_0.flatMap GExpr.cs))] rfl rfl rfl ?_
   refine AW2_seq ?_
   refine AW2_seq ?_
   refine AW2_mid (⟨[(3, .c (.own 3 row3_0.length 7)), (4, .i (w64 (all4_0 + (row3_0.length : Int)))), (5, .i deep5_0), (25, .b (decide ((deep5_0 > (7 : Int)) ∨ (w64 (all4_0 + (row3_0.length : Int)) > (40 : Int)))))], [(3, .pure (row3_0.flatMap GExpr.cs))], 45⟩ : TS) ?_ ?_
   ·refine AW2_reg [0, 1, 2, 3, 4, 5] rfl ?_
    refine rp rfl rfl (p_move rfl rfl) ?_
    refine rp rfl rfl (p_bin rfl rfl rfl rfl) ?_
    refine rp rfl rfl (p_move rfl rfl) ?_
    refine (Classical.em (deep5_0 > (7 : Int))).elim (fun h2 => ?_) (fun h2 => ?_)
    ·refine r_off rfl rfl rfl rfl (decide_eq_true h2) rfl rfl ?_
     refine r_off rfl rfl rfl rfl (decide_eq_true h2) rfl rfl ?_
     refine rp rfl rfl (p_pkt rfl rfl (decide_eq_true h2) (tb (decide_eq_true (p := (deep5_0 > (7 : Int)) ∨ (w64 (all4_0 + (row3_0.length : Int)) > (40 : Int))) (Or.inl h2)).symm)) ?_
     refine rs [(3, .c (.own 3 row3_0.length 7)), (4, .i (w64 (all4_0 + (row3_0.length : Int)))), (5, .i deep5_0), (25, .b (decide ((deep5_0 > (7 : Int)) ∨ (w64 (all4_0 + (row3_0.length : Int)) > (40 : Int)))))] [(3, .pure (row3_0.flatMap GExpr.cs))] rfl rfl rfl ?_
     exact RunW_nil rfl
    ·refine r_on rfl rfl rfl rfl (decide_eq_false h2) rfl (PureD.opD (p_move rfl rfl)) ?_
     refine r_on rfl rfl rfl rfl (decide_eq_false h2) rfl (PureD.opD (p_bin rfl rfl rfl rfl)) ?_
     refine rp rfl rfl (p_pkf rfl rfl (decide_eq_false h2) (tb ((or_l (p := deep5_0 > (7 : Int)) (q := w64 (all4_0 + (row3_0.length : Int)) > (40 : Int)) h2)))) ?_
     refine rs [(3, .c (.own 3 row3_0.length 7)), (4, .i (w64 (all4_0 + (row3_0.length : Int)))), (5, .i deep5_0), (25, .b (decide ((deep5_0 > (7 : Int)) ∨ (w64 (all4_0 + (row3_0.length : Int)) > (40 : Int)))))] [(3, .pure (row3_0.flatMap GExpr.cs))] rfl rfl rfl ?_
     exact RunW_nil rfl
   ·refine AW2_if (p := (deep5_0 > (7 : Int)) ∨ (w64 (all4_0 + (row3_0.length : Int)) > (40 : Int))) rfl (fun h3 => ?_) (fun h3 => ?_)
    ·replace H := ite_then h3 H
     refine sg [0] rfl ?_
     refine rp rfl rfl (p_asg rfl rfl) ?_
     refine rz [(2, .b false)] [] rfl rfl rfl ?_
     refine AW2_ret ?_
     have hz := some_elim H
     subst hz
     exact ⟨rfl, ⟨res_tmp (.same _), trivial⟩, trivial⟩
    ·replace H := ite_else h3 H
     refine as2 [(3, .c (.own 3 row3_0.length 7)), (4, .i (w64 (all4_0 + (row3_0.length : Int)))), (5, .i deep5_0)] [(3, .pure (row3_0.flatMap GExpr.cs))] rfl rfl rfl ?_
     refine AW2_skip ?_
     refine sg [0] rfl ?_
     refine rp rfl rfl (p_asgn rfl) ?_
     refine rz [(3, .c (.own 3 row3_0.length 7)), (4, .i (w64 (all4_0 + (row3_0.length : Int)))), (5, .i deep5_0), (6, .p .nil)] [(3, .pure (row3_0.flatMap GExpr.cs))] rfl rfl rfl ?_
     refine AW2_seq ?_
     refine sg [0, 1, 2] rfl ?_
     refine rp rfl rfl (p_move rfl rfl) ?_
     refine rp rfl rfl (p_leno rfl Tryd.underlying25 rfl rfl rfl (fm_length (fun x => (GExpr.len x)) row3_0) (by decide)) ?_
     refine rp rfl rfl (p_move rfl rfl) ?_
     refine rs [(4, .i (w64 (all4_0 + (row3_0.length : Int)))), (5, .i deep5_0), (6, .p .nil), (26, .c (.own 3 row3_0.length 7)), (27, .i (row3_0.length : Int)), (28, .i (0 : Int))] [(3, .pure (row3_0.flatMap GExpr.cs))] rfl rfl rfl ?_
     refine RunW_gho (Gho_ren 3 26 rfl rfl rfl rfl rfl) ?_
     refine rz [(4, .i (w64 (all4_0 + (row3_0.length : Int)))), (5, .i deep5_0), (6, .p .nil), (26, .c (.own 26 row3_0.length 7)), (27, .i (row3_0.length : Int)), (28, .i (0 : Int))] [(26, .pure (row3_0.flatMap GExpr.cs))] rfl rfl rfl ?_
     refine AW2_block ?_
     refine as2 [(4, .i (w64 (all4_0 + (row3_0.length : Int)))), (5, .i deep5_0), (6, .p .nil), (26, .c (.own 26 row3_0.length 7)), (27, .i (row3_0.length : Int)), (28, .i (0 : Int))] [(26, .pure (row3_0.flatMap GExpr.cs))] rfl rfl rfl ?_
     refine AW2_gho (Gho_own (d := 6) (b := 6) (z := 7) rfl rfl rfl rfl) ?_
     refine AW2_st [(4, .i (w64 (all4_0 + (row3_0.length : Int)))), (5, .i deep5_0), (6, .c (.own 6 ([] : List GExpr).length 7)), (26, .c (.own 26 row3_0.length 7)), (27, .i (row3_0.length : Int)), (28, .i (0 : Int))] [(6, .pure (([] : List GExpr).flatMap GExpr.cs)), (26, .pure (row3_0.flatMap GExpr.cs))] rfl ⟨TLes.same _, TLes.same _, TLes.own rfl, TLes.same _, TLes.same _, TLes.same _, trivial⟩ ⟨rfl, rfl, trivial⟩ ?_
     refine bindK H fun o'4 h9 H => ?_
     refine AW2_loopO (fun a'1 : Int × (List GExpr) => (⟨[(4, .i (w64 (all4_0 + (row3_0.length : Int)))), (5, .i deep5_0), (6, .c (.own 6 a'1.2.length 7)), (26, .c (.own 26 row3_0.length 7)), (27, .i (row3_0.length : Int)), (28, .i a'1.1)], [(6, .pure (a'1.2.flatMap GExpr.cs)), (26, .pure (row3_0.flatMap GExpr.cs))], 45⟩ : TS)) (fun (o : Bool ⊕ ((List GExpr))) e s' => match o with | .inl y'2 => e = Go.Exit.ret ∧ ResAll Tryd.prog s' [ResultVar.tmp 2] [.b y'2] ∧ HFits s' [] | .inr (y'3) => e = Go.Exit.exit 2 ∧ s' = (⟨[(4, .i (w64 (all4_0 + (row3_0.length : Int)))), (5, .i deep5_0), (6, .c (.own 6 y'3.length 7))], [(6, .pure (y'3.flatMap GExpr.cs))], 45⟩ : TS)) h9 rfl (fun a x hx => ?_) (fun e s' hs => ?_)
     ·clear H
      obtain ⟨t28_1, next6_1⟩ := a
      have H := hx
      clear hx
      unfold g_ref_within_l1 at H
      refine sg [0] rfl ?_
      refine rp rfl rfl (p_bin rfl rfl rfl rfl) ?_
      refine rz [(4, .i (w64 (all4_0 + (row3_0.length : Int)))), (5, .i deep5_0), (6, .c (.own 6 next6_1.length 7)), (26, .c (.own 26 row3_0.length 7)), (27, .i (row3_0.length : Int)), (28, .i t28_1), (29, .b (decide (t28_1 < (row3_0.length : Int))))] [(6, .pure (next6_1.flatMap GExpr.cs)), (26, .pure (row3_0.flatMap GExpr.cs))] rfl rfl rfl ?_
      refine AW2_seq ?_
      refine AW2_if (p := t28_1 < (row3_0.length : Int)) rfl (fun h4 => ?_) (fun h4 => ?_)
      ·replace H := ite_then h4 H
       refine as2 [(4, .i (w64 (all4_0 + (row3_0.length : Int)))), (5, .i deep5_0), (6, .c (.own 6 next6_1.length 7)), (26, .c (.own 26 row3_0.length 7)), (27, .i (row3_0.length : Int)), (28, .i t28_1)] [(6, .pure (next6_1.flatMap GExpr.cs)), (26, .pure (row3_0.flatMap GExpr.cs))] rfl rfl rfl ?_
       refine AW2_skip ?_
       refine AW2_seq ?_
       refine AW2_block ?_
       refine sg [0, 1, 2, 3] rfl ?_
       refine chkK H fun h5 H => ?_
       refine rp rfl rfl (u_ixo rfl rfl Tryd.underlying25 in_27 rfl rfl (fne (fun x => (GExpr.len x)) (by decide) (ixn h5)) rfl (ixe h5) (ixn h5)) ?_
       refine rp rfl rfl (u_lda rfl rfl Tryd.underlying27 rfl in_27 rfl (Nat.succ_pos _) ((Sub.refl _).trans (Sub.fm default (fun x => (GExpr.len x)) (ixn h5))) (GExpr.len (lrd row3_0 t28_1.toNat))) ?_
       refine r_op rfl rfl (MakeD.opD (u_alloc 8 rfl in_27 one_27 zc_27) rfl rfl rfl rfl) ?_
       refine r_op rfl rfl (u_st rfl rfl rfl rfl rfl in_27 (GExpr.len (lrd row3_0 t28_1.toNat)) (ne_of_lt (n := 0) (Nat.lt_of_lt_of_eq (by decide) (Eq.symm (GExpr.len GExpr.zero)))) (Upd.refl ((GExpr.len (lrd row3_0 t28_1.toNat)).trans (GExpr.len GExpr.zero).symm))) ?_
       refine rz [(4, .i (w64 (all4_0 + (row3_0.length : Int)))), (5, .i deep5_0), (6, .c (.own 6 next6_1.length 7)), (8, .q 8 (0)), (26, .c (.own 26 row3_0.length 7)), (27, .i (row3_0.length : Int)), (28, .i t28_1)] [(6, .pure (next6_1.flatMap GExpr.cs)), (8, .pure (GExpr.cs (lrd row3_0 t28_1.toNat))), (26, .pure (row3_0.flatMap GExpr.cs))] rfl rfl rfl ?_
       refine AW2_seq ?_
       refine sg [0, 1, 2, 3] rfl ?_
       refine rp rfl rfl (u_fa rfl rfl Tryd.underlying27 rfl in_25 (Nat.succ_ne_zero _) rfl rfl (ne_of_lt (n := 0) (Nat.lt_of_lt_of_eq (by decide) (Eq.symm (GExpr.len (lrd row3_0 t28_1.toNat)))))) ?_
       refine rp rfl rfl (u_ld rfl rfl Tryd.underlying25 rfl rfl ((Sub.refl _).trans (GExpr.sub3 (lrd row3_0 t28_1.toNat)))) ?_
       refine rp rfl rfl (p_lenl rfl Tryd.underlying25 rfl rfl) ?_
       refine rp rfl rfl (p_bin rfl rfl rfl rfl) ?_
       refine rz [(4, .i (w64 (all4_0 + (row3_0.length : Int)))), (5, .i deep5_0), (6, .c (.own 6 next6_1.length 7)), (8, .q 8 (0)), (26, .c (.own 26 row3_0.length 7)), (27, .i (row3_0.length : Int)), (28, .i t28_1), (35, .b (decide ((((lrd row3_0 t28_1.toNat).Args).length : Int) > (40 : Int))))] [(6, .pure (next6_1.flatMap GExpr.cs)), (8, .pure (GExpr.cs (lrd row3_0 t28_1.toNat))), (26, .pure (row3_0.flatMap GExpr.cs))] rfl rfl rfl ?_
       refine AW2_if (p := (((lrd row3_0 t28_1.toNat).Args).length : Int) > (40 : Int)) rfl (fun h6 => ?_) (fun h6 => ?_)
       ·replace H := ite_then h6 H
        refine sg [0] rfl ?_
        refine rp rfl rfl (p_asg rfl rfl) ?_
        refine rz [(2, .b false)] [] rfl rfl rfl ?_
        refine AW2_ret ?_
        have hz := some_elim H
        subst hz
        exact ⟨rfl, ⟨res_tmp (.same _), trivial⟩, trivial⟩
       ·replace H := ite_else h6 H
        refine as2 [(4, .i (w64 (all4_0 + (row3_0.length : Int)))), (5, .i deep5_0), (6, .c (.own 6 next6_1.length 7)), (8, .q 8 (0)), (26, .c (.own 26 row3_0.length 7)), (27, .i (row3_0.length : Int)), (28, .i t28_1)] [(6, .pure (next6_1.flatMap GExpr.cs)), (8, .pure (GExpr.cs (lrd row3_0 t28_1.toNat))), (26, .pure (row3_0.flatMap GExpr.cs))] rfl rfl rfl ?_
        refine AW2_skip ?_
        refine sg [0, 1, 2, 3, 4] rfl ?_
        refine rp rfl rfl (p_move rfl rfl) ?_
        refine rp rfl rfl (u_fa rfl rfl Tryd.underlying27 rfl in_25 (Nat.succ_ne_zero _) rfl rfl (ne_of_lt (n := 0) (Nat.lt_of_lt_of_eq (by decide) (Eq.symm (GExpr.len (lrd row3_0 t28_1.toNat)))))) ?_
        refine rp rfl rfl (u_ld rfl rfl Tryd.underlying25 rfl rfl ((Sub.refl _).trans (GExpr.sub3 (lrd row3_0 t28_1.toNat)))) ?_
        refine chkK H fun h7 H => ?_
        refine r_op rfl rfl (u_app [6, 36] rfl rfl rfl rfl Tryd.underlying25 Tryd.underlying25 in_27 rfl rfl rfl (fm_length (fun x => (GExpr.len x)) next6_1) (by decide) rfl (fm_length (fun x => (GExpr.len x)) ((lrd row3_0 t28_1.toNat).Args)) h7 (by decide) rfl rfl (fapp GExpr.cs next6_1 ((lrd row3_0 t28_1.toNat).Args)) (lapp next6_1 ((lrd row3_0 t28_1.toNat).Args))) ?_
        refine rp rfl rfl (p_asg rfl rfl) ?_
        refine rz [(4, .i (w64 (all4_0 + (row3_0.length : Int)))), (5, .i deep5_0), (6, .c (.own 6 (next6_1 ++ ((lrd row3_0 t28_1.toNat).Args)).length 7)), (26, .c (.own 26 row3_0.length 7)), (27, .i (row3_0.length : Int)), (28, .i t28_1)] [(6, .pure ((next6_1 ++ ((lrd row3_0 t28_1.toNat).Args)).flatMap GExpr.cs)), (26, .pure (row3_0.flatMap GExpr.cs))] rfl rfl rfl ?_
        refine sg [0, 1, 2] rfl ?_
        refine rp rfl rfl (p_move rfl rfl) ?_
        refine rp rfl rfl (p_leno rfl Tryd.underlying25 rfl rfl rfl (fm_length (fun x => (GExpr.len x)) (next6_1 ++ ((lrd row3_0 t28_1.toNat).Args))) (by decide)) ?_
        refine rp rfl rfl (p_bin rfl rfl rfl rfl) ?_
        refine rz [(4, .i (w64 (all4_0 + (row3_0.length : Int)))), (5, .i deep5_0), (6, .c (.own 6 (next6_1 ++ ((lrd row3_0 t28_1.toNat).Args)).length 7)), (26, .c (.own 26 row3_0.length 7)), (27, .i (row3_0.length : Int)), (28, .i t28_1), (42, .b (decide (((next6_1 ++ ((lrd row3_0 t28_1.toNat).Args)).length : Int) > (40 : Int))))] [(6, .pure ((next6_1 ++ ((lrd row3_0 t28_1.toNat).Args)).flatMap GExpr.cs)), (26, .pure (row3_0.flatMap GExpr.cs))] rfl rfl rfl ?_
        refine AW2_if (p := ((next6_1 ++ ((lrd row3_0 t28_1.toNat).Args)).length : Int) > (40 : Int)) rfl (fun h8 => ?_) (fun h8 => ?_)
        ·replace H := ite_then h8 H
         refine sg [0] rfl ?_
         refine rp rfl rfl (p_asg rfl rfl) ?_
         refine rz [(2, .b false)] [] rfl rfl rfl ?_
         refine AW2_ret ?_
         have hz := some_elim H
         subst hz
         exact ⟨rfl, ⟨res_tmp (.same _), trivial⟩, trivial⟩
        ·replace H := ite_else h8 H
         refine as2 [(4, .i (w64 (all4_0 + (row3_0.length : Int)))), (5, .i deep5_0), (6, .c (.own 6 (next6_1 ++ ((lrd row3_0 t28_1.toNat).Args)).length 7)), (26, .c (.own 26 row3_0.length 7)), (27, .i (row3_0.length : Int)), (28, .i t28_1)] [(6, .pure ((next6_1 ++ ((lrd row3_0 t28_1.toNat).Args)).flatMap GExpr.cs)), (26, .pure (row3_0.flatMap GExpr.cs))] rfl rfl rfl ?_
         refine AW2_skip ?_
         refine AW2_reg [0, 1] rfl ?_
         refine rp rfl rfl (p_bin rfl rfl rfl rfl) ?_
         refine rp rfl rfl (p_move rfl rfl) ?_
         refine rz [(4, .i (w64 (all4_0 + (row3_0.length : Int)))), (5, .i deep5_0), (6, .c (.own 6 (next6_1 ++ ((lrd row3_0 t28_1.toNat).Args)).length 7)), (26, .c (.own 26 row3_0.length 7)), (27, .i (row3_0.length : Int)), (28, .i (w64 (t28_1 + (1 : Int))))] [(6, .pure ((next6_1 ++ ((lrd row3_0 t28_1.toNat).Args)).flatMap GExpr.cs)), (26, .pure (row3_0.flatMap GExpr.cs))] rfl rfl rfl ?_
         have hz := some_elim H
         subst hz
         exact ⟨rfl, rfl⟩
      ·replace H := ite_else h4 H
       refine as2 [(4, .i (w64 (all4_0 + (row3_0.length : Int)))), (5, .i deep5_0), (6, .c (.own 6 next6_1.length 7))] [(6, .pure (next6_1.flatMap GExpr.cs))] rfl rfl rfl ?_
       refine AW2_exit ?_
       refine thenQ2_exit ?_
       have hz := some_elim H
       subst hz
       exact ⟨rfl, rfl⟩
     ·rcases o'4 with y'5 | y'6
      ·obtain ⟨rfl, hs⟩ := hs
       refine ⟨by simp, ?_⟩
       have hz := some_elim H
       subst hz
       exact ⟨rfl, hs.1, hs.2⟩
      ·obtain ⟨rfl, rfl⟩ := hs
       refine ⟨by simp, ?_⟩
       refine blockQ2_exit ?_
       refine AW2_reg [0, 1] rfl ?_
       refine rp rfl rfl (p_move rfl rfl) ?_
       refine rp rfl rfl (p_asg rfl rfl) ?_
       refine rs [(3, .c (.own 6 y'6.length 7)), (4, .i (w64 (all4_0 + (row3_0.length : Int)))), (5, .i deep5_0)] [(6, .pure (y'6.flatMap GExpr.cs))] rfl rfl rfl ?_
       refine RunW_gho (Gho_ren 6 3 rfl rfl rfl rfl rfl) ?_
       refine rz [(3, .c (.own 3 y'6.length 7)), (4, .i (w64 (all4_0 + (row3_0.length : Int)))), (5, .i deep5_0)] [(3, .pure (y'6.flatMap GExpr.cs))] rfl rfl rfl ?_
       refine AW2_reg [0, 1, 2] rfl ?_
       refine rp rfl rfl (p_move rfl rfl) ?_
       refine rp rfl rfl (p_bin rfl rfl rfl rfl) ?_
       refine rp rfl rfl (p_asg rfl rfl) ?_
       refine rz [(3, .c (.own 3 y'6.length 7)), (4, .i (w64 (all4_0 + (row3_0.length : Int)))), (5, .i (w64 (deep5_0 + (1 : Int))))] [(3, .pure (y'6.flatMap GExpr.cs))] rfl rfl rfl ?_
       have hz := some_elim H
       subst hz
       exact ⟨rfl, rfl⟩
  ·replace H := ite_else h1 H
   refine as2 [] [] rfl rfl rfl ?_
   refine AW2_exit ?_
   refine thenQ2_exit ?_
   have hz := some_elim H
   subst hz
   exact ⟨rfl, rfl⟩
 ·rcases o'10 with y'11 | y'12
  ·obtain ⟨rfl, hs⟩ := hs
   refine ⟨by simp, ?_⟩
   have hz := some_elim H
   subst hz
   exact ⟨hs.1, hs.2⟩
  ·obtain ⟨rfl, rfl⟩ := hs
   refine ⟨by simp, ?_⟩
   refine blockQ2_exit ?_
   refine sg [0] rfl ?_
   refine rp rfl rfl (p_asg rfl rfl) ?_
   refine rz [(2, .b true)] [] rfl rfl rfl ?_
   refine AW2_ret ?_
   have hz := some_elim H
   subst hz
   exact ⟨⟨res_tmp (.same _), trivial⟩, trivial⟩

/-! chirographref.badReal -/
noncomputable def g_ref_badReal (b0 : UInt64) : Option (Bool) :=
  some (decide ((b0 = (9223372036854775808 : UInt64)) ∨ ((18437736874454810624 : UInt64) < shl_u64 b0 1)))
set_option maxHeartbeats 4000000 in
set_option maxRecDepth 100000 in
theorem g_ref_badReal_ac {b0 : UInt64} {r : Bool} (H : g_ref_badReal b0 = some r) : ACp Tryd.prog 58 [(AV.u64 b0)] (AV.bool r) := by
 refine ACp_of (AC2_of_body (vs := [.b r]) Tryd.func58 rfl rfl (Nat.le_of_ble_eq_true rfl) rfl ?_) (fun _ => .same _)
 unfold g_ref_badReal at H
 refine as2 [(0, .p (AV.u64 b0))] [] rfl rfl rfl ?_
 refine sg [0] rfl ?_
 refine rp rfl rfl (p_asg rfl rfl) ?_
 refine rz [(0, .p (AV.u64 b0))] [] rfl rfl rfl ?_
 refine AW2_seq ?_
 refine AW2_mid (⟨[(2, .b (decide ((b0 = (9223372036854775808 : UInt64)) ∨ ((18437736874454810624 : UInt64) < shl_u64 b0 1))))], [], 10⟩ : TS) ?_ ?_
 ·refine AW2_reg [0, 1, 2, 3, 4, 5, 6, 7] rfl ?_
  refine rp rfl rfl (p_move rfl rfl) ?_
  refine rp rfl rfl (p_u64eq (a := b0) (b := (9223372036854775808 : UInt64)) rfl rfl rfl) ?_
  refine rp rfl rfl (p_move rfl rfl) ?_
  refine (Classical.em (b0 = (9223372036854775808 : UInt64))).elim (fun h1 => ?_) (fun h1 => ?_)
  ·refine r_off rfl rfl rfl rfl (decide_eq_true h1) rfl rfl ?_
   refine r_off rfl rfl rfl rfl (decide_eq_true h1) rfl rfl ?_
   refine r_off rfl rfl rfl rfl (decide_eq_true h1) rfl rfl ?_
   refine rp rfl rfl (p_pkt rfl rfl (decide_eq_true h1) (tb (decide_eq_true (p := (b0 = (9223372036854775808 : UInt64)) ∨ ((18437736874454810624 : UInt64) < shl_u64 b0 1)) (Or.inl h1)).symm)) ?_
   refine rp rfl rfl (p_asg rfl rfl) ?_
   refine rs [(2, .b (decide ((b0 = (9223372036854775808 : UInt64)) ∨ ((18437736874454810624 : UInt64) < shl_u64 b0 1))))] [] rfl rfl rfl ?_
   exact RunW_nil rfl
  ·refine r_on rfl rfl rfl rfl (decide_eq_false h1) rfl (PureD.opD (p_move rfl rfl)) ?_
   refine r_on rfl rfl rfl rfl (decide_eq_false h1) rfl (PureD.opD (p_u64shl (n := 1) rfl rfl rfl rfl)) ?_
   refine r_on rfl rfl rfl rfl (decide_eq_false h1) rfl (PureD.opD (p_u64gt (a := shl_u64 b0 1) (b := (18437736874454810624 : UInt64)) rfl rfl rfl)) ?_
   refine rp rfl rfl (p_pkf rfl rfl (decide_eq_false h1) (tb ((or_l (p := b0 = (9223372036854775808 : UInt64)) (q := (18437736874454810624 : UInt64) < shl_u64 b0 1) h1)))) ?_
   refine rp rfl rfl (p_asg rfl rfl) ?_
   refine rs [(2, .b (decide ((b0 = (9223372036854775808 : UInt64)) ∨ ((18437736874454810624 : UInt64) < shl_u64 b0 1))))] [] rfl rfl rfl ?_
   exact RunW_nil rfl
 ·refine AW2_ret ?_
  have hz := some_elim H
  subst hz
  exact ⟨⟨res_tmp (.same _), trivial⟩, trivial⟩

/-! chirographref.ValueFault -/
noncomputable def g_ref_ValueFault (v0 : GValue) : Option (Int) :=
  (show Option (Int ⊕ GValue) from (if v0.Kind = (0 : Int) then some (.inr ({ GValue.zero with Kind := v0.Kind })) else ((if v0.Kind = (1 : Int) then some (decide (v0.Kind = (1 : Int))) else some (decide (v0.Kind = (2 : Int))))).bind fun j'2 => (if j'2 = true then some (.inr ({ { GValue.zero with Kind := v0.Kind } with Int_ := v0.Int_ })) else (if v0.Kind = (3 : Int) then some (.inr ({ { GValue.zero with Kind := v0.Kind } with Bits := v0.Bits })) else (if v0.Kind = (4 : Int) then some (.inr ({ { GValue.zero with Kind := v0.Kind } with Text := v0.Text })) else some (.inl (2 : Int))))))).bind fun o'12 => match o'12 with | .inl y'3 => some y'3 | .inr j'1 => (if (v0.Text.length : Int) > (40 : Int) then some (1 : Int) else ((if v0 ≠ j'1 then some true else (if v0.Kind = (1 : Int) then (if (1 : UInt64) < UInt64.ofInt v0.Int_ then some true else (if v0.Kind = (3 : Int) then (g_ref_badReal v0.Bits).bind fun r'5 => (if r'5 = true then some true else (g_utf8_ValidString v0.Text).bind fun r'6 => some (!r'6)) else (g_utf8_ValidString v0.Text).bind fun r'7 => some (!r'7))) else (if v0.Kind = (3 : Int) then (g_ref_badReal v0.Bits).bind fun r'8 => (if r'8 = true then some true else (g_utf8_ValidString v0.Text).bind fun r'9 => some (!r'9)) else (g_utf8_ValidString v0.Text).bind fun r'10 => some (!r'10))))).bind fun g'11 => (if g'11 = true then some (3 : Int) else some (0 : Int)))
set_option maxHeartbeats 4000000 in
set_option maxRecDepth 100000 in
theorem g_ref_ValueFault_ac {v0 : GValue} {r : Int} (H : g_ref_ValueFault v0 = some r) : ACp Tryd.prog 35 [(.agg (GValue.cs v0))] (AV.int r) := by
 refine ACp_of (AC2_of_body (vs := [.i r]) Tryd.func35 rfl rfl (Nat.le_of_ble_eq_true rfl) rfl ?_) (fun _ => .same _)
 unfold g_ref_ValueFault at H
 refine as2 [(0, .g (GValue.cs v0))] [] rfl rfl rfl ?_
 refine sg [0, 1] rfl ?_
 refine r_op rfl rfl (MakeD.opD (n_box 1 rfl rfl) rfl rfl rfl rfl) ?_
 refine rp rfl rfl (p_asg rfl rfl) ?_
 refine rz [(1, .q 1 (0))] [(1, .pure (GValue.cs v0))] rfl rfl rfl ?_
 refine sg [0, 1, 2, 3, 4] rfl ?_
 refine rp rfl rfl (u_fa rfl rfl Tryd.underlying24 rfl in_3 (Nat.succ_ne_zero _) rfl rfl (ne_of_lt (n := 0) (Nat.lt_of_lt_of_eq (by decide) (Eq.symm (GValue.len v0))))) ?_
 refine rp rfl rfl (u_ld rfl rfl Tryd.underlying3 rfl rfl ((Sub.refl _).trans (GValue.sub0 v0))) ?_
 refine rp rfl rfl (u_bld rfl in_24 one_24 zc_24 pl_24 rfl (af_cons rfl rfl (GValue.upd0 GValue.zero v0.Kind) rfl)) ?_
 refine r_op rfl rfl (MakeD.opD (u_alloc 3 rfl in_24 one_24 zc_24) rfl rfl rfl rfl) ?_
 refine r_op rfl rfl (u_st rfl rfl rfl rfl rfl in_24 (GValue.len ((GValue.w0 GValue.zero v0.Kind))) (ne_of_lt (n := 0) (Nat.lt_of_lt_of_eq (by decide) (Eq.symm (GValue.len GValue.zero)))) (Upd.refl ((GValue.len ((GValue.w0 GValue.zero v0.Kind))).trans (GValue.len GValue.zero).symm))) ?_
 refine rz [(1, .q 1 (0)), (3, .q 3 (0))] [(1, .pure (GValue.cs v0)), (3, .pure (GValue.cs ((GValue.w0 GValue.zero v0.Kind))))] rfl rfl rfl ?_
 refine AW2_seq ?_
 refine bindK H fun o'12 h1 H => ?_
 refine AW2_join (fun j'1 : GValue => (⟨[(1, .q 1 (0)), (3, .q 3 (0))], [(1, .pure (GValue.cs v0)), (3, .pure (GValue.cs j'1))], 61⟩ : TS)) (fun r e s' => e = Go.Exit.ret ∧ ResAll Tryd.prog s' [ResultVar.tmp 2] [.i r] ∧ HFits s' []) (x := o'12) ?_ (fun j'1 hy => ?_) (fun y'3 e s' hy hs => ?_)
 ·clear H
  have H := h1
  clear h1
  refine sg [0, 1] rfl ?_
  refine rp rfl rfl (u_fa rfl rfl Tryd.underlying24 rfl in_3 (Nat.succ_ne_zero _) rfl rfl (ne_of_lt (n := 0) (Nat.lt_of_lt_of_eq (by decide) (Eq.symm (GValue.len v0))))) ?_
  refine rp rfl rfl (u_ld rfl rfl Tryd.underlying3 rfl rfl ((Sub.refl _).trans (GValue.sub0 v0))) ?_
  refine rz [(1, .q 1 (0)), (3, .q 3 (0)), (8, .i v0.Kind)] [(1, .pure (GValue.cs v0)), (3, .pure (GValue.cs ((GValue.w0 GValue.zero v0.Kind))))] rfl rfl rfl ?_
  refine AW2_block ?_
  refine sg [0, 1] rfl ?_
  refine rp rfl rfl (p_ieq rfl rfl rfl) ?_
  refine rp rfl rfl (p_asg rfl rfl) ?_
  refine rz [(1, .q 1 (0)), (3, .q 3 (0)), (8, .i v0.Kind), (9, .b (decide (v0.Kind = (0 : Int))))] [(1, .pure (GValue.cs v0)), (3, .pure (GValue.cs ((GValue.w0 GValue.zero v0.Kind))))] rfl rfl rfl ?_
  refine AW2_if (p := v0.Kind = (0 : Int)) rfl (fun h2 => ?_) (fun h2 => ?_)
  ·replace H := ite_then h2 H
   refine as2 [(1, .q 1 (0)), (3, .q 3 (0))] [(1, .pure (GValue.cs v0)), (3, .pure (GValue.cs ((GValue.w0 GValue.zero v0.Kind))))] rfl rfl rfl ?_
   refine AW2_skip ?_
   have hz := some_elim H
   subst hz
   exact ⟨rfl, rfl⟩
  ·replace H := ite_else h2 H
   refine AW2_seq ?_
   refine bindK H fun j'2 h3 H => ?_
   refine AW2_mid (⟨[(1, .q 1 (0)), (3, .q 3 (0)), (8, .i v0.Kind), (11, .b j'2)], [(1, .pure (GValue.cs v0)), (3, .pure (GValue.cs ((GValue.w0 GValue.zero v0.Kind))))], 61⟩ : TS) ?_ ?_
   ·clear H
    have H := h3
    clear h3
    refine sg [0, 1] rfl ?_
    refine rp rfl rfl (p_ieq rfl rfl rfl) ?_
    refine rp rfl rfl (p_asg rfl rfl) ?_
    refine rz [(1, .q 1 (0)), (3, .q 3 (0)), (8, .i v0.Kind), (11, .b (decide (v0.Kind = (1 : Int))))] [(1, .pure (GValue.cs v0)), (3, .pure (GValue.cs ((GValue.w0 GValue.zero v0.Kind))))] rfl rfl rfl ?_
    refine AW2_if (p := v0.Kind = (1 : Int)) rfl (fun h4 => ?_) (fun h4 => ?_)
    ·replace H := ite_then h4 H
     refine AW2_skip ?_
     have hz := some_elim H
     subst hz
     exact rfl
    ·replace H := ite_else h4 H
     refine AW2_reg [0, 1] rfl ?_
     refine rp rfl rfl (p_ieq rfl rfl rfl) ?_
     refine rp rfl rfl (p_asg rfl rfl) ?_
     refine rz [(1, .q 1 (0)), (3, .q 3 (0)), (8, .i v0.Kind), (11, .b (decide (v0.Kind = (2 : Int))))] [(1, .pure (GValue.cs v0)), (3, .pure (GValue.cs ((GValue.w0 GValue.zero v0.Kind))))] rfl rfl rfl ?_
     have hz := some_elim H
     subst hz
     exact rfl
   ·refine AW2_cond rfl (fun h5 => ?_) (fun h5 => ?_)
    ·replace H := ite_then h5 H
     refine AW2_reg [0, 1, 2, 3] rfl ?_
     refine rp rfl rfl (u_fa rfl rfl Tryd.underlying24 rfl in_3 (Nat.succ_ne_zero _) rfl rfl (ne_of_lt (n := 0) (Nat.lt_of_lt_of_eq (by decide) (Eq.symm (GValue.len v0))))) ?_
     refine rp rfl rfl (u_ld rfl rfl Tryd.underlying3 rfl rfl ((Sub.refl _).trans (GValue.sub1 v0))) ?_
     refine rp rfl rfl (u_fa rfl rfl Tryd.underlying24 rfl in_3 (Nat.succ_ne_zero _) rfl rfl (ne_of_lt (n := 0) (Nat.lt_of_lt_of_eq (by decide) (Eq.symm (GValue.len ((GValue.w0 GValue.zero v0.Kind))))))) ?_
     refine r_op rfl rfl (u_st rfl rfl rfl rfl rfl in_3 rfl (ne_of_lt (n := 0) (Nat.lt_of_lt_of_eq (by decide) (Eq.symm (GValue.len ((GValue.w0 GValue.zero v0.Kind)))))) (Upd.trans (Sub.refl _) (GValue.upd1 ((GValue.w0 GValue.zero v0.Kind)) v0.Int_) (Upd.refl ((GValue.len ((GValue.w1 (GValue.w0 GValue.zero v0.Kind) v0.Int_))).trans (GValue.len ((GValue.w0 GValue.zero v0.Kind))).symm)))) ?_
     refine rz [(1, .q 1 (0)), (3, .q 3 (0))] [(1, .pure (GValue.cs v0)), (3, .pure (GValue.cs ((GValue.w1 (GValue.w0 GValue.zero v0.Kind) v0.Int_))))] rfl rfl rfl ?_
     have hz := some_elim H
     subst hz
     exact ⟨rfl, rfl⟩
    ·replace H := ite_else (ne_true h5) H
     refine sg [0, 1] rfl ?_
     refine rp rfl rfl (p_ieq rfl rfl rfl) ?_
     refine rp rfl rfl (p_asg rfl rfl) ?_
     refine rz [(1, .q 1 (0)), (3, .q 3 (0)), (8, .i v0.Kind), (17, .b (decide (v0.Kind = (3 : Int))))] [(1, .pure (GValue.cs v0)), (3, .pure (GValue.cs ((GValue.w0 GValue.zero v0.Kind))))] rfl rfl rfl ?_
     refine AW2_if (p := v0.Kind = (3 : Int)) rfl (fun h6 => ?_) (fun h6 => ?_)
     ·replace H := ite_then h6 H
      refine AW2_reg [0, 1, 2, 3] rfl ?_
      refine rp rfl rfl (u_fa rfl rfl Tryd.underlying24 rfl in_22 (Nat.succ_ne_zero _) rfl rfl (ne_of_lt (n := 0) (Nat.lt_of_lt_of_eq (by decide) (Eq.symm (GValue.len v0))))) ?_
      refine rp rfl rfl (u_ld rfl rfl Tryd.underlying22 rfl rfl ((Sub.refl _).trans (GValue.sub2 v0))) ?_
      refine rp rfl rfl (u_fa rfl rfl Tryd.underlying24 rfl in_22 (Nat.succ_ne_zero _) rfl rfl (ne_of_lt (n := 0) (Nat.lt_of_lt_of_eq (by decide) (Eq.symm (GValue.len ((GValue.w0 GValue.zero v0.Kind))))))) ?_
      refine r_op rfl rfl (u_st rfl rfl rfl rfl rfl in_22 rfl (ne_of_lt (n := 0) (Nat.lt_of_lt_of_eq (by decide) (Eq.symm (GValue.len ((GValue.w0 GValue.zero v0.Kind)))))) (Upd.trans (Sub.refl _) (GValue.upd2 ((GValue.w0 GValue.zero v0.Kind)) v0.Bits) (Upd.refl ((GValue.len ((GValue.w2 (GValue.w0 GValue.zero v0.Kind) v0.Bits))).trans (GValue.len ((GValue.w0 GValue.zero v0.Kind))).symm)))) ?_
      refine rz [(1, .q 1 (0)), (3, .q 3 (0))] [(1, .pure (GValue.cs v0)), (3, .pure (GValue.cs ((GValue.w2 (GValue.w0 GValue.zero v0.Kind) v0.Bits))))] rfl rfl rfl ?_
      have hz := some_elim H
      subst hz
      exact ⟨rfl, rfl⟩
     ·replace H := ite_else h6 H
      refine sg [0, 1] rfl ?_
      refine rp rfl rfl (p_ieq rfl rfl rfl) ?_
      refine rp rfl rfl (p_asg rfl rfl) ?_
      refine rz [(1, .q 1 (0)), (3, .q 3 (0)), (22, .b (decide (v0.Kind = (4 : Int))))] [(1, .pure (GValue.cs v0)), (3, .pure (GValue.cs ((GValue.w0 GValue.zero v0.Kind))))] rfl rfl rfl ?_
      refine AW2_if (p := v0.Kind = (4 : Int)) rfl (fun h7 => ?_) (fun h7 => ?_)
      ·replace H := ite_then h7 H
       refine AW2_reg [0, 1, 2, 3] rfl ?_
       refine rp rfl rfl (u_fa rfl rfl Tryd.underlying24 rfl in_9 (Nat.succ_ne_zero _) rfl rfl (ne_of_lt (n := 0) (Nat.lt_of_lt_of_eq (by decide) (Eq.symm (GValue.len v0))))) ?_
       refine rp rfl rfl (u_ld rfl rfl Tryd.underlying9 rfl rfl ((Sub.refl _).trans (GValue.sub3 v0))) ?_
       refine rp rfl rfl (u_fa rfl rfl Tryd.underlying24 rfl in_9 (Nat.succ_ne_zero _) rfl rfl (ne_of_lt (n := 0) (Nat.lt_of_lt_of_eq (by decide) (Eq.symm (GValue.len ((GValue.w0 GValue.zero v0.Kind))))))) ?_
       refine r_op rfl rfl (u_st rfl rfl rfl rfl rfl in_9 rfl (ne_of_lt (n := 0) (Nat.lt_of_lt_of_eq (by decide) (Eq.symm (GValue.len ((GValue.w0 GValue.zero v0.Kind)))))) (Upd.trans (Sub.refl _) (GValue.upd3 ((GValue.w0 GValue.zero v0.Kind)) v0.Text) (Upd.refl ((GValue.len ((GValue.w3 (GValue.w0 GValue.zero v0.Kind) v0.Text))).trans (GValue.len ((GValue.w0 GValue.zero v0.Kind))).symm)))) ?_
       refine rz [(1, .q 1 (0)), (3, .q 3 (0))] [(1, .pure (GValue.cs v0)), (3, .pure (GValue.cs ((GValue.w3 (GValue.w0 GValue.zero v0.Kind) v0.Text))))] rfl rfl rfl ?_
       have hz := some_elim H
       subst hz
       exact ⟨rfl, rfl⟩
      ·replace H := ite_else h7 H
       refine sg [0] rfl ?_
       refine rp rfl rfl (p_asg rfl rfl) ?_
       refine rz [(2, .i (2 : Int))] [] rfl rfl rfl ?_
       refine AW2_ret ?_
       have hz := some_elim H
       subst hz
       exact ⟨rfl, ⟨res_tmp (.same _), trivial⟩, trivial⟩
 ·subst hy
  refine AW2_seq ?_
  refine sg [0, 1, 2, 3] rfl ?_
  refine rp rfl rfl (u_fa rfl rfl Tryd.underlying24 rfl in_9 (Nat.succ_ne_zero _) rfl rfl (ne_of_lt (n := 0) (Nat.lt_of_lt_of_eq (by decide) (Eq.symm (GValue.len v0))))) ?_
  refine rp rfl rfl (u_ld rfl rfl Tryd.underlying9 rfl rfl ((Sub.refl _).trans (GValue.sub3 v0))) ?_
  refine rp rfl rfl (p_lent rfl Tryd.underlying9 rfl) ?_
  refine rp rfl rfl (p_bin rfl rfl rfl rfl) ?_
  refine rz [(1, .q 1 (0)), (3, .q 3 (0)), (30, .b (decide ((v0.Text.length : Int) > (40 : Int))))] [(1, .pure (GValue.cs v0)), (3, .pure (GValue.cs j'1))] rfl rfl rfl ?_
  refine AW2_if (p := (v0.Text.length : Int) > (40 : Int)) rfl (fun h8 => ?_) (fun h8 => ?_)
  ·replace H := ite_then h8 H
   refine sg [0] rfl ?_
   refine rp rfl rfl (p_asg rfl rfl) ?_
   refine rz [(2, .i (1 : Int))] [] rfl rfl rfl ?_
   refine AW2_ret ?_
   have hz := some_elim H
   subst hz
   exact ⟨⟨res_tmp (.same _), trivial⟩, trivial⟩
  ·replace H := ite_else h8 H
   refine as2 [(1, .q 1 (0)), (3, .q 3 (0))] [(1, .pure (GValue.cs v0)), (3, .pure (GValue.cs j'1))] rfl rfl rfl ?_
   refine AW2_skip ?_
   refine AW2_seq ?_
   refine AW2_seq ?_
   refine bindK H fun g'11 h23 H => ?_
   refine AW2_mid (⟨[(60, .b g'11)], [], 61⟩ : TS) ?_ ?_
   ·clear H
    have H := h23
    clear h23
    refine AW2_reg [0, 1, 2, 3, 4, 5, 6, 7, 8, 9, 10, 11, 12, 13, 14, 15, 16, 17, 18, 19, 20, 21, 22, 23, 24, 25, 26, 27, 28, 29] rfl ?_
    refine rp rfl rfl (u_lda rfl rfl Tryd.underlying24 rfl in_24 rfl (Nat.succ_pos _) (Sub.refl _) (GValue.len v0)) ?_
    refine rp rfl rfl (u_lda rfl rfl Tryd.underlying24 rfl in_24 rfl (Nat.succ_pos _) (Sub.refl _) (GValue.len j'1)) ?_
    refine rp rfl rfl (p_nea (a := v0) (b := j'1) rfl eq_24 rfl (by kernel_rfl) rfl rfl) ?_
    refine rp rfl rfl (p_move rfl rfl) ?_
    refine (Classical.em (v0 ≠ j'1)).elim (fun h10 => ?_) (fun h10 => ?_)
    ·replace H := ite_then h10 H
     refine r_off rfl rfl rfl rfl (decide_eq_true h10) rfl rfl ?_
     refine r_off rfl rfl rfl rfl (decide_eq_true h10) rfl rfl ?_
     refine r_off rfl rfl rfl rfl (decide_eq_true h10) rfl rfl ?_
     refine r_off rfl rfl rfl rfl (decide_eq_true h10) rfl rfl ?_
     refine r_off2 rfl rfl rfl rfl rfl rfl ?_
     refine r_off2 rfl rfl rfl rfl rfl rfl ?_
     refine r_off2 rfl rfl rfl rfl rfl rfl ?_
     refine r_off2 rfl rfl rfl rfl rfl rfl ?_
     refine r_off rfl rfl rfl rfl (decide_eq_true h10) rfl rfl ?_
     refine rp rfl rfl (p_pkt rfl rfl (decide_eq_true h10) (.same _)) ?_
     refine rp rfl rfl (p_move rfl rfl) ?_
     refine r_off rfl rfl rfl rfl rfl rfl rfl ?_
     refine r_off rfl rfl rfl rfl rfl rfl rfl ?_
     refine r_off rfl rfl rfl rfl rfl rfl rfl ?_
     refine r_off rfl rfl rfl rfl rfl rfl rfl ?_
     refine r_off2 rfl rfl rfl rfl rfl rfl ?_
     refine r_off2 rfl rfl rfl rfl rfl rfl ?_
     refine r_off2 rfl rfl rfl rfl rfl rfl ?_
     refine r_off rfl rfl rfl rfl rfl rfl rfl ?_
     refine rp rfl rfl (p_pkt rfl rfl rfl (.same _)) ?_
     refine rp rfl rfl (p_move rfl rfl) ?_
     refine r_off rfl rfl rfl rfl rfl rfl rfl ?_
     refine r_off rfl rfl rfl rfl rfl rfl rfl ?_
     refine r_off rfl rfl rfl rfl rfl rfl rfl ?_
     refine r_off rfl rfl rfl rfl rfl rfl rfl ?_
     refine rp rfl rfl (p_pkt rfl rfl rfl (.same _)) ?_
     refine rs [(60, .b true)] [] rfl rfl rfl ?_
     have hz := some_elim H
     subst hz
     exact RunW_nil rfl
    ·replace H := ite_else h10 H
     refine r_on rfl rfl rfl rfl (decide_eq_false h10) rfl (PureD.opD (u_fa rfl rfl Tryd.underlying24 rfl in_3 (Nat.succ_ne_zero _) rfl rfl (ne_of_lt (n := 0) (Nat.lt_of_lt_of_eq (by decide) (Eq.symm (GValue.len v0)))))) ?_
     refine r_on rfl rfl rfl rfl (decide_eq_false h10) rfl (PureD.opD (u_ld rfl rfl Tryd.underlying3 rfl rfl ((Sub.refl _).trans (GValue.sub0 v0)))) ?_
     refine r_on rfl rfl rfl rfl (decide_eq_false h10) rfl (PureD.opD (p_ieq rfl rfl rfl)) ?_
     refine r_on rfl rfl rfl rfl (decide_eq_false h10) rfl (PureD.opD (p_move rfl rfl)) ?_
     refine (Classical.em (v0.Kind = (1 : Int))).elim (fun h11 => ?_) (fun h11 => ?_)
     ·replace H := ite_then h11 H
      refine r_on rfl rfl rfl rfl (decide_eq_true h11) rfl (PureD.opD (u_fa rfl rfl Tryd.underlying24 rfl in_3 (Nat.succ_ne_zero _) rfl rfl (ne_of_lt (n := 0) (Nat.lt_of_lt_of_eq (by decide) (Eq.symm (GValue.len v0)))))) ?_
      refine r_on rfl rfl rfl rfl (decide_eq_true h11) rfl (PureD.opD (u_ld rfl rfl Tryd.underlying3 rfl rfl ((Sub.refl _).trans (GValue.sub1 v0)))) ?_
      refine r_on rfl rfl rfl rfl (decide_eq_true h11) rfl (PureD.opD (p_i_u64 rfl Tryd.underlying3 Tryd.underlying88 rfl)) ?_
      refine r_on rfl rfl rfl rfl (decide_eq_true h11) rfl (PureD.opD (p_u64gt (a := UInt64.ofInt v0.Int_) (b := (1 : UInt64)) rfl rfl rfl)) ?_
      refine r_on rfl rfl rfl rfl (decide_eq_false h10) rfl (PureD.opD (p_pkt rfl rfl (decide_eq_true h11) (.same _))) ?_
      refine rp rfl rfl (p_pkf rfl rfl (decide_eq_false h10) (.same _)) ?_
      refine rp rfl rfl (p_move rfl rfl) ?_
      refine (Classical.em ((1 : UInt64) < UInt64.ofInt v0.Int_)).elim (fun h12 => ?_) (fun h12 => ?_)
      ·replace H := ite_then h12 H
       refine r_off rfl rfl rfl rfl (decide_eq_true h12) rfl rfl ?_
       refine r_off rfl rfl rfl rfl (decide_eq_true h12) rfl rfl ?_
       refine r_off rfl rfl rfl rfl (decide_eq_true h12) rfl rfl ?_
       refine r_off rfl rfl rfl rfl (decide_eq_true h12) rfl rfl ?_
       refine r_off2 rfl rfl rfl rfl rfl rfl ?_
       refine r_off2 rfl rfl rfl rfl rfl rfl ?_
       refine r_off2 rfl rfl rfl rfl rfl rfl ?_
       refine r_off rfl rfl rfl rfl (decide_eq_true h12) rfl rfl ?_
       refine rp rfl rfl (p_pkt rfl rfl (decide_eq_true h12) (.same _)) ?_
       refine rp rfl rfl (p_move rfl rfl) ?_
       refine r_off rfl rfl rfl rfl rfl rfl rfl ?_
       refine r_off rfl rfl rfl rfl rfl rfl rfl ?_
       refine r_off rfl rfl rfl rfl rfl rfl rfl ?_
       refine r_off rfl rfl rfl rfl rfl rfl rfl ?_
       refine rp rfl rfl (p_pkt rfl rfl rfl (.same _)) ?_
       refine rs [(60, .b true)] [] rfl rfl rfl ?_
       have hz := some_elim H
       subst hz
       exact RunW_nil rfl
      ·replace H := ite_else h12 H
       refine r_on rfl rfl rfl rfl (decide_eq_false h12) rfl (PureD.opD (u_fa rfl rfl Tryd.underlying24 rfl in_3 (Nat.succ_ne_zero _) rfl rfl (ne_of_lt (n := 0) (Nat.lt_of_lt_of_eq (by decide) (Eq.symm (GValue.len v0)))))) ?_
       refine r_on rfl rfl rfl rfl (decide_eq_false h12) rfl (PureD.opD (u_ld rfl rfl Tryd.underlying3 rfl rfl ((Sub.refl _).trans (GValue.sub0 v0)))) ?_
       refine r_on rfl rfl rfl rfl (decide_eq_false h12) rfl (PureD.opD (p_ieq rfl rfl rfl)) ?_
       refine r_on rfl rfl rfl rfl (decide_eq_false h12) rfl (PureD.opD (p_move rfl rfl)) ?_
       refine (Classical.em (v0.Kind = (3 : Int))).elim (fun h13 => ?_) (fun h13 => ?_)
       ·replace H := ite_then h13 H
        refine r_on rfl rfl rfl rfl (decide_eq_true h13) rfl (PureD.opD (u_fa rfl rfl Tryd.underlying24 rfl in_22 (Nat.succ_ne_zero _) rfl rfl (ne_of_lt (n := 0) (Nat.lt_of_lt_of_eq (by decide) (Eq.symm (GValue.len v0)))))) ?_
        refine r_on rfl rfl rfl rfl (decide_eq_true h13) rfl (PureD.opD (u_ld rfl rfl Tryd.underlying22 rfl rfl ((Sub.refl _).trans (GValue.sub2 v0)))) ?_
        refine bindK H fun r'5 h14 H => ?_
        refine r_on rfl rfl rfl rfl (decide_eq_true h13) rfl (PureD.opD (p_callp rfl rfl rfl Tryd.func58 rfl rfl (g_ref_badReal_ac h14) ⟨rfl, trivial⟩)) ?_
        refine r_on rfl rfl rfl rfl (decide_eq_false h12) rfl (PureD.opD (p_pkt rfl rfl (decide_eq_true h13) (.same _))) ?_
        refine rp rfl rfl (p_pkf rfl rfl (decide_eq_false h12) (.same _)) ?_
        refine rp rfl rfl (p_move rfl rfl) ?_
        refine (Classical.em (r'5 = true)).elim (fun h15 => ?_) (fun h15 => ?_)
        ·replace H := ite_then h15 H
         refine r_off rfl rfl rfl rfl h15 rfl rfl ?_
         refine r_off rfl rfl rfl rfl h15 rfl rfl ?_
         refine r_off rfl rfl rfl rfl h15 rfl rfl ?_
         refine r_off rfl rfl rfl rfl h15 rfl rfl ?_
         refine rp rfl rfl (p_pkt rfl rfl h15 (.same _)) ?_
         refine rs [(60, .b true)] [] rfl rfl rfl ?_
         have hz := some_elim H
         subst hz
         exact RunW_nil rfl
        ·replace H := ite_else h15 H
         refine r_on rfl rfl rfl rfl (bfalse h15) rfl (PureD.opD (u_fa rfl rfl Tryd.underlying24 rfl in_9 (Nat.succ_ne_zero _) rfl rfl (ne_of_lt (n := 0) (Nat.lt_of_lt_of_eq (by decide) (Eq.symm (GValue.len v0)))))) ?_
         refine r_on rfl rfl rfl rfl (bfalse h15) rfl (PureD.opD (u_ld rfl rfl Tryd.underlying9 rfl rfl ((Sub.refl _).trans (GValue.sub3 v0)))) ?_
         refine bindK H fun r'6 h16 H => ?_
         refine r_on rfl rfl rfl rfl (bfalse h15) rfl (PureD.opD (p_callp rfl rfl rfl Tryd.func59 rfl rfl (g_utf8_ValidString_ac h16) ⟨rfl, trivial⟩)) ?_
         refine r_on rfl rfl rfl rfl (bfalse h15) rfl (PureD.opD (p_not rfl rfl)) ?_
         refine rp rfl rfl (p_pkf rfl rfl (bfalse h15) (.same _)) ?_
         refine rs [(60, .b (!r'6))] [] rfl rfl rfl ?_
         have hz := some_elim H
         subst hz
         exact RunW_nil rfl
       ·replace H := ite_else h13 H
        refine r_off rfl rfl rfl rfl (decide_eq_false h13) rfl rfl ?_
        refine r_off rfl rfl rfl rfl (decide_eq_false h13) rfl rfl ?_
        refine r_off rfl rfl rfl rfl (decide_eq_false h13) rfl rfl ?_
        refine r_on rfl rfl rfl rfl (decide_eq_false h12) rfl (PureD.opD (p_pkf rfl rfl (decide_eq_false h13) (.same _))) ?_
        refine rp rfl rfl (p_pkf rfl rfl (decide_eq_false h12) (.same _)) ?_
        refine rp rfl rfl (p_move rfl rfl) ?_
        refine r_on rfl rfl rfl rfl (bfalse (by decide)) rfl (PureD.opD (u_fa rfl rfl Tryd.underlying24 rfl in_9 (Nat.succ_ne_zero _) rfl rfl (ne_of_lt (n := 0) (Nat.lt_of_lt_of_eq (by decide) (Eq.symm (GValue.len v0)))))) ?_
        refine r_on rfl rfl rfl rfl (bfalse (by decide)) rfl (PureD.opD (u_ld rfl rfl Tryd.underlying9 rfl rfl ((Sub.refl _).trans (GValue.sub3 v0)))) ?_
        refine bindK H fun r'7 h17 H => ?_
        refine r_on rfl rfl rfl rfl (bfalse (by decide)) rfl (PureD.opD (p_callp rfl rfl rfl Tryd.func59 rfl rfl (g_utf8_ValidString_ac h17) ⟨rfl, trivial⟩)) ?_
        refine r_on rfl rfl rfl rfl (bfalse (by decide)) rfl (PureD.opD (p_not rfl rfl)) ?_
        refine rp rfl rfl (p_pkf rfl rfl (bfalse (by decide)) (.same _)) ?_
        refine rs [(60, .b (!r'7))] [] rfl rfl rfl ?_
        have hz := some_elim H
        subst hz
        exact RunW_nil rfl
     ·replace H := ite_else h11 H
      refine r_off rfl rfl rfl rfl (decide_eq_false h11) rfl rfl ?_
      refine r_off rfl rfl rfl rfl (decide_eq_false h11) rfl rfl ?_
      refine r_off rfl rfl rfl rfl (decide_eq_false h11) rfl rfl ?_
      refine r_off rfl rfl rfl rfl (decide_eq_false h11) rfl rfl ?_
      refine r_on rfl rfl rfl rfl (decide_eq_false h10) rfl (PureD.opD (p_pkf rfl rfl (decide_eq_false h11) (.same _))) ?_
      refine rp rfl rfl (p_pkf rfl rfl (decide_eq_false h10) (.same _)) ?_
      refine rp rfl rfl (p_move rfl rfl) ?_
      refine r_on rfl rfl rfl rfl (bfalse (by decide)) rfl (PureD.opD (u_fa rfl rfl Tryd.underlying24 rfl in_3 (Nat.succ_ne_zero _) rfl rfl (ne_of_lt (n := 0) (Nat.lt_of_lt_of_eq (by decide) (Eq.symm (GValue.len v0)))))) ?_
      refine r_on rfl rfl rfl rfl (bfalse (by decide)) rfl (PureD.opD (u_ld rfl rfl Tryd.underlying3 rfl rfl ((Sub.refl _).trans (GValue.sub0 v0)))) ?_
      refine r_on rfl rfl rfl rfl (bfalse (by decide)) rfl (PureD.opD (p_ieq rfl rfl rfl)) ?_
      refine r_on rfl rfl rfl rfl (bfalse (by decide)) rfl (PureD.opD (p_move rfl rfl)) ?_
      refine (Classical.em (v0.Kind = (3 : Int))).elim (fun h18 => ?_) (fun h18 => ?_)
      ·replace H := ite_then h18 H
       refine r_on rfl rfl rfl rfl (decide_eq_true h18) rfl (PureD.opD (u_fa rfl rfl Tryd.underlying24 rfl in_22 (Nat.succ_ne_zero _) rfl rfl (ne_of_lt (n := 0) (Nat.lt_of_lt_of_eq (by decide) (Eq.symm (GValue.len v0)))))) ?_
       refine r_on rfl rfl rfl rfl (decide_eq_true h18) rfl (PureD.opD (u_ld rfl rfl Tryd.underlying22 rfl rfl ((Sub.refl _).trans (GValue.sub2 v0)))) ?_
       refine bindK H fun r'8 h19 H => ?_
       refine r_on rfl rfl rfl rfl (decide_eq_true h18) rfl (PureD.opD (p_callp rfl rfl rfl Tryd.func58 rfl rfl (g_ref_badReal_ac h19) ⟨rfl, trivial⟩)) ?_
       refine r_on rfl rfl rfl rfl (bfalse (by decide)) rfl (PureD.opD (p_pkt rfl rfl (decide_eq_true h18) (.same _))) ?_
       refine rp rfl rfl (p_pkf rfl rfl (bfalse (by decide)) (.same _)) ?_
       refine rp rfl rfl (p_move rfl rfl) ?_
       refine (Classical.em (r'8 = true)).elim (fun h20 => ?_) (fun h20 => ?_)
       ·replace H := ite_then h20 H
        refine r_off rfl rfl rfl rfl h20 rfl rfl ?_
        refine r_off rfl rfl rfl rfl h20 rfl rfl ?_
        refine r_off rfl rfl rfl rfl h20 rfl rfl ?_
        refine r_off rfl rfl rfl rfl h20 rfl rfl ?_
        refine rp rfl rfl (p_pkt rfl rfl h20 (.same _)) ?_
        refine rs [(60, .b true)] [] rfl rfl rfl ?_
        have hz := some_elim H
        subst hz
        exact RunW_nil rfl
       ·replace H := ite_else h20 H
        refine r_on rfl rfl rfl rfl (bfalse h20) rfl (PureD.opD (u_fa rfl rfl Tryd.underlying24 rfl in_9 (Nat.succ_ne_zero _) rfl rfl (ne_of_lt (n := 0) (Nat.lt_of_lt_of_eq (by decide) (Eq.symm (GValue.len v0)))))) ?_
        refine r_on rfl rfl rfl rfl (bfalse h20) rfl (PureD.opD (u_ld rfl rfl Tryd.underlying9 rfl rfl ((Sub.refl _).trans (GValue.sub3 v0)))) ?_
        refine bindK H fun r'9 h21 H => ?_
        refine r_on rfl rfl rfl rfl (bfalse h20) rfl (PureD.opD (p_callp rfl rfl rfl Tryd.func59 rfl rfl (g_utf8_ValidString_ac h21) ⟨rfl, trivial⟩)) ?_
        refine r_on rfl rfl rfl rfl (bfalse h20) rfl (PureD.opD (p_not rfl rfl)) ?_
        refine rp rfl rfl (p_pkf rfl rfl (bfalse h20) (.same _)) ?_
        refine rs [(60, .b (!r'9))] [] rfl rfl rfl ?_
        have hz := some_elim H
        subst hz
        exact RunW_nil rfl
      ·replace H := ite_else h18 H
       refine r_off rfl rfl rfl rfl (decide_eq_false h18) rfl rfl ?_
       refine r_off rfl rfl rfl rfl (decide_eq_false h18) rfl rfl ?_
       refine r_off rfl rfl rfl rfl (decide_eq_false h18) rfl rfl ?_
       refine r_on rfl rfl rfl rfl (bfalse (by decide)) rfl (PureD.opD (p_pkf rfl rfl (decide_eq_false h18) (.same _))) ?_
       refine rp rfl rfl (p_pkf rfl rfl (bfalse (by decide)) (.same _)) ?_
       refine rp rfl rfl (p_move rfl rfl) ?_
       refine r_on rfl rfl rfl rfl (bfalse (by decide)) rfl (PureD.opD (u_fa rfl rfl Tryd.underlying24 rfl in_9 (Nat.succ_ne_zero _) rfl rfl (ne_of_lt (n := 0) (Nat.lt_of_lt_of_eq (by decide) (Eq.symm (GValue.len v0)))))) ?_
       refine r_on rfl rfl rfl rfl (bfalse (by decide)) rfl (PureD.opD (u_ld rfl rfl Tryd.underlying9 rfl rfl ((Sub.refl _).trans (GValue.sub3 v0)))) ?_
       refine bindK H fun r'10 h22 H => ?_
       refine r_on rfl rfl rfl rfl (bfalse (by decide)) rfl (PureD.opD (p_callp rfl rfl rfl Tryd.func59 rfl rfl (g_utf8_ValidString_ac h22) ⟨rfl, trivial⟩)) ?_
       refine r_on rfl rfl rfl rfl (bfalse (by decide)) rfl (PureD.opD (p_not rfl rfl)) ?_
       refine rp rfl rfl (p_pkf rfl rfl (bfalse (by decide)) (.same _)) ?_
       refine rs [(60, .b (!r'10))] [] rfl rfl rfl ?_
       have hz := some_elim H
       subst hz
       exact RunW_nil rfl
   ·refine AW2_cond rfl (fun h24 => ?_) (fun h24 => ?_)
    ·replace H := ite_then h24 H
     refine sg [0] rfl ?_
     refine rp rfl rfl (p_asg rfl rfl) ?_
     refine rz [(2, .i (3 : Int))] [] rfl rfl rfl ?_
     refine AW2_ret ?_
     have hz := some_elim H
     subst hz
     exact ⟨⟨res_tmp (.same _), trivial⟩, trivial⟩
    ·replace H := ite_else (ne_true h24) H
     refine as2 [] [] rfl rfl rfl ?_
     refine AW2_skip ?_
     refine sg [0] rfl ?_
     refine rp rfl rfl (p_asg rfl rfl) ?_
     refine rz [(2, .i (0 : Int))] [] rfl rfl rfl ?_
     refine AW2_ret ?_
     have hz := some_elim H
     subst hz
     exact ⟨⟨res_tmp (.same _), trivial⟩, trivial⟩
 ·subst hy
  obtain ⟨rfl, hs⟩ := hs
  have hz := some_elim H
  subst hz
  exact ⟨hs.1, hs.2⟩
end Go.Proofs.YtcahembojhmpbaaDoor.VM
