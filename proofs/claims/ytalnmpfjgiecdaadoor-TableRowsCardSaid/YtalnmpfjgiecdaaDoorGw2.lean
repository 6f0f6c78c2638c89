/- Functions of the program, as they answer, and that their code comes to these answers. -/
import Derived.Test.YtalnmpfjgiecdaaDoorGw1
namespace Go.Proofs.YtalnmpfjgiecdaaDoor.VM
open Go Go.RowKit

structure GTable where
  There : Bool
  Name : List UInt8
  Cols : List GColumn
  Drawers : Vector (Vector GCell 4) 2
deriving DecidableEq, Inhabited
def GTable.zero : GTable := ⟨false, [], [], (Vector.replicate 2 (Vector.replicate 4 GCell.zero))⟩
def GTable.cs (x : GTable) : List AV := ([(AV.bool x.There)]) ++ (([(AV.txt x.Name)]) ++ (([((fun q : List GColumn => AV.lst (q.flatMap GColumn.cs) q.length) x.Cols)]) ++ (x.Drawers.toList.flatMap (fun v : Vector GCell 4 => v.toList.flatMap GCell.cs))))
theorem GTable.len (x : GTable) : (GTable.cs x).length = 19 := by
  simp only [GTable.cs, List.length_append]
  rw [show ([(AV.bool x.There)]).length = 1 from (show ([(AV.bool x.There)]).length = 1 from rfl), show ([(AV.txt x.Name)]).length = 1 from (show ([(AV.txt x.Name)]).length = 1 from rfl), show ([((fun q : List GColumn => AV.lst (q.flatMap GColumn.cs) q.length) x.Cols)]).length = 1 from (show ([((fun q : List GColumn => AV.lst (q.flatMap GColumn.cs) q.length) x.Cols)]).length = 1 from rfl), show (x.Drawers.toList.flatMap (fun v : Vector GCell 4 => v.toList.flatMap GCell.cs)).length = 16 from (vfm_len (fun x => (vfm_len (fun x => (GCell.len x)) x)) x.Drawers)]
theorem GTable.sub0 (x : GTable) : Sub (GTable.cs x) 0 ([(AV.bool x.There)]) := Sub.head _ _
abbrev GTable.w0 (x : GTable) (y : Bool) : GTable := { x with There := y }
theorem GTable.upd0 (x : GTable) (y : Bool) : Upd (GTable.cs x) 0 ([(AV.bool y)]) (GTable.cs { x with There := y }) := Upd.head (show ([(AV.bool y)]).length = ([(AV.bool x.There)]).length from rfl)
theorem GTable.sub1 (x : GTable) : Sub (GTable.cs x) 1 ([(AV.txt x.Name)]) := Sub.skip (k := 1) (show ([(AV.bool x.There)]).length = 1 from rfl) (Sub.head _ _)
abbrev GTable.w1 (x : GTable) (y : List UInt8) : GTable := { x with Name := y }
theorem GTable.upd1 (x : GTable) (y : List UInt8) : Upd (GTable.cs x) 1 ([(AV.txt y)]) (GTable.cs { x with Name := y }) := Upd.skip (k := 1) (show ([(AV.bool x.There)]).length = 1 from rfl) (Upd.head (show ([(AV.txt y)]).length = ([(AV.txt x.Name)]).length from rfl))
theorem GTable.sub2 (x : GTable) : Sub (GTable.cs x) 2 ([((fun q : List GColumn => AV.lst (q.flatMap GColumn.cs) q.length) x.Cols)]) := Sub.skip (k := 1) (show ([(AV.bool x.There)]).length = 1 from rfl) (Sub.skip (k := 1) (show ([(AV.txt x.Name)]).length = 1 from rfl) (Sub.head _ _))
abbrev GTable.w2 (x : GTable) (y : List GColumn) : GTable := { x with Cols := y }
theorem GTable.upd2 (x : GTable) (y : List GColumn) : Upd (GTable.cs x) 2 ([((fun q : List GColumn => AV.lst (q.flatMap GColumn.cs) q.length) y)]) (GTable.cs { x with Cols := y }) := Upd.skip (k := 1) (show ([(AV.bool x.There)]).length = 1 from rfl) (Upd.skip (k := 1) (show ([(AV.txt x.Name)]).length = 1 from rfl) (Upd.head (show ([((fun q : List GColumn => AV.lst (q.flatMap GColumn.cs) q.length) y)]).length = ([((fun q : List GColumn => AV.lst (q.flatMap GColumn.cs) q.length) x.Cols)]).length from rfl)))
theorem GTable.sub3 (x : GTable) : Sub (GTable.cs x) 3 (x.Drawers.toList.flatMap (fun v : Vector GCell 4 => v.toList.flatMap GCell.cs)) := Sub.skip (k := 1) (show ([(AV.bool x.There)]).length = 1 from rfl) (Sub.skip (k := 1) (show ([(AV.txt x.Name)]).length = 1 from rfl) (Sub.skip (k := 1) (show ([((fun q : List GColumn => AV.lst (q.flatMap GColumn.cs) q.length) x.Cols)]).length = 1 from rfl) (Sub.refl _)))
abbrev GTable.w3 (x : GTable) (y : Vector (Vector GCell 4) 2) : GTable := { x with Drawers := y }
theorem GTable.upd3 (x : GTable) (y : Vector (Vector GCell 4) 2) : Upd (GTable.cs x) 3 (y.toList.flatMap (fun v : Vector GCell 4 => v.toList.flatMap GCell.cs)) (GTable.cs { x with Drawers := y }) := Upd.skip (k := 1) (show ([(AV.bool x.There)]).length = 1 from rfl) (Upd.skip (k := 1) (show ([(AV.txt x.Name)]).length = 1 from rfl) (Upd.skip (k := 1) (show ([((fun q : List GColumn => AV.lst (q.flatMap GColumn.cs) q.length) x.Cols)]).length = 1 from rfl) (Upd.refl ((vfm_len (fun x => (vfm_len (fun x => (GCell.len x)) x)) y).trans (vfm_len (fun x => (vfm_len (fun x => (GCell.len x)) x)) x.Drawers).symm))))
theorem in_35 : Info Tryd.prog 35 1 24 (.slice none 0 0) := by unfold Info; kernel_rfl
theorem one_35 : (.slice none 0 0 : Value).cells.all (·.oneCell') = true := by kernel_rfl
theorem zc_35 : ((.slice none 0 0 : Value).cells.toList.map zcell) = [((fun q : List GColumn => AV.lst (q.flatMap GColumn.cs) q.length) [])] := by rfl
theorem in_44 : Info Tryd.prog 44 16 256 (.agg #[.bool false, .slice none 0 0, .bool false, .slice none 0 0, .bool false, .slice none 0 0, .bool false, .slice none 0 0, .bool false, .slice none 0 0, .bool false, .slice none 0 0, .bool false, .slice none 0 0, .bool false, .slice none 0 0]) := by unfold Info; kernel_rfl
theorem one_44 : (.agg #[.bool false, .slice none 0 0, .bool false, .slice none 0 0, .bool false, .slice none 0 0, .bool false, .slice none 0 0, .bool false, .slice none 0 0, .bool false, .slice none 0 0, .bool false, .slice none 0 0, .bool false, .slice none 0 0] : Value).cells.all (·.oneCell') = true := by kernel_rfl
theorem zc_44 : ((.agg #[.bool false, .slice none 0 0, .bool false, .slice none 0 0, .bool false, .slice none 0 0, .bool false, .slice none 0 0, .bool false, .slice none 0 0, .bool false, .slice none 0 0, .bool false, .slice none 0 0, .bool false, .slice none 0 0] : Value).cells.toList.map zcell) = ((Vector.replicate 2 (Vector.replicate 4 GCell.zero)).toList).flatMap (fun v : Vector GCell 4 => v.toList.flatMap GCell.cs) := by rfl
theorem in_46 : Info Tryd.prog 46 19 304 (.agg #[.bool false, .string ⟨#[]⟩, .slice none 0 0, .bool false, .slice none 0 0, .bool false, .slice none 0 0, .bool false, .slice none 0 0, .bool false, .slice none 0 0, .bool false, .slice none 0 0, .bool false, .slice none 0 0, .bool false, .slice none 0 0, .bool false, .slice none 0 0]) := by unfold Info; kernel_rfl
theorem one_46 : (.agg #[.bool false, .string ⟨#[]⟩, .slice none 0 0, .bool false, .slice none 0 0, .bool false, .slice none 0 0, .bool false, .slice none 0 0, .bool false, .slice none 0 0, .bool false, .slice none 0 0, .bool false, .slice none 0 0, .bool false, .slice none 0 0, .bool false, .slice none 0 0] : Value).cells.all (·.oneCell') = true := by kernel_rfl
theorem zc_46 : ((.agg #[.bool false, .string ⟨#[]⟩, .slice none 0 0, .bool false, .slice none 0 0, .bool false, .slice none 0 0, .bool false, .slice none 0 0, .bool false, .slice none 0 0, .bool false, .slice none 0 0, .bool false, .slice none 0 0, .bool false, .slice none 0 0, .bool false, .slice none 0 0] : Value).cells.toList.map zcell) = GTable.cs GTable.zero := by rfl
theorem pl_46 : placesOf Tryd.prog 46 = some [(0, 1), (1, 1), (2, 1), (3, 16)] := by kernel_rfl

/-! table.Check -/
noncomputable def g_table_Check_l1 (t0 : GTable) (t45_0 : Int) : Int → Option (Int ⊕ (Int ⊕ Unit))
  | t49_1 => (if t49_1 < (4 : Int) then (show Option (Int ⊕ Unit) from if 0 ≤ t49_1 ∧ t49_1 < (4 : Int) then (if ((!((vrd (vrd t0.Drawers t45_0.toNat) t49_1.toNat).Full)) = true) ∧ ((((vrd (vrd t0.Drawers t45_0.toNat) t49_1.toNat).Row).length : Int) > (0 : Int)) then some (.inl (3 : Int)) else (if (!((vrd (vrd t0.Drawers t45_0.toNat) t49_1.toNat).Full)) = true then some (.inr ()) else (g_kinds_Row ((vrd (vrd t0.Drawers t45_0.toNat) t49_1.toNat).Row) t0.Cols).bind fun r'5 => (if r'5 ≠ (0 : Int) then some (.inl r'5) else some (.inr ())))) else none).bind fun o'7 => match o'7 with | .inl y'6 => some (.inr (.inl y'6)) | .inr j'4 => some (.inl (w64 (t49_1 + (1 : Int)))) else some (.inr (.inr ())))
noncomputable def g_table_Check_l0 (t0 : GTable) : Int → Option (Int ⊕ (Int ⊕ Unit))
  | t45_0 => (if t45_0 < (2 : Int) then if 0 ≤ t45_0 ∧ t45_0 < (2 : Int) then (loopO (g_table_Check_l1 t0 t45_0) (0 : Int)).bind fun o'11 => match o'11 with | .inl y'12 => some (.inr (.inl y'12)) | .inr (y'13) => (g_table_keys (vrd t0.Drawers t45_0.toNat)).bind fun r'14 => (if r'14 ≠ (0 : Int) then some (.inr (.inl r'14)) else some (.inl (w64 (t45_0 + (1 : Int))))) else none else some (.inr (.inr ())))
noncomputable def g_table_Check (t0 : GTable) : Option (Int) :=
  (if (!t0.There) = true then some (5 : Int) else (g_lex_Check ({ { GToken.zero with Kind := (1 : Int) } with Text := t0.Name })).bind fun r'1 => (if r'1 ≠ (0 : Int) then some (3 : Int) else (g_kinds_Columns t0.Cols).bind fun r'2 => (if r'2 ≠ (0 : Int) then some r'2 else ((if (t0.Cols.length : Int) = (0 : Int) then some true else if 0 < t0.Cols.length then (if (lrd t0.Cols 0).Kind ≠ (2 : Int) then some true else if 0 < t0.Cols.length then some ((lrd t0.Cols 0).Null) else none) else none)).bind fun g'3 => (if g'3 = true then some (3 : Int) else (loopO (g_table_Check_l0 t0) (0 : Int)).bind fun o'18 => match o'18 with | .inl y'19 => some y'19 | .inr (y'20) => some (0 : Int)))))
set_option maxHeartbeats 4000000 in
set_option maxRecDepth 100000 in
theorem g_table_Check_ac {t0 : GTable} {r : Int} (H : g_table_Check t0 = some r) : ACp Tryd.prog 18 [(.agg (GTable.cs t0))] (AV.int r) := by
 refine ACp_of (AC2_of_body (vs := [.i r]) Tryd.func18 rfl rfl (Nat.le_of_ble_eq_true rfl) rfl ?_) (fun _ => .same _)
 unfold g_table_Check at H
 refine as2 [(0, .g (GTable.cs t0))] [] rfl rfl rfl ?_
 refine sg [0, 1] rfl ?_
 refine r_op rfl rfl (MakeD.opD (n_box 1 rfl rfl) rfl rfl rfl rfl) ?_
 refine rp rfl rfl (p_asg rfl rfl) ?_
 refine rz [(1, .q 1 (0))] [(1, .pure (GTable.cs t0))] rfl rfl rfl ?_
 refine AW2_seq ?_
 refine sg [0, 1, 2] rfl ?_
 refine rp rfl rfl (u_fa rfl rfl Tryd.underlying46 rfl in_4 (Nat.succ_ne_zero _) rfl rfl (ne_of_lt (n := 0) (Nat.lt_of_lt_of_eq (by decide) (Eq.symm (GTable.len t0))))) ?_
 refine rp rfl rfl (u_ld rfl rfl Tryd.underlying4 rfl rfl ((Sub.refl _).trans (GTable.sub0 t0))) ?_
 refine rp rfl rfl (p_not rfl rfl) ?_
 refine rz [(1, .q 1 (0)), (12, .b (!t0.There))] [(1, .pure (GTable.cs t0))] rfl rfl rfl ?_
 refine AW2_cond rfl (fun h1 => ?_) (fun h1 => ?_)
 ·replace H := ite_then h1 H
  refine sg [0] rfl ?_
  refine rp rfl rfl (p_asg rfl rfl) ?_
  refine rz [(2, .i (5 : Int))] [] rfl rfl rfl ?_
  refine AW2_ret ?_
  have hz := some_elim H
  subst hz
  exact ⟨⟨res_tmp (.same _), trivial⟩, trivial⟩
 ·replace H := ite_else (ne_true h1) H
  refine as2 [(1, .q 1 (0))] [(1, .pure (GTable.cs t0))] rfl rfl rfl ?_
  refine AW2_skip ?_
  refine AW2_seq ?_
  refine sg [0, 1, 2, 3, 4] rfl ?_
  refine rp rfl rfl (u_fa rfl rfl Tryd.underlying46 rfl in_9 (Nat.succ_ne_zero _) rfl rfl (ne_of_lt (n := 0) (Nat.lt_of_lt_of_eq (by decide) (Eq.symm (GTable.len t0))))) ?_
  refine rp rfl rfl (u_ld rfl rfl Tryd.underlying9 rfl rfl ((Sub.refl _).trans (GTable.sub1 t0))) ?_
  refine rp rfl rfl (u_bld rfl in_24 one_24 zc_24 pl_24 rfl (af_cons rfl rfl (GToken.upd0 GToken.zero (1 : Int)) (af_cons rfl rfl (GToken.upd1 ((GToken.w0 GToken.zero (1 : Int))) t0.Name) rfl))) ?_
  refine bindK H fun r'1 h2 H => ?_
  refine rp rfl rfl (p_callp rfl rfl rfl Tryd.func10 rfl rfl (g_lex_Check_ac h2) ⟨rfl, trivial⟩) ?_
  refine rp rfl rfl (p_ine rfl rfl rfl) ?_
  refine rz [(1, .q 1 (0)), (17, .b (decide (r'1 ≠ (0 : Int))))] [(1, .pure (GTable.cs t0))] rfl rfl rfl ?_
  refine AW2_if (p := r'1 ≠ (0 : Int)) rfl (fun h3 => ?_) (fun h3 => ?_)
  ·replace H := ite_then h3 H
   refine sg [0] rfl ?_
   refine rp rfl rfl (p_asg rfl rfl) ?_
   refine rz [(2, .i (3 : Int))] [] rfl rfl rfl ?_
   refine AW2_ret ?_
   have hz := some_elim H
   subst hz
   exact ⟨⟨res_tmp (.same _), trivial⟩, trivial⟩
  ·replace H := ite_else h3 H
   refine as2 [(1, .q 1 (0))] [(1, .pure (GTable.cs t0))] rfl rfl rfl ?_
   refine AW2_skip ?_
   refine AW2_seq ?_
   refine sg [0, 1, 2, 3] rfl ?_
   refine rp rfl rfl (u_fa rfl rfl Tryd.underlying46 rfl in_35 (Nat.succ_ne_zero _) rfl rfl (ne_of_lt (n := 0) (Nat.lt_of_lt_of_eq (by decide) (Eq.symm (GTable.len t0))))) ?_
   refine rp rfl rfl (u_ld rfl rfl Tryd.underlying35 rfl rfl ((Sub.refl _).trans (GTable.sub2 t0))) ?_
   refine bindK H fun r'2 h4 H => ?_
   refine rp rfl rfl (p_callp rfl rfl rfl Tryd.func14 rfl rfl (g_kinds_Columns_ac h4) ⟨rfl, trivial⟩) ?_
   refine rp rfl rfl (p_asg rfl rfl) ?_
   refine rz [(1, .q 1 (0)), (3, .i r'2)] [(1, .pure (GTable.cs t0))] rfl rfl rfl ?_
   refine sg [0, 1] rfl ?_
   refine rp rfl rfl (p_move rfl rfl) ?_
   refine rp rfl rfl (p_ine rfl rfl rfl) ?_
   refine rz [(1, .q 1 (0)), (3, .i r'2), (22, .b (decide (r'2 ≠ (0 : Int))))] [(1, .pure (GTable.cs t0))] rfl rfl rfl ?_
   refine AW2_if (p := r'2 ≠ (0 : Int)) rfl (fun h5 => ?_) (fun h5 => ?_)
   ·replace H := ite_then h5 H
    refine sg [0, 1] rfl ?_
    refine rp rfl rfl (p_move rfl rfl) ?_
    refine rp rfl rfl (p_asg rfl rfl) ?_
    refine rz [(2, .i r'2)] [] rfl rfl rfl ?_
    refine AW2_ret ?_
    have hz := some_elim H
    subst hz
    exact ⟨⟨res_tmp (.same _), trivial⟩, trivial⟩
   ·replace H := ite_else h5 H
    refine as2 [(1, .q 1 (0))] [(1, .pure (GTable.cs t0))] rfl rfl rfl ?_
    refine AW2_skip ?_
    refine AW2_seq ?_
    refine AW2_seq ?_
    refine bindK H fun g'3 h11 H => ?_
    refine AW2_mid (⟨[(1, .q 1 (0)), (42, .b g'3)], [(1, .pure (GTable.cs t0))], 79⟩ : TS) ?_ ?_
    ·clear H
     have H := h11
     clear h11
     refine AW2_reg [0, 1, 2, 3, 4, 5, 6, 7, 8, 9, 10, 11, 12, 13, 14, 15, 16, 17, 18] rfl ?_
     refine rp rfl rfl (u_fa rfl rfl Tryd.underlying46 rfl in_35 (Nat.succ_ne_zero _) rfl rfl (ne_of_lt (n := 0) (Nat.lt_of_lt_of_eq (by decide) (Eq.symm (GTable.len t0))))) ?_
     refine rp rfl rfl (u_ld rfl rfl Tryd.underlying35 rfl rfl ((Sub.refl _).trans (GTable.sub2 t0))) ?_
     refine rp rfl rfl (p_lenl rfl Tryd.underlying35 rfl rfl) ?_
     refine rp rfl rfl (p_ieq rfl rfl rfl) ?_
     refine rp rfl rfl (p_move rfl rfl) ?_
     refine (Classical.em ((t0.Cols.length : Int) = (0 : Int))).elim (fun h7 => ?_) (fun h7 => ?_)
     ·replace H := ite_then h7 H
      iterate 6 (refine r_off rfl rfl rfl rfl (decide_eq_true h7) rfl rfl ?_)
      refine rp rfl rfl (p_pkt rfl rfl (decide_eq_true h7) (.same _)) ?_
      refine rp rfl rfl (p_move rfl rfl) ?_
      iterate 5 (refine r_off rfl rfl rfl rfl rfl rfl rfl ?_)
      refine rp rfl rfl (p_pkt rfl rfl rfl (.same _)) ?_
      refine rs [(1, .q 1 (0)), (42, .b true)] [(1, .pure (GTable.cs t0))] rfl rfl rfl ?_
      have hz := some_elim H
      subst hz
      exact RunW_nil rfl
     ·replace H := ite_else h7 H
      refine r_on rfl rfl rfl rfl (decide_eq_false h7) rfl (PureD.opD (u_fa rfl rfl Tryd.underlying46 rfl in_35 (Nat.succ_ne_zero _) rfl rfl (ne_of_lt (n := 0) (Nat.lt_of_lt_of_eq (by decide) (Eq.symm (GTable.len t0)))))) ?_
      refine r_on rfl rfl rfl rfl (decide_eq_false h7) rfl (PureD.opD (u_ld rfl rfl Tryd.underlying35 rfl rfl ((Sub.refl _).trans (GTable.sub2 t0)))) ?_
      refine chkK H fun h8 H => ?_
      refine r_on rfl rfl rfl rfl (decide_eq_false h7) rfl (PureD.opD (u_ixl rfl rfl Tryd.underlying35 in_68 rfl rfl rfl h8 (fne (fun x => (GColumn.len x)) (by decide) h8))) ?_
      refine r_on rfl rfl rfl rfl (decide_eq_false h7) rfl (PureD.opD (u_far rfl rfl Tryd.underlying68 rfl in_3 (Nat.succ_ne_zero _) rfl)) ?_
      refine r_on rfl rfl rfl rfl (decide_eq_false h7) rfl (PureD.opD (u_ld rfl rfl Tryd.underlying3 rfl rfl ((Sub.fm default (fun x => (GColumn.len x)) h8).trans (GColumn.sub1 (lrd t0.Cols 0))))) ?_
      refine r_on rfl rfl rfl rfl (decide_eq_false h7) rfl (PureD.opD (p_ine rfl rfl rfl)) ?_
      refine rp rfl rfl (p_pkf rfl rfl (decide_eq_false h7) (.same _)) ?_
      refine rp rfl rfl (p_move rfl rfl) ?_
      refine (Classical.em ((lrd t0.Cols 0).Kind ≠ (2 : Int))).elim (fun h9 => ?_) (fun h9 => ?_)
      ·replace H := ite_then h9 H
       iterate 5 (refine r_off rfl rfl rfl rfl (decide_eq_true h9) rfl rfl ?_)
       refine rp rfl rfl (p_pkt rfl rfl (decide_eq_true h9) (.same _)) ?_
       refine rs [(1, .q 1 (0)), (42, .b true)] [(1, .pure (GTable.cs t0))] rfl rfl rfl ?_
       have hz := some_elim H
       subst hz
       exact RunW_nil rfl
      ·replace H := ite_else h9 H
       refine r_on rfl rfl rfl rfl (decide_eq_false h9) rfl (PureD.opD (u_fa rfl rfl Tryd.underlying46 rfl in_35 (Nat.succ_ne_zero _) rfl rfl (ne_of_lt (n := 0) (Nat.lt_of_lt_of_eq (by decide) (Eq.symm (GTable.len t0)))))) ?_
       refine r_on rfl rfl rfl rfl (decide_eq_false h9) rfl (PureD.opD (u_ld rfl rfl Tryd.underlying35 rfl rfl ((Sub.refl _).trans (GTable.sub2 t0)))) ?_
       refine chkK H fun h10 H => ?_
       refine r_on rfl rfl rfl rfl (decide_eq_false h9) rfl (PureD.opD (u_ixl rfl rfl Tryd.underlying35 in_68 rfl rfl rfl h10 (fne (fun x => (GColumn.len x)) (by decide) h10))) ?_
       refine r_on rfl rfl rfl rfl (decide_eq_false h9) rfl (PureD.opD (u_far rfl rfl Tryd.underlying68 rfl in_4 (Nat.succ_ne_zero _) rfl)) ?_
       refine r_on rfl rfl rfl rfl (decide_eq_false h9) rfl (PureD.opD (u_ld rfl rfl Tryd.underlying4 rfl rfl ((Sub.fm default (fun x => (GColumn.len x)) h10).trans (GColumn.sub2 (lrd t0.Cols 0))))) ?_
       refine rp rfl rfl (p_pkf rfl rfl (decide_eq_false h9) (.same _)) ?_
       refine rs [(1, .q 1 (0)), (42, .b ((lrd t0.Cols 0).Null))] [(1, .pure (GTable.cs t0))] rfl rfl rfl ?_
       have hz := some_elim H
       subst hz
       exact RunW_nil rfl
    ·refine AW2_cond rfl (fun h12 => ?_) (fun h12 => ?_)
     ·replace H := ite_then h12 H
      refine sg [0] rfl ?_
      refine rp rfl rfl (p_asg rfl rfl) ?_
      refine rz [(2, .i (3 : Int))] [] rfl rfl rfl ?_
      refine AW2_ret ?_
      have hz := some_elim H
      subst hz
      exact ⟨⟨res_tmp (.same _), trivial⟩, trivial⟩
     ·replace H := ite_else (ne_true h12) H
      refine as2 [(1, .q 1 (0))] [(1, .pure (GTable.cs t0))] rfl rfl rfl ?_
      refine AW2_skip ?_
      refine AW2_seq ?_
      refine sg [0, 1, 2] rfl ?_
      refine rp rfl rfl (u_fa rfl rfl Tryd.underlying46 rfl in_44 (Nat.succ_ne_zero _) rfl rfl (ne_of_lt (n := 0) (Nat.lt_of_lt_of_eq (by decide) (Eq.symm (GTable.len t0))))) ?_
      refine rp rfl rfl (u_lda rfl rfl Tryd.underlying44 rfl in_44 rfl (Nat.succ_pos _) ((Sub.refl _).trans (GTable.sub3 t0)) (vfm_len (fun x => (vfm_len (fun x => (GCell.len x)) x)) t0.Drawers)) ?_
      refine rp rfl rfl (p_move rfl rfl) ?_
      refine rz [(1, .q 1 (0)), (44, .g (t0.Drawers.toList.flatMap (fun v : Vector GCell 4 => v.toList.flatMap GCell.cs))), (45, .i (0 : Int))] [(1, .pure (GTable.cs t0))] rfl rfl rfl ?_
      refine AW2_block ?_
      refine as2 [(1, .q 1 (0)), (44, .g (t0.Drawers.toList.flatMap (fun v : Vector GCell 4 => v.toList.flatMap GCell.cs))), (45, .i (0 : Int))] [(1, .pure (GTable.cs t0))] rfl rfl rfl ?_
      refine bindK H fun o'18 h26 H => ?_
      refine AW2_loopO (fun a'15 : Int => (⟨[(1, .q 1 (0)), (44, .g (t0.Drawers.toList.flatMap (fun v : Vector GCell 4 => v.toList.flatMap GCell.cs))), (45, .i a'15)], [(1, .pure (GTable.cs t0))], 79⟩ : TS)) (fun (o : Int ⊕ Unit) e s' => match o with | .inl y'16 => e = Go.Exit.ret ∧ ResAll Tryd.prog s' [ResultVar.tmp 2] [.i y'16] ∧ HFits s' [] | .inr (y'17) => e = Go.Exit.exit 0 ∧ s' = (⟨[], [], 79⟩ : TS)) h26 rfl (fun t45_0 x hx => ?_) (fun e s' hs => ?_)
      ·clear H
       have H := hx
       clear hx
       unfold g_table_Check_l0 at H
       refine sg [0] rfl ?_
       refine rp rfl rfl (p_bin rfl rfl rfl rfl) ?_
       refine rz [(1, .q 1 (0)), (44, .g (t0.Drawers.toList.flatMap (fun v : Vector GCell 4 => v.toList.flatMap GCell.cs))), (45, .i t45_0), (46, .b (decide (t45_0 < (2 : Int))))] [(1, .pure (GTable.cs t0))] rfl rfl rfl ?_
       refine AW2_seq ?_
       refine AW2_if (p := t45_0 < (2 : Int)) rfl (fun h13 => ?_) (fun h13 => ?_)
       ·replace H := ite_then h13 H
        refine as2 [(1, .q 1 (0)), (44, .g (t0.Drawers.toList.flatMap (fun v : Vector GCell 4 => v.toList.flatMap GCell.cs))), (45, .i t45_0)] [(1, .pure (GTable.cs t0))] rfl rfl rfl ?_
        refine AW2_skip ?_
        refine AW2_seq ?_
        refine AW2_block ?_
        refine sg [0, 1, 2] rfl ?_
        refine chkK H fun h14 H => ?_
        refine rp rfl rfl (u_ixaa rfl rfl Tryd.underlying44 in_43 Tryd.underlying43 rfl rfl rfl (ixe h14) (ixn h14) (Sub.vfm (fun x => (vfm_len (fun x => (GCell.len x)) x)) (ixn h14)) (vfm_len (fun x => (GCell.len x)) (vrd t0.Drawers t45_0.toNat))) ?_
        refine r_op rfl rfl (MakeD.opD (u_alloc 5 rfl in_43 one_43 zc_43) rfl rfl rfl rfl) ?_
        refine r_op rfl rfl (u_st rfl rfl rfl rfl rfl in_43 (vfm_len (fun x => (GCell.len x)) (vrd t0.Drawers t45_0.toNat)) (ne_of_lt (n := 0) (Nat.lt_of_lt_of_eq (by decide) (Eq.symm (vfm_len (fun x => (GCell.len x)) (Vector.replicate 4 GCell.zero))))) (Upd.refl ((vfm_len (fun x => (GCell.len x)) (vrd t0.Drawers t45_0.toNat)).trans (vfm_len (fun x => (GCell.len x)) (Vector.replicate 4 GCell.zero)).symm))) ?_
        refine rz [(1, .q 1 (0)), (5, .q 5 (0)), (44, .g (t0.Drawers.toList.flatMap (fun v : Vector GCell 4 => v.toList.flatMap GCell.cs))), (45, .i t45_0)] [(1, .pure (GTable.cs t0)), (5, .pure (((vrd t0.Drawers t45_0.toNat).toList).flatMap GCell.cs))] rfl rfl rfl ?_
        refine AW2_seq ?_
        refine sg [0, 1] rfl ?_
        refine rp rfl rfl (u_lda rfl rfl Tryd.underlying43 rfl in_43 rfl (Nat.succ_pos _) (Sub.refl _) (vfm_len (fun x => (GCell.len x)) (vrd t0.Drawers t45_0.toNat))) ?_
        refine rp rfl rfl (p_move rfl rfl) ?_
        refine rz [(1, .q 1 (0)), (5, .q 5 (0)), (44, .g (t0.Drawers.toList.flatMap (fun v : Vector GCell 4 => v.toList.flatMap GCell.cs))), (45, .i t45_0), (48, .g (((vrd t0.Drawers t45_0.toNat).toList).flatMap GCell.cs)), (49, .i (0 : Int))] [(1, .pure (GTable.cs t0)), (5, .pure (((vrd t0.Drawers t45_0.toNat).toList).flatMap GCell.cs))] rfl rfl rfl ?_
        refine AW2_block ?_
        refine as2 [(1, .q 1 (0)), (5, .q 5 (0)), (44, .g (t0.Drawers.toList.flatMap (fun v : Vector GCell 4 => v.toList.flatMap GCell.cs))), (45, .i t45_0), (48, .g (((vrd t0.Drawers t45_0.toNat).toList).flatMap GCell.cs)), (49, .i (0 : Int))] [(1, .pure (GTable.cs t0)), (5, .pure (((vrd t0.Drawers t45_0.toNat).toList).flatMap GCell.cs))] rfl rfl rfl ?_
        refine bindK H fun o'11 h23 H => ?_
        refine AW2_loopO (fun a'8 : Int => (⟨[(1, .q 1 (0)), (5, .q 5 (0)), (44, .g (t0.Drawers.toList.flatMap (fun v : Vector GCell 4 => v.toList.flatMap GCell.cs))), (45, .i t45_0), (48, .g (((vrd t0.Drawers t45_0.toNat).toList).flatMap GCell.cs)), (49, .i a'8)], [(1, .pure (GTable.cs t0)), (5, .pure (((vrd t0.Drawers t45_0.toNat).toList).flatMap GCell.cs))], 79⟩ : TS)) (fun (o : Int ⊕ Unit) e s' => match o with | .inl y'9 => e = Go.Exit.ret ∧ ResAll Tryd.prog s' [ResultVar.tmp 2] [.i y'9] ∧ HFits s' [] | .inr (y'10) => e = Go.Exit.exit 2 ∧ s' = (⟨[(1, .q 1 (0)), (5, .q 5 (0)), (44, .g (t0.Drawers.toList.flatMap (fun v : Vector GCell 4 => v.toList.flatMap GCell.cs))), (45, .i t45_0)], [(1, .pure (GTable.cs t0)), (5, .pure (((vrd t0.Drawers t45_0.toNat).toList).flatMap GCell.cs))], 79⟩ : TS)) h23 rfl (fun t49_1 x hx => ?_) (fun e s' hs => ?_)
        ·clear H
         have H := hx
         clear hx
         unfold g_table_Check_l1 at H
         refine sg [0] rfl ?_
         refine rp rfl rfl (p_bin rfl rfl rfl rfl) ?_
         refine rz [(1, .q 1 (0)), (5, .q 5 (0)), (44, .g (t0.Drawers.toList.flatMap (fun v : Vector GCell 4 => v.toList.flatMap GCell.cs))), (45, .i t45_0), (48, .g (((vrd t0.Drawers t45_0.toNat).toList).flatMap GCell.cs)), (49, .i t49_1), (50, .b (decide (t49_1 < (4 : Int))))] [(1, .pure (GTable.cs t0)), (5, .pure (((vrd t0.Drawers t45_0.toNat).toList).flatMap GCell.cs))] rfl rfl rfl ?_
         refine AW2_seq ?_
         refine AW2_if (p := t49_1 < (4 : Int)) rfl (fun h15 => ?_) (fun h15 => ?_)
         ·replace H := ite_then h15 H
          refine as2 [(1, .q 1 (0)), (5, .q 5 (0)), (44, .g (t0.Drawers.toList.flatMap (fun v : Vector GCell 4 => v.toList.flatMap GCell.cs))), (45, .i t45_0), (48, .g (((vrd t0.Drawers t45_0.toNat).toList).flatMap GCell.cs)), (49, .i t49_1)] [(1, .pure (GTable.cs t0)), (5, .pure (((vrd t0.Drawers t45_0.toNat).toList).flatMap GCell.cs))] rfl rfl rfl ?_
          refine AW2_skip ?_
          refine AW2_seq ?_
          refine bindK H fun o'7 h16 H => ?_
          refine AW2_join (fun j'4 : Unit => (⟨[(1, .q 1 (0)), (5, .q 5 (0)), (44, .g (t0.Drawers.toList.flatMap (fun v : Vector GCell 4 => v.toList.flatMap GCell.cs))), (45, .i t45_0), (48, .g (((vrd t0.Drawers t45_0.toNat).toList).flatMap GCell.cs)), (49, .i t49_1)], [(1, .pure (GTable.cs t0)), (5, .pure (((vrd t0.Drawers t45_0.toNat).toList).flatMap GCell.cs))], 79⟩ : TS)) (fun r e s' => e = Go.Exit.ret ∧ ResAll Tryd.prog s' [ResultVar.tmp 2] [.i r] ∧ HFits s' []) (x := o'7) ?_ (fun j'4 hy => ?_) (fun y'6 e s' hy hs => ?_)
          ·clear H
           have H := h16
           clear h16
           refine AW2_block ?_
           refine sg [0, 1, 2] rfl ?_
           refine chkK H fun h17 H => ?_
           refine rp rfl rfl (u_ixaa rfl rfl Tryd.underlying43 in_42 Tryd.underlying42 rfl rfl rfl (ixe h17) (ixn h17) (Sub.vfm (fun x => (GCell.len x)) (ixn h17)) (GCell.len (vrd (vrd t0.Drawers t45_0.toNat) t49_1.toNat))) ?_
           refine r_op rfl rfl (MakeD.opD (u_alloc 7 rfl in_42 one_42 zc_42) rfl rfl rfl rfl) ?_
           refine r_op rfl rfl (u_st rfl rfl rfl rfl rfl in_42 (GCell.len (vrd (vrd t0.Drawers t45_0.toNat) t49_1.toNat)) (ne_of_lt (n := 0) (Nat.lt_of_lt_of_eq (by decide) (Eq.symm (GCell.len GCell.zero)))) (Upd.refl ((GCell.len (vrd (vrd t0.Drawers t45_0.toNat) t49_1.toNat)).trans (GCell.len GCell.zero).symm))) ?_
           refine rz [(1, .q 1 (0)), (5, .q 5 (0)), (7, .q 7 (0)), (44, .g (t0.Drawers.toList.flatMap (fun v : Vector GCell 4 => v.toList.flatMap GCell.cs))), (45, .i t45_0), (48, .g (((vrd t0.Drawers t45_0.toNat).toList).flatMap GCell.cs)), (49, .i t49_1)] [(1, .pure (GTable.cs t0)), (5, .pure (((vrd t0.Drawers t45_0.toNat).toList).flatMap GCell.cs)), (7, .pure (GCell.cs (vrd (vrd t0.Drawers t45_0.toNat) t49_1.toNat)))] rfl rfl rfl ?_
           refine AW2_seq ?_
           refine AW2_seq ?_
           refine AW2_mid (⟨[(1, .q 1 (0)), (5, .q 5 (0)), (7, .q 7 (0)), (44, .g (t0.Drawers.toList.flatMap (fun v : Vector GCell 4 => v.toList.flatMap GCell.cs))), (45, .i t45_0), (48, .g (((vrd t0.Drawers t45_0.toNat).toList).flatMap GCell.cs)), (49, .i t49_1), (60, .b (decide (((!((vrd (vrd t0.Drawers t45_0.toNat) t49_1.toNat).Full)) = true) ∧ ((((vrd (vrd t0.Drawers t45_0.toNat) t49_1.toNat).Row).length : Int) > (0 : Int)))))], [(1, .pure (GTable.cs t0)), (5, .pure (((vrd t0.Drawers t45_0.toNat).toList).flatMap GCell.cs)), (7, .pure (GCell.cs (vrd (vrd t0.Drawers t45_0.toNat) t49_1.toNat)))], 79⟩ : TS) ?_ ?_
           ·refine AW2_reg [0, 1, 2, 3, 4, 5, 6, 7, 8] rfl ?_
            refine rp rfl rfl (u_fa rfl rfl Tryd.underlying42 rfl in_4 (Nat.succ_ne_zero _) rfl rfl (ne_of_lt (n := 0) (Nat.lt_of_lt_of_eq (by decide) (Eq.symm (GCell.len (vrd (vrd t0.Drawers t45_0.toNat) t49_1.toNat)))))) ?_
            refine rp rfl rfl (u_ld rfl rfl Tryd.underlying4 rfl rfl ((Sub.refl _).trans (GCell.sub0 (vrd (vrd t0.Drawers t45_0.toNat) t49_1.toNat)))) ?_
            refine rp rfl rfl (p_not rfl rfl) ?_
            refine rp rfl rfl (p_move rfl rfl) ?_
            refine (Classical.em ((!((vrd (vrd t0.Drawers t45_0.toNat) t49_1.toNat).Full)) = true)).elim (fun h18 => ?_) (fun h18 => ?_)
            ·refine rn rfl rfl rfl rfl h18 rfl (u_fa rfl rfl Tryd.underlying42 rfl in_38 (Nat.succ_ne_zero _) rfl rfl (ne_of_lt (n := 0) (Nat.lt_of_lt_of_eq (by decide) (Eq.symm (GCell.len (vrd (vrd t0.Drawers t45_0.toNat) t49_1.toNat)))))) ?_
             refine rn rfl rfl rfl rfl h18 rfl (u_ld rfl rfl Tryd.underlying38 rfl rfl ((Sub.refl _).trans (GCell.sub1 (vrd (vrd t0.Drawers t45_0.toNat) t49_1.toNat)))) ?_
             refine rn rfl rfl rfl rfl h18 rfl (p_lenl rfl Tryd.underlying38 rfl rfl) ?_
             refine rn rfl rfl rfl rfl h18 rfl (p_bin rfl rfl rfl rfl) ?_
             refine rp rfl rfl (p_pkt rfl rfl h18 (tb ((and_l (p := (!((vrd (vrd t0.Drawers t45_0.toNat) t49_1.toNat).Full)) = true) (q := (((vrd (vrd t0.Drawers t45_0.toNat) t49_1.toNat).Row).length : Int) > (0 : Int)) h18)))) ?_
             refine rs [(1, .q 1 (0)), (5, .q 5 (0)), (7, .q 7 (0)), (44, .g (t0.Drawers.toList.flatMap (fun v : Vector GCell 4 => v.toList.flatMap GCell.cs))), (45, .i t45_0), (48, .g (((vrd t0.Drawers t45_0.toNat).toList).flatMap GCell.cs)), (49, .i t49_1), (60, .b (decide (((!((vrd (vrd t0.Drawers t45_0.toNat) t49_1.toNat).Full)) = true) ∧ ((((vrd (vrd t0.Drawers t45_0.toNat) t49_1.toNat).Row).length : Int) > (0 : Int)))))] [(1, .pure (GTable.cs t0)), (5, .pure (((vrd t0.Drawers t45_0.toNat).toList).flatMap GCell.cs)), (7, .pure (GCell.cs (vrd (vrd t0.Drawers t45_0.toNat) t49_1.toNat)))] rfl rfl rfl ?_
             exact RunW_nil rfl
            ·iterate 4 (refine r_off rfl rfl rfl rfl (bfalse h18) rfl rfl ?_)
             refine rp rfl rfl (p_pkf rfl rfl (bfalse h18) (tb (decide_eq_false (p := ((!((vrd (vrd t0.Drawers t45_0.toNat) t49_1.toNat).Full)) = true) ∧ ((((vrd (vrd t0.Drawers t45_0.toNat) t49_1.toNat).Row).length : Int) > (0 : Int))) (fun x => h18 x.1)).symm)) ?_
             refine rs [(1, .q 1 (0)), (5, .q 5 (0)), (7, .q 7 (0)), (44, .g (t0.Drawers.toList.flatMap (fun v : Vector GCell 4 => v.toList.flatMap GCell.cs))), (45, .i t45_0), (48, .g (((vrd t0.Drawers t45_0.toNat).toList).flatMap GCell.cs)), (49, .i t49_1), (60, .b (decide (((!((vrd (vrd t0.Drawers t45_0.toNat) t49_1.toNat).Full)) = true) ∧ ((((vrd (vrd t0.Drawers t45_0.toNat) t49_1.toNat).Row).length : Int) > (0 : Int)))))] [(1, .pure (GTable.cs t0)), (5, .pure (((vrd t0.Drawers t45_0.toNat).toList).flatMap GCell.cs)), (7, .pure (GCell.cs (vrd (vrd t0.Drawers t45_0.toNat) t49_1.toNat)))] rfl rfl rfl ?_
             exact RunW_nil rfl
           ·refine AW2_if (p := ((!((vrd (vrd t0.Drawers t45_0.toNat) t49_1.toNat).Full)) = true) ∧ ((((vrd (vrd t0.Drawers t45_0.toNat) t49_1.toNat).Row).length : Int) > (0 : Int))) rfl (fun h19 => ?_) (fun h19 => ?_)
            ·replace H := ite_then h19 H
             refine sg [0] rfl ?_
             refine rp rfl rfl (p_asg rfl rfl) ?_
             refine rz [(2, .i (3 : Int))] [] rfl rfl rfl ?_
             refine AW2_ret ?_
             have hz := some_elim H
             subst hz
             exact ⟨rfl, ⟨res_tmp (.same _), trivial⟩, trivial⟩
            ·replace H := ite_else h19 H
             refine as2 [(1, .q 1 (0)), (5, .q 5 (0)), (7, .q 7 (0)), (44, .g (t0.Drawers.toList.flatMap (fun v : Vector GCell 4 => v.toList.flatMap GCell.cs))), (45, .i t45_0), (48, .g (((vrd t0.Drawers t45_0.toNat).toList).flatMap GCell.cs)), (49, .i t49_1)] [(1, .pure (GTable.cs t0)), (5, .pure (((vrd t0.Drawers t45_0.toNat).toList).flatMap GCell.cs)), (7, .pure (GCell.cs (vrd (vrd t0.Drawers t45_0.toNat) t49_1.toNat)))] rfl rfl rfl ?_
             refine AW2_skip ?_
             refine AW2_seq ?_
             refine sg [0, 1, 2] rfl ?_
             refine rp rfl rfl (u_fa rfl rfl Tryd.underlying42 rfl in_4 (Nat.succ_ne_zero _) rfl rfl (ne_of_lt (n := 0) (Nat.lt_of_lt_of_eq (by decide) (Eq.symm (GCell.len (vrd (vrd t0.Drawers t45_0.toNat) t49_1.toNat)))))) ?_
             refine rp rfl rfl (u_ld rfl rfl Tryd.underlying4 rfl rfl ((Sub.refl _).trans (GCell.sub0 (vrd (vrd t0.Drawers t45_0.toNat) t49_1.toNat)))) ?_
             refine rp rfl rfl (p_not rfl rfl) ?_
             refine rz [(1, .q 1 (0)), (5, .q 5 (0)), (7, .q 7 (0)), (44, .g (t0.Drawers.toList.flatMap (fun v : Vector GCell 4 => v.toList.flatMap GCell.cs))), (45, .i t45_0), (48, .g (((vrd t0.Drawers t45_0.toNat).toList).flatMap GCell.cs)), (49, .i t49_1), (63, .b (!((vrd (vrd t0.Drawers t45_0.toNat) t49_1.toNat).Full)))] [(1, .pure (GTable.cs t0)), (5, .pure (((vrd t0.Drawers t45_0.toNat).toList).flatMap GCell.cs)), (7, .pure (GCell.cs (vrd (vrd t0.Drawers t45_0.toNat) t49_1.toNat)))] rfl rfl rfl ?_
             refine AW2_cond rfl (fun h20 => ?_) (fun h20 => ?_)
             ·replace H := ite_then h20 H
              refine as2 [(1, .q 1 (0)), (5, .q 5 (0)), (44, .g (t0.Drawers.toList.flatMap (fun v : Vector GCell 4 => v.toList.flatMap GCell.cs))), (45, .i t45_0), (48, .g (((vrd t0.Drawers t45_0.toNat).toList).flatMap GCell.cs)), (49, .i t49_1)] [(1, .pure (GTable.cs t0)), (5, .pure (((vrd t0.Drawers t45_0.toNat).toList).flatMap GCell.cs))] rfl rfl rfl ?_
              refine AW2_exit ?_
              refine thenQ2_exit ?_
              refine blockQ2_exit ?_
              have hz := some_elim H
              subst hz
              exact ⟨rfl, rfl⟩
             ·replace H := ite_else (ne_true h20) H
              refine as2 [(1, .q 1 (0)), (5, .q 5 (0)), (7, .q 7 (0)), (44, .g (t0.Drawers.toList.flatMap (fun v : Vector GCell 4 => v.toList.flatMap GCell.cs))), (45, .i t45_0), (48, .g (((vrd t0.Drawers t45_0.toNat).toList).flatMap GCell.cs)), (49, .i t49_1)] [(1, .pure (GTable.cs t0)), (5, .pure (((vrd t0.Drawers t45_0.toNat).toList).flatMap GCell.cs)), (7, .pure (GCell.cs (vrd (vrd t0.Drawers t45_0.toNat) t49_1.toNat)))] rfl rfl rfl ?_
              refine AW2_skip ?_
              refine sg [0, 1, 2, 3, 4, 5] rfl ?_
              refine rp rfl rfl (u_fa rfl rfl Tryd.underlying42 rfl in_38 (Nat.succ_ne_zero _) rfl rfl (ne_of_lt (n := 0) (Nat.lt_of_lt_of_eq (by decide) (Eq.symm (GCell.len (vrd (vrd t0.Drawers t45_0.toNat) t49_1.toNat)))))) ?_
              refine rp rfl rfl (u_ld rfl rfl Tryd.underlying38 rfl rfl ((Sub.refl _).trans (GCell.sub1 (vrd (vrd t0.Drawers t45_0.toNat) t49_1.toNat)))) ?_
              refine rp rfl rfl (u_fa rfl rfl Tryd.underlying46 rfl in_35 (Nat.succ_ne_zero _) rfl rfl (ne_of_lt (n := 0) (Nat.lt_of_lt_of_eq (by decide) (Eq.symm (GTable.len t0))))) ?_
              refine rp rfl rfl (u_ld rfl rfl Tryd.underlying35 rfl rfl ((Sub.refl _).trans (GTable.sub2 t0))) ?_
              refine bindK H fun r'5 h21 H => ?_
              refine rp rfl rfl (p_callp rfl rfl rfl Tryd.func16 rfl rfl (g_kinds_Row_ac h21) ⟨rfl, rfl, trivial⟩) ?_
              refine rp rfl rfl (p_asg rfl rfl) ?_
              refine rz [(1, .q 1 (0)), (5, .q 5 (0)), (8, .i r'5), (44, .g (t0.Drawers.toList.flatMap (fun v : Vector GCell 4 => v.toList.flatMap GCell.cs))), (45, .i t45_0), (48, .g (((vrd t0.Drawers t45_0.toNat).toList).flatMap GCell.cs)), (49, .i t49_1)] [(1, .pure (GTable.cs t0)), (5, .pure (((vrd t0.Drawers t45_0.toNat).toList).flatMap GCell.cs))] rfl rfl rfl ?_
              refine sg [0, 1] rfl ?_
              refine rp rfl rfl (p_move rfl rfl) ?_
              refine rp rfl rfl (p_ine rfl rfl rfl) ?_
              refine rz [(1, .q 1 (0)), (5, .q 5 (0)), (8, .i r'5), (44, .g (t0.Drawers.toList.flatMap (fun v : Vector GCell 4 => v.toList.flatMap GCell.cs))), (45, .i t45_0), (48, .g (((vrd t0.Drawers t45_0.toNat).toList).flatMap GCell.cs)), (49, .i t49_1), (70, .b (decide (r'5 ≠ (0 : Int))))] [(1, .pure (GTable.cs t0)), (5, .pure (((vrd t0.Drawers t45_0.toNat).toList).flatMap GCell.cs))] rfl rfl rfl ?_
              refine AW2_if (p := r'5 ≠ (0 : Int)) rfl (fun h22 => ?_) (fun h22 => ?_)
              ·replace H := ite_then h22 H
               refine sg [0, 1] rfl ?_
               refine rp rfl rfl (p_move rfl rfl) ?_
               refine rp rfl rfl (p_asg rfl rfl) ?_
               refine rz [(2, .i r'5)] [] rfl rfl rfl ?_
               refine AW2_ret ?_
               have hz := some_elim H
               subst hz
               exact ⟨rfl, ⟨res_tmp (.same _), trivial⟩, trivial⟩
              ·replace H := ite_else h22 H
               refine as2 [(1, .q 1 (0)), (5, .q 5 (0)), (44, .g (t0.Drawers.toList.flatMap (fun v : Vector GCell 4 => v.toList.flatMap GCell.cs))), (45, .i t45_0), (48, .g (((vrd t0.Drawers t45_0.toNat).toList).flatMap GCell.cs)), (49, .i t49_1)] [(1, .pure (GTable.cs t0)), (5, .pure (((vrd t0.Drawers t45_0.toNat).toList).flatMap GCell.cs))] rfl rfl rfl ?_
               refine AW2_skip ?_
               have hz := some_elim H
               subst hz
               exact ⟨rfl, rfl⟩
          ·subst hy
           refine AW2_reg [0, 1] rfl ?_
           refine rp rfl rfl (p_bin rfl rfl rfl rfl) ?_
           refine rp rfl rfl (p_move rfl rfl) ?_
           refine rz [(1, .q 1 (0)), (5, .q 5 (0)), (44, .g (t0.Drawers.toList.flatMap (fun v : Vector GCell 4 => v.toList.flatMap GCell.cs))), (45, .i t45_0), (48, .g (((vrd t0.Drawers t45_0.toNat).toList).flatMap GCell.cs)), (49, .i (w64 (t49_1 + (1 : Int))))] [(1, .pure (GTable.cs t0)), (5, .pure (((vrd t0.Drawers t45_0.toNat).toList).flatMap GCell.cs))] rfl rfl rfl ?_
           have hz := some_elim H
           subst hz
           exact ⟨rfl, rfl⟩
          ·subst hy
           obtain ⟨rfl, hs⟩ := hs
           have hz := some_elim H
           subst hz
           exact ⟨rfl, hs.1, hs.2⟩
         ·replace H := ite_else h15 H
          refine as2 [(1, .q 1 (0)), (5, .q 5 (0)), (44, .g (t0.Drawers.toList.flatMap (fun v : Vector GCell 4 => v.toList.flatMap GCell.cs))), (45, .i t45_0)] [(1, .pure (GTable.cs t0)), (5, .pure (((vrd t0.Drawers t45_0.toNat).toList).flatMap GCell.cs))] rfl rfl rfl ?_
          refine AW2_exit ?_
          refine thenQ2_exit ?_
          have hz := some_elim H
          subst hz
          exact ⟨rfl, rfl⟩
        ·rcases o'11 with y'12 | y'13
         ·obtain ⟨rfl, hs⟩ := hs
          refine ⟨by simp, ?_⟩
          have hz := some_elim H
          subst hz
          exact ⟨rfl, hs.1, hs.2⟩
         ·obtain ⟨rfl, rfl⟩ := hs
          refine ⟨by simp, ?_⟩
          refine blockQ2_exit ?_
          refine sg [0, 1, 2] rfl ?_
          refine rp rfl rfl (u_lda rfl rfl Tryd.underlying43 rfl in_43 rfl (Nat.succ_pos _) (Sub.refl _) (vfm_len (fun x => (GCell.len x)) (vrd t0.Drawers t45_0.toNat))) ?_
          refine bindK H fun r'14 h24 H => ?_
          refine rp rfl rfl (p_callp rfl rfl rfl Tryd.func44 rfl rfl (g_table_keys_ac h24) ⟨rfl, trivial⟩) ?_
          refine rp rfl rfl (p_asg rfl rfl) ?_
          refine rz [(1, .q 1 (0)), (9, .i r'14), (44, .g (t0.Drawers.toList.flatMap (fun v : Vector GCell 4 => v.toList.flatMap GCell.cs))), (45, .i t45_0)] [(1, .pure (GTable.cs t0))] rfl rfl rfl ?_
          refine sg [0, 1] rfl ?_
          refine rp rfl rfl (p_move rfl rfl) ?_
          refine rp rfl rfl (p_ine rfl rfl rfl) ?_
          refine rz [(1, .q 1 (0)), (9, .i r'14), (44, .g (t0.Drawers.toList.flatMap (fun v : Vector GCell 4 => v.toList.flatMap GCell.cs))), (45, .i t45_0), (76, .b (decide (r'14 ≠ (0 : Int))))] [(1, .pure (GTable.cs t0))] rfl rfl rfl ?_
          refine AW2_if (p := r'14 ≠ (0 : Int)) rfl (fun h25 => ?_) (fun h25 => ?_)
          ·replace H := ite_then h25 H
           refine sg [0, 1] rfl ?_
           refine rp rfl rfl (p_move rfl rfl) ?_
           refine rp rfl rfl (p_asg rfl rfl) ?_
           refine rz [(2, .i r'14)] [] rfl rfl rfl ?_
           refine AW2_ret ?_
           have hz := some_elim H
           subst hz
           exact ⟨rfl, ⟨res_tmp (.same _), trivial⟩, trivial⟩
          ·replace H := ite_else h25 H
           refine as2 [(1, .q 1 (0)), (44, .g (t0.Drawers.toList.flatMap (fun v : Vector GCell 4 => v.toList.flatMap GCell.cs))), (45, .i t45_0)] [(1, .pure (GTable.cs t0))] rfl rfl rfl ?_
           refine AW2_skip ?_
           refine AW2_reg [0, 1] rfl ?_
           refine rp rfl rfl (p_bin rfl rfl rfl rfl) ?_
           refine rp rfl rfl (p_move rfl rfl) ?_
           refine rz [(1, .q 1 (0)), (44, .g (t0.Drawers.toList.flatMap (fun v : Vector GCell 4 => v.toList.flatMap GCell.cs))), (45, .i (w64 (t45_0 + (1 : Int))))] [(1, .pure (GTable.cs t0))] rfl rfl rfl ?_
           have hz := some_elim H
           subst hz
           exact ⟨rfl, rfl⟩
       ·replace H := ite_else h13 H
        refine as2 [] [] rfl rfl rfl ?_
        refine AW2_exit ?_
        refine thenQ2_exit ?_
        have hz := some_elim H
        subst hz
        exact ⟨rfl, rfl⟩
      ·rcases o'18 with y'19 | y'20
       ·obtain ⟨rfl, hs⟩ := hs
        refine ⟨by simp, ?_⟩
        have hz := some_elim H
        subst hz
        exact ⟨hs.1, hs.2⟩
       ·obtain ⟨rfl, rfl⟩ := hs
        refine ⟨by simp, ?_⟩
        refine blockQ2_exit ?_
        refine sg [0] rfl ?_
        refine rp rfl rfl (p_asg rfl rfl) ?_
        refine rz [(2, .i (0 : Int))] [] rfl rfl rfl ?_
        refine AW2_ret ?_
        have hz := some_elim H
        subst hz
        exact ⟨⟨res_tmp (.same _), trivial⟩, trivial⟩

/-! table.row -/
noncomputable def g_table_row (r0 : List GValue) : Option ((List GValue)) :=
  if room (([] : List GValue).length + r0.length) 40 then some (([] : List GValue) ++ r0) else none
set_option maxHeartbeats 4000000 in
set_option maxRecDepth 100000 in
theorem g_table_row_ac2 {r0 : List GValue} {r : (List GValue)} (H : g_table_row r0 = some r) : AC2 Tryd.prog 46 (pureT [((fun q : List GValue => AV.lst (q.flatMap GValue.cs) q.length) r0)]) [] (.c (.own 2 r.length 4)) [(2, .pure (r.flatMap GValue.cs))] := by
 refine AC2_of_body (vs := [.c (.own 2 r.length 4)]) Tryd.func46 rfl rfl (Nat.le_of_ble_eq_true rfl) rfl ?_
 unfold g_table_row at H
 refine as2 [(0, .p ((fun q : List GValue => AV.lst (q.flatMap GValue.cs) q.length) r0))] [] rfl rfl rfl ?_
 refine sg [0] rfl ?_
 refine rp rfl rfl (p_asgn rfl) ?_
 refine rz [(0, .p ((fun q : List GValue => AV.lst (q.flatMap GValue.cs) q.length) r0))] [] rfl rfl rfl ?_
 refine sg [0, 1, 2, 3] rfl ?_
 refine r_op rfl rfl (MakeD.opD (n_bs0 3 rfl Tryd.underlying38 in_29) rfl rfl rfl rfl) ?_
 refine rp rfl rfl (p_move rfl rfl) ?_
 refine chkK H fun h1 H => ?_
 refine r_op rfl rfl (u_app [3] rfl rfl rfl rfl Tryd.underlying38 Tryd.underlying38 in_29 rfl rfl rfl (fm_length (fun x => (GValue.len x)) ([] : List GValue)) (by decide) rfl (fm_length (fun x => (GValue.len x)) r0) h1 (by decide) rfl rfl (fapp GValue.cs ([] : List GValue) r0) (lapp ([] : List GValue) r0)) ?_
 refine rp rfl rfl (p_asg rfl rfl) ?_
 refine rs [(2, .c (.own 3 (([] : List GValue) ++ r0).length 4))] [(3, .pure ((([] : List GValue) ++ r0).flatMap GValue.cs))] rfl rfl rfl ?_
 refine RunW_gho (Gho_ren 3 2 rfl rfl rfl rfl rfl) ?_
 refine rz [(2, .c (.own 2 (([] : List GValue) ++ r0).length 4))] [(2, .pure ((([] : List GValue) ++ r0).flatMap GValue.cs))] rfl rfl rfl ?_
 refine as2 [(2, .c (.own 2 (([] : List GValue) ++ r0).length 4))] [(2, .pure ((([] : List GValue) ++ r0).flatMap GValue.cs))] rfl rfl rfl ?_
 refine AW2_ret ?_
 have hz := some_elim H
 subst hz
 exact ⟨⟨res_tmp (.same _), trivial⟩, ⟨rfl, trivial⟩⟩
theorem g_table_row_ac {r0 : List GValue} {r : (List GValue)} (H : g_table_row r0 = some r) : ACp Tryd.prog 46 [((fun q : List GValue => AV.lst (q.flatMap GValue.cs) q.length) r0)] ((fun q : List GValue => AV.lst (q.flatMap GValue.cs) q.length) r) := ACp_pub (g_table_row_ac2 H) (fun _ _ hm => lent_own hm rfl (fm_length (fun x => (GValue.len x)) r) (by decide))

/-! table.Rows -/
def g_table_Rows_r15 : List (List (Nat × Option Nat)) := [[(13, none)], [(10, none)], [(49, some 0), (50, some 1)], [(51, some 2)], [(7, none), (52, some 3)], [(13, none), (52, some 3)], [(52, some 3), (53, some 4), (54, some 5)], [(52, some 3), (55, some 6)], [(52, some 3), (56, some 7)], [(52, some 3), (57, some 8)], [(52, some 3), (58, some 9)], [(7, none), (52, some 3)], [(13, none), (52, some 3)], [(52, some 3), (61, some 12)], [(52, some 3), (60, some 11), (62, some 13)], [(52, some 3), (63, some 14)], [(52, some 3), (64, some 15)], [(52, some 3), (65, some 16)], [(52, some 3), (66, some 17)]]
def g_table_Rows_r15c : List (List Nat) := [[], [], [0, 1], [0, 1, 2], [0, 1, 2, 3], [0, 1, 2, 3], [0, 1, 2, 3, 4, 5], [0, 1, 2, 3, 4, 5, 6], [0, 1, 2, 3, 4, 5, 6, 7], [0, 1, 2, 3, 4, 5, 6, 7, 8], [0, 1, 2, 3, 4, 5, 6, 7, 8, 9], [0, 1, 2, 3], [0, 1, 2, 3], [0, 1, 2, 3, 12], [0, 1, 2, 3, 11, 12, 13], [0, 1, 2, 3, 11, 12, 13, 14], [0, 1, 2, 3, 11, 12, 13, 14, 15], [0, 1, 2, 3, 11, 12, 13, 14, 15, 16], [0, 1, 2, 3, 11, 12, 13, 14, 15, 16, 17], [0, 1, 2, 3, 4, 5, 6, 7, 8, 9, 10, 11, 12, 13, 14, 15, 16, 17, 18], [0, 1, 2, 3, 4, 5, 6, 7, 8, 9, 10, 11, 12, 13, 14, 15, 16, 17, 18, 19]]
def g_table_Rows_r17 : List (List (Nat × Option Nat)) := [[(7, none)], [(13, none)], [(7, none)], [(13, none)], [(75, some 3)], [(7, none)], [(13, none)], [(78, some 6)], [(77, some 5), (79, some 7)], [(80, some 8)], [(7, none)], [(13, none)], [(82, some 10), (83, some 11)], [(84, some 12)], [(72, some 0), (73, some 1)], [(81, some 9), (86, some 14)]]
def g_table_Rows_r17c : List (List Nat) := [[], [], [], [], [3], [], [], [6], [5, 6, 7], [5, 6, 7, 8], [], [], [10, 11], [10, 11, 12], [0, 1, 5, 6, 7, 8, 9, 10, 11, 12, 13], [0, 1, 5, 6, 7, 8, 9, 10, 11, 12, 13, 14], [0, 1, 2, 3, 4, 5, 6, 7, 8, 9, 10, 11, 12, 13, 14, 15], [0, 1, 2, 3, 4, 5, 6, 7, 8, 9, 10, 11, 12, 13, 14, 15, 16]]
noncomputable def g_table_Rows_l2 (out7_0 : List (List GValue)) : Int × (List (List GValue)) → Option ((Int × (List (List GValue))) ⊕ (((List (List GValue)))))
  | (j13_2, out7_2) => ((if j13_2 > (out7_0.length : Int) then if 0 ≤ j13_2 ∧ j13_2 < (out7_2.length : Int) then if 0 < (lrd out7_2 j13_2.toNat).length then if 0 ≤ w64 (j13_2 - (1 : Int)) ∧ w64 (j13_2 - (1 : Int)) < (out7_2.length : Int) then if 0 < (lrd out7_2 ((w64 (j13_2 - (1 : Int))).toNat)).length then some (decide ((lrd (lrd out7_2 j13_2.toNat) 0).Int_ < (lrd (lrd out7_2 ((w64 (j13_2 - (1 : Int))).toNat)) 0).Int_)) else none else none else none else none else some false)).bind fun g'5 => (if g'5 = true then if 0 ≤ w64 (j13_2 - (1 : Int)) ∧ w64 (j13_2 - (1 : Int)) < (out7_2.length : Int) then if 0 ≤ j13_2 ∧ j13_2 < (out7_2.length : Int) then if 0 ≤ j13_2 ∧ j13_2 < (out7_2.length : Int) then if 0 ≤ w64 (j13_2 - (1 : Int)) ∧ w64 (j13_2 - (1 : Int)) < ((out7_2.set j13_2.toNat (lrd out7_2 ((w64 (j13_2 - (1 : Int))).toNat))).length : Int) then letO (((out7_2.set j13_2.toNat (lrd out7_2 ((w64 (j13_2 - (1 : Int))).toNat))).set ((w64 (j13_2 - (1 : Int))).toNat) (lrd out7_2 j13_2.toNat))) fun out7'6 => some (.inl (w64 (j13_2 - (1 : Int)), out7'6)) else none else none else none else none else some (.inr out7_2))
noncomputable def g_table_Rows_l1 (t0 : GTable) (open1 : Vector Bool 2) (t21_0 : Int) (out7_0 : List (List GValue)) : Int × (List (List GValue)) → Option ((Int × (List (List GValue))) ⊕ (((List (List GValue)))))
  | (t28_1, out7_1) => (if t28_1 < (4 : Int) then (if 0 ≤ t28_1 ∧ t28_1 < (4 : Int) then if 0 ≤ t21_0 ∧ t21_0 < (2 : Int) then (if ((!(vrd open1 t21_0.toNat)) = true) ∨ ((!((vrd (vrd t0.Drawers t21_0.toNat) t28_1.toNat).Full)) = true) then some out7_1 else (g_table_row ((vrd (vrd t0.Drawers t21_0.toNat) t28_1.toNat).Row)).bind fun r'3 => if room (out7_1.length + ([r'3] : List (List GValue)).length) 24 then letO (w64 (((out7_1 ++ ([r'3] : List (List GValue))).length : Int) - (1 : Int))) fun j13'4 => (loopO (g_table_Rows_l2 out7_0) (j13'4, out7_1 ++ ([r'3] : List (List GValue)))).bind fun y'10 => some y'10 else none) else none else none).bind fun j'2 => some (.inl (w64 (t28_1 + (1 : Int)), j'2)) else some (.inr out7_1))
noncomputable def g_table_Rows_l0 (t0 : GTable) (open1 : Vector Bool 2) : Int × (List (List GValue)) → Option ((Int × (List (List GValue))) ⊕ (((List (List GValue)))))
  | (t21_0, out7_0) => (if t21_0 < (2 : Int) then if 0 ≤ t21_0 ∧ t21_0 < (2 : Int) then (loopO (g_table_Rows_l1 t0 open1 t21_0 out7_0) ((0 : Int), out7_0)).bind fun y'14 => some (.inl (w64 (t21_0 + (1 : Int)), y'14)) else none else some (.inr out7_0))
noncomputable def g_table_Rows (t0 : GTable) (open1 : Vector Bool 2) : Option ((List (List GValue)) × Int) :=
  (g_table_Check t0).bind fun r'1 => (if r'1 ≠ (0 : Int) then some (([] : List (List GValue)), r'1) else (loopO (g_table_Rows_l0 t0 open1) ((0 : Int), ([] : List (List GValue)))).bind fun y'18 => some (y'18, (0 : Int)))
set_option maxHeartbeats 4000000 in
set_option maxRecDepth 100000 in
theorem g_table_Rows_ac2 {t0 : GTable} {open1 : Vector Bool 2} {r : (List (List GValue)) × Int} (H : g_table_Rows t0 open1 = some r) : AC2 Tryd.prog 20 (pureT [(.agg (GTable.cs t0)), (.agg (open1.toList.map AV.bool))]) [] (retV [.c (.own 4 r.1.length 1), .i r.2]) [(4, .pure (r.1.map (fun q : List GValue => AV.lst (q.flatMap GValue.cs) q.length)))] := by
 refine AC2_of_body (vs := [.c (.own 4 r.1.length 1), .i r.2]) Tryd.func20 rfl rfl (Nat.le_of_ble_eq_true rfl) rfl ?_
 unfold g_table_Rows at H
 refine as2 [(0, .g (GTable.cs t0)), (1, .g (open1.toList.map AV.bool))] [] rfl rfl rfl ?_
 refine sg [0, 1, 2, 3] rfl ?_
 refine r_op rfl rfl (MakeD.opD (n_box 2 rfl rfl) rfl rfl rfl rfl) ?_
 refine r_op rfl rfl (MakeD.opD (n_box 3 rfl rfl) rfl rfl rfl rfl) ?_
 refine rp rfl rfl (p_asgn rfl) ?_
 refine rp rfl rfl (p_asg rfl rfl) ?_
 refine rz [(2, .q 2 (0)), (3, .q 3 (0))] [(2, .pure (GTable.cs t0)), (3, .pure (open1.toList.map AV.bool))] rfl rfl rfl ?_
 refine AW2_seq ?_
 refine sg [0, 1, 2] rfl ?_
 refine rp rfl rfl (u_lda rfl rfl Tryd.underlying46 rfl in_46 rfl (Nat.succ_pos _) (Sub.refl _) (GTable.len t0)) ?_
 refine bindK H fun r'1 h1 H => ?_
 refine rp rfl rfl (p_callp rfl rfl rfl Tryd.func18 rfl rfl (g_table_Check_ac h1) ⟨rfl, trivial⟩) ?_
 refine rp rfl rfl (p_asg rfl rfl) ?_
 refine rz [(2, .q 2 (0)), (3, .q 3 (0)), (6, .i r'1)] [(2, .pure (GTable.cs t0)), (3, .pure (open1.toList.map AV.bool))] rfl rfl rfl ?_
 refine sg [0, 1] rfl ?_
 refine rp rfl rfl (p_move rfl rfl) ?_
 refine rp rfl rfl (p_ine rfl rfl rfl) ?_
 refine rz [(2, .q 2 (0)), (3, .q 3 (0)), (6, .i r'1), (17, .b (decide (r'1 ≠ (0 : Int))))] [(2, .pure (GTable.cs t0)), (3, .pure (open1.toList.map AV.bool))] rfl rfl rfl ?_
 refine AW2_if (p := r'1 ≠ (0 : Int)) rfl (fun h2 => ?_) (fun h2 => ?_)
 ·replace H := ite_then h2 H
  refine sg [0, 1, 2] rfl ?_
  refine rp rfl rfl (p_move rfl rfl) ?_
  refine rp rfl rfl (p_asgn rfl) ?_
  refine rp rfl rfl (p_asg rfl rfl) ?_
  refine rz [(4, .p .nil), (5, .i r'1)] [] rfl rfl rfl ?_
  refine as2 [(4, .p .nil), (5, .i r'1)] [] rfl rfl rfl ?_
  refine AW2_gho (Gho_own (d := 4) (b := 4) (z := 1) rfl rfl rfl rfl) ?_
  refine AW2_st [(4, .c (.own 4 ([] : List (List GValue)).length 1)), (5, .i r'1)] [(4, .pure (([] : List (List GValue)).map (fun q : List GValue => AV.lst (q.flatMap GValue.cs) q.length)))] rfl ⟨TLes.own rfl, TLes.same _, trivial⟩ ⟨rfl, trivial⟩ ?_
  refine AW2_ret ?_
  have hz := some_elim H
  subst hz
  exact ⟨⟨res_tmp (.same _), res_tmp (.same _), trivial⟩, ⟨rfl, trivial⟩⟩
 ·replace H := ite_else h2 H
  refine as2 [(2, .q 2 (0)), (3, .q 3 (0))] [(2, .pure (GTable.cs t0)), (3, .pure (open1.toList.map AV.bool))] rfl rfl rfl ?_
  refine AW2_skip ?_
  refine sg [0] rfl ?_
  refine rp rfl rfl (p_asgn rfl) ?_
  refine rz [(2, .q 2 (0)), (3, .q 3 (0)), (7, .p .nil)] [(2, .pure (GTable.cs t0)), (3, .pure (open1.toList.map AV.bool))] rfl rfl rfl ?_
  refine AW2_seq ?_
  refine sg [0, 1, 2] rfl ?_
  refine rp rfl rfl (u_fa rfl rfl Tryd.underlying46 rfl in_44 (Nat.succ_ne_zero _) rfl rfl (ne_of_lt (n := 0) (Nat.lt_of_lt_of_eq (by decide) (Eq.symm (GTable.len t0))))) ?_
  refine rp rfl rfl (u_lda rfl rfl Tryd.underlying44 rfl in_44 rfl (Nat.succ_pos _) ((Sub.refl _).trans (GTable.sub3 t0)) (vfm_len (fun x => (vfm_len (fun x => (GCell.len x)) x)) t0.Drawers)) ?_
  refine rp rfl rfl (p_move rfl rfl) ?_
  refine rz [(3, .q 3 (0)), (7, .p .nil), (20, .g (t0.Drawers.toList.flatMap (fun v : Vector GCell 4 => v.toList.flatMap GCell.cs))), (21, .i (0 : Int))] [(3, .pure (open1.toList.map AV.bool))] rfl rfl rfl ?_
  refine AW2_block ?_
  refine as2 [(3, .q 3 (0)), (7, .p .nil), (20, .g (t0.Drawers.toList.flatMap (fun v : Vector GCell 4 => v.toList.flatMap GCell.cs))), (21, .i (0 : Int))] [(3, .pure (open1.toList.map AV.bool))] rfl rfl rfl ?_
  refine AW2_gho (Gho_own (d := 7) (b := 7) (z := 1) rfl rfl rfl rfl) ?_
  refine AW2_st [(3, .q 3 (0)), (7, .c (.own 7 ([] : List (List GValue)).length 1)), (20, .g (t0.Drawers.toList.flatMap (fun v : Vector GCell 4 => v.toList.flatMap GCell.cs))), (21, .i (0 : Int))] [(3, .pure (open1.toList.map AV.bool)), (7, .pure (([] : List (List GValue)).map (fun q : List GValue => AV.lst (q.flatMap GValue.cs) q.length)))] rfl ⟨TLes.same _, TLes.own rfl, TLes.same _, TLes.same _, trivial⟩ ⟨rfl, rfl, trivial⟩ ?_
  refine bindK H fun y'18 h26 H => ?_
  refine AW2_loopO (fun a'15 : Int × (List (List GValue)) => (⟨[(3, .q 3 (0)), (7, .c (.own 7 a'15.2.length 1)), (20, .g (t0.Drawers.toList.flatMap (fun v : Vector GCell 4 => v.toList.flatMap GCell.cs))), (21, .i a'15.1)], [(3, .pure (open1.toList.map AV.bool)), (7, .pure (a'15.2.map (fun q : List GValue => AV.lst (q.flatMap GValue.cs) q.length)))], 91⟩ : TS)) (fun (y'16 : ((List (List GValue)))) e s' => e = Go.Exit.exit 0 ∧ s' = (⟨[(7, .c (.own 7 y'16.length 1))], [(7, .pure (y'16.map (fun q : List GValue => AV.lst (q.flatMap GValue.cs) q.length)))], 91⟩ : TS)) h26 rfl (fun a x hx => ?_) (fun e s' hs => ?_)
  ·clear H
   obtain ⟨t21_0, out7_0⟩ := a
   have H := hx
   clear hx
   unfold g_table_Rows_l0 at H
   refine sg [0] rfl ?_
   refine rp rfl rfl (p_bin rfl rfl rfl rfl) ?_
   refine rz [(3, .q 3 (0)), (7, .c (.own 7 out7_0.length 1)), (20, .g (t0.Drawers.toList.flatMap (fun v : Vector GCell 4 => v.toList.flatMap GCell.cs))), (21, .i t21_0), (22, .b (decide (t21_0 < (2 : Int))))] [(3, .pure (open1.toList.map AV.bool)), (7, .pure (out7_0.map (fun q : List GValue => AV.lst (q.flatMap GValue.cs) q.length)))] rfl rfl rfl ?_
   refine AW2_seq ?_
   refine AW2_if (p := t21_0 < (2 : Int)) rfl (fun h3 => ?_) (fun h3 => ?_)
   ·replace H := ite_then h3 H
    refine as2 [(3, .q 3 (0)), (7, .c (.own 7 out7_0.length 1)), (20, .g (t0.Drawers.toList.flatMap (fun v : Vector GCell 4 => v.toList.flatMap GCell.cs))), (21, .i t21_0)] [(3, .pure (open1.toList.map AV.bool)), (7, .pure (out7_0.map (fun q : List GValue => AV.lst (q.flatMap GValue.cs) q.length)))] rfl rfl rfl ?_
    refine AW2_skip ?_
    refine AW2_seq ?_
    refine AW2_block ?_
    refine sg [0, 1, 2, 3, 4] rfl ?_
    refine rp rfl rfl (p_move rfl rfl) ?_
    refine chkK H fun h4 H => ?_
    refine rp rfl rfl (u_ixaa rfl rfl Tryd.underlying44 in_43 Tryd.underlying43 rfl rfl rfl (ixe h4) (ixn h4) (Sub.vfm (fun x => (vfm_len (fun x => (GCell.len x)) x)) (ixn h4)) (vfm_len (fun x => (GCell.len x)) (vrd t0.Drawers t21_0.toNat))) ?_
    refine r_op rfl rfl (MakeD.opD (u_alloc 9 rfl in_43 one_43 zc_43) rfl rfl rfl rfl) ?_
    refine rp rfl rfl (p_asg rfl rfl) ?_
    refine r_op rfl rfl (u_st rfl rfl rfl rfl rfl in_43 (vfm_len (fun x => (GCell.len x)) (vrd t0.Drawers t21_0.toNat)) (ne_of_lt (n := 0) (Nat.lt_of_lt_of_eq (by decide) (Eq.symm (vfm_len (fun x => (GCell.len x)) (Vector.replicate 4 GCell.zero))))) (Upd.refl ((vfm_len (fun x => (GCell.len x)) (vrd t0.Drawers t21_0.toNat)).trans (vfm_len (fun x => (GCell.len x)) (Vector.replicate 4 GCell.zero)).symm))) ?_
    refine rz [(3, .q 3 (0)), (7, .c (.own 7 out7_0.length 1)), (8, .i t21_0), (9, .q 9 (0)), (20, .g (t0.Drawers.toList.flatMap (fun v : Vector GCell 4 => v.toList.flatMap GCell.cs))), (21, .i t21_0)] [(3, .pure (open1.toList.map AV.bool)), (7, .pure (out7_0.map (fun q : List GValue => AV.lst (q.flatMap GValue.cs) q.length))), (9, .pure (((vrd t0.Drawers t21_0.toNat).toList).flatMap GCell.cs))] rfl rfl rfl ?_
    refine sg [0, 1, 2] rfl ?_
    refine rp rfl rfl (p_move rfl rfl) ?_
    refine rp rfl rfl (p_leno rfl Tryd.underlying50 rfl rfl rfl (ml (fun q : List GValue => AV.lst (q.flatMap GValue.cs) q.length) out7_0) (by decide)) ?_
    refine rp rfl rfl (p_asg rfl rfl) ?_
    refine rz [(3, .q 3 (0)), (7, .c (.own 7 out7_0.length 1)), (8, .i t21_0), (9, .q 9 (0)), (10, .i (out7_0.length : Int)), (20, .g (t0.Drawers.toList.flatMap (fun v : Vector GCell 4 => v.toList.flatMap GCell.cs))), (21, .i t21_0)] [(3, .pure (open1.toList.map AV.bool)), (7, .pure (out7_0.map (fun q : List GValue => AV.lst (q.flatMap GValue.cs) q.length))), (9, .pure (((vrd t0.Drawers t21_0.toNat).toList).flatMap GCell.cs))] rfl rfl rfl ?_
    refine sg [0, 1] rfl ?_
    refine rp rfl rfl (u_lda rfl rfl Tryd.underlying43 rfl in_43 rfl (Nat.succ_pos _) (Sub.refl _) (vfm_len (fun x => (GCell.len x)) (vrd t0.Drawers t21_0.toNat))) ?_
    refine rp rfl rfl (p_move rfl rfl) ?_
    refine rz [(3, .q 3 (0)), (7, .c (.own 7 out7_0.length 1)), (8, .i t21_0), (10, .i (out7_0.length : Int)), (20, .g (t0.Drawers.toList.flatMap (fun v : Vector GCell 4 => v.toList.flatMap GCell.cs))), (21, .i t21_0), (27, .g (((vrd t0.Drawers t21_0.toNat).toList).flatMap GCell.cs)), (28, .i (0 : Int))] [(3, .pure (open1.toList.map AV.bool)), (7, .pure (out7_0.map (fun q : List GValue => AV.lst (q.flatMap GValue.cs) q.length)))] rfl rfl rfl ?_
    refine AW2_block ?_
    refine as2 [(3, .q 3 (0)), (7, .c (.own 7 out7_0.length 1)), (8, .i t21_0), (10, .i (out7_0.length : Int)), (20, .g (t0.Drawers.toList.flatMap (fun v : Vector GCell 4 => v.toList.flatMap GCell.cs))), (21, .i t21_0), (27, .g (((vrd t0.Drawers t21_0.toNat).toList).flatMap GCell.cs)), (28, .i (0 : Int))] [(3, .pure (open1.toList.map AV.bool)), (7, .pure (out7_0.map (fun q : List GValue => AV.lst (q.flatMap GValue.cs) q.length)))] rfl rfl rfl ?_
    refine bindK H fun y'14 h25 H => ?_
    refine AW2_loopO (fun a'11 : Int × (List (List GValue)) => (⟨[(3, .q 3 (0)), (7, .c (.own 7 a'11.2.length 1)), (8, .i t21_0), (10, .i (out7_0.length : Int)), (20, .g (t0.Drawers.toList.flatMap (fun v : Vector GCell 4 => v.toList.flatMap GCell.cs))), (21, .i t21_0), (27, .g (((vrd t0.Drawers t21_0.toNat).toList).flatMap GCell.cs)), (28, .i a'11.1)], [(3, .pure (open1.toList.map AV.bool)), (7, .pure (a'11.2.map (fun q : List GValue => AV.lst (q.flatMap GValue.cs) q.length)))], 91⟩ : TS)) (fun (y'12 : ((List (List GValue)))) e s' => e = Go.Exit.exit 2 ∧ s' = (⟨[(3, .q 3 (0)), (7, .c (.own 7 y'12.length 1)), (20, .g (t0.Drawers.toList.flatMap (fun v : Vector GCell 4 => v.toList.flatMap GCell.cs))), (21, .i t21_0)], [(3, .pure (open1.toList.map AV.bool)), (7, .pure (y'12.map (fun q : List GValue => AV.lst (q.flatMap GValue.cs) q.length)))], 91⟩ : TS)) h25 rfl (fun a x hx => ?_) (fun e s' hs => ?_)
    ·clear H
     obtain ⟨t28_1, out7_1⟩ := a
     have H := hx
     clear hx
     unfold g_table_Rows_l1 at H
     refine sg [0] rfl ?_
     refine rp rfl rfl (p_bin rfl rfl rfl rfl) ?_
     refine rz [(3, .q 3 (0)), (7, .c (.own 7 out7_1.length 1)), (8, .i t21_0), (10, .i (out7_0.length : Int)), (20, .g (t0.Drawers.toList.flatMap (fun v : Vector GCell 4 => v.toList.flatMap GCell.cs))), (21, .i t21_0), (27, .g (((vrd t0.Drawers t21_0.toNat).toList).flatMap GCell.cs)), (28, .i t28_1), (29, .b (decide (t28_1 < (4 : Int))))] [(3, .pure (open1.toList.map AV.bool)), (7, .pure (out7_1.map (fun q : List GValue => AV.lst (q.flatMap GValue.cs) q.length)))] rfl rfl rfl ?_
     refine AW2_seq ?_
     refine AW2_if (p := t28_1 < (4 : Int)) rfl (fun h5 => ?_) (fun h5 => ?_)
     ·replace H := ite_then h5 H
      refine as2 [(3, .q 3 (0)), (7, .c (.own 7 out7_1.length 1)), (8, .i t21_0), (10, .i (out7_0.length : Int)), (20, .g (t0.Drawers.toList.flatMap (fun v : Vector GCell 4 => v.toList.flatMap GCell.cs))), (21, .i t21_0), (27, .g (((vrd t0.Drawers t21_0.toNat).toList).flatMap GCell.cs)), (28, .i t28_1)] [(3, .pure (open1.toList.map AV.bool)), (7, .pure (out7_1.map (fun q : List GValue => AV.lst (q.flatMap GValue.cs) q.length)))] rfl rfl rfl ?_
      refine AW2_skip ?_
      refine AW2_seq ?_
      refine bindK H fun j'2 h6 H => ?_
      refine AW2_mid (⟨[(3, .q 3 (0)), (7, .c (.own 7 j'2.length 1)), (8, .i t21_0), (10, .i (out7_0.length : Int)), (20, .g (t0.Drawers.toList.flatMap (fun v : Vector GCell 4 => v.toList.flatMap GCell.cs))), (21, .i t21_0), (27, .g (((vrd t0.Drawers t21_0.toNat).toList).flatMap GCell.cs)), (28, .i t28_1)], [(3, .pure (open1.toList.map AV.bool)), (7, .pure (j'2.map (fun q : List GValue => AV.lst (q.flatMap GValue.cs) q.length)))], 91⟩ : TS) ?_ ?_
      ·clear H
       have H := h6
       clear h6
       refine AW2_block ?_
       refine sg [0, 1, 2] rfl ?_
       refine chkK H fun h7 H => ?_
       refine rp rfl rfl (u_ixaa rfl rfl Tryd.underlying43 in_42 Tryd.underlying42 rfl rfl rfl (ixe h7) (ixn h7) (Sub.vfm (fun x => (GCell.len x)) (ixn h7)) (GCell.len (vrd (vrd t0.Drawers t21_0.toNat) t28_1.toNat))) ?_
       refine r_op rfl rfl (MakeD.opD (u_alloc 12 rfl in_42 one_42 zc_42) rfl rfl rfl rfl) ?_
       refine r_op rfl rfl (u_st rfl rfl rfl rfl rfl in_42 (GCell.len (vrd (vrd t0.Drawers t21_0.toNat) t28_1.toNat)) (ne_of_lt (n := 0) (Nat.lt_of_lt_of_eq (by decide) (Eq.symm (GCell.len GCell.zero)))) (Upd.refl ((GCell.len (vrd (vrd t0.Drawers t21_0.toNat) t28_1.toNat)).trans (GCell.len GCell.zero).symm))) ?_
       refine rz [(3, .q 3 (0)), (7, .c (.own 7 out7_1.length 1)), (8, .i t21_0), (10, .i (out7_0.length : Int)), (12, .q 12 (0)), (20, .g (t0.Drawers.toList.flatMap (fun v : Vector GCell 4 => v.toList.flatMap GCell.cs))), (21, .i t21_0), (27, .g (((vrd t0.Drawers t21_0.toNat).toList).flatMap GCell.cs)), (28, .i t28_1)] [(3, .pure (open1.toList.map AV.bool)), (7, .pure (out7_1.map (fun q : List GValue => AV.lst (q.flatMap GValue.cs) q.length))), (12, .pure (GCell.cs (vrd (vrd t0.Drawers t21_0.toNat) t28_1.toNat)))] rfl rfl rfl ?_
       refine AW2_seq ?_
       refine AW2_seq ?_
       refine chkK H fun h8 H => ?_
       refine AW2_mid (⟨[(3, .q 3 (0)), (7, .c (.own 7 out7_1.length 1)), (8, .i t21_0), (10, .i (out7_0.length : Int)), (12, .q 12 (0)), (20, .g (t0.Drawers.toList.flatMap (fun v : Vector GCell 4 => v.toList.flatMap GCell.cs))), (21, .i t21_0), (27, .g (((vrd t0.Drawers t21_0.toNat).toList).flatMap GCell.cs)), (28, .i t28_1), (39, .b (decide (((!(vrd open1 t21_0.toNat)) = true) ∨ ((!((vrd (vrd t0.Drawers t21_0.toNat) t28_1.toNat).Full)) = true))))], [(3, .pure (open1.toList.map AV.bool)), (7, .pure (out7_1.map (fun q : List GValue => AV.lst (q.flatMap GValue.cs) q.length))), (12, .pure (GCell.cs (vrd (vrd t0.Drawers t21_0.toNat) t28_1.toNat)))], 91⟩ : TS) ?_ ?_
       ·refine AW2_reg [0, 1, 2, 3, 4, 5, 6, 7, 8] rfl ?_
        refine rp rfl rfl (p_move rfl rfl) ?_
        refine rp rfl rfl (u_ixp rfl rfl Tryd.underlying49 in_4 rfl rfl (ne_of_lt (n := 0) (Nat.lt_of_lt_of_eq (by decide) (Eq.symm (vmap_len (f := AV.bool) open1)))) rfl (ixe h8) (ixn h8)) ?_
        refine rp rfl rfl (u_ld rfl rfl Tryd.underlying4 rfl rfl ((Sub.refl _).trans (Sub.vmap (ixn h8)))) ?_
        refine rp rfl rfl (p_not rfl rfl) ?_
        refine rp rfl rfl (p_move rfl rfl) ?_
        refine (Classical.em ((!(vrd open1 t21_0.toNat)) = true)).elim (fun h9 => ?_) (fun h9 => ?_)
        ·iterate 3 (refine r_off rfl rfl rfl rfl h9 rfl rfl ?_)
         refine rp rfl rfl (p_pkt rfl rfl h9 (tb (decide_eq_true (p := ((!(vrd open1 t21_0.toNat)) = true) ∨ ((!((vrd (vrd t0.Drawers t21_0.toNat) t28_1.toNat).Full)) = true)) (Or.inl h9)).symm)) ?_
         refine rs [(3, .q 3 (0)), (7, .c (.own 7 out7_1.length 1)), (8, .i t21_0), (10, .i (out7_0.length : Int)), (12, .q 12 (0)), (20, .g (t0.Drawers.toList.flatMap (fun v : Vector GCell 4 => v.toList.flatMap GCell.cs))), (21, .i t21_0), (27, .g (((vrd t0.Drawers t21_0.toNat).toList).flatMap GCell.cs)), (28, .i t28_1), (39, .b (decide (((!(vrd open1 t21_0.toNat)) = true) ∨ ((!((vrd (vrd t0.Drawers t21_0.toNat) t28_1.toNat).Full)) = true))))] [(3, .pure (open1.toList.map AV.bool)), (7, .pure (out7_1.map (fun q : List GValue => AV.lst (q.flatMap GValue.cs) q.length))), (12, .pure (GCell.cs (vrd (vrd t0.Drawers t21_0.toNat) t28_1.toNat)))] rfl rfl rfl ?_
         exact RunW_nil rfl
        ·refine r_on rfl rfl rfl rfl (bfalse h9) rfl (PureD.opD (u_fa rfl rfl Tryd.underlying42 rfl in_4 (Nat.succ_ne_zero _) rfl rfl (ne_of_lt (n := 0) (Nat.lt_of_lt_of_eq (by decide) (Eq.symm (GCell.len (vrd (vrd t0.Drawers t21_0.toNat) t28_1.toNat))))))) ?_
         refine r_on rfl rfl rfl rfl (bfalse h9) rfl (PureD.opD (u_ld rfl rfl Tryd.underlying4 rfl rfl ((Sub.refl _).trans (GCell.sub0 (vrd (vrd t0.Drawers t21_0.toNat) t28_1.toNat))))) ?_
         refine r_on rfl rfl rfl rfl (bfalse h9) rfl (PureD.opD (p_not rfl rfl)) ?_
         refine rp rfl rfl (p_pkf rfl rfl (bfalse h9) (tb ((bdec _).trans (or_l (p := (!(vrd open1 t21_0.toNat)) = true) (q := (!((vrd (vrd t0.Drawers t21_0.toNat) t28_1.toNat).Full)) = true) h9)))) ?_
         refine rs [(3, .q 3 (0)), (7, .c (.own 7 out7_1.length 1)), (8, .i t21_0), (10, .i (out7_0.length : Int)), (12, .q 12 (0)), (20, .g (t0.Drawers.toList.flatMap (fun v : Vector GCell 4 => v.toList.flatMap GCell.cs))), (21, .i t21_0), (27, .g (((vrd t0.Drawers t21_0.toNat).toList).flatMap GCell.cs)), (28, .i t28_1), (39, .b (decide (((!(vrd open1 t21_0.toNat)) = true) ∨ ((!((vrd (vrd t0.Drawers t21_0.toNat) t28_1.toNat).Full)) = true))))] [(3, .pure (open1.toList.map AV.bool)), (7, .pure (out7_1.map (fun q : List GValue => AV.lst (q.flatMap GValue.cs) q.length))), (12, .pure (GCell.cs (vrd (vrd t0.Drawers t21_0.toNat) t28_1.toNat)))] rfl rfl rfl ?_
         exact RunW_nil rfl
       ·refine AW2_if (p := ((!(vrd open1 t21_0.toNat)) = true) ∨ ((!((vrd (vrd t0.Drawers t21_0.toNat) t28_1.toNat).Full)) = true)) rfl (fun h10 => ?_) (fun h10 => ?_)
        ·replace H := ite_then h10 H
         refine as2 [(3, .q 3 (0)), (7, .c (.own 7 out7_1.length 1)), (8, .i t21_0), (10, .i (out7_0.length : Int)), (20, .g (t0.Drawers.toList.flatMap (fun v : Vector GCell 4 => v.toList.flatMap GCell.cs))), (21, .i t21_0), (27, .g (((vrd t0.Drawers t21_0.toNat).toList).flatMap GCell.cs)), (28, .i t28_1)] [(3, .pure (open1.toList.map AV.bool)), (7, .pure (out7_1.map (fun q : List GValue => AV.lst (q.flatMap GValue.cs) q.length)))] rfl rfl rfl ?_
         refine AW2_exit ?_
         refine thenQ2_exit ?_
         refine blockQ2_exit ?_
         have hz := some_elim H
         subst hz
         exact rfl
        ·replace H := ite_else h10 H
         refine as2 [(3, .q 3 (0)), (7, .c (.own 7 out7_1.length 1)), (8, .i t21_0), (10, .i (out7_0.length : Int)), (12, .q 12 (0)), (20, .g (t0.Drawers.toList.flatMap (fun v : Vector GCell 4 => v.toList.flatMap GCell.cs))), (21, .i t21_0), (27, .g (((vrd t0.Drawers t21_0.toNat).toList).flatMap GCell.cs)), (28, .i t28_1)] [(3, .pure (open1.toList.map AV.bool)), (7, .pure (out7_1.map (fun q : List GValue => AV.lst (q.flatMap GValue.cs) q.length))), (12, .pure (GCell.cs (vrd (vrd t0.Drawers t21_0.toNat) t28_1.toNat)))] rfl rfl rfl ?_
         refine AW2_skip ?_
         refine sg [0, 1, 2, 3, 4, 5, 6] rfl ?_
         refine rp rfl rfl (p_move rfl rfl) ?_
         refine rp rfl rfl (u_fa rfl rfl Tryd.underlying42 rfl in_38 (Nat.succ_ne_zero _) rfl rfl (ne_of_lt (n := 0) (Nat.lt_of_lt_of_eq (by decide) (Eq.symm (GCell.len (vrd (vrd t0.Drawers t21_0.toNat) t28_1.toNat)))))) ?_
         refine rp rfl rfl (u_ld rfl rfl Tryd.underlying38 rfl rfl ((Sub.refl _).trans (GCell.sub1 (vrd (vrd t0.Drawers t21_0.toNat) t28_1.toNat)))) ?_
         refine bindK H fun r'3 h11 H => ?_
         refine rp rfl rfl (p_callp rfl rfl rfl Tryd.func46 rfl rfl (g_table_row_ac h11) ⟨rfl, trivial⟩) ?_
         refine r_op rfl rfl (MakeD.opD (u_bs 44 rfl Tryd.underlying50 in_38 rfl one_38 (by decide) (by decide) rfl rfl rfl) rfl rfl rfl rfl) ?_
         refine chkK H fun h12 H => ?_
         refine r_op rfl rfl (u_app [7, 40] rfl rfl rfl rfl Tryd.underlying50 Tryd.underlying50 in_38 rfl rfl rfl (ml (fun q : List GValue => AV.lst (q.flatMap GValue.cs) q.length) out7_1) (by decide) (srcT_o rfl rfl (ml (fun q : List GValue => AV.lst (q.flatMap GValue.cs) q.length) ([r'3] : List (List GValue))) (by decide)) (ml (fun q : List GValue => AV.lst (q.flatMap GValue.cs) q.length) ([r'3] : List (List GValue))) h12 (by decide) rfl rfl (mapp (fun q : List GValue => AV.lst (q.flatMap GValue.cs) q.length) out7_1 ([r'3] : List (List GValue))) (lapp out7_1 ([r'3] : List (List GValue)))) ?_
         refine rp rfl rfl (p_asg rfl rfl) ?_
         refine rz [(3, .q 3 (0)), (7, .c (.own 7 (out7_1 ++ ([r'3] : List (List GValue))).length 1)), (8, .i t21_0), (10, .i (out7_0.length : Int)), (20, .g (t0.Drawers.toList.flatMap (fun v : Vector GCell 4 => v.toList.flatMap GCell.cs))), (21, .i t21_0), (27, .g (((vrd t0.Drawers t21_0.toNat).toList).flatMap GCell.cs)), (28, .i t28_1)] [(3, .pure (open1.toList.map AV.bool)), (7, .pure ((out7_1 ++ ([r'3] : List (List GValue))).map (fun q : List GValue => AV.lst (q.flatMap GValue.cs) q.length)))] rfl rfl rfl ?_
         refine sg [0, 1, 2, 3] rfl ?_
         refine rp rfl rfl (p_move rfl rfl) ?_
         refine rp rfl rfl (p_leno rfl Tryd.underlying50 rfl rfl rfl (ml (fun q : List GValue => AV.lst (q.flatMap GValue.cs) q.length) (out7_1 ++ ([r'3] : List (List GValue)))) (by decide)) ?_
         refine rp rfl rfl (p_bin rfl rfl rfl rfl) ?_
         refine rp rfl rfl (p_asg rfl rfl) ?_
         refine rz [(3, .q 3 (0)), (7, .c (.own 7 (out7_1 ++ ([r'3] : List (List GValue))).length 1)), (8, .i t21_0), (10, .i (out7_0.length : Int)), (13, .i (w64 (((out7_1 ++ ([r'3] : List (List GValue))).length : Int) - (1 : Int)))), (20, .g (t0.Drawers.toList.flatMap (fun v : Vector GCell 4 => v.toList.flatMap GCell.cs))), (21, .i t21_0), (27, .g (((vrd t0.Drawers t21_0.toNat).toList).flatMap GCell.cs)), (28, .i t28_1)] [(3, .pure (open1.toList.map AV.bool)), (7, .pure ((out7_1 ++ ([r'3] : List (List GValue))).map (fun q : List GValue => AV.lst (q.flatMap GValue.cs) q.length)))] rfl rfl rfl ?_
         refine gen1 (fun j13'4 => (⟨[(3, .q 3 (0)), (7, .c (.own 7 (out7_1 ++ ([r'3] : List (List GValue))).length 1)), (8, .i t21_0), (10, .i (out7_0.length : Int)), (13, .i j13'4), (20, .g (t0.Drawers.toList.flatMap (fun v : Vector GCell 4 => v.toList.flatMap GCell.cs))), (21, .i t21_0), (27, .g (((vrd t0.Drawers t21_0.toNat).toList).flatMap GCell.cs)), (28, .i t28_1)], [(3, .pure (open1.toList.map AV.bool)), (7, .pure ((out7_1 ++ ([r'3] : List (List GValue))).map (fun q : List GValue => AV.lst (q.flatMap GValue.cs) q.length)))], 91⟩ : TS)) H ?_
         intro j13'4 H
         refine AW2_block ?_
         refine as2 [(3, .q 3 (0)), (7, .c (.own 7 (out7_1 ++ ([r'3] : List (List GValue))).length 1)), (8, .i t21_0), (10, .i (out7_0.length : Int)), (13, .i j13'4), (20, .g (t0.Drawers.toList.flatMap (fun v : Vector GCell 4 => v.toList.flatMap GCell.cs))), (21, .i t21_0), (27, .g (((vrd t0.Drawers t21_0.toNat).toList).flatMap GCell.cs)), (28, .i t28_1)] [(3, .pure (open1.toList.map AV.bool)), (7, .pure ((out7_1 ++ ([r'3] : List (List GValue))).map (fun q : List GValue => AV.lst (q.flatMap GValue.cs) q.length)))] rfl rfl rfl ?_
         refine bindK H fun y'10 h24 H => ?_
         refine AW2_loopO (fun a'7 : Int × (List (List GValue)) => (⟨[(3, .q 3 (0)), (7, .c (.own 7 a'7.2.length 1)), (8, .i t21_0), (10, .i (out7_0.length : Int)), (13, .i a'7.1), (20, .g (t0.Drawers.toList.flatMap (fun v : Vector GCell 4 => v.toList.flatMap GCell.cs))), (21, .i t21_0), (27, .g (((vrd t0.Drawers t21_0.toNat).toList).flatMap GCell.cs)), (28, .i t28_1)], [(3, .pure (open1.toList.map AV.bool)), (7, .pure (a'7.2.map (fun q : List GValue => AV.lst (q.flatMap GValue.cs) q.length)))], 91⟩ : TS)) (fun (y'8 : ((List (List GValue)))) e s' => e = Go.Exit.exit 4 ∧ s' = (⟨[(3, .q 3 (0)), (7, .c (.own 7 y'8.length 1)), (8, .i t21_0), (10, .i (out7_0.length : Int)), (20, .g (t0.Drawers.toList.flatMap (fun v : Vector GCell 4 => v.toList.flatMap GCell.cs))), (21, .i t21_0), (27, .g (((vrd t0.Drawers t21_0.toNat).toList).flatMap GCell.cs)), (28, .i t28_1)], [(3, .pure (open1.toList.map AV.bool)), (7, .pure (y'8.map (fun q : List GValue => AV.lst (q.flatMap GValue.cs) q.length)))], 91⟩ : TS)) h24 rfl (fun a x hx => ?_) (fun e s' hs => ?_)
         ·clear H
          obtain ⟨j13_2, out7_2⟩ := a
          have H := hx
          clear hx
          unfold g_table_Rows_l2 at H
          refine AW2_seq ?_
          refine AW2_seq ?_
          refine bindK H fun g'5 h18 H => ?_
          refine AW2_mid (⟨[(3, .q 3 (0)), (7, .c (.own 7 out7_2.length 1)), (8, .i t21_0), (10, .i (out7_0.length : Int)), (13, .i j13_2), (20, .g (t0.Drawers.toList.flatMap (fun v : Vector GCell 4 => v.toList.flatMap GCell.cs))), (21, .i t21_0), (27, .g (((vrd t0.Drawers t21_0.toNat).toList).flatMap GCell.cs)), (28, .i t28_1), (69, .b g'5)], [(3, .pure (open1.toList.map AV.bool)), (7, .pure (out7_2.map (fun q : List GValue => AV.lst (q.flatMap GValue.cs) q.length)))], 91⟩ : TS) ?_ ?_
          ·clear H
           have H := h18
           clear h18
           refine (Classical.em (j13_2 > (out7_0.length : Int))).elim (fun h13 => ?_) (fun h13 => ?_)
           ·replace H := ite_then h13 H
            refine chkK H fun h14 H => ?_
            refine chkK H fun h15 H => ?_
            refine chkK H fun h16 H => ?_
            refine chkK H fun h17 H => ?_
            have hz := some_elim H
            subst hz
            refine AW2_ghoQ ?_
            refine AW2_draw 19 [19, 20] (fun k => ([.i j13_2, .i (out7_0.length : Int), .b (decide (j13_2 > (out7_0.length : Int))), .b (decide (j13_2 > (out7_0.length : Int))), .c (.own 7 out7_2.length 1), .i j13_2, .q 7 (0 + j13_2.toNat * 1), .p ((fun q : List GValue => AV.lst (q.flatMap GValue.cs) q.length) (lrd out7_2 j13_2.toNat)), .p (.rptr ((lrd out7_2 j13_2.toNat).flatMap GValue.cs) (0 * 4)), .p (.rptr ((lrd out7_2 j13_2.toNat).flatMap GValue.cs) (0 * 4 + 1)), .i ((lrd (lrd out7_2 j13_2.toNat) 0).Int_), .c (.own 7 out7_2.length 1), .i j13_2, .i (w64 (j13_2 - (1 : Int))), .q 7 (0 + ((w64 (j13_2 - (1 : Int))).toNat) * 1), .p ((fun q : List GValue => AV.lst (q.flatMap GValue.cs) q.length) (lrd out7_2 ((w64 (j13_2 - (1 : Int))).toNat))), .p (.rptr ((lrd out7_2 ((w64 (j13_2 - (1 : Int))).toNat)).flatMap GValue.cs) (0 * 4)), .p (.rptr ((lrd out7_2 ((w64 (j13_2 - (1 : Int))).toNat)).flatMap GValue.cs) (0 * 4 + 1)), .i ((lrd (lrd out7_2 ((w64 (j13_2 - (1 : Int))).toNat)) 0).Int_)] : List TV).getD k TV.any) (fun k => g_table_Rows_r15.getD k []) [(3, none), (7, none), (8, none), (10, none), (13, none), (20, none), (21, none), (27, none), (28, none), (52, some 3), (59, some 10), (67, some 18)] [] (fun k => g_table_Rows_r15c.getD k []) mixed (by kernel_rfl) rfl rfl (a_op (g_x rfl (x_p rfl (p_move rfl rfl) rfl)) (a_op (g_x rfl (x_p rfl (p_move rfl rfl) rfl)) (a_op (g_x rfl (x_p rfl (p_bin rfl rfl rfl rfl) rfl)) (a_op (g_x rfl (x_p rfl (p_move rfl rfl) rfl)) (a_op (g_on rfl rfl rfl (decide_eq_true h13) rfl (x_p rfl (p_move rfl rfl) rfl)) (a_op (g_on rfl rfl rfl (decide_eq_true h13) rfl (x_p rfl (p_move rfl rfl) rfl)) (a_op (g_on rfl rfl rfl (decide_eq_true h13) rfl (x_p rfl (u_ixo rfl rfl Tryd.underlying50 in_38 rfl rfl (lne (ixn h14)) rfl (ixe h14) (ixn h14)) rfl)) (a_op (g_on rfl rfl rfl (decide_eq_true h13) rfl (x_p rfl (u_ld rfl rfl Tryd.underlying38 rfl rfl ((Sub.refl _).trans (Sub.map default (ixn h14)))) rfl)) (a_op (g_on rfl rfl rfl (decide_eq_true h13) rfl (x_p rfl (u_ixl rfl rfl Tryd.underlying38 in_29 rfl rfl rfl h15 (fne (fun x => (GValue.len x)) (by decide) h15)) rfl)) (a_op (g_on rfl rfl rfl (decide_eq_true h13) rfl (x_p rfl (u_far rfl rfl Tryd.underlying29 rfl in_3 (Nat.succ_ne_zero _) rfl) rfl)) (a_op (g_on rfl rfl rfl (decide_eq_true h13) rfl (x_p rfl (u_ld rfl rfl Tryd.underlying3 rfl rfl ((Sub.fm default (fun x => (GValue.len x)) h15).trans (GValue.sub1 (lrd (lrd out7_2 j13_2.toNat) 0)))) rfl)) (a_op (g_on rfl rfl rfl (decide_eq_true h13) rfl (x_p rfl (p_move rfl rfl) rfl)) (a_op (g_on rfl rfl rfl (decide_eq_true h13) rfl (x_p rfl (p_move rfl rfl) rfl)) (a_op (g_on rfl rfl rfl (decide_eq_true h13) rfl (x_p rfl (p_bin rfl rfl rfl rfl) rfl)) (a_op (g_on rfl rfl rfl (decide_eq_true h13) rfl (x_p rfl (u_ixo rfl rfl Tryd.underlying50 in_38 rfl rfl (lne (ixn h16)) rfl (ixe h16) (ixn h16)) rfl)) (a_op (g_on rfl rfl rfl (decide_eq_true h13) rfl (x_p rfl (u_ld rfl rfl Tryd.underlying38 rfl rfl ((Sub.refl _).trans (Sub.map default (ixn h16)))) rfl)) (a_op (g_on rfl rfl rfl (decide_eq_true h13) rfl (x_p rfl (u_ixl rfl rfl Tryd.underlying38 in_29 rfl rfl rfl h17 (fne (fun x => (GValue.len x)) (by decide) h17)) rfl)) (a_op (g_on rfl rfl rfl (decide_eq_true h13) rfl (x_p rfl (u_far rfl rfl Tryd.underlying29 rfl in_3 (Nat.succ_ne_zero _) rfl) rfl)) (a_op (g_on rfl rfl rfl (decide_eq_true h13) rfl (x_p rfl (u_ld rfl rfl Tryd.underlying3 rfl rfl ((Sub.fm default (fun x => (GValue.len x)) h17).trans (GValue.sub1 (lrd (lrd out7_2 ((w64 (j13_2 - (1 : Int))).toNat)) 0)))) rfl)) (a_nil)))))))))))))))))))) ?_
            refine t_on rfl rfl rfl rfl (decide_eq_true h13) rfl (PureD.opD (p_bin rfl rfl rfl rfl)) ?_
            refine t_op rfl rfl (PureD.opD (p_pkt rfl rfl (decide_eq_true h13) (.same _))) ?_
            refine t_gho (Gho_st (L := [(3, .q 3 (0)), (7, .c (.own 7 out7_2.length 1)), (8, .i t21_0), (10, .i (out7_0.length : Int)), (13, .i j13_2), (20, .g (t0.Drawers.toList.flatMap (fun v : Vector GCell 4 => v.toList.flatMap GCell.cs))), (21, .i t21_0), (27, .g (((vrd t0.Drawers t21_0.toNat).toList).flatMap GCell.cs)), (28, .i t28_1), (69, .b (decide ((lrd (lrd out7_2 j13_2.toNat) 0).Int_ < (lrd (lrd out7_2 ((w64 (j13_2 - (1 : Int))).toNat)) 0).Int_)))]) (H := [(3, .pure (open1.toList.map AV.bool)), (7, .pure (out7_2.map (fun q : List GValue => AV.lst (q.flatMap GValue.cs) q.length)))]) (N := 91) rfl ⟨TLes.same _, TLes.same _, TLes.same _, TLes.same _, TLes.same _, TLes.same _, TLes.same _, TLes.same _, TLes.same _, TLes.same _, trivial⟩ ⟨rfl, rfl, trivial⟩) ?_
            exact rfl
           ·replace H := ite_else h13 H
            have hz := some_elim H
            subst hz
            refine AW2_ghoQ ?_
            refine AW2_draw 19 [19, 20] (fun k => ([.i j13_2, .i (out7_0.length : Int), .b (decide (j13_2 > (out7_0.length : Int))), .b (decide (j13_2 > (out7_0.length : Int))), .p (.tup []), .p (.tup []), .p (.tup []), .p (.tup []), .p (.tup []), .p (.tup []), .p (.tup []), .p (.tup []), .p (.tup []), .p (.tup []), .p (.tup []), .p (.tup []), .p (.tup []), .p (.tup []), .p (.tup [])] : List TV).getD k TV.any) (fun k => g_table_Rows_r15.getD k []) [(3, none), (7, none), (8, none), (10, none), (13, none), (20, none), (21, none), (27, none), (28, none), (52, some 3), (59, some 10), (67, some 18)] [] (fun k => g_table_Rows_r15c.getD k []) mixed (by kernel_rfl) rfl rfl (a_op (g_x rfl (x_p rfl (p_move rfl rfl) rfl)) (a_op (g_x rfl (x_p rfl (p_move rfl rfl) rfl)) (a_op (g_x rfl (x_p rfl (p_bin rfl rfl rfl rfl) rfl)) (a_op (g_x rfl (x_p rfl (p_move rfl rfl) rfl)) (a_op (g_off rfl rfl rfl rfl rfl (decide_eq_false h13) rfl rfl) (a_op (g_off rfl rfl rfl rfl rfl (decide_eq_false h13) rfl rfl) (a_op (g_off rfl rfl rfl rfl rfl (decide_eq_false h13) rfl rfl) (a_op (g_off rfl rfl rfl rfl rfl (decide_eq_false h13) rfl rfl) (a_op (g_off rfl rfl rfl rfl rfl (decide_eq_false h13) rfl rfl) (a_op (g_off rfl rfl rfl rfl rfl (decide_eq_false h13) rfl rfl) (a_op (g_off rfl rfl rfl rfl rfl (decide_eq_false h13) rfl rfl) (a_op (g_off rfl rfl rfl rfl rfl (decide_eq_false h13) rfl rfl) (a_op (g_off rfl rfl rfl rfl rfl (decide_eq_false h13) rfl rfl) (a_op (g_off rfl rfl rfl rfl rfl (decide_eq_false h13) rfl rfl) (a_op (g_off rfl rfl rfl rfl rfl (decide_eq_false h13) rfl rfl) (a_op (g_off rfl rfl rfl rfl rfl (decide_eq_false h13) rfl rfl) (a_op (g_off rfl rfl rfl rfl rfl (decide_eq_false h13) rfl rfl) (a_op (g_off rfl rfl rfl rfl rfl (decide_eq_false h13) rfl rfl) (a_op (g_off rfl rfl rfl rfl rfl (decide_eq_false h13) rfl rfl) (a_nil)))))))))))))))))))) ?_
            refine t_off rfl rfl rfl rfl (decide_eq_false h13) rfl rfl ?_
            refine t_op rfl rfl (PureD.opD (p_pkf rfl rfl (decide_eq_false h13) (.same _))) ?_
            refine t_gho (Gho_st (L := [(3, .q 3 (0)), (7, .c (.own 7 out7_2.length 1)), (8, .i t21_0), (10, .i (out7_0.length : Int)), (13, .i j13_2), (20, .g (t0.Drawers.toList.flatMap (fun v : Vector GCell 4 => v.toList.flatMap GCell.cs))), (21, .i t21_0), (27, .g (((vrd t0.Drawers t21_0.toNat).toList).flatMap GCell.cs)), (28, .i t28_1), (69, .b false)]) (H := [(3, .pure (open1.toList.map AV.bool)), (7, .pure (out7_2.map (fun q : List GValue => AV.lst (q.flatMap GValue.cs) q.length)))]) (N := 91) rfl ⟨TLes.same _, TLes.same _, TLes.same _, TLes.same _, TLes.same _, TLes.same _, TLes.same _, TLes.same _, TLes.same _, TLes.same _, trivial⟩ ⟨rfl, rfl, trivial⟩) ?_
            exact rfl
          ·refine AW2_cond rfl (fun h19 => ?_) (fun h19 => ?_)
           ·replace H := ite_then h19 H
            refine as2 [(3, .q 3 (0)), (7, .c (.own 7 out7_2.length 1)), (8, .i t21_0), (10, .i (out7_0.length : Int)), (13, .i j13_2), (20, .g (t0.Drawers.toList.flatMap (fun v : Vector GCell 4 => v.toList.flatMap GCell.cs))), (21, .i t21_0), (27, .g (((vrd t0.Drawers t21_0.toNat).toList).flatMap GCell.cs)), (28, .i t28_1)] [(3, .pure (open1.toList.map AV.bool)), (7, .pure (out7_2.map (fun q : List GValue => AV.lst (q.flatMap GValue.cs) q.length)))] rfl rfl rfl ?_
            refine AW2_skip ?_
            refine AW2_seq ?_
            refine AW2_block ?_
            refine chkK H fun h20 H => ?_
            refine chkK H fun h21 H => ?_
            refine chkK H fun h22 H => ?_
            refine chkK H fun h23 H => ?_
            refine AW2_ghoQ ?_
            refine AW2_drawU 16 [16, 17] (fun k => ([.c (.own 7 out7_2.length 1), .i j13_2, .c (.own 7 out7_2.length 1), .i j13_2, .i (w64 (j13_2 - (1 : Int))), .c (.own 7 out7_2.length 1), .i j13_2, .i (w64 (j13_2 - (1 : Int))), .q 7 (0 + ((w64 (j13_2 - (1 : Int))).toNat) * 1), .p ((fun q : List GValue => AV.lst (q.flatMap GValue.cs) q.length) (lrd out7_2 ((w64 (j13_2 - (1 : Int))).toNat))), .c (.own 7 out7_2.length 1), .i j13_2, .q 7 (0 + j13_2.toNat * 1), .p ((fun q : List GValue => AV.lst (q.flatMap GValue.cs) q.length) (lrd out7_2 j13_2.toNat)), .q 7 (0 + j13_2.toNat * 1), .p (.tup [])] : List TV).getD k TV.any) (fun k => g_table_Rows_r17.getD k []) [(3, none), (7, none), (8, none), (10, none), (13, none), (20, none), (21, none), (27, none), (28, none), (74, some 2), (76, some 4), (85, some 13)] [] [(15, 7, .pure ((out7_2.set j13_2.toNat (lrd out7_2 ((w64 (j13_2 - (1 : Int))).toNat))).map (fun q : List GValue => AV.lst (q.flatMap GValue.cs) q.length)))] [] (fun k => ([[], [], [], [], [], [], [], [], [(7, false)], [(7, false)], [], [], [(7, false)], [(7, false)], [(7, false)], [(7, false)]] : List (List (Nat × Bool))).getD k []) (fun k => g_table_Rows_r17c.getD k []) mixed (by kernel_rfl) rfl rfl rfl (a_op (gu_x rfl (y_p rfl rfl (p_move rfl rfl) rfl)) (a_op (gu_x rfl (y_p rfl rfl (p_move rfl rfl) rfl)) (a_op (gu_x rfl (y_p rfl rfl (p_move rfl rfl) rfl)) (a_op (gu_x rfl (y_p rfl rfl (p_move rfl rfl) rfl)) (a_op (gu_x rfl (y_p rfl rfl (p_bin rfl rfl rfl rfl) rfl)) (a_op (gu_x rfl (y_p rfl rfl (p_move rfl rfl) rfl)) (a_op (gu_x rfl (y_p rfl rfl (p_move rfl rfl) rfl)) (a_op (gu_x rfl (y_p rfl rfl (p_bin rfl rfl rfl rfl) rfl)) (a_op (gu_x rfl (y_p rfl rfl (u_ixo rfl rfl Tryd.underlying50 in_38 rfl rfl (lne (ixn h20)) rfl (ixe h20) (ixn h20)) rfl)) (a_op (gu_x rfl (y_p rfl rfl (u_ld rfl rfl Tryd.underlying38 rfl rfl ((Sub.refl _).trans (Sub.map default (ixn h20)))) rfl)) (a_op (gu_x rfl (y_p rfl rfl (p_move rfl rfl) rfl)) (a_op (gu_x rfl (y_p rfl rfl (p_move rfl rfl) rfl)) (a_op (gu_x rfl (y_p rfl rfl (u_ixo rfl rfl Tryd.underlying50 in_38 rfl rfl (lne (ixn h21)) rfl (ixe h21) (ixn h21)) rfl)) (a_op (gu_x rfl (y_p rfl rfl (u_ld rfl rfl Tryd.underlying38 rfl rfl ((Sub.refl _).trans (Sub.map default (ixn h21)))) rfl)) (a_op (gu_x rfl (y_p rfl rfl (u_ixo rfl rfl Tryd.underlying50 in_38 rfl rfl (lne (ixn h22)) rfl (ixe h22) (ixn h22)) rfl)) (a_op (gu_x rfl (y_u rfl rfl rfl rfl (UpdD_st rfl rfl rfl rfl rfl in_38 rfl (lne (ixn h22)) (Upd.trans (Sub.refl _) (Upd.map (ixn h22)) (Upd.refl (by simp [bcells_length])))) rfl rfl)) (a_nil))))))))))))))))) ?_
            refine t_op rfl rfl (OpD_gho (Gho_st (L := [(3, .q 3 (0)), (7, .c (.own 7 (out7_2.set j13_2.toNat (lrd out7_2 ((w64 (j13_2 - (1 : Int))).toNat))).length 1)), (8, .i t21_0), (10, .i (out7_0.length : Int)), (13, .i j13_2), (20, .g (t0.Drawers.toList.flatMap (fun v : Vector GCell 4 => v.toList.flatMap GCell.cs))), (21, .i t21_0), (27, .g (((vrd t0.Drawers t21_0.toNat).toList).flatMap GCell.cs)), (28, .i t28_1), (74, .c (.own 7 (out7_2.set j13_2.toNat (lrd out7_2 ((w64 (j13_2 - (1 : Int))).toNat))).length 1)), (76, .i (w64 (j13_2 - (1 : Int)))), (85, .p ((fun q : List GValue => AV.lst (q.flatMap GValue.cs) q.length) (lrd out7_2 j13_2.toNat)))]) (H := [(3, .pure (open1.toList.map AV.bool)), (7, .pure ((out7_2.set j13_2.toNat (lrd out7_2 ((w64 (j13_2 - (1 : Int))).toNat))).map (fun q : List GValue => AV.lst (q.flatMap GValue.cs) q.length)))]) (N := 91) rfl ⟨TLes.same _, TLes.own (by simp only [List.length_set]), TLes.same _, TLes.same _, TLes.same _, TLes.same _, TLes.same _, TLes.same _, TLes.same _, TLes.own (by simp only [List.length_set]), TLes.same _, TLes.same _, trivial⟩ ⟨rfl, rfl, trivial⟩) (PureD.opD (u_ixo rfl rfl Tryd.underlying50 in_38 rfl rfl (lne (ixn h23)) rfl (ixe h23) (ixn h23)))) ?_
            refine t_op rfl rfl (u_st rfl rfl rfl rfl rfl in_38 rfl (lne (ixn h23)) (Upd.trans (Sub.refl _) (Upd.map (ixn h23)) (Upd.refl (by simp [bcells_length])))) ?_
            refine t_gho (Gho_st (L := [(3, .q 3 (0)), (7, .c (.own 7 ((out7_2.set j13_2.toNat (lrd out7_2 ((w64 (j13_2 - (1 : Int))).toNat))).set ((w64 (j13_2 - (1 : Int))).toNat) (lrd out7_2 j13_2.toNat)).length 1)), (8, .i t21_0), (10, .i (out7_0.length : Int)), (13, .i j13_2), (20, .g (t0.Drawers.toList.flatMap (fun v : Vector GCell 4 => v.toList.flatMap GCell.cs))), (21, .i t21_0), (27, .g (((vrd t0.Drawers t21_0.toNat).toList).flatMap GCell.cs)), (28, .i t28_1)]) (H := [(3, .pure (open1.toList.map AV.bool)), (7, .pure (((out7_2.set j13_2.toNat (lrd out7_2 ((w64 (j13_2 - (1 : Int))).toNat))).set ((w64 (j13_2 - (1 : Int))).toNat) (lrd out7_2 j13_2.toNat)).map (fun q : List GValue => AV.lst (q.flatMap GValue.cs) q.length)))]) (N := 91) rfl ⟨TLes.same _, TLes.own (by simp only [List.length_set]), TLes.same _, TLes.same _, TLes.same _, TLes.same _, TLes.same _, TLes.same _, TLes.same _, trivial⟩ ⟨rfl, rfl, trivial⟩) ?_
            refine gen1 (fun out7'6 => (⟨[(3, .q 3 (0)), (7, .c (.own 7 out7'6.length 1)), (8, .i t21_0), (10, .i (out7_0.length : Int)), (13, .i j13_2), (20, .g (t0.Drawers.toList.flatMap (fun v : Vector GCell 4 => v.toList.flatMap GCell.cs))), (21, .i t21_0), (27, .g (((vrd t0.Drawers t21_0.toNat).toList).flatMap GCell.cs)), (28, .i t28_1)], [(3, .pure (open1.toList.map AV.bool)), (7, .pure (out7'6.map (fun q : List GValue => AV.lst (q.flatMap GValue.cs) q.length)))], 91⟩ : TS)) H ?_
            intro out7'6 H
            refine AW2_reg [0, 1, 2] rfl ?_
            refine rp rfl rfl (p_move rfl rfl) ?_
            refine rp rfl rfl (p_bin rfl rfl rfl rfl) ?_
            refine rp rfl rfl (p_asg rfl rfl) ?_
            refine rz [(3, .q 3 (0)), (7, .c (.own 7 out7'6.length 1)), (8, .i t21_0), (10, .i (out7_0.length : Int)), (13, .i (w64 (j13_2 - (1 : Int)))), (20, .g (t0.Drawers.toList.flatMap (fun v : Vector GCell 4 => v.toList.flatMap GCell.cs))), (21, .i t21_0), (27, .g (((vrd t0.Drawers t21_0.toNat).toList).flatMap GCell.cs)), (28, .i t28_1)] [(3, .pure (open1.toList.map AV.bool)), (7, .pure (out7'6.map (fun q : List GValue => AV.lst (q.flatMap GValue.cs) q.length)))] rfl rfl rfl ?_
            have hz := some_elim H
            subst hz
            exact ⟨rfl, rfl⟩
           ·replace H := ite_else (ne_true h19) H
            refine as2 [(3, .q 3 (0)), (7, .c (.own 7 out7_2.length 1)), (8, .i t21_0), (10, .i (out7_0.length : Int)), (20, .g (t0.Drawers.toList.flatMap (fun v : Vector GCell 4 => v.toList.flatMap GCell.cs))), (21, .i t21_0), (27, .g (((vrd t0.Drawers t21_0.toNat).toList).flatMap GCell.cs)), (28, .i t28_1)] [(3, .pure (open1.toList.map AV.bool)), (7, .pure (out7_2.map (fun q : List GValue => AV.lst (q.flatMap GValue.cs) q.length)))] rfl rfl rfl ?_
            refine AW2_exit ?_
            refine thenQ2_exit ?_
            have hz := some_elim H
            subst hz
            exact ⟨rfl, rfl⟩
         ·obtain ⟨rfl, rfl⟩ := hs
          refine ⟨by simp, ?_⟩
          refine blockQ2_exit ?_
          have hz := some_elim H
          subst hz
          exact rfl
      ·refine AW2_reg [0, 1] rfl ?_
       refine rp rfl rfl (p_bin rfl rfl rfl rfl) ?_
       refine rp rfl rfl (p_move rfl rfl) ?_
       refine rz [(3, .q 3 (0)), (7, .c (.own 7 j'2.length 1)), (8, .i t21_0), (10, .i (out7_0.length : Int)), (20, .g (t0.Drawers.toList.flatMap (fun v : Vector GCell 4 => v.toList.flatMap GCell.cs))), (21, .i t21_0), (27, .g (((vrd t0.Drawers t21_0.toNat).toList).flatMap GCell.cs)), (28, .i (w64 (t28_1 + (1 : Int))))] [(3, .pure (open1.toList.map AV.bool)), (7, .pure (j'2.map (fun q : List GValue => AV.lst (q.flatMap GValue.cs) q.length)))] rfl rfl rfl ?_
       have hz := some_elim H
       subst hz
       exact ⟨rfl, rfl⟩
     ·replace H := ite_else h5 H
      refine as2 [(3, .q 3 (0)), (7, .c (.own 7 out7_1.length 1)), (20, .g (t0.Drawers.toList.flatMap (fun v : Vector GCell 4 => v.toList.flatMap GCell.cs))), (21, .i t21_0)] [(3, .pure (open1.toList.map AV.bool)), (7, .pure (out7_1.map (fun q : List GValue => AV.lst (q.flatMap GValue.cs) q.length)))] rfl rfl rfl ?_
      refine AW2_exit ?_
      refine thenQ2_exit ?_
      have hz := some_elim H
      subst hz
      exact ⟨rfl, rfl⟩
    ·obtain ⟨rfl, rfl⟩ := hs
     refine ⟨by simp, ?_⟩
     refine blockQ2_exit ?_
     refine AW2_reg [0, 1] rfl ?_
     refine rp rfl rfl (p_bin rfl rfl rfl rfl) ?_
     refine rp rfl rfl (p_move rfl rfl) ?_
     refine rz [(3, .q 3 (0)), (7, .c (.own 7 y'14.length 1)), (20, .g (t0.Drawers.toList.flatMap (fun v : Vector GCell 4 => v.toList.flatMap GCell.cs))), (21, .i (w64 (t21_0 + (1 : Int))))] [(3, .pure (open1.toList.map AV.bool)), (7, .pure (y'14.map (fun q : List GValue => AV.lst (q.flatMap GValue.cs) q.length)))] rfl rfl rfl ?_
     have hz := some_elim H
     subst hz
     exact ⟨rfl, rfl⟩
   ·replace H := ite_else h3 H
    refine as2 [(7, .c (.own 7 out7_0.length 1))] [(7, .pure (out7_0.map (fun q : List GValue => AV.lst (q.flatMap GValue.cs) q.length)))] rfl rfl rfl ?_
    refine AW2_exit ?_
    refine thenQ2_exit ?_
    have hz := some_elim H
    subst hz
    exact ⟨rfl, rfl⟩
  ·obtain ⟨rfl, rfl⟩ := hs
   refine ⟨by simp, ?_⟩
   refine blockQ2_exit ?_
   refine sg [0, 1, 2] rfl ?_
   refine rp rfl rfl (p_move rfl rfl) ?_
   refine rp rfl rfl (p_asg rfl rfl) ?_
   refine rp rfl rfl (p_asg rfl rfl) ?_
   refine rs [(4, .c (.own 7 y'18.length 1)), (5, .i (0 : Int))] [(7, .pure (y'18.map (fun q : List GValue => AV.lst (q.flatMap GValue.cs) q.length)))] rfl rfl rfl ?_
   refine RunW_gho (Gho_ren 7 4 rfl rfl rfl rfl rfl) ?_
   refine rz [(4, .c (.own 4 y'18.length 1)), (5, .i (0 : Int))] [(4, .pure (y'18.map (fun q : List GValue => AV.lst (q.flatMap GValue.cs) q.length)))] rfl rfl rfl ?_
   refine as2 [(4, .c (.own 4 y'18.length 1)), (5, .i (0 : Int))] [(4, .pure (y'18.map (fun q : List GValue => AV.lst (q.flatMap GValue.cs) q.length)))] rfl rfl rfl ?_
   refine AW2_ret ?_
   have hz := some_elim H
   subst hz
   exact ⟨⟨res_tmp (.same _), res_tmp (.same _), trivial⟩, ⟨rfl, trivial⟩⟩
theorem g_table_Rows_ac {t0 : GTable} {open1 : Vector Bool 2} {r : (List (List GValue)) × Int} (H : g_table_Rows t0 open1 = some r) : ACp Tryd.prog 20 [(.agg (GTable.cs t0)), (.agg (open1.toList.map AV.bool))] (.tup [((fun q : List (List GValue) => AV.lst (q.map (fun q : List GValue => AV.lst (q.flatMap GValue.cs) q.length)) q.length) r.1), (AV.int r.2)]) := ACp_pub (g_table_Rows_ac2 H) (fun _ _ hm => lent_tup ⟨lent_own hm rfl (ml (fun q : List GValue => AV.lst (q.flatMap GValue.cs) q.length) r.1) (by decide), .same _, trivial⟩)

/-! chirographref.among -/
noncomputable def g_ref_among_l0 (c0 : UInt8) (l1 : List UInt8) : Int → Option (Int ⊕ (Bool ⊕ Unit))
  | i5_0 => (if i5_0 < (l1.length : Int) then if 0 ≤ i5_0 ∧ i5_0 < (l1.length : Int) then (if (lrd l1 i5_0.toNat) = c0 then some (.inr (.inl true)) else some (.inl (w64 (i5_0 + (1 : Int))))) else none else some (.inr (.inr ())))
noncomputable def g_ref_among (c0 : UInt8) (l1 : List UInt8) : Option (Bool) :=
  (loopO (g_ref_among_l0 c0 l1) (0 : Int)).bind fun o'4 => match o'4 with | .inl y'5 => some y'5 | .inr (y'6) => some false
set_option maxHeartbeats 4000000 in
set_option maxRecDepth 100000 in
theorem g_ref_among_ac {c0 : UInt8} {l1 : List UInt8} {r : Bool} (H : g_ref_among c0 l1 = some r) : ACp Tryd.prog 56 [(AV.b8 c0), (AV.txt l1)] (AV.bool r) := by
 refine ACp_of (AC2_of_body (vs := [.b r]) Tryd.func56 rfl rfl (Nat.le_of_ble_eq_true rfl) rfl ?_) (fun _ => .same _)
 unfold g_ref_among at H
 refine as2 [(0, .p (AV.b8 c0)), (1, .t l1)] [] rfl rfl rfl ?_
 refine sg [0] rfl ?_
 refine rp rfl rfl (p_asg rfl rfl) ?_
 refine rz [(0, .p (AV.b8 c0)), (1, .t l1)] [] rfl rfl rfl ?_
 refine AW2_seq ?_
 refine sg [0] rfl ?_
 refine rp rfl rfl (p_asg rfl rfl) ?_
 refine rz [(0, .p (AV.b8 c0)), (1, .t l1), (5, .i (0 : Int))] [] rfl rfl rfl ?_
 refine AW2_block ?_
 refine as2 [(0, .p (AV.b8 c0)), (1, .t l1), (5, .i (0 : Int))] [] rfl rfl rfl ?_
 refine bindK H fun o'4 h4 H => ?_
 refine AW2_loopO (fun a'1 : Int => (⟨[(0, .p (AV.b8 c0)), (1, .t l1), (5, .i a'1)], [], 17⟩ : TS)) (fun (o : Bool ⊕ Unit) e s' => match o with | .inl y'2 => e = Go.Exit.ret ∧ ResAll Tryd.prog s' [ResultVar.tmp 4] [.b y'2] ∧ HFits s' [] | .inr (y'3) => e = Go.Exit.exit 0 ∧ s' = (⟨[], [], 17⟩ : TS)) h4 rfl (fun i5_0 x hx => ?_) (fun e s' hs => ?_)
 ·clear H
  have H := hx
  clear hx
  unfold g_ref_among_l0 at H
  refine AW2_seq ?_
  refine sg [0, 1, 2, 3] rfl ?_
  refine rp rfl rfl (p_move rfl rfl) ?_
  refine rp rfl rfl (p_move rfl rfl) ?_
  refine rp rfl rfl (p_lent rfl Tryd.underlying9 rfl) ?_
  refine rp rfl rfl (p_bin rfl rfl rfl rfl) ?_
  refine rz [(0, .p (AV.b8 c0)), (1, .t l1), (5, .i i5_0), (9, .b (decide (i5_0 < (l1.length : Int))))] [] rfl rfl rfl ?_
  refine AW2_if (p := i5_0 < (l1.length : Int)) rfl (fun h1 => ?_) (fun h1 => ?_)
  ·replace H := ite_then h1 H
   refine as2 [(0, .p (AV.b8 c0)), (1, .t l1), (5, .i i5_0)] [] rfl rfl rfl ?_
   refine AW2_skip ?_
   refine AW2_seq ?_
   refine AW2_block ?_
   refine sg [0, 1, 2, 3, 4] rfl ?_
   refine rp rfl rfl (p_move rfl rfl) ?_
   refine rp rfl rfl (p_move rfl rfl) ?_
   refine chkK H fun h2 H => ?_
   refine rp rfl rfl (p_ixt rfl Tryd.underlying9 rfl rfl (ixe h2) (lrd_get (ixn h2))) ?_
   refine rp rfl rfl (p_move rfl rfl) ?_
   refine rp rfl rfl (p_u8eq (a := (lrd l1 i5_0.toNat)) (b := c0) rfl rfl rfl) ?_
   refine rz [(0, .p (AV.b8 c0)), (1, .t l1), (5, .i i5_0), (16, .b (decide ((lrd l1 i5_0.toNat) = c0)))] [] rfl rfl rfl ?_
   refine AW2_if (p := (lrd l1 i5_0.toNat) = c0) rfl (fun h3 => ?_) (fun h3 => ?_)
   ·replace H := ite_then h3 H
    refine sg [0] rfl ?_
    refine rp rfl rfl (p_asg rfl rfl) ?_
    refine rz [(4, .b true)] [] rfl rfl rfl ?_
    refine AW2_ret ?_
    have hz := some_elim H
    subst hz
    exact ⟨rfl, ⟨res_tmp (.same _), trivial⟩, trivial⟩
   ·replace H := ite_else h3 H
    refine as2 [(0, .p (AV.b8 c0)), (1, .t l1), (5, .i i5_0)] [] rfl rfl rfl ?_
    refine AW2_skip ?_
    refine AW2_reg [0, 1, 2] rfl ?_
    refine rp rfl rfl (p_move rfl rfl) ?_
    refine rp rfl rfl (p_bin rfl rfl rfl rfl) ?_
    refine rp rfl rfl (p_asg rfl rfl) ?_
    refine rz [(0, .p (AV.b8 c0)), (1, .t l1), (5, .i (w64 (i5_0 + (1 : Int))))] [] rfl rfl rfl ?_
    have hz := some_elim H
    subst hz
    exact ⟨rfl, rfl⟩
  ·replace H := ite_else h1 H
   refine as2 [] [] rfl rfl rfl ?_
   refine AW2_exit ?_
   refine thenQ2_exit ?_
   have hz := some_elim H
   subst hz
   exact ⟨rfl, rfl⟩
 ·rcases o'4 with y'5 | y'6
  ·obtain ⟨rfl, hs⟩ := hs
   refine ⟨by simp, ?_⟩
   have hz := some_elim H
   subst hz
   exact ⟨hs.1, hs.2⟩
  ·obtain ⟨rfl, rfl⟩ := hs
   refine ⟨by simp, ?_⟩
   refine blockQ2_exit ?_
   refine sg [0] rfl ?_
   refine rp rfl rfl (p_asg rfl rfl) ?_
   refine rz [(4, .b false)] [] rfl rfl rfl ?_
   refine AW2_ret ?_
   have hz := some_elim H
   subst hz
   exact ⟨⟨res_tmp (.same _), trivial⟩, trivial⟩

/-! chirographref.reach -/
noncomputable def g_ref_reach_l0 (s0 : List UInt8) (l1 : List UInt8) : Int → Option (Int ⊕ (Int))
  | n5_0 => ((if n5_0 < (s0.length : Int) then if 0 ≤ n5_0 ∧ n5_0 < (s0.length : Int) then (g_ref_among (lrd s0 n5_0.toNat) l1).bind fun r'1 => some r'1 else none else some false)).bind fun g'2 => (if g'2 = true then some (.inl (w64 (n5_0 + (1 : Int)))) else some (.inr n5_0))
noncomputable def g_ref_reach (s0 : List UInt8) (l1 : List UInt8) : Option (Int) :=
  (loopO (g_ref_reach_l0 s0 l1) (0 : Int)).bind fun y'6 => some y'6
set_option maxHeartbeats 4000000 in
set_option maxRecDepth 100000 in
theorem g_ref_reach_ac {s0 : List UInt8} {l1 : List UInt8} {r : Int} (H : g_ref_reach s0 l1 = some r) : ACp Tryd.prog 34 [(AV.txt s0), (AV.txt l1)] (AV.int r) := by
 refine ACp_of (AC2_of_body (vs := [.i r]) Tryd.func34 rfl rfl (Nat.le_of_ble_eq_true rfl) rfl ?_) (fun _ => .same _)
 unfold g_ref_reach at H
 refine as2 [(0, .t s0), (1, .t l1)] [] rfl rfl rfl ?_
 refine sg [0] rfl ?_
 refine rp rfl rfl (p_asg rfl rfl) ?_
 refine rz [(0, .t s0), (1, .t l1)] [] rfl rfl rfl ?_
 refine sg [0] rfl ?_
 refine rp rfl rfl (p_asg rfl rfl) ?_
 refine rz [(0, .t s0), (1, .t l1), (5, .i (0 : Int))] [] rfl rfl rfl ?_
 refine AW2_seq ?_
 refine AW2_block ?_
 refine as2 [(0, .t s0), (1, .t l1), (5, .i (0 : Int))] [] rfl rfl rfl ?_
 refine bindK H fun y'6 h8 H => ?_
 refine AW2_loopO (fun a'3 : Int => (⟨[(0, .t s0), (1, .t l1), (5, .i a'3)], [], 20⟩ : TS)) (fun (y'4 : Int) e s' => e = Go.Exit.exit 0 ∧ s' = (⟨[(5, .i y'4)], [], 20⟩ : TS)) h8 rfl (fun n5_0 x hx => ?_) (fun e s' hs => ?_)
 ·clear H
  have H := hx
  clear hx
  unfold g_ref_reach_l0 at H
  refine AW2_seq ?_
  refine AW2_seq ?_
  refine bindK H fun g'2 h5 H => ?_
  refine AW2_mid (⟨[(0, .t s0), (1, .t l1), (5, .i n5_0), (16, .b g'2)], [], 20⟩ : TS) ?_ ?_
  ·clear H
   have H := h5
   clear h5
   refine AW2_reg [0, 1, 2, 3, 4, 5, 6, 7, 8, 9, 10] rfl ?_
   refine rp rfl rfl (p_move rfl rfl) ?_
   refine rp rfl rfl (p_move rfl rfl) ?_
   refine rp rfl rfl (p_lent rfl Tryd.underlying9 rfl) ?_
   refine rp rfl rfl (p_bin rfl rfl rfl rfl) ?_
   refine rp rfl rfl (p_move rfl rfl) ?_
   refine (Classical.em (n5_0 < (s0.length : Int))).elim (fun h2 => ?_) (fun h2 => ?_)
   ·replace H := ite_then h2 H
    refine r_on rfl rfl rfl rfl (decide_eq_true h2) rfl (PureD.opD (p_move rfl rfl)) ?_
    refine r_on rfl rfl rfl rfl (decide_eq_true h2) rfl (PureD.opD (p_move rfl rfl)) ?_
    refine chkK H fun h3 H => ?_
    refine r_on rfl rfl rfl rfl (decide_eq_true h2) rfl (PureD.opD (p_ixt rfl Tryd.underlying9 rfl rfl (ixe h3) (lrd_get (ixn h3)))) ?_
    refine r_on rfl rfl rfl rfl (decide_eq_true h2) rfl (PureD.opD (p_move rfl rfl)) ?_
    refine bindK H fun r'1 h4 H => ?_
    refine r_on rfl rfl rfl rfl (decide_eq_true h2) rfl (PureD.opD (p_callp rfl rfl rfl Tryd.func56 rfl rfl (g_ref_among_ac h4) ⟨rfl, rfl, trivial⟩)) ?_
    refine rp rfl rfl (p_pkt rfl rfl (decide_eq_true h2) (.same _)) ?_
    refine rs [(0, .t s0), (1, .t l1), (5, .i n5_0), (16, .b r'1)] [] rfl rfl rfl ?_
    have hz := some_elim H
    subst hz
    exact RunW_nil rfl
   ·replace H := ite_else h2 H
    refine r_off rfl rfl rfl rfl (decide_eq_false h2) rfl rfl ?_
    refine r_off rfl rfl rfl rfl (decide_eq_false h2) rfl rfl ?_
    refine r_off rfl rfl rfl rfl (decide_eq_false h2) rfl rfl ?_
    refine r_off rfl rfl rfl rfl (decide_eq_false h2) rfl rfl ?_
    refine r_off rfl rfl rfl rfl (decide_eq_false h2) rfl rfl ?_
    refine rp rfl rfl (p_pkf rfl rfl (decide_eq_false h2) (.same _)) ?_
    refine rs [(0, .t s0), (1, .t l1), (5, .i n5_0), (16, .b false)] [] rfl rfl rfl ?_
    have hz := some_elim H
    subst hz
    exact RunW_nil rfl
  ·refine AW2_cond rfl (fun h6 => ?_) (fun h6 => ?_)
   ·replace H := ite_then h6 H
    refine as2 [(0, .t s0), (1, .t l1), (5, .i n5_0)] [] rfl rfl rfl ?_
    refine AW2_skip ?_
    refine AW2_block ?_
    refine AW2_reg [0, 1, 2] rfl ?_
    refine rp rfl rfl (p_move rfl rfl) ?_
    refine rp rfl rfl (p_bin rfl rfl rfl rfl) ?_
    refine rp rfl rfl (p_asg rfl rfl) ?_
    refine rz [(0, .t s0), (1, .t l1), (5, .i (w64 (n5_0 + (1 : Int))))] [] rfl rfl rfl ?_
    have hz := some_elim H
    subst hz
    exact ⟨rfl, rfl⟩
   ·replace H := ite_else (ne_true h6) H
    refine as2 [(5, .i n5_0)] [] rfl rfl rfl ?_
    refine AW2_exit ?_
    refine thenQ2_exit ?_
    have hz := some_elim H
    subst hz
    exact ⟨rfl, rfl⟩
 ·obtain ⟨rfl, rfl⟩ := hs
  refine ⟨by simp, ?_⟩
  refine blockQ2_exit ?_
  refine sg [0, 1] rfl ?_
  refine rp rfl rfl (p_move rfl rfl) ?_
  refine rp rfl rfl (p_asg rfl rfl) ?_
  refine rz [(4, .i y'6)] [] rfl rfl rfl ?_
  refine AW2_ret ?_
  have hz := some_elim H
  subst hz
  exact ⟨⟨res_tmp (.same _), trivial⟩, trivial⟩

/-! chirographref.isName -/
def g_ref_isName_t0 : List UInt8 := [97, 98, 99, 100, 101, 102, 103, 104, 105, 106, 107, 108, 109, 110, 111, 112, 113, 114, 115, 116, 117, 118, 119, 120, 121, 122]
def g_ref_isName_t1 : List UInt8 := [97, 98, 99, 100, 101, 102, 103, 104, 105, 106, 107, 108, 109, 110, 111, 112, 113, 114, 115, 116, 117, 118, 119, 120, 121, 122, 48, 49, 50, 51, 52, 53, 54, 55, 56, 57, 95]
noncomputable def g_ref_isName (s0 : List UInt8) : Option (Bool) :=
  ((if s0 ≠ [] then if 0 < s0.length then (g_ref_among (lrd s0 0) g_ref_isName_t0).bind fun r'1 => (if r'1 = true then (g_ref_reach s0 g_ref_isName_t1).bind fun r'2 => some (decide (r'2 = (s0.length : Int))) else some false) else none else some false)).bind fun g'3 => some g'3
set_option maxHeartbeats 4000000 in
set_option maxRecDepth 100000 in
theorem g_ref_isName_ac {s0 : List UInt8} {r : Bool} (H : g_ref_isName s0 = some r) : ACp Tryd.prog 33 [(AV.txt s0)] (AV.bool r) := by
 refine ACp_of (AC2_of_body (vs := [.b r]) Tryd.func33 rfl rfl (Nat.le_of_ble_eq_true rfl) rfl ?_) (fun _ => .same _)
 unfold g_ref_isName at H
 refine as2 [(0, .t s0)] [] rfl rfl rfl ?_
 refine sg [0] rfl ?_
 refine rp rfl rfl (p_asg rfl rfl) ?_
 refine rz [(0, .t s0)] [] rfl rfl rfl ?_
 refine AW2_seq ?_
 refine bindK H fun g'3 h7 H => ?_
 refine AW2_mid (⟨[(2, .b g'3)], [], 17⟩ : TS) ?_ ?_
 ·clear H
  have H := h7
  clear h7
  refine AW2_reg [0, 1, 2, 3, 4, 5, 6, 7, 8, 9, 10, 11, 12, 13, 14] rfl ?_
  refine rp rfl rfl (p_move rfl rfl) ?_
  refine rp rfl rfl (p_sne rfl rfl rfl) ?_
  refine rp rfl rfl (p_move rfl rfl) ?_
  refine (Classical.em (s0 ≠ [])).elim (fun h2 => ?_) (fun h2 => ?_)
  ·replace H := ite_then h2 H
   refine r_on rfl rfl rfl rfl (decide_eq_true h2) rfl (PureD.opD (p_move rfl rfl)) ?_
   refine chkK H fun h3 H => ?_
   refine r_on rfl rfl rfl rfl (decide_eq_true h2) rfl (PureD.opD (p_ixt rfl Tryd.underlying9 rfl rfl rfl (lrd_get h3))) ?_
   refine bindK H fun r'1 h4 H => ?_
   refine r_on rfl rfl rfl rfl (decide_eq_true h2) rfl (PureD.opD (p_callp rfl rfl rfl Tryd.func56 rfl rfl (g_ref_among_ac h4) ⟨rfl, by kernel_rfl, trivial⟩)) ?_
   refine rp rfl rfl (p_pkt rfl rfl (decide_eq_true h2) (.same _)) ?_
   refine rp rfl rfl (p_move rfl rfl) ?_
   refine (Classical.em (r'1 = true)).elim (fun h5 => ?_) (fun h5 => ?_)
   ·replace H := ite_then h5 H
    refine rn rfl rfl rfl rfl h5 rfl (p_move rfl rfl) ?_
    refine bindK H fun r'2 h6 H => ?_
    refine rn rfl rfl rfl rfl h5 rfl (p_callp rfl rfl rfl Tryd.func34 rfl rfl (g_ref_reach_ac h6) ⟨rfl, by kernel_rfl, trivial⟩) ?_
    refine rn rfl rfl rfl rfl h5 rfl (p_move rfl rfl) ?_
    refine rn rfl rfl rfl rfl h5 rfl (p_lent rfl Tryd.underlying9 rfl) ?_
    refine rn rfl rfl rfl rfl h5 rfl (p_ieq rfl rfl rfl) ?_
    refine rp rfl rfl (p_pkt rfl rfl h5 (.same _)) ?_
    refine rp rfl rfl (p_asg rfl rfl) ?_
    refine rs [(2, .b (decide (r'2 = (s0.length : Int))))] [] rfl rfl rfl ?_
    have hz := some_elim H
    subst hz
    exact RunW_nil rfl
   ·replace H := ite_else h5 H
    refine r_off rfl rfl rfl rfl (bfalse h5) rfl rfl ?_
    refine r_off rfl rfl rfl rfl (bfalse h5) rfl rfl ?_
    refine r_off rfl rfl rfl rfl (bfalse h5) rfl rfl ?_
    refine r_off rfl rfl rfl rfl (bfalse h5) rfl rfl ?_
    refine r_off rfl rfl rfl rfl (bfalse h5) rfl rfl ?_
    refine rp rfl rfl (p_pkf rfl rfl (bfalse h5) (.same _)) ?_
    refine rp rfl rfl (p_asg rfl rfl) ?_
    refine rs [(2, .b false)] [] rfl rfl rfl ?_
    have hz := some_elim H
    subst hz
    exact RunW_nil rfl
  ·replace H := ite_else h2 H
   refine r_off rfl rfl rfl rfl (decide_eq_false h2) rfl rfl ?_
   refine r_off rfl rfl rfl rfl (decide_eq_false h2) rfl rfl ?_
   refine r_off rfl rfl rfl rfl (decide_eq_false h2) rfl rfl ?_
   refine rp rfl rfl (p_pkf rfl rfl (decide_eq_false h2) (.same _)) ?_
   refine rp rfl rfl (p_move rfl rfl) ?_
   refine r_off rfl rfl rfl rfl (bfalse (by decide)) rfl rfl ?_
   refine r_off rfl rfl rfl rfl (bfalse (by decide)) rfl rfl ?_
   refine r_off rfl rfl rfl rfl (bfalse (by decide)) rfl rfl ?_
   refine r_off rfl rfl rfl rfl (bfalse (by decide)) rfl rfl ?_
   refine r_off rfl rfl rfl rfl (bfalse (by decide)) rfl rfl ?_
   refine rp rfl rfl (p_pkf rfl rfl (bfalse (by decide)) (.same _)) ?_
   refine rp rfl rfl (p_asg rfl rfl) ?_
   refine rs [(2, .b false)] [] rfl rfl rfl ?_
   have hz := some_elim H
   subst hz
   exact RunW_nil rfl
 ·refine AW2_ret ?_
  have hz := some_elim H
  subst hz
  exact ⟨⟨res_tmp (.same _), trivial⟩, trivial⟩

/-! chirographref.columnAt -/
noncomputable def g_ref_columnAt_l0 (cols0 : List GColumn) (name1 : List UInt8) : Int → Option (Int ⊕ (Int ⊕ Unit))
  | i5_0 => (if i5_0 ≥ (0 : Int) then if 0 ≤ i5_0 ∧ i5_0 < (cols0.length : Int) then (if (lrd cols0 i5_0.toNat).Name = name1 then some (.inr (.inl i5_0)) else some (.inl (w64 (i5_0 - (1 : Int))))) else none else some (.inr (.inr ())))
noncomputable def g_ref_columnAt (cols0 : List GColumn) (name1 : List UInt8) : Option (Int) :=
  (loopO (g_ref_columnAt_l0 cols0 name1) (w64 ((cols0.length : Int) - (1 : Int)))).bind fun o'4 => match o'4 with | .inl y'5 => some y'5 | .inr (y'6) => some (-1 : Int)
set_option maxHeartbeats 4000000 in
set_option maxRecDepth 100000 in
theorem g_ref_columnAt_ac {cols0 : List GColumn} {name1 : List UInt8} {r : Int} (H : g_ref_columnAt cols0 name1 = some r) : ACp Tryd.prog 41 [((fun q : List GColumn => AV.lst (q.flatMap GColumn.cs) q.length) cols0), (AV.txt name1)] (AV.int r) := by
 refine ACp_of (AC2_of_body (vs := [.i r]) Tryd.func41 rfl rfl (Nat.le_of_ble_eq_true rfl) rfl ?_) (fun _ => .same _)
 unfold g_ref_columnAt at H
 refine as2 [(0, .p ((fun q : List GColumn => AV.lst (q.flatMap GColumn.cs) q.length) cols0)), (1, .t name1)] [] rfl rfl rfl ?_
 refine sg [0] rfl ?_
 refine rp rfl rfl (p_asg rfl rfl) ?_
 refine rz [(0, .p ((fun q : List GColumn => AV.lst (q.flatMap GColumn.cs) q.length) cols0)), (1, .t name1)] [] rfl rfl rfl ?_
 refine AW2_seq ?_
 refine sg [0, 1, 2, 3] rfl ?_
 refine rp rfl rfl (p_move rfl rfl) ?_
 refine rp rfl rfl (p_lenl rfl Tryd.underlying35 rfl rfl) ?_
 refine rp rfl rfl (p_bin rfl rfl rfl rfl) ?_
 refine rp rfl rfl (p_asg rfl rfl) ?_
 refine rz [(0, .p ((fun q : List GColumn => AV.lst (q.flatMap GColumn.cs) q.length) cols0)), (1, .t name1), (5, .i (w64 ((cols0.length : Int) - (1 : Int))))] [] rfl rfl rfl ?_
 refine AW2_block ?_
 refine as2 [(0, .p ((fun q : List GColumn => AV.lst (q.flatMap GColumn.cs) q.length) cols0)), (1, .t name1), (5, .i (w64 ((cols0.length : Int) - (1 : Int))))] [] rfl rfl rfl ?_
 refine bindK H fun o'4 h4 H => ?_
 refine AW2_loopO (fun a'1 : Int => (⟨[(0, .p ((fun q : List GColumn => AV.lst (q.flatMap GColumn.cs) q.length) cols0)), (1, .t name1), (5, .i a'1)], [], 21⟩ : TS)) (fun (o : Int ⊕ Unit) e s' => match o with | .inl y'2 => e = Go.Exit.ret ∧ ResAll Tryd.prog s' [ResultVar.tmp 4] [.i y'2] ∧ HFits s' [] | .inr (y'3) => e = Go.Exit.exit 0 ∧ s' = (⟨[], [], 21⟩ : TS)) h4 rfl (fun i5_0 x hx => ?_) (fun e s' hs => ?_)
 ·clear H
  have H := hx
  clear hx
  unfold g_ref_columnAt_l0 at H
  refine AW2_seq ?_
  refine sg [0, 1] rfl ?_
  refine rp rfl rfl (p_move rfl rfl) ?_
  refine rp rfl rfl (p_bin rfl rfl rfl rfl) ?_
  refine rz [(0, .p ((fun q : List GColumn => AV.lst (q.flatMap GColumn.cs) q.length) cols0)), (1, .t name1), (5, .i i5_0), (10, .b (decide (i5_0 ≥ (0 : Int))))] [] rfl rfl rfl ?_
  refine AW2_if (p := i5_0 ≥ (0 : Int)) rfl (fun h1 => ?_) (fun h1 => ?_)
  ·replace H := ite_then h1 H
   refine as2 [(0, .p ((fun q : List GColumn => AV.lst (q.flatMap GColumn.cs) q.length) cols0)), (1, .t name1), (5, .i i5_0)] [] rfl rfl rfl ?_
   refine AW2_skip ?_
   refine AW2_seq ?_
   refine AW2_block ?_
   refine sg [0, 1, 2, 3, 4, 5, 6] rfl ?_
   refine rp rfl rfl (p_move rfl rfl) ?_
   refine rp rfl rfl (p_move rfl rfl) ?_
   refine chkK H fun h2 H => ?_
   refine rp rfl rfl (u_ixl rfl rfl Tryd.underlying35 in_68 rfl rfl (ixe h2) (ixn h2) (fne (fun x => (GColumn.len x)) (by decide) (ixn h2))) ?_
   refine rp rfl rfl (u_far rfl rfl Tryd.underlying68 rfl in_9 (Nat.succ_ne_zero _) rfl) ?_
   refine rp rfl rfl (u_ld rfl rfl Tryd.underlying9 rfl rfl ((Sub.fm default (fun x => (GColumn.len x)) (ixn h2)).trans (GColumn.sub0 (lrd cols0 i5_0.toNat)))) ?_
   refine rp rfl rfl (p_move rfl rfl) ?_
   refine rp rfl rfl (p_seq rfl rfl rfl) ?_
   refine rz [(0, .p ((fun q : List GColumn => AV.lst (q.flatMap GColumn.cs) q.length) cols0)), (1, .t name1), (5, .i i5_0), (19, .b (decide ((lrd cols0 i5_0.toNat).Name = name1)))] [] rfl rfl rfl ?_
   refine AW2_if (p := (lrd cols0 i5_0.toNat).Name = name1) rfl (fun h3 => ?_) (fun h3 => ?_)
   ·replace H := ite_then h3 H
    refine sg [0, 1] rfl ?_
    refine rp rfl rfl (p_move rfl rfl) ?_
    refine rp rfl rfl (p_asg rfl rfl) ?_
    refine rz [(4, .i i5_0)] [] rfl rfl rfl ?_
    refine AW2_ret ?_
    have hz := some_elim H
    subst hz
    exact ⟨rfl, ⟨res_tmp (.same _), trivial⟩, trivial⟩
   ·replace H := ite_else h3 H
    refine as2 [(0, .p ((fun q : List GColumn => AV.lst (q.flatMap GColumn.cs) q.length) cols0)), (1, .t name1), (5, .i i5_0)] [] rfl rfl rfl ?_
    refine AW2_skip ?_
    refine AW2_reg [0, 1, 2] rfl ?_
    refine rp rfl rfl (p_move rfl rfl) ?_
    refine rp rfl rfl (p_bin rfl rfl rfl rfl) ?_
    refine rp rfl rfl (p_asg rfl rfl) ?_
    refine rz [(0, .p ((fun q : List GColumn => AV.lst (q.flatMap GColumn.cs) q.length) cols0)), (1, .t name1), (5, .i (w64 (i5_0 - (1 : Int))))] [] rfl rfl rfl ?_
    have hz := some_elim H
    subst hz
    exact ⟨rfl, rfl⟩
  ·replace H := ite_else h1 H
   refine as2 [] [] rfl rfl rfl ?_
   refine AW2_exit ?_
   refine thenQ2_exit ?_
   have hz := some_elim H
   subst hz
   exact ⟨rfl, rfl⟩
 ·rcases o'4 with y'5 | y'6
  ·obtain ⟨rfl, hs⟩ := hs
   refine ⟨by simp, ?_⟩
   have hz := some_elim H
   subst hz
   exact ⟨hs.1, hs.2⟩
  ·obtain ⟨rfl, rfl⟩ := hs
   refine ⟨by simp, ?_⟩
   refine blockQ2_exit ?_
   refine sg [0] rfl ?_
   refine rp rfl rfl (p_asg rfl rfl) ?_
   refine rz [(4, .i (-1 : Int))] [] rfl rfl rfl ?_
   refine AW2_ret ?_
   have hz := some_elim H
   subst hz
   exact ⟨⟨res_tmp (.same _), trivial⟩, trivial⟩

/-! chirographref.ColumnsFault -/
def g_ref_ColumnsFault_r10 : List (List (Nat × Option Nat)) := [[(0, none)], [(3, none)], [(46, some 0), (47, some 1)], [(4, none)], [(49, some 3)]]
def g_ref_ColumnsFault_r10c : List (List Nat) := [[], [], [0, 1], [], [3], [0, 1, 2, 3, 4], [0, 1, 2, 3, 4, 5], [0, 1, 2, 3, 4, 5, 6]]
noncomputable def g_ref_ColumnsFault_l0 (cols0 : List GColumn) : Int → Option (Int ⊕ (Int ⊕ Unit))
  | t10_0 => (if t10_0 < (cols0.length : Int) then if 0 ≤ t10_0 ∧ t10_0 < (cols0.length : Int) then (g_ref_isName ((lrd cols0 t10_0.toNat).Name)).bind fun r'1 => (if ((!r'1) = true) ∨ ((((lrd cols0 t10_0.toNat).Name).length : Int) > (8 : Int)) then some (.inr (.inl (3 : Int))) else letO (decide (((((lrd cols0 t10_0.toNat).Kind ≠ (1 : Int)) ∧ ((lrd cols0 t10_0.toNat).Kind ≠ (2 : Int))) ∧ ((lrd cols0 t10_0.toNat).Kind ≠ (3 : Int))) ∧ ((lrd cols0 t10_0.toNat).Kind ≠ (4 : Int)))) fun t26'2 => (if t26'2 = true then some (.inr (.inl (2 : Int))) else if 0 ≤ t10_0 ∧ t10_0 ≤ (cols0.length : Int) then (g_ref_columnAt (cut cols0 (0 : Int) t10_0) ((lrd cols0 t10_0.toNat).Name)).bind fun r'3 => (if r'3 ≥ (0 : Int) then some (.inr (.inl (8 : Int))) else some (.inl (w64 (t10_0 + (1 : Int))))) else none)) else none else some (.inr (.inr ())))
noncomputable def g_ref_ColumnsFault (cols0 : List GColumn) : Option (Int) :=
  (if (cols0.length : Int) > (5 : Int) then some (1 : Int) else (loopO (g_ref_ColumnsFault_l0 cols0) (0 : Int)).bind fun o'7 => match o'7 with | .inl y'8 => some y'8 | .inr (y'9) => some (0 : Int))
set_option maxHeartbeats 4000000 in
set_option maxRecDepth 100000 in
theorem g_ref_ColumnsFault_ac {cols0 : List GColumn} {r : Int} (H : g_ref_ColumnsFault cols0 = some r) : ACp Tryd.prog 15 [((fun q : List GColumn => AV.lst (q.flatMap GColumn.cs) q.length) cols0)] (AV.int r) := by
 refine ACp_of (AC2_of_body (vs := [.i r]) Tryd.func15 rfl rfl (Nat.le_of_ble_eq_true rfl) rfl ?_) (fun _ => .same _)
 unfold g_ref_ColumnsFault at H
 refine as2 [(0, .p ((fun q : List GColumn => AV.lst (q.flatMap GColumn.cs) q.length) cols0))] [] rfl rfl rfl ?_
 refine sg [0] rfl ?_
 refine rp rfl rfl (p_asg rfl rfl) ?_
 refine rz [(0, .p ((fun q : List GColumn => AV.lst (q.flatMap GColumn.cs) q.length) cols0))] [] rfl rfl rfl ?_
 refine AW2_seq ?_
 refine sg [0, 1, 2] rfl ?_
 refine rp rfl rfl (p_move rfl rfl) ?_
 refine rp rfl rfl (p_lenl rfl Tryd.underlying35 rfl rfl) ?_
 refine rp rfl rfl (p_bin rfl rfl rfl rfl) ?_
 refine rz [(0, .p ((fun q : List GColumn => AV.lst (q.flatMap GColumn.cs) q.length) cols0)), (7, .b (decide ((cols0.length : Int) > (5 : Int))))] [] rfl rfl rfl ?_
 refine AW2_if (p := (cols0.length : Int) > (5 : Int)) rfl (fun h1 => ?_) (fun h1 => ?_)
 ·replace H := ite_then h1 H
  refine sg [0] rfl ?_
  refine rp rfl rfl (p_asg rfl rfl) ?_
  refine rz [(2, .i (1 : Int))] [] rfl rfl rfl ?_
  refine AW2_ret ?_
  have hz := some_elim H
  subst hz
  exact ⟨⟨res_tmp (.same _), trivial⟩, trivial⟩
 ·replace H := ite_else h1 H
  refine as2 [(0, .p ((fun q : List GColumn => AV.lst (q.flatMap GColumn.cs) q.length) cols0))] [] rfl rfl rfl ?_
  refine AW2_skip ?_
  refine AW2_seq ?_
  refine sg [0, 1, 2] rfl ?_
  refine rp rfl rfl (p_move rfl rfl) ?_
  refine rp rfl rfl (p_lenl rfl Tryd.underlying35 rfl rfl) ?_
  refine rp rfl rfl (p_move rfl rfl) ?_
  refine rz [(0, .p ((fun q : List GColumn => AV.lst (q.flatMap GColumn.cs) q.length) cols0)), (8, .p ((fun q : List GColumn => AV.lst (q.flatMap GColumn.cs) q.length) cols0)), (9, .i (cols0.length : Int)), (10, .i (0 : Int))] [] rfl rfl rfl ?_
  refine AW2_block ?_
  refine as2 [(0, .p ((fun q : List GColumn => AV.lst (q.flatMap GColumn.cs) q.length) cols0)), (8, .p ((fun q : List GColumn => AV.lst (q.flatMap GColumn.cs) q.length) cols0)), (9, .i (cols0.length : Int)), (10, .i (0 : Int))] [] rfl rfl rfl ?_
  refine bindK H fun o'7 h14 H => ?_
  refine AW2_loopO (fun a'4 : Int => (⟨[(0, .p ((fun q : List GColumn => AV.lst (q.flatMap GColumn.cs) q.length) cols0)), (8, .p ((fun q : List GColumn => AV.lst (q.flatMap GColumn.cs) q.length) cols0)), (9, .i (cols0.length : Int)), (10, .i a'4)], [], 54⟩ : TS)) (fun (o : Int ⊕ Unit) e s' => match o with | .inl y'5 => e = Go.Exit.ret ∧ ResAll Tryd.prog s' [ResultVar.tmp 2] [.i y'5] ∧ HFits s' [] | .inr (y'6) => e = Go.Exit.exit 0 ∧ s' = (⟨[], [], 54⟩ : TS)) h14 rfl (fun t10_0 x hx => ?_) (fun e s' hs => ?_)
  ·clear H
   have H := hx
   clear hx
   unfold g_ref_ColumnsFault_l0 at H
   refine sg [0] rfl ?_
   refine rp rfl rfl (p_bin rfl rfl rfl rfl) ?_
   refine rz [(0, .p ((fun q : List GColumn => AV.lst (q.flatMap GColumn.cs) q.length) cols0)), (8, .p ((fun q : List GColumn => AV.lst (q.flatMap GColumn.cs) q.length) cols0)), (9, .i (cols0.length : Int)), (10, .i t10_0), (11, .b (decide (t10_0 < (cols0.length : Int))))] [] rfl rfl rfl ?_
   refine AW2_seq ?_
   refine AW2_if (p := t10_0 < (cols0.length : Int)) rfl (fun h2 => ?_) (fun h2 => ?_)
   ·replace H := ite_then h2 H
    refine as2 [(0, .p ((fun q : List GColumn => AV.lst (q.flatMap GColumn.cs) q.length) cols0)), (8, .p ((fun q : List GColumn => AV.lst (q.flatMap GColumn.cs) q.length) cols0)), (9, .i (cols0.length : Int)), (10, .i t10_0)] [] rfl rfl rfl ?_
    refine AW2_skip ?_
    refine AW2_seq ?_
    refine AW2_block ?_
    refine sg [0, 1, 2, 3, 4, 5] rfl ?_
    refine rp rfl rfl (p_move rfl rfl) ?_
    refine chkK H fun h3 H => ?_
    refine rp rfl rfl (u_ixl rfl rfl Tryd.underlying35 in_68 rfl rfl (ixe h3) (ixn h3) (fne (fun x => (GColumn.len x)) (by decide) (ixn h3))) ?_
    refine rp rfl rfl (u_lda rfl rfl Tryd.underlying68 rfl in_68 rfl (Nat.succ_pos _) (Sub.fm default (fun x => (GColumn.len x)) (ixn h3)) (GColumn.len (lrd cols0 t10_0.toNat))) ?_
    refine r_op rfl rfl (MakeD.opD (u_alloc 4 rfl in_68 one_68 zc_68) rfl rfl rfl rfl) ?_
    refine rp rfl rfl (p_asg rfl rfl) ?_
    refine r_op rfl rfl (u_st rfl rfl rfl rfl rfl in_68 (GColumn.len (lrd cols0 t10_0.toNat)) (ne_of_lt (n := 0) (Nat.lt_of_lt_of_eq (by decide) (Eq.symm (GColumn.len GColumn.zero)))) (Upd.refl ((GColumn.len (lrd cols0 t10_0.toNat)).trans (GColumn.len GColumn.zero).symm))) ?_
    refine rz [(0, .p ((fun q : List GColumn => AV.lst (q.flatMap GColumn.cs) q.length) cols0)), (3, .i t10_0), (4, .q 4 (0)), (8, .p ((fun q : List GColumn => AV.lst (q.flatMap GColumn.cs) q.length) cols0)), (9, .i (cols0.length : Int)), (10, .i t10_0)] [(4, .pure (GColumn.cs (lrd cols0 t10_0.toNat)))] rfl rfl rfl ?_
    refine AW2_block ?_
    refine AW2_seq ?_
    refine bindK H fun r'1 h4 H => ?_
    refine AW2_mid (⟨[(0, .p ((fun q : List GColumn => AV.lst (q.flatMap GColumn.cs) q.length) cols0)), (3, .i t10_0), (4, .q 4 (0)), (8, .p ((fun q : List GColumn => AV.lst (q.flatMap GColumn.cs) q.length) cols0)), (9, .i (cols0.length : Int)), (10, .i t10_0), (15, .b (decide (((!r'1) = true) ∨ ((((lrd cols0 t10_0.toNat).Name).length : Int) > (8 : Int)))))], [(4, .pure (GColumn.cs (lrd cols0 t10_0.toNat)))], 54⟩ : TS) ?_ ?_
    ·refine AW2_reg [0, 1, 2, 3, 4, 5, 6, 7, 8, 9, 10] rfl ?_
     refine rp rfl rfl (u_fa rfl rfl Tryd.underlying68 rfl in_9 (Nat.succ_ne_zero _) rfl rfl (ne_of_lt (n := 0) (Nat.lt_of_lt_of_eq (by decide) (Eq.symm (GColumn.len (lrd cols0 t10_0.toNat)))))) ?_
     refine rp rfl rfl (u_ld rfl rfl Tryd.underlying9 rfl rfl ((Sub.refl _).trans (GColumn.sub0 (lrd cols0 t10_0.toNat)))) ?_
     refine rp rfl rfl (p_callp rfl rfl rfl Tryd.func33 rfl rfl (g_ref_isName_ac h4) ⟨rfl, trivial⟩) ?_
     refine rp rfl rfl (p_not rfl rfl) ?_
     refine rp rfl rfl (p_move rfl rfl) ?_
     refine (Classical.em ((!r'1) = true)).elim (fun h5 => ?_) (fun h5 => ?_)
     ·refine r_off rfl rfl rfl rfl h5 rfl rfl ?_
      refine r_off rfl rfl rfl rfl h5 rfl rfl ?_
      refine r_off rfl rfl rfl rfl h5 rfl rfl ?_
      refine r_off rfl rfl rfl rfl h5 rfl rfl ?_
      refine rp rfl rfl (p_pkt rfl rfl h5 (tb (decide_eq_true (p := ((!r'1) = true) ∨ ((((lrd cols0 t10_0.toNat).Name).length : Int) > (8 : Int))) (Or.inl h5)).symm)) ?_
      refine rp rfl rfl (p_asg rfl rfl) ?_
      refine rs [(0, .p ((fun q : List GColumn => AV.lst (q.flatMap GColumn.cs) q.length) cols0)), (3, .i t10_0), (4, .q 4 (0)), (8, .p ((fun q : List GColumn => AV.lst (q.flatMap GColumn.cs) q.length) cols0)), (9, .i (cols0.length : Int)), (10, .i t10_0), (15, .b (decide (((!r'1) = true) ∨ ((((lrd cols0 t10_0.toNat).Name).length : Int) > (8 : Int)))))] [(4, .pure (GColumn.cs (lrd cols0 t10_0.toNat)))] rfl rfl rfl ?_
      exact RunW_nil rfl
     ·refine r_on rfl rfl rfl rfl (bfalse h5) rfl (PureD.opD (u_fa rfl rfl Tryd.underlying68 rfl in_9 (Nat.succ_ne_zero _) rfl rfl (ne_of_lt (n := 0) (Nat.lt_of_lt_of_eq (by decide) (Eq.symm (GColumn.len (lrd cols0 t10_0.toNat))))))) ?_
      refine r_on rfl rfl rfl rfl (bfalse h5) rfl (PureD.opD (u_ld rfl rfl Tryd.underlying9 rfl rfl ((Sub.refl _).trans (GColumn.sub0 (lrd cols0 t10_0.toNat))))) ?_
      refine r_on rfl rfl rfl rfl (bfalse h5) rfl (PureD.opD (p_lent rfl Tryd.underlying9 rfl)) ?_
      refine r_on rfl rfl rfl rfl (bfalse h5) rfl (PureD.opD (p_bin rfl rfl rfl rfl)) ?_
      refine rp rfl rfl (p_pkf rfl rfl (bfalse h5) (tb ((or_l (p := (!r'1) = true) (q := (((lrd cols0 t10_0.toNat).Name).length : Int) > (8 : Int)) h5)))) ?_
      refine rp rfl rfl (p_asg rfl rfl) ?_
      refine rs [(0, .p ((fun q : List GColumn => AV.lst (q.flatMap GColumn.cs) q.length) cols0)), (3, .i t10_0), (4, .q 4 (0)), (8, .p ((fun q : List GColumn => AV.lst (q.flatMap GColumn.cs) q.length) cols0)), (9, .i (cols0.length : Int)), (10, .i t10_0), (15, .b (decide (((!r'1) = true) ∨ ((((lrd cols0 t10_0.toNat).Name).length : Int) > (8 : Int)))))] [(4, .pure (GColumn.cs (lrd cols0 t10_0.toNat)))] rfl rfl rfl ?_
      exact RunW_nil rfl
    ·refine AW2_if (p := ((!r'1) = true) ∨ ((((lrd cols0 t10_0.toNat).Name).length : Int) > (8 : Int))) rfl (fun h6 => ?_) (fun h6 => ?_)
     ·replace H := ite_then h6 H
      refine sg [0] rfl ?_
      refine rp rfl rfl (p_asg rfl rfl) ?_
      refine rz [(2, .i (3 : Int))] [] rfl rfl rfl ?_
      refine AW2_ret ?_
      have hz := some_elim H
      subst hz
      exact ⟨rfl, ⟨res_tmp (.same _), trivial⟩, trivial⟩
     ·replace H := ite_else h6 H
      refine AW2_seq ?_
      refine AW2_mid (⟨[(0, .p ((fun q : List GColumn => AV.lst (q.flatMap GColumn.cs) q.length) cols0)), (3, .i t10_0), (4, .q 4 (0)), (8, .p ((fun q : List GColumn => AV.lst (q.flatMap GColumn.cs) q.length) cols0)), (9, .i (cols0.length : Int)), (10, .i t10_0), (26, .b (decide (((((lrd cols0 t10_0.toNat).Kind ≠ (1 : Int)) ∧ ((lrd cols0 t10_0.toNat).Kind ≠ (2 : Int))) ∧ ((lrd cols0 t10_0.toNat).Kind ≠ (3 : Int))) ∧ ((lrd cols0 t10_0.toNat).Kind ≠ (4 : Int)))))], [(4, .pure (GColumn.cs (lrd cols0 t10_0.toNat)))], 54⟩ : TS) ?_ ?_
      ·refine AW2_reg [0, 1, 2, 3, 4, 5, 6, 7, 8, 9, 10, 11, 12, 13, 14, 15, 16, 17, 18] rfl ?_
       refine rp rfl rfl (u_fa rfl rfl Tryd.underlying68 rfl in_3 (Nat.succ_ne_zero _) rfl rfl (ne_of_lt (n := 0) (Nat.lt_of_lt_of_eq (by decide) (Eq.symm (GColumn.len (lrd cols0 t10_0.toNat)))))) ?_
       refine rp rfl rfl (u_ld rfl rfl Tryd.underlying3 rfl rfl ((Sub.refl _).trans (GColumn.sub1 (lrd cols0 t10_0.toNat)))) ?_
       refine rp rfl rfl (p_ine rfl rfl rfl) ?_
       refine rp rfl rfl (p_move rfl rfl) ?_
       refine (Classical.em ((lrd cols0 t10_0.toNat).Kind ≠ (1 : Int))).elim (fun h7 => ?_) (fun h7 => ?_)
       ·refine r_on rfl rfl rfl rfl (decide_eq_true h7) rfl (PureD.opD (u_fa rfl rfl Tryd.underlying68 rfl in_3 (Nat.succ_ne_zero _) rfl rfl (ne_of_lt (n := 0) (Nat.lt_of_lt_of_eq (by decide) (Eq.symm (GColumn.len (lrd cols0 t10_0.toNat))))))) ?_
        refine r_on rfl rfl rfl rfl (decide_eq_true h7) rfl (PureD.opD (u_ld rfl rfl Tryd.underlying3 rfl rfl ((Sub.refl _).trans (GColumn.sub1 (lrd cols0 t10_0.toNat))))) ?_
        refine r_on rfl rfl rfl rfl (decide_eq_true h7) rfl (PureD.opD (p_ine rfl rfl rfl)) ?_
        refine rp rfl rfl (p_pkt rfl rfl (decide_eq_true h7) (tb ((and_l (p := (lrd cols0 t10_0.toNat).Kind ≠ (1 : Int)) (q := (lrd cols0 t10_0.toNat).Kind ≠ (2 : Int)) h7)))) ?_
        refine rp rfl rfl (p_move rfl rfl) ?_
        refine (Classical.em ((lrd cols0 t10_0.toNat).Kind ≠ (2 : Int))).elim (fun h8 => ?_) (fun h8 => ?_)
        ·refine r_on rfl rfl rfl rfl (decide_eq_true (p := ((lrd cols0 t10_0.toNat).Kind ≠ (1 : Int)) ∧ ((lrd cols0 t10_0.toNat).Kind ≠ (2 : Int))) ⟨h7, h8⟩) rfl (PureD.opD (u_fa rfl rfl Tryd.underlying68 rfl in_3 (Nat.succ_ne_zero _) rfl rfl (ne_of_lt (n := 0) (Nat.lt_of_lt_of_eq (by decide) (Eq.symm (GColumn.len (lrd cols0 t10_0.toNat))))))) ?_
         refine r_on rfl rfl rfl rfl (decide_eq_true (p := ((lrd cols0 t10_0.toNat).Kind ≠ (1 : Int)) ∧ ((lrd cols0 t10_0.toNat).Kind ≠ (2 : Int))) ⟨h7, h8⟩) rfl (PureD.opD (u_ld rfl rfl Tryd.underlying3 rfl rfl ((Sub.refl _).trans (GColumn.sub1 (lrd cols0 t10_0.toNat))))) ?_
         refine r_on rfl rfl rfl rfl (decide_eq_true (p := ((lrd cols0 t10_0.toNat).Kind ≠ (1 : Int)) ∧ ((lrd cols0 t10_0.toNat).Kind ≠ (2 : Int))) ⟨h7, h8⟩) rfl (PureD.opD (p_ine rfl rfl rfl)) ?_
         refine rp rfl rfl (p_pkt rfl rfl (decide_eq_true (p := ((lrd cols0 t10_0.toNat).Kind ≠ (1 : Int)) ∧ ((lrd cols0 t10_0.toNat).Kind ≠ (2 : Int))) ⟨h7, h8⟩) (tb ((and_l (p := ((lrd cols0 t10_0.toNat).Kind ≠ (1 : Int)) ∧ ((lrd cols0 t10_0.toNat).Kind ≠ (2 : Int))) (q := (lrd cols0 t10_0.toNat).Kind ≠ (3 : Int)) ⟨h7, h8⟩)))) ?_
         refine rp rfl rfl (p_move rfl rfl) ?_
         refine (Classical.em ((lrd cols0 t10_0.toNat).Kind ≠ (3 : Int))).elim (fun h9 => ?_) (fun h9 => ?_)
         ·refine r_on rfl rfl rfl rfl (decide_eq_true (p := (((lrd cols0 t10_0.toNat).Kind ≠ (1 : Int)) ∧ ((lrd cols0 t10_0.toNat).Kind ≠ (2 : Int))) ∧ ((lrd cols0 t10_0.toNat).Kind ≠ (3 : Int))) ⟨⟨h7, h8⟩, h9⟩) rfl (PureD.opD (u_fa rfl rfl Tryd.underlying68 rfl in_3 (Nat.succ_ne_zero _) rfl rfl (ne_of_lt (n := 0) (Nat.lt_of_lt_of_eq (by decide) (Eq.symm (GColumn.len (lrd cols0 t10_0.toNat))))))) ?_
          refine r_on rfl rfl rfl rfl (decide_eq_true (p := (((lrd cols0 t10_0.toNat).Kind ≠ (1 : Int)) ∧ ((lrd cols0 t10_0.toNat).Kind ≠ (2 : Int))) ∧ ((lrd cols0 t10_0.toNat).Kind ≠ (3 : Int))) ⟨⟨h7, h8⟩, h9⟩) rfl (PureD.opD (u_ld rfl rfl Tryd.underlying3 rfl rfl ((Sub.refl _).trans (GColumn.sub1 (lrd cols0 t10_0.toNat))))) ?_
          refine r_on rfl rfl rfl rfl (decide_eq_true (p := (((lrd cols0 t10_0.toNat).Kind ≠ (1 : Int)) ∧ ((lrd cols0 t10_0.toNat).Kind ≠ (2 : Int))) ∧ ((lrd cols0 t10_0.toNat).Kind ≠ (3 : Int))) ⟨⟨h7, h8⟩, h9⟩) rfl (PureD.opD (p_ine rfl rfl rfl)) ?_
          refine rp rfl rfl (p_pkt rfl rfl (decide_eq_true (p := (((lrd cols0 t10_0.toNat).Kind ≠ (1 : Int)) ∧ ((lrd cols0 t10_0.toNat).Kind ≠ (2 : Int))) ∧ ((lrd cols0 t10_0.toNat).Kind ≠ (3 : Int))) ⟨⟨h7, h8⟩, h9⟩) (tb ((and_l (p := (((lrd cols0 t10_0.toNat).Kind ≠ (1 : Int)) ∧ ((lrd cols0 t10_0.toNat).Kind ≠ (2 : Int))) ∧ ((lrd cols0 t10_0.toNat).Kind ≠ (3 : Int))) (q := (lrd cols0 t10_0.toNat).Kind ≠ (4 : Int)) ⟨⟨h7, h8⟩, h9⟩)))) ?_
          refine rp rfl rfl (p_asg rfl rfl) ?_
          refine rs [(0, .p ((fun q : List GColumn => AV.lst (q.flatMap GColumn.cs) q.length) cols0)), (3, .i t10_0), (4, .q 4 (0)), (8, .p ((fun q : List GColumn => AV.lst (q.flatMap GColumn.cs) q.length) cols0)), (9, .i (cols0.length : Int)), (10, .i t10_0), (26, .b (decide (((((lrd cols0 t10_0.toNat).Kind ≠ (1 : Int)) ∧ ((lrd cols0 t10_0.toNat).Kind ≠ (2 : Int))) ∧ ((lrd cols0 t10_0.toNat).Kind ≠ (3 : Int))) ∧ ((lrd cols0 t10_0.toNat).Kind ≠ (4 : Int)))))] [(4, .pure (GColumn.cs (lrd cols0 t10_0.toNat)))] rfl rfl rfl ?_
          exact RunW_nil rfl
         ·refine r_off rfl rfl rfl rfl (decide_eq_false (p := (((lrd cols0 t10_0.toNat).Kind ≠ (1 : Int)) ∧ ((lrd cols0 t10_0.toNat).Kind ≠ (2 : Int))) ∧ ((lrd cols0 t10_0.toNat).Kind ≠ (3 : Int))) (fun h => h9 h.2)) rfl rfl ?_
          refine r_off rfl rfl rfl rfl (decide_eq_false (p := (((lrd cols0 t10_0.toNat).Kind ≠ (1 : Int)) ∧ ((lrd cols0 t10_0.toNat).Kind ≠ (2 : Int))) ∧ ((lrd cols0 t10_0.toNat).Kind ≠ (3 : Int))) (fun h => h9 h.2)) rfl rfl ?_
          refine r_off rfl rfl rfl rfl (decide_eq_false (p := (((lrd cols0 t10_0.toNat).Kind ≠ (1 : Int)) ∧ ((lrd cols0 t10_0.toNat).Kind ≠ (2 : Int))) ∧ ((lrd cols0 t10_0.toNat).Kind ≠ (3 : Int))) (fun h => h9 h.2)) rfl rfl ?_
          refine rp rfl rfl (p_pkf rfl rfl (decide_eq_false (p := (((lrd cols0 t10_0.toNat).Kind ≠ (1 : Int)) ∧ ((lrd cols0 t10_0.toNat).Kind ≠ (2 : Int))) ∧ ((lrd cols0 t10_0.toNat).Kind ≠ (3 : Int))) (fun h => h9 h.2)) (tb (decide_eq_false (p := ((((lrd cols0 t10_0.toNat).Kind ≠ (1 : Int)) ∧ ((lrd cols0 t10_0.toNat).Kind ≠ (2 : Int))) ∧ ((lrd cols0 t10_0.toNat).Kind ≠ (3 : Int))) ∧ ((lrd cols0 t10_0.toNat).Kind ≠ (4 : Int))) (fun x => (fun h => h9 h.2) x.1)).symm)) ?_
          refine rp rfl rfl (p_asg rfl rfl) ?_
          refine rs [(0, .p ((fun q : List GColumn => AV.lst (q.flatMap GColumn.cs) q.length) cols0)), (3, .i t10_0), (4, .q 4 (0)), (8, .p ((fun q : List GColumn => AV.lst (q.flatMap GColumn.cs) q.length) cols0)), (9, .i (cols0.length : Int)), (10, .i t10_0), (26, .b (decide (((((lrd cols0 t10_0.toNat).Kind ≠ (1 : Int)) ∧ ((lrd cols0 t10_0.toNat).Kind ≠ (2 : Int))) ∧ ((lrd cols0 t10_0.toNat).Kind ≠ (3 : Int))) ∧ ((lrd cols0 t10_0.toNat).Kind ≠ (4 : Int)))))] [(4, .pure (GColumn.cs (lrd cols0 t10_0.toNat)))] rfl rfl rfl ?_
          exact RunW_nil rfl
        ·refine r_off rfl rfl rfl rfl (decide_eq_false (p := ((lrd cols0 t10_0.toNat).Kind ≠ (1 : Int)) ∧ ((lrd cols0 t10_0.toNat).Kind ≠ (2 : Int))) (fun h => h8 h.2)) rfl rfl ?_
         refine r_off rfl rfl rfl rfl (decide_eq_false (p := ((lrd cols0 t10_0.toNat).Kind ≠ (1 : Int)) ∧ ((lrd cols0 t10_0.toNat).Kind ≠ (2 : Int))) (fun h => h8 h.2)) rfl rfl ?_
         refine r_off rfl rfl rfl rfl (decide_eq_false (p := ((lrd cols0 t10_0.toNat).Kind ≠ (1 : Int)) ∧ ((lrd cols0 t10_0.toNat).Kind ≠ (2 : Int))) (fun h => h8 h.2)) rfl rfl ?_
         refine rp rfl rfl (p_pkf rfl rfl (decide_eq_false (p := ((lrd cols0 t10_0.toNat).Kind ≠ (1 : Int)) ∧ ((lrd cols0 t10_0.toNat).Kind ≠ (2 : Int))) (fun h => h8 h.2)) (tb (decide_eq_false (p := (((lrd cols0 t10_0.toNat).Kind ≠ (1 : Int)) ∧ ((lrd cols0 t10_0.toNat).Kind ≠ (2 : Int))) ∧ ((lrd cols0 t10_0.toNat).Kind ≠ (3 : Int))) (fun x => (fun h => h8 h.2) x.1)).symm)) ?_
         refine rp rfl rfl (p_move rfl rfl) ?_
         refine r_off rfl rfl rfl rfl (decide_eq_false (p := (((lrd cols0 t10_0.toNat).Kind ≠ (1 : Int)) ∧ ((lrd cols0 t10_0.toNat).Kind ≠ (2 : Int))) ∧ ((lrd cols0 t10_0.toNat).Kind ≠ (3 : Int))) (fun h => (fun h => h8 h.2) h.1)) rfl rfl ?_
         refine r_off rfl rfl rfl rfl (decide_eq_false (p := (((lrd cols0 t10_0.toNat).Kind ≠ (1 : Int)) ∧ ((lrd cols0 t10_0.toNat).Kind ≠ (2 : Int))) ∧ ((lrd cols0 t10_0.toNat).Kind ≠ (3 : Int))) (fun h => (fun h => h8 h.2) h.1)) rfl rfl ?_
         refine r_off rfl rfl rfl rfl (decide_eq_false (p := (((lrd cols0 t10_0.toNat).Kind ≠ (1 : Int)) ∧ ((lrd cols0 t10_0.toNat).Kind ≠ (2 : Int))) ∧ ((lrd cols0 t10_0.toNat).Kind ≠ (3 : Int))) (fun h => (fun h => h8 h.2) h.1)) rfl rfl ?_
         refine rp rfl rfl (p_pkf rfl rfl (decide_eq_false (p := (((lrd cols0 t10_0.toNat).Kind ≠ (1 : Int)) ∧ ((lrd cols0 t10_0.toNat).Kind ≠ (2 : Int))) ∧ ((lrd cols0 t10_0.toNat).Kind ≠ (3 : Int))) (fun h => (fun h => h8 h.2) h.1)) (tb (decide_eq_false (p := ((((lrd cols0 t10_0.toNat).Kind ≠ (1 : Int)) ∧ ((lrd cols0 t10_0.toNat).Kind ≠ (2 : Int))) ∧ ((lrd cols0 t10_0.toNat).Kind ≠ (3 : Int))) ∧ ((lrd cols0 t10_0.toNat).Kind ≠ (4 : Int))) (fun x => (fun h => (fun h => h8 h.2) h.1) x.1)).symm)) ?_
         refine rp rfl rfl (p_asg rfl rfl) ?_
         refine rs [(0, .p ((fun q : List GColumn => AV.lst (q.flatMap GColumn.cs) q.length) cols0)), (3, .i t10_0), (4, .q 4 (0)), (8, .p ((fun q : List GColumn => AV.lst (q.flatMap GColumn.cs) q.length) cols0)), (9, .i (cols0.length : Int)), (10, .i t10_0), (26, .b (decide (((((lrd cols0 t10_0.toNat).Kind ≠ (1 : Int)) ∧ ((lrd cols0 t10_0.toNat).Kind ≠ (2 : Int))) ∧ ((lrd cols0 t10_0.toNat).Kind ≠ (3 : Int))) ∧ ((lrd cols0 t10_0.toNat).Kind ≠ (4 : Int)))))] [(4, .pure (GColumn.cs (lrd cols0 t10_0.toNat)))] rfl rfl rfl ?_
         exact RunW_nil rfl
       ·refine r_off rfl rfl rfl rfl (decide_eq_false h7) rfl rfl ?_
        refine r_off rfl rfl rfl rfl (decide_eq_false h7) rfl rfl ?_
        refine r_off rfl rfl rfl rfl (decide_eq_false h7) rfl rfl ?_
        refine rp rfl rfl (p_pkf rfl rfl (decide_eq_false h7) (tb (decide_eq_false (p := ((lrd cols0 t10_0.toNat).Kind ≠ (1 : Int)) ∧ ((lrd cols0 t10_0.toNat).Kind ≠ (2 : Int))) (fun x => h7 x.1)).symm)) ?_
        refine rp rfl rfl (p_move rfl rfl) ?_
        refine r_off rfl rfl rfl rfl (decide_eq_false (p := ((lrd cols0 t10_0.toNat).Kind ≠ (1 : Int)) ∧ ((lrd cols0 t10_0.toNat).Kind ≠ (2 : Int))) (fun h => h7 h.1)) rfl rfl ?_
        refine r_off rfl rfl rfl rfl (decide_eq_false (p := ((lrd cols0 t10_0.toNat).Kind ≠ (1 : Int)) ∧ ((lrd cols0 t10_0.toNat).Kind ≠ (2 : Int))) (fun h => h7 h.1)) rfl rfl ?_
        refine r_off rfl rfl rfl rfl (decide_eq_false (p := ((lrd cols0 t10_0.toNat).Kind ≠ (1 : Int)) ∧ ((lrd cols0 t10_0.toNat).Kind ≠ (2 : Int))) (fun h => h7 h.1)) rfl rfl ?_
        refine rp rfl rfl (p_pkf rfl rfl (decide_eq_false (p := ((lrd cols0 t10_0.toNat).Kind ≠ (1 : Int)) ∧ ((lrd cols0 t10_0.toNat).Kind ≠ (2 : Int))) (fun h => h7 h.1)) (tb (decide_eq_false (p := (((lrd cols0 t10_0.toNat).Kind ≠ (1 : Int)) ∧ ((lrd cols0 t10_0.toNat).Kind ≠ (2 : Int))) ∧ ((lrd cols0 t10_0.toNat).Kind ≠ (3 : Int))) (fun x => (fun h => h7 h.1) x.1)).symm)) ?_
        refine rp rfl rfl (p_move rfl rfl) ?_
        refine r_off rfl rfl rfl rfl (decide_eq_false (p := (((lrd cols0 t10_0.toNat).Kind ≠ (1 : Int)) ∧ ((lrd cols0 t10_0.toNat).Kind ≠ (2 : Int))) ∧ ((lrd cols0 t10_0.toNat).Kind ≠ (3 : Int))) (fun h => (fun h => h7 h.1) h.1)) rfl rfl ?_
        refine r_off rfl rfl rfl rfl (decide_eq_false (p := (((lrd cols0 t10_0.toNat).Kind ≠ (1 : Int)) ∧ ((lrd cols0 t10_0.toNat).Kind ≠ (2 : Int))) ∧ ((lrd cols0 t10_0.toNat).Kind ≠ (3 : Int))) (fun h => (fun h => h7 h.1) h.1)) rfl rfl ?_
        refine r_off rfl rfl rfl rfl (decide_eq_false (p := (((lrd cols0 t10_0.toNat).Kind ≠ (1 : Int)) ∧ ((lrd cols0 t10_0.toNat).Kind ≠ (2 : Int))) ∧ ((lrd cols0 t10_0.toNat).Kind ≠ (3 : Int))) (fun h => (fun h => h7 h.1) h.1)) rfl rfl ?_
        refine rp rfl rfl (p_pkf rfl rfl (decide_eq_false (p := (((lrd cols0 t10_0.toNat).Kind ≠ (1 : Int)) ∧ ((lrd cols0 t10_0.toNat).Kind ≠ (2 : Int))) ∧ ((lrd cols0 t10_0.toNat).Kind ≠ (3 : Int))) (fun h => (fun h => h7 h.1) h.1)) (tb (decide_eq_false (p := ((((lrd cols0 t10_0.toNat).Kind ≠ (1 : Int)) ∧ ((lrd cols0 t10_0.toNat).Kind ≠ (2 : Int))) ∧ ((lrd cols0 t10_0.toNat).Kind ≠ (3 : Int))) ∧ ((lrd cols0 t10_0.toNat).Kind ≠ (4 : Int))) (fun x => (fun h => (fun h => h7 h.1) h.1) x.1)).symm)) ?_
        refine rp rfl rfl (p_asg rfl rfl) ?_
        refine rs [(0, .p ((fun q : List GColumn => AV.lst (q.flatMap GColumn.cs) q.length) cols0)), (3, .i t10_0), (4, .q 4 (0)), (8, .p ((fun q : List GColumn => AV.lst (q.flatMap GColumn.cs) q.length) cols0)), (9, .i (cols0.length : Int)), (10, .i t10_0), (26, .b (decide (((((lrd cols0 t10_0.toNat).Kind ≠ (1 : Int)) ∧ ((lrd cols0 t10_0.toNat).Kind ≠ (2 : Int))) ∧ ((lrd cols0 t10_0.toNat).Kind ≠ (3 : Int))) ∧ ((lrd cols0 t10_0.toNat).Kind ≠ (4 : Int)))))] [(4, .pure (GColumn.cs (lrd cols0 t10_0.toNat)))] rfl rfl rfl ?_
        exact RunW_nil rfl
      ·refine gen1 (fun t26'2 => (⟨[(0, .p ((fun q : List GColumn => AV.lst (q.flatMap GColumn.cs) q.length) cols0)), (3, .i t10_0), (4, .q 4 (0)), (8, .p ((fun q : List GColumn => AV.lst (q.flatMap GColumn.cs) q.length) cols0)), (9, .i (cols0.length : Int)), (10, .i t10_0), (26, .b t26'2)], [(4, .pure (GColumn.cs (lrd cols0 t10_0.toNat)))], 54⟩ : TS)) H ?_
       intro t26'2 H
       refine AW2_cond rfl (fun h10 => ?_) (fun h10 => ?_)
       ·replace H := ite_then h10 H
        refine sg [0] rfl ?_
        refine rp rfl rfl (p_asg rfl rfl) ?_
        refine rz [(2, .i (2 : Int))] [] rfl rfl rfl ?_
        refine AW2_ret ?_
        have hz := some_elim H
        subst hz
        exact ⟨rfl, ⟨res_tmp (.same _), trivial⟩, trivial⟩
       ·replace H := ite_else (ne_true h10) H
        refine AW2_seq ?_
        refine chkK H fun h11 H => ?_
        refine bindK H fun r'3 h12 H => ?_
        refine AW2_ghoQ ?_
        refine AW2_draw 5 [5, 6, 7] (fun k => ([.p ((fun q : List GColumn => AV.lst (q.flatMap GColumn.cs) q.length) cols0), .i t10_0, .p ((fun q : List GColumn => AV.lst (q.flatMap GColumn.cs) q.length) (cut cols0 (0 : Int) t10_0)), .q 4 (0 + 0), .t ((lrd cols0 t10_0.toNat).Name)] : List TV).getD k TV.any) (fun k => g_ref_ColumnsFault_r10.getD k []) [(0, none), (8, none), (9, none), (10, none), (48, some 2), (50, some 4)] [] (fun k => g_ref_ColumnsFault_r10c.getD k []) mixed (by kernel_rfl) rfl rfl (a_op (g_x rfl (x_p rfl (p_move rfl rfl) rfl)) (a_op (g_x rfl (x_p rfl (p_move rfl rfl) rfl)) (a_op (g_x rfl (x_p rfl (u_cutl (g := (fun l => l.flatMap GColumn.cs)) (a := (0 : Int)) (b := t10_0) rfl rfl Tryd.underlying35 in_68 rfl bT_zero (bT_i (Int.le_trans (show 0 ≤ (0 : Int) ∧ (0 : Int) ≤ t10_0 ∧ t10_0 ≤ (cols0.length : Int) from ⟨Int.le_refl _, h11.1, h11.2⟩).1 (show 0 ≤ (0 : Int) ∧ (0 : Int) ≤ t10_0 ∧ t10_0 ≤ (cols0.length : Int) from ⟨Int.le_refl _, h11.1, h11.2⟩).2.1) rfl) (.inl rfl) (show 0 ≤ (0 : Int) ∧ (0 : Int) ≤ t10_0 ∧ t10_0 ≤ (cols0.length : Int) from ⟨Int.le_refl _, h11.1, h11.2⟩) (g_fm (fun x => (GColumn.len x)))) rfl)) (a_op (g_x rfl (x_p rfl (u_fa rfl rfl Tryd.underlying68 rfl in_9 (Nat.succ_ne_zero _) rfl rfl (ne_of_lt (n := 0) (Nat.lt_of_lt_of_eq (by decide) (Eq.symm (GColumn.len (lrd cols0 t10_0.toNat)))))) rfl)) (a_op (g_x rfl (x_p rfl (u_ld rfl rfl Tryd.underlying9 rfl rfl ((Sub.refl _).trans (GColumn.sub0 (lrd cols0 t10_0.toNat)))) rfl)) (a_nil)))))) ?_
        refine t_op rfl rfl (PureD.opD (p_callp rfl rfl rfl Tryd.func41 rfl rfl (g_ref_columnAt_ac h12) ⟨rfl, rfl, trivial⟩)) ?_
        refine t_op rfl rfl (PureD.opD (p_bin rfl rfl rfl rfl)) ?_
        refine t_op rfl rfl (PureD.opD (p_asg rfl rfl)) ?_
        refine t_gho (Gho_st (L := [(0, .p ((fun q : List GColumn => AV.lst (q.flatMap GColumn.cs) q.length) cols0)), (8, .p ((fun q : List GColumn => AV.lst (q.flatMap GColumn.cs) q.length) cols0)), (9, .i (cols0.length : Int)), (10, .i t10_0), (45, .b (decide (r'3 ≥ (0 : Int))))]) (H := []) (N := 54) rfl ⟨TLes.same _, TLes.same _, TLes.same _, TLes.same _, TLes.same _, trivial⟩ trivial) ?_
        refine AW2_if (p := r'3 ≥ (0 : Int)) rfl (fun h13 => ?_) (fun h13 => ?_)
        ·replace H := ite_then h13 H
         refine sg [0] rfl ?_
         refine rp rfl rfl (p_asg rfl rfl) ?_
         refine rz [(2, .i (8 : Int))] [] rfl rfl rfl ?_
         refine AW2_ret ?_
         have hz := some_elim H
         subst hz
         exact ⟨rfl, ⟨res_tmp (.same _), trivial⟩, trivial⟩
        ·replace H := ite_else h13 H
         refine as2 [(0, .p ((fun q : List GColumn => AV.lst (q.flatMap GColumn.cs) q.length) cols0)), (8, .p ((fun q : List GColumn => AV.lst (q.flatMap GColumn.cs) q.length) cols0)), (9, .i (cols0.length : Int)), (10, .i t10_0)] [] rfl rfl rfl ?_
         refine AW2_skip ?_
         refine AW2_reg [0, 1] rfl ?_
         refine rp rfl rfl (p_bin rfl rfl rfl rfl) ?_
         refine rp rfl rfl (p_move rfl rfl) ?_
         refine rz [(0, .p ((fun q : List GColumn => AV.lst (q.flatMap GColumn.cs) q.length) cols0)), (8, .p ((fun q : List GColumn => AV.lst (q.flatMap GColumn.cs) q.length) cols0)), (9, .i (cols0.length : Int)), (10, .i (w64 (t10_0 + (1 : Int))))] [] rfl rfl rfl ?_
         have hz := some_elim H
         subst hz
         exact ⟨rfl, rfl⟩
   ·replace H := ite_else h2 H
    refine as2 [] [] rfl rfl rfl ?_
    refine AW2_exit ?_
    refine thenQ2_exit ?_
    have hz := some_elim H
    subst hz
    exact ⟨rfl, rfl⟩
  ·rcases o'7 with y'8 | y'9
   ·obtain ⟨rfl, hs⟩ := hs
    refine ⟨by simp, ?_⟩
    have hz := some_elim H
    subst hz
    exact ⟨hs.1, hs.2⟩
   ·obtain ⟨rfl, rfl⟩ := hs
    refine ⟨by simp, ?_⟩
    refine blockQ2_exit ?_
    refine sg [0] rfl ?_
    refine rp rfl rfl (p_asg rfl rfl) ?_
    refine rz [(2, .i (0 : Int))] [] rfl rfl rfl ?_
    refine AW2_ret ?_
    have hz := some_elim H
    subst hz
    exact ⟨⟨res_tmp (.same _), trivial⟩, trivial⟩

/-! chirographref.badReal -/
noncomputable def g_ref_badReal (b0 : UInt64) : Option (Bool) :=
  some (decide ((b0 = (9223372036854775808 : UInt64)) ∨ ((18437736874454810624 : UInt64) < shl_u64 b0 1)))
set_option maxHeartbeats 4000000 in
set_option maxRecDepth 100000 in
theorem g_ref_badReal_ac {b0 : UInt64} {r : Bool} (H : g_ref_badReal b0 = some r) : ACp Tryd.prog 35 [(AV.u64 b0)] (AV.bool r) := by
 refine ACp_of (AC2_of_body (vs := [.b r]) Tryd.func35 rfl rfl (Nat.le_of_ble_eq_true rfl) rfl ?_) (fun _ => .same _)
 unfold g_ref_badReal at H
 refine as2 [(0, .p (AV.u64 b0))] [] rfl rfl rfl ?_
 refine sg [0] rfl ?_
 refine rp rfl rfl (p_asg rfl rfl) ?_
 refine rz [(0, .p (AV.u64 b0))] [] rfl rfl rfl ?_
 refine AW2_seq ?_
 refine AW2_mid (⟨[(2, .b (decide ((b0 = (9223372036854775808 : UInt64)) ∨ ((18437736874454810624 : UInt64) < shl_u64 b0 1))))], [], 10⟩ : TS) ?_ ?_
 ·refine AW2_reg [0, 1, 2, 3, 4, 5, 6, 7] rfl ?_
  refine rp rfl rfl (p_move rfl rfl) ?_
  refine rp rfl rfl (p_u64eq (a := b0) (b := (9223372036854775808 : UInt64)) rfl rfl rfl) ?_
  refine rp rfl rfl (p_move rfl rfl) ?_
  refine (Classical.em (b0 = (9223372036854775808 : UInt64))).elim (fun h1 => ?_) (fun h1 => ?_)
  ·refine r_off rfl rfl rfl rfl (decide_eq_true h1) rfl rfl ?_
   refine r_off rfl rfl rfl rfl (decide_eq_true h1) rfl rfl ?_
   refine r_off rfl rfl rfl rfl (decide_eq_true h1) rfl rfl ?_
   refine rp rfl rfl (p_pkt rfl rfl (decide_eq_true h1) (tb (decide_eq_true (p := (b0 = (9223372036854775808 : UInt64)) ∨ ((18437736874454810624 : UInt64) < shl_u64 b0 1)) (Or.inl h1)).symm)) ?_
   refine rp rfl rfl (p_asg rfl rfl) ?_
   refine rs [(2, .b (decide ((b0 = (9223372036854775808 : UInt64)) ∨ ((18437736874454810624 : UInt64) < shl_u64 b0 1))))] [] rfl rfl rfl ?_
   exact RunW_nil rfl
  ·refine r_on rfl rfl rfl rfl (decide_eq_false h1) rfl (PureD.opD (p_move rfl rfl)) ?_
   refine r_on rfl rfl rfl rfl (decide_eq_false h1) rfl (PureD.opD (p_u64shl (n := 1) rfl rfl rfl rfl)) ?_
   refine r_on rfl rfl rfl rfl (decide_eq_false h1) rfl (PureD.opD (p_u64gt (a := shl_u64 b0 1) (b := (18437736874454810624 : UInt64)) rfl rfl rfl)) ?_
   refine rp rfl rfl (p_pkf rfl rfl (decide_eq_false h1) (tb ((or_l (p := b0 = (9223372036854775808 : UInt64)) (q := (18437736874454810624 : UInt64) < shl_u64 b0 1) h1)))) ?_
   refine rp rfl rfl (p_asg rfl rfl) ?_
   refine rs [(2, .b (decide ((b0 = (9223372036854775808 : UInt64)) ∨ ((18437736874454810624 : UInt64) < shl_u64 b0 1))))] [] rfl rfl rfl ?_
   exact RunW_nil rfl
 ·refine AW2_ret ?_
  have hz := some_elim H
  subst hz
  exact ⟨⟨res_tmp (.same _), trivial⟩, trivial⟩

/-! chirographref.ValueFault -/
noncomputable def g_ref_ValueFault (v0 : GValue) : Option (Int) :=
  (show Option (Int ⊕ GValue) from (if v0.Kind = (0 : Int) then some (.inr ({ GValue.zero with Kind := v0.Kind })) else ((if v0.Kind = (1 : Int) then some (decide (v0.Kind = (1 : Int))) else some (decide (v0.Kind = (2 : Int))))).bind fun j'2 => (if j'2 = true then some (.inr ({ { GValue.zero with Kind := v0.Kind } with Int_ := v0.Int_ })) else (if v0.Kind = (3 : Int) then some (.inr ({ { GValue.zero with Kind := v0.Kind } with Bits := v0.Bits })) else (if v0.Kind = (4 : Int) then some (.inr ({ { GValue.zero with Kind := v0.Kind } with Text := v0.Text })) else some (.inl (2 : Int))))))).bind fun o'12 => match o'12 with | .inl y'3 => some y'3 | .inr j'1 => (if (v0.Text.length : Int) > (40 : Int) then some (1 : Int) else ((if v0 ≠ j'1 then some true else (if v0.Kind = (1 : Int) then (if (1 : UInt64) < UInt64.ofInt v0.Int_ then some true else (if v0.Kind = (3 : Int) then (g_ref_badReal v0.Bits).bind fun r'5 => (if r'5 = true then some true else (g_utf8_ValidString v0.Text).bind fun r'6 => some (!r'6)) else (g_utf8_ValidString v0.Text).bind fun r'7 => some (!r'7))) else (if v0.Kind = (3 : Int) then (g_ref_badReal v0.Bits).bind fun r'8 => (if r'8 = true then some true else (g_utf8_ValidString v0.Text).bind fun r'9 => some (!r'9)) else (g_utf8_ValidString v0.Text).bind fun r'10 => some (!r'10))))).bind fun g'11 => (if g'11 = true then some (3 : Int) else some (0 : Int)))
set_option maxHeartbeats 4000000 in
set_option maxRecDepth 100000 in
theorem g_ref_ValueFault_ac {v0 : GValue} {r : Int} (H : g_ref_ValueFault v0 = some r) : ACp Tryd.prog 43 [(.agg (GValue.cs v0))] (AV.int r) := by
 refine ACp_of (AC2_of_body (vs := [.i r]) Tryd.func43 rfl rfl (Nat.le_of_ble_eq_true rfl) rfl ?_) (fun _ => .same _)
 unfold g_ref_ValueFault at H
 refine as2 [(0, .g (GValue.cs v0))] [] rfl rfl rfl ?_
 refine sg [0, 1] rfl ?_
 refine r_op rfl rfl (MakeD.opD (n_box 1 rfl rfl) rfl rfl rfl rfl) ?_
 refine rp rfl rfl (p_asg rfl rfl) ?_
 refine rz [(1, .q 1 (0))] [(1, .pure (GValue.cs v0))] rfl rfl rfl ?_
 refine sg [0, 1, 2, 3, 4] rfl ?_
 refine rp rfl rfl (u_fa rfl rfl Tryd.underlying29 rfl in_3 (Nat.succ_ne_zero _) rfl rfl (ne_of_lt (n := 0) (Nat.lt_of_lt_of_eq (by decide) (Eq.symm (GValue.len v0))))) ?_
 refine rp rfl rfl (u_ld rfl rfl Tryd.underlying3 rfl rfl ((Sub.refl _).trans (GValue.sub0 v0))) ?_
 refine rp rfl rfl (u_bld rfl in_29 one_29 zc_29 pl_29 rfl (af_cons rfl rfl (GValue.upd0 GValue.zero v0.Kind) rfl)) ?_
 refine r_op rfl rfl (MakeD.opD (u_alloc 3 rfl in_29 one_29 zc_29) rfl rfl rfl rfl) ?_
 refine r_op rfl rfl (u_st rfl rfl rfl rfl rfl in_29 (GValue.len ((GValue.w0 GValue.zero v0.Kind))) (ne_of_lt (n := 0) (Nat.lt_of_lt_of_eq (by decide) (Eq.symm (GValue.len GValue.zero)))) (Upd.refl ((GValue.len ((GValue.w0 GValue.zero v0.Kind))).trans (GValue.len GValue.zero).symm))) ?_
 refine rz [(1, .q 1 (0)), (3, .q 3 (0))] [(1, .pure (GValue.cs v0)), (3, .pure (GValue.cs ((GValue.w0 GValue.zero v0.Kind))))] rfl rfl rfl ?_
 refine AW2_seq ?_
 refine bindK H fun o'12 h1 H => ?_
 refine AW2_join (fun j'1 : GValue => (⟨[(1, .q 1 (0)), (3, .q 3 (0))], [(1, .pure (GValue.cs v0)), (3, .pure (GValue.cs j'1))], 61⟩ : TS)) (fun r e s' => e = Go.Exit.ret ∧ ResAll Tryd.prog s' [ResultVar.tmp 2] [.i r] ∧ HFits s' []) (x := o'12) ?_ (fun j'1 hy => ?_) (fun y'3 e s' hy hs => ?_)
 ·clear H
  have H := h1
  clear h1
  refine sg [0, 1] rfl ?_
  refine rp rfl rfl (u_fa rfl rfl Tryd.underlying29 rfl in_3 (Nat.succ_ne_zero _) rfl rfl (ne_of_lt (n := 0) (Nat.lt_of_lt_of_eq (by decide) (Eq.symm (GValue.len v0))))) ?_
  refine rp rfl rfl (u_ld rfl rfl Tryd.underlying3 rfl rfl ((Sub.refl _).trans (GValue.sub0 v0))) ?_
  refine rz [(1, .q 1 (0)), (3, .q 3 (0)), (8, .i v0.Kind)] [(1, .pure (GValue.cs v0)), (3, .pure (GValue.cs ((GValue.w0 GValue.zero v0.Kind))))] rfl rfl rfl ?_
  refine AW2_block ?_
  refine sg [0, 1] rfl ?_
  refine rp rfl rfl (p_ieq rfl rfl rfl) ?_
  refine rp rfl rfl (p_asg rfl rfl) ?_
  refine rz [(1, .q 1 (0)), (3, .q 3 (0)), (8, .i v0.Kind), (9, .b (decide (v0.Kind = (0 : Int))))] [(1, .pure (GValue.cs v0)), (3, .pure (GValue.cs ((GValue.w0 GValue.zero v0.Kind))))] rfl rfl rfl ?_
  refine AW2_if (p := v0.Kind = (0 : Int)) rfl (fun h2 => ?_) (fun h2 => ?_)
  ·replace H := ite_then h2 H
   refine as2 [(1, .q 1 (0)), (3, .q 3 (0))] [(1, .pure (GValue.cs v0)), (3, .pure (GValue.cs ((GValue.w0 GValue.zero v0.Kind))))] rfl rfl rfl ?_
   refine AW2_skip ?_
   have hz := some_elim H
   subst hz
   exact ⟨rfl, rfl⟩
  ·replace H := ite_else h2 H
   refine AW2_seq ?_
   refine bindK H fun j'2 h3 H => ?_
   refine AW2_mid (⟨[(1, .q 1 (0)), (3, .q 3 (0)), (8, .i v0.Kind), (11, .b j'2)], [(1, .pure (GValue.cs v0)), (3, .pure (GValue.cs ((GValue.w0 GValue.zero v0.Kind))))], 61⟩ : TS) ?_ ?_
   ·clear H
    have H := h3
    clear h3
    refine sg [0, 1] rfl ?_
    refine rp rfl rfl (p_ieq rfl rfl rfl) ?_
    refine rp rfl rfl (p_asg rfl rfl) ?_
    refine rz [(1, .q 1 (0)), (3, .q 3 (0)), (8, .i v0.Kind), (11, .b (decide (v0.Kind = (1 : Int))))] [(1, .pure (GValue.cs v0)), (3, .pure (GValue.cs ((GValue.w0 GValue.zero v0.Kind))))] rfl rfl rfl ?_
    refine AW2_if (p := v0.Kind = (1 : Int)) rfl (fun h4 => ?_) (fun h4 => ?_)
    ·replace H := ite_then h4 H
     refine AW2_skip ?_
     have hz := some_elim H
     subst hz
     exact rfl
    ·replace H := ite_else h4 H
     refine AW2_reg [0, 1] rfl ?_
     refine rp rfl rfl (p_ieq rfl rfl rfl) ?_
     refine rp rfl rfl (p_asg rfl rfl) ?_
     refine rz [(1, .q 1 (0)), (3, .q 3 (0)), (8, .i v0.Kind), (11, .b (decide (v0.Kind = (2 : Int))))] [(1, .pure (GValue.cs v0)), (3, .pure (GValue.cs ((GValue.w0 GValue.zero v0.Kind))))] rfl rfl rfl ?_
     have hz := some_elim H
     subst hz
     exact rfl
   ·refine AW2_cond rfl (fun h5 => ?_) (fun h5 => ?_)
    ·replace H := ite_then h5 H
     refine AW2_reg [0, 1, 2, 3] rfl ?_
     refine rp rfl rfl (u_fa rfl rfl Tryd.underlying29 rfl in_3 (Nat.succ_ne_zero _) rfl rfl (ne_of_lt (n := 0) (Nat.lt_of_lt_of_eq (by decide) (Eq.symm (GValue.len v0))))) ?_
     refine rp rfl rfl (u_ld rfl rfl Tryd.underlying3 rfl rfl ((Sub.refl _).trans (GValue.sub1 v0))) ?_
     refine rp rfl rfl (u_fa rfl rfl Tryd.underlying29 rfl in_3 (Nat.succ_ne_zero _) rfl rfl (ne_of_lt (n := 0) (Nat.lt_of_lt_of_eq (by decide) (Eq.symm (GValue.len ((GValue.w0 GValue.zero v0.Kind))))))) ?_
     refine r_op rfl rfl (u_st rfl rfl rfl rfl rfl in_3 rfl (ne_of_lt (n := 0) (Nat.lt_of_lt_of_eq (by decide) (Eq.symm (GValue.len ((GValue.w0 GValue.zero v0.Kind)))))) (Upd.trans (Sub.refl _) (GValue.upd1 ((GValue.w0 GValue.zero v0.Kind)) v0.Int_) (Upd.refl ((GValue.len ((GValue.w1 (GValue.w0 GValue.zero v0.Kind) v0.Int_))).trans (GValue.len ((GValue.w0 GValue.zero v0.Kind))).symm)))) ?_
     refine rz [(1, .q 1 (0)), (3, .q 3 (0))] [(1, .pure (GValue.cs v0)), (3, .pure (GValue.cs ((GValue.w1 (GValue.w0 GValue.zero v0.Kind) v0.Int_))))] rfl rfl rfl ?_
     have hz := some_elim H
     subst hz
     exact ⟨rfl, rfl⟩
    ·replace H := ite_else (ne_true h5) H
     refine sg [0, 1] rfl ?_
     refine rp rfl rfl (p_ieq rfl rfl rfl) ?_
     refine rp rfl rfl (p_asg rfl rfl) ?_
     refine rz [(1, .q 1 (0)), (3, .q 3 (0)), (8, .i v0.Kind), (17, .b (decide (v0.Kind = (3 : Int))))] [(1, .pure (GValue.cs v0)), (3, .pure (GValue.cs ((GValue.w0 GValue.zero v0.Kind))))] rfl rfl rfl ?_
     refine AW2_if (p := v0.Kind = (3 : Int)) rfl (fun h6 => ?_) (fun h6 => ?_)
     ·replace H := ite_then h6 H
      refine AW2_reg [0, 1, 2, 3] rfl ?_
      refine rp rfl rfl (u_fa rfl rfl Tryd.underlying29 rfl in_22 (Nat.succ_ne_zero _) rfl rfl (ne_of_lt (n := 0) (Nat.lt_of_lt_of_eq (by decide) (Eq.symm (GValue.len v0))))) ?_
      refine rp rfl rfl (u_ld rfl rfl Tryd.underlying22 rfl rfl ((Sub.refl _).trans (GValue.sub2 v0))) ?_
      refine rp rfl rfl (u_fa rfl rfl Tryd.underlying29 rfl in_22 (Nat.succ_ne_zero _) rfl rfl (ne_of_lt (n := 0) (Nat.lt_of_lt_of_eq (by decide) (Eq.symm (GValue.len ((GValue.w0 GValue.zero v0.Kind))))))) ?_
      refine r_op rfl rfl (u_st rfl rfl rfl rfl rfl in_22 rfl (ne_of_lt (n := 0) (Nat.lt_of_lt_of_eq (by decide) (Eq.symm (GValue.len ((GValue.w0 GValue.zero v0.Kind)))))) (Upd.trans (Sub.refl _) (GValue.upd2 ((GValue.w0 GValue.zero v0.Kind)) v0.Bits) (Upd.refl ((GValue.len ((GValue.w2 (GValue.w0 GValue.zero v0.Kind) v0.Bits))).trans (GValue.len ((GValue.w0 GValue.zero v0.Kind))).symm)))) ?_
      refine rz [(1, .q 1 (0)), (3, .q 3 (0))] [(1, .pure (GValue.cs v0)), (3, .pure (GValue.cs ((GValue.w2 (GValue.w0 GValue.zero v0.Kind) v0.Bits))))] rfl rfl rfl ?_
      have hz := some_elim H
      subst hz
      exact ⟨rfl, rfl⟩
     ·replace H := ite_else h6 H
      refine sg [0, 1] rfl ?_
      refine rp rfl rfl (p_ieq rfl rfl rfl) ?_
      refine rp rfl rfl (p_asg rfl rfl) ?_
      refine rz [(1, .q 1 (0)), (3, .q 3 (0)), (22, .b (decide (v0.Kind = (4 : Int))))] [(1, .pure (GValue.cs v0)), (3, .pure (GValue.cs ((GValue.w0 GValue.zero v0.Kind))))] rfl rfl rfl ?_
      refine AW2_if (p := v0.Kind = (4 : Int)) rfl (fun h7 => ?_) (fun h7 => ?_)
      ·replace H := ite_then h7 H
       refine AW2_reg [0, 1, 2, 3] rfl ?_
       refine rp rfl rfl (u_fa rfl rfl Tryd.underlying29 rfl in_9 (Nat.succ_ne_zero _) rfl rfl (ne_of_lt (n := 0) (Nat.lt_of_lt_of_eq (by decide) (Eq.symm (GValue.len v0))))) ?_
       refine rp rfl rfl (u_ld rfl rfl Tryd.underlying9 rfl rfl ((Sub.refl _).trans (GValue.sub3 v0))) ?_
       refine rp rfl rfl (u_fa rfl rfl Tryd.underlying29 rfl in_9 (Nat.succ_ne_zero _) rfl rfl (ne_of_lt (n := 0) (Nat.lt_of_lt_of_eq (by decide) (Eq.symm (GValue.len ((GValue.w0 GValue.zero v0.Kind))))))) ?_
       refine r_op rfl rfl (u_st rfl rfl rfl rfl rfl in_9 rfl (ne_of_lt (n := 0) (Nat.lt_of_lt_of_eq (by decide) (Eq.symm (GValue.len ((GValue.w0 GValue.zero v0.Kind)))))) (Upd.trans (Sub.refl _) (GValue.upd3 ((GValue.w0 GValue.zero v0.Kind)) v0.Text) (Upd.refl ((GValue.len ((GValue.w3 (GValue.w0 GValue.zero v0.Kind) v0.Text))).trans (GValue.len ((GValue.w0 GValue.zero v0.Kind))).symm)))) ?_
       refine rz [(1, .q 1 (0)), (3, .q 3 (0))] [(1, .pure (GValue.cs v0)), (3, .pure (GValue.cs ((GValue.w3 (GValue.w0 GValue.zero v0.Kind) v0.Text))))] rfl rfl rfl ?_
       have hz := some_elim H
       subst hz
       exact ⟨rfl, rfl⟩
      ·replace H := ite_else h7 H
       refine sg [0] rfl ?_
       refine rp rfl rfl (p_asg rfl rfl) ?_
       refine rz [(2, .i (2 : Int))] [] rfl rfl rfl ?_
       refine AW2_ret ?_
       have hz := some_elim H
       subst hz
       exact ⟨rfl, ⟨res_tmp (.same _), trivial⟩, trivial⟩
 ·subst hy
  refine AW2_seq ?_
  refine sg [0, 1, 2, 3] rfl ?_
  refine rp rfl rfl (u_fa rfl rfl Tryd.underlying29 rfl in_9 (Nat.succ_ne_zero _) rfl rfl (ne_of_lt (n := 0) (Nat.lt_of_lt_of_eq (by decide) (Eq.symm (GValue.len v0))))) ?_
  refine rp rfl rfl (u_ld rfl rfl Tryd.underlying9 rfl rfl ((Sub.refl _).trans (GValue.sub3 v0))) ?_
  refine rp rfl rfl (p_lent rfl Tryd.underlying9 rfl) ?_
  refine rp rfl rfl (p_bin rfl rfl rfl rfl) ?_
  refine rz [(1, .q 1 (0)), (3, .q 3 (0)), (30, .b (decide ((v0.Text.length : Int) > (40 : Int))))] [(1, .pure (GValue.cs v0)), (3, .pure (GValue.cs j'1))] rfl rfl rfl ?_
  refine AW2_if (p := (v0.Text.length : Int) > (40 : Int)) rfl (fun h8 => ?_) (fun h8 => ?_)
  ·replace H := ite_then h8 H
   refine sg [0] rfl ?_
   refine rp rfl rfl (p_asg rfl rfl) ?_
   refine rz [(2, .i (1 : Int))] [] rfl rfl rfl ?_
   refine AW2_ret ?_
   have hz := some_elim H
   subst hz
   exact ⟨⟨res_tmp (.same _), trivial⟩, trivial⟩
  ·replace H := ite_else h8 H
   refine as2 [(1, .q 1 (0)), (3, .q 3 (0))] [(1, .pure (GValue.cs v0)), (3, .pure (GValue.cs j'1))] rfl rfl rfl ?_
   refine AW2_skip ?_
   refine AW2_seq ?_
   refine AW2_seq ?_
   refine bindK H fun g'11 h23 H => ?_
   refine AW2_mid (⟨[(60, .b g'11)], [], 61⟩ : TS) ?_ ?_
   ·clear H
    have H := h23
    clear h23
    refine AW2_reg [0, 1, 2, 3, 4, 5, 6, 7, 8, 9, 10, 11, 12, 13, 14, 15, 16, 17, 18, 19, 20, 21, 22, 23, 24, 25, 26, 27, 28, 29] rfl ?_
    refine rp rfl rfl (u_lda rfl rfl Tryd.underlying29 rfl in_29 rfl (Nat.succ_pos _) (Sub.refl _) (GValue.len v0)) ?_
    refine rp rfl rfl (u_lda rfl rfl Tryd.underlying29 rfl in_29 rfl (Nat.succ_pos _) (Sub.refl _) (GValue.len j'1)) ?_
    refine rp rfl rfl (p_nea (a := v0) (b := j'1) rfl eq_29 rfl (by kernel_rfl) rfl rfl) ?_
    refine rp rfl rfl (p_move rfl rfl) ?_
    refine (Classical.em (v0 ≠ j'1)).elim (fun h10 => ?_) (fun h10 => ?_)
    ·replace H := ite_then h10 H
     refine r_off rfl rfl rfl rfl (decide_eq_true h10) rfl rfl ?_
     refine r_off rfl rfl rfl rfl (decide_eq_true h10) rfl rfl ?_
     refine r_off rfl rfl rfl rfl (decide_eq_true h10) rfl rfl ?_
     refine r_off rfl rfl rfl rfl (decide_eq_true h10) rfl rfl ?_
     refine r_off2 rfl rfl rfl rfl rfl rfl ?_
     refine r_off2 rfl rfl rfl rfl rfl rfl ?_
     refine r_off2 rfl rfl rfl rfl rfl rfl ?_
     refine r_off2 rfl rfl rfl rfl rfl rfl ?_
     refine r_off rfl rfl rfl rfl (decide_eq_true h10) rfl rfl ?_
     refine rp rfl rfl (p_pkt rfl rfl (decide_eq_true h10) (.same _)) ?_
     refine rp rfl rfl (p_move rfl rfl) ?_
     refine r_off rfl rfl rfl rfl rfl rfl rfl ?_
     refine r_off rfl rfl rfl rfl rfl rfl rfl ?_
     refine r_off rfl rfl rfl rfl rfl rfl rfl ?_
     refine r_off rfl rfl rfl rfl rfl rfl rfl ?_
     refine r_off2 rfl rfl rfl rfl rfl rfl ?_
     refine r_off2 rfl rfl rfl rfl rfl rfl ?_
     refine r_off2 rfl rfl rfl rfl rfl rfl ?_
     refine r_off rfl rfl rfl rfl rfl rfl rfl ?_
     refine rp rfl rfl (p_pkt rfl rfl rfl (.same _)) ?_
     refine rp rfl rfl (p_move rfl rfl) ?_
     refine r_off rfl rfl rfl rfl rfl rfl rfl ?_
     refine r_off rfl rfl rfl rfl rfl rfl rfl ?_
     refine r_off rfl rfl rfl rfl rfl rfl rfl ?_
     refine r_off rfl rfl rfl rfl rfl rfl rfl ?_
     refine rp rfl rfl (p_pkt rfl rfl rfl (.same _)) ?_
     refine rs [(60, .b true)] [] rfl rfl rfl ?_
     have hz := some_elim H
     subst hz
     exact RunW_nil rfl
    ·replace H := ite_else h10 H
     refine r_on rfl rfl rfl rfl (decide_eq_false h10) rfl (PureD.opD (u_fa rfl rfl Tryd.underlying29 rfl in_3 (Nat.succ_ne_zero _) rfl rfl (ne_of_lt (n := 0) (Nat.lt_of_lt_of_eq (by decide) (Eq.symm (GValue.len v0)))))) ?_
     refine r_on rfl rfl rfl rfl (decide_eq_false h10) rfl (PureD.opD (u_ld rfl rfl Tryd.underlying3 rfl rfl ((Sub.refl _).trans (GValue.sub0 v0)))) ?_
     refine r_on rfl rfl rfl rfl (decide_eq_false h10) rfl (PureD.opD (p_ieq rfl rfl rfl)) ?_
     refine r_on rfl rfl rfl rfl (decide_eq_false h10) rfl (PureD.opD (p_move rfl rfl)) ?_
     refine (Classical.em (v0.Kind = (1 : Int))).elim (fun h11 => ?_) (fun h11 => ?_)
     ·replace H := ite_then h11 H
      refine r_on rfl rfl rfl rfl (decide_eq_true h11) rfl (PureD.opD (u_fa rfl rfl Tryd.underlying29 rfl in_3 (Nat.succ_ne_zero _) rfl rfl (ne_of_lt (n := 0) (Nat.lt_of_lt_of_eq (by decide) (Eq.symm (GValue.len v0)))))) ?_
      refine r_on rfl rfl rfl rfl (decide_eq_true h11) rfl (PureD.opD (u_ld rfl rfl Tryd.underlying3 rfl rfl ((Sub.refl _).trans (GValue.sub1 v0)))) ?_
      refine r_on rfl rfl rfl rfl (decide_eq_true h11) rfl (PureD.opD (p_i_u64 rfl Tryd.underlying3 Tryd.underlying82 rfl)) ?_
      refine r_on rfl rfl rfl rfl (decide_eq_true h11) rfl (PureD.opD (p_u64gt (a := UInt64.ofInt v0.Int_) (b := (1 : UInt64)) rfl rfl rfl)) ?_
      refine r_on rfl rfl rfl rfl (decide_eq_false h10) rfl (PureD.opD (p_pkt rfl rfl (decide_eq_true h11) (.same _))) ?_
      refine rp rfl rfl (p_pkf rfl rfl (decide_eq_false h10) (.same _)) ?_
      refine rp rfl rfl (p_move rfl rfl) ?_
      refine (Classical.em ((1 : UInt64) < UInt64.ofInt v0.Int_)).elim (fun h12 => ?_) (fun h12 => ?_)
      ·replace H := ite_then h12 H
       refine r_off rfl rfl rfl rfl (decide_eq_true h12) rfl rfl ?_
       refine r_off rfl rfl rfl rfl (decide_eq_true h12) rfl rfl ?_
       refine r_off rfl rfl rfl rfl (decide_eq_true h12) rfl rfl ?_
       refine r_off rfl rfl rfl rfl (decide_eq_true h12) rfl rfl ?_
       refine r_off2 rfl rfl rfl rfl rfl rfl ?_
       refine r_off2 rfl rfl rfl rfl rfl rfl ?_
       refine r_off2 rfl rfl rfl rfl rfl rfl ?_
       refine r_off rfl rfl rfl rfl (decide_eq_true h12) rfl rfl ?_
       refine rp rfl rfl (p_pkt rfl rfl (decide_eq_true h12) (.same _)) ?_
       refine rp rfl rfl (p_move rfl rfl) ?_
       refine r_off rfl rfl rfl rfl rfl rfl rfl ?_
       refine r_off rfl rfl rfl rfl rfl rfl rfl ?_
       refine r_off rfl rfl rfl rfl rfl rfl rfl ?_
       refine r_off rfl rfl rfl rfl rfl rfl rfl ?_
       refine rp rfl rfl (p_pkt rfl rfl rfl (.same _)) ?_
       refine rs [(60, .b true)] [] rfl rfl rfl ?_
       have hz := some_elim H
       subst hz
       exact RunW_nil rfl
      ·replace H := ite_else h12 H
       refine r_on rfl rfl rfl rfl (decide_eq_false h12) rfl (PureD.opD (u_fa rfl rfl Tryd.underlying29 rfl in_3 (Nat.succ_ne_zero _) rfl rfl (ne_of_lt (n := 0) (Nat.lt_of_lt_of_eq (by decide) (Eq.symm (GValue.len v0)))))) ?_
       refine r_on rfl rfl rfl rfl (decide_eq_false h12) rfl (PureD.opD (u_ld rfl rfl Tryd.underlying3 rfl rfl ((Sub.refl _).trans (GValue.sub0 v0)))) ?_
       refine r_on rfl rfl rfl rfl (decide_eq_false h12) rfl (PureD.opD (p_ieq rfl rfl rfl)) ?_
       refine r_on rfl rfl rfl rfl (decide_eq_false h12) rfl (PureD.opD (p_move rfl rfl)) ?_
       refine (Classical.em (v0.Kind = (3 : Int))).elim (fun h13 => ?_) (fun h13 => ?_)
       ·replace H := ite_then h13 H
        refine r_on rfl rfl rfl rfl (decide_eq_true h13) rfl (PureD.opD (u_fa rfl rfl Tryd.underlying29 rfl in_22 (Nat.succ_ne_zero _) rfl rfl (ne_of_lt (n := 0) (Nat.lt_of_lt_of_eq (by decide) (Eq.symm (GValue.len v0)))))) ?_
        refine r_on rfl rfl rfl rfl (decide_eq_true h13) rfl (PureD.opD (u_ld rfl rfl Tryd.underlying22 rfl rfl ((Sub.refl _).trans (GValue.sub2 v0)))) ?_
        refine bindK H fun r'5 h14 H => ?_
        refine r_on rfl rfl rfl rfl (decide_eq_true h13) rfl (PureD.opD (p_callp rfl rfl rfl Tryd.func35 rfl rfl (g_ref_badReal_ac h14) ⟨rfl, trivial⟩)) ?_
        refine r_on rfl rfl rfl rfl (decide_eq_false h12) rfl (PureD.opD (p_pkt rfl rfl (decide_eq_true h13) (.same _))) ?_
        refine rp rfl rfl (p_pkf rfl rfl (decide_eq_false h12) (.same _)) ?_
        refine rp rfl rfl (p_move rfl rfl) ?_
        refine (Classical.em (r'5 = true)).elim (fun h15 => ?_) (fun h15 => ?_)
        ·replace H := ite_then h15 H
         refine r_off rfl rfl rfl rfl h15 rfl rfl ?_
         refine r_off rfl rfl rfl rfl h15 rfl rfl ?_
         refine r_off rfl rfl rfl rfl h15 rfl rfl ?_
         refine r_off rfl rfl rfl rfl h15 rfl rfl ?_
         refine rp rfl rfl (p_pkt rfl rfl h15 (.same _)) ?_
         refine rs [(60, .b true)] [] rfl rfl rfl ?_
         have hz := some_elim H
         subst hz
         exact RunW_nil rfl
        ·replace H := ite_else h15 H
         refine r_on rfl rfl rfl rfl (bfalse h15) rfl (PureD.opD (u_fa rfl rfl Tryd.underlying29 rfl in_9 (Nat.succ_ne_zero _) rfl rfl (ne_of_lt (n := 0) (Nat.lt_of_lt_of_eq (by decide) (Eq.symm (GValue.len v0)))))) ?_
         refine r_on rfl rfl rfl rfl (bfalse h15) rfl (PureD.opD (u_ld rfl rfl Tryd.underlying9 rfl rfl ((Sub.refl _).trans (GValue.sub3 v0)))) ?_
         refine bindK H fun r'6 h16 H => ?_
         refine r_on rfl rfl rfl rfl (bfalse h15) rfl (PureD.opD (p_callp rfl rfl rfl Tryd.func30 rfl rfl (g_utf8_ValidString_ac h16) ⟨rfl, trivial⟩)) ?_
         refine r_on rfl rfl rfl rfl (bfalse h15) rfl (PureD.opD (p_not rfl rfl)) ?_
         refine rp rfl rfl (p_pkf rfl rfl (bfalse h15) (.same _)) ?_
         refine rs [(60, .b (!r'6))] [] rfl rfl rfl ?_
         have hz := some_elim H
         subst hz
         exact RunW_nil rfl
       ·replace H := ite_else h13 H
        refine r_off rfl rfl rfl rfl (decide_eq_false h13) rfl rfl ?_
        refine r_off rfl rfl rfl rfl (decide_eq_false h13) rfl rfl ?_
        refine r_off rfl rfl rfl rfl (decide_eq_false h13) rfl rfl ?_
        refine r_on rfl rfl rfl rfl (decide_eq_false h12) rfl (PureD.opD (p_pkf rfl rfl (decide_eq_false h13) (.same _))) ?_
        refine rp rfl rfl (p_pkf rfl rfl (decide_eq_false h12) (.same _)) ?_
        refine rp rfl rfl (p_move rfl rfl) ?_
        refine r_on rfl rfl rfl rfl (bfalse (by decide)) rfl (PureD.opD (u_fa rfl rfl Tryd.underlying29 rfl in_9 (Nat.succ_ne_zero _) rfl rfl (ne_of_lt (n := 0) (Nat.lt_of_lt_of_eq (by decide) (Eq.symm (GValue.len v0)))))) ?_
        refine r_on rfl rfl rfl rfl (bfalse (by decide)) rfl (PureD.opD (u_ld rfl rfl Tryd.underlying9 rfl rfl ((Sub.refl _).trans (GValue.sub3 v0)))) ?_
        refine bindK H fun r'7 h17 H => ?_
        refine r_on rfl rfl rfl rfl (bfalse (by decide)) rfl (PureD.opD (p_callp rfl rfl rfl Tryd.func30 rfl rfl (g_utf8_ValidString_ac h17) ⟨rfl, trivial⟩)) ?_
        refine r_on rfl rfl rfl rfl (bfalse (by decide)) rfl (PureD.opD (p_not rfl rfl)) ?_
        refine rp rfl rfl (p_pkf rfl rfl (bfalse (by decide)) (.same _)) ?_
        refine rs [(60, .b (!r'7))] [] rfl rfl rfl ?_
        have hz := some_elim H
        subst hz
        exact RunW_nil rfl
     ·replace H := ite_else h11 H
      refine r_off rfl rfl rfl rfl (decide_eq_false h11) rfl rfl ?_
      refine r_off rfl rfl rfl rfl (decide_eq_false h11) rfl rfl ?_
      refine r_off rfl rfl rfl rfl (decide_eq_false h11) rfl rfl ?_
      refine r_off rfl rfl rfl rfl (decide_eq_false h11) rfl rfl ?_
      refine r_on rfl rfl rfl rfl (decide_eq_false h10) rfl (PureD.opD (p_pkf rfl rfl (decide_eq_false h11) (.same _))) ?_
      refine rp rfl rfl (p_pkf rfl rfl (decide_eq_false h10) (.same _)) ?_
      refine rp rfl rfl (p_move rfl rfl) ?_
      refine r_on rfl rfl rfl rfl (bfalse (by decide)) rfl (PureD.opD (u_fa rfl rfl Tryd.underlying29 rfl in_3 (Nat.succ_ne_zero _) rfl rfl (ne_of_lt (n := 0) (Nat.lt_of_lt_of_eq (by decide) (Eq.symm (GValue.len v0)))))) ?_
      refine r_on rfl rfl rfl rfl (bfalse (by decide)) rfl (PureD.opD (u_ld rfl rfl Tryd.underlying3 rfl rfl ((Sub.refl _).trans (GValue.sub0 v0)))) ?_
      refine r_on rfl rfl rfl rfl (bfalse (by decide)) rfl (PureD.opD (p_ieq rfl rfl rfl)) ?_
      refine r_on rfl rfl rfl rfl (bfalse (by decide)) rfl (PureD.opD (p_move rfl rfl)) ?_
      refine (Classical.em (v0.Kind = (3 : Int))).elim (fun h18 => ?_) (fun h18 => ?_)
      ·replace H := ite_then h18 H
       refine r_on rfl rfl rfl rfl (decide_eq_true h18) rfl (PureD.opD (u_fa rfl rfl Tryd.underlying29 rfl in_22 (Nat.succ_ne_zero _) rfl rfl (ne_of_lt (n := 0) (Nat.lt_of_lt_of_eq (by decide) (Eq.symm (GValue.len v0)))))) ?_
       refine r_on rfl rfl rfl rfl (decide_eq_true h18) rfl (PureD.opD (u_ld rfl rfl Tryd.underlying22 rfl rfl ((Sub.refl _).trans (GValue.sub2 v0)))) ?_
       refine bindK H fun r'8 h19 H => ?_
       refine r_on rfl rfl rfl rfl (decide_eq_true h18) rfl (PureD.opD (p_callp rfl rfl rfl Tryd.func35 rfl rfl (g_ref_badReal_ac h19) ⟨rfl, trivial⟩)) ?_
       refine r_on rfl rfl rfl rfl (bfalse (by decide)) rfl (PureD.opD (p_pkt rfl rfl (decide_eq_true h18) (.same _))) ?_
       refine rp rfl rfl (p_pkf rfl rfl (bfalse (by decide)) (.same _)) ?_
       refine rp rfl rfl (p_move rfl rfl) ?_
       refine (Classical.em (r'8 = true)).elim (fun h20 => ?_) (fun h20 => ?_)
       ·replace H := ite_then h20 H
        refine r_off rfl rfl rfl rfl h20 rfl rfl ?_
        refine r_off rfl rfl rfl rfl h20 rfl rfl ?_
        refine r_off rfl rfl rfl rfl h20 rfl rfl ?_
        refine r_off rfl rfl rfl rfl h20 rfl rfl ?_
        refine rp rfl rfl (p_pkt rfl rfl h20 (.same _)) ?_
        refine rs [(60, .b true)] [] rfl rfl rfl ?_
        have hz := some_elim H
        subst hz
        exact RunW_nil rfl
       ·replace H := ite_else h20 H
        refine r_on rfl rfl rfl rfl (bfalse h20) rfl (PureD.opD (u_fa rfl rfl Tryd.underlying29 rfl in_9 (Nat.succ_ne_zero _) rfl rfl (ne_of_lt (n := 0) (Nat.lt_of_lt_of_eq (by decide) (Eq.symm (GValue.len v0)))))) ?_
        refine r_on rfl rfl rfl rfl (bfalse h20) rfl (PureD.opD (u_ld rfl rfl Tryd.underlying9 rfl rfl ((Sub.refl _).trans (GValue.sub3 v0)))) ?_
        refine bindK H fun r'9 h21 H => ?_
        refine r_on rfl rfl rfl rfl (bfalse h20) rfl (PureD.opD (p_callp rfl rfl rfl Tryd.func30 rfl rfl (g_utf8_ValidString_ac h21) ⟨rfl, trivial⟩)) ?_
        refine r_on rfl rfl rfl rfl (bfalse h20) rfl (PureD.opD (p_not rfl rfl)) ?_
        refine rp rfl rfl (p_pkf rfl rfl (bfalse h20) (.same _)) ?_
        refine rs [(60, .b (!r'9))] [] rfl rfl rfl ?_
        have hz := some_elim H
        subst hz
        exact RunW_nil rfl
      ·replace H := ite_else h18 H
       refine r_off rfl rfl rfl rfl (decide_eq_false h18) rfl rfl ?_
       refine r_off rfl rfl rfl rfl (decide_eq_false h18) rfl rfl ?_
       refine r_off rfl rfl rfl rfl (decide_eq_false h18) rfl rfl ?_
       refine r_on rfl rfl rfl rfl (bfalse (by decide)) rfl (PureD.opD (p_pkf rfl rfl (decide_eq_false h18) (.same _))) ?_
       refine rp rfl rfl (p_pkf rfl rfl (bfalse (by decide)) (.same _)) ?_
       refine rp rfl rfl (p_move rfl rfl) ?_
       refine r_on rfl rfl rfl rfl (bfalse (by decide)) rfl (PureD.opD (u_fa rfl rfl Tryd.underlying29 rfl in_9 (Nat.succ_ne_zero _) rfl rfl (ne_of_lt (n := 0) (Nat.lt_of_lt_of_eq (by decide) (Eq.symm (GValue.len v0)))))) ?_
       refine r_on rfl rfl rfl rfl (bfalse (by decide)) rfl (PureD.opD (u_ld rfl rfl Tryd.underlying9 rfl rfl ((Sub.refl _).trans (GValue.sub3 v0)))) ?_
       refine bindK H fun r'10 h22 H => ?_
       refine r_on rfl rfl rfl rfl (bfalse (by decide)) rfl (PureD.opD (p_callp rfl rfl rfl Tryd.func30 rfl rfl (g_utf8_ValidString_ac h22) ⟨rfl, trivial⟩)) ?_
       refine r_on rfl rfl rfl rfl (bfalse (by decide)) rfl (PureD.opD (p_not rfl rfl)) ?_
       refine rp rfl rfl (p_pkf rfl rfl (bfalse (by decide)) (.same _)) ?_
       refine rs [(60, .b (!r'10))] [] rfl rfl rfl ?_
       have hz := some_elim H
       subst hz
       exact RunW_nil rfl
   ·refine AW2_cond rfl (fun h24 => ?_) (fun h24 => ?_)
    ·replace H := ite_then h24 H
     refine sg [0] rfl ?_
     refine rp rfl rfl (p_asg rfl rfl) ?_
     refine rz [(2, .i (3 : Int))] [] rfl rfl rfl ?_
     refine AW2_ret ?_
     have hz := some_elim H
     subst hz
     exact ⟨⟨res_tmp (.same _), trivial⟩, trivial⟩
    ·replace H := ite_else (ne_true h24) H
     refine as2 [] [] rfl rfl rfl ?_
     refine AW2_skip ?_
     refine sg [0] rfl ?_
     refine rp rfl rfl (p_asg rfl rfl) ?_
     refine rz [(2, .i (0 : Int))] [] rfl rfl rfl ?_
     refine AW2_ret ?_
     have hz := some_elim H
     subst hz
     exact ⟨⟨res_tmp (.same _), trivial⟩, trivial⟩
 ·subst hy
  obtain ⟨rfl, hs⟩ := hs
  have hz := some_elim H
  subst hz
  exact ⟨hs.1, hs.2⟩
end Go.Proofs.YtalnmpfjgiecdaaDoor.VM
