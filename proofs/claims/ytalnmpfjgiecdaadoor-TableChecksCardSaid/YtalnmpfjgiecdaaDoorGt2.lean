/- Functions of the program, as they answer, and that their code comes to these answers. -/
import Derived.Test.YtalnmpfjgiecdaaDoorGt1
namespace Go.Proofs.YtalnmpfjgiecdaaDoor.VM
open Go Go.RowKit

structure GCell where
  Full : Bool
  Row : List GValue
deriving DecidableEq, Inhabited
def GCell.zero : GCell := ⟨false, []⟩
def GCell.cs (x : GCell) : List AV := ([(AV.bool x.Full)]) ++ ([((fun q : List GValue => AV.lst (q.flatMap GValue.cs) q.length) x.Row)])
theorem GCell.len (x : GCell) : (GCell.cs x).length = 2 := by
  simp only [GCell.cs, List.length_append]
  rw [show ([(AV.bool x.Full)]).length = 1 from (show ([(AV.bool x.Full)]).length = 1 from rfl), show ([((fun q : List GValue => AV.lst (q.flatMap GValue.cs) q.length) x.Row)]).length = 1 from (show ([((fun q : List GValue => AV.lst (q.flatMap GValue.cs) q.length) x.Row)]).length = 1 from rfl)]
theorem GCell.sub0 (x : GCell) : Sub (GCell.cs x) 0 ([(AV.bool x.Full)]) := Sub.head _ _
theorem GCell.upd0 (x : GCell) (y : Bool) : Upd (GCell.cs x) 0 ([(AV.bool y)]) (GCell.cs { x with Full := y }) := Upd.head (show ([(AV.bool y)]).length = ([(AV.bool x.Full)]).length from rfl)
theorem GCell.sub1 (x : GCell) : Sub (GCell.cs x) 1 ([((fun q : List GValue => AV.lst (q.flatMap GValue.cs) q.length) x.Row)]) := Sub.skip (k := 1) (show ([(AV.bool x.Full)]).length = 1 from rfl) (Sub.refl _)
theorem GCell.upd1 (x : GCell) (y : List GValue) : Upd (GCell.cs x) 1 ([((fun q : List GValue => AV.lst (q.flatMap GValue.cs) q.length) y)]) (GCell.cs { x with Row := y }) := Upd.skip (k := 1) (show ([(AV.bool x.Full)]).length = 1 from rfl) (Upd.refl (show ([((fun q : List GValue => AV.lst (q.flatMap GValue.cs) q.length) y)]).length = ([((fun q : List GValue => AV.lst (q.flatMap GValue.cs) q.length) x.Row)]).length from rfl))
structure GTable where
  There : Bool
  Name : List UInt8
  Cols : List GColumn
  Drawers : Vector (Vector GCell 4) 2
deriving DecidableEq, Inhabited
def GTable.zero : GTable := ⟨false, [], [], (Vector.replicate 2 (Vector.replicate 4 GCell.zero))⟩
def GTable.cs (x : GTable) : List AV := ([(AV.bool x.There)]) ++ (([(AV.txt x.Name)]) ++ (([((fun q : List GColumn => AV.lst (q.flatMap GColumn.cs) q.length) x.Cols)]) ++ (x.Drawers.toList.flatMap (fun v : Vector GCell 4 => v.toList.flatMap GCell.cs))))
theorem GTable.len (x : GTable) : (GTable.cs x).length = 19 := by
  simp only [GTable.cs, List.length_append]
  rw [show ([(AV.bool x.There)]).length = 1 from (show ([(AV.bool x.There)]).length = 1 from rfl), show ([(AV.txt x.Name)]).length = 1 from (show ([(AV.txt x.Name)]).length = 1 from rfl), show ([((fun q : List GColumn => AV.lst (q.flatMap GColumn.cs) q.length) x.Cols)]).length = 1 from (show ([((fun q : List GColumn => AV.lst (q.flatMap GColumn.cs) q.length) x.Cols)]).length = 1 from rfl), show (x.Drawers.toList.flatMap (fun v : Vector GCell 4 => v.toList.flatMap GCell.cs)).length = 16 from (vfm_len (fun x => (vfm_len (fun x => (GCell.len x)) x)) x.Drawers)]
theorem GTable.sub0 (x : GTable) : Sub (GTable.cs x) 0 ([(AV.bool x.There)]) := Sub.head _ _
theorem GTable.upd0 (x : GTable) (y : Bool) : Upd (GTable.cs x) 0 ([(AV.bool y)]) (GTable.cs { x with There := y }) := Upd.head (show ([(AV.bool y)]).length = ([(AV.bool x.There)]).length from rfl)
theorem GTable.sub1 (x : GTable) : Sub (GTable.cs x) 1 ([(AV.txt x.Name)]) := Sub.skip (k := 1) (show ([(AV.bool x.There)]).length = 1 from rfl) (Sub.head _ _)
theorem GTable.upd1 (x : GTable) (y : List UInt8) : Upd (GTable.cs x) 1 ([(AV.txt y)]) (GTable.cs { x with Name := y }) := Upd.skip (k := 1) (show ([(AV.bool x.There)]).length = 1 from rfl) (Upd.head (show ([(AV.txt y)]).length = ([(AV.txt x.Name)]).length from rfl))
theorem GTable.sub2 (x : GTable) : Sub (GTable.cs x) 2 ([((fun q : List GColumn => AV.lst (q.flatMap GColumn.cs) q.length) x.Cols)]) := Sub.skip (k := 1) (show ([(AV.bool x.There)]).length = 1 from rfl) (Sub.skip (k := 1) (show ([(AV.txt x.Name)]).length = 1 from rfl) (Sub.head _ _))
theorem GTable.upd2 (x : GTable) (y : List GColumn) : Upd (GTable.cs x) 2 ([((fun q : List GColumn => AV.lst (q.flatMap GColumn.cs) q.length) y)]) (GTable.cs { x with Cols := y }) := Upd.skip (k := 1) (show ([(AV.bool x.There)]).length = 1 from rfl) (Upd.skip (k := 1) (show ([(AV.txt x.Name)]).length = 1 from rfl) (Upd.head (show ([((fun q : List GColumn => AV.lst (q.flatMap GColumn.cs) q.length) y)]).length = ([((fun q : List GColumn => AV.lst (q.flatMap GColumn.cs) q.length) x.Cols)]).length from rfl)))
theorem GTable.sub3 (x : GTable) : Sub (GTable.cs x) 3 (x.Drawers.toList.flatMap (fun v : Vector GCell 4 => v.toList.flatMap GCell.cs)) := Sub.skip (k := 1) (show ([(AV.bool x.There)]).length = 1 from rfl) (Sub.skip (k := 1) (show ([(AV.txt x.Name)]).length = 1 from rfl) (Sub.skip (k := 1) (show ([((fun q : List GColumn => AV.lst (q.flatMap GColumn.cs) q.length) x.Cols)]).length = 1 from rfl) (Sub.refl _)))
theorem GTable.upd3 (x : GTable) (y : Vector (Vector GCell 4) 2) : Upd (GTable.cs x) 3 (y.toList.flatMap (fun v : Vector GCell 4 => v.toList.flatMap GCell.cs)) (GTable.cs { x with Drawers := y }) := Upd.skip (k := 1) (show ([(AV.bool x.There)]).length = 1 from rfl) (Upd.skip (k := 1) (show ([(AV.txt x.Name)]).length = 1 from rfl) (Upd.skip (k := 1) (show ([((fun q : List GColumn => AV.lst (q.flatMap GColumn.cs) q.length) x.Cols)]).length = 1 from rfl) (Upd.refl ((vfm_len (fun x => (vfm_len (fun x => (GCell.len x)) x)) y).trans (vfm_len (fun x => (vfm_len (fun x => (GCell.len x)) x)) x.Drawers).symm))))
theorem in_43 : Info Tryd.prog 43 8 128 (.agg #[.bool false, .slice none 0 0, .bool false, .slice none 0 0, .bool false, .slice none 0 0, .bool false, .slice none 0 0]) := by unfold Info; kernel_rfl
theorem one_43 : (.agg #[.bool false, .slice none 0 0, .bool false, .slice none 0 0, .bool false, .slice none 0 0, .bool false, .slice none 0 0] : Value).cells.all (·.oneCell') = true := by kernel_rfl
theorem zc_43 : ((.agg #[.bool false, .slice none 0 0, .bool false, .slice none 0 0, .bool false, .slice none 0 0, .bool false, .slice none 0 0] : Value).cells.toList.map zcell) = ((Vector.replicate 4 GCell.zero).toList).flatMap GCell.cs := by rfl
theorem in_42 : Info Tryd.prog 42 2 32 (.agg #[.bool false, .slice none 0 0]) := by unfold Info; kernel_rfl
theorem one_42 : (.agg #[.bool false, .slice none 0 0] : Value).cells.all (·.oneCell') = true := by kernel_rfl
theorem zc_42 : ((.agg #[.bool false, .slice none 0 0] : Value).cells.toList.map zcell) = GCell.cs GCell.zero := by rfl
theorem pl_42 : placesOf Tryd.prog 42 = some [(0, 1), (1, 1)] := by kernel_rfl
theorem in_38 : Info Tryd.prog 38 1 24 (.slice none 0 0) := by unfold Info; kernel_rfl
theorem one_38 : (.slice none 0 0 : Value).cells.all (·.oneCell') = true := by kernel_rfl
theorem zc_38 : ((.slice none 0 0 : Value).cells.toList.map zcell) = [((fun q : List GValue => AV.lst (q.flatMap GValue.cs) q.length) [])] := by rfl
theorem in_35 : Info Tryd.prog 35 1 24 (.slice none 0 0) := by unfold Info; kernel_rfl
theorem one_35 : (.slice none 0 0 : Value).cells.all (·.oneCell') = true := by kernel_rfl
theorem zc_35 : ((.slice none 0 0 : Value).cells.toList.map zcell) = [((fun q : List GColumn => AV.lst (q.flatMap GColumn.cs) q.length) [])] := by rfl
theorem in_44 : Info Tryd.prog 44 16 256 (.agg #[.bool false, .slice none 0 0, .bool false, .slice none 0 0, .bool false, .slice none 0 0, .bool false, .slice none 0 0, .bool false, .slice none 0 0, .bool false, .slice none 0 0, .bool false, .slice none 0 0, .bool false, .slice none 0 0]) := by unfold Info; kernel_rfl
theorem one_44 : (.agg #[.bool false, .slice none 0 0, .bool false, .slice none 0 0, .bool false, .slice none 0 0, .bool false, .slice none 0 0, .bool false, .slice none 0 0, .bool false, .slice none 0 0, .bool false, .slice none 0 0, .bool false, .slice none 0 0] : Value).cells.all (·.oneCell') = true := by kernel_rfl
theorem zc_44 : ((.agg #[.bool false, .slice none 0 0, .bool false, .slice none 0 0, .bool false, .slice none 0 0, .bool false, .slice none 0 0, .bool false, .slice none 0 0, .bool false, .slice none 0 0, .bool false, .slice none 0 0, .bool false, .slice none 0 0] : Value).cells.toList.map zcell) = ((Vector.replicate 2 (Vector.replicate 4 GCell.zero)).toList).flatMap (fun v : Vector GCell 4 => v.toList.flatMap GCell.cs) := by rfl
theorem eq_29 : EqT Tryd.prog 29 2 (fun x : GValue => .agg (GValue.cs x)) :=
  eqt_struct [fun a b => a.Kind = b.Kind, fun a b => a.Int_ = b.Int_, fun a b => a.Bits = b.Bits, fun a b => a.Text = b.Text] Tryd.underlying29 (by kernel_rfl) ⟨(FieldEq.more (fe_one (by decide) Tryd.underlying3 rfl (eqt_int Tryd.underlying3) (fun a => GValue.sub0 a)) (by decide : 1 ≤ 1)), (FieldEq.more (fe_one (by decide) Tryd.underlying3 rfl (eqt_int Tryd.underlying3) (fun a => GValue.sub1 a)) (by decide : 1 ≤ 1)), (FieldEq.more (fe_one (by decide) Tryd.underlying22 rfl (eqt_u64 Tryd.underlying22) (fun a => GValue.sub2 a)) (by decide : 1 ≤ 1)), (FieldEq.more (fe_one (by decide) Tryd.underlying9 rfl (eqt_txt Tryd.underlying9) (fun a => GValue.sub3 a)) (by decide : 1 ≤ 1)), trivial⟩ (fun a b => by
    cases a; cases b
    simp)

/-! kinds.Row -/
noncomputable def g_kinds_Row (row0 : List GValue) (cols1 : List GColumn) : Option (Int) :=
  (g_kinds_fits row0 cols1).bind fun r'1 => some r'1
set_option maxHeartbeats 4000000 in
set_option maxRecDepth 100000 in
theorem g_kinds_Row_ac {row0 : List GValue} {cols1 : List GColumn} {r : Int} (H : g_kinds_Row row0 cols1 = some r) : ACp Tryd.prog 16 [((fun q : List GValue => AV.lst (q.flatMap GValue.cs) q.length) row0), ((fun q : List GColumn => AV.lst (q.flatMap GColumn.cs) q.length) cols1)] (AV.int r) := by
 refine ACp_of (AC2_of_body (vs := [.i r]) Tryd.func16 rfl rfl (Nat.le_of_ble_eq_true rfl) rfl ?_) (fun _ => .same _)
 unfold g_kinds_Row at H
 refine as2 [(0, .p ((fun q : List GValue => AV.lst (q.flatMap GValue.cs) q.length) row0)), (1, .p ((fun q : List GColumn => AV.lst (q.flatMap GColumn.cs) q.length) cols1))] [] rfl rfl rfl ?_
 refine sg [0] rfl ?_
 refine rp rfl rfl (p_asg rfl rfl) ?_
 refine rz [(0, .p ((fun q : List GValue => AV.lst (q.flatMap GValue.cs) q.length) row0)), (1, .p ((fun q : List GColumn => AV.lst (q.flatMap GColumn.cs) q.length) cols1))] [] rfl rfl rfl ?_
 refine sg [0, 1, 2, 3] rfl ?_
 refine rp rfl rfl (p_move rfl rfl) ?_
 refine rp rfl rfl (p_move rfl rfl) ?_
 refine bindK H fun r'1 h1 H => ?_
 refine rp rfl rfl (p_callp rfl rfl rfl Tryd.func42 rfl rfl (g_kinds_fits_ac h1) ⟨rfl, rfl, trivial⟩) ?_
 refine rp rfl rfl (p_asg rfl rfl) ?_
 refine rz [(4, .i r'1)] [] rfl rfl rfl ?_
 refine AW2_ret ?_
 have hz := some_elim H
 subst hz
 exact ⟨⟨res_tmp (.same _), trivial⟩, trivial⟩

/-! table.keys -/
def g_table_keys_r7 : List (List (Nat × Option Nat)) := [[(4, none)], [(19, some 0)], [(20, some 1)], [(6, none), (21, some 2)], [(21, some 2), (22, some 3)], [(21, some 2), (23, some 4)], [(24, some 5)], [(6, none), (25, some 6)], [(25, some 6), (26, some 7)], [(25, some 6), (27, some 8)], [(25, some 6), (28, some 9)], [(4, none), (25, some 6)], [(25, some 6), (30, some 11)], [(25, some 6), (31, some 12)], [(25, some 6), (32, some 13)]]
def g_table_keys_r7c : List (List Nat) := [[], [0], [0, 1], [0, 1, 2], [0, 1, 2, 3], [0, 1, 2, 3, 4], [0, 1, 2, 3, 4, 5], [0, 1, 2, 3, 4, 5, 6], [0, 1, 2, 3, 4, 5, 6, 7], [0, 1, 2, 3, 4, 5, 6, 7, 8], [0, 1, 2, 3, 4, 5, 6, 7, 8, 9], [0, 1, 2, 3, 4, 5, 6], [0, 1, 2, 3, 4, 5, 6, 11], [0, 1, 2, 3, 4, 5, 6, 11, 12], [0, 1, 2, 3, 4, 5, 6, 11, 12, 13], [0, 1, 2, 3, 4, 5, 6, 7, 8, 9, 10, 11, 12, 13, 14], [0, 1, 2, 3, 4, 5, 6, 7, 8, 9, 10, 11, 12, 13, 14, 15]]
noncomputable def g_table_keys_l1 (d0 : Vector GCell 4) (t8_0 : Int) : Int → Option (Int ⊕ (Int ⊕ Unit))
  | t15_1 => (if t15_1 < (t8_0.toNat : Int) then if 0 ≤ t15_1 ∧ t15_1 < (t8_0.toNat : Int) then ((if ((vrd d0 t8_0.toNat).Full) = true then (if ((vrd d0 t15_1.toNat).Full) = true then if 0 < ((vrd d0 t15_1.toNat).Row).length then if 0 < ((vrd d0 t8_0.toNat).Row).length then some (decide ((lrd ((vrd d0 t15_1.toNat).Row) 0) = (lrd ((vrd d0 t8_0.toNat).Row) 0))) else none else none else some false) else some false)).bind fun g'1 => (if g'1 = true then some (.inr (.inl (8 : Int))) else some (.inl (w64 (t15_1 + (1 : Int))))) else none else some (.inr (.inr ())))
noncomputable def g_table_keys_l0 (d0 : Vector GCell 4) : Int → Option (Int ⊕ (Int ⊕ Unit))
  | t8_0 => (if t8_0 < (4 : Int) then if 0 ≤ t8_0 ∧ t8_0 < (4 : Int) then if 0 ≤ t8_0 ∧ t8_0 ≤ (4 : Int) then (loopO (g_table_keys_l1 d0 t8_0) (0 : Int)).bind fun o'5 => match o'5 with | .inl y'6 => some (.inr (.inl y'6)) | .inr (y'7) => some (.inl (w64 (t8_0 + (1 : Int)))) else none else none else some (.inr (.inr ())))
noncomputable def g_table_keys (d0 : Vector GCell 4) : Option (Int) :=
  (loopO (g_table_keys_l0 d0) (0 : Int)).bind fun o'11 => match o'11 with | .inl y'12 => some y'12 | .inr (y'13) => some (0 : Int)
set_option maxHeartbeats 4000000 in
set_option maxRecDepth 100000 in
theorem g_table_keys_ac {d0 : Vector GCell 4} {r : Int} (H : g_table_keys d0 = some r) : ACp Tryd.prog 44 [(.agg (d0.toList.flatMap GCell.cs))] (AV.int r) := by
 refine ACp_of (AC2_of_body (vs := [.i r]) Tryd.func44 rfl rfl (Nat.le_of_ble_eq_true rfl) rfl ?_) (fun _ => .same _)
 unfold g_table_keys at H
 refine as2 [(0, .g (d0.toList.flatMap GCell.cs))] [] rfl rfl rfl ?_
 refine sg [0, 1] rfl ?_
 refine r_op rfl rfl (MakeD.opD (n_box 1 rfl rfl) rfl rfl rfl rfl) ?_
 refine rp rfl rfl (p_asg rfl rfl) ?_
 refine rz [(1, .q 1 (0))] [(1, .pure (d0.toList.flatMap GCell.cs))] rfl rfl rfl ?_
 refine AW2_seq ?_
 refine sg [0, 1] rfl ?_
 refine rp rfl rfl (u_lda rfl rfl Tryd.underlying43 rfl in_43 rfl (Nat.succ_pos _) (Sub.refl _) (vfm_len (fun x => (GCell.len x)) d0)) ?_
 refine rp rfl rfl (p_move rfl rfl) ?_
 refine rz [(1, .q 1 (0)), (7, .g (d0.toList.flatMap GCell.cs)), (8, .i (0 : Int))] [(1, .pure (d0.toList.flatMap GCell.cs))] rfl rfl rfl ?_
 refine AW2_block ?_
 refine as2 [(1, .q 1 (0)), (7, .g (d0.toList.flatMap GCell.cs)), (8, .i (0 : Int))] [(1, .pure (d0.toList.flatMap GCell.cs))] rfl rfl rfl ?_
 refine bindK H fun o'11 h13 H => ?_
 refine AW2_loopO (fun a'8 : Int => (⟨[(1, .q 1 (0)), (7, .g (d0.toList.flatMap GCell.cs)), (8, .i a'8)], [(1, .pure (d0.toList.flatMap GCell.cs))], 38⟩ : TS)) (fun (o : Int ⊕ Unit) e s' => match o with | .inl y'9 => e = Go.Exit.ret ∧ ResAll Tryd.prog s' [ResultVar.tmp 2] [.i y'9] ∧ HFits s' [] | .inr (y'10) => e = Go.Exit.exit 0 ∧ s' = (⟨[], [], 38⟩ : TS)) h13 rfl (fun t8_0 x hx => ?_) (fun e s' hs => ?_)
 ·clear H
  have H := hx
  clear hx
  unfold g_table_keys_l0 at H
  refine sg [0] rfl ?_
  refine rp rfl rfl (p_bin rfl rfl rfl rfl) ?_
  refine rz [(1, .q 1 (0)), (7, .g (d0.toList.flatMap GCell.cs)), (8, .i t8_0), (9, .b (decide (t8_0 < (4 : Int))))] [(1, .pure (d0.toList.flatMap GCell.cs))] rfl rfl rfl ?_
  refine AW2_seq ?_
  refine AW2_if (p := t8_0 < (4 : Int)) rfl (fun h1 => ?_) (fun h1 => ?_)
  ·replace H := ite_then h1 H
   refine as2 [(1, .q 1 (0)), (7, .g (d0.toList.flatMap GCell.cs)), (8, .i t8_0)] [(1, .pure (d0.toList.flatMap GCell.cs))] rfl rfl rfl ?_
   refine AW2_skip ?_
   refine AW2_seq ?_
   refine AW2_block ?_
   refine sg [0, 1, 2, 3, 4] rfl ?_
   refine rp rfl rfl (p_move rfl rfl) ?_
   refine chkK H fun h2 H => ?_
   refine rp rfl rfl (u_ixaa rfl rfl Tryd.underlying43 in_42 Tryd.underlying42 rfl rfl rfl (ixe h2) (ixn h2) (Sub.vfm (fun x => (GCell.len x)) (ixn h2)) (GCell.len (vrd d0 t8_0.toNat))) ?_
   refine r_op rfl rfl (MakeD.opD (u_alloc 4 rfl in_42 one_42 zc_42) rfl rfl rfl rfl) ?_
   refine rp rfl rfl (p_asg rfl rfl) ?_
   refine r_op rfl rfl (u_st rfl rfl rfl rfl rfl in_42 (GCell.len (vrd d0 t8_0.toNat)) (ne_of_lt (n := 0) (Nat.lt_of_lt_of_eq (by decide) (Eq.symm (GCell.len GCell.zero)))) (Upd.refl ((GCell.len (vrd d0 t8_0.toNat)).trans (GCell.len GCell.zero).symm))) ?_
   refine rz [(1, .q 1 (0)), (3, .i t8_0), (4, .q 4 (0)), (7, .g (d0.toList.flatMap GCell.cs)), (8, .i t8_0)] [(1, .pure (d0.toList.flatMap GCell.cs)), (4, .pure (GCell.cs (vrd d0 t8_0.toNat)))] rfl rfl rfl ?_
   refine sg [0, 1, 2, 3] rfl ?_
   refine rp rfl rfl (p_move rfl rfl) ?_
   refine chkK H fun h3 H => ?_
   refine rp rfl rfl (u_cutah rfl rfl Tryd.underlying43 in_42 rfl rfl (ne_of_lt (n := 0) (Nat.lt_of_lt_of_eq (by decide) (Eq.symm (vfm_len (fun x => (GCell.len x)) d0)))) (Sub.refl _) ((vfm_len (fun x => (GCell.len x)) d0).trans (by decide)) (bT_i h3.1 rfl) (toNat_le h3)) ?_
   refine rp rfl rfl (u_lens rfl Tryd.underlying89 rfl rfl rfl (ne_of_lt (n := 0) (Nat.lt_of_lt_of_eq (by decide) (Eq.symm (vfm_len (fun x => (GCell.len x)) d0))))) ?_
   refine rp rfl rfl (p_move rfl rfl) ?_
   refine rz [(1, .q 1 (0)), (4, .q 4 (0)), (7, .g (d0.toList.flatMap GCell.cs)), (8, .i t8_0), (13, .c (.sl 1 (0 + 0 * 2) t8_0.toNat 2)), (14, .i (t8_0.toNat : Int)), (15, .i (0 : Int))] [(1, .pure (d0.toList.flatMap GCell.cs)), (4, .pure (GCell.cs (vrd d0 t8_0.toNat)))] rfl rfl rfl ?_
   refine AW2_block ?_
   refine as2 [(1, .q 1 (0)), (4, .q 4 (0)), (7, .g (d0.toList.flatMap GCell.cs)), (8, .i t8_0), (13, .c (.sl 1 (0 + 0 * 2) t8_0.toNat 2)), (14, .i (t8_0.toNat : Int)), (15, .i (0 : Int))] [(1, .pure (d0.toList.flatMap GCell.cs)), (4, .pure (GCell.cs (vrd d0 t8_0.toNat)))] rfl rfl rfl ?_
   refine bindK H fun o'5 h12 H => ?_
   refine AW2_loopO (fun a'2 : Int => (⟨[(1, .q 1 (0)), (4, .q 4 (0)), (7, .g (d0.toList.flatMap GCell.cs)), (8, .i t8_0), (13, .c (.sl 1 (0 + 0 * 2) t8_0.toNat 2)), (14, .i (t8_0.toNat : Int)), (15, .i a'2)], [(1, .pure (d0.toList.flatMap GCell.cs)), (4, .pure (GCell.cs (vrd d0 t8_0.toNat)))], 38⟩ : TS)) (fun (o : Int ⊕ Unit) e s' => match o with | .inl y'3 => e = Go.Exit.ret ∧ ResAll Tryd.prog s' [ResultVar.tmp 2] [.i y'3] ∧ HFits s' [] | .inr (y'4) => e = Go.Exit.exit 2 ∧ s' = (⟨[(1, .q 1 (0)), (7, .g (d0.toList.flatMap GCell.cs)), (8, .i t8_0)], [(1, .pure (d0.toList.flatMap GCell.cs))], 38⟩ : TS)) h12 rfl (fun t15_1 x hx => ?_) (fun e s' hs => ?_)
   ·clear H
    have H := hx
    clear hx
    unfold g_table_keys_l1 at H
    refine sg [0] rfl ?_
    refine rp rfl rfl (p_bin rfl rfl rfl rfl) ?_
    refine rz [(1, .q 1 (0)), (4, .q 4 (0)), (7, .g (d0.toList.flatMap GCell.cs)), (8, .i t8_0), (13, .c (.sl 1 (0 + 0 * 2) t8_0.toNat 2)), (14, .i (t8_0.toNat : Int)), (15, .i t15_1), (16, .b (decide (t15_1 < (t8_0.toNat : Int))))] [(1, .pure (d0.toList.flatMap GCell.cs)), (4, .pure (GCell.cs (vrd d0 t8_0.toNat)))] rfl rfl rfl ?_
    refine AW2_seq ?_
    refine AW2_if (p := t15_1 < (t8_0.toNat : Int)) rfl (fun h4 => ?_) (fun h4 => ?_)
    ·replace H := ite_then h4 H
     refine as2 [(1, .q 1 (0)), (4, .q 4 (0)), (7, .g (d0.toList.flatMap GCell.cs)), (8, .i t8_0), (13, .c (.sl 1 (0 + 0 * 2) t8_0.toNat 2)), (14, .i (t8_0.toNat : Int)), (15, .i t15_1)] [(1, .pure (d0.toList.flatMap GCell.cs)), (4, .pure (GCell.cs (vrd d0 t8_0.toNat)))] rfl rfl rfl ?_
     refine AW2_skip ?_
     refine AW2_seq ?_
     refine AW2_block ?_
     refine sg [0, 1, 2, 3] rfl ?_
     refine chkK H fun h5 H => ?_
     refine rp rfl rfl (u_ixs rfl rfl Tryd.underlying89 in_42 rfl rfl (ne_of_lt (n := 0) (Nat.lt_of_lt_of_eq (by decide) (Eq.symm (vfm_len (fun x => (GCell.len x)) d0)))) rfl (ixe h5) (ixn h5)) ?_
     refine rp rfl rfl (u_lda rfl rfl Tryd.underlying42 rfl in_42 rfl (Nat.succ_pos _) ((Sub.refl _).trans (Sub.vfm (fun x => (GCell.len x)) (Nat.lt_of_lt_of_le (ixn h5) (toNat_le h3)))) (GCell.len (vrd d0 t15_1.toNat))) ?_
     refine r_op rfl rfl (MakeD.opD (u_alloc 6 rfl in_42 one_42 zc_42) rfl rfl rfl rfl) ?_
     refine r_op rfl rfl (u_st rfl rfl rfl rfl rfl in_42 (GCell.len (vrd d0 t15_1.toNat)) (ne_of_lt (n := 0) (Nat.lt_of_lt_of_eq (by decide) (Eq.symm (GCell.len GCell.zero)))) (Upd.refl ((GCell.len (vrd d0 t15_1.toNat)).trans (GCell.len GCell.zero).symm))) ?_
     refine rz [(1, .q 1 (0)), (4, .q 4 (0)), (6, .q 6 (0)), (7, .g (d0.toList.flatMap GCell.cs)), (8, .i t8_0), (13, .c (.sl 1 (0 + 0 * 2) t8_0.toNat 2)), (14, .i (t8_0.toNat : Int)), (15, .i t15_1)] [(1, .pure (d0.toList.flatMap GCell.cs)), (4, .pure (GCell.cs (vrd d0 t8_0.toNat))), (6, .pure (GCell.cs (vrd d0 t15_1.toNat)))] rfl rfl rfl ?_
     refine AW2_seq ?_
     refine bindK H fun g'1 h10 H => ?_
     refine AW2_mid (⟨[(1, .q 1 (0)), (4, .q 4 (0)), (7, .g (d0.toList.flatMap GCell.cs)), (8, .i t8_0), (13, .c (.sl 1 (0 + 0 * 2) t8_0.toNat 2)), (14, .i (t8_0.toNat : Int)), (15, .i t15_1), (35, .b g'1)], [(1, .pure (d0.toList.flatMap GCell.cs)), (4, .pure (GCell.cs (vrd d0 t8_0.toNat)))], 38⟩ : TS) ?_ ?_
     ·clear H
      have H := h10
      clear h10
      refine (Classical.em (((vrd d0 t8_0.toNat).Full) = true)).elim (fun h6 => ?_) (fun h6 => ?_)
      ·replace H := ite_then h6 H
       refine (Classical.em (((vrd d0 t15_1.toNat).Full) = true)).elim (fun h7 => ?_) (fun h7 => ?_)
       ·replace H := ite_then h7 H
        refine chkK H fun h8 H => ?_
        refine chkK H fun h9 H => ?_
        have hz := some_elim H
        subst hz
        refine AW2_ghoQ ?_
        refine AW2_draw 15 [15, 16] (fun k => ([.q 4 (0 + 0), .b ((vrd d0 t8_0.toNat).Full), .b ((vrd d0 t8_0.toNat).Full), .q 6 (0 + 0), .b ((vrd d0 t15_1.toNat).Full), .b ((vrd d0 t15_1.toNat).Full), .b ((vrd d0 t15_1.toNat).Full), .q 6 (0 + 1), .p ((fun q : List GValue => AV.lst (q.flatMap GValue.cs) q.length) ((vrd d0 t15_1.toNat).Row)), .p (.rptr (((vrd d0 t15_1.toNat).Row).flatMap GValue.cs) (0 * 4)), .g (GValue.cs (lrd ((vrd d0 t15_1.toNat).Row) 0)), .q 4 (0 + 1), .p ((fun q : List GValue => AV.lst (q.flatMap GValue.cs) q.length) ((vrd d0 t8_0.toNat).Row)), .p (.rptr (((vrd d0 t8_0.toNat).Row).flatMap GValue.cs) (0 * 4)), .g (GValue.cs (lrd ((vrd d0 t8_0.toNat).Row) 0))] : List TV).getD k TV.any) (fun k => g_table_keys_r7.getD k []) [(1, none), (4, none), (7, none), (8, none), (13, none), (14, none), (15, none), (25, some 6), (29, some 10), (33, some 14)] [] (fun k => g_table_keys_r7c.getD k []) mixed (by kernel_rfl) rfl rfl (a_op (g_x rfl (x_p rfl (u_fa rfl rfl Tryd.underlying42 rfl in_4 (Nat.succ_ne_zero _) rfl rfl (ne_of_lt (n := 0) (Nat.lt_of_lt_of_eq (by decide) (Eq.symm (GCell.len (vrd d0 t8_0.toNat)))))) rfl)) (a_op (g_x rfl (x_p rfl (u_ld rfl rfl Tryd.underlying4 rfl rfl ((Sub.refl _).trans (GCell.sub0 (vrd d0 t8_0.toNat)))) rfl)) (a_op (g_x rfl (x_p rfl (p_move rfl rfl) rfl)) (a_op (g_on rfl rfl rfl h6 rfl (x_p rfl (u_fa rfl rfl Tryd.underlying42 rfl in_4 (Nat.succ_ne_zero _) rfl rfl (ne_of_lt (n := 0) (Nat.lt_of_lt_of_eq (by decide) (Eq.symm (GCell.len (vrd d0 t15_1.toNat)))))) rfl)) (a_op (g_on rfl rfl rfl h6 rfl (x_p rfl (u_ld rfl rfl Tryd.underlying4 rfl rfl ((Sub.refl _).trans (GCell.sub0 (vrd d0 t15_1.toNat)))) rfl)) (a_op (g_x rfl (x_p rfl (p_pkt rfl rfl h6 (.same _)) rfl)) (a_op (g_x rfl (x_p rfl (p_move rfl rfl) rfl)) (a_op (g_on rfl rfl rfl h7 rfl (x_p rfl (u_fa rfl rfl Tryd.underlying42 rfl in_38 (Nat.succ_ne_zero _) rfl rfl (ne_of_lt (n := 0) (Nat.lt_of_lt_of_eq (by decide) (Eq.symm (GCell.len (vrd d0 t15_1.toNat)))))) rfl)) (a_op (g_on rfl rfl rfl h7 rfl (x_p rfl (u_ld rfl rfl Tryd.underlying38 rfl rfl ((Sub.refl _).trans (GCell.sub1 (vrd d0 t15_1.toNat)))) rfl)) (a_op (g_on rfl rfl rfl h7 rfl (x_p rfl (u_ixl rfl rfl Tryd.underlying38 in_29 rfl rfl rfl h8 (fne (fun x => (GValue.len x)) (by decide) h8)) rfl)) (a_op (g_on rfl rfl rfl h7 rfl (x_p rfl (u_lda rfl rfl Tryd.underlying29 rfl in_29 rfl (Nat.succ_pos _) (Sub.fm default (fun x => (GValue.len x)) h8) (GValue.len (lrd ((vrd d0 t15_1.toNat).Row) 0))) rfl)) (a_op (g_on rfl rfl rfl h7 rfl (x_p rfl (u_fa rfl rfl Tryd.underlying42 rfl in_38 (Nat.succ_ne_zero _) rfl rfl (ne_of_lt (n := 0) (Nat.lt_of_lt_of_eq (by decide) (Eq.symm (GCell.len (vrd d0 t8_0.toNat)))))) rfl)) (a_op (g_on rfl rfl rfl h7 rfl (x_p rfl (u_ld rfl rfl Tryd.underlying38 rfl rfl ((Sub.refl _).trans (GCell.sub1 (vrd d0 t8_0.toNat)))) rfl)) (a_op (g_on rfl rfl rfl h7 rfl (x_p rfl (u_ixl rfl rfl Tryd.underlying38 in_29 rfl rfl rfl h9 (fne (fun x => (GValue.len x)) (by decide) h9)) rfl)) (a_op (g_on rfl rfl rfl h7 rfl (x_p rfl (u_lda rfl rfl Tryd.underlying29 rfl in_29 rfl (Nat.succ_pos _) (Sub.fm default (fun x => (GValue.len x)) h9) (GValue.len (lrd ((vrd d0 t8_0.toNat).Row) 0))) rfl)) (a_nil)))))))))))))))) ?_
        refine t_on rfl rfl rfl rfl h7 rfl (PureD.opD (p_eqa (a := (lrd ((vrd d0 t15_1.toNat).Row) 0)) (b := (lrd ((vrd d0 t8_0.toNat).Row) 0)) rfl eq_29 rfl (by kernel_rfl) rfl rfl)) ?_
        refine t_op rfl rfl (PureD.opD (p_pkt rfl rfl h7 (.same _))) ?_
        refine t_gho (Gho_st (L := [(1, .q 1 (0)), (4, .q 4 (0)), (7, .g (d0.toList.flatMap GCell.cs)), (8, .i t8_0), (13, .c (.sl 1 (0 + 0 * 2) t8_0.toNat 2)), (14, .i (t8_0.toNat : Int)), (15, .i t15_1), (35, .b (decide ((lrd ((vrd d0 t15_1.toNat).Row) 0) = (lrd ((vrd d0 t8_0.toNat).Row) 0))))]) (H := [(1, .pure (d0.toList.flatMap GCell.cs)), (4, .pure (GCell.cs (vrd d0 t8_0.toNat)))]) (N := 38) rfl ⟨TLes.same _, TLes.same _, TLes.same _, TLes.same _, TLes.same _, TLes.same _, TLes.same _, TLes.same _, trivial⟩ ⟨rfl, rfl, trivial⟩) ?_
        exact rfl
       ·replace H := ite_else h7 H
        have hz := some_elim H
        subst hz
        refine AW2_ghoQ ?_
        refine AW2_draw 15 [15, 16] (fun k => ([.q 4 (0 + 0), .b ((vrd d0 t8_0.toNat).Full), .b ((vrd d0 t8_0.toNat).Full), .q 6 (0 + 0), .b ((vrd d0 t15_1.toNat).Full), .b ((vrd d0 t15_1.toNat).Full), .b ((vrd d0 t15_1.toNat).Full), .p (.tup []), .p (.tup []), .p (.tup []), .p (.tup []), .p (.tup []), .p (.tup []), .p (.tup []), .p (.tup [])] : List TV).getD k TV.any) (fun k => g_table_keys_r7.getD k []) [(1, none), (4, none), (7, none), (8, none), (13, none), (14, none), (15, none), (25, some 6), (29, some 10), (33, some 14)] [] (fun k => g_table_keys_r7c.getD k []) mixed (by kernel_rfl) rfl rfl (a_op (g_x rfl (x_p rfl (u_fa rfl rfl Tryd.underlying42 rfl in_4 (Nat.succ_ne_zero _) rfl rfl (ne_of_lt (n := 0) (Nat.lt_of_lt_of_eq (by decide) (Eq.symm (GCell.len (vrd d0 t8_0.toNat)))))) rfl)) (a_op (g_x rfl (x_p rfl (u_ld rfl rfl Tryd.underlying4 rfl rfl ((Sub.refl _).trans (GCell.sub0 (vrd d0 t8_0.toNat)))) rfl)) (a_op (g_x rfl (x_p rfl (p_move rfl rfl) rfl)) (a_op (g_on rfl rfl rfl h6 rfl (x_p rfl (u_fa rfl rfl Tryd.underlying42 rfl in_4 (Nat.succ_ne_zero _) rfl rfl (ne_of_lt (n := 0) (Nat.lt_of_lt_of_eq (by decide) (Eq.symm (GCell.len (vrd d0 t15_1.toNat)))))) rfl)) (a_op (g_on rfl rfl rfl h6 rfl (x_p rfl (u_ld rfl rfl Tryd.underlying4 rfl rfl ((Sub.refl _).trans (GCell.sub0 (vrd d0 t15_1.toNat)))) rfl)) (a_op (g_x rfl (x_p rfl (p_pkt rfl rfl h6 (.same _)) rfl)) (a_op (g_x rfl (x_p rfl (p_move rfl rfl) rfl)) (a_op (g_off rfl rfl rfl rfl rfl (bfalse h7) rfl rfl) (a_op (g_off rfl rfl rfl rfl rfl (bfalse h7) rfl rfl) (a_op (g_off rfl rfl rfl rfl rfl (bfalse h7) rfl rfl) (a_op (g_off rfl rfl rfl rfl rfl (bfalse h7) rfl rfl) (a_op (g_off rfl rfl rfl rfl rfl (bfalse h7) rfl rfl) (a_op (g_off rfl rfl rfl rfl rfl (bfalse h7) rfl rfl) (a_op (g_off rfl rfl rfl rfl rfl (bfalse h7) rfl rfl) (a_op (g_off rfl rfl rfl rfl rfl (bfalse h7) rfl rfl) (a_nil)))))))))))))))) ?_
        refine t_off rfl rfl rfl rfl (bfalse h7) rfl rfl ?_
        refine t_op rfl rfl (PureD.opD (p_pkf rfl rfl (bfalse h7) (.same _))) ?_
        refine t_gho (Gho_st (L := [(1, .q 1 (0)), (4, .q 4 (0)), (7, .g (d0.toList.flatMap GCell.cs)), (8, .i t8_0), (13, .c (.sl 1 (0 + 0 * 2) t8_0.toNat 2)), (14, .i (t8_0.toNat : Int)), (15, .i t15_1), (35, .b false)]) (H := [(1, .pure (d0.toList.flatMap GCell.cs)), (4, .pure (GCell.cs (vrd d0 t8_0.toNat)))]) (N := 38) rfl ⟨TLes.same _, TLes.same _, TLes.same _, TLes.same _, TLes.same _, TLes.same _, TLes.same _, TLes.same _, trivial⟩ ⟨rfl, rfl, trivial⟩) ?_
        exact rfl
      ·replace H := ite_else h6 H
       have hz := some_elim H
       subst hz
       refine AW2_ghoQ ?_
       refine AW2_draw 15 [15, 16] (fun k => ([.q 4 (0 + 0), .b ((vrd d0 t8_0.toNat).Full), .b ((vrd d0 t8_0.toNat).Full), .p (.tup []), .p (.tup []), .b false, .b false, .p (.tup []), .p (.tup []), .p (.tup []), .p (.tup []), .p (.tup []), .p (.tup []), .p (.tup []), .p (.tup [])] : List TV).getD k TV.any) (fun k => g_table_keys_r7.getD k []) [(1, none), (4, none), (7, none), (8, none), (13, none), (14, none), (15, none), (25, some 6), (29, some 10), (33, some 14)] [] (fun k => g_table_keys_r7c.getD k []) mixed (by kernel_rfl) rfl rfl (a_op (g_x rfl (x_p rfl (u_fa rfl rfl Tryd.underlying42 rfl in_4 (Nat.succ_ne_zero _) rfl rfl (ne_of_lt (n := 0) (Nat.lt_of_lt_of_eq (by decide) (Eq.symm (GCell.len (vrd d0 t8_0.toNat)))))) rfl)) (a_op (g_x rfl (x_p rfl (u_ld rfl rfl Tryd.underlying4 rfl rfl ((Sub.refl _).trans (GCell.sub0 (vrd d0 t8_0.toNat)))) rfl)) (a_op (g_x rfl (x_p rfl (p_move rfl rfl) rfl)) (a_op (g_off rfl rfl rfl rfl rfl (bfalse h6) rfl rfl) (a_op (g_off rfl rfl rfl rfl rfl (bfalse h6) rfl rfl) (a_op (g_x rfl (x_p rfl (p_pkf rfl rfl (bfalse h6) (.same _)) rfl)) (a_op (g_x rfl (x_p rfl (p_move rfl rfl) rfl)) (a_op (g_off rfl rfl rfl rfl rfl (bfalse (by decide)) rfl rfl) (a_op (g_off rfl rfl rfl rfl rfl (bfalse (by decide)) rfl rfl) (a_op (g_off rfl rfl rfl rfl rfl (bfalse (by decide)) rfl rfl) (a_op (g_off rfl rfl rfl rfl rfl (bfalse (by decide)) rfl rfl) (a_op (g_off rfl rfl rfl rfl rfl (bfalse (by decide)) rfl rfl) (a_op (g_off rfl rfl rfl rfl rfl (bfalse (by decide)) rfl rfl) (a_op (g_off rfl rfl rfl rfl rfl (bfalse (by decide)) rfl rfl) (a_op (g_off rfl rfl rfl rfl rfl (bfalse (by decide)) rfl rfl) (a_nil)))))))))))))))) ?_
       refine t_off rfl rfl rfl rfl (bfalse (by decide)) rfl rfl ?_
       refine t_op rfl rfl (PureD.opD (p_pkf rfl rfl (bfalse (by decide)) (.same _))) ?_
       refine t_gho (Gho_st (L := [(1, .q 1 (0)), (4, .q 4 (0)), (7, .g (d0.toList.flatMap GCell.cs)), (8, .i t8_0), (13, .c (.sl 1 (0 + 0 * 2) t8_0.toNat 2)), (14, .i (t8_0.toNat : Int)), (15, .i t15_1), (35, .b false)]) (H := [(1, .pure (d0.toList.flatMap GCell.cs)), (4, .pure (GCell.cs (vrd d0 t8_0.toNat)))]) (N := 38) rfl ⟨TLes.same _, TLes.same _, TLes.same _, TLes.same _, TLes.same _, TLes.same _, TLes.same _, TLes.same _, trivial⟩ ⟨rfl, rfl, trivial⟩) ?_
       exact rfl
     ·refine AW2_cond rfl (fun h11 => ?_) (fun h11 => ?_)
      ·replace H := ite_then h11 H
       refine sg [0] rfl ?_
       refine rp rfl rfl (p_asg rfl rfl) ?_
       refine rz [(2, .i (8 : Int))] [] rfl rfl rfl ?_
       refine AW2_ret ?_
       have hz := some_elim H
       subst hz
       exact ⟨rfl, ⟨res_tmp (.same _), trivial⟩, trivial⟩
      ·replace H := ite_else (ne_true h11) H
       refine as2 [(1, .q 1 (0)), (4, .q 4 (0)), (7, .g (d0.toList.flatMap GCell.cs)), (8, .i t8_0), (13, .c (.sl 1 (0 + 0 * 2) t8_0.toNat 2)), (14, .i (t8_0.toNat : Int)), (15, .i t15_1)] [(1, .pure (d0.toList.flatMap GCell.cs)), (4, .pure (GCell.cs (vrd d0 t8_0.toNat)))] rfl rfl rfl ?_
       refine AW2_skip ?_
       refine AW2_reg [0, 1] rfl ?_
       refine rp rfl rfl (p_bin rfl rfl rfl rfl) ?_
       refine rp rfl rfl (p_move rfl rfl) ?_
       refine rz [(1, .q 1 (0)), (4, .q 4 (0)), (7, .g (d0.toList.flatMap GCell.cs)), (8, .i t8_0), (13, .c (.sl 1 (0 + 0 * 2) t8_0.toNat 2)), (14, .i (t8_0.toNat : Int)), (15, .i (w64 (t15_1 + (1 : Int))))] [(1, .pure (d0.toList.flatMap GCell.cs)), (4, .pure (GCell.cs (vrd d0 t8_0.toNat)))] rfl rfl rfl ?_
       have hz := some_elim H
       subst hz
       exact ⟨rfl, rfl⟩
    ·replace H := ite_else h4 H
     refine as2 [(1, .q 1 (0)), (7, .g (d0.toList.flatMap GCell.cs)), (8, .i t8_0)] [(1, .pure (d0.toList.flatMap GCell.cs))] rfl rfl rfl ?_
     refine AW2_exit ?_
     refine thenQ2_exit ?_
     have hz := some_elim H
     subst hz
     exact ⟨rfl, rfl⟩
   ·rcases o'5 with y'6 | y'7
    ·obtain ⟨rfl, hs⟩ := hs
     refine ⟨by simp, ?_⟩
     have hz := some_elim H
     subst hz
     exact ⟨rfl, hs.1, hs.2⟩
    ·obtain ⟨rfl, rfl⟩ := hs
     refine ⟨by simp, ?_⟩
     refine blockQ2_exit ?_
     refine AW2_reg [0, 1] rfl ?_
     refine rp rfl rfl (p_bin rfl rfl rfl rfl) ?_
     refine rp rfl rfl (p_move rfl rfl) ?_
     refine rz [(1, .q 1 (0)), (7, .g (d0.toList.flatMap GCell.cs)), (8, .i (w64 (t8_0 + (1 : Int))))] [(1, .pure (d0.toList.flatMap GCell.cs))] rfl rfl rfl ?_
     have hz := some_elim H
     subst hz
     exact ⟨rfl, rfl⟩
  ·replace H := ite_else h1 H
   refine as2 [] [] rfl rfl rfl ?_
   refine AW2_exit ?_
   refine thenQ2_exit ?_
   have hz := some_elim H
   subst hz
   exact ⟨rfl, rfl⟩
 ·rcases o'11 with y'12 | y'13
  ·obtain ⟨rfl, hs⟩ := hs
   refine ⟨by simp, ?_⟩
   have hz := some_elim H
   subst hz
   exact ⟨hs.1, hs.2⟩
  ·obtain ⟨rfl, rfl⟩ := hs
   refine ⟨by simp, ?_⟩
   refine blockQ2_exit ?_
   refine sg [0] rfl ?_
   refine rp rfl rfl (p_asg rfl rfl) ?_
   refine rz [(2, .i (0 : Int))] [] rfl rfl rfl ?_
   refine AW2_ret ?_
   have hz := some_elim H
   subst hz
   exact ⟨⟨res_tmp (.same _), trivial⟩, trivial⟩

/-! table.Check -/
noncomputable def g_table_Check_l1 (t0 : GTable) (t45_0 : Int) : Int → Option (Int ⊕ (Int ⊕ Unit))
  | t49_1 => (if t49_1 < (4 : Int) then (show Option (Int ⊕ Unit) from if 0 ≤ t49_1 ∧ t49_1 < (4 : Int) then (if ((!((vrd (vrd t0.Drawers t45_0.toNat) t49_1.toNat).Full)) = true) ∧ ((((vrd (vrd t0.Drawers t45_0.toNat) t49_1.toNat).Row).length : Int) > (0 : Int)) then some (.inl (3 : Int)) else (if (!((vrd (vrd t0.Drawers t45_0.toNat) t49_1.toNat).Full)) = true then some (.inr ()) else (g_kinds_Row ((vrd (vrd t0.Drawers t45_0.toNat) t49_1.toNat).Row) t0.Cols).bind fun r'5 => (if r'5 ≠ (0 : Int) then some (.inl r'5) else some (.inr ())))) else none).bind fun o'7 => match o'7 with | .inl y'6 => some (.inr (.inl y'6)) | .inr j'4 => some (.inl (w64 (t49_1 + (1 : Int)))) else some (.inr (.inr ())))
noncomputable def g_table_Check_l0 (t0 : GTable) : Int → Option (Int ⊕ (Int ⊕ Unit))
  | t45_0 => (if t45_0 < (2 : Int) then if 0 ≤ t45_0 ∧ t45_0 < (2 : Int) then (loopO (g_table_Check_l1 t0 t45_0) (0 : Int)).bind fun o'11 => match o'11 with | .inl y'12 => some (.inr (.inl y'12)) | .inr (y'13) => (g_table_keys (vrd t0.Drawers t45_0.toNat)).bind fun r'14 => (if r'14 ≠ (0 : Int) then some (.inr (.inl r'14)) else some (.inl (w64 (t45_0 + (1 : Int))))) else none else some (.inr (.inr ())))
noncomputable def g_table_Check (t0 : GTable) : Option (Int) :=
  (if (!t0.There) = true then some (5 : Int) else (g_lex_Check ({ { GToken.zero with Kind := (1 : Int) } with Text := t0.Name })).bind fun r'1 => (if r'1 ≠ (0 : Int) then some (3 : Int) else (g_kinds_Columns t0.Cols).bind fun r'2 => (if r'2 ≠ (0 : Int) then some r'2 else ((if (t0.Cols.length : Int) = (0 : Int) then some true else if 0 < t0.Cols.length then (if (lrd t0.Cols 0).Kind ≠ (2 : Int) then some true else if 0 < t0.Cols.length then some ((lrd t0.Cols 0).Null) else none) else none)).bind fun g'3 => (if g'3 = true then some (3 : Int) else (loopO (g_table_Check_l0 t0) (0 : Int)).bind fun o'18 => match o'18 with | .inl y'19 => some y'19 | .inr (y'20) => some (0 : Int)))))
set_option maxHeartbeats 4000000 in
set_option maxRecDepth 100000 in
theorem g_table_Check_ac {t0 : GTable} {r : Int} (H : g_table_Check t0 = some r) : ACp Tryd.prog 18 [(.agg (GTable.cs t0))] (AV.int r) := by
 refine ACp_of (AC2_of_body (vs := [.i r]) Tryd.func18 rfl rfl (Nat.le_of_ble_eq_true rfl) rfl ?_) (fun _ => .same _)
 unfold g_table_Check at H
 refine as2 [(0, .g (GTable.cs t0))] [] rfl rfl rfl ?_
 refine sg [0, 1] rfl ?_
 refine r_op rfl rfl (MakeD.opD (n_box 1 rfl rfl) rfl rfl rfl rfl) ?_
 refine rp rfl rfl (p_asg rfl rfl) ?_
 refine rz [(1, .q 1 (0))] [(1, .pure (GTable.cs t0))] rfl rfl rfl ?_
 refine AW2_seq ?_
 refine sg [0, 1, 2] rfl ?_
 refine rp rfl rfl (u_fa rfl rfl Tryd.underlying46 rfl in_4 (Nat.succ_ne_zero _) rfl rfl (ne_of_lt (n := 0) (Nat.lt_of_lt_of_eq (by decide) (Eq.symm (GTable.len t0))))) ?_
 refine rp rfl rfl (u_ld rfl rfl Tryd.underlying4 rfl rfl ((Sub.refl _).trans (GTable.sub0 t0))) ?_
 refine rp rfl rfl (p_not rfl rfl) ?_
 refine rz [(1, .q 1 (0)), (12, .b (!t0.There))] [(1, .pure (GTable.cs t0))] rfl rfl rfl ?_
 refine AW2_cond rfl (fun h1 => ?_) (fun h1 => ?_)
 ·replace H := ite_then h1 H
  refine sg [0] rfl ?_
  refine rp rfl rfl (p_asg rfl rfl) ?_
  refine rz [(2, .i (5 : Int))] [] rfl rfl rfl ?_
  refine AW2_ret ?_
  have hz := some_elim H
  subst hz
  exact ⟨⟨res_tmp (.same _), trivial⟩, trivial⟩
 ·replace H := ite_else (ne_true h1) H
  refine as2 [(1, .q 1 (0))] [(1, .pure (GTable.cs t0))] rfl rfl rfl ?_
  refine AW2_skip ?_
  refine AW2_seq ?_
  refine sg [0, 1, 2, 3, 4] rfl ?_
  refine rp rfl rfl (u_fa rfl rfl Tryd.underlying46 rfl in_9 (Nat.succ_ne_zero _) rfl rfl (ne_of_lt (n := 0) (Nat.lt_of_lt_of_eq (by decide) (Eq.symm (GTable.len t0))))) ?_
  refine rp rfl rfl (u_ld rfl rfl Tryd.underlying9 rfl rfl ((Sub.refl _).trans (GTable.sub1 t0))) ?_
  refine rp rfl rfl (u_bld rfl in_24 one_24 zc_24 pl_24 rfl (af_cons rfl rfl (GToken.upd0 GToken.zero (1 : Int)) (af_cons rfl rfl (GToken.upd1 ({ GToken.zero with Kind := (1 : Int) }) t0.Name) rfl))) ?_
  refine bindK H fun r'1 h2 H => ?_
  refine rp rfl rfl (p_callp rfl rfl rfl Tryd.func10 rfl rfl (g_lex_Check_ac h2) ⟨rfl, trivial⟩) ?_
  refine rp rfl rfl (p_ine rfl rfl rfl) ?_
  refine rz [(1, .q 1 (0)), (17, .b (decide (r'1 ≠ (0 : Int))))] [(1, .pure (GTable.cs t0))] rfl rfl rfl ?_
  refine AW2_if (p := r'1 ≠ (0 : Int)) rfl (fun h3 => ?_) (fun h3 => ?_)
  ·replace H := ite_then h3 H
   refine sg [0] rfl ?_
   refine rp rfl rfl (p_asg rfl rfl) ?_
   refine rz [(2, .i (3 : Int))] [] rfl rfl rfl ?_
   refine AW2_ret ?_
   have hz := some_elim H
   subst hz
   exact ⟨⟨res_tmp (.same _), trivial⟩, trivial⟩
  ·replace H := ite_else h3 H
   refine as2 [(1, .q 1 (0))] [(1, .pure (GTable.cs t0))] rfl rfl rfl ?_
   refine AW2_skip ?_
   refine AW2_seq ?_
   refine sg [0, 1, 2, 3] rfl ?_
   refine rp rfl rfl (u_fa rfl rfl Tryd.underlying46 rfl in_35 (Nat.succ_ne_zero _) rfl rfl (ne_of_lt (n := 0) (Nat.lt_of_lt_of_eq (by decide) (Eq.symm (GTable.len t0))))) ?_
   refine rp rfl rfl (u_ld rfl rfl Tryd.underlying35 rfl rfl ((Sub.refl _).trans (GTable.sub2 t0))) ?_
   refine bindK H fun r'2 h4 H => ?_
   refine rp rfl rfl (p_callp rfl rfl rfl Tryd.func14 rfl rfl (g_kinds_Columns_ac h4) ⟨rfl, trivial⟩) ?_
   refine rp rfl rfl (p_asg rfl rfl) ?_
   refine rz [(1, .q 1 (0)), (3, .i r'2)] [(1, .pure (GTable.cs t0))] rfl rfl rfl ?_
   refine sg [0, 1] rfl ?_
   refine rp rfl rfl (p_move rfl rfl) ?_
   refine rp rfl rfl (p_ine rfl rfl rfl) ?_
   refine rz [(1, .q 1 (0)), (3, .i r'2), (22, .b (decide (r'2 ≠ (0 : Int))))] [(1, .pure (GTable.cs t0))] rfl rfl rfl ?_
   refine AW2_if (p := r'2 ≠ (0 : Int)) rfl (fun h5 => ?_) (fun h5 => ?_)
   ·replace H := ite_then h5 H
    refine sg [0, 1] rfl ?_
    refine rp rfl rfl (p_move rfl rfl) ?_
    refine rp rfl rfl (p_asg rfl rfl) ?_
    refine rz [(2, .i r'2)] [] rfl rfl rfl ?_
    refine AW2_ret ?_
    have hz := some_elim H
    subst hz
    exact ⟨⟨res_tmp (.same _), trivial⟩, trivial⟩
   ·replace H := ite_else h5 H
    refine as2 [(1, .q 1 (0))] [(1, .pure (GTable.cs t0))] rfl rfl rfl ?_
    refine AW2_skip ?_
    refine AW2_seq ?_
    refine AW2_seq ?_
    refine bindK H fun g'3 h11 H => ?_
    refine AW2_mid (⟨[(1, .q 1 (0)), (42, .b g'3)], [(1, .pure (GTable.cs t0))], 79⟩ : TS) ?_ ?_
    ·clear H
     have H := h11
     clear h11
     refine AW2_reg [0, 1, 2, 3, 4, 5, 6, 7, 8, 9, 10, 11, 12, 13, 14, 15, 16, 17, 18] rfl ?_
     refine rp rfl rfl (u_fa rfl rfl Tryd.underlying46 rfl in_35 (Nat.succ_ne_zero _) rfl rfl (ne_of_lt (n := 0) (Nat.lt_of_lt_of_eq (by decide) (Eq.symm (GTable.len t0))))) ?_
     refine rp rfl rfl (u_ld rfl rfl Tryd.underlying35 rfl rfl ((Sub.refl _).trans (GTable.sub2 t0))) ?_
     refine rp rfl rfl (p_lenl rfl Tryd.underlying35 rfl rfl) ?_
     refine rp rfl rfl (p_ieq rfl rfl rfl) ?_
     refine rp rfl rfl (p_move rfl rfl) ?_
     refine (Classical.em ((t0.Cols.length : Int) = (0 : Int))).elim (fun h7 => ?_) (fun h7 => ?_)
     ·replace H := ite_then h7 H
      refine r_off rfl rfl rfl rfl (decide_eq_true h7) rfl rfl ?_
      refine r_off rfl rfl rfl rfl (decide_eq_true h7) rfl rfl ?_
      refine r_off rfl rfl rfl rfl (decide_eq_true h7) rfl rfl ?_
      refine r_off rfl rfl rfl rfl (decide_eq_true h7) rfl rfl ?_
      refine r_off rfl rfl rfl rfl (decide_eq_true h7) rfl rfl ?_
      refine r_off rfl rfl rfl rfl (decide_eq_true h7) rfl rfl ?_
      refine rp rfl rfl (p_pkt rfl rfl (decide_eq_true h7) (.same _)) ?_
      refine rp rfl rfl (p_move rfl rfl) ?_
      refine r_off rfl rfl rfl rfl rfl rfl rfl ?_
      refine r_off rfl rfl rfl rfl rfl rfl rfl ?_
      refine r_off rfl rfl rfl rfl rfl rfl rfl ?_
      refine r_off rfl rfl rfl rfl rfl rfl rfl ?_
      refine r_off rfl rfl rfl rfl rfl rfl rfl ?_
      refine rp rfl rfl (p_pkt rfl rfl rfl (.same _)) ?_
      refine rs [(1, .q 1 (0)), (42, .b true)] [(1, .pure (GTable.cs t0))] rfl rfl rfl ?_
      have hz := some_elim H
      subst hz
      exact RunW_nil rfl
     ·replace H := ite_else h7 H
      refine r_on rfl rfl rfl rfl (decide_eq_false h7) rfl (PureD.opD (u_fa rfl rfl Tryd.underlying46 rfl in_35 (Nat.succ_ne_zero _) rfl rfl (ne_of_lt (n := 0) (Nat.lt_of_lt_of_eq (by decide) (Eq.symm (GTable.len t0)))))) ?_
      refine r_on rfl rfl rfl rfl (decide_eq_false h7) rfl (PureD.opD (u_ld rfl rfl Tryd.underlying35 rfl rfl ((Sub.refl _).trans (GTable.sub2 t0)))) ?_
      refine chkK H fun h8 H => ?_
      refine r_on rfl rfl rfl rfl (decide_eq_false h7) rfl (PureD.opD (u_ixl rfl rfl Tryd.underlying35 in_68 rfl rfl rfl h8 (fne (fun x => (GColumn.len x)) (by decide) h8))) ?_
      refine r_on rfl rfl rfl rfl (decide_eq_false h7) rfl (PureD.opD (u_far rfl rfl Tryd.underlying68 rfl in_3 (Nat.succ_ne_zero _) rfl)) ?_
      refine r_on rfl rfl rfl rfl (decide_eq_false h7) rfl (PureD.opD (u_ld rfl rfl Tryd.underlying3 rfl rfl ((Sub.fm default (fun x => (GColumn.len x)) h8).trans (GColumn.sub1 (lrd t0.Cols 0))))) ?_
      refine r_on rfl rfl rfl rfl (decide_eq_false h7) rfl (PureD.opD (p_ine rfl rfl rfl)) ?_
      refine rp rfl rfl (p_pkf rfl rfl (decide_eq_false h7) (.same _)) ?_
      refine rp rfl rfl (p_move rfl rfl) ?_
      refine (Classical.em ((lrd t0.Cols 0).Kind ≠ (2 : Int))).elim (fun h9 => ?_) (fun h9 => ?_)
      ·replace H := ite_then h9 H
       refine r_off rfl rfl rfl rfl (decide_eq_true h9) rfl rfl ?_
       refine r_off rfl rfl rfl rfl (decide_eq_true h9) rfl rfl ?_
       refine r_off rfl rfl rfl rfl (decide_eq_true h9) rfl rfl ?_
       refine r_off rfl rfl rfl rfl (decide_eq_true h9) rfl rfl ?_
       refine r_off rfl rfl rfl rfl (decide_eq_true h9) rfl rfl ?_
       refine rp rfl rfl (p_pkt rfl rfl (decide_eq_true h9) (.same _)) ?_
       refine rs [(1, .q 1 (0)), (42, .b true)] [(1, .pure (GTable.cs t0))] rfl rfl rfl ?_
       have hz := some_elim H
       subst hz
       exact RunW_nil rfl
      ·replace H := ite_else h9 H
       refine r_on rfl rfl rfl rfl (decide_eq_false h9) rfl (PureD.opD (u_fa rfl rfl Tryd.underlying46 rfl in_35 (Nat.succ_ne_zero _) rfl rfl (ne_of_lt (n := 0) (Nat.lt_of_lt_of_eq (by decide) (Eq.symm (GTable.len t0)))))) ?_
       refine r_on rfl rfl rfl rfl (decide_eq_false h9) rfl (PureD.opD (u_ld rfl rfl Tryd.underlying35 rfl rfl ((Sub.refl _).trans (GTable.sub2 t0)))) ?_
       refine chkK H fun h10 H => ?_
       refine r_on rfl rfl rfl rfl (decide_eq_false h9) rfl (PureD.opD (u_ixl rfl rfl Tryd.underlying35 in_68 rfl rfl rfl h10 (fne (fun x => (GColumn.len x)) (by decide) h10))) ?_
       refine r_on rfl rfl rfl rfl (decide_eq_false h9) rfl (PureD.opD (u_far rfl rfl Tryd.underlying68 rfl in_4 (Nat.succ_ne_zero _) rfl)) ?_
       refine r_on rfl rfl rfl rfl (decide_eq_false h9) rfl (PureD.opD (u_ld rfl rfl Tryd.underlying4 rfl rfl ((Sub.fm default (fun x => (GColumn.len x)) h10).trans (GColumn.sub2 (lrd t0.Cols 0))))) ?_
       refine rp rfl rfl (p_pkf rfl rfl (decide_eq_false h9) (.same _)) ?_
       refine rs [(1, .q 1 (0)), (42, .b ((lrd t0.Cols 0).Null))] [(1, .pure (GTable.cs t0))] rfl rfl rfl ?_
       have hz := some_elim H
       subst hz
       exact RunW_nil rfl
    ·refine AW2_cond rfl (fun h12 => ?_) (fun h12 => ?_)
     ·replace H := ite_then h12 H
      refine sg [0] rfl ?_
      refine rp rfl rfl (p_asg rfl rfl) ?_
      refine rz [(2, .i (3 : Int))] [] rfl rfl rfl ?_
      refine AW2_ret ?_
      have hz := some_elim H
      subst hz
      exact ⟨⟨res_tmp (.same _), trivial⟩, trivial⟩
     ·replace H := ite_else (ne_true h12) H
      refine as2 [(1, .q 1 (0))] [(1, .pure (GTable.cs t0))] rfl rfl rfl ?_
      refine AW2_skip ?_
      refine AW2_seq ?_
      refine sg [0, 1, 2] rfl ?_
      refine rp rfl rfl (u_fa rfl rfl Tryd.underlying46 rfl in_44 (Nat.succ_ne_zero _) rfl rfl (ne_of_lt (n := 0) (Nat.lt_of_lt_of_eq (by decide) (Eq.symm (GTable.len t0))))) ?_
      refine rp rfl rfl (u_lda rfl rfl Tryd.underlying44 rfl in_44 rfl (Nat.succ_pos _) ((Sub.refl _).trans (GTable.sub3 t0)) (vfm_len (fun x => (vfm_len (fun x => (GCell.len x)) x)) t0.Drawers)) ?_
      refine rp rfl rfl (p_move rfl rfl) ?_
      refine rz [(1, .q 1 (0)), (44, .g (t0.Drawers.toList.flatMap (fun v : Vector GCell 4 => v.toList.flatMap GCell.cs))), (45, .i (0 : Int))] [(1, .pure (GTable.cs t0))] rfl rfl rfl ?_
      refine AW2_block ?_
      refine as2 [(1, .q 1 (0)), (44, .g (t0.Drawers.toList.flatMap (fun v : Vector GCell 4 => v.toList.flatMap GCell.cs))), (45, .i (0 : Int))] [(1, .pure (GTable.cs t0))] rfl rfl rfl ?_
      refine bindK H fun o'18 h26 H => ?_
      refine AW2_loopO (fun a'15 : Int => (⟨[(1, .q 1 (0)), (44, .g (t0.Drawers.toList.flatMap (fun v : Vector GCell 4 => v.toList.flatMap GCell.cs))), (45, .i a'15)], [(1, .pure (GTable.cs t0))], 79⟩ : TS)) (fun (o : Int ⊕ Unit) e s' => match o with | .inl y'16 => e = Go.Exit.ret ∧ ResAll Tryd.prog s' [ResultVar.tmp 2] [.i y'16] ∧ HFits s' [] | .inr (y'17) => e = Go.Exit.exit 0 ∧ s' = (⟨[], [], 79⟩ : TS)) h26 rfl (fun t45_0 x hx => ?_) (fun e s' hs => ?_)
      ·clear H
       have H := hx
       clear hx
       unfold g_table_Check_l0 at H
       refine sg [0] rfl ?_
       refine rp rfl rfl (p_bin rfl rfl rfl rfl) ?_
       refine rz [(1, .q 1 (0)), (44, .g (t0.Drawers.toList.flatMap (fun v : Vector GCell 4 => v.toList.flatMap GCell.cs))), (45, .i t45_0), (46, .b (decide (t45_0 < (2 : Int))))] [(1, .pure (GTable.cs t0))] rfl rfl rfl ?_
       refine AW2_seq ?_
       refine AW2_if (p := t45_0 < (2 : Int)) rfl (fun h13 => ?_) (fun h13 => ?_)
       ·replace H := ite_then h13 H
        refine as2 [(1, .q 1 (0)), (44, .g (t0.Drawers.toList.flatMap (fun v : Vector GCell 4 => v.toList.flatMap GCell.cs))), (45, .i t45_0)] [(1, .pure (GTable.cs t0))] rfl rfl rfl ?_
        refine AW2_skip ?_
        refine AW2_seq ?_
        refine AW2_block ?_
        refine sg [0, 1, 2] rfl ?_
        refine chkK H fun h14 H => ?_
        refine rp rfl rfl (u_ixaa rfl rfl Tryd.underlying44 in_43 Tryd.underlying43 rfl rfl rfl (ixe h14) (ixn h14) (Sub.vfm (fun x => (vfm_len (fun x => (GCell.len x)) x)) (ixn h14)) (vfm_len (fun x => (GCell.len x)) (vrd t0.Drawers t45_0.toNat))) ?_
        refine r_op rfl rfl (MakeD.opD (u_alloc 5 rfl in_43 one_43 zc_43) rfl rfl rfl rfl) ?_
        refine r_op rfl rfl (u_st rfl rfl rfl rfl rfl in_43 (vfm_len (fun x => (GCell.len x)) (vrd t0.Drawers t45_0.toNat)) (ne_of_lt (n := 0) (Nat.lt_of_lt_of_eq (by decide) (Eq.symm (vfm_len (fun x => (GCell.len x)) (Vector.replicate 4 GCell.zero))))) (Upd.refl ((vfm_len (fun x => (GCell.len x)) (vrd t0.Drawers t45_0.toNat)).trans (vfm_len (fun x => (GCell.len x)) (Vector.replicate 4 GCell.zero)).symm))) ?_
        refine rz [(1, .q 1 (0)), (5, .q 5 (0)), (44, .g (t0.Drawers.toList.flatMap (fun v : Vector GCell 4 => v.toList.flatMap GCell.cs))), (45, .i t45_0)] [(1, .pure (GTable.cs t0)), (5, .pure (((vrd t0.Drawers t45_0.toNat).toList).flatMap GCell.cs))] rfl rfl rfl ?_
        refine AW2_seq ?_
        refine sg [0, 1] rfl ?_
        refine rp rfl rfl (u_lda rfl rfl Tryd.underlying43 rfl in_43 rfl (Nat.succ_pos _) (Sub.refl _) (vfm_len (fun x => (GCell.len x)) (vrd t0.Drawers t45_0.toNat))) ?_
        refine rp rfl rfl (p_move rfl rfl) ?_
        refine rz [(1, .q 1 (0)), (5, .q 5 (0)), (44, .g (t0.Drawers.toList.flatMap (fun v : Vector GCell 4 => v.toList.flatMap GCell.cs))), (45, .i t45_0), (48, .g (((vrd t0.Drawers t45_0.toNat).toList).flatMap GCell.cs)), (49, .i (0 : Int))] [(1, .pure (GTable.cs t0)), (5, .pure (((vrd t0.Drawers t45_0.toNat).toList).flatMap GCell.cs))] rfl rfl rfl ?_
        refine AW2_block ?_
        refine as2 [(1, .q 1 (0)), (5, .q 5 (0)), (44, .g (t0.Drawers.toList.flatMap (fun v : Vector GCell 4 => v.toList.flatMap GCell.cs))), (45, .i t45_0), (48, .g (((vrd t0.Drawers t45_0.toNat).toList).flatMap GCell.cs)), (49, .i (0 : Int))] [(1, .pure (GTable.cs t0)), (5, .pure (((vrd t0.Drawers t45_0.toNat).toList).flatMap GCell.cs))] rfl rfl rfl ?_
        refine bindK H fun o'11 h23 H => ?_
        refine AW2_loopO (fun a'8 : Int => (⟨[(1, .q 1 (0)), (5, .q 5 (0)), (44, .g (t0.Drawers.toList.flatMap (fun v : Vector GCell 4 => v.toList.flatMap GCell.cs))), (45, .i t45_0), (48, .g (((vrd t0.Drawers t45_0.toNat).toList).flatMap GCell.cs)), (49, .i a'8)], [(1, .pure (GTable.cs t0)), (5, .pure (((vrd t0.Drawers t45_0.toNat).toList).flatMap GCell.cs))], 79⟩ : TS)) (fun (o : Int ⊕ Unit) e s' => match o with | .inl y'9 => e = Go.Exit.ret ∧ ResAll Tryd.prog s' [ResultVar.tmp 2] [.i y'9] ∧ HFits s' [] | .inr (y'10) => e = Go.Exit.exit 2 ∧ s' = (⟨[(1, .q 1 (0)), (5, .q 5 (0)), (44, .g (t0.Drawers.toList.flatMap (fun v : Vector GCell 4 => v.toList.flatMap GCell.cs))), (45, .i t45_0)], [(1, .pure (GTable.cs t0)), (5, .pure (((vrd t0.Drawers t45_0.toNat).toList).flatMap GCell.cs))], 79⟩ : TS)) h23 rfl (fun t49_1 x hx => ?_) (fun e s' hs => ?_)
        ·clear H
         have H := hx
         clear hx
         unfold g_table_Check_l1 at H
         refine sg [0] rfl ?_
         refine rp rfl rfl (p_bin rfl rfl rfl rfl) ?_
         refine rz [(1, .q 1 (0)), (5, .q 5 (0)), (44, .g (t0.Drawers.toList.flatMap (fun v : Vector GCell 4 => v.toList.flatMap GCell.cs))), (45, .i t45_0), (48, .g (((vrd t0.Drawers t45_0.toNat).toList).flatMap GCell.cs)), (49, .i t49_1), (50, .b (decide (t49_1 < (4 : Int))))] [(1, .pure (GTable.cs t0)), (5, .pure (((vrd t0.Drawers t45_0.toNat).toList).flatMap GCell.cs))] rfl rfl rfl ?_
         refine AW2_seq ?_
         refine AW2_if (p := t49_1 < (4 : Int)) rfl (fun h15 => ?_) (fun h15 => ?_)
         ·replace H := ite_then h15 H
          refine as2 [(1, .q 1 (0)), (5, .q 5 (0)), (44, .g (t0.Drawers.toList.flatMap (fun v : Vector GCell 4 => v.toList.flatMap GCell.cs))), (45, .i t45_0), (48, .g (((vrd t0.Drawers t45_0.toNat).toList).flatMap GCell.cs)), (49, .i t49_1)] [(1, .pure (GTable.cs t0)), (5, .pure (((vrd t0.Drawers t45_0.toNat).toList).flatMap GCell.cs))] rfl rfl rfl ?_
          refine AW2_skip ?_
          refine AW2_seq ?_
          refine bindK H fun o'7 h16 H => ?_
          refine AW2_join (fun j'4 : Unit => (⟨[(1, .q 1 (0)), (5, .q 5 (0)), (44, .g (t0.Drawers.toList.flatMap (fun v : Vector GCell 4 => v.toList.flatMap GCell.cs))), (45, .i t45_0), (48, .g (((vrd t0.Drawers t45_0.toNat).toList).flatMap GCell.cs)), (49, .i t49_1)], [(1, .pure (GTable.cs t0)), (5, .pure (((vrd t0.Drawers t45_0.toNat).toList).flatMap GCell.cs))], 79⟩ : TS)) (fun r e s' => e = Go.Exit.ret ∧ ResAll Tryd.prog s' [ResultVar.tmp 2] [.i r] ∧ HFits s' []) (x := o'7) ?_ (fun j'4 hy => ?_) (fun y'6 e s' hy hs => ?_)
          ·clear H
           have H := h16
           clear h16
           refine AW2_block ?_
           refine sg [0, 1, 2] rfl ?_
           refine chkK H fun h17 H => ?_
           refine rp rfl rfl (u_ixaa rfl rfl Tryd.underlying43 in_42 Tryd.underlying42 rfl rfl rfl (ixe h17) (ixn h17) (Sub.vfm (fun x => (GCell.len x)) (ixn h17)) (GCell.len (vrd (vrd t0.Drawers t45_0.toNat) t49_1.toNat))) ?_
           refine r_op rfl rfl (MakeD.opD (u_alloc 7 rfl in_42 one_42 zc_42) rfl rfl rfl rfl) ?_
           refine r_op rfl rfl (u_st rfl rfl rfl rfl rfl in_42 (GCell.len (vrd (vrd t0.Drawers t45_0.toNat) t49_1.toNat)) (ne_of_lt (n := 0) (Nat.lt_of_lt_of_eq (by decide) (Eq.symm (GCell.len GCell.zero)))) (Upd.refl ((GCell.len (vrd (vrd t0.Drawers t45_0.toNat) t49_1.toNat)).trans (GCell.len GCell.zero).symm))) ?_
           refine rz [(1, .q 1 (0)), (5, .q 5 (0)), (7, .q 7 (0)), (44, .g (t0.Drawers.toList.flatMap (fun v : Vector GCell 4 => v.toList.flatMap GCell.cs))), (45, .i t45_0), (48, .g (((vrd t0.Drawers t45_0.toNat).toList).flatMap GCell.cs)), (49, .i t49_1)] [(1, .pure (GTable.cs t0)), (5, .pure (((vrd t0.Drawers t45_0.toNat).toList).flatMap GCell.cs)), (7, .pure (GCell.cs (vrd (vrd t0.Drawers t45_0.toNat) t49_1.toNat)))] rfl rfl rfl ?_
           refine AW2_seq ?_
           refine AW2_seq ?_
           refine AW2_mid (⟨[(1, .q 1 (0)), (5, .q 5 (0)), (7, .q 7 (0)), (44, .g (t0.Drawers.toList.flatMap (fun v : Vector GCell 4 => v.toList.flatMap GCell.cs))), (45, .i t45_0), (48, .g (((vrd t0.Drawers t45_0.toNat).toList).flatMap GCell.cs)), (49, .i t49_1), (60, .b (decide (((!((vrd (vrd t0.Drawers t45_0.toNat) t49_1.toNat).Full)) = true) ∧ ((((vrd (vrd t0.Drawers t45_0.toNat) t49_1.toNat).Row).length : Int) > (0 : Int)))))], [(1, .pure (GTable.cs t0)), (5, .pure (((vrd t0.Drawers t45_0.toNat).toList).flatMap GCell.cs)), (7, .pure (GCell.cs (vrd (vrd t0.Drawers t45_0.toNat) t49_1.toNat)))], 79⟩ : TS) ?_ ?_
           ·refine AW2_reg [0, 1, 2, 3, 4, 5, 6, 7, 8] rfl ?_
            refine rp rfl rfl (u_fa rfl rfl Tryd.underlying42 rfl in_4 (Nat.succ_ne_zero _) rfl rfl (ne_of_lt (n := 0) (Nat.lt_of_lt_of_eq (by decide) (Eq.symm (GCell.len (vrd (vrd t0.Drawers t45_0.toNat) t49_1.toNat)))))) ?_
            refine rp rfl rfl (u_ld rfl rfl Tryd.underlying4 rfl rfl ((Sub.refl _).trans (GCell.sub0 (vrd (vrd t0.Drawers t45_0.toNat) t49_1.toNat)))) ?_
            refine rp rfl rfl (p_not rfl rfl) ?_
            refine rp rfl rfl (p_move rfl rfl) ?_
            refine (Classical.em ((!((vrd (vrd t0.Drawers t45_0.toNat) t49_1.toNat).Full)) = true)).elim (fun h18 => ?_) (fun h18 => ?_)
            ·refine rn rfl rfl rfl rfl h18 rfl (u_fa rfl rfl Tryd.underlying42 rfl in_38 (Nat.succ_ne_zero _) rfl rfl (ne_of_lt (n := 0) (Nat.lt_of_lt_of_eq (by decide) (Eq.symm (GCell.len (vrd (vrd t0.Drawers t45_0.toNat) t49_1.toNat)))))) ?_
             refine rn rfl rfl rfl rfl h18 rfl (u_ld rfl rfl Tryd.underlying38 rfl rfl ((Sub.refl _).trans (GCell.sub1 (vrd (vrd t0.Drawers t45_0.toNat) t49_1.toNat)))) ?_
             refine rn rfl rfl rfl rfl h18 rfl (p_lenl rfl Tryd.underlying38 rfl rfl) ?_
             refine rn rfl rfl rfl rfl h18 rfl (p_bin rfl rfl rfl rfl) ?_
             refine rp rfl rfl (p_pkt rfl rfl h18 (tb ((and_l (p := (!((vrd (vrd t0.Drawers t45_0.toNat) t49_1.toNat).Full)) = true) (q := (((vrd (vrd t0.Drawers t45_0.toNat) t49_1.toNat).Row).length : Int) > (0 : Int)) h18)))) ?_
             refine rs [(1, .q 1 (0)), (5, .q 5 (0)), (7, .q 7 (0)), (44, .g (t0.Drawers.toList.flatMap (fun v : Vector GCell 4 => v.toList.flatMap GCell.cs))), (45, .i t45_0), (48, .g (((vrd t0.Drawers t45_0.toNat).toList).flatMap GCell.cs)), (49, .i t49_1), (60, .b (decide (((!((vrd (vrd t0.Drawers t45_0.toNat) t49_1.toNat).Full)) = true) ∧ ((((vrd (vrd t0.Drawers t45_0.toNat) t49_1.toNat).Row).length : Int) > (0 : Int)))))] [(1, .pure (GTable.cs t0)), (5, .pure (((vrd t0.Drawers t45_0.toNat).toList).flatMap GCell.cs)), (7, .pure (GCell.cs (vrd (vrd t0.Drawers t45_0.toNat) t49_1.toNat)))] rfl rfl rfl ?_
             exact RunW_nil rfl
            ·refine r_off rfl rfl rfl rfl (bfalse h18) rfl rfl ?_
             refine r_off rfl rfl rfl rfl (bfalse h18) rfl rfl ?_
             refine r_off rfl rfl rfl rfl (bfalse h18) rfl rfl ?_
             refine r_off rfl rfl rfl rfl (bfalse h18) rfl rfl ?_
             refine rp rfl rfl (p_pkf rfl rfl (bfalse h18) (tb (decide_eq_false (p := ((!((vrd (vrd t0.Drawers t45_0.toNat) t49_1.toNat).Full)) = true) ∧ ((((vrd (vrd t0.Drawers t45_0.toNat) t49_1.toNat).Row).length : Int) > (0 : Int))) (fun x => h18 x.1)).symm)) ?_
             refine rs [(1, .q 1 (0)), (5, .q 5 (0)), (7, .q 7 (0)), (44, .g (t0.Drawers.toList.flatMap (fun v : Vector GCell 4 => v.toList.flatMap GCell.cs))), (45, .i t45_0), (48, .g (((vrd t0.Drawers t45_0.toNat).toList).flatMap GCell.cs)), (49, .i t49_1), (60, .b (decide (((!((vrd (vrd t0.Drawers t45_0.toNat) t49_1.toNat).Full)) = true) ∧ ((((vrd (vrd t0.Drawers t45_0.toNat) t49_1.toNat).Row).length : Int) > (0 : Int)))))] [(1, .pure (GTable.cs t0)), (5, .pure (((vrd t0.Drawers t45_0.toNat).toList).flatMap GCell.cs)), (7, .pure (GCell.cs (vrd (vrd t0.Drawers t45_0.toNat) t49_1.toNat)))] rfl rfl rfl ?_
             exact RunW_nil rfl
           ·refine AW2_if (p := ((!((vrd (vrd t0.Drawers t45_0.toNat) t49_1.toNat).Full)) = true) ∧ ((((vrd (vrd t0.Drawers t45_0.toNat) t49_1.toNat).Row).length : Int) > (0 : Int))) rfl (fun h19 => ?_) (fun h19 => ?_)
            ·replace H := ite_then h19 H
             refine sg [0] rfl ?_
             refine rp rfl rfl (p_asg rfl rfl) ?_
             refine rz [(2, .i (3 : Int))] [] rfl rfl rfl ?_
             refine AW2_ret ?_
             have hz := some_elim H
             subst hz
             exact ⟨rfl, ⟨res_tmp (.same _), trivial⟩, trivial⟩
            ·replace H := ite_else h19 H
             refine as2 [(1, .q 1 (0)), (5, .q 5 (0)), (7, .q 7 (0)), (44, .g (t0.Drawers.toList.flatMap (fun v : Vector GCell 4 => v.toList.flatMap GCell.cs))), (45, .i t45_0), (48, .g (((vrd t0.Drawers t45_0.toNat).toList).flatMap GCell.cs)), (49, .i t49_1)] [(1, .pure (GTable.cs t0)), (5, .pure (((vrd t0.Drawers t45_0.toNat).toList).flatMap GCell.cs)), (7, .pure (GCell.cs (vrd (vrd t0.Drawers t45_0.toNat) t49_1.toNat)))] rfl rfl rfl ?_
             refine AW2_skip ?_
             refine AW2_seq ?_
             refine sg [0, 1, 2] rfl ?_
             refine rp rfl rfl (u_fa rfl rfl Tryd.underlying42 rfl in_4 (Nat.succ_ne_zero _) rfl rfl (ne_of_lt (n := 0) (Nat.lt_of_lt_of_eq (by decide) (Eq.symm (GCell.len (vrd (vrd t0.Drawers t45_0.toNat) t49_1.toNat)))))) ?_
             refine rp rfl rfl (u_ld rfl rfl Tryd.underlying4 rfl rfl ((Sub.refl _).trans (GCell.sub0 (vrd (vrd t0.Drawers t45_0.toNat) t49_1.toNat)))) ?_
             refine rp rfl rfl (p_not rfl rfl) ?_
             refine rz [(1, .q 1 (0)), (5, .q 5 (0)), (7, .q 7 (0)), (44, .g (t0.Drawers.toList.flatMap (fun v : Vector GCell 4 => v.toList.flatMap GCell.cs))), (45, .i t45_0), (48, .g (((vrd t0.Drawers t45_0.toNat).toList).flatMap GCell.cs)), (49, .i t49_1), (63, .b (!((vrd (vrd t0.Drawers t45_0.toNat) t49_1.toNat).Full)))] [(1, .pure (GTable.cs t0)), (5, .pure (((vrd t0.Drawers t45_0.toNat).toList).flatMap GCell.cs)), (7, .pure (GCell.cs (vrd (vrd t0.Drawers t45_0.toNat) t49_1.toNat)))] rfl rfl rfl ?_
             refine AW2_cond rfl (fun h20 => ?_) (fun h20 => ?_)
             ·replace H := ite_then h20 H
              refine as2 [(1, .q 1 (0)), (5, .q 5 (0)), (44, .g (t0.Drawers.toList.flatMap (fun v : Vector GCell 4 => v.toList.flatMap GCell.cs))), (45, .i t45_0), (48, .g (((vrd t0.Drawers t45_0.toNat).toList).flatMap GCell.cs)), (49, .i t49_1)] [(1, .pure (GTable.cs t0)), (5, .pure (((vrd t0.Drawers t45_0.toNat).toList).flatMap GCell.cs))] rfl rfl rfl ?_
              refine AW2_exit ?_
              refine thenQ2_exit ?_
              refine blockQ2_exit ?_
              have hz := some_elim H
              subst hz
              exact ⟨rfl, rfl⟩
             ·replace H := ite_else (ne_true h20) H
              refine as2 [(1, .q 1 (0)), (5, .q 5 (0)), (7, .q 7 (0)), (44, .g (t0.Drawers.toList.flatMap (fun v : Vector GCell 4 => v.toList.flatMap GCell.cs))), (45, .i t45_0), (48, .g (((vrd t0.Drawers t45_0.toNat).toList).flatMap GCell.cs)), (49, .i t49_1)] [(1, .pure (GTable.cs t0)), (5, .pure (((vrd t0.Drawers t45_0.toNat).toList).flatMap GCell.cs)), (7, .pure (GCell.cs (vrd (vrd t0.Drawers t45_0.toNat) t49_1.toNat)))] rfl rfl rfl ?_
              refine AW2_skip ?_
              refine sg [0, 1, 2, 3, 4, 5] rfl ?_
              refine rp rfl rfl (u_fa rfl rfl Tryd.underlying42 rfl in_38 (Nat.succ_ne_zero _) rfl rfl (ne_of_lt (n := 0) (Nat.lt_of_lt_of_eq (by decide) (Eq.symm (GCell.len (vrd (vrd t0.Drawers t45_0.toNat) t49_1.toNat)))))) ?_
              refine rp rfl rfl (u_ld rfl rfl Tryd.underlying38 rfl rfl ((Sub.refl _).trans (GCell.sub1 (vrd (vrd t0.Drawers t45_0.toNat) t49_1.toNat)))) ?_
              refine rp rfl rfl (u_fa rfl rfl Tryd.underlying46 rfl in_35 (Nat.succ_ne_zero _) rfl rfl (ne_of_lt (n := 0) (Nat.lt_of_lt_of_eq (by decide) (Eq.symm (GTable.len t0))))) ?_
              refine rp rfl rfl (u_ld rfl rfl Tryd.underlying35 rfl rfl ((Sub.refl _).trans (GTable.sub2 t0))) ?_
              refine bindK H fun r'5 h21 H => ?_
              refine rp rfl rfl (p_callp rfl rfl rfl Tryd.func16 rfl rfl (g_kinds_Row_ac h21) ⟨rfl, rfl, trivial⟩) ?_
              refine rp rfl rfl (p_asg rfl rfl) ?_
              refine rz [(1, .q 1 (0)), (5, .q 5 (0)), (8, .i r'5), (44, .g (t0.Drawers.toList.flatMap (fun v : Vector GCell 4 => v.toList.flatMap GCell.cs))), (45, .i t45_0), (48, .g (((vrd t0.Drawers t45_0.toNat).toList).flatMap GCell.cs)), (49, .i t49_1)] [(1, .pure (GTable.cs t0)), (5, .pure (((vrd t0.Drawers t45_0.toNat).toList).flatMap GCell.cs))] rfl rfl rfl ?_
              refine sg [0, 1] rfl ?_
              refine rp rfl rfl (p_move rfl rfl) ?_
              refine rp rfl rfl (p_ine rfl rfl rfl) ?_
              refine rz [(1, .q 1 (0)), (5, .q 5 (0)), (8, .i r'5), (44, .g (t0.Drawers.toList.flatMap (fun v : Vector GCell 4 => v.toList.flatMap GCell.cs))), (45, .i t45_0), (48, .g (((vrd t0.Drawers t45_0.toNat).toList).flatMap GCell.cs)), (49, .i t49_1), (70, .b (decide (r'5 ≠ (0 : Int))))] [(1, .pure (GTable.cs t0)), (5, .pure (((vrd t0.Drawers t45_0.toNat).toList).flatMap GCell.cs))] rfl rfl rfl ?_
              refine AW2_if (p := r'5 ≠ (0 : Int)) rfl (fun h22 => ?_) (fun h22 => ?_)
              ·replace H := ite_then h22 H
               refine sg [0, 1] rfl ?_
               refine rp rfl rfl (p_move rfl rfl) ?_
               refine rp rfl rfl (p_asg rfl rfl) ?_
               refine rz [(2, .i r'5)] [] rfl rfl rfl ?_
               refine AW2_ret ?_
               have hz := some_elim H
               subst hz
               exact ⟨rfl, ⟨res_tmp (.same _), trivial⟩, trivial⟩
              ·replace H := ite_else h22 H
               refine as2 [(1, .q 1 (0)), (5, .q 5 (0)), (44, .g (t0.Drawers.toList.flatMap (fun v : Vector GCell 4 => v.toList.flatMap GCell.cs))), (45, .i t45_0), (48, .g (((vrd t0.Drawers t45_0.toNat).toList).flatMap GCell.cs)), (49, .i t49_1)] [(1, .pure (GTable.cs t0)), (5, .pure (((vrd t0.Drawers t45_0.toNat).toList).flatMap GCell.cs))] rfl rfl rfl ?_
               refine AW2_skip ?_
               have hz := some_elim H
               subst hz
               exact ⟨rfl, rfl⟩
          ·subst hy
           refine AW2_reg [0, 1] rfl ?_
           refine rp rfl rfl (p_bin rfl rfl rfl rfl) ?_
           refine rp rfl rfl (p_move rfl rfl) ?_
           refine rz [(1, .q 1 (0)), (5, .q 5 (0)), (44, .g (t0.Drawers.toList.flatMap (fun v : Vector GCell 4 => v.toList.flatMap GCell.cs))), (45, .i t45_0), (48, .g (((vrd t0.Drawers t45_0.toNat).toList).flatMap GCell.cs)), (49, .i (w64 (t49_1 + (1 : Int))))] [(1, .pure (GTable.cs t0)), (5, .pure (((vrd t0.Drawers t45_0.toNat).toList).flatMap GCell.cs))] rfl rfl rfl ?_
           have hz := some_elim H
           subst hz
           exact ⟨rfl, rfl⟩
          ·subst hy
           obtain ⟨rfl, hs⟩ := hs
           have hz := some_elim H
           subst hz
           exact ⟨rfl, hs.1, hs.2⟩
         ·replace H := ite_else h15 H
          refine as2 [(1, .q 1 (0)), (5, .q 5 (0)), (44, .g (t0.Drawers.toList.flatMap (fun v : Vector GCell 4 => v.toList.flatMap GCell.cs))), (45, .i t45_0)] [(1, .pure (GTable.cs t0)), (5, .pure (((vrd t0.Drawers t45_0.toNat).toList).flatMap GCell.cs))] rfl rfl rfl ?_
          refine AW2_exit ?_
          refine thenQ2_exit ?_
          have hz := some_elim H
          subst hz
          exact ⟨rfl, rfl⟩
        ·rcases o'11 with y'12 | y'13
         ·obtain ⟨rfl, hs⟩ := hs
          refine ⟨by simp, ?_⟩
          have hz := some_elim H
          subst hz
          exact ⟨rfl, hs.1, hs.2⟩
         ·obtain ⟨rfl, rfl⟩ := hs
          refine ⟨by simp, ?_⟩
          refine blockQ2_exit ?_
          refine sg [0, 1, 2] rfl ?_
          refine rp rfl rfl (u_lda rfl rfl Tryd.underlying43 rfl in_43 rfl (Nat.succ_pos _) (Sub.refl _) (vfm_len (fun x => (GCell.len x)) (vrd t0.Drawers t45_0.toNat))) ?_
          refine bindK H fun r'14 h24 H => ?_
          refine rp rfl rfl (p_callp rfl rfl rfl Tryd.func44 rfl rfl (g_table_keys_ac h24) ⟨rfl, trivial⟩) ?_
          refine rp rfl rfl (p_asg rfl rfl) ?_
          refine rz [(1, .q 1 (0)), (9, .i r'14), (44, .g (t0.Drawers.toList.flatMap (fun v : Vector GCell 4 => v.toList.flatMap GCell.cs))), (45, .i t45_0)] [(1, .pure (GTable.cs t0))] rfl rfl rfl ?_
          refine sg [0, 1] rfl ?_
          refine rp rfl rfl (p_move rfl rfl) ?_
          refine rp rfl rfl (p_ine rfl rfl rfl) ?_
          refine rz [(1, .q 1 (0)), (9, .i r'14), (44, .g (t0.Drawers.toList.flatMap (fun v : Vector GCell 4 => v.toList.flatMap GCell.cs))), (45, .i t45_0), (76, .b (decide (r'14 ≠ (0 : Int))))] [(1, .pure (GTable.cs t0))] rfl rfl rfl ?_
          refine AW2_if (p := r'14 ≠ (0 : Int)) rfl (fun h25 => ?_) (fun h25 => ?_)
          ·replace H := ite_then h25 H
           refine sg [0, 1] rfl ?_
           refine rp rfl rfl (p_move rfl rfl) ?_
           refine rp rfl rfl (p_asg rfl rfl) ?_
           refine rz [(2, .i r'14)] [] rfl rfl rfl ?_
           refine AW2_ret ?_
           have hz := some_elim H
           subst hz
           exact ⟨rfl, ⟨res_tmp (.same _), trivial⟩, trivial⟩
          ·replace H := ite_else h25 H
           refine as2 [(1, .q 1 (0)), (44, .g (t0.Drawers.toList.flatMap (fun v : Vector GCell 4 => v.toList.flatMap GCell.cs))), (45, .i t45_0)] [(1, .pure (GTable.cs t0))] rfl rfl rfl ?_
           refine AW2_skip ?_
           refine AW2_reg [0, 1] rfl ?_
           refine rp rfl rfl (p_bin rfl rfl rfl rfl) ?_
           refine rp rfl rfl (p_move rfl rfl) ?_
           refine rz [(1, .q 1 (0)), (44, .g (t0.Drawers.toList.flatMap (fun v : Vector GCell 4 => v.toList.flatMap GCell.cs))), (45, .i (w64 (t45_0 + (1 : Int))))] [(1, .pure (GTable.cs t0))] rfl rfl rfl ?_
           have hz := some_elim H
           subst hz
           exact ⟨rfl, rfl⟩
       ·replace H := ite_else h13 H
        refine as2 [] [] rfl rfl rfl ?_
        refine AW2_exit ?_
        refine thenQ2_exit ?_
        have hz := some_elim H
        subst hz
        exact ⟨rfl, rfl⟩
      ·rcases o'18 with y'19 | y'20
       ·obtain ⟨rfl, hs⟩ := hs
        refine ⟨by simp, ?_⟩
        have hz := some_elim H
        subst hz
        exact ⟨hs.1, hs.2⟩
       ·obtain ⟨rfl, rfl⟩ := hs
        refine ⟨by simp, ?_⟩
        refine blockQ2_exit ?_
        refine sg [0] rfl ?_
        refine rp rfl rfl (p_asg rfl rfl) ?_
        refine rz [(2, .i (0 : Int))] [] rfl rfl rfl ?_
        refine AW2_ret ?_
        have hz := some_elim H
        subst hz
        exact ⟨⟨res_tmp (.same _), trivial⟩, trivial⟩

/-! chirographref.among -/
noncomputable def g_ref_among_l0 (c0 : UInt8) (l1 : List UInt8) : Int → Option (Int ⊕ (Bool ⊕ Unit))
  | i5_0 => (if i5_0 < (l1.length : Int) then if 0 ≤ i5_0 ∧ i5_0 < (l1.length : Int) then (if (lrd l1 i5_0.toNat) = c0 then some (.inr (.inl true)) else some (.inl (w64 (i5_0 + (1 : Int))))) else none else some (.inr (.inr ())))
noncomputable def g_ref_among (c0 : UInt8) (l1 : List UInt8) : Option (Bool) :=
  (loopO (g_ref_among_l0 c0 l1) (0 : Int)).bind fun o'4 => match o'4 with | .inl y'5 => some y'5 | .inr (y'6) => some false
set_option maxHeartbeats 4000000 in
set_option maxRecDepth 100000 in
theorem g_ref_among_ac {c0 : UInt8} {l1 : List UInt8} {r : Bool} (H : g_ref_among c0 l1 = some r) : ACp Tryd.prog 56 [(AV.b8 c0), (AV.txt l1)] (AV.bool r) := by
 refine ACp_of (AC2_of_body (vs := [.b r]) Tryd.func56 rfl rfl (Nat.le_of_ble_eq_true rfl) rfl ?_) (fun _ => .same _)
 unfold g_ref_among at H
 refine as2 [(0, .p (AV.b8 c0)), (1, .t l1)] [] rfl rfl rfl ?_
 refine sg [0] rfl ?_
 refine rp rfl rfl (p_asg rfl rfl) ?_
 refine rz [(0, .p (AV.b8 c0)), (1, .t l1)] [] rfl rfl rfl ?_
 refine AW2_seq ?_
 refine sg [0] rfl ?_
 refine rp rfl rfl (p_asg rfl rfl) ?_
 refine rz [(0, .p (AV.b8 c0)), (1, .t l1), (5, .i (0 : Int))] [] rfl rfl rfl ?_
 refine AW2_block ?_
 refine as2 [(0, .p (AV.b8 c0)), (1, .t l1), (5, .i (0 : Int))] [] rfl rfl rfl ?_
 refine bindK H fun o'4 h4 H => ?_
 refine AW2_loopO (fun a'1 : Int => (⟨[(0, .p (AV.b8 c0)), (1, .t l1), (5, .i a'1)], [], 17⟩ : TS)) (fun (o : Bool ⊕ Unit) e s' => match o with | .inl y'2 => e = Go.Exit.ret ∧ ResAll Tryd.prog s' [ResultVar.tmp 4] [.b y'2] ∧ HFits s' [] | .inr (y'3) => e = Go.Exit.exit 0 ∧ s' = (⟨[], [], 17⟩ : TS)) h4 rfl (fun i5_0 x hx => ?_) (fun e s' hs => ?_)
 ·clear H
  have H := hx
  clear hx
  unfold g_ref_among_l0 at H
  refine AW2_seq ?_
  refine sg [0, 1, 2, 3] rfl ?_
  refine rp rfl rfl (p_move rfl rfl) ?_
  refine rp rfl rfl (p_move rfl rfl) ?_
  refine rp rfl rfl (p_lent rfl Tryd.underlying9 rfl) ?_
  refine rp rfl rfl (p_bin rfl rfl rfl rfl) ?_
  refine rz [(0, .p (AV.b8 c0)), (1, .t l1), (5, .i i5_0), (9, .b (decide (i5_0 < (l1.length : Int))))] [] rfl rfl rfl ?_
  refine AW2_if (p := i5_0 < (l1.length : Int)) rfl (fun h1 => ?_) (fun h1 => ?_)
  ·replace H := ite_then h1 H
   refine as2 [(0, .p (AV.b8 c0)), (1, .t l1), (5, .i i5_0)] [] rfl rfl rfl ?_
   refine AW2_skip ?_
   refine AW2_seq ?_
   refine AW2_block ?_
   refine sg [0, 1, 2, 3, 4] rfl ?_
   refine rp rfl rfl (p_move rfl rfl) ?_
   refine rp rfl rfl (p_move rfl rfl) ?_
   refine chkK H fun h2 H => ?_
   refine rp rfl rfl (p_ixt rfl Tryd.underlying9 rfl rfl (ixe h2) (lrd_get (ixn h2))) ?_
   refine rp rfl rfl (p_move rfl rfl) ?_
   refine rp rfl rfl (p_u8eq (a := (lrd l1 i5_0.toNat)) (b := c0) rfl rfl rfl) ?_
   refine rz [(0, .p (AV.b8 c0)), (1, .t l1), (5, .i i5_0), (16, .b (decide ((lrd l1 i5_0.toNat) = c0)))] [] rfl rfl rfl ?_
   refine AW2_if (p := (lrd l1 i5_0.toNat) = c0) rfl (fun h3 => ?_) (fun h3 => ?_)
   ·replace H := ite_then h3 H
    refine sg [0] rfl ?_
    refine rp rfl rfl (p_asg rfl rfl) ?_
    refine rz [(4, .b true)] [] rfl rfl rfl ?_
    refine AW2_ret ?_
    have hz := some_elim H
    subst hz
    exact ⟨rfl, ⟨res_tmp (.same _), trivial⟩, trivial⟩
   ·replace H := ite_else h3 H
    refine as2 [(0, .p (AV.b8 c0)), (1, .t l1), (5, .i i5_0)] [] rfl rfl rfl ?_
    refine AW2_skip ?_
    refine AW2_reg [0, 1, 2] rfl ?_
    refine rp rfl rfl (p_move rfl rfl) ?_
    refine rp rfl rfl (p_bin rfl rfl rfl rfl) ?_
    refine rp rfl rfl (p_asg rfl rfl) ?_
    refine rz [(0, .p (AV.b8 c0)), (1, .t l1), (5, .i (w64 (i5_0 + (1 : Int))))] [] rfl rfl rfl ?_
    have hz := some_elim H
    subst hz
    exact ⟨rfl, rfl⟩
  ·replace H := ite_else h1 H
   refine as2 [] [] rfl rfl rfl ?_
   refine AW2_exit ?_
   refine thenQ2_exit ?_
   have hz := some_elim H
   subst hz
   exact ⟨rfl, rfl⟩
 ·rcases o'4 with y'5 | y'6
  ·obtain ⟨rfl, hs⟩ := hs
   refine ⟨by simp, ?_⟩
   have hz := some_elim H
   subst hz
   exact ⟨hs.1, hs.2⟩
  ·obtain ⟨rfl, rfl⟩ := hs
   refine ⟨by simp, ?_⟩
   refine blockQ2_exit ?_
   refine sg [0] rfl ?_
   refine rp rfl rfl (p_asg rfl rfl) ?_
   refine rz [(4, .b false)] [] rfl rfl rfl ?_
   refine AW2_ret ?_
   have hz := some_elim H
   subst hz
   exact ⟨⟨res_tmp (.same _), trivial⟩, trivial⟩

/-! chirographref.reach -/
noncomputable def g_ref_reach_l0 (s0 : List UInt8) (l1 : List UInt8) : Int → Option (Int ⊕ (Int))
  | n5_0 => ((if n5_0 < (s0.length : Int) then if 0 ≤ n5_0 ∧ n5_0 < (s0.length : Int) then (g_ref_among (lrd s0 n5_0.toNat) l1).bind fun r'1 => some r'1 else none else some false)).bind fun g'2 => (if g'2 = true then some (.inl (w64 (n5_0 + (1 : Int)))) else some (.inr n5_0))
noncomputable def g_ref_reach (s0 : List UInt8) (l1 : List UInt8) : Option (Int) :=
  (loopO (g_ref_reach_l0 s0 l1) (0 : Int)).bind fun y'6 => some y'6
set_option maxHeartbeats 4000000 in
set_option maxRecDepth 100000 in
theorem g_ref_reach_ac {s0 : List UInt8} {l1 : List UInt8} {r : Int} (H : g_ref_reach s0 l1 = some r) : ACp Tryd.prog 34 [(AV.txt s0), (AV.txt l1)] (AV.int r) := by
 refine ACp_of (AC2_of_body (vs := [.i r]) Tryd.func34 rfl rfl (Nat.le_of_ble_eq_true rfl) rfl ?_) (fun _ => .same _)
 unfold g_ref_reach at H
 refine as2 [(0, .t s0), (1, .t l1)] [] rfl rfl rfl ?_
 refine sg [0] rfl ?_
 refine rp rfl rfl (p_asg rfl rfl) ?_
 refine rz [(0, .t s0), (1, .t l1)] [] rfl rfl rfl ?_
 refine sg [0] rfl ?_
 refine rp rfl rfl (p_asg rfl rfl) ?_
 refine rz [(0, .t s0), (1, .t l1), (5, .i (0 : Int))] [] rfl rfl rfl ?_
 refine AW2_seq ?_
 refine AW2_block ?_
 refine as2 [(0, .t s0), (1, .t l1), (5, .i (0 : Int))] [] rfl rfl rfl ?_
 refine bindK H fun y'6 h8 H => ?_
 refine AW2_loopO (fun a'3 : Int => (⟨[(0, .t s0), (1, .t l1), (5, .i a'3)], [], 20⟩ : TS)) (fun (y'4 : Int) e s' => e = Go.Exit.exit 0 ∧ s' = (⟨[(5, .i y'4)], [], 20⟩ : TS)) h8 rfl (fun n5_0 x hx => ?_) (fun e s' hs => ?_)
 ·clear H
  have H := hx
  clear hx
  unfold g_ref_reach_l0 at H
  refine AW2_seq ?_
  refine AW2_seq ?_
  refine bindK H fun g'2 h5 H => ?_
  refine AW2_mid (⟨[(0, .t s0), (1, .t l1), (5, .i n5_0), (16, .b g'2)], [], 20⟩ : TS) ?_ ?_
  ·clear H
   have H := h5
   clear h5
   refine AW2_reg [0, 1, 2, 3, 4, 5, 6, 7, 8, 9, 10] rfl ?_
   refine rp rfl rfl (p_move rfl rfl) ?_
   refine rp rfl rfl (p_move rfl rfl) ?_
   refine rp rfl rfl (p_lent rfl Tryd.underlying9 rfl) ?_
   refine rp rfl rfl (p_bin rfl rfl rfl rfl) ?_
   refine rp rfl rfl (p_move rfl rfl) ?_
   refine (Classical.em (n5_0 < (s0.length : Int))).elim (fun h2 => ?_) (fun h2 => ?_)
   ·replace H := ite_then h2 H
    refine r_on rfl rfl rfl rfl (decide_eq_true h2) rfl (PureD.opD (p_move rfl rfl)) ?_
    refine r_on rfl rfl rfl rfl (decide_eq_true h2) rfl (PureD.opD (p_move rfl rfl)) ?_
    refine chkK H fun h3 H => ?_
    refine r_on rfl rfl rfl rfl (decide_eq_true h2) rfl (PureD.opD (p_ixt rfl Tryd.underlying9 rfl rfl (ixe h3) (lrd_get (ixn h3)))) ?_
    refine r_on rfl rfl rfl rfl (decide_eq_true h2) rfl (PureD.opD (p_move rfl rfl)) ?_
    refine bindK H fun r'1 h4 H => ?_
    refine r_on rfl rfl rfl rfl (decide_eq_true h2) rfl (PureD.opD (p_callp rfl rfl rfl Tryd.func56 rfl rfl (g_ref_among_ac h4) ⟨rfl, rfl, trivial⟩)) ?_
    refine rp rfl rfl (p_pkt rfl rfl (decide_eq_true h2) (.same _)) ?_
    refine rs [(0, .t s0), (1, .t l1), (5, .i n5_0), (16, .b r'1)] [] rfl rfl rfl ?_
    have hz := some_elim H
    subst hz
    exact RunW_nil rfl
   ·replace H := ite_else h2 H
    refine r_off rfl rfl rfl rfl (decide_eq_false h2) rfl rfl ?_
    refine r_off rfl rfl rfl rfl (decide_eq_false h2) rfl rfl ?_
    refine r_off rfl rfl rfl rfl (decide_eq_false h2) rfl rfl ?_
    refine r_off rfl rfl rfl rfl (decide_eq_false h2) rfl rfl ?_
    refine r_off rfl rfl rfl rfl (decide_eq_false h2) rfl rfl ?_
    refine rp rfl rfl (p_pkf rfl rfl (decide_eq_false h2) (.same _)) ?_
    refine rs [(0, .t s0), (1, .t l1), (5, .i n5_0), (16, .b false)] [] rfl rfl rfl ?_
    have hz := some_elim H
    subst hz
    exact RunW_nil rfl
  ·refine AW2_cond rfl (fun h6 => ?_) (fun h6 => ?_)
   ·replace H := ite_then h6 H
    refine as2 [(0, .t s0), (1, .t l1), (5, .i n5_0)] [] rfl rfl rfl ?_
    refine AW2_skip ?_
    refine AW2_block ?_
    refine AW2_reg [0, 1, 2] rfl ?_
    refine rp rfl rfl (p_move rfl rfl) ?_
    refine rp rfl rfl (p_bin rfl rfl rfl rfl) ?_
    refine rp rfl rfl (p_asg rfl rfl) ?_
    refine rz [(0, .t s0), (1, .t l1), (5, .i (w64 (n5_0 + (1 : Int))))] [] rfl rfl rfl ?_
    have hz := some_elim H
    subst hz
    exact ⟨rfl, rfl⟩
   ·replace H := ite_else (ne_true h6) H
    refine as2 [(5, .i n5_0)] [] rfl rfl rfl ?_
    refine AW2_exit ?_
    refine thenQ2_exit ?_
    have hz := some_elim H
    subst hz
    exact ⟨rfl, rfl⟩
 ·obtain ⟨rfl, rfl⟩ := hs
  refine ⟨by simp, ?_⟩
  refine blockQ2_exit ?_
  refine sg [0, 1] rfl ?_
  refine rp rfl rfl (p_move rfl rfl) ?_
  refine rp rfl rfl (p_asg rfl rfl) ?_
  refine rz [(4, .i y'6)] [] rfl rfl rfl ?_
  refine AW2_ret ?_
  have hz := some_elim H
  subst hz
  exact ⟨⟨res_tmp (.same _), trivial⟩, trivial⟩

/-! chirographref.isName -/
def g_ref_isName_t0 : List UInt8 := [97, 98, 99, 100, 101, 102, 103, 104, 105, 106, 107, 108, 109, 110, 111, 112, 113, 114, 115, 116, 117, 118, 119, 120, 121, 122]
def g_ref_isName_t1 : List UInt8 := [97, 98, 99, 100, 101, 102, 103, 104, 105, 106, 107, 108, 109, 110, 111, 112, 113, 114, 115, 116, 117, 118, 119, 120, 121, 122, 48, 49, 50, 51, 52, 53, 54, 55, 56, 57, 95]
noncomputable def g_ref_isName (s0 : List UInt8) : Option (Bool) :=
  ((if s0 ≠ [] then if 0 < s0.length then (g_ref_among (lrd s0 0) g_ref_isName_t0).bind fun r'1 => (if r'1 = true then (g_ref_reach s0 g_ref_isName_t1).bind fun r'2 => some (decide (r'2 = (s0.length : Int))) else some false) else none else some false)).bind fun g'3 => some g'3
set_option maxHeartbeats 4000000 in
set_option maxRecDepth 100000 in
theorem g_ref_isName_ac {s0 : List UInt8} {r : Bool} (H : g_ref_isName s0 = some r) : ACp Tryd.prog 33 [(AV.txt s0)] (AV.bool r) := by
 refine ACp_of (AC2_of_body (vs := [.b r]) Tryd.func33 rfl rfl (Nat.le_of_ble_eq_true rfl) rfl ?_) (fun _ => .same _)
 unfold g_ref_isName at H
 refine as2 [(0, .t s0)] [] rfl rfl rfl ?_
 refine sg [0] rfl ?_
 refine rp rfl rfl (p_asg rfl rfl) ?_
 refine rz [(0, .t s0)] [] rfl rfl rfl ?_
 refine AW2_seq ?_
 refine bindK H fun g'3 h7 H => ?_
 refine AW2_mid (⟨[(2, .b g'3)], [], 17⟩ : TS) ?_ ?_
 ·clear H
  have H := h7
  clear h7
  refine AW2_reg [0, 1, 2, 3, 4, 5, 6, 7, 8, 9, 10, 11, 12, 13, 14] rfl ?_
  refine rp rfl rfl (p_move rfl rfl) ?_
  refine rp rfl rfl (p_sne rfl rfl rfl) ?_
  refine rp rfl rfl (p_move rfl rfl) ?_
  refine (Classical.em (s0 ≠ [])).elim (fun h2 => ?_) (fun h2 => ?_)
  ·replace H := ite_then h2 H
   refine r_on rfl rfl rfl rfl (decide_eq_true h2) rfl (PureD.opD (p_move rfl rfl)) ?_
   refine chkK H fun h3 H => ?_
   refine r_on rfl rfl rfl rfl (decide_eq_true h2) rfl (PureD.opD (p_ixt rfl Tryd.underlying9 rfl rfl rfl (lrd_get h3))) ?_
   refine bindK H fun r'1 h4 H => ?_
   refine r_on rfl rfl rfl rfl (decide_eq_true h2) rfl (PureD.opD (p_callp rfl rfl rfl Tryd.func56 rfl rfl (g_ref_among_ac h4) ⟨rfl, by kernel_rfl, trivial⟩)) ?_
   refine rp rfl rfl (p_pkt rfl rfl (decide_eq_true h2) (.same _)) ?_
   refine rp rfl rfl (p_move rfl rfl) ?_
   refine (Classical.em (r'1 = true)).elim (fun h5 => ?_) (fun h5 => ?_)
   ·replace H := ite_then h5 H
    refine rn rfl rfl rfl rfl h5 rfl (p_move rfl rfl) ?_
    refine bindK H fun r'2 h6 H => ?_
    refine rn rfl rfl rfl rfl h5 rfl (p_callp rfl rfl rfl Tryd.func34 rfl rfl (g_ref_reach_ac h6) ⟨rfl, by kernel_rfl, trivial⟩) ?_
    refine rn rfl rfl rfl rfl h5 rfl (p_move rfl rfl) ?_
    refine rn rfl rfl rfl rfl h5 rfl (p_lent rfl Tryd.underlying9 rfl) ?_
    refine rn rfl rfl rfl rfl h5 rfl (p_ieq rfl rfl rfl) ?_
    refine rp rfl rfl (p_pkt rfl rfl h5 (.same _)) ?_
    refine rp rfl rfl (p_asg rfl rfl) ?_
    refine rs [(2, .b (decide (r'2 = (s0.length : Int))))] [] rfl rfl rfl ?_
    have hz := some_elim H
    subst hz
    exact RunW_nil rfl
   ·replace H := ite_else h5 H
    refine r_off rfl rfl rfl rfl (bfalse h5) rfl rfl ?_
    refine r_off rfl rfl rfl rfl (bfalse h5) rfl rfl ?_
    refine r_off rfl rfl rfl rfl (bfalse h5) rfl rfl ?_
    refine r_off rfl rfl rfl rfl (bfalse h5) rfl rfl ?_
    refine r_off rfl rfl rfl rfl (bfalse h5) rfl rfl ?_
    refine rp rfl rfl (p_pkf rfl rfl (bfalse h5) (.same _)) ?_
    refine rp rfl rfl (p_asg rfl rfl) ?_
    refine rs [(2, .b false)] [] rfl rfl rfl ?_
    have hz := some_elim H
    subst hz
    exact RunW_nil rfl
  ·replace H := ite_else h2 H
   refine r_off rfl rfl rfl rfl (decide_eq_false h2) rfl rfl ?_
   refine r_off rfl rfl rfl rfl (decide_eq_false h2) rfl rfl ?_
   refine r_off rfl rfl rfl rfl (decide_eq_false h2) rfl rfl ?_
   refine rp rfl rfl (p_pkf rfl rfl (decide_eq_false h2) (.same _)) ?_
   refine rp rfl rfl (p_move rfl rfl) ?_
   refine r_off rfl rfl rfl rfl (bfalse (by decide)) rfl rfl ?_
   refine r_off rfl rfl rfl rfl (bfalse (by decide)) rfl rfl ?_
   refine r_off rfl rfl rfl rfl (bfalse (by decide)) rfl rfl ?_
   refine r_off rfl rfl rfl rfl (bfalse (by decide)) rfl rfl ?_
   refine r_off rfl rfl rfl rfl (bfalse (by decide)) rfl rfl ?_
   refine rp rfl rfl (p_pkf rfl rfl (bfalse (by decide)) (.same _)) ?_
   refine rp rfl rfl (p_asg rfl rfl) ?_
   refine rs [(2, .b false)] [] rfl rfl rfl ?_
   have hz := some_elim H
   subst hz
   exact RunW_nil rfl
 ·refine AW2_ret ?_
  have hz := some_elim H
  subst hz
  exact ⟨⟨res_tmp (.same _), trivial⟩, trivial⟩

/-! chirographref.columnAt -/
noncomputable def g_ref_columnAt_l0 (cols0 : List GColumn) (name1 : List UInt8) : Int → Option (Int ⊕ (Int ⊕ Unit))
  | i5_0 => (if i5_0 ≥ (0 : Int) then if 0 ≤ i5_0 ∧ i5_0 < (cols0.length : Int) then (if (lrd cols0 i5_0.toNat).Name = name1 then some (.inr (.inl i5_0)) else some (.inl (w64 (i5_0 - (1 : Int))))) else none else some (.inr (.inr ())))
noncomputable def g_ref_columnAt (cols0 : List GColumn) (name1 : List UInt8) : Option (Int) :=
  (loopO (g_ref_columnAt_l0 cols0 name1) (w64 ((cols0.length : Int) - (1 : Int)))).bind fun o'4 => match o'4 with | .inl y'5 => some y'5 | .inr (y'6) => some (-1 : Int)
set_option maxHeartbeats 4000000 in
set_option maxRecDepth 100000 in
theorem g_ref_columnAt_ac {cols0 : List GColumn} {name1 : List UInt8} {r : Int} (H : g_ref_columnAt cols0 name1 = some r) : ACp Tryd.prog 41 [((fun q : List GColumn => AV.lst (q.flatMap GColumn.cs) q.length) cols0), (AV.txt name1)] (AV.int r) := by
 refine ACp_of (AC2_of_body (vs := [.i r]) Tryd.func41 rfl rfl (Nat.le_of_ble_eq_true rfl) rfl ?_) (fun _ => .same _)
 unfold g_ref_columnAt at H
 refine as2 [(0, .p ((fun q : List GColumn => AV.lst (q.flatMap GColumn.cs) q.length) cols0)), (1, .t name1)] [] rfl rfl rfl ?_
 refine sg [0] rfl ?_
 refine rp rfl rfl (p_asg rfl rfl) ?_
 refine rz [(0, .p ((fun q : List GColumn => AV.lst (q.flatMap GColumn.cs) q.length) cols0)), (1, .t name1)] [] rfl rfl rfl ?_
 refine AW2_seq ?_
 refine sg [0, 1, 2, 3] rfl ?_
 refine rp rfl rfl (p_move rfl rfl) ?_
 refine rp rfl rfl (p_lenl rfl Tryd.underlying35 rfl rfl) ?_
 refine rp rfl rfl (p_bin rfl rfl rfl rfl) ?_
 refine rp rfl rfl (p_asg rfl rfl) ?_
 refine rz [(0, .p ((fun q : List GColumn => AV.lst (q.flatMap GColumn.cs) q.length) cols0)), (1, .t name1), (5, .i (w64 ((cols0.length : Int) - (1 : Int))))] [] rfl rfl rfl ?_
 refine AW2_block ?_
 refine as2 [(0, .p ((fun q : List GColumn => AV.lst (q.flatMap GColumn.cs) q.length) cols0)), (1, .t name1), (5, .i (w64 ((cols0.length : Int) - (1 : Int))))] [] rfl rfl rfl ?_
 refine bindK H fun o'4 h4 H => ?_
 refine AW2_loopO (fun a'1 : Int => (⟨[(0, .p ((fun q : List GColumn => AV.lst (q.flatMap GColumn.cs) q.length) cols0)), (1, .t name1), (5, .i a'1)], [], 21⟩ : TS)) (fun (o : Int ⊕ Unit) e s' => match o with | .inl y'2 => e = Go.Exit.ret ∧ ResAll Tryd.prog s' [ResultVar.tmp 4] [.i y'2] ∧ HFits s' [] | .inr (y'3) => e = Go.Exit.exit 0 ∧ s' = (⟨[], [], 21⟩ : TS)) h4 rfl (fun i5_0 x hx => ?_) (fun e s' hs => ?_)
 ·clear H
  have H := hx
  clear hx
  unfold g_ref_columnAt_l0 at H
  refine AW2_seq ?_
  refine sg [0, 1] rfl ?_
  refine rp rfl rfl (p_move rfl rfl) ?_
  refine rp rfl rfl (p_bin rfl rfl rfl rfl) ?_
  refine rz [(0, .p ((fun q : List GColumn => AV.lst (q.flatMap GColumn.cs) q.length) cols0)), (1, .t name1), (5, .i i5_0), (10, .b (decide (i5_0 ≥ (0 : Int))))] [] rfl rfl rfl ?_
  refine AW2_if (p := i5_0 ≥ (0 : Int)) rfl (fun h1 => ?_) (fun h1 => ?_)
  ·replace H := ite_then h1 H
   refine as2 [(0, .p ((fun q : List GColumn => AV.lst (q.flatMap GColumn.cs) q.length) cols0)), (1, .t name1), (5, .i i5_0)] [] rfl rfl rfl ?_
   refine AW2_skip ?_
   refine AW2_seq ?_
   refine AW2_block ?_
   refine sg [0, 1, 2, 3, 4, 5, 6] rfl ?_
   refine rp rfl rfl (p_move rfl rfl) ?_
   refine rp rfl rfl (p_move rfl rfl) ?_
   refine chkK H fun h2 H => ?_
   refine rp rfl rfl (u_ixl rfl rfl Tryd.underlying35 in_68 rfl rfl (ixe h2) (ixn h2) (fne (fun x => (GColumn.len x)) (by decide) (ixn h2))) ?_
   refine rp rfl rfl (u_far rfl rfl Tryd.underlying68 rfl in_9 (Nat.succ_ne_zero _) rfl) ?_
   refine rp rfl rfl (u_ld rfl rfl Tryd.underlying9 rfl rfl ((Sub.fm default (fun x => (GColumn.len x)) (ixn h2)).trans (GColumn.sub0 (lrd cols0 i5_0.toNat)))) ?_
   refine rp rfl rfl (p_move rfl rfl) ?_
   refine rp rfl rfl (p_seq rfl rfl rfl) ?_
   refine rz [(0, .p ((fun q : List GColumn => AV.lst (q.flatMap GColumn.cs) q.length) cols0)), (1, .t name1), (5, .i i5_0), (19, .b (decide ((lrd cols0 i5_0.toNat).Name = name1)))] [] rfl rfl rfl ?_
   refine AW2_if (p := (lrd cols0 i5_0.toNat).Name = name1) rfl (fun h3 => ?_) (fun h3 => ?_)
   ·replace H := ite_then h3 H
    refine sg [0, 1] rfl ?_
    refine rp rfl rfl (p_move rfl rfl) ?_
    refine rp rfl rfl (p_asg rfl rfl) ?_
    refine rz [(4, .i i5_0)] [] rfl rfl rfl ?_
    refine AW2_ret ?_
    have hz := some_elim H
    subst hz
    exact ⟨rfl, ⟨res_tmp (.same _), trivial⟩, trivial⟩
   ·replace H := ite_else h3 H
    refine as2 [(0, .p ((fun q : List GColumn => AV.lst (q.flatMap GColumn.cs) q.length) cols0)), (1, .t name1), (5, .i i5_0)] [] rfl rfl rfl ?_
    refine AW2_skip ?_
    refine AW2_reg [0, 1, 2] rfl ?_
    refine rp rfl rfl (p_move rfl rfl) ?_
    refine rp rfl rfl (p_bin rfl rfl rfl rfl) ?_
    refine rp rfl rfl (p_asg rfl rfl) ?_
    refine rz [(0, .p ((fun q : List GColumn => AV.lst (q.flatMap GColumn.cs) q.length) cols0)), (1, .t name1), (5, .i (w64 (i5_0 - (1 : Int))))] [] rfl rfl rfl ?_
    have hz := some_elim H
    subst hz
    exact ⟨rfl, rfl⟩
  ·replace H := ite_else h1 H
   refine as2 [] [] rfl rfl rfl ?_
   refine AW2_exit ?_
   refine thenQ2_exit ?_
   have hz := some_elim H
   subst hz
   exact ⟨rfl, rfl⟩
 ·rcases o'4 with y'5 | y'6
  ·obtain ⟨rfl, hs⟩ := hs
   refine ⟨by simp, ?_⟩
   have hz := some_elim H
   subst hz
   exact ⟨hs.1, hs.2⟩
  ·obtain ⟨rfl, rfl⟩ := hs
   refine ⟨by simp, ?_⟩
   refine blockQ2_exit ?_
   refine sg [0] rfl ?_
   refine rp rfl rfl (p_asg rfl rfl) ?_
   refine rz [(4, .i (-1 : Int))] [] rfl rfl rfl ?_
   refine AW2_ret ?_
   have hz := some_elim H
   subst hz
   exact ⟨⟨res_tmp (.same _), trivial⟩, trivial⟩

/-! chirographref.ColumnsFault -/
def g_ref_ColumnsFault_r10 : List (List (Nat × Option Nat)) := [[(0, none)], [(3, none)], [(46, some 0), (47, some 1)], [(4, none)], [(49, some 3)]]
def g_ref_ColumnsFault_r10c : List (List Nat) := [[], [], [0, 1], [], [3], [0, 1, 2, 3, 4], [0, 1, 2, 3, 4, 5], [0, 1, 2, 3, 4, 5, 6]]
noncomputable def g_ref_ColumnsFault_l0 (cols0 : List GColumn) : Int → Option (Int ⊕ (Int ⊕ Unit))
  | t10_0 => (if t10_0 < (cols0.length : Int) then if 0 ≤ t10_0 ∧ t10_0 < (cols0.length : Int) then (g_ref_isName ((lrd cols0 t10_0.toNat).Name)).bind fun r'1 => (if ((!r'1) = true) ∨ ((((lrd cols0 t10_0.toNat).Name).length : Int) > (8 : Int)) then some (.inr (.inl (3 : Int))) else letO (decide (((((lrd cols0 t10_0.toNat).Kind ≠ (1 : Int)) ∧ ((lrd cols0 t10_0.toNat).Kind ≠ (2 : Int))) ∧ ((lrd cols0 t10_0.toNat).Kind ≠ (3 : Int))) ∧ ((lrd cols0 t10_0.toNat).Kind ≠ (4 : Int)))) fun t26'2 => (if t26'2 = true then some (.inr (.inl (2 : Int))) else if 0 ≤ t10_0 ∧ t10_0 ≤ (cols0.length : Int) then (g_ref_columnAt (cut cols0 (0 : Int) t10_0) ((lrd cols0 t10_0.toNat).Name)).bind fun r'3 => (if r'3 ≥ (0 : Int) then some (.inr (.inl (8 : Int))) else some (.inl (w64 (t10_0 + (1 : Int))))) else none)) else none else some (.inr (.inr ())))
noncomputable def g_ref_ColumnsFault (cols0 : List GColumn) : Option (Int) :=
  (if (cols0.length : Int) > (5 : Int) then some (1 : Int) else (loopO (g_ref_ColumnsFault_l0 cols0) (0 : Int)).bind fun o'7 => match o'7 with | .inl y'8 => some y'8 | .inr (y'9) => some (0 : Int))
set_option maxHeartbeats 4000000 in
set_option maxRecDepth 100000 in
theorem g_ref_ColumnsFault_ac {cols0 : List GColumn} {r : Int} (H : g_ref_ColumnsFault cols0 = some r) : ACp Tryd.prog 15 [((fun q : List GColumn => AV.lst (q.flatMap GColumn.cs) q.length) cols0)] (AV.int r) := by
 refine ACp_of (AC2_of_body (vs := [.i r]) Tryd.func15 rfl rfl (Nat.le_of_ble_eq_true rfl) rfl ?_) (fun _ => .same _)
 unfold g_ref_ColumnsFault at H
 refine as2 [(0, .p ((fun q : List GColumn => AV.lst (q.flatMap GColumn.cs) q.length) cols0))] [] rfl rfl rfl ?_
 refine sg [0] rfl ?_
 refine rp rfl rfl (p_asg rfl rfl) ?_
 refine rz [(0, .p ((fun q : List GColumn => AV.lst (q.flatMap GColumn.cs) q.length) cols0))] [] rfl rfl rfl ?_
 refine AW2_seq ?_
 refine sg [0, 1, 2] rfl ?_
 refine rp rfl rfl (p_move rfl rfl) ?_
 refine rp rfl rfl (p_lenl rfl Tryd.underlying35 rfl rfl) ?_
 refine rp rfl rfl (p_bin rfl rfl rfl rfl) ?_
 refine rz [(0, .p ((fun q : List GColumn => AV.lst (q.flatMap GColumn.cs) q.length) cols0)), (7, .b (decide ((cols0.length : Int) > (5 : Int))))] [] rfl rfl rfl ?_
 refine AW2_if (p := (cols0.length : Int) > (5 : Int)) rfl (fun h1 => ?_) (fun h1 => ?_)
 ·replace H := ite_then h1 H
  refine sg [0] rfl ?_
  refine rp rfl rfl (p_asg rfl rfl) ?_
  refine rz [(2, .i (1 : Int))] [] rfl rfl rfl ?_
  refine AW2_ret ?_
  have hz := some_elim H
  subst hz
  exact ⟨⟨res_tmp (.same _), trivial⟩, trivial⟩
 ·replace H := ite_else h1 H
  refine as2 [(0, .p ((fun q : List GColumn => AV.lst (q.flatMap GColumn.cs) q.length) cols0))] [] rfl rfl rfl ?_
  refine AW2_skip ?_
  refine AW2_seq ?_
  refine sg [0, 1, 2] rfl ?_
  refine rp rfl rfl (p_move rfl rfl) ?_
  refine rp rfl rfl (p_lenl rfl Tryd.underlying35 rfl rfl) ?_
  refine rp rfl rfl (p_move rfl rfl) ?_
  refine rz [(0, .p ((fun q : List GColumn => AV.lst (q.flatMap GColumn.cs) q.length) cols0)), (8, .p ((fun q : List GColumn => AV.lst (q.flatMap GColumn.cs) q.length) cols0)), (9, .i (cols0.length : Int)), (10, .i (0 : Int))] [] rfl rfl rfl ?_
  refine AW2_block ?_
  refine as2 [(0, .p ((fun q : List GColumn => AV.lst (q.flatMap GColumn.cs) q.length) cols0)), (8, .p ((fun q : List GColumn => AV.lst (q.flatMap GColumn.cs) q.length) cols0)), (9, .i (cols0.length : Int)), (10, .i (0 : Int))] [] rfl rfl rfl ?_
  refine bindK H fun o'7 h14 H => ?_
  refine AW2_loopO (fun a'4 : Int => (⟨[(0, .p ((fun q : List GColumn => AV.lst (q.flatMap GColumn.cs) q.length) cols0)), (8, .p ((fun q : List GColumn => AV.lst (q.flatMap GColumn.cs) q.length) cols0)), (9, .i (cols0.length : Int)), (10, .i a'4)], [], 54⟩ : TS)) (fun (o : Int ⊕ Unit) e s' => match o with | .inl y'5 => e = Go.Exit.ret ∧ ResAll Tryd.prog s' [ResultVar.tmp 2] [.i y'5] ∧ HFits s' [] | .inr (y'6) => e = Go.Exit.exit 0 ∧ s' = (⟨[], [], 54⟩ : TS)) h14 rfl (fun t10_0 x hx => ?_) (fun e s' hs => ?_)
  ·clear H
   have H := hx
   clear hx
   unfold g_ref_ColumnsFault_l0 at H
   refine sg [0] rfl ?_
   refine rp rfl rfl (p_bin rfl rfl rfl rfl) ?_
   refine rz [(0, .p ((fun q : List GColumn => AV.lst (q.flatMap GColumn.cs) q.length) cols0)), (8, .p ((fun q : List GColumn => AV.lst (q.flatMap GColumn.cs) q.length) cols0)), (9, .i (cols0.length : Int)), (10, .i t10_0), (11, .b (decide (t10_0 < (cols0.length : Int))))] [] rfl rfl rfl ?_
   refine AW2_seq ?_
   refine AW2_if (p := t10_0 < (cols0.length : Int)) rfl (fun h2 => ?_) (fun h2 => ?_)
   ·replace H := ite_then h2 H
    refine as2 [(0, .p ((fun q : List GColumn => AV.lst (q.flatMap GColumn.cs) q.length) cols0)), (8, .p ((fun q : List GColumn => AV.lst (q.flatMap GColumn.cs) q.length) cols0)), (9, .i (cols0.length : Int)), (10, .i t10_0)] [] rfl rfl rfl ?_
    refine AW2_skip ?_
    refine AW2_seq ?_
    refine AW2_block ?_
    refine sg [0, 1, 2, 3, 4, 5] rfl ?_
    refine rp rfl rfl (p_move rfl rfl) ?_
    refine chkK H fun h3 H => ?_
    refine rp rfl rfl (u_ixl rfl rfl Tryd.underlying35 in_68 rfl rfl (ixe h3) (ixn h3) (fne (fun x => (GColumn.len x)) (by decide) (ixn h3))) ?_
    refine rp rfl rfl (u_lda rfl rfl Tryd.underlying68 rfl in_68 rfl (Nat.succ_pos _) (Sub.fm default (fun x => (GColumn.len x)) (ixn h3)) (GColumn.len (lrd cols0 t10_0.toNat))) ?_
    refine r_op rfl rfl (MakeD.opD (u_alloc 4 rfl in_68 one_68 zc_68) rfl rfl rfl rfl) ?_
    refine rp rfl rfl (p_asg rfl rfl) ?_
    refine r_op rfl rfl (u_st rfl rfl rfl rfl rfl in_68 (GColumn.len (lrd cols0 t10_0.toNat)) (ne_of_lt (n := 0) (Nat.lt_of_lt_of_eq (by decide) (Eq.symm (GColumn.len GColumn.zero)))) (Upd.refl ((GColumn.len (lrd cols0 t10_0.toNat)).trans (GColumn.len GColumn.zero).symm))) ?_
    refine rz [(0, .p ((fun q : List GColumn => AV.lst (q.flatMap GColumn.cs) q.length) cols0)), (3, .i t10_0), (4, .q 4 (0)), (8, .p ((fun q : List GColumn => AV.lst (q.flatMap GColumn.cs) q.length) cols0)), (9, .i (cols0.length : Int)), (10, .i t10_0)] [(4, .pure (GColumn.cs (lrd cols0 t10_0.toNat)))] rfl rfl rfl ?_
    refine AW2_block ?_
    refine AW2_seq ?_
    refine bindK H fun r'1 h4 H => ?_
    refine AW2_mid (⟨[(0, .p ((fun q : List GColumn => AV.lst (q.flatMap GColumn.cs) q.length) cols0)), (3, .i t10_0), (4, .q 4 (0)), (8, .p ((fun q : List GColumn => AV.lst (q.flatMap GColumn.cs) q.length) cols0)), (9, .i (cols0.length : Int)), (10, .i t10_0), (15, .b (decide (((!r'1) = true) ∨ ((((lrd cols0 t10_0.toNat).Name).length : Int) > (8 : Int)))))], [(4, .pure (GColumn.cs (lrd cols0 t10_0.toNat)))], 54⟩ : TS) ?_ ?_
    ·refine AW2_reg [0, 1, 2, 3, 4, 5, 6, 7, 8, 9, 10] rfl ?_
     refine rp rfl rfl (u_fa rfl rfl Tryd.underlying68 rfl in_9 (Nat.succ_ne_zero _) rfl rfl (ne_of_lt (n := 0) (Nat.lt_of_lt_of_eq (by decide) (Eq.symm (GColumn.len (lrd cols0 t10_0.toNat)))))) ?_
     refine rp rfl rfl (u_ld rfl rfl Tryd.underlying9 rfl rfl ((Sub.refl _).trans (GColumn.sub0 (lrd cols0 t10_0.toNat)))) ?_
     refine rp rfl rfl (p_callp rfl rfl rfl Tryd.func33 rfl rfl (g_ref_isName_ac h4) ⟨rfl, trivial⟩) ?_
     refine rp rfl rfl (p_not rfl rfl) ?_
     refine rp rfl rfl (p_move rfl rfl) ?_
     refine (Classical.em ((!r'1) = true)).elim (fun h5 => ?_) (fun h5 => ?_)
     ·refine r_off rfl rfl rfl rfl h5 rfl rfl ?_
      refine r_off rfl rfl rfl rfl h5 rfl rfl ?_
      refine r_off rfl rfl rfl rfl h5 rfl rfl ?_
      refine r_off rfl rfl rfl rfl h5 rfl rfl ?_
      refine rp rfl rfl (p_pkt rfl rfl h5 (tb (decide_eq_true (p := ((!r'1) = true) ∨ ((((lrd cols0 t10_0.toNat).Name).length : Int) > (8 : Int))) (Or.inl h5)).symm)) ?_
      refine rp rfl rfl (p_asg rfl rfl) ?_
      refine rs [(0, .p ((fun q : List GColumn => AV.lst (q.flatMap GColumn.cs) q.length) cols0)), (3, .i t10_0), (4, .q 4 (0)), (8, .p ((fun q : List GColumn => AV.lst (q.flatMap GColumn.cs) q.length) cols0)), (9, .i (cols0.length : Int)), (10, .i t10_0), (15, .b (decide (((!r'1) = true) ∨ ((((lrd cols0 t10_0.toNat).Name).length : Int) > (8 : Int)))))] [(4, .pure (GColumn.cs (lrd cols0 t10_0.toNat)))] rfl rfl rfl ?_
      exact RunW_nil rfl
     ·refine r_on rfl rfl rfl rfl (bfalse h5) rfl (PureD.opD (u_fa rfl rfl Tryd.underlying68 rfl in_9 (Nat.succ_ne_zero _) rfl rfl (ne_of_lt (n := 0) (Nat.lt_of_lt_of_eq (by decide) (Eq.symm (GColumn.len (lrd cols0 t10_0.toNat))))))) ?_
      refine r_on rfl rfl rfl rfl (bfalse h5) rfl (PureD.opD (u_ld rfl rfl Tryd.underlying9 rfl rfl ((Sub.refl _).trans (GColumn.sub0 (lrd cols0 t10_0.toNat))))) ?_
      refine r_on rfl rfl rfl rfl (bfalse h5) rfl (PureD.opD (p_lent rfl Tryd.underlying9 rfl)) ?_
      refine r_on rfl rfl rfl rfl (bfalse h5) rfl (PureD.opD (p_bin rfl rfl rfl rfl)) ?_
      refine rp rfl rfl (p_pkf rfl rfl (bfalse h5) (tb ((or_l (p := (!r'1) = true) (q := (((lrd cols0 t10_0.toNat).Name).length : Int) > (8 : Int)) h5)))) ?_
      refine rp rfl rfl (p_asg rfl rfl) ?_
      refine rs [(0, .p ((fun q : List GColumn => AV.lst (q.flatMap GColumn.cs) q.length) cols0)), (3, .i t10_0), (4, .q 4 (0)), (8, .p ((fun q : List GColumn => AV.lst (q.flatMap GColumn.cs) q.length) cols0)), (9, .i (cols0.length : Int)), (10, .i t10_0), (15, .b (decide (((!r'1) = true) ∨ ((((lrd cols0 t10_0.toNat).Name).length : Int) > (8 : Int)))))] [(4, .pure (GColumn.cs (lrd cols0 t10_0.toNat)))] rfl rfl rfl ?_
      exact RunW_nil rfl
    ·refine AW2_if (p := ((!r'1) = true) ∨ ((((lrd cols0 t10_0.toNat).Name).length : Int) > (8 : Int))) rfl (fun h6 => ?_) (fun h6 => ?_)
     ·replace H := ite_then h6 H
      refine sg [0] rfl ?_
      refine rp rfl rfl (p_asg rfl rfl) ?_
      refine rz [(2, .i (3 : Int))] [] rfl rfl rfl ?_
      refine AW2_ret ?_
      have hz := some_elim H
      subst hz
      exact ⟨rfl, ⟨res_tmp (.same _), trivial⟩, trivial⟩
     ·replace H := ite_else h6 H
      refine AW2_seq ?_
      refine AW2_mid (⟨[(0, .p ((fun q : List GColumn => AV.lst (q.flatMap GColumn.cs) q.length) cols0)), (3, .i t10_0), (4, .q 4 (0)), (8, .p ((fun q : List GColumn => AV.lst (q.flatMap GColumn.cs) q.length) cols0)), (9, .i (cols0.length : Int)), (10, .i t10_0), (26, .b (decide (((((lrd cols0 t10_0.toNat).Kind ≠ (1 : Int)) ∧ ((lrd cols0 t10_0.toNat).Kind ≠ (2 : Int))) ∧ ((lrd cols0 t10_0.toNat).Kind ≠ (3 : Int))) ∧ ((lrd cols0 t10_0.toNat).Kind ≠ (4 : Int)))))], [(4, .pure (GColumn.cs (lrd cols0 t10_0.toNat)))], 54⟩ : TS) ?_ ?_
      ·refine AW2_reg [0, 1, 2, 3, 4, 5, 6, 7, 8, 9, 10, 11, 12, 13, 14, 15, 16, 17, 18] rfl ?_
       refine rp rfl rfl (u_fa rfl rfl Tryd.underlying68 rfl in_3 (Nat.succ_ne_zero _) rfl rfl (ne_of_lt (n := 0) (Nat.lt_of_lt_of_eq (by decide) (Eq.symm (GColumn.len (lrd cols0 t10_0.toNat)))))) ?_
       refine rp rfl rfl (u_ld rfl rfl Tryd.underlying3 rfl rfl ((Sub.refl _).trans (GColumn.sub1 (lrd cols0 t10_0.toNat)))) ?_
       refine rp rfl rfl (p_ine rfl rfl rfl) ?_
       refine rp rfl rfl (p_move rfl rfl) ?_
       refine (Classical.em ((lrd cols0 t10_0.toNat).Kind ≠ (1 : Int))).elim (fun h7 => ?_) (fun h7 => ?_)
       ·refine r_on rfl rfl rfl rfl (decide_eq_true h7) rfl (PureD.opD (u_fa rfl rfl Tryd.underlying68 rfl in_3 (Nat.succ_ne_zero _) rfl rfl (ne_of_lt (n := 0) (Nat.lt_of_lt_of_eq (by decide) (Eq.symm (GColumn.len (lrd cols0 t10_0.toNat))))))) ?_
        refine r_on rfl rfl rfl rfl (decide_eq_true h7) rfl (PureD.opD (u_ld rfl rfl Tryd.underlying3 rfl rfl ((Sub.refl _).trans (GColumn.sub1 (lrd cols0 t10_0.toNat))))) ?_
        refine r_on rfl rfl rfl rfl (decide_eq_true h7) rfl (PureD.opD (p_ine rfl rfl rfl)) ?_
        refine rp rfl rfl (p_pkt rfl rfl (decide_eq_true h7) (tb ((and_l (p := (lrd cols0 t10_0.toNat).Kind ≠ (1 : Int)) (q := (lrd cols0 t10_0.toNat).Kind ≠ (2 : Int)) h7)))) ?_
        refine rp rfl rfl (p_move rfl rfl) ?_
        refine (Classical.em ((lrd cols0 t10_0.toNat).Kind ≠ (2 : Int))).elim (fun h8 => ?_) (fun h8 => ?_)
        ·refine r_on rfl rfl rfl rfl (decide_eq_true (p := ((lrd cols0 t10_0.toNat).Kind ≠ (1 : Int)) ∧ ((lrd cols0 t10_0.toNat).Kind ≠ (2 : Int))) ⟨h7, h8⟩) rfl (PureD.opD (u_fa rfl rfl Tryd.underlying68 rfl in_3 (Nat.succ_ne_zero _) rfl rfl (ne_of_lt (n := 0) (Nat.lt_of_lt_of_eq (by decide) (Eq.symm (GColumn.len (lrd cols0 t10_0.toNat))))))) ?_
         refine r_on rfl rfl rfl rfl (decide_eq_true (p := ((lrd cols0 t10_0.toNat).Kind ≠ (1 : Int)) ∧ ((lrd cols0 t10_0.toNat).Kind ≠ (2 : Int))) ⟨h7, h8⟩) rfl (PureD.opD (u_ld rfl rfl Tryd.underlying3 rfl rfl ((Sub.refl _).trans (GColumn.sub1 (lrd cols0 t10_0.toNat))))) ?_
         refine r_on rfl rfl rfl rfl (decide_eq_true (p := ((lrd cols0 t10_0.toNat).Kind ≠ (1 : Int)) ∧ ((lrd cols0 t10_0.toNat).Kind ≠ (2 : Int))) ⟨h7, h8⟩) rfl (PureD.opD (p_ine rfl rfl rfl)) ?_
         refine rp rfl rfl (p_pkt rfl rfl (decide_eq_true (p := ((lrd cols0 t10_0.toNat).Kind ≠ (1 : Int)) ∧ ((lrd cols0 t10_0.toNat).Kind ≠ (2 : Int))) ⟨h7, h8⟩) (tb ((and_l (p := ((lrd cols0 t10_0.toNat).Kind ≠ (1 : Int)) ∧ ((lrd cols0 t10_0.toNat).Kind ≠ (2 : Int))) (q := (lrd cols0 t10_0.toNat).Kind ≠ (3 : Int)) ⟨h7, h8⟩)))) ?_
         refine rp rfl rfl (p_move rfl rfl) ?_
         refine (Classical.em ((lrd cols0 t10_0.toNat).Kind ≠ (3 : Int))).elim (fun h9 => ?_) (fun h9 => ?_)
         ·refine r_on rfl rfl rfl rfl (decide_eq_true (p := (((lrd cols0 t10_0.toNat).Kind ≠ (1 : Int)) ∧ ((lrd cols0 t10_0.toNat).Kind ≠ (2 : Int))) ∧ ((lrd cols0 t10_0.toNat).Kind ≠ (3 : Int))) ⟨⟨h7, h8⟩, h9⟩) rfl (PureD.opD (u_fa rfl rfl Tryd.underlying68 rfl in_3 (Nat.succ_ne_zero _) rfl rfl (ne_of_lt (n := 0) (Nat.lt_of_lt_of_eq (by decide) (Eq.symm (GColumn.len (lrd cols0 t10_0.toNat))))))) ?_
          refine r_on rfl rfl rfl rfl (decide_eq_true (p := (((lrd cols0 t10_0.toNat).Kind ≠ (1 : Int)) ∧ ((lrd cols0 t10_0.toNat).Kind ≠ (2 : Int))) ∧ ((lrd cols0 t10_0.toNat).Kind ≠ (3 : Int))) ⟨⟨h7, h8⟩, h9⟩) rfl (PureD.opD (u_ld rfl rfl Tryd.underlying3 rfl rfl ((Sub.refl _).trans (GColumn.sub1 (lrd cols0 t10_0.toNat))))) ?_
          refine r_on rfl rfl rfl rfl (decide_eq_true (p := (((lrd cols0 t10_0.toNat).Kind ≠ (1 : Int)) ∧ ((lrd cols0 t10_0.toNat).Kind ≠ (2 : Int))) ∧ ((lrd cols0 t10_0.toNat).Kind ≠ (3 : Int))) ⟨⟨h7, h8⟩, h9⟩) rfl (PureD.opD (p_ine rfl rfl rfl)) ?_
          refine rp rfl rfl (p_pkt rfl rfl (decide_eq_true (p := (((lrd cols0 t10_0.toNat).Kind ≠ (1 : Int)) ∧ ((lrd cols0 t10_0.toNat).Kind ≠ (2 : Int))) ∧ ((lrd cols0 t10_0.toNat).Kind ≠ (3 : Int))) ⟨⟨h7, h8⟩, h9⟩) (tb ((and_l (p := (((lrd cols0 t10_0.toNat).Kind ≠ (1 : Int)) ∧ ((lrd cols0 t10_0.toNat).Kind ≠ (2 : Int))) ∧ ((lrd cols0 t10_0.toNat).Kind ≠ (3 : Int))) (q := (lrd cols0 t10_0.toNat).Kind ≠ (4 : Int)) ⟨⟨h7, h8⟩, h9⟩)))) ?_
          refine rp rfl rfl (p_asg rfl rfl) ?_
          refine rs [(0, .p ((fun q : List GColumn => AV.lst (q.flatMap GColumn.cs) q.length) cols0)), (3, .i t10_0), (4, .q 4 (0)), (8, .p ((fun q : List GColumn => AV.lst (q.flatMap GColumn.cs) q.length) cols0)), (9, .i (cols0.length : Int)), (10, .i t10_0), (26, .b (decide (((((lrd cols0 t10_0.toNat).Kind ≠ (1 : Int)) ∧ ((lrd cols0 t10_0.toNat).Kind ≠ (2 : Int))) ∧ ((lrd cols0 t10_0.toNat).Kind ≠ (3 : Int))) ∧ ((lrd cols0 t10_0.toNat).Kind ≠ (4 : Int)))))] [(4, .pure (GColumn.cs (lrd cols0 t10_0.toNat)))] rfl rfl rfl ?_
          exact RunW_nil rfl
         ·refine r_off rfl rfl rfl rfl (decide_eq_false (p := (((lrd cols0 t10_0.toNat).Kind ≠ (1 : Int)) ∧ ((lrd cols0 t10_0.toNat).Kind ≠ (2 : Int))) ∧ ((lrd cols0 t10_0.toNat).Kind ≠ (3 : Int))) (fun h => h9 h.2)) rfl rfl ?_
          refine r_off rfl rfl rfl rfl (decide_eq_false (p := (((lrd cols0 t10_0.toNat).Kind ≠ (1 : Int)) ∧ ((lrd cols0 t10_0.toNat).Kind ≠ (2 : Int))) ∧ ((lrd cols0 t10_0.toNat).Kind ≠ (3 : Int))) (fun h => h9 h.2)) rfl rfl ?_
          refine r_off rfl rfl rfl rfl (decide_eq_false (p := (((lrd cols0 t10_0.toNat).Kind ≠ (1 : Int)) ∧ ((lrd cols0 t10_0.toNat).Kind ≠ (2 : Int))) ∧ ((lrd cols0 t10_0.toNat).Kind ≠ (3 : Int))) (fun h => h9 h.2)) rfl rfl ?_
          refine rp rfl rfl (p_pkf rfl rfl (decide_eq_false (p := (((lrd cols0 t10_0.toNat).Kind ≠ (1 : Int)) ∧ ((lrd cols0 t10_0.toNat).Kind ≠ (2 : Int))) ∧ ((lrd cols0 t10_0.toNat).Kind ≠ (3 : Int))) (fun h => h9 h.2)) (tb (decide_eq_false (p := ((((lrd cols0 t10_0.toNat).Kind ≠ (1 : Int)) ∧ ((lrd cols0 t10_0.toNat).Kind ≠ (2 : Int))) ∧ ((lrd cols0 t10_0.toNat).Kind ≠ (3 : Int))) ∧ ((lrd cols0 t10_0.toNat).Kind ≠ (4 : Int))) (fun x => (fun h => h9 h.2) x.1)).symm)) ?_
          refine rp rfl rfl (p_asg rfl rfl) ?_
          refine rs [(0, .p ((fun q : List GColumn => AV.lst (q.flatMap GColumn.cs) q.length) cols0)), (3, .i t10_0), (4, .q 4 (0)), (8, .p ((fun q : List GColumn => AV.lst (q.flatMap GColumn.cs) q.length) cols0)), (9, .i (cols0.length : Int)), (10, .i t10_0), (26, .b (decide (((((lrd cols0 t10_0.toNat).Kind ≠ (1 : Int)) ∧ ((lrd cols0 t10_0.toNat).Kind ≠ (2 : Int))) ∧ ((lrd cols0 t10_0.toNat).Kind ≠ (3 : Int))) ∧ ((lrd cols0 t10_0.toNat).Kind ≠ (4 : Int)))))] [(4, .pure (GColumn.cs (lrd cols0 t10_0.toNat)))] rfl rfl rfl ?_
          exact RunW_nil rfl
        ·refine r_off rfl rfl rfl rfl (decide_eq_false (p := ((lrd cols0 t10_0.toNat).Kind ≠ (1 : Int)) ∧ ((lrd cols0 t10_0.toNat).Kind ≠ (2 : Int))) (fun h => h8 h.2)) rfl rfl ?_
         refine r_off rfl rfl rfl rfl (decide_eq_false (p := ((lrd cols0 t10_0.toNat).Kind ≠ (1 : Int)) ∧ ((lrd cols0 t10_0.toNat).Kind ≠ (2 : Int))) (fun h => h8 h.2)) rfl rfl ?_
         refine r_off rfl rfl rfl rfl (decide_eq_false (p := ((lrd cols0 t10_0.toNat).Kind ≠ (1 : Int)) ∧ ((lrd cols0 t10_0.toNat).Kind ≠ (2 : Int))) (fun h => h8 h.2)) rfl rfl ?_
         refine rp rfl rfl (p_pkf rfl rfl (decide_eq_false (p := ((lrd cols0 t10_0.toNat).Kind ≠ (1 : Int)) ∧ ((lrd cols0 t10_0.toNat).Kind ≠ (2 : Int))) (fun h => h8 h.2)) (tb (decide_eq_false (p := (((lrd cols0 t10_0.toNat).Kind ≠ (1 : Int)) ∧ ((lrd cols0 t10_0.toNat).Kind ≠ (2 : Int))) ∧ ((lrd cols0 t10_0.toNat).Kind ≠ (3 : Int))) (fun x => (fun h => h8 h.2) x.1)).symm)) ?_
         refine rp rfl rfl (p_move rfl rfl) ?_
         refine r_off rfl rfl rfl rfl (decide_eq_false (p := (((lrd cols0 t10_0.toNat).Kind ≠ (1 : Int)) ∧ ((lrd cols0 t10_0.toNat).Kind ≠ (2 : Int))) ∧ ((lrd cols0 t10_0.toNat).Kind ≠ (3 : Int))) (fun h => (fun h => h8 h.2) h.1)) rfl rfl ?_
         refine r_off rfl rfl rfl rfl (decide_eq_false (p := (((lrd cols0 t10_0.toNat).Kind ≠ (1 : Int)) ∧ ((lrd cols0 t10_0.toNat).Kind ≠ (2 : Int))) ∧ ((lrd cols0 t10_0.toNat).Kind ≠ (3 : Int))) (fun h => (fun h => h8 h.2) h.1)) rfl rfl ?_
         refine r_off rfl rfl rfl rfl (decide_eq_false (p := (((lrd cols0 t10_0.toNat).Kind ≠ (1 : Int)) ∧ ((lrd cols0 t10_0.toNat).Kind ≠ (2 : Int))) ∧ ((lrd cols0 t10_0.toNat).Kind ≠ (3 : Int))) (fun h => (fun h => h8 h.2) h.1)) rfl rfl ?_
         refine rp rfl rfl (p_pkf rfl rfl (decide_eq_false (p := (((lrd cols0 t10_0.toNat).Kind ≠ (1 : Int)) ∧ ((lrd cols0 t10_0.toNat).Kind ≠ (2 : Int))) ∧ ((lrd cols0 t10_0.toNat).Kind ≠ (3 : Int))) (fun h => (fun h => h8 h.2) h.1)) (tb (decide_eq_false (p := ((((lrd cols0 t10_0.toNat).Kind ≠ (1 : Int)) ∧ ((lrd cols0 t10_0.toNat).Kind ≠ (2 : Int))) ∧ ((lrd cols0 t10_0.toNat).Kind ≠ (3 : Int))) ∧ ((lrd cols0 t10_0.toNat).Kind ≠ (4 : Int))) (fun x => (fun h => (fun h => h8 h.2) h.1) x.1)).symm)) ?_
         refine rp rfl rfl (p_asg rfl rfl) ?_
         refine rs [(0, .p ((fun q : List GColumn => AV.lst (q.flatMap GColumn.cs) q.length) cols0)), (3, .i t10_0), (4, .q 4 (0)), (8, .p ((fun q : List GColumn => AV.lst (q.flatMap GColumn.cs) q.length) cols0)), (9, .i (cols0.length : Int)), (10, .i t10_0), (26, .b (decide (((((lrd cols0 t10_0.toNat).Kind ≠ (1 : Int)) ∧ ((lrd cols0 t10_0.toNat).Kind ≠ (2 : Int))) ∧ ((lrd cols0 t10_0.toNat).Kind ≠ (3 : Int))) ∧ ((lrd cols0 t10_0.toNat).Kind ≠ (4 : Int)))))] [(4, .pure (GColumn.cs (lrd cols0 t10_0.toNat)))] rfl rfl rfl ?_
         exact RunW_nil rfl
       ·refine r_off rfl rfl rfl rfl (decide_eq_false h7) rfl rfl ?_
        refine r_off rfl rfl rfl rfl (decide_eq_false h7) rfl rfl ?_
        refine r_off rfl rfl rfl rfl (decide_eq_false h7) rfl rfl ?_
        refine rp rfl rfl (p_pkf rfl rfl (decide_eq_false h7) (tb (decide_eq_false (p := ((lrd cols0 t10_0.toNat).Kind ≠ (1 : Int)) ∧ ((lrd cols0 t10_0.toNat).Kind ≠ (2 : Int))) (fun x => h7 x.1)).symm)) ?_
        refine rp rfl rfl (p_move rfl rfl) ?_
        refine r_off rfl rfl rfl rfl (decide_eq_false (p := ((lrd cols0 t10_0.toNat).Kind ≠ (1 : Int)) ∧ ((lrd cols0 t10_0.toNat).Kind ≠ (2 : Int))) (fun h => h7 h.1)) rfl rfl ?_
        refine r_off rfl rfl rfl rfl (decide_eq_false (p := ((lrd cols0 t10_0.toNat).Kind ≠ (1 : Int)) ∧ ((lrd cols0 t10_0.toNat).Kind ≠ (2 : Int))) (fun h => h7 h.1)) rfl rfl ?_
        refine r_off rfl rfl rfl rfl (decide_eq_false (p := ((lrd cols0 t10_0.toNat).Kind ≠ (1 : Int)) ∧ ((lrd cols0 t10_0.toNat).Kind ≠ (2 : Int))) (fun h => h7 h.1)) rfl rfl ?_
        refine rp rfl rfl (p_pkf rfl rfl (decide_eq_false (p := ((lrd cols0 t10_0.toNat).Kind ≠ (1 : Int)) ∧ ((lrd cols0 t10_0.toNat).Kind ≠ (2 : Int))) (fun h => h7 h.1)) (tb (decide_eq_false (p := (((lrd cols0 t10_0.toNat).Kind ≠ (1 : Int)) ∧ ((lrd cols0 t10_0.toNat).Kind ≠ (2 : Int))) ∧ ((lrd cols0 t10_0.toNat).Kind ≠ (3 : Int))) (fun x => (fun h => h7 h.1) x.1)).symm)) ?_
        refine rp rfl rfl (p_move rfl rfl) ?_
        refine r_off rfl rfl rfl rfl (decide_eq_false (p := (((lrd cols0 t10_0.toNat).Kind ≠ (1 : Int)) ∧ ((lrd cols0 t10_0.toNat).Kind ≠ (2 : Int))) ∧ ((lrd cols0 t10_0.toNat).Kind ≠ (3 : Int))) (fun h => (fun h => h7 h.1) h.1)) rfl rfl ?_
        refine r_off rfl rfl rfl rfl (decide_eq_false (p := (((lrd cols0 t10_0.toNat).Kind ≠ (1 : Int)) ∧ ((lrd cols0 t10_0.toNat).Kind ≠ (2 : Int))) ∧ ((lrd cols0 t10_0.toNat).Kind ≠ (3 : Int))) (fun h => (fun h => h7 h.1) h.1)) rfl rfl ?_
        refine r_off rfl rfl rfl rfl (decide_eq_false (p := (((lrd cols0 t10_0.toNat).Kind ≠ (1 : Int)) ∧ ((lrd cols0 t10_0.toNat).Kind ≠ (2 : Int))) ∧ ((lrd cols0 t10_0.toNat).Kind ≠ (3 : Int))) (fun h => (fun h => h7 h.1) h.1)) rfl rfl ?_
        refine rp rfl rfl (p_pkf rfl rfl (decide_eq_false (p := (((lrd cols0 t10_0.toNat).Kind ≠ (1 : Int)) ∧ ((lrd cols0 t10_0.toNat).Kind ≠ (2 : Int))) ∧ ((lrd cols0 t10_0.toNat).Kind ≠ (3 : Int))) (fun h => (fun h => h7 h.1) h.1)) (tb (decide_eq_false (p := ((((lrd cols0 t10_0.toNat).Kind ≠ (1 : Int)) ∧ ((lrd cols0 t10_0.toNat).Kind ≠ (2 : Int))) ∧ ((lrd cols0 t10_0.toNat).Kind ≠ (3 : Int))) ∧ ((lrd cols0 t10_0.toNat).Kind ≠ (4 : Int))) (fun x => (fun h => (fun h => h7 h.1) h.1) x.1)).symm)) ?_
        refine rp rfl rfl (p_asg rfl rfl) ?_
        refine rs [(0, .p ((fun q : List GColumn => AV.lst (q.flatMap GColumn.cs) q.length) cols0)), (3, .i t10_0), (4, .q 4 (0)), (8, .p ((fun q : List GColumn => AV.lst (q.flatMap GColumn.cs) q.length) cols0)), (9, .i (cols0.length : Int)), (10, .i t10_0), (26, .b (decide (((((lrd cols0 t10_0.toNat).Kind ≠ (1 : Int)) ∧ ((lrd cols0 t10_0.toNat).Kind ≠ (2 : Int))) ∧ ((lrd cols0 t10_0.toNat).Kind ≠ (3 : Int))) ∧ ((lrd cols0 t10_0.toNat).Kind ≠ (4 : Int)))))] [(4, .pure (GColumn.cs (lrd cols0 t10_0.toNat)))] rfl rfl rfl ?_
        exact RunW_nil rfl
      ·refine gen1 (fun t26'2 => (⟨[(0, .p ((fun q : List GColumn => AV.lst (q.flatMap GColumn.cs) q.length) cols0)), (3, .i t10_0), (4, .q 4 (0)), (8, .p ((fun q : List GColumn => AV.lst (q.flatMap GColumn.cs) q.length) cols0)), (9, .i (cols0.length : Int)), (10, .i t10_0), (26, .b t26'2)], [(4, .pure (GColumn.cs (lrd cols0 t10_0.toNat)))], 54⟩ : TS)) H ?_
       intro t26'2 H
       refine AW2_cond rfl (fun h10 => ?_) (fun h10 => ?_)
       ·replace H := ite_then h10 H
        refine sg [0] rfl ?_
        refine rp rfl rfl (p_asg rfl rfl) ?_
        refine rz [(2, .i (2 : Int))] [] rfl rfl rfl ?_
        refine AW2_ret ?_
        have hz := some_elim H
        subst hz
        exact ⟨rfl, ⟨res_tmp (.same _), trivial⟩, trivial⟩
       ·replace H := ite_else (ne_true h10) H
        refine AW2_seq ?_
        refine chkK H fun h11 H => ?_
        refine bindK H fun r'3 h12 H => ?_
        refine AW2_ghoQ ?_
        refine AW2_draw 5 [5, 6, 7] (fun k => ([.p ((fun q : List GColumn => AV.lst (q.flatMap GColumn.cs) q.length) cols0), .i t10_0, .p ((fun q : List GColumn => AV.lst (q.flatMap GColumn.cs) q.length) (cut cols0 (0 : Int) t10_0)), .q 4 (0 + 0), .t ((lrd cols0 t10_0.toNat).Name)] : List TV).getD k TV.any) (fun k => g_ref_ColumnsFault_r10.getD k []) [(0, none), (8, none), (9, none), (10, none), (48, some 2), (50, some 4)] [] (fun k => g_ref_ColumnsFault_r10c.getD k []) mixed (by kernel_rfl) rfl rfl (a_op (g_x rfl (x_p rfl (p_move rfl rfl) rfl)) (a_op (g_x rfl (x_p rfl (p_move rfl rfl) rfl)) (a_op (g_x rfl (x_p rfl (u_cutl (g := (fun l => l.flatMap GColumn.cs)) (a := (0 : Int)) (b := t10_0) rfl rfl Tryd.underlying35 in_68 rfl bT_zero (bT_i (Int.le_trans (show 0 ≤ (0 : Int) ∧ (0 : Int) ≤ t10_0 ∧ t10_0 ≤ (cols0.length : Int) from ⟨Int.le_refl _, h11.1, h11.2⟩).1 (show 0 ≤ (0 : Int) ∧ (0 : Int) ≤ t10_0 ∧ t10_0 ≤ (cols0.length : Int) from ⟨Int.le_refl _, h11.1, h11.2⟩).2.1) rfl) (.inl rfl) (show 0 ≤ (0 : Int) ∧ (0 : Int) ≤ t10_0 ∧ t10_0 ≤ (cols0.length : Int) from ⟨Int.le_refl _, h11.1, h11.2⟩) (g_fm (fun x => (GColumn.len x)))) rfl)) (a_op (g_x rfl (x_p rfl (u_fa rfl rfl Tryd.underlying68 rfl in_9 (Nat.succ_ne_zero _) rfl rfl (ne_of_lt (n := 0) (Nat.lt_of_lt_of_eq (by decide) (Eq.symm (GColumn.len (lrd cols0 t10_0.toNat)))))) rfl)) (a_op (g_x rfl (x_p rfl (u_ld rfl rfl Tryd.underlying9 rfl rfl ((Sub.refl _).trans (GColumn.sub0 (lrd cols0 t10_0.toNat)))) rfl)) (a_nil)))))) ?_
        refine t_op rfl rfl (PureD.opD (p_callp rfl rfl rfl Tryd.func41 rfl rfl (g_ref_columnAt_ac h12) ⟨rfl, rfl, trivial⟩)) ?_
        refine t_op rfl rfl (PureD.opD (p_bin rfl rfl rfl rfl)) ?_
        refine t_op rfl rfl (PureD.opD (p_asg rfl rfl)) ?_
        refine t_gho (Gho_st (L := [(0, .p ((fun q : List GColumn => AV.lst (q.flatMap GColumn.cs) q.length) cols0)), (8, .p ((fun q : List GColumn => AV.lst (q.flatMap GColumn.cs) q.length) cols0)), (9, .i (cols0.length : Int)), (10, .i t10_0), (45, .b (decide (r'3 ≥ (0 : Int))))]) (H := []) (N := 54) rfl ⟨TLes.same _, TLes.same _, TLes.same _, TLes.same _, TLes.same _, trivial⟩ trivial) ?_
        refine AW2_if (p := r'3 ≥ (0 : Int)) rfl (fun h13 => ?_) (fun h13 => ?_)
        ·replace H := ite_then h13 H
         refine sg [0] rfl ?_
         refine rp rfl rfl (p_asg rfl rfl) ?_
         refine rz [(2, .i (8 : Int))] [] rfl rfl rfl ?_
         refine AW2_ret ?_
         have hz := some_elim H
         subst hz
         exact ⟨rfl, ⟨res_tmp (.same _), trivial⟩, trivial⟩
        ·replace H := ite_else h13 H
         refine as2 [(0, .p ((fun q : List GColumn => AV.lst (q.flatMap GColumn.cs) q.length) cols0)), (8, .p ((fun q : List GColumn => AV.lst (q.flatMap GColumn.cs) q.length) cols0)), (9, .i (cols0.length : Int)), (10, .i t10_0)] [] rfl rfl rfl ?_
         refine AW2_skip ?_
         refine AW2_reg [0, 1] rfl ?_
         refine rp rfl rfl (p_bin rfl rfl rfl rfl) ?_
         refine rp rfl rfl (p_move rfl rfl) ?_
         refine rz [(0, .p ((fun q : List GColumn => AV.lst (q.flatMap GColumn.cs) q.length) cols0)), (8, .p ((fun q : List GColumn => AV.lst (q.flatMap GColumn.cs) q.length) cols0)), (9, .i (cols0.length : Int)), (10, .i (w64 (t10_0 + (1 : Int))))] [] rfl rfl rfl ?_
         have hz := some_elim H
         subst hz
         exact ⟨rfl, rfl⟩
   ·replace H := ite_else h2 H
    refine as2 [] [] rfl rfl rfl ?_
    refine AW2_exit ?_
    refine thenQ2_exit ?_
    have hz := some_elim H
    subst hz
    exact ⟨rfl, rfl⟩
  ·rcases o'7 with y'8 | y'9
   ·obtain ⟨rfl, hs⟩ := hs
    refine ⟨by simp, ?_⟩
    have hz := some_elim H
    subst hz
    exact ⟨hs.1, hs.2⟩
   ·obtain ⟨rfl, rfl⟩ := hs
    refine ⟨by simp, ?_⟩
    refine blockQ2_exit ?_
    refine sg [0] rfl ?_
    refine rp rfl rfl (p_asg rfl rfl) ?_
    refine rz [(2, .i (0 : Int))] [] rfl rfl rfl ?_
    refine AW2_ret ?_
    have hz := some_elim H
    subst hz
    exact ⟨⟨res_tmp (.same _), trivial⟩, trivial⟩

/-! chirographref.badReal -/
noncomputable def g_ref_badReal (b0 : UInt64) : Option (Bool) :=
  some (decide ((b0 = (9223372036854775808 : UInt64)) ∨ ((18437736874454810624 : UInt64) < shl_u64 b0 1)))
set_option maxHeartbeats 4000000 in
set_option maxRecDepth 100000 in
theorem g_ref_badReal_ac {b0 : UInt64} {r : Bool} (H : g_ref_badReal b0 = some r) : ACp Tryd.prog 35 [(AV.u64 b0)] (AV.bool r) := by
 refine ACp_of (AC2_of_body (vs := [.b r]) Tryd.func35 rfl rfl (Nat.le_of_ble_eq_true rfl) rfl ?_) (fun _ => .same _)
 unfold g_ref_badReal at H
 refine as2 [(0, .p (AV.u64 b0))] [] rfl rfl rfl ?_
 refine sg [0] rfl ?_
 refine rp rfl rfl (p_asg rfl rfl) ?_
 refine rz [(0, .p (AV.u64 b0))] [] rfl rfl rfl ?_
 refine AW2_seq ?_
 refine AW2_mid (⟨[(2, .b (decide ((b0 = (9223372036854775808 : UInt64)) ∨ ((18437736874454810624 : UInt64) < shl_u64 b0 1))))], [], 10⟩ : TS) ?_ ?_
 ·refine AW2_reg [0, 1, 2, 3, 4, 5, 6, 7] rfl ?_
  refine rp rfl rfl (p_move rfl rfl) ?_
  refine rp rfl rfl (p_u64eq (a := b0) (b := (9223372036854775808 : UInt64)) rfl rfl rfl) ?_
  refine rp rfl rfl (p_move rfl rfl) ?_
  refine (Classical.em (b0 = (9223372036854775808 : UInt64))).elim (fun h1 => ?_) (fun h1 => ?_)
  ·refine r_off rfl rfl rfl rfl (decide_eq_true h1) rfl rfl ?_
   refine r_off rfl rfl rfl rfl (decide_eq_true h1) rfl rfl ?_
   refine r_off rfl rfl rfl rfl (decide_eq_true h1) rfl rfl ?_
   refine rp rfl rfl (p_pkt rfl rfl (decide_eq_true h1) (tb (decide_eq_true (p := (b0 = (9223372036854775808 : UInt64)) ∨ ((18437736874454810624 : UInt64) < shl_u64 b0 1)) (Or.inl h1)).symm)) ?_
   refine rp rfl rfl (p_asg rfl rfl) ?_
   refine rs [(2, .b (decide ((b0 = (9223372036854775808 : UInt64)) ∨ ((18437736874454810624 : UInt64) < shl_u64 b0 1))))] [] rfl rfl rfl ?_
   exact RunW_nil rfl
  ·refine r_on rfl rfl rfl rfl (decide_eq_false h1) rfl (PureD.opD (p_move rfl rfl)) ?_
   refine r_on rfl rfl rfl rfl (decide_eq_false h1) rfl (PureD.opD (p_u64shl (n := 1) rfl rfl rfl rfl)) ?_
   refine r_on rfl rfl rfl rfl (decide_eq_false h1) rfl (PureD.opD (p_u64gt (a := shl_u64 b0 1) (b := (18437736874454810624 : UInt64)) rfl rfl rfl)) ?_
   refine rp rfl rfl (p_pkf rfl rfl (decide_eq_false h1) (tb ((or_l (p := b0 = (9223372036854775808 : UInt64)) (q := (18437736874454810624 : UInt64) < shl_u64 b0 1) h1)))) ?_
   refine rp rfl rfl (p_asg rfl rfl) ?_
   refine rs [(2, .b (decide ((b0 = (9223372036854775808 : UInt64)) ∨ ((18437736874454810624 : UInt64) < shl_u64 b0 1))))] [] rfl rfl rfl ?_
   exact RunW_nil rfl
 ·refine AW2_ret ?_
  have hz := some_elim H
  subst hz
  exact ⟨⟨res_tmp (.same _), trivial⟩, trivial⟩

/-! chirographref.ValueFault -/
noncomputable def g_ref_ValueFault (v0 : GValue) : Option (Int) :=
  (show Option (Int ⊕ GValue) from (if v0.Kind = (0 : Int) then some (.inr ({ GValue.zero with Kind := v0.Kind })) else ((if v0.Kind = (1 : Int) then some (decide (v0.Kind = (1 : Int))) else some (decide (v0.Kind = (2 : Int))))).bind fun j'2 => (if j'2 = true then some (.inr ({ { GValue.zero with Kind := v0.Kind } with Int_ := v0.Int_ })) else (if v0.Kind = (3 : Int) then some (.inr ({ { GValue.zero with Kind := v0.Kind } with Bits := v0.Bits })) else (if v0.Kind = (4 : Int) then some (.inr ({ { GValue.zero with Kind := v0.Kind } with Text := v0.Text })) else some (.inl (2 : Int))))))).bind fun o'12 => match o'12 with | .inl y'3 => some y'3 | .inr j'1 => (if (v0.Text.length : Int) > (40 : Int) then some (1 : Int) else ((if v0 ≠ j'1 then some true else (if v0.Kind = (1 : Int) then (if (1 : UInt64) < UInt64.ofInt v0.Int_ then some true else (if v0.Kind = (3 : Int) then (g_ref_badReal v0.Bits).bind fun r'5 => (if r'5 = true then some true else (g_utf8_ValidString v0.Text).bind fun r'6 => some (!r'6)) else (g_utf8_ValidString v0.Text).bind fun r'7 => some (!r'7))) else (if v0.Kind = (3 : Int) then (g_ref_badReal v0.Bits).bind fun r'8 => (if r'8 = true then some true else (g_utf8_ValidString v0.Text).bind fun r'9 => some (!r'9)) else (g_utf8_ValidString v0.Text).bind fun r'10 => some (!r'10))))).bind fun g'11 => (if g'11 = true then some (3 : Int) else some (0 : Int)))
set_option maxHeartbeats 4000000 in
set_option maxRecDepth 100000 in
theorem g_ref_ValueFault_ac {v0 : GValue} {r : Int} (H : g_ref_ValueFault v0 = some r) : ACp Tryd.prog 43 [(.agg (GValue.cs v0))] (AV.int r) := by
 refine ACp_of (AC2_of_body (vs := [.i r]) Tryd.func43 rfl rfl (Nat.le_of_ble_eq_true rfl) rfl ?_) (fun _ => .same _)
 unfold g_ref_ValueFault at H
 refine as2 [(0, .g (GValue.cs v0))] [] rfl rfl rfl ?_
 refine sg [0, 1] rfl ?_
 refine r_op rfl rfl (MakeD.opD (n_box 1 rfl rfl) rfl rfl rfl rfl) ?_
 refine rp rfl rfl (p_asg rfl rfl) ?_
 refine rz [(1, .q 1 (0))] [(1, .pure (GValue.cs v0))] rfl rfl rfl ?_
 refine sg [0, 1, 2, 3, 4] rfl ?_
 refine rp rfl rfl (u_fa rfl rfl Tryd.underlying29 rfl in_3 (Nat.succ_ne_zero _) rfl rfl (ne_of_lt (n := 0) (Nat.lt_of_lt_of_eq (by decide) (Eq.symm (GValue.len v0))))) ?_
 refine rp rfl rfl (u_ld rfl rfl Tryd.underlying3 rfl rfl ((Sub.refl _).trans (GValue.sub0 v0))) ?_
 refine rp rfl rfl (u_bld rfl in_29 one_29 zc_29 pl_29 rfl (af_cons rfl rfl (GValue.upd0 GValue.zero v0.Kind) rfl)) ?_
 refine r_op rfl rfl (MakeD.opD (u_alloc 3 rfl in_29 one_29 zc_29) rfl rfl rfl rfl) ?_
 refine r_op rfl rfl (u_st rfl rfl rfl rfl rfl in_29 (GValue.len ({ GValue.zero with Kind := v0.Kind })) (ne_of_lt (n := 0) (Nat.lt_of_lt_of_eq (by decide) (Eq.symm (GValue.len GValue.zero)))) (Upd.refl ((GValue.len ({ GValue.zero with Kind := v0.Kind })).trans (GValue.len GValue.zero).symm))) ?_
 refine rz [(1, .q 1 (0)), (3, .q 3 (0))] [(1, .pure (GValue.cs v0)), (3, .pure (GValue.cs ({ GValue.zero with Kind := v0.Kind })))] rfl rfl rfl ?_
 refine AW2_seq ?_
 refine bindK H fun o'12 h1 H => ?_
 refine AW2_join (fun j'1 : GValue => (⟨[(1, .q 1 (0)), (3, .q 3 (0))], [(1, .pure (GValue.cs v0)), (3, .pure (GValue.cs j'1))], 61⟩ : TS)) (fun r e s' => e = Go.Exit.ret ∧ ResAll Tryd.prog s' [ResultVar.tmp 2] [.i r] ∧ HFits s' []) (x := o'12) ?_ (fun j'1 hy => ?_) (fun y'3 e s' hy hs => ?_)
 ·clear H
  have H := h1
  clear h1
  refine sg [0, 1] rfl ?_
  refine rp rfl rfl (u_fa rfl rfl Tryd.underlying29 rfl in_3 (Nat.succ_ne_zero _) rfl rfl (ne_of_lt (n := 0) (Nat.lt_of_lt_of_eq (by decide) (Eq.symm (GValue.len v0))))) ?_
  refine rp rfl rfl (u_ld rfl rfl Tryd.underlying3 rfl rfl ((Sub.refl _).trans (GValue.sub0 v0))) ?_
  refine rz [(1, .q 1 (0)), (3, .q 3 (0)), (8, .i v0.Kind)] [(1, .pure (GValue.cs v0)), (3, .pure (GValue.cs ({ GValue.zero with Kind := v0.Kind })))] rfl rfl rfl ?_
  refine AW2_block ?_
  refine sg [0, 1] rfl ?_
  refine rp rfl rfl (p_ieq rfl rfl rfl) ?_
  refine rp rfl rfl (p_asg rfl rfl) ?_
  refine rz [(1, .q 1 (0)), (3, .q 3 (0)), (8, .i v0.Kind), (9, .b (decide (v0.Kind = (0 : Int))))] [(1, .pure (GValue.cs v0)), (3, .pure (GValue.cs ({ GValue.zero with Kind := v0.Kind })))] rfl rfl rfl ?_
  refine AW2_if (p := v0.Kind = (0 : Int)) rfl (fun h2 => ?_) (fun h2 => ?_)
  ·replace H := ite_then h2 H
   refine as2 [(1, .q 1 (0)), (3, .q 3 (0))] [(1, .pure (GValue.cs v0)), (3, .pure (GValue.cs ({ GValue.zero with Kind := v0.Kind })))] rfl rfl rfl ?_
   refine AW2_skip ?_
   have hz := some_elim H
   subst hz
   exact ⟨rfl, rfl⟩
  ·replace H := ite_else h2 H
   refine AW2_seq ?_
   refine bindK H fun j'2 h3 H => ?_
   refine AW2_mid (⟨[(1, .q 1 (0)), (3, .q 3 (0)), (8, .i v0.Kind), (11, .b j'2)], [(1, .pure (GValue.cs v0)), (3, .pure (GValue.cs ({ GValue.zero with Kind := v0.Kind })))], 61⟩ : TS) ?_ ?_
   ·clear H
    have H := h3
    clear h3
    refine sg [0, 1] rfl ?_
    refine rp rfl rfl (p_ieq rfl rfl rfl) ?_
    refine rp rfl rfl (p_asg rfl rfl) ?_
    refine rz [(1, .q 1 (0)), (3, .q 3 (0)), (8, .i v0.Kind), (11, .b (decide (v0.Kind = (1 : Int))))] [(1, .pure (GValue.cs v0)), (3, .pure (GValue.cs ({ GValue.zero with Kind := v0.Kind })))] rfl rfl rfl ?_
    refine AW2_if (p := v0.Kind = (1 : Int)) rfl (fun h4 => ?_) (fun h4 => ?_)
    ·replace H := ite_then h4 H
     refine AW2_skip ?_
     have hz := some_elim H
     subst hz
     exact rfl
    ·replace H := ite_else h4 H
     refine AW2_reg [0, 1] rfl ?_
     refine rp rfl rfl (p_ieq rfl rfl rfl) ?_
     refine rp rfl rfl (p_asg rfl rfl) ?_
     refine rz [(1, .q 1 (0)), (3, .q 3 (0)), (8, .i v0.Kind), (11, .b (decide (v0.Kind = (2 : Int))))] [(1, .pure (GValue.cs v0)), (3, .pure (GValue.cs ({ GValue.zero with Kind := v0.Kind })))] rfl rfl rfl ?_
     have hz := some_elim H
     subst hz
     exact rfl
   ·refine AW2_cond rfl (fun h5 => ?_) (fun h5 => ?_)
    ·replace H := ite_then h5 H
     refine AW2_reg [0, 1, 2, 3] rfl ?_
     refine rp rfl rfl (u_fa rfl rfl Tryd.underlying29 rfl in_3 (Nat.succ_ne_zero _) rfl rfl (ne_of_lt (n := 0) (Nat.lt_of_lt_of_eq (by decide) (Eq.symm (GValue.len v0))))) ?_
     refine rp rfl rfl (u_ld rfl rfl Tryd.underlying3 rfl rfl ((Sub.refl _).trans (GValue.sub1 v0))) ?_
     refine rp rfl rfl (u_fa rfl rfl Tryd.underlying29 rfl in_3 (Nat.succ_ne_zero _) rfl rfl (ne_of_lt (n := 0) (Nat.lt_of_lt_of_eq (by decide) (Eq.symm (GValue.len ({ GValue.zero with Kind := v0.Kind })))))) ?_
     refine r_op rfl rfl (u_st rfl rfl rfl rfl rfl in_3 rfl (ne_of_lt (n := 0) (Nat.lt_of_lt_of_eq (by decide) (Eq.symm (GValue.len ({ GValue.zero with Kind := v0.Kind }))))) (Upd.trans (Sub.refl _) (GValue.upd1 ({ GValue.zero with Kind := v0.Kind }) v0.Int_) (Upd.refl ((GValue.len ({ { GValue.zero with Kind := v0.Kind } with Int_ := v0.Int_ })).trans (GValue.len ({ GValue.zero with Kind := v0.Kind })).symm)))) ?_
     refine rz [(1, .q 1 (0)), (3, .q 3 (0))] [(1, .pure (GValue.cs v0)), (3, .pure (GValue.cs ({ { GValue.zero with Kind := v0.Kind } with Int_ := v0.Int_ })))] rfl rfl rfl ?_
     have hz := some_elim H
     subst hz
     exact ⟨rfl, rfl⟩
    ·replace H := ite_else (ne_true h5) H
     refine sg [0, 1] rfl ?_
     refine rp rfl rfl (p_ieq rfl rfl rfl) ?_
     refine rp rfl rfl (p_asg rfl rfl) ?_
     refine rz [(1, .q 1 (0)), (3, .q 3 (0)), (8, .i v0.Kind), (17, .b (decide (v0.Kind = (3 : Int))))] [(1, .pure (GValue.cs v0)), (3, .pure (GValue.cs ({ GValue.zero with Kind := v0.Kind })))] rfl rfl rfl ?_
     refine AW2_if (p := v0.Kind = (3 : Int)) rfl (fun h6 => ?_) (fun h6 => ?_)
     ·replace H := ite_then h6 H
      refine AW2_reg [0, 1, 2, 3] rfl ?_
      refine rp rfl rfl (u_fa rfl rfl Tryd.underlying29 rfl in_22 (Nat.succ_ne_zero _) rfl rfl (ne_of_lt (n := 0) (Nat.lt_of_lt_of_eq (by decide) (Eq.symm (GValue.len v0))))) ?_
      refine rp rfl rfl (u_ld rfl rfl Tryd.underlying22 rfl rfl ((Sub.refl _).trans (GValue.sub2 v0))) ?_
      refine rp rfl rfl (u_fa rfl rfl Tryd.underlying29 rfl in_22 (Nat.succ_ne_zero _) rfl rfl (ne_of_lt (n := 0) (Nat.lt_of_lt_of_eq (by decide) (Eq.symm (GValue.len ({ GValue.zero with Kind := v0.Kind })))))) ?_
      refine r_op rfl rfl (u_st rfl rfl rfl rfl rfl in_22 rfl (ne_of_lt (n := 0) (Nat.lt_of_lt_of_eq (by decide) (Eq.symm (GValue.len ({ GValue.zero with Kind := v0.Kind }))))) (Upd.trans (Sub.refl _) (GValue.upd2 ({ GValue.zero with Kind := v0.Kind }) v0.Bits) (Upd.refl ((GValue.len ({ { GValue.zero with Kind := v0.Kind } with Bits := v0.Bits })).trans (GValue.len ({ GValue.zero with Kind := v0.Kind })).symm)))) ?_
      refine rz [(1, .q 1 (0)), (3, .q 3 (0))] [(1, .pure (GValue.cs v0)), (3, .pure (GValue.cs ({ { GValue.zero with Kind := v0.Kind } with Bits := v0.Bits })))] rfl rfl rfl ?_
      have hz := some_elim H
      subst hz
      exact ⟨rfl, rfl⟩
     ·replace H := ite_else h6 H
      refine sg [0, 1] rfl ?_
      refine rp rfl rfl (p_ieq rfl rfl rfl) ?_
      refine rp rfl rfl (p_asg rfl rfl) ?_
      refine rz [(1, .q 1 (0)), (3, .q 3 (0)), (22, .b (decide (v0.Kind = (4 : Int))))] [(1, .pure (GValue.cs v0)), (3, .pure (GValue.cs ({ GValue.zero with Kind := v0.Kind })))] rfl rfl rfl ?_
      refine AW2_if (p := v0.Kind = (4 : Int)) rfl (fun h7 => ?_) (fun h7 => ?_)
      ·replace H := ite_then h7 H
       refine AW2_reg [0, 1, 2, 3] rfl ?_
       refine rp rfl rfl (u_fa rfl rfl Tryd.underlying29 rfl in_9 (Nat.succ_ne_zero _) rfl rfl (ne_of_lt (n := 0) (Nat.lt_of_lt_of_eq (by decide) (Eq.symm (GValue.len v0))))) ?_
       refine rp rfl rfl (u_ld rfl rfl Tryd.underlying9 rfl rfl ((Sub.refl _).trans (GValue.sub3 v0))) ?_
       refine rp rfl rfl (u_fa rfl rfl Tryd.underlying29 rfl in_9 (Nat.succ_ne_zero _) rfl rfl (ne_of_lt (n := 0) (Nat.lt_of_lt_of_eq (by decide) (Eq.symm (GValue.len ({ GValue.zero with Kind := v0.Kind })))))) ?_
       refine r_op rfl rfl (u_st rfl rfl rfl rfl rfl in_9 rfl (ne_of_lt (n := 0) (Nat.lt_of_lt_of_eq (by decide) (Eq.symm (GValue.len ({ GValue.zero with Kind := v0.Kind }))))) (Upd.trans (Sub.refl _) (GValue.upd3 ({ GValue.zero with Kind := v0.Kind }) v0.Text) (Upd.refl ((GValue.len ({ { GValue.zero with Kind := v0.Kind } with Text := v0.Text })).trans (GValue.len ({ GValue.zero with Kind := v0.Kind })).symm)))) ?_
       refine rz [(1, .q 1 (0)), (3, .q 3 (0))] [(1, .pure (GValue.cs v0)), (3, .pure (GValue.cs ({ { GValue.zero with Kind := v0.Kind } with Text := v0.Text })))] rfl rfl rfl ?_
       have hz := some_elim H
       subst hz
       exact ⟨rfl, rfl⟩
      ·replace H := ite_else h7 H
       refine sg [0] rfl ?_
       refine rp rfl rfl (p_asg rfl rfl) ?_
       refine rz [(2, .i (2 : Int))] [] rfl rfl rfl ?_
       refine AW2_ret ?_
       have hz := some_elim H
       subst hz
       exact ⟨rfl, ⟨res_tmp (.same _), trivial⟩, trivial⟩
 ·subst hy
  refine AW2_seq ?_
  refine sg [0, 1, 2, 3] rfl ?_
  refine rp rfl rfl (u_fa rfl rfl Tryd.underlying29 rfl in_9 (Nat.succ_ne_zero _) rfl rfl (ne_of_lt (n := 0) (Nat.lt_of_lt_of_eq (by decide) (Eq.symm (GValue.len v0))))) ?_
  refine rp rfl rfl (u_ld rfl rfl Tryd.underlying9 rfl rfl ((Sub.refl _).trans (GValue.sub3 v0))) ?_
  refine rp rfl rfl (p_lent rfl Tryd.underlying9 rfl) ?_
  refine rp rfl rfl (p_bin rfl rfl rfl rfl) ?_
  refine rz [(1, .q 1 (0)), (3, .q 3 (0)), (30, .b (decide ((v0.Text.length : Int) > (40 : Int))))] [(1, .pure (GValue.cs v0)), (3, .pure (GValue.cs j'1))] rfl rfl rfl ?_
  refine AW2_if (p := (v0.Text.length : Int) > (40 : Int)) rfl (fun h8 => ?_) (fun h8 => ?_)
  ·replace H := ite_then h8 H
   refine sg [0] rfl ?_
   refine rp rfl rfl (p_asg rfl rfl) ?_
   refine rz [(2, .i (1 : Int))] [] rfl rfl rfl ?_
   refine AW2_ret ?_
   have hz := some_elim H
   subst hz
   exact ⟨⟨res_tmp (.same _), trivial⟩, trivial⟩
  ·replace H := ite_else h8 H
   refine as2 [(1, .q 1 (0)), (3, .q 3 (0))] [(1, .pure (GValue.cs v0)), (3, .pure (GValue.cs j'1))] rfl rfl rfl ?_
   refine AW2_skip ?_
   refine AW2_seq ?_
   refine AW2_seq ?_
   refine bindK H fun g'11 h23 H => ?_
   refine AW2_mid (⟨[(60, .b g'11)], [], 61⟩ : TS) ?_ ?_
   ·clear H
    have H := h23
    clear h23
    refine AW2_reg [0, 1, 2, 3, 4, 5, 6, 7, 8, 9, 10, 11, 12, 13, 14, 15, 16, 17, 18, 19, 20, 21, 22, 23, 24, 25, 26, 27, 28, 29] rfl ?_
    refine rp rfl rfl (u_lda rfl rfl Tryd.underlying29 rfl in_29 rfl (Nat.succ_pos _) (Sub.refl _) (GValue.len v0)) ?_
    refine rp rfl rfl (u_lda rfl rfl Tryd.underlying29 rfl in_29 rfl (Nat.succ_pos _) (Sub.refl _) (GValue.len j'1)) ?_
    refine rp rfl rfl (p_nea (a := v0) (b := j'1) rfl eq_29 rfl (by kernel_rfl) rfl rfl) ?_
    refine rp rfl rfl (p_move rfl rfl) ?_
    refine (Classical.em (v0 ≠ j'1)).elim (fun h10 => ?_) (fun h10 => ?_)
    ·replace H := ite_then h10 H
     refine r_off rfl rfl rfl rfl (decide_eq_true h10) rfl rfl ?_
     refine r_off rfl rfl rfl rfl (decide_eq_true h10) rfl rfl ?_
     refine r_off rfl rfl rfl rfl (decide_eq_true h10) rfl rfl ?_
     refine r_off rfl rfl rfl rfl (decide_eq_true h10) rfl rfl ?_
     refine r_off2 rfl rfl rfl rfl rfl rfl ?_
     refine r_off2 rfl rfl rfl rfl rfl rfl ?_
     refine r_off2 rfl rfl rfl rfl rfl rfl ?_
     refine r_off2 rfl rfl rfl rfl rfl rfl ?_
     refine r_off rfl rfl rfl rfl (decide_eq_true h10) rfl rfl ?_
     refine rp rfl rfl (p_pkt rfl rfl (decide_eq_true h10) (.same _)) ?_
     refine rp rfl rfl (p_move rfl rfl) ?_
     refine r_off rfl rfl rfl rfl rfl rfl rfl ?_
     refine r_off rfl rfl rfl rfl rfl rfl rfl ?_
     refine r_off rfl rfl rfl rfl rfl rfl rfl ?_
     refine r_off rfl rfl rfl rfl rfl rfl rfl ?_
     refine r_off2 rfl rfl rfl rfl rfl rfl ?_
     refine r_off2 rfl rfl rfl rfl rfl rfl ?_
     refine r_off2 rfl rfl rfl rfl rfl rfl ?_
     refine r_off rfl rfl rfl rfl rfl rfl rfl ?_
     refine rp rfl rfl (p_pkt rfl rfl rfl (.same _)) ?_
     refine rp rfl rfl (p_move rfl rfl) ?_
     refine r_off rfl rfl rfl rfl rfl rfl rfl ?_
     refine r_off rfl rfl rfl rfl rfl rfl rfl ?_
     refine r_off rfl rfl rfl rfl rfl rfl rfl ?_
     refine r_off rfl rfl rfl rfl rfl rfl rfl ?_
     refine rp rfl rfl (p_pkt rfl rfl rfl (.same _)) ?_
     refine rs [(60, .b true)] [] rfl rfl rfl ?_
     have hz := some_elim H
     subst hz
     exact RunW_nil rfl
    ·replace H := ite_else h10 H
     refine r_on rfl rfl rfl rfl (decide_eq_false h10) rfl (PureD.opD (u_fa rfl rfl Tryd.underlying29 rfl in_3 (Nat.succ_ne_zero _) rfl rfl (ne_of_lt (n := 0) (Nat.lt_of_lt_of_eq (by decide) (Eq.symm (GValue.len v0)))))) ?_
     refine r_on rfl rfl rfl rfl (decide_eq_false h10) rfl (PureD.opD (u_ld rfl rfl Tryd.underlying3 rfl rfl ((Sub.refl _).trans (GValue.sub0 v0)))) ?_
     refine r_on rfl rfl rfl rfl (decide_eq_false h10) rfl (PureD.opD (p_ieq rfl rfl rfl)) ?_
     refine r_on rfl rfl rfl rfl (decide_eq_false h10) rfl (PureD.opD (p_move rfl rfl)) ?_
     refine (Classical.em (v0.Kind = (1 : Int))).elim (fun h11 => ?_) (fun h11 => ?_)
     ·replace H := ite_then h11 H
      refine r_on rfl rfl rfl rfl (decide_eq_true h11) rfl (PureD.opD (u_fa rfl rfl Tryd.underlying29 rfl in_3 (Nat.succ_ne_zero _) rfl rfl (ne_of_lt (n := 0) (Nat.lt_of_lt_of_eq (by decide) (Eq.symm (GValue.len v0)))))) ?_
      refine r_on rfl rfl rfl rfl (decide_eq_true h11) rfl (PureD.opD (u_ld rfl rfl Tryd.underlying3 rfl rfl ((Sub.refl _).trans (GValue.sub1 v0)))) ?_
      refine r_on rfl rfl rfl rfl (decide_eq_true h11) rfl (PureD.opD (p_i_u64 rfl Tryd.underlying3 Tryd.underlying82 rfl)) ?_
      refine r_on rfl rfl rfl rfl (decide_eq_true h11) rfl (PureD.opD (p_u64gt (a := UInt64.ofInt v0.Int_) (b := (1 : UInt64)) rfl rfl rfl)) ?_
      refine r_on rfl rfl rfl rfl (decide_eq_false h10) rfl (PureD.opD (p_pkt rfl rfl (decide_eq_true h11) (.same _))) ?_
      refine rp rfl rfl (p_pkf rfl rfl (decide_eq_false h10) (.same _)) ?_
      refine rp rfl rfl (p_move rfl rfl) ?_
      refine (Classical.em ((1 : UInt64) < UInt64.ofInt v0.Int_)).elim (fun h12 => ?_) (fun h12 => ?_)
      ·replace H := ite_then h12 H
       refine r_off rfl rfl rfl rfl (decide_eq_true h12) rfl rfl ?_
       refine r_off rfl rfl rfl rfl (decide_eq_true h12) rfl rfl ?_
       refine r_off rfl rfl rfl rfl (decide_eq_true h12) rfl rfl ?_
       refine r_off rfl rfl rfl rfl (decide_eq_true h12) rfl rfl ?_
       refine r_off2 rfl rfl rfl rfl rfl rfl ?_
       refine r_off2 rfl rfl rfl rfl rfl rfl ?_
       refine r_off2 rfl rfl rfl rfl rfl rfl ?_
       refine r_off rfl rfl rfl rfl (decide_eq_true h12) rfl rfl ?_
       refine rp rfl rfl (p_pkt rfl rfl (decide_eq_true h12) (.same _)) ?_
       refine rp rfl rfl (p_move rfl rfl) ?_
       refine r_off rfl rfl rfl rfl rfl rfl rfl ?_
       refine r_off rfl rfl rfl rfl rfl rfl rfl ?_
       refine r_off rfl rfl rfl rfl rfl rfl rfl ?_
       refine r_off rfl rfl rfl rfl rfl rfl rfl ?_
       refine rp rfl rfl (p_pkt rfl rfl rfl (.same _)) ?_
       refine rs [(60, .b true)] [] rfl rfl rfl ?_
       have hz := some_elim H
       subst hz
       exact RunW_nil rfl
      ·replace H := ite_else h12 H
       refine r_on rfl rfl rfl rfl (decide_eq_false h12) rfl (PureD.opD (u_fa rfl rfl Tryd.underlying29 rfl in_3 (Nat.succ_ne_zero _) rfl rfl (ne_of_lt (n := 0) (Nat.lt_of_lt_of_eq (by decide) (Eq.symm (GValue.len v0)))))) ?_
       refine r_on rfl rfl rfl rfl (decide_eq_false h12) rfl (PureD.opD (u_ld rfl rfl Tryd.underlying3 rfl rfl ((Sub.refl _).trans (GValue.sub0 v0)))) ?_
       refine r_on rfl rfl rfl rfl (decide_eq_false h12) rfl (PureD.opD (p_ieq rfl rfl rfl)) ?_
       refine r_on rfl rfl rfl rfl (decide_eq_false h12) rfl (PureD.opD (p_move rfl rfl)) ?_
       refine (Classical.em (v0.Kind = (3 : Int))).elim (fun h13 => ?_) (fun h13 => ?_)
       ·replace H := ite_then h13 H
        refine r_on rfl rfl rfl rfl (decide_eq_true h13) rfl (PureD.opD (u_fa rfl rfl Tryd.underlying29 rfl in_22 (Nat.succ_ne_zero _) rfl rfl (ne_of_lt (n := 0) (Nat.lt_of_lt_of_eq (by decide) (Eq.symm (GValue.len v0)))))) ?_
        refine r_on rfl rfl rfl rfl (decide_eq_true h13) rfl (PureD.opD (u_ld rfl rfl Tryd.underlying22 rfl rfl ((Sub.refl _).trans (GValue.sub2 v0)))) ?_
        refine bindK H fun r'5 h14 H => ?_
        refine r_on rfl rfl rfl rfl (decide_eq_true h13) rfl (PureD.opD (p_callp rfl rfl rfl Tryd.func35 rfl rfl (g_ref_badReal_ac h14) ⟨rfl, trivial⟩)) ?_
        refine r_on rfl rfl rfl rfl (decide_eq_false h12) rfl (PureD.opD (p_pkt rfl rfl (decide_eq_true h13) (.same _))) ?_
        refine rp rfl rfl (p_pkf rfl rfl (decide_eq_false h12) (.same _)) ?_
        refine rp rfl rfl (p_move rfl rfl) ?_
        refine (Classical.em (r'5 = true)).elim (fun h15 => ?_) (fun h15 => ?_)
        ·replace H := ite_then h15 H
         refine r_off rfl rfl rfl rfl h15 rfl rfl ?_
         refine r_off rfl rfl rfl rfl h15 rfl rfl ?_
         refine r_off rfl rfl rfl rfl h15 rfl rfl ?_
         refine r_off rfl rfl rfl rfl h15 rfl rfl ?_
         refine rp rfl rfl (p_pkt rfl rfl h15 (.same _)) ?_
         refine rs [(60, .b true)] [] rfl rfl rfl ?_
         have hz := some_elim H
         subst hz
         exact RunW_nil rfl
        ·replace H := ite_else h15 H
         refine r_on rfl rfl rfl rfl (bfalse h15) rfl (PureD.opD (u_fa rfl rfl Tryd.underlying29 rfl in_9 (Nat.succ_ne_zero _) rfl rfl (ne_of_lt (n := 0) (Nat.lt_of_lt_of_eq (by decide) (Eq.symm (GValue.len v0)))))) ?_
         refine r_on rfl rfl rfl rfl (bfalse h15) rfl (PureD.opD (u_ld rfl rfl Tryd.underlying9 rfl rfl ((Sub.refl _).trans (GValue.sub3 v0)))) ?_
         refine bindK H fun r'6 h16 H => ?_
         refine r_on rfl rfl rfl rfl (bfalse h15) rfl (PureD.opD (p_callp rfl rfl rfl Tryd.func30 rfl rfl (g_utf8_ValidString_ac h16) ⟨rfl, trivial⟩)) ?_
         refine r_on rfl rfl rfl rfl (bfalse h15) rfl (PureD.opD (p_not rfl rfl)) ?_
         refine rp rfl rfl (p_pkf rfl rfl (bfalse h15) (.same _)) ?_
         refine rs [(60, .b (!r'6))] [] rfl rfl rfl ?_
         have hz := some_elim H
         subst hz
         exact RunW_nil rfl
       ·replace H := ite_else h13 H
        refine r_off rfl rfl rfl rfl (decide_eq_false h13) rfl rfl ?_
        refine r_off rfl rfl rfl rfl (decide_eq_false h13) rfl rfl ?_
        refine r_off rfl rfl rfl rfl (decide_eq_false h13) rfl rfl ?_
        refine r_on rfl rfl rfl rfl (decide_eq_false h12) rfl (PureD.opD (p_pkf rfl rfl (decide_eq_false h13) (.same _))) ?_
        refine rp rfl rfl (p_pkf rfl rfl (decide_eq_false h12) (.same _)) ?_
        refine rp rfl rfl (p_move rfl rfl) ?_
        refine r_on rfl rfl rfl rfl (bfalse (by decide)) rfl (PureD.opD (u_fa rfl rfl Tryd.underlying29 rfl in_9 (Nat.succ_ne_zero _) rfl rfl (ne_of_lt (n := 0) (Nat.lt_of_lt_of_eq (by decide) (Eq.symm (GValue.len v0)))))) ?_
        refine r_on rfl rfl rfl rfl (bfalse (by decide)) rfl (PureD.opD (u_ld rfl rfl Tryd.underlying9 rfl rfl ((Sub.refl _).trans (GValue.sub3 v0)))) ?_
        refine bindK H fun r'7 h17 H => ?_
        refine r_on rfl rfl rfl rfl (bfalse (by decide)) rfl (PureD.opD (p_callp rfl rfl rfl Tryd.func30 rfl rfl (g_utf8_ValidString_ac h17) ⟨rfl, trivial⟩)) ?_
        refine r_on rfl rfl rfl rfl (bfalse (by decide)) rfl (PureD.opD (p_not rfl rfl)) ?_
        refine rp rfl rfl (p_pkf rfl rfl (bfalse (by decide)) (.same _)) ?_
        refine rs [(60, .b (!r'7))] [] rfl rfl rfl ?_
        have hz := some_elim H
        subst hz
        exact RunW_nil rfl
     ·replace H := ite_else h11 H
      refine r_off rfl rfl rfl rfl (decide_eq_false h11) rfl rfl ?_
      refine r_off rfl rfl rfl rfl (decide_eq_false h11) rfl rfl ?_
      refine r_off rfl rfl rfl rfl (decide_eq_false h11) rfl rfl ?_
      refine r_off rfl rfl rfl rfl (decide_eq_false h11) rfl rfl ?_
      refine r_on rfl rfl rfl rfl (decide_eq_false h10) rfl (PureD.opD (p_pkf rfl rfl (decide_eq_false h11) (.same _))) ?_
      refine rp rfl rfl (p_pkf rfl rfl (decide_eq_false h10) (.same _)) ?_
      refine rp rfl rfl (p_move rfl rfl) ?_
      refine r_on rfl rfl rfl rfl (bfalse (by decide)) rfl (PureD.opD (u_fa rfl rfl Tryd.underlying29 rfl in_3 (Nat.succ_ne_zero _) rfl rfl (ne_of_lt (n := 0) (Nat.lt_of_lt_of_eq (by decide) (Eq.symm (GValue.len v0)))))) ?_
      refine r_on rfl rfl rfl rfl (bfalse (by decide)) rfl (PureD.opD (u_ld rfl rfl Tryd.underlying3 rfl rfl ((Sub.refl _).trans (GValue.sub0 v0)))) ?_
      refine r_on rfl rfl rfl rfl (bfalse (by decide)) rfl (PureD.opD (p_ieq rfl rfl rfl)) ?_
      refine r_on rfl rfl rfl rfl (bfalse (by decide)) rfl (PureD.opD (p_move rfl rfl)) ?_
      refine (Classical.em (v0.Kind = (3 : Int))).elim (fun h18 => ?_) (fun h18 => ?_)
      ·replace H := ite_then h18 H
       refine r_on rfl rfl rfl rfl (decide_eq_true h18) rfl (PureD.opD (u_fa rfl rfl Tryd.underlying29 rfl in_22 (Nat.succ_ne_zero _) rfl rfl (ne_of_lt (n := 0) (Nat.lt_of_lt_of_eq (by decide) (Eq.symm (GValue.len v0)))))) ?_
       refine r_on rfl rfl rfl rfl (decide_eq_true h18) rfl (PureD.opD (u_ld rfl rfl Tryd.underlying22 rfl rfl ((Sub.refl _).trans (GValue.sub2 v0)))) ?_
       refine bindK H fun r'8 h19 H => ?_
       refine r_on rfl rfl rfl rfl (decide_eq_true h18) rfl (PureD.opD (p_callp rfl rfl rfl Tryd.func35 rfl rfl (g_ref_badReal_ac h19) ⟨rfl, trivial⟩)) ?_
       refine r_on rfl rfl rfl rfl (bfalse (by decide)) rfl (PureD.opD (p_pkt rfl rfl (decide_eq_true h18) (.same _))) ?_
       refine rp rfl rfl (p_pkf rfl rfl (bfalse (by decide)) (.same _)) ?_
       refine rp rfl rfl (p_move rfl rfl) ?_
       refine (Classical.em (r'8 = true)).elim (fun h20 => ?_) (fun h20 => ?_)
       ·replace H := ite_then h20 H
        refine r_off rfl rfl rfl rfl h20 rfl rfl ?_
        refine r_off rfl rfl rfl rfl h20 rfl rfl ?_
        refine r_off rfl rfl rfl rfl h20 rfl rfl ?_
        refine r_off rfl rfl rfl rfl h20 rfl rfl ?_
        refine rp rfl rfl (p_pkt rfl rfl h20 (.same _)) ?_
        refine rs [(60, .b true)] [] rfl rfl rfl ?_
        have hz := some_elim H
        subst hz
        exact RunW_nil rfl
       ·replace H := ite_else h20 H
        refine r_on rfl rfl rfl rfl (bfalse h20) rfl (PureD.opD (u_fa rfl rfl Tryd.underlying29 rfl in_9 (Nat.succ_ne_zero _) rfl rfl (ne_of_lt (n := 0) (Nat.lt_of_lt_of_eq (by decide) (Eq.symm (GValue.len v0)))))) ?_
        refine r_on rfl rfl rfl rfl (bfalse h20) rfl (PureD.opD (u_ld rfl rfl Tryd.underlying9 rfl rfl ((Sub.refl _).trans (GValue.sub3 v0)))) ?_
        refine bindK H fun r'9 h21 H => ?_
        refine r_on rfl rfl rfl rfl (bfalse h20) rfl (PureD.opD (p_callp rfl rfl rfl Tryd.func30 rfl rfl (g_utf8_ValidString_ac h21) ⟨rfl, trivial⟩)) ?_
        refine r_on rfl rfl rfl rfl (bfalse h20) rfl (PureD.opD (p_not rfl rfl)) ?_
        refine rp rfl rfl (p_pkf rfl rfl (bfalse h20) (.same _)) ?_
        refine rs [(60, .b (!r'9))] [] rfl rfl rfl ?_
        have hz := some_elim H
        subst hz
        exact RunW_nil rfl
      ·replace H := ite_else h18 H
       refine r_off rfl rfl rfl rfl (decide_eq_false h18) rfl rfl ?_
       refine r_off rfl rfl rfl rfl (decide_eq_false h18) rfl rfl ?_
       refine r_off rfl rfl rfl rfl (decide_eq_false h18) rfl rfl ?_
       refine r_on rfl rfl rfl rfl (bfalse (by decide)) rfl (PureD.opD (p_pkf rfl rfl (decide_eq_false h18) (.same _))) ?_
       refine rp rfl rfl (p_pkf rfl rfl (bfalse (by decide)) (.same _)) ?_
       refine rp rfl rfl (p_move rfl rfl) ?_
       refine r_on rfl rfl rfl rfl (bfalse (by decide)) rfl (PureD.opD (u_fa rfl rfl Tryd.underlying29 rfl in_9 (Nat.succ_ne_zero _) rfl rfl (ne_of_lt (n := 0) (Nat.lt_of_lt_of_eq (by decide) (Eq.symm (GValue.len v0)))))) ?_
       refine r_on rfl rfl rfl rfl (bfalse (by decide)) rfl (PureD.opD (u_ld rfl rfl Tryd.underlying9 rfl rfl ((Sub.refl _).trans (GValue.sub3 v0)))) ?_
       refine bindK H fun r'10 h22 H => ?_
       refine r_on rfl rfl rfl rfl (bfalse (by decide)) rfl (PureD.opD (p_callp rfl rfl rfl Tryd.func30 rfl rfl (g_utf8_ValidString_ac h22) ⟨rfl, trivial⟩)) ?_
       refine r_on rfl rfl rfl rfl (bfalse (by decide)) rfl (PureD.opD (p_not rfl rfl)) ?_
       refine rp rfl rfl (p_pkf rfl rfl (bfalse (by decide)) (.same _)) ?_
       refine rs [(60, .b (!r'10))] [] rfl rfl rfl ?_
       have hz := some_elim H
       subst hz
       exact RunW_nil rfl
   ·refine AW2_cond rfl (fun h24 => ?_) (fun h24 => ?_)
    ·replace H := ite_then h24 H
     refine sg [0] rfl ?_
     refine rp rfl rfl (p_asg rfl rfl) ?_
     refine rz [(2, .i (3 : Int))] [] rfl rfl rfl ?_
     refine AW2_ret ?_
     have hz := some_elim H
     subst hz
     exact ⟨⟨res_tmp (.same _), trivial⟩, trivial⟩
    ·replace H := ite_else (ne_true h24) H
     refine as2 [] [] rfl rfl rfl ?_
     refine AW2_skip ?_
     refine sg [0] rfl ?_
     refine rp rfl rfl (p_asg rfl rfl) ?_
     refine rz [(2, .i (0 : Int))] [] rfl rfl rfl ?_
     refine AW2_ret ?_
     have hz := some_elim H
     subst hz
     exact ⟨⟨res_tmp (.same _), trivial⟩, trivial⟩
 ·subst hy
  obtain ⟨rfl, hs⟩ := hs
  have hz := some_elim H
  subst hz
  exact ⟨hs.1, hs.2⟩

/-! chirographref.RowFault -/
def g_ref_RowFault_r15 : List (List (Nat × Option Nat)) := [[(7, none)], [(40, some 0)], [(1, none)], [(6, none)], [(42, some 2), (43, some 3)], [(44, some 4)], [(45, some 5)]]
def g_ref_RowFault_r15c : List (List Nat) := [[], [0], [], [], [2, 3], [2, 3, 4], [2, 3, 4, 5], [0, 1, 2, 3, 4, 5, 6]]
noncomputable def g_ref_RowFault_l0 (row0 : List GValue) (cols1 : List GColumn) : Int → Option (Int ⊕ (Int ⊕ Unit))
  | t21_0 => (if t21_0 < (row0.length : Int) then (show Option (Int ⊕ Unit) from if 0 ≤ t21_0 ∧ t21_0 < (row0.length : Int) then (g_ref_ValueFault (lrd row0 t21_0.toNat)).bind fun r'3 => (if r'3 ≠ (0 : Int) then some (.inl r'3) else (if (lrd row0 t21_0.toNat).Kind = (0 : Int) then if 0 ≤ t21_0 ∧ t21_0 < (cols1.length : Int) then (if (!((lrd cols1 t21_0.toNat).Null)) = true then some (.inl (12 : Int)) else some (.inr ())) else none else if 0 ≤ t21_0 ∧ t21_0 < (cols1.length : Int) then (if (lrd row0 t21_0.toNat).Kind ≠ (lrd cols1 t21_0.toNat).Kind then some (.inl (2 : Int)) else some (.inr ())) else none)) else none).bind fun o'5 => match o'5 with | .inl y'4 => some (.inr (.inl y'4)) | .inr j'2 => some (.inl (w64 (t21_0 + (1 : Int)))) else some (.inr (.inr ())))
noncomputable def g_ref_RowFault (row0 : List GValue) (cols1 : List GColumn) : Option (Int) :=
  (g_ref_ColumnsFault cols1).bind fun r'1 => (if r'1 ≠ (0 : Int) then some r'1 else (if (row0.length : Int) ≠ (cols1.length : Int) then some (1 : Int) else (loopO (g_ref_RowFault_l0 row0 cols1) (0 : Int)).bind fun o'9 => match o'9 with | .inl y'10 => some y'10 | .inr (y'11) => some (0 : Int)))
set_option maxHeartbeats 4000000 in
set_option maxRecDepth 100000 in
theorem g_ref_RowFault_ac {row0 : List GValue} {cols1 : List GColumn} {r : Int} (H : g_ref_RowFault row0 cols1 = some r) : ACp Tryd.prog 17 [((fun q : List GValue => AV.lst (q.flatMap GValue.cs) q.length) row0), ((fun q : List GColumn => AV.lst (q.flatMap GColumn.cs) q.length) cols1)] (AV.int r) := by
 refine ACp_of (AC2_of_body (vs := [.i r]) Tryd.func17 rfl rfl (Nat.le_of_ble_eq_true rfl) rfl ?_) (fun _ => .same _)
 unfold g_ref_RowFault at H
 refine as2 [(0, .p ((fun q : List GValue => AV.lst (q.flatMap GValue.cs) q.length) row0)), (1, .p ((fun q : List GColumn => AV.lst (q.flatMap GColumn.cs) q.length) cols1))] [] rfl rfl rfl ?_
 refine sg [0] rfl ?_
 refine rp rfl rfl (p_asg rfl rfl) ?_
 refine rz [(0, .p ((fun q : List GValue => AV.lst (q.flatMap GValue.cs) q.length) row0)), (1, .p ((fun q : List GColumn => AV.lst (q.flatMap GColumn.cs) q.length) cols1))] [] rfl rfl rfl ?_
 refine AW2_seq ?_
 refine sg [0, 1, 2] rfl ?_
 refine rp rfl rfl (p_move rfl rfl) ?_
 refine bindK H fun r'1 h1 H => ?_
 refine rp rfl rfl (p_callp rfl rfl rfl Tryd.func15 rfl rfl (g_ref_ColumnsFault_ac h1) ⟨rfl, trivial⟩) ?_
 refine rp rfl rfl (p_asg rfl rfl) ?_
 refine rz [(0, .p ((fun q : List GValue => AV.lst (q.flatMap GValue.cs) q.length) row0)), (1, .p ((fun q : List GColumn => AV.lst (q.flatMap GColumn.cs) q.length) cols1)), (5, .i r'1)] [] rfl rfl rfl ?_
 refine sg [0, 1] rfl ?_
 refine rp rfl rfl (p_move rfl rfl) ?_
 refine rp rfl rfl (p_ine rfl rfl rfl) ?_
 refine rz [(0, .p ((fun q : List GValue => AV.lst (q.flatMap GValue.cs) q.length) row0)), (1, .p ((fun q : List GColumn => AV.lst (q.flatMap GColumn.cs) q.length) cols1)), (5, .i r'1), (12, .b (decide (r'1 ≠ (0 : Int))))] [] rfl rfl rfl ?_
 refine AW2_if (p := r'1 ≠ (0 : Int)) rfl (fun h2 => ?_) (fun h2 => ?_)
 ·replace H := ite_then h2 H
  refine sg [0, 1] rfl ?_
  refine rp rfl rfl (p_move rfl rfl) ?_
  refine rp rfl rfl (p_asg rfl rfl) ?_
  refine rz [(4, .i r'1)] [] rfl rfl rfl ?_
  refine AW2_ret ?_
  have hz := some_elim H
  subst hz
  exact ⟨⟨res_tmp (.same _), trivial⟩, trivial⟩
 ·replace H := ite_else h2 H
  refine as2 [(0, .p ((fun q : List GValue => AV.lst (q.flatMap GValue.cs) q.length) row0)), (1, .p ((fun q : List GColumn => AV.lst (q.flatMap GColumn.cs) q.length) cols1))] [] rfl rfl rfl ?_
  refine AW2_skip ?_
  refine AW2_seq ?_
  refine sg [0, 1, 2, 3, 4] rfl ?_
  refine rp rfl rfl (p_move rfl rfl) ?_
  refine rp rfl rfl (p_lenl rfl Tryd.underlying38 rfl rfl) ?_
  refine rp rfl rfl (p_move rfl rfl) ?_
  refine rp rfl rfl (p_lenl rfl Tryd.underlying35 rfl rfl) ?_
  refine rp rfl rfl (p_ine rfl rfl rfl) ?_
  refine rz [(0, .p ((fun q : List GValue => AV.lst (q.flatMap GValue.cs) q.length) row0)), (1, .p ((fun q : List GColumn => AV.lst (q.flatMap GColumn.cs) q.length) cols1)), (18, .b (decide ((row0.length : Int) ≠ (cols1.length : Int))))] [] rfl rfl rfl ?_
  refine AW2_if (p := (row0.length : Int) ≠ (cols1.length : Int)) rfl (fun h3 => ?_) (fun h3 => ?_)
  ·replace H := ite_then h3 H
   refine sg [0] rfl ?_
   refine rp rfl rfl (p_asg rfl rfl) ?_
   refine rz [(4, .i (1 : Int))] [] rfl rfl rfl ?_
   refine AW2_ret ?_
   have hz := some_elim H
   subst hz
   exact ⟨⟨res_tmp (.same _), trivial⟩, trivial⟩
  ·replace H := ite_else h3 H
   refine as2 [(0, .p ((fun q : List GValue => AV.lst (q.flatMap GValue.cs) q.length) row0)), (1, .p ((fun q : List GColumn => AV.lst (q.flatMap GColumn.cs) q.length) cols1))] [] rfl rfl rfl ?_
   refine AW2_skip ?_
   refine AW2_seq ?_
   refine sg [0, 1, 2] rfl ?_
   refine rp rfl rfl (p_move rfl rfl) ?_
   refine rp rfl rfl (p_lenl rfl Tryd.underlying38 rfl rfl) ?_
   refine rp rfl rfl (p_move rfl rfl) ?_
   refine rz [(1, .p ((fun q : List GColumn => AV.lst (q.flatMap GColumn.cs) q.length) cols1)), (19, .p ((fun q : List GValue => AV.lst (q.flatMap GValue.cs) q.length) row0)), (20, .i (row0.length : Int)), (21, .i (0 : Int))] [] rfl rfl rfl ?_
   refine AW2_block ?_
   refine as2 [(1, .p ((fun q : List GColumn => AV.lst (q.flatMap GColumn.cs) q.length) cols1)), (19, .p ((fun q : List GValue => AV.lst (q.flatMap GValue.cs) q.length) row0)), (20, .i (row0.length : Int)), (21, .i (0 : Int))] [] rfl rfl rfl ?_
   refine bindK H fun o'9 h14 H => ?_
   refine AW2_loopO (fun a'6 : Int => (⟨[(1, .p ((fun q : List GColumn => AV.lst (q.flatMap GColumn.cs) q.length) cols1)), (19, .p ((fun q : List GValue => AV.lst (q.flatMap GValue.cs) q.length) row0)), (20, .i (row0.length : Int)), (21, .i a'6)], [], 49⟩ : TS)) (fun (o : Int ⊕ Unit) e s' => match o with | .inl y'7 => e = Go.Exit.ret ∧ ResAll Tryd.prog s' [ResultVar.tmp 4] [.i y'7] ∧ HFits s' [] | .inr (y'8) => e = Go.Exit.exit 0 ∧ s' = (⟨[], [], 49⟩ : TS)) h14 rfl (fun t21_0 x hx => ?_) (fun e s' hs => ?_)
   ·clear H
    have H := hx
    clear hx
    unfold g_ref_RowFault_l0 at H
    refine sg [0] rfl ?_
    refine rp rfl rfl (p_bin rfl rfl rfl rfl) ?_
    refine rz [(1, .p ((fun q : List GColumn => AV.lst (q.flatMap GColumn.cs) q.length) cols1)), (19, .p ((fun q : List GValue => AV.lst (q.flatMap GValue.cs) q.length) row0)), (20, .i (row0.length : Int)), (21, .i t21_0), (22, .b (decide (t21_0 < (row0.length : Int))))] [] rfl rfl rfl ?_
    refine AW2_seq ?_
    refine AW2_if (p := t21_0 < (row0.length : Int)) rfl (fun h4 => ?_) (fun h4 => ?_)
    ·replace H := ite_then h4 H
     refine as2 [(1, .p ((fun q : List GColumn => AV.lst (q.flatMap GColumn.cs) q.length) cols1)), (19, .p ((fun q : List GValue => AV.lst (q.flatMap GValue.cs) q.length) row0)), (20, .i (row0.length : Int)), (21, .i t21_0)] [] rfl rfl rfl ?_
     refine AW2_skip ?_
     refine AW2_seq ?_
     refine bindK H fun o'5 h5 H => ?_
     refine AW2_join (fun j'2 : Unit => (⟨[(1, .p ((fun q : List GColumn => AV.lst (q.flatMap GColumn.cs) q.length) cols1)), (19, .p ((fun q : List GValue => AV.lst (q.flatMap GValue.cs) q.length) row0)), (20, .i (row0.length : Int)), (21, .i t21_0)], [], 49⟩ : TS)) (fun r e s' => e = Go.Exit.ret ∧ ResAll Tryd.prog s' [ResultVar.tmp 4] [.i r] ∧ HFits s' []) (x := o'5) ?_ (fun j'2 hy => ?_) (fun y'4 e s' hy hs => ?_)
     ·clear H
      have H := h5
      clear h5
      refine AW2_block ?_
      refine sg [0, 1, 2, 3, 4, 5] rfl ?_
      refine rp rfl rfl (p_move rfl rfl) ?_
      refine chkK H fun h6 H => ?_
      refine rp rfl rfl (u_ixl rfl rfl Tryd.underlying38 in_29 rfl rfl (ixe h6) (ixn h6) (fne (fun x => (GValue.len x)) (by decide) (ixn h6))) ?_
      refine rp rfl rfl (u_lda rfl rfl Tryd.underlying29 rfl in_29 rfl (Nat.succ_pos _) (Sub.fm default (fun x => (GValue.len x)) (ixn h6)) (GValue.len (lrd row0 t21_0.toNat))) ?_
      refine r_op rfl rfl (MakeD.opD (u_alloc 7 rfl in_29 one_29 zc_29) rfl rfl rfl rfl) ?_
      refine rp rfl rfl (p_asg rfl rfl) ?_
      refine r_op rfl rfl (u_st rfl rfl rfl rfl rfl in_29 (GValue.len (lrd row0 t21_0.toNat)) (ne_of_lt (n := 0) (Nat.lt_of_lt_of_eq (by decide) (Eq.symm (GValue.len GValue.zero)))) (Upd.refl ((GValue.len (lrd row0 t21_0.toNat)).trans (GValue.len GValue.zero).symm))) ?_
      refine rz [(1, .p ((fun q : List GColumn => AV.lst (q.flatMap GColumn.cs) q.length) cols1)), (6, .i t21_0), (7, .q 7 (0)), (19, .p ((fun q : List GValue => AV.lst (q.flatMap GValue.cs) q.length) row0)), (20, .i (row0.length : Int)), (21, .i t21_0)] [(7, .pure (GValue.cs (lrd row0 t21_0.toNat)))] rfl rfl rfl ?_
      refine AW2_seq ?_
      refine sg [0, 1, 2] rfl ?_
      refine rp rfl rfl (u_lda rfl rfl Tryd.underlying29 rfl in_29 rfl (Nat.succ_pos _) (Sub.refl _) (GValue.len (lrd row0 t21_0.toNat))) ?_
      refine bindK H fun r'3 h7 H => ?_
      refine rp rfl rfl (p_callp rfl rfl rfl Tryd.func43 rfl rfl (g_ref_ValueFault_ac h7) ⟨rfl, trivial⟩) ?_
      refine rp rfl rfl (p_asg rfl rfl) ?_
      refine rz [(1, .p ((fun q : List GColumn => AV.lst (q.flatMap GColumn.cs) q.length) cols1)), (6, .i t21_0), (7, .q 7 (0)), (8, .i r'3), (19, .p ((fun q : List GValue => AV.lst (q.flatMap GValue.cs) q.length) row0)), (20, .i (row0.length : Int)), (21, .i t21_0)] [(7, .pure (GValue.cs (lrd row0 t21_0.toNat)))] rfl rfl rfl ?_
      refine sg [0, 1] rfl ?_
      refine rp rfl rfl (p_move rfl rfl) ?_
      refine rp rfl rfl (p_ine rfl rfl rfl) ?_
      refine rz [(1, .p ((fun q : List GColumn => AV.lst (q.flatMap GColumn.cs) q.length) cols1)), (6, .i t21_0), (7, .q 7 (0)), (8, .i r'3), (19, .p ((fun q : List GValue => AV.lst (q.flatMap GValue.cs) q.length) row0)), (20, .i (row0.length : Int)), (21, .i t21_0), (29, .b (decide (r'3 ≠ (0 : Int))))] [(7, .pure (GValue.cs (lrd row0 t21_0.toNat)))] rfl rfl rfl ?_
      refine AW2_if (p := r'3 ≠ (0 : Int)) rfl (fun h8 => ?_) (fun h8 => ?_)
      ·replace H := ite_then h8 H
       refine sg [0, 1] rfl ?_
       refine rp rfl rfl (p_move rfl rfl) ?_
       refine rp rfl rfl (p_asg rfl rfl) ?_
       refine rz [(4, .i r'3)] [] rfl rfl rfl ?_
       refine AW2_ret ?_
       have hz := some_elim H
       subst hz
       exact ⟨rfl, ⟨res_tmp (.same _), trivial⟩, trivial⟩
      ·replace H := ite_else h8 H
       refine as2 [(1, .p ((fun q : List GColumn => AV.lst (q.flatMap GColumn.cs) q.length) cols1)), (6, .i t21_0), (7, .q 7 (0)), (19, .p ((fun q : List GValue => AV.lst (q.flatMap GValue.cs) q.length) row0)), (20, .i (row0.length : Int)), (21, .i t21_0)] [(7, .pure (GValue.cs (lrd row0 t21_0.toNat)))] rfl rfl rfl ?_
       refine AW2_skip ?_
       refine sg [0, 1, 2] rfl ?_
       refine rp rfl rfl (u_fa rfl rfl Tryd.underlying29 rfl in_3 (Nat.succ_ne_zero _) rfl rfl (ne_of_lt (n := 0) (Nat.lt_of_lt_of_eq (by decide) (Eq.symm (GValue.len (lrd row0 t21_0.toNat)))))) ?_
       refine rp rfl rfl (u_ld rfl rfl Tryd.underlying3 rfl rfl ((Sub.refl _).trans (GValue.sub0 (lrd row0 t21_0.toNat)))) ?_
       refine rp rfl rfl (p_ieq rfl rfl rfl) ?_
       refine rz [(1, .p ((fun q : List GColumn => AV.lst (q.flatMap GColumn.cs) q.length) cols1)), (6, .i t21_0), (7, .q 7 (0)), (19, .p ((fun q : List GValue => AV.lst (q.flatMap GValue.cs) q.length) row0)), (20, .i (row0.length : Int)), (21, .i t21_0), (33, .b (decide ((lrd row0 t21_0.toNat).Kind = (0 : Int))))] [(7, .pure (GValue.cs (lrd row0 t21_0.toNat)))] rfl rfl rfl ?_
       refine AW2_if (p := (lrd row0 t21_0.toNat).Kind = (0 : Int)) rfl (fun h9 => ?_) (fun h9 => ?_)
       ·replace H := ite_then h9 H
        refine sg [0, 1, 2, 3, 4, 5] rfl ?_
        refine rp rfl rfl (p_move rfl rfl) ?_
        refine rp rfl rfl (p_move rfl rfl) ?_
        refine chkK H fun h10 H => ?_
        refine rp rfl rfl (u_ixl rfl rfl Tryd.underlying35 in_68 rfl rfl (ixe h10) (ixn h10) (fne (fun x => (GColumn.len x)) (by decide) (ixn h10))) ?_
        refine rp rfl rfl (u_far rfl rfl Tryd.underlying68 rfl in_4 (Nat.succ_ne_zero _) rfl) ?_
        refine rp rfl rfl (u_ld rfl rfl Tryd.underlying4 rfl rfl ((Sub.fm default (fun x => (GColumn.len x)) (ixn h10)).trans (GColumn.sub2 (lrd cols1 t21_0.toNat)))) ?_
        refine rp rfl rfl (p_not rfl rfl) ?_
        refine rz [(1, .p ((fun q : List GColumn => AV.lst (q.flatMap GColumn.cs) q.length) cols1)), (19, .p ((fun q : List GValue => AV.lst (q.flatMap GValue.cs) q.length) row0)), (20, .i (row0.length : Int)), (21, .i t21_0), (39, .b (!((lrd cols1 t21_0.toNat).Null)))] [] rfl rfl rfl ?_
        refine AW2_cond rfl (fun h11 => ?_) (fun h11 => ?_)
        ·replace H := ite_then h11 H
         refine sg [0] rfl ?_
         refine rp rfl rfl (p_asg rfl rfl) ?_
         refine rz [(4, .i (12 : Int))] [] rfl rfl rfl ?_
         refine AW2_ret ?_
         have hz := some_elim H
         subst hz
         exact ⟨rfl, ⟨res_tmp (.same _), trivial⟩, trivial⟩
        ·replace H := ite_else (ne_true h11) H
         refine as2 [(1, .p ((fun q : List GColumn => AV.lst (q.flatMap GColumn.cs) q.length) cols1)), (19, .p ((fun q : List GValue => AV.lst (q.flatMap GValue.cs) q.length) row0)), (20, .i (row0.length : Int)), (21, .i t21_0)] [] rfl rfl rfl ?_
         refine AW2_skip ?_
         have hz := some_elim H
         subst hz
         exact ⟨rfl, rfl⟩
       ·replace H := ite_else h9 H
        refine AW2_seq ?_
        refine chkK H fun h12 H => ?_
        refine AW2_ghoQ ?_
        refine AW2_draw 7 [7] (fun k => ([.q 7 (0 + 0), .i ((lrd row0 t21_0.toNat).Kind), .p ((fun q : List GColumn => AV.lst (q.flatMap GColumn.cs) q.length) cols1), .i t21_0, .p (.rptr (cols1.flatMap GColumn.cs) (t21_0.toNat * 3)), .p (.rptr (cols1.flatMap GColumn.cs) (t21_0.toNat * 3 + 1)), .i ((lrd cols1 t21_0.toNat).Kind)] : List TV).getD k TV.any) (fun k => g_ref_RowFault_r15.getD k []) [(1, none), (19, none), (20, none), (21, none), (41, some 1), (46, some 6)] [] (fun k => g_ref_RowFault_r15c.getD k []) mixed (by kernel_rfl) rfl rfl (a_op (g_x rfl (x_p rfl (u_fa rfl rfl Tryd.underlying29 rfl in_3 (Nat.succ_ne_zero _) rfl rfl (ne_of_lt (n := 0) (Nat.lt_of_lt_of_eq (by decide) (Eq.symm (GValue.len (lrd row0 t21_0.toNat)))))) rfl)) (a_op (g_x rfl (x_p rfl (u_ld rfl rfl Tryd.underlying3 rfl rfl ((Sub.refl _).trans (GValue.sub0 (lrd row0 t21_0.toNat)))) rfl)) (a_op (g_x rfl (x_p rfl (p_move rfl rfl) rfl)) (a_op (g_x rfl (x_p rfl (p_move rfl rfl) rfl)) (a_op (g_x rfl (x_p rfl (u_ixl rfl rfl Tryd.underlying35 in_68 rfl rfl (ixe h12) (ixn h12) (fne (fun x => (GColumn.len x)) (by decide) (ixn h12))) rfl)) (a_op (g_x rfl (x_p rfl (u_far rfl rfl Tryd.underlying68 rfl in_3 (Nat.succ_ne_zero _) rfl) rfl)) (a_op (g_x rfl (x_p rfl (u_ld rfl rfl Tryd.underlying3 rfl rfl ((Sub.fm default (fun x => (GColumn.len x)) (ixn h12)).trans (GColumn.sub1 (lrd cols1 t21_0.toNat)))) rfl)) (a_nil)))))))) ?_
        refine t_op rfl rfl (PureD.opD (p_ine rfl rfl rfl)) ?_
        refine t_gho (Gho_st (L := [(1, .p ((fun q : List GColumn => AV.lst (q.flatMap GColumn.cs) q.length) cols1)), (19, .p ((fun q : List GValue => AV.lst (q.flatMap GValue.cs) q.length) row0)), (20, .i (row0.length : Int)), (21, .i t21_0), (47, .b (decide ((lrd row0 t21_0.toNat).Kind ≠ (lrd cols1 t21_0.toNat).Kind)))]) (H := []) (N := 49) rfl ⟨TLes.same _, TLes.same _, TLes.same _, TLes.same _, TLes.same _, trivial⟩ trivial) ?_
        refine AW2_if (p := (lrd row0 t21_0.toNat).Kind ≠ (lrd cols1 t21_0.toNat).Kind) rfl (fun h13 => ?_) (fun h13 => ?_)
        ·replace H := ite_then h13 H
         refine sg [0] rfl ?_
         refine rp rfl rfl (p_asg rfl rfl) ?_
         refine rz [(4, .i (2 : Int))] [] rfl rfl rfl ?_
         refine AW2_ret ?_
         have hz := some_elim H
         subst hz
         exact ⟨rfl, ⟨res_tmp (.same _), trivial⟩, trivial⟩
        ·replace H := ite_else h13 H
         refine as2 [(1, .p ((fun q : List GColumn => AV.lst (q.flatMap GColumn.cs) q.length) cols1)), (19, .p ((fun q : List GValue => AV.lst (q.flatMap GValue.cs) q.length) row0)), (20, .i (row0.length : Int)), (21, .i t21_0)] [] rfl rfl rfl ?_
         refine AW2_skip ?_
         have hz := some_elim H
         subst hz
         exact ⟨rfl, rfl⟩
     ·subst hy
      refine AW2_reg [0, 1] rfl ?_
      refine rp rfl rfl (p_bin rfl rfl rfl rfl) ?_
      refine rp rfl rfl (p_move rfl rfl) ?_
      refine rz [(1, .p ((fun q : List GColumn => AV.lst (q.flatMap GColumn.cs) q.length) cols1)), (19, .p ((fun q : List GValue => AV.lst (q.flatMap GValue.cs) q.length) row0)), (20, .i (row0.length : Int)), (21, .i (w64 (t21_0 + (1 : Int))))] [] rfl rfl rfl ?_
      have hz := some_elim H
      subst hz
      exact ⟨rfl, rfl⟩
     ·subst hy
      obtain ⟨rfl, hs⟩ := hs
      have hz := some_elim H
      subst hz
      exact ⟨rfl, hs.1, hs.2⟩
    ·replace H := ite_else h4 H
     refine as2 [] [] rfl rfl rfl ?_
     refine AW2_exit ?_
     refine thenQ2_exit ?_
     have hz := some_elim H
     subst hz
     exact ⟨rfl, rfl⟩
   ·rcases o'9 with y'10 | y'11
    ·obtain ⟨rfl, hs⟩ := hs
     refine ⟨by simp, ?_⟩
     have hz := some_elim H
     subst hz
     exact ⟨hs.1, hs.2⟩
    ·obtain ⟨rfl, rfl⟩ := hs
     refine ⟨by simp, ?_⟩
     refine blockQ2_exit ?_
     refine sg [0] rfl ?_
     refine rp rfl rfl (p_asg rfl rfl) ?_
     refine rz [(4, .i (0 : Int))] [] rfl rfl rfl ?_
     refine AW2_ret ?_
     have hz := some_elim H
     subst hz
     exact ⟨⟨res_tmp (.same _), trivial⟩, trivial⟩
end Go.Proofs.YtalnmpfjgiecdaaDoor.VM
