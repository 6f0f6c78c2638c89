/- Functions of the program, as they answer, and that their code comes to these answers. -/
import Derived.Test.YtalnmpfjgiecdaaDoorGi1
namespace Go.Proofs.YtalnmpfjgiecdaaDoor.VM
open Go Go.RowKit

structure GCell where
  Full : Bool
  Row : List GValue
deriving DecidableEq, Inhabited
def GCell.zero : GCell := ⟨false, []⟩
def GCell.cs (x : GCell) : List AV := ([(AV.bool x.Full)]) ++ ([((fun q : List GValue => AV.lst (q.flatMap GValue.cs) q.length) x.Row)])
theorem GCell.len (x : GCell) : (GCell.cs x).length = 2 := by
  simp only [GCell.cs, List.length_append]
  rw [show ([(AV.bool x.Full)]).length = 1 from (show ([(AV.bool x.Full)]).length = 1 from rfl), show ([((fun q : List GValue => AV.lst (q.flatMap GValue.cs) q.length) x.Row)]).length = 1 from (show ([((fun q : List GValue => AV.lst (q.flatMap GValue.cs) q.length) x.Row)]).length = 1 from rfl)]
theorem GCell.sub0 (x : GCell) : Sub (GCell.cs x) 0 ([(AV.bool x.Full)]) := Sub.head _ _
abbrev GCell.w0 (x : GCell) (y : Bool) : GCell := { x with Full := y }
theorem GCell.upd0 (x : GCell) (y : Bool) : Upd (GCell.cs x) 0 ([(AV.bool y)]) (GCell.cs { x with Full := y }) := Upd.head (show ([(AV.bool y)]).length = ([(AV.bool x.Full)]).length from rfl)
theorem GCell.sub1 (x : GCell) : Sub (GCell.cs x) 1 ([((fun q : List GValue => AV.lst (q.flatMap GValue.cs) q.length) x.Row)]) := Sub.skip (k := 1) (show ([(AV.bool x.Full)]).length = 1 from rfl) (Sub.refl _)
abbrev GCell.w1 (x : GCell) (y : List GValue) : GCell := { x with Row := y }
theorem GCell.upd1 (x : GCell) (y : List GValue) : Upd (GCell.cs x) 1 ([((fun q : List GValue => AV.lst (q.flatMap GValue.cs) q.length) y)]) (GCell.cs { x with Row := y }) := Upd.skip (k := 1) (show ([(AV.bool x.Full)]).length = 1 from rfl) (Upd.refl (show ([((fun q : List GValue => AV.lst (q.flatMap GValue.cs) q.length) y)]).length = ([((fun q : List GValue => AV.lst (q.flatMap GValue.cs) q.length) x.Row)]).length from rfl))
structure GTable where
  There : Bool
  Name : List UInt8
  Cols : List GColumn
  Drawers : Vector (Vector GCell 4) 2
deriving DecidableEq, Inhabited
def GTable.zero : GTable := ⟨false, [], [], (Vector.replicate 2 (Vector.replicate 4 GCell.zero))⟩
def GTable.cs (x : GTable) : List AV := ([(AV.bool x.There)]) ++ (([(AV.txt x.Name)]) ++ (([((fun q : List GColumn => AV.lst (q.flatMap GColumn.cs) q.length) x.Cols)]) ++ (x.Drawers.toList.flatMap (fun v : Vector GCell 4 => v.toList.flatMap GCell.cs))))
theorem GTable.len (x : GTable) : (GTable.cs x).length = 19 := by
  simp only [GTable.cs, List.length_append]
  rw [show ([(AV.bool x.There)]).length = 1 from (show ([(AV.bool x.There)]).length = 1 from rfl), show ([(AV.txt x.Name)]).length = 1 from (show ([(AV.txt x.Name)]).length = 1 from rfl), show ([((fun q : List GColumn => AV.lst (q.flatMap GColumn.cs) q.length) x.Cols)]).length = 1 from (show ([((fun q : List GColumn => AV.lst (q.flatMap GColumn.cs) q.length) x.Cols)]).length = 1 from rfl), show (x.Drawers.toList.flatMap (fun v : Vector GCell 4 => v.toList.flatMap GCell.cs)).length = 16 from (vfm_len (fun x => (vfm_len (fun x => (GCell.len x)) x)) x.Drawers)]
theorem GTable.sub0 (x : GTable) : Sub (GTable.cs x) 0 ([(AV.bool x.There)]) := Sub.head _ _
abbrev GTable.w0 (x : GTable) (y : Bool) : GTable := { x with There := y }
theorem GTable.upd0 (x : GTable) (y : Bool) : Upd (GTable.cs x) 0 ([(AV.bool y)]) (GTable.cs { x with There := y }) := Upd.head (show ([(AV.bool y)]).length = ([(AV.bool x.There)]).length from rfl)
theorem GTable.sub1 (x : GTable) : Sub (GTable.cs x) 1 ([(AV.txt x.Name)]) := Sub.skip (k := 1) (show ([(AV.bool x.There)]).length = 1 from rfl) (Sub.head _ _)
abbrev GTable.w1 (x : GTable) (y : List UInt8) : GTable := { x with Name := y }
theorem GTable.upd1 (x : GTable) (y : List UInt8) : Upd (GTable.cs x) 1 ([(AV.txt y)]) (GTable.cs { x with Name := y }) := Upd.skip (k := 1) (show ([(AV.bool x.There)]).length = 1 from rfl) (Upd.head (show ([(AV.txt y)]).length = ([(AV.txt x.Name)]).length from rfl))
theorem GTable.sub2 (x : GTable) : Sub (GTable.cs x) 2 ([((fun q : List GColumn => AV.lst (q.flatMap GColumn.cs) q.length) x.Cols)]) := Sub.skip (k := 1) (show ([(AV.bool x.There)]).length = 1 from rfl) (Sub.skip (k := 1) (show ([(AV.txt x.Name)]).length = 1 from rfl) (Sub.head _ _))
abbrev GTable.w2 (x : GTable) (y : List GColumn) : GTable := { x with Cols := y }
theorem GTable.upd2 (x : GTable) (y : List GColumn) : Upd (GTable.cs x) 2 ([((fun q : List GColumn => AV.lst (q.flatMap GColumn.cs) q.length) y)]) (GTable.cs { x with Cols := y }) := Upd.skip (k := 1) (show ([(AV.bool x.There)]).length = 1 from rfl) (Upd.skip (k := 1) (show ([(AV.txt x.Name)]).length = 1 from rfl) (Upd.head (show ([((fun q : List GColumn => AV.lst (q.flatMap GColumn.cs) q.length) y)]).length = ([((fun q : List GColumn => AV.lst (q.flatMap GColumn.cs) q.length) x.Cols)]).length from rfl)))
theorem GTable.sub3 (x : GTable) : Sub (GTable.cs x) 3 (x.Drawers.toList.flatMap (fun v : Vector GCell 4 => v.toList.flatMap GCell.cs)) := Sub.skip (k := 1) (show ([(AV.bool x.There)]).length = 1 from rfl) (Sub.skip (k := 1) (show ([(AV.txt x.Name)]).length = 1 from rfl) (Sub.skip (k := 1) (show ([((fun q : List GColumn => AV.lst (q.flatMap GColumn.cs) q.length) x.Cols)]).length = 1 from rfl) (Sub.refl _)))
abbrev GTable.w3 (x : GTable) (y : Vector (Vector GCell 4) 2) : GTable := { x with Drawers := y }
theorem GTable.upd3 (x : GTable) (y : Vector (Vector GCell 4) 2) : Upd (GTable.cs x) 3 (y.toList.flatMap (fun v : Vector GCell 4 => v.toList.flatMap GCell.cs)) (GTable.cs { x with Drawers := y }) := Upd.skip (k := 1) (show ([(AV.bool x.There)]).length = 1 from rfl) (Upd.skip (k := 1) (show ([(AV.txt x.Name)]).length = 1 from rfl) (Upd.skip (k := 1) (show ([((fun q : List GColumn => AV.lst (q.flatMap GColumn.cs) q.length) x.Cols)]).length = 1 from rfl) (Upd.refl ((vfm_len (fun x => (vfm_len (fun x => (GCell.len x)) x)) y).trans (vfm_len (fun x => (vfm_len (fun x => (GCell.len x)) x)) x.Drawers).symm))))
theorem in_43 : Info Tryd.prog 43 8 128 (.agg #[.bool false, .slice none 0 0, .bool false, .slice none 0 0, .bool false, .slice none 0 0, .bool false, .slice none 0 0]) := by unfold Info; kernel_rfl
theorem one_43 : (.agg #[.bool false, .slice none 0 0, .bool false, .slice none 0 0, .bool false, .slice none 0 0, .bool false, .slice none 0 0] : Value).cells.all (·.oneCell') = true := by kernel_rfl
theorem zc_43 : ((.agg #[.bool false, .slice none 0 0, .bool false, .slice none 0 0, .bool false, .slice none 0 0, .bool false, .slice none 0 0] : Value).cells.toList.map zcell) = ((Vector.replicate 4 GCell.zero).toList).flatMap GCell.cs := by rfl
theorem in_42 : Info Tryd.prog 42 2 32 (.agg #[.bool false, .slice none 0 0]) := by unfold Info; kernel_rfl
theorem one_42 : (.agg #[.bool false, .slice none 0 0] : Value).cells.all (·.oneCell') = true := by kernel_rfl
theorem zc_42 : ((.agg #[.bool false, .slice none 0 0] : Value).cells.toList.map zcell) = GCell.cs GCell.zero := by rfl
theorem pl_42 : placesOf Tryd.prog 42 = some [(0, 1), (1, 1)] := by kernel_rfl
theorem in_38 : Info Tryd.prog 38 1 24 (.slice none 0 0) := by unfold Info; kernel_rfl
theorem one_38 : (.slice none 0 0 : Value).cells.all (·.oneCell') = true := by kernel_rfl
theorem zc_38 : ((.slice none 0 0 : Value).cells.toList.map zcell) = [((fun q : List GValue => AV.lst (q.flatMap GValue.cs) q.length) [])] := by rfl
theorem in_35 : Info Tryd.prog 35 1 24 (.slice none 0 0) := by unfold Info; kernel_rfl
theorem one_35 : (.slice none 0 0 : Value).cells.all (·.oneCell') = true := by kernel_rfl
theorem zc_35 : ((.slice none 0 0 : Value).cells.toList.map zcell) = [((fun q : List GColumn => AV.lst (q.flatMap GColumn.cs) q.length) [])] := by rfl
theorem in_44 : Info Tryd.prog 44 16 256 (.agg #[.bool false, .slice none 0 0, .bool false, .slice none 0 0, .bool false, .slice none 0 0, .bool false, .slice none 0 0, .bool false, .slice none 0 0, .bool false, .slice none 0 0, .bool false, .slice none 0 0, .bool false, .slice none 0 0]) := by unfold Info; kernel_rfl
theorem one_44 : (.agg #[.bool false, .slice none 0 0, .bool false, .slice none 0 0, .bool false, .slice none 0 0, .bool false, .slice none 0 0, .bool false, .slice none 0 0, .bool false, .slice none 0 0, .bool false, .slice none 0 0, .bool false, .slice none 0 0] : Value).cells.all (·.oneCell') = true := by kernel_rfl
theorem zc_44 : ((.agg #[.bool false, .slice none 0 0, .bool false, .slice none 0 0, .bool false, .slice none 0 0, .bool false, .slice none 0 0, .bool false, .slice none 0 0, .bool false, .slice none 0 0, .bool false, .slice none 0 0, .bool false, .slice none 0 0] : Value).cells.toList.map zcell) = ((Vector.replicate 2 (Vector.replicate 4 GCell.zero)).toList).flatMap (fun v : Vector GCell 4 => v.toList.flatMap GCell.cs) := by rfl
theorem in_46 : Info Tryd.prog 46 19 304 (.agg #[.bool false, .string ⟨#[]⟩, .slice none 0 0, .bool false, .slice none 0 0, .bool false, .slice none 0 0, .bool false, .slice none 0 0, .bool false, .slice none 0 0, .bool false, .slice none 0 0, .bool false, .slice none 0 0, .bool false, .slice none 0 0, .bool false, .slice none 0 0]) := by unfold Info; kernel_rfl
theorem one_46 : (.agg #[.bool false, .string ⟨#[]⟩, .slice none 0 0, .bool false, .slice none 0 0, .bool false, .slice none 0 0, .bool false, .slice none 0 0, .bool false, .slice none 0 0, .bool false, .slice none 0 0, .bool false, .slice none 0 0, .bool false, .slice none 0 0, .bool false, .slice none 0 0] : Value).cells.all (·.oneCell') = true := by kernel_rfl
theorem zc_46 : ((.agg #[.bool false, .string ⟨#[]⟩, .slice none 0 0, .bool false, .slice none 0 0, .bool false, .slice none 0 0, .bool false, .slice none 0 0, .bool false, .slice none 0 0, .bool false, .slice none 0 0, .bool false, .slice none 0 0, .bool false, .slice none 0 0, .bool false, .slice none 0 0] : Value).cells.toList.map zcell) = GTable.cs GTable.zero := by rfl
theorem pl_46 : placesOf Tryd.prog 46 = some [(0, 1), (1, 1), (2, 1), (3, 16)] := by kernel_rfl
theorem eq_29 : EqT Tryd.prog 29 2 (fun x : GValue => .agg (GValue.cs x)) :=
  eqt_struct [fun a b => a.Kind = b.Kind, fun a b => a.Int_ = b.Int_, fun a b => a.Bits = b.Bits, fun a b => a.Text = b.Text] Tryd.underlying29 (by kernel_rfl) ⟨(FieldEq.more (fe_one (by decide) Tryd.underlying3 rfl (eqt_int Tryd.underlying3) (fun a => GValue.sub0 a)) (by decide : 1 ≤ 1)), (FieldEq.more (fe_one (by decide) Tryd.underlying3 rfl (eqt_int Tryd.underlying3) (fun a => GValue.sub1 a)) (by decide : 1 ≤ 1)), (FieldEq.more (fe_one (by decide) Tryd.underlying22 rfl (eqt_u64 Tryd.underlying22) (fun a => GValue.sub2 a)) (by decide : 1 ≤ 1)), (FieldEq.more (fe_one (by decide) Tryd.underlying9 rfl (eqt_txt Tryd.underlying9) (fun a => GValue.sub3 a)) (by decide : 1 ≤ 1)), trivial⟩ (fun a b => by
    cases a; cases b
    simp)

/-! kinds.Row -/
noncomputable def g_kinds_Row (row0 : List GValue) (cols1 : List GColumn) : Option (Int) :=
  (g_kinds_fits row0 cols1).bind fun r'1 => some r'1
set_option maxHeartbeats 4000000 in
set_option maxRecDepth 100000 in
theorem g_kinds_Row_ac {row0 : List GValue} {cols1 : List GColumn} {r : Int} (H : g_kinds_Row row0 cols1 = some r) : ACp Tryd.prog 16 [((fun q : List GValue => AV.lst (q.flatMap GValue.cs) q.length) row0), ((fun q : List GColumn => AV.lst (q.flatMap GColumn.cs) q.length) cols1)] (AV.int r) := by
 refine ACp_of (AC2_of_body (vs := [.i r]) Tryd.func16 rfl rfl (Nat.le_of_ble_eq_true rfl) rfl ?_) (fun _ => .same _)
 unfold g_kinds_Row at H
 refine as2 [(0, .p ((fun q : List GValue => AV.lst (q.flatMap GValue.cs) q.length) row0)), (1, .p ((fun q : List GColumn => AV.lst (q.flatMap GColumn.cs) q.length) cols1))] [] rfl rfl rfl ?_
 refine sg [0] rfl ?_
 refine rp rfl rfl (p_asg rfl rfl) ?_
 refine rz [(0, .p ((fun q : List GValue => AV.lst (q.flatMap GValue.cs) q.length) row0)), (1, .p ((fun q : List GColumn => AV.lst (q.flatMap GColumn.cs) q.length) cols1))] [] rfl rfl rfl ?_
 refine sg [0, 1, 2, 3] rfl ?_
 refine rp rfl rfl (p_move rfl rfl) ?_
 refine rp rfl rfl (p_move rfl rfl) ?_
 refine bindK H fun r'1 h1 H => ?_
 refine rp rfl rfl (p_callp rfl rfl rfl Tryd.func42 rfl rfl (g_kinds_fits_ac h1) ⟨rfl, rfl, trivial⟩) ?_
 refine rp rfl rfl (p_asg rfl rfl) ?_
 refine rz [(4, .i r'1)] [] rfl rfl rfl ?_
 refine AW2_ret ?_
 have hz := some_elim H
 subst hz
 exact ⟨⟨res_tmp (.same _), trivial⟩, trivial⟩

/-! table.keys -/
def g_table_keys_r7 : List (List (Nat × Option Nat)) := [[(4, none)], [(19, some 0)], [(20, some 1)], [(6, none), (21, some 2)], [(21, some 2), (22, some 3)], [(21, some 2), (23, some 4)], [(24, some 5)], [(6, none), (25, some 6)], [(25, some 6), (26, some 7)], [(25, some 6), (27, some 8)], [(25, some 6), (28, some 9)], [(4, none), (25, some 6)], [(25, some 6), (30, some 11)], [(25, some 6), (31, some 12)], [(25, some 6), (32, some 13)]]
def g_table_keys_r7c : List (List Nat) := [[], [0], [0, 1], [0, 1, 2], [0, 1, 2, 3], [0, 1, 2, 3, 4], [0, 1, 2, 3, 4, 5], [0, 1, 2, 3, 4, 5, 6], [0, 1, 2, 3, 4, 5, 6, 7], [0, 1, 2, 3, 4, 5, 6, 7, 8], [0, 1, 2, 3, 4, 5, 6, 7, 8, 9], [0, 1, 2, 3, 4, 5, 6], [0, 1, 2, 3, 4, 5, 6, 11], [0, 1, 2, 3, 4, 5, 6, 11, 12], [0, 1, 2, 3, 4, 5, 6, 11, 12, 13], [0, 1, 2, 3, 4, 5, 6, 7, 8, 9, 10, 11, 12, 13, 14], [0, 1, 2, 3, 4, 5, 6, 7, 8, 9, 10, 11, 12, 13, 14, 15]]
noncomputable def g_table_keys_l1 (d0 : Vector GCell 4) (t8_0 : Int) : Int → Option (Int ⊕ (Int ⊕ Unit))
  | t15_1 => (if t15_1 < (t8_0.toNat : Int) then if 0 ≤ t15_1 ∧ t15_1 < (t8_0.toNat : Int) then ((if ((vrd d0 t8_0.toNat).Full) = true then (if ((vrd d0 t15_1.toNat).Full) = true then if 0 < ((vrd d0 t15_1.toNat).Row).length then if 0 < ((vrd d0 t8_0.toNat).Row).length then some (decide ((lrd ((vrd d0 t15_1.toNat).Row) 0) = (lrd ((vrd d0 t8_0.toNat).Row) 0))) else none else none else some false) else some false)).bind fun g'1 => (if g'1 = true then some (.inr (.inl (8 : Int))) else some (.inl (w64 (t15_1 + (1 : Int))))) else none else some (.inr (.inr ())))
noncomputable def g_table_keys_l0 (d0 : Vector GCell 4) : Int → Option (Int ⊕ (Int ⊕ Unit))
  | t8_0 => (if t8_0 < (4 : Int) then if 0 ≤ t8_0 ∧ t8_0 < (4 : Int) then if 0 ≤ t8_0 ∧ t8_0 ≤ (4 : Int) then (loopO (g_table_keys_l1 d0 t8_0) (0 : Int)).bind fun o'5 => match o'5 with | .inl y'6 => some (.inr (.inl y'6)) | .inr (y'7) => some (.inl (w64 (t8_0 + (1 : Int)))) else none else none else some (.inr (.inr ())))
noncomputable def g_table_keys (d0 : Vector GCell 4) : Option (Int) :=
  (loopO (g_table_keys_l0 d0) (0 : Int)).bind fun o'11 => match o'11 with | .inl y'12 => some y'12 | .inr (y'13) => some (0 : Int)
set_option maxHeartbeats 4000000 in
set_option maxRecDepth 100000 in
theorem g_table_keys_ac {d0 : Vector GCell 4} {r : Int} (H : g_table_keys d0 = some r) : ACp Tryd.prog 44 [(.agg (d0.toList.flatMap GCell.cs))] (AV.int r) := by
 refine ACp_of (AC2_of_body (vs := [.i r]) Tryd.func44 rfl rfl (Nat.le_of_ble_eq_true rfl) rfl ?_) (fun _ => .same _)
 unfold g_table_keys at H
 refine as2 [(0, .g (d0.toList.flatMap GCell.cs))] [] rfl rfl rfl ?_
 refine sg [0, 1] rfl ?_
 refine r_op rfl rfl (MakeD.opD (n_box 1 rfl rfl) rfl rfl rfl rfl) ?_
 refine rp rfl rfl (p_asg rfl rfl) ?_
 refine rz [(1, .q 1 (0))] [(1, .pure (d0.toList.flatMap GCell.cs))] rfl rfl rfl ?_
 refine AW2_seq ?_
 refine sg [0, 1] rfl ?_
 refine rp rfl rfl (u_lda rfl rfl Tryd.underlying43 rfl in_43 rfl (Nat.succ_pos _) (Sub.refl _) (vfm_len (fun x => (GCell.len x)) d0)) ?_
 refine rp rfl rfl (p_move rfl rfl) ?_
 refine rz [(1, .q 1 (0)), (7, .g (d0.toList.flatMap GCell.cs)), (8, .i (0 : Int))] [(1, .pure (d0.toList.flatMap GCell.cs))] rfl rfl rfl ?_
 refine AW2_block ?_
 refine as2 [(1, .q 1 (0)), (7, .g (d0.toList.flatMap GCell.cs)), (8, .i (0 : Int))] [(1, .pure (d0.toList.flatMap GCell.cs))] rfl rfl rfl ?_
 refine bindK H fun o'11 h13 H => ?_
 refine AW2_loopO (fun a'8 : Int => (⟨[(1, .q 1 (0)), (7, .g (d0.toList.flatMap GCell.cs)), (8, .i a'8)], [(1, .pure (d0.toList.flatMap GCell.cs))], 38⟩ : TS)) (fun (o : Int ⊕ Unit) e s' => match o with | .inl y'9 => e = Go.Exit.ret ∧ ResAll Tryd.prog s' [ResultVar.tmp 2] [.i y'9] ∧ HFits s' [] | .inr (y'10) => e = Go.Exit.exit 0 ∧ s' = (⟨[], [], 38⟩ : TS)) h13 rfl (fun t8_0 x hx => ?_) (fun e s' hs => ?_)
 ·clear H
  have H := hx
  clear hx
  unfold g_table_keys_l0 at H
  refine sg [0] rfl ?_
  refine rp rfl rfl (p_bin rfl rfl rfl rfl) ?_
  refine rz [(1, .q 1 (0)), (7, .g (d0.toList.flatMap GCell.cs)), (8, .i t8_0), (9, .b (decide (t8_0 < (4 : Int))))] [(1, .pure (d0.toList.flatMap GCell.cs))] rfl rfl rfl ?_
  refine AW2_seq ?_
  refine AW2_if (p := t8_0 < (4 : Int)) rfl (fun h1 => ?_) (fun h1 => ?_)
  ·replace H := ite_then h1 H
   refine as2 [(1, .q 1 (0)), (7, .g (d0.toList.flatMap GCell.cs)), (8, .i t8_0)] [(1, .pure (d0.toList.flatMap GCell.cs))] rfl rfl rfl ?_
   refine AW2_skip ?_
   refine AW2_seq ?_
   refine AW2_block ?_
   refine sg [0, 1, 2, 3, 4] rfl ?_
   refine rp rfl rfl (p_move rfl rfl) ?_
   refine chkK H fun h2 H => ?_
   refine rp rfl rfl (u_ixaa rfl rfl Tryd.underlying43 in_42 Tryd.underlying42 rfl rfl rfl (ixe h2) (ixn h2) (Sub.vfm (fun x => (GCell.len x)) (ixn h2)) (GCell.len (vrd d0 t8_0.toNat))) ?_
   refine r_op rfl rfl (MakeD.opD (u_alloc 4 rfl in_42 one_42 zc_42) rfl rfl rfl rfl) ?_
   refine rp rfl rfl (p_asg rfl rfl) ?_
   refine r_op rfl rfl (u_st rfl rfl rfl rfl rfl in_42 (GCell.len (vrd d0 t8_0.toNat)) (ne_of_lt (n := 0) (Nat.lt_of_lt_of_eq (by decide) (Eq.symm (GCell.len GCell.zero)))) (Upd.refl ((GCell.len (vrd d0 t8_0.toNat)).trans (GCell.len GCell.zero).symm))) ?_
   refine rz [(1, .q 1 (0)), (3, .i t8_0), (4, .q 4 (0)), (7, .g (d0.toList.flatMap GCell.cs)), (8, .i t8_0)] [(1, .pure (d0.toList.flatMap GCell.cs)), (4, .pure (GCell.cs (vrd d0 t8_0.toNat)))] rfl rfl rfl ?_
   refine sg [0, 1, 2, 3] rfl ?_
   refine rp rfl rfl (p_move rfl rfl) ?_
   refine chkK H fun h3 H => ?_
   refine rp rfl rfl (u_cutah rfl rfl Tryd.underlying43 in_42 rfl rfl (ne_of_lt (n := 0) (Nat.lt_of_lt_of_eq (by decide) (Eq.symm (vfm_len (fun x => (GCell.len x)) d0)))) (Sub.refl _) ((vfm_len (fun x => (GCell.len x)) d0).trans (by decide)) (bT_i h3.1 rfl) (toNat_le h3)) ?_
   refine rp rfl rfl (u_lens rfl Tryd.underlying89 rfl rfl rfl (ne_of_lt (n := 0) (Nat.lt_of_lt_of_eq (by decide) (Eq.symm (vfm_len (fun x => (GCell.len x)) d0))))) ?_
   refine rp rfl rfl (p_move rfl rfl) ?_
   refine rz [(1, .q 1 (0)), (4, .q 4 (0)), (7, .g (d0.toList.flatMap GCell.cs)), (8, .i t8_0), (13, .c (.sl 1 (0 + 0 * 2) t8_0.toNat 2)), (14, .i (t8_0.toNat : Int)), (15, .i (0 : Int))] [(1, .pure (d0.toList.flatMap GCell.cs)), (4, .pure (GCell.cs (vrd d0 t8_0.toNat)))] rfl rfl rfl ?_
   refine AW2_block ?_
   refine as2 [(1, .q 1 (0)), (4, .q 4 (0)), (7, .g (d0.toList.flatMap GCell.cs)), (8, .i t8_0), (13, .c (.sl 1 (0 + 0 * 2) t8_0.toNat 2)), (14, .i (t8_0.toNat : Int)), (15, .i (0 : Int))] [(1, .pure (d0.toList.flatMap GCell.cs)), (4, .pure (GCell.cs (vrd d0 t8_0.toNat)))] rfl rfl rfl ?_
   refine bindK H fun o'5 h12 H => ?_
   refine AW2_loopO (fun a'2 : Int => (⟨[(1, .q 1 (0)), (4, .q 4 (0)), (7, .g (d0.toList.flatMap GCell.cs)), (8, .i t8_0), (13, .c (.sl 1 (0 + 0 * 2) t8_0.toNat 2)), (14, .i (t8_0.toNat : Int)), (15, .i a'2)], [(1, .pure (d0.toList.flatMap GCell.cs)), (4, .pure (GCell.cs (vrd d0 t8_0.toNat)))], 38⟩ : TS)) (fun (o : Int ⊕ Unit) e s' => match o with | .inl y'3 => e = Go.Exit.ret ∧ ResAll Tryd.prog s' [ResultVar.tmp 2] [.i y'3] ∧ HFits s' [] | .inr (y'4) => e = Go.Exit.exit 2 ∧ s' = (⟨[(1, .q 1 (0)), (7, .g (d0.toList.flatMap GCell.cs)), (8, .i t8_0)], [(1, .pure (d0.toList.flatMap GCell.cs))], 38⟩ : TS)) h12 rfl (fun t15_1 x hx => ?_) (fun e s' hs => ?_)
   ·clear H
    have H := hx
    clear hx
    unfold g_table_keys_l1 at H
    refine sg [0] rfl ?_
    refine rp rfl rfl (p_bin rfl rfl rfl rfl) ?_
    refine rz [(1, .q 1 (0)), (4, .q 4 (0)), (7, .g (d0.toList.flatMap GCell.cs)), (8, .i t8_0), (13, .c (.sl 1 (0 + 0 * 2) t8_0.toNat 2)), (14, .i (t8_0.toNat : Int)), (15, .i t15_1), (16, .b (decide (t15_1 < (t8_0.toNat : Int))))] [(1, .pure (d0.toList.flatMap GCell.cs)), (4, .pure (GCell.cs (vrd d0 t8_0.toNat)))] rfl rfl rfl ?_
    refine AW2_seq ?_
    refine AW2_if (p := t15_1 < (t8_0.toNat : Int)) rfl (fun h4 => ?_) (fun h4 => ?_)
    ·replace H := ite_then h4 H
     refine as2 [(1, .q 1 (0)), (4, .q 4 (0)), (7, .g (d0.toList.flatMap GCell.cs)), (8, .i t8_0), (13, .c (.sl 1 (0 + 0 * 2) t8_0.toNat 2)), (14, .i (t8_0.toNat : Int)), (15, .i t15_1)] [(1, .pure (d0.toList.flatMap GCell.cs)), (4, .pure (GCell.cs (vrd d0 t8_0.toNat)))] rfl rfl rfl ?_
     refine AW2_skip ?_
     refine AW2_seq ?_
     refine AW2_block ?_
     refine sg [0, 1, 2, 3] rfl ?_
     refine chkK H fun h5 H => ?_
     refine rp rfl rfl (u_ixs rfl rfl Tryd.underlying89 in_42 rfl rfl (ne_of_lt (n := 0) (Nat.lt_of_lt_of_eq (by decide) (Eq.symm (vfm_len (fun x => (GCell.len x)) d0)))) rfl (ixe h5) (ixn h5)) ?_
     refine rp rfl rfl (u_lda rfl rfl Tryd.underlying42 rfl in_42 rfl (Nat.succ_pos _) ((Sub.refl _).trans (Sub.vfm (fun x => (GCell.len x)) (Nat.lt_of_lt_of_le (ixn h5) (toNat_le h3)))) (GCell.len (vrd d0 t15_1.toNat))) ?_
     refine r_op rfl rfl (MakeD.opD (u_alloc 6 rfl in_42 one_42 zc_42) rfl rfl rfl rfl) ?_
     refine r_op rfl rfl (u_st rfl rfl rfl rfl rfl in_42 (GCell.len (vrd d0 t15_1.toNat)) (ne_of_lt (n := 0) (Nat.lt_of_lt_of_eq (by decide) (Eq.symm (GCell.len GCell.zero)))) (Upd.refl ((GCell.len (vrd d0 t15_1.toNat)).trans (GCell.len GCell.zero).symm))) ?_
     refine rz [(1, .q 1 (0)), (4, .q 4 (0)), (6, .q 6 (0)), (7, .g (d0.toList.flatMap GCell.cs)), (8, .i t8_0), (13, .c (.sl 1 (0 + 0 * 2) t8_0.toNat 2)), (14, .i (t8_0.toNat : Int)), (15, .i t15_1)] [(1, .pure (d0.toList.flatMap GCell.cs)), (4, .pure (GCell.cs (vrd d0 t8_0.toNat))), (6, .pure (GCell.cs (vrd d0 t15_1.toNat)))] rfl rfl rfl ?_
     refine AW2_seq ?_
     refine bindK H fun g'1 h10 H => ?_
     refine AW2_mid (⟨[(1, .q 1 (0)), (4, .q 4 (0)), (7, .g (d0.toList.flatMap GCell.cs)), (8, .i t8_0), (13, .c (.sl 1 (0 + 0 * 2) t8_0.toNat 2)), (14, .i (t8_0.toNat : Int)), (15, .i t15_1), (35, .b g'1)], [(1, .pure (d0.toList.flatMap GCell.cs)), (4, .pure (GCell.cs (vrd d0 t8_0.toNat)))], 38⟩ : TS) ?_ ?_
     ·clear H
      have H := h10
      clear h10
      refine (Classical.em (((vrd d0 t8_0.toNat).Full) = true)).elim (fun h6 => ?_) (fun h6 => ?_)
      ·replace H := ite_then h6 H
       refine (Classical.em (((vrd d0 t15_1.toNat).Full) = true)).elim (fun h7 => ?_) (fun h7 => ?_)
       ·replace H := ite_then h7 H
        refine chkK H fun h8 H => ?_
        refine chkK H fun h9 H => ?_
        have hz := some_elim H
        subst hz
        refine AW2_ghoQ ?_
        refine AW2_draw 15 [15, 16] (fun k => ([.q 4 (0 + 0), .b ((vrd d0 t8_0.toNat).Full), .b ((vrd d0 t8_0.toNat).Full), .q 6 (0 + 0), .b ((vrd d0 t15_1.toNat).Full), .b ((vrd d0 t15_1.toNat).Full), .b ((vrd d0 t15_1.toNat).Full), .q 6 (0 + 1), .p ((fun q : List GValue => AV.lst (q.flatMap GValue.cs) q.length) ((vrd d0 t15_1.toNat).Row)), .p (.rptr (((vrd d0 t15_1.toNat).Row).flatMap GValue.cs) (0 * 4)), .g (GValue.cs (lrd ((vrd d0 t15_1.toNat).Row) 0)), .q 4 (0 + 1), .p ((fun q : List GValue => AV.lst (q.flatMap GValue.cs) q.length) ((vrd d0 t8_0.toNat).Row)), .p (.rptr (((vrd d0 t8_0.toNat).Row).flatMap GValue.cs) (0 * 4)), .g (GValue.cs (lrd ((vrd d0 t8_0.toNat).Row) 0))] : List TV).getD k TV.any) (fun k => g_table_keys_r7.getD k []) [(1, none), (4, none), (7, none), (8, none), (13, none), (14, none), (15, none), (25, some 6), (29, some 10), (33, some 14)] [] (fun k => g_table_keys_r7c.getD k []) mixed (by kernel_rfl) rfl rfl (a_op (g_x rfl (x_p rfl (u_fa rfl rfl Tryd.underlying42 rfl in_4 (Nat.succ_ne_zero _) rfl rfl (ne_of_lt (n := 0) (Nat.lt_of_lt_of_eq (by decide) (Eq.symm (GCell.len (vrd d0 t8_0.toNat)))))) rfl)) (a_op (g_x rfl (x_p rfl (u_ld rfl rfl Tryd.underlying4 rfl rfl ((Sub.refl _).trans (GCell.sub0 (vrd d0 t8_0.toNat)))) rfl)) (a_op (g_x rfl (x_p rfl (p_move rfl rfl) rfl)) (a_op (g_on rfl rfl rfl h6 rfl (x_p rfl (u_fa rfl rfl Tryd.underlying42 rfl in_4 (Nat.succ_ne_zero _) rfl rfl (ne_of_lt (n := 0) (Nat.lt_of_lt_of_eq (by decide) (Eq.symm (GCell.len (vrd d0 t15_1.toNat)))))) rfl)) (a_op (g_on rfl rfl rfl h6 rfl (x_p rfl (u_ld rfl rfl Tryd.underlying4 rfl rfl ((Sub.refl _).trans (GCell.sub0 (vrd d0 t15_1.toNat)))) rfl)) (a_op (g_x rfl (x_p rfl (p_pkt rfl rfl h6 (.same _)) rfl)) (a_op (g_x rfl (x_p rfl (p_move rfl rfl) rfl)) (a_op (g_on rfl rfl rfl h7 rfl (x_p rfl (u_fa rfl rfl Tryd.underlying42 rfl in_38 (Nat.succ_ne_zero _) rfl rfl (ne_of_lt (n := 0) (Nat.lt_of_lt_of_eq (by decide) (Eq.symm (GCell.len (vrd d0 t15_1.toNat)))))) rfl)) (a_op (g_on rfl rfl rfl h7 rfl (x_p rfl (u_ld rfl rfl Tryd.underlying38 rfl rfl ((Sub.refl _).trans (GCell.sub1 (vrd d0 t15_1.toNat)))) rfl)) (a_op (g_on rfl rfl rfl h7 rfl (x_p rfl (u_ixl rfl rfl Tryd.underlying38 in_29 rfl rfl rfl h8 (fne (fun x => (GValue.len x)) (by decide) h8)) rfl)) (a_op (g_on rfl rfl rfl h7 rfl (x_p rfl (u_lda rfl rfl Tryd.underlying29 rfl in_29 rfl (Nat.succ_pos _) (Sub.fm default (fun x => (GValue.len x)) h8) (GValue.len (lrd ((vrd d0 t15_1.toNat).Row) 0))) rfl)) (a_op (g_on rfl rfl rfl h7 rfl (x_p rfl (u_fa rfl rfl Tryd.underlying42 rfl in_38 (Nat.succ_ne_zero _) rfl rfl (ne_of_lt (n := 0) (Nat.lt_of_lt_of_eq (by decide) (Eq.symm (GCell.len (vrd d0 t8_0.toNat)))))) rfl)) (a_op (g_on rfl rfl rfl h7 rfl (x_p rfl (u_ld rfl rfl Tryd.underlying38 rfl rfl ((Sub.refl _).trans (GCell.sub1 (vrd d0 t8_0.toNat)))) rfl)) (a_op (g_on rfl rfl rfl h7 rfl (x_p rfl (u_ixl rfl rfl Tryd.underlying38 in_29 rfl rfl rfl h9 (fne (fun x => (GValue.len x)) (by decide) h9)) rfl)) (a_op (g_on rfl rfl rfl h7 rfl (x_p rfl (u_lda rfl rfl Tryd.underlying29 rfl in_29 rfl (Nat.succ_pos _) (Sub.fm default (fun x => (GValue.len x)) h9) (GValue.len (lrd ((vrd d0 t8_0.toNat).Row) 0))) rfl)) (a_nil)))))))))))))))) ?_
        refine t_on rfl rfl rfl rfl h7 rfl (PureD.opD (p_eqa (a := (lrd ((vrd d0 t15_1.toNat).Row) 0)) (b := (lrd ((vrd d0 t8_0.toNat).Row) 0)) rfl eq_29 rfl (by kernel_rfl) rfl rfl)) ?_
        refine t_op rfl rfl (PureD.opD (p_pkt rfl rfl h7 (.same _))) ?_
        refine t_gho (Gho_st (L := [(1, .q 1 (0)), (4, .q 4 (0)), (7, .g (d0.toList.flatMap GCell.cs)), (8, .i t8_0), (13, .c (.sl 1 (0 + 0 * 2) t8_0.toNat 2)), (14, .i (t8_0.toNat : Int)), (15, .i t15_1), (35, .b (decide ((lrd ((vrd d0 t15_1.toNat).Row) 0) = (lrd ((vrd d0 t8_0.toNat).Row) 0))))]) (H := [(1, .pure (d0.toList.flatMap GCell.cs)), (4, .pure (GCell.cs (vrd d0 t8_0.toNat)))]) (N := 38) rfl ⟨TLes.same _, TLes.same _, TLes.same _, TLes.same _, TLes.same _, TLes.same _, TLes.same _, TLes.same _, trivial⟩ ⟨rfl, rfl, trivial⟩) ?_
        exact rfl
       ·replace H := ite_else h7 H
        have hz := some_elim H
        subst hz
        refine AW2_ghoQ ?_
        refine AW2_draw 15 [15, 16] (fun k => ([.q 4 (0 + 0), .b ((vrd d0 t8_0.toNat).Full), .b ((vrd d0 t8_0.toNat).Full), .q 6 (0 + 0), .b ((vrd d0 t15_1.toNat).Full), .b ((vrd d0 t15_1.toNat).Full), .b ((vrd d0 t15_1.toNat).Full), .p (.tup []), .p (.tup []), .p (.tup []), .p (.tup []), .p (.tup []), .p (.tup []), .p (.tup []), .p (.tup [])] : List TV).getD k TV.any) (fun k => g_table_keys_r7.getD k []) [(1, none), (4, none), (7, none), (8, none), (13, none), (14, none), (15, none), (25, some 6), (29, some 10), (33, some 14)] [] (fun k => g_table_keys_r7c.getD k []) mixed (by kernel_rfl) rfl rfl (a_op (g_x rfl (x_p rfl (u_fa rfl rfl Tryd.underlying42 rfl in_4 (Nat.succ_ne_zero _) rfl rfl (ne_of_lt (n := 0) (Nat.lt_of_lt_of_eq (by decide) (Eq.symm (GCell.len (vrd d0 t8_0.toNat)))))) rfl)) (a_op (g_x rfl (x_p rfl (u_ld rfl rfl Tryd.underlying4 rfl rfl ((Sub.refl _).trans (GCell.sub0 (vrd d0 t8_0.toNat)))) rfl)) (a_op (g_x rfl (x_p rfl (p_move rfl rfl) rfl)) (a_op (g_on rfl rfl rfl h6 rfl (x_p rfl (u_fa rfl rfl Tryd.underlying42 rfl in_4 (Nat.succ_ne_zero _) rfl rfl (ne_of_lt (n := 0) (Nat.lt_of_lt_of_eq (by decide) (Eq.symm (GCell.len (vrd d0 t15_1.toNat)))))) rfl)) (a_op (g_on rfl rfl rfl h6 rfl (x_p rfl (u_ld rfl rfl Tryd.underlying4 rfl rfl ((Sub.refl _).trans (GCell.sub0 (vrd d0 t15_1.toNat)))) rfl)) (a_op (g_x rfl (x_p rfl (p_pkt rfl rfl h6 (.same _)) rfl)) (a_op (g_x rfl (x_p rfl (p_move rfl rfl) rfl)) (a_op (g_off rfl rfl rfl rfl rfl (bfalse h7) rfl rfl) (a_op (g_off rfl rfl rfl rfl rfl (bfalse h7) rfl rfl) (a_op (g_off rfl rfl rfl rfl rfl (bfalse h7) rfl rfl) (a_op (g_off rfl rfl rfl rfl rfl (bfalse h7) rfl rfl) (a_op (g_off rfl rfl rfl rfl rfl (bfalse h7) rfl rfl) (a_op (g_off rfl rfl rfl rfl rfl (bfalse h7) rfl rfl) (a_op (g_off rfl rfl rfl rfl rfl (bfalse h7) rfl rfl) (a_op (g_off rfl rfl rfl rfl rfl (bfalse h7) rfl rfl) (a_nil)))))))))))))))) ?_
        refine t_off rfl rfl rfl rfl (bfalse h7) rfl rfl ?_
        refine t_op rfl rfl (PureD.opD (p_pkf rfl rfl (bfalse h7) (.same _))) ?_
        refine t_gho (Gho_st (L := [(1, .q 1 (0)), (4, .q 4 (0)), (7, .g (d0.toList.flatMap GCell.cs)), (8, .i t8_0), (13, .c (.sl 1 (0 + 0 * 2) t8_0.toNat 2)), (14, .i (t8_0.toNat : Int)), (15, .i t15_1), (35, .b false)]) (H := [(1, .pure (d0.toList.flatMap GCell.cs)), (4, .pure (GCell.cs (vrd d0 t8_0.toNat)))]) (N := 38) rfl ⟨TLes.same _, TLes.same _, TLes.same _, TLes.same _, TLes.same _, TLes.same _, TLes.same _, TLes.same _, trivial⟩ ⟨rfl, rfl, trivial⟩) ?_
        exact rfl
      ·replace H := ite_else h6 H
       have hz := some_elim H
       subst hz
       refine AW2_ghoQ ?_
       refine AW2_draw 15 [15, 16] (fun k => ([.q 4 (0 + 0), .b ((vrd d0 t8_0.toNat).Full), .b ((vrd d0 t8_0.toNat).Full), .p (.tup []), .p (.tup []), .b false, .b false, .p (.tup []), .p (.tup []), .p (.tup []), .p (.tup []), .p (.tup []), .p (.tup []), .p (.tup []), .p (.tup [])] : List TV).getD k TV.any) (fun k => g_table_keys_r7.getD k []) [(1, none), (4, none), (7, none), (8, none), (13, none), (14, none), (15, none), (25, some 6), (29, some 10), (33, some 14)] [] (fun k => g_table_keys_r7c.getD k []) mixed (by kernel_rfl) rfl rfl (a_op (g_x rfl (x_p rfl (u_fa rfl rfl Tryd.underlying42 rfl in_4 (Nat.succ_ne_zero _) rfl rfl (ne_of_lt (n := 0) (Nat.lt_of_lt_of_eq (by decide) (Eq.symm (GCell.len (vrd d0 t8_0.toNat)))))) rfl)) (a_op (g_x rfl (x_p rfl (u_ld rfl rfl Tryd.underlying4 rfl rfl ((Sub.refl _).trans (GCell.sub0 (vrd d0 t8_0.toNat)))) rfl)) (a_op (g_x rfl (x_p rfl (p_move rfl rfl) rfl)) (a_op (g_off rfl rfl rfl rfl rfl (bfalse h6) rfl rfl) (a_op (g_off rfl rfl rfl rfl rfl (bfalse h6) rfl rfl) (a_op (g_x rfl (x_p rfl (p_pkf rfl rfl (bfalse h6) (.same _)) rfl)) (a_op (g_x rfl (x_p rfl (p_move rfl rfl) rfl)) (a_op (g_off rfl rfl rfl rfl rfl (bfalse (by decide)) rfl rfl) (a_op (g_off rfl rfl rfl rfl rfl (bfalse (by decide)) rfl rfl) (a_op (g_off rfl rfl rfl rfl rfl (bfalse (by decide)) rfl rfl) (a_op (g_off rfl rfl rfl rfl rfl (bfalse (by decide)) rfl rfl) (a_op (g_off rfl rfl rfl rfl rfl (bfalse (by decide)) rfl rfl) (a_op (g_off rfl rfl rfl rfl rfl (bfalse (by decide)) rfl rfl) (a_op (g_off rfl rfl rfl rfl rfl (bfalse (by decide)) rfl rfl) (a_op (g_off rfl rfl rfl rfl rfl (bfalse (by decide)) rfl rfl) (a_nil)))))))))))))))) ?_
       refine t_off rfl rfl rfl rfl (bfalse (by decide)) rfl rfl ?_
       refine t_op rfl rfl (PureD.opD (p_pkf rfl rfl (bfalse (by decide)) (.same _))) ?_
       refine t_gho (Gho_st (L := [(1, .q 1 (0)), (4, .q 4 (0)), (7, .g (d0.toList.flatMap GCell.cs)), (8, .i t8_0), (13, .c (.sl 1 (0 + 0 * 2) t8_0.toNat 2)), (14, .i (t8_0.toNat : Int)), (15, .i t15_1), (35, .b false)]) (H := [(1, .pure (d0.toList.flatMap GCell.cs)), (4, .pure (GCell.cs (vrd d0 t8_0.toNat)))]) (N := 38) rfl ⟨TLes.same _, TLes.same _, TLes.same _, TLes.same _, TLes.same _, TLes.same _, TLes.same _, TLes.same _, trivial⟩ ⟨rfl, rfl, trivial⟩) ?_
       exact rfl
     ·refine AW2_cond rfl (fun h11 => ?_) (fun h11 => ?_)
      ·replace H := ite_then h11 H
       refine sg [0] rfl ?_
       refine rp rfl rfl (p_asg rfl rfl) ?_
       refine rz [(2, .i (8 : Int))] [] rfl rfl rfl ?_
       refine AW2_ret ?_
       have hz := some_elim H
       subst hz
       exact ⟨rfl, ⟨res_tmp (.same _), trivial⟩, trivial⟩
      ·replace H := ite_else (ne_true h11) H
       refine as2 [(1, .q 1 (0)), (4, .q 4 (0)), (7, .g (d0.toList.flatMap GCell.cs)), (8, .i t8_0), (13, .c (.sl 1 (0 + 0 * 2) t8_0.toNat 2)), (14, .i (t8_0.toNat : Int)), (15, .i t15_1)] [(1, .pure (d0.toList.flatMap GCell.cs)), (4, .pure (GCell.cs (vrd d0 t8_0.toNat)))] rfl rfl rfl ?_
       refine AW2_skip ?_
       refine AW2_reg [0, 1] rfl ?_
       refine rp rfl rfl (p_bin rfl rfl rfl rfl) ?_
       refine rp rfl rfl (p_move rfl rfl) ?_
       refine rz [(1, .q 1 (0)), (4, .q 4 (0)), (7, .g (d0.toList.flatMap GCell.cs)), (8, .i t8_0), (13, .c (.sl 1 (0 + 0 * 2) t8_0.toNat 2)), (14, .i (t8_0.toNat : Int)), (15, .i (w64 (t15_1 + (1 : Int))))] [(1, .pure (d0.toList.flatMap GCell.cs)), (4, .pure (GCell.cs (vrd d0 t8_0.toNat)))] rfl rfl rfl ?_
       have hz := some_elim H
       subst hz
       exact ⟨rfl, rfl⟩
    ·replace H := ite_else h4 H
     refine as2 [(1, .q 1 (0)), (7, .g (d0.toList.flatMap GCell.cs)), (8, .i t8_0)] [(1, .pure (d0.toList.flatMap GCell.cs))] rfl rfl rfl ?_
     refine AW2_exit ?_
     refine thenQ2_exit ?_
     have hz := some_elim H
     subst hz
     exact ⟨rfl, rfl⟩
   ·rcases o'5 with y'6 | y'7
    ·obtain ⟨rfl, hs⟩ := hs
     refine ⟨by simp, ?_⟩
     have hz := some_elim H
     subst hz
     exact ⟨rfl, hs.1, hs.2⟩
    ·obtain ⟨rfl, rfl⟩ := hs
     refine ⟨by simp, ?_⟩
     refine blockQ2_exit ?_
     refine AW2_reg [0, 1] rfl ?_
     refine rp rfl rfl (p_bin rfl rfl rfl rfl) ?_
     refine rp rfl rfl (p_move rfl rfl) ?_
     refine rz [(1, .q 1 (0)), (7, .g (d0.toList.flatMap GCell.cs)), (8, .i (w64 (t8_0 + (1 : Int))))] [(1, .pure (d0.toList.flatMap GCell.cs))] rfl rfl rfl ?_
     have hz := some_elim H
     subst hz
     exact ⟨rfl, rfl⟩
  ·replace H := ite_else h1 H
   refine as2 [] [] rfl rfl rfl ?_
   refine AW2_exit ?_
   refine thenQ2_exit ?_
   have hz := some_elim H
   subst hz
   exact ⟨rfl, rfl⟩
 ·rcases o'11 with y'12 | y'13
  ·obtain ⟨rfl, hs⟩ := hs
   refine ⟨by simp, ?_⟩
   have hz := some_elim H
   subst hz
   exact ⟨hs.1, hs.2⟩
  ·obtain ⟨rfl, rfl⟩ := hs
   refine ⟨by simp, ?_⟩
   refine blockQ2_exit ?_
   refine sg [0] rfl ?_
   refine rp rfl rfl (p_asg rfl rfl) ?_
   refine rz [(2, .i (0 : Int))] [] rfl rfl rfl ?_
   refine AW2_ret ?_
   have hz := some_elim H
   subst hz
   exact ⟨⟨res_tmp (.same _), trivial⟩, trivial⟩

/-! table.Check -/
noncomputable def g_table_Check_l1 (t0 : GTable) (t45_0 : Int) : Int → Option (Int ⊕ (Int ⊕ Unit))
  | t49_1 => (if t49_1 < (4 : Int) then (show Option (Int ⊕ Unit) from if 0 ≤ t49_1 ∧ t49_1 < (4 : Int) then (if ((!((vrd (vrd t0.Drawers t45_0.toNat) t49_1.toNat).Full)) = true) ∧ ((((vrd (vrd t0.Drawers t45_0.toNat) t49_1.toNat).Row).length : Int) > (0 : Int)) then some (.inl (3 : Int)) else (if (!((vrd (vrd t0.Drawers t45_0.toNat) t49_1.toNat).Full)) = true then some (.inr ()) else (g_kinds_Row ((vrd (vrd t0.Drawers t45_0.toNat) t49_1.toNat).Row) t0.Cols).bind fun r'5 => (if r'5 ≠ (0 : Int) then some (.inl r'5) else some (.inr ())))) else none).bind fun o'7 => match o'7 with | .inl y'6 => some (.inr (.inl y'6)) | .inr j'4 => some (.inl (w64 (t49_1 + (1 : Int)))) else some (.inr (.inr ())))
noncomputable def g_table_Check_l0 (t0 : GTable) : Int → Option (Int ⊕ (Int ⊕ Unit))
  | t45_0 => (if t45_0 < (2 : Int) then if 0 ≤ t45_0 ∧ t45_0 < (2 : Int) then (loopO (g_table_Check_l1 t0 t45_0) (0 : Int)).bind fun o'11 => match o'11 with | .inl y'12 => some (.inr (.inl y'12)) | .inr (y'13) => (g_table_keys (vrd t0.Drawers t45_0.toNat)).bind fun r'14 => (if r'14 ≠ (0 : Int) then some (.inr (.inl r'14)) else some (.inl (w64 (t45_0 + (1 : Int))))) else none else some (.inr (.inr ())))
noncomputable def g_table_Check (t0 : GTable) : Option (Int) :=
  (if (!t0.There) = true then some (5 : Int) else (g_lex_Check ({ { GToken.zero with Kind := (1 : Int) } with Text := t0.Name })).bind fun r'1 => (if r'1 ≠ (0 : Int) then some (3 : Int) else (g_kinds_Columns t0.Cols).bind fun r'2 => (if r'2 ≠ (0 : Int) then some r'2 else ((if (t0.Cols.length : Int) = (0 : Int) then some true else if 0 < t0.Cols.length then (if (lrd t0.Cols 0).Kind ≠ (2 : Int) then some true else if 0 < t0.Cols.length then some ((lrd t0.Cols 0).Null) else none) else none)).bind fun g'3 => (if g'3 = true then some (3 : Int) else (loopO (g_table_Check_l0 t0) (0 : Int)).bind fun o'18 => match o'18 with | .inl y'19 => some y'19 | .inr (y'20) => some (0 : Int)))))
set_option maxHeartbeats 4000000 in
set_option maxRecDepth 100000 in
theorem g_table_Check_ac {t0 : GTable} {r : Int} (H : g_table_Check t0 = some r) : ACp Tryd.prog 18 [(.agg (GTable.cs t0))] (AV.int r) := by
 refine ACp_of (AC2_of_body (vs := [.i r]) Tryd.func18 rfl rfl (Nat.le_of_ble_eq_true rfl) rfl ?_) (fun _ => .same _)
 unfold g_table_Check at H
 refine as2 [(0, .g (GTable.cs t0))] [] rfl rfl rfl ?_
 refine sg [0, 1] rfl ?_
 refine r_op rfl rfl (MakeD.opD (n_box 1 rfl rfl) rfl rfl rfl rfl) ?_
 refine rp rfl rfl (p_asg rfl rfl) ?_
 refine rz [(1, .q 1 (0))] [(1, .pure (GTable.cs t0))] rfl rfl rfl ?_
 refine AW2_seq ?_
 refine sg [0, 1, 2] rfl ?_
 refine rp rfl rfl (u_fa rfl rfl Tryd.underlying46 rfl in_4 (Nat.succ_ne_zero _) rfl rfl (ne_of_lt (n := 0) (Nat.lt_of_lt_of_eq (by decide) (Eq.symm (GTable.len t0))))) ?_
 refine rp rfl rfl (u_ld rfl rfl Tryd.underlying4 rfl rfl ((Sub.refl _).trans (GTable.sub0 t0))) ?_
 refine rp rfl rfl (p_not rfl rfl) ?_
 refine rz [(1, .q 1 (0)), (12, .b (!t0.There))] [(1, .pure (GTable.cs t0))] rfl rfl rfl ?_
 refine AW2_cond rfl (fun h1 => ?_) (fun h1 => ?_)
 ·replace H := ite_then h1 H
  refine sg [0] rfl ?_
  refine rp rfl rfl (p_asg rfl rfl) ?_
  refine rz [(2, .i (5 : Int))] [] rfl rfl rfl ?_
  refine AW2_ret ?_
  have hz := some_elim H
  subst hz
  exact ⟨⟨res_tmp (.same _), trivial⟩, trivial⟩
 ·replace H := ite_else (ne_true h1) H
  refine as2 [(1, .q 1 (0))] [(1, .pure (GTable.cs t0))] rfl rfl rfl ?_
  refine AW2_skip ?_
  refine AW2_seq ?_
  refine sg [0, 1, 2, 3, 4] rfl ?_
  refine rp rfl rfl (u_fa rfl rfl Tryd.underlying46 rfl in_9 (Nat.succ_ne_zero _) rfl rfl (ne_of_lt (n := 0) (Nat.lt_of_lt_of_eq (by decide) (Eq.symm (GTable.len t0))))) ?_
  refine rp rfl rfl (u_ld rfl rfl Tryd.underlying9 rfl rfl ((Sub.refl _).trans (GTable.sub1 t0))) ?_
  refine rp rfl rfl (u_bld rfl in_24 one_24 zc_24 pl_24 rfl (af_cons rfl rfl (GToken.upd0 GToken.zero (1 : Int)) (af_cons rfl rfl (GToken.upd1 ((GToken.w0 GToken.zero (1 : Int))) t0.Name) rfl))) ?_
  refine bindK H fun r'1 h2 H => ?_
  refine rp rfl rfl (p_callp rfl rfl rfl Tryd.func10 rfl rfl (g_lex_Check_ac h2) ⟨rfl, trivial⟩) ?_
  refine rp rfl rfl (p_ine rfl rfl rfl) ?_
  refine rz [(1, .q 1 (0)), (17, .b (decide (r'1 ≠ (0 : Int))))] [(1, .pure (GTable.cs t0))] rfl rfl rfl ?_
  refine AW2_if (p := r'1 ≠ (0 : Int)) rfl (fun h3 => ?_) (fun h3 => ?_)
  ·replace H := ite_then h3 H
   refine sg [0] rfl ?_
   refine rp rfl rfl (p_asg rfl rfl) ?_
   refine rz [(2, .i (3 : Int))] [] rfl rfl rfl ?_
   refine AW2_ret ?_
   have hz := some_elim H
   subst hz
   exact ⟨⟨res_tmp (.same _), trivial⟩, trivial⟩
  ·replace H := ite_else h3 H
   refine as2 [(1, .q 1 (0))] [(1, .pure (GTable.cs t0))] rfl rfl rfl ?_
   refine AW2_skip ?_
   refine AW2_seq ?_
   refine sg [0, 1, 2, 3] rfl ?_
   refine rp rfl rfl (u_fa rfl rfl Tryd.underlying46 rfl in_35 (Nat.succ_ne_zero _) rfl rfl (ne_of_lt (n := 0) (Nat.lt_of_lt_of_eq (by decide) (Eq.symm (GTable.len t0))))) ?_
   refine rp rfl rfl (u_ld rfl rfl Tryd.underlying35 rfl rfl ((Sub.refl _).trans (GTable.sub2 t0))) ?_
   refine bindK H fun r'2 h4 H => ?_
   refine rp rfl rfl (p_callp rfl rfl rfl Tryd.func14 rfl rfl (g_kinds_Columns_ac h4) ⟨rfl, trivial⟩) ?_
   refine rp rfl rfl (p_asg rfl rfl) ?_
   refine rz [(1, .q 1 (0)), (3, .i r'2)] [(1, .pure (GTable.cs t0))] rfl rfl rfl ?_
   refine sg [0, 1] rfl ?_
   refine rp rfl rfl (p_move rfl rfl) ?_
   refine rp rfl rfl (p_ine rfl rfl rfl) ?_
   refine rz [(1, .q 1 (0)), (3, .i r'2), (22, .b (decide (r'2 ≠ (0 : Int))))] [(1, .pure (GTable.cs t0))] rfl rfl rfl ?_
   refine AW2_if (p := r'2 ≠ (0 : Int)) rfl (fun h5 => ?_) (fun h5 => ?_)
   ·replace H := ite_then h5 H
    refine sg [0, 1] rfl ?_
    refine rp rfl rfl (p_move rfl rfl) ?_
    refine rp rfl rfl (p_asg rfl rfl) ?_
    refine rz [(2, .i r'2)] [] rfl rfl rfl ?_
    refine AW2_ret ?_
    have hz := some_elim H
    subst hz
    exact ⟨⟨res_tmp (.same _), trivial⟩, trivial⟩
   ·replace H := ite_else h5 H
    refine as2 [(1, .q 1 (0))] [(1, .pure (GTable.cs t0))] rfl rfl rfl ?_
    refine AW2_skip ?_
    refine AW2_seq ?_
    refine AW2_seq ?_
    refine bindK H fun g'3 h11 H => ?_
    refine AW2_mid (⟨[(1, .q 1 (0)), (42, .b g'3)], [(1, .pure (GTable.cs t0))], 79⟩ : TS) ?_ ?_
    ·clear H
     have H := h11
     clear h11
     refine AW2_reg [0, 1, 2, 3, 4, 5, 6, 7, 8, 9, 10, 11, 12, 13, 14, 15, 16, 17, 18] rfl ?_
     refine rp rfl rfl (u_fa rfl rfl Tryd.underlying46 rfl in_35 (Nat.succ_ne_zero _) rfl rfl (ne_of_lt (n := 0) (Nat.lt_of_lt_of_eq (by decide) (Eq.symm (GTable.len t0))))) ?_
     refine rp rfl rfl (u_ld rfl rfl Tryd.underlying35 rfl rfl ((Sub.refl _).trans (GTable.sub2 t0))) ?_
     refine rp rfl rfl (p_lenl rfl Tryd.underlying35 rfl rfl) ?_
     refine rp rfl rfl (p_ieq rfl rfl rfl) ?_
     refine rp rfl rfl (p_move rfl rfl) ?_
     refine (Classical.em ((t0.Cols.length : Int) = (0 : Int))).elim (fun h7 => ?_) (fun h7 => ?_)
     ·replace H := ite_then h7 H
      refine r_off rfl rfl rfl rfl (decide_eq_true h7) rfl rfl ?_
      refine r_off rfl rfl rfl rfl (decide_eq_true h7) rfl rfl ?_
      refine r_off rfl rfl rfl rfl (decide_eq_true h7) rfl rfl ?_
      refine r_off rfl rfl rfl rfl (decide_eq_true h7) rfl rfl ?_
      refine r_off rfl rfl rfl rfl (decide_eq_true h7) rfl rfl ?_
      refine r_off rfl rfl rfl rfl (decide_eq_true h7) rfl rfl ?_
      refine rp rfl rfl (p_pkt rfl rfl (decide_eq_true h7) (.same _)) ?_
      refine rp rfl rfl (p_move rfl rfl) ?_
      refine r_off rfl rfl rfl rfl rfl rfl rfl ?_
      refine r_off rfl rfl rfl rfl rfl rfl rfl ?_
      refine r_off rfl rfl rfl rfl rfl rfl rfl ?_
      refine r_off rfl rfl rfl rfl rfl rfl rfl ?_
      refine r_off rfl rfl rfl rfl rfl rfl rfl ?_
      refine rp rfl rfl (p_pkt rfl rfl rfl (.same _)) ?_
      refine rs [(1, .q 1 (0)), (42, .b true)] [(1, .pure (GTable.cs t0))] rfl rfl rfl ?_
      have hz := some_elim H
      subst hz
      exact RunW_nil rfl
     ·replace H := ite_else h7 H
      refine r_on rfl rfl rfl rfl (decide_eq_false h7) rfl (PureD.opD (u_fa rfl rfl Tryd.underlying46 rfl in_35 (Nat.succ_ne_zero _) rfl rfl (ne_of_lt (n := 0) (Nat.lt_of_lt_of_eq (by decide) (Eq.symm (GTable.len t0)))))) ?_
      refine r_on rfl rfl rfl rfl (decide_eq_false h7) rfl (PureD.opD (u_ld rfl rfl Tryd.underlying35 rfl rfl ((Sub.refl _).trans (GTable.sub2 t0)))) ?_
      refine chkK H fun h8 H => ?_
      refine r_on rfl rfl rfl rfl (decide_eq_false h7) rfl (PureD.opD (u_ixl rfl rfl Tryd.underlying35 in_68 rfl rfl rfl h8 (fne (fun x => (GColumn.len x)) (by decide) h8))) ?_
      refine r_on rfl rfl rfl rfl (decide_eq_false h7) rfl (PureD.opD (u_far rfl rfl Tryd.underlying68 rfl in_3 (Nat.succ_ne_zero _) rfl)) ?_
      refine r_on rfl rfl rfl rfl (decide_eq_false h7) rfl (PureD.opD (u_ld rfl rfl Tryd.underlying3 rfl rfl ((Sub.fm default (fun x => (GColumn.len x)) h8).trans (GColumn.sub1 (lrd t0.Cols 0))))) ?_
      refine r_on rfl rfl rfl rfl (decide_eq_false h7) rfl (PureD.opD (p_ine rfl rfl rfl)) ?_
      refine rp rfl rfl (p_pkf rfl rfl (decide_eq_false h7) (.same _)) ?_
      refine rp rfl rfl (p_move rfl rfl) ?_
      refine (Classical.em ((lrd t0.Cols 0).Kind ≠ (2 : Int))).elim (fun h9 => ?_) (fun h9 => ?_)
      ·replace H := ite_then h9 H
       refine r_off rfl rfl rfl rfl (decide_eq_true h9) rfl rfl ?_
       refine r_off rfl rfl rfl rfl (decide_eq_true h9) rfl rfl ?_
       refine r_off rfl rfl rfl rfl (decide_eq_true h9) rfl rfl ?_
       refine r_off rfl rfl rfl rfl (decide_eq_true h9) rfl rfl ?_
       refine r_off rfl rfl rfl rfl (decide_eq_true h9) rfl rfl ?_
       refine rp rfl rfl (p_pkt rfl rfl (decide_eq_true h9) (.same _)) ?_
       refine rs [(1, .q 1 (0)), (42, .b true)] [(1, .pure (GTable.cs t0))] rfl rfl rfl ?_
       have hz := some_elim H
       subst hz
       exact RunW_nil rfl
      ·replace H := ite_else h9 H
       refine r_on rfl rfl rfl rfl (decide_eq_false h9) rfl (PureD.opD (u_fa rfl rfl Tryd.underlying46 rfl in_35 (Nat.succ_ne_zero _) rfl rfl (ne_of_lt (n := 0) (Nat.lt_of_lt_of_eq (by decide) (Eq.symm (GTable.len t0)))))) ?_
       refine r_on rfl rfl rfl rfl (decide_eq_false h9) rfl (PureD.opD (u_ld rfl rfl Tryd.underlying35 rfl rfl ((Sub.refl _).trans (GTable.sub2 t0)))) ?_
       refine chkK H fun h10 H => ?_
       refine r_on rfl rfl rfl rfl (decide_eq_false h9) rfl (PureD.opD (u_ixl rfl rfl Tryd.underlying35 in_68 rfl rfl rfl h10 (fne (fun x => (GColumn.len x)) (by decide) h10))) ?_
       refine r_on rfl rfl rfl rfl (decide_eq_false h9) rfl (PureD.opD (u_far rfl rfl Tryd.underlying68 rfl in_4 (Nat.succ_ne_zero _) rfl)) ?_
       refine r_on rfl rfl rfl rfl (decide_eq_false h9) rfl (PureD.opD (u_ld rfl rfl Tryd.underlying4 rfl rfl ((Sub.fm default (fun x => (GColumn.len x)) h10).trans (GColumn.sub2 (lrd t0.Cols 0))))) ?_
       refine rp rfl rfl (p_pkf rfl rfl (decide_eq_false h9) (.same _)) ?_
       refine rs [(1, .q 1 (0)), (42, .b ((lrd t0.Cols 0).Null))] [(1, .pure (GTable.cs t0))] rfl rfl rfl ?_
       have hz := some_elim H
       subst hz
       exact RunW_nil rfl
    ·refine AW2_cond rfl (fun h12 => ?_) (fun h12 => ?_)
     ·replace H := ite_then h12 H
      refine sg [0] rfl ?_
      refine rp rfl rfl (p_asg rfl rfl) ?_
      refine rz [(2, .i (3 : Int))] [] rfl rfl rfl ?_
      refine AW2_ret ?_
      have hz := some_elim H
      subst hz
      exact ⟨⟨res_tmp (.same _), trivial⟩, trivial⟩
     ·replace H := ite_else (ne_true h12) H
      refine as2 [(1, .q 1 (0))] [(1, .pure (GTable.cs t0))] rfl rfl rfl ?_
      refine AW2_skip ?_
      refine AW2_seq ?_
      refine sg [0, 1, 2] rfl ?_
      refine rp rfl rfl (u_fa rfl rfl Tryd.underlying46 rfl in_44 (Nat.succ_ne_zero _) rfl rfl (ne_of_lt (n := 0) (Nat.lt_of_lt_of_eq (by decide) (Eq.symm (GTable.len t0))))) ?_
      refine rp rfl rfl (u_lda rfl rfl Tryd.underlying44 rfl in_44 rfl (Nat.succ_pos _) ((Sub.refl _).trans (GTable.sub3 t0)) (vfm_len (fun x => (vfm_len (fun x => (GCell.len x)) x)) t0.Drawers)) ?_
      refine rp rfl rfl (p_move rfl rfl) ?_
      refine rz [(1, .q 1 (0)), (44, .g (t0.Drawers.toList.flatMap (fun v : Vector GCell 4 => v.toList.flatMap GCell.cs))), (45, .i (0 : Int))] [(1, .pure (GTable.cs t0))] rfl rfl rfl ?_
      refine AW2_block ?_
      refine as2 [(1, .q 1 (0)), (44, .g (t0.Drawers.toList.flatMap (fun v : Vector GCell 4 => v.toList.flatMap GCell.cs))), (45, .i (0 : Int))] [(1, .pure (GTable.cs t0))] rfl rfl rfl ?_
      refine bindK H fun o'18 h26 H => ?_
      refine AW2_loopO (fun a'15 : Int => (⟨[(1, .q 1 (0)), (44, .g (t0.Drawers.toList.flatMap (fun v : Vector GCell 4 => v.toList.flatMap GCell.cs))), (45, .i a'15)], [(1, .pure (GTable.cs t0))], 79⟩ : TS)) (fun (o : Int ⊕ Unit) e s' => match o with | .inl y'16 => e = Go.Exit.ret ∧ ResAll Tryd.prog s' [ResultVar.tmp 2] [.i y'16] ∧ HFits s' [] | .inr (y'17) => e = Go.Exit.exit 0 ∧ s' = (⟨[], [], 79⟩ : TS)) h26 rfl (fun t45_0 x hx => ?_) (fun e s' hs => ?_)
      ·clear H
       have H := hx
       clear hx
       unfold g_table_Check_l0 at H
       refine sg [0] rfl ?_
       refine rp rfl rfl (p_bin rfl rfl rfl rfl) ?_
       refine rz [(1, .q 1 (0)), (44, .g (t0.Drawers.toList.flatMap (fun v : Vector GCell 4 => v.toList.flatMap GCell.cs))), (45, .i t45_0), (46, .b (decide (t45_0 < (2 : Int))))] [(1, .pure (GTable.cs t0))] rfl rfl rfl ?_
       refine AW2_seq ?_
       refine AW2_if (p := t45_0 < (2 : Int)) rfl (fun h13 => ?_) (fun h13 => ?_)
       ·replace H := ite_then h13 H
        refine as2 [(1, .q 1 (0)), (44, .g (t0.Drawers.toList.flatMap (fun v : Vector GCell 4 => v.toList.flatMap GCell.cs))), (45, .i t45_0)] [(1, .pure (GTable.cs t0))] rfl rfl rfl ?_
        refine AW2_skip ?_
        refine AW2_seq ?_
        refine AW2_block ?_
        refine sg [0, 1, 2] rfl ?_
        refine chkK H fun h14 H => ?_
        refine rp rfl rfl (u_ixaa rfl rfl Tryd.underlying44 in_43 Tryd.underlying43 rfl rfl rfl (ixe h14) (ixn h14) (Sub.vfm (fun x => (vfm_len (fun x => (GCell.len x)) x)) (ixn h14)) (vfm_len (fun x => (GCell.len x)) (vrd t0.Drawers t45_0.toNat))) ?_
        refine r_op rfl rfl (MakeD.opD (u_alloc 5 rfl in_43 one_43 zc_43) rfl rfl rfl rfl) ?_
        refine r_op rfl rfl (u_st rfl rfl rfl rfl rfl in_43 (vfm_len (fun x => (GCell.len x)) (vrd t0.Drawers t45_0.toNat)) (ne_of_lt (n := 0) (Nat.lt_of_lt_of_eq (by decide) (Eq.symm (vfm_len (fun x => (GCell.len x)) (Vector.replicate 4 GCell.zero))))) (Upd.refl ((vfm_len (fun x => (GCell.len x)) (vrd t0.Drawers t45_0.toNat)).trans (vfm_len (fun x => (GCell.len x)) (Vector.replicate 4 GCell.zero)).symm))) ?_
        refine rz [(1, .q 1 (0)), (5, .q 5 (0)), (44, .g (t0.Drawers.toList.flatMap (fun v : Vector GCell 4 => v.toList.flatMap GCell.cs))), (45, .i t45_0)] [(1, .pure (GTable.cs t0)), (5, .pure (((vrd t0.Drawers t45_0.toNat).toList).flatMap GCell.cs))] rfl rfl rfl ?_
        refine AW2_seq ?_
        refine sg [0, 1] rfl ?_
        refine rp rfl rfl (u_lda rfl rfl Tryd.underlying43 rfl in_43 rfl (Nat.succ_pos _) (Sub.refl _) (vfm_len (fun x => (GCell.len x)) (vrd t0.Drawers t45_0.toNat))) ?_
        refine rp rfl rfl (p_move rfl rfl) ?_
        refine rz [(1, .q 1 (0)), (5, .q 5 (0)), (44, .g (t0.Drawers.toList.flatMap (fun v : Vector GCell 4 => v.toList.flatMap GCell.cs))), (45, .i t45_0), (48, .g (((vrd t0.Drawers t45_0.toNat).toList).flatMap GCell.cs)), (49, .i (0 : Int))] [(1, .pure (GTable.cs t0)), (5, .pure (((vrd t0.Drawers t45_0.toNat).toList).flatMap GCell.cs))] rfl rfl rfl ?_
        refine AW2_block ?_
        refine as2 [(1, .q 1 (0)), (5, .q 5 (0)), (44, .g (t0.Drawers.toList.flatMap (fun v : Vector GCell 4 => v.toList.flatMap GCell.cs))), (45, .i t45_0), (48, .g (((vrd t0.Drawers t45_0.toNat).toList).flatMap GCell.cs)), (49, .i (0 : Int))] [(1, .pure (GTable.cs t0)), (5, .pure (((vrd t0.Drawers t45_0.toNat).toList).flatMap GCell.cs))] rfl rfl rfl ?_
        refine bindK H fun o'11 h23 H => ?_
        refine AW2_loopO (fun a'8 : Int => (⟨[(1, .q 1 (0)), (5, .q 5 (0)), (44, .g (t0.Drawers.toList.flatMap (fun v : Vector GCell 4 => v.toList.flatMap GCell.cs))), (45, .i t45_0), (48, .g (((vrd t0.Drawers t45_0.toNat).toList).flatMap GCell.cs)), (49, .i a'8)], [(1, .pure (GTable.cs t0)), (5, .pure (((vrd t0.Drawers t45_0.toNat).toList).flatMap GCell.cs))], 79⟩ : TS)) (fun (o : Int ⊕ Unit) e s' => match o with | .inl y'9 => e = Go.Exit.ret ∧ ResAll Tryd.prog s' [ResultVar.tmp 2] [.i y'9] ∧ HFits s' [] | .inr (y'10) => e = Go.Exit.exit 2 ∧ s' = (⟨[(1, .q 1 (0)), (5, .q 5 (0)), (44, .g (t0.Drawers.toList.flatMap (fun v : Vector GCell 4 => v.toList.flatMap GCell.cs))), (45, .i t45_0)], [(1, .pure (GTable.cs t0)), (5, .pure (((vrd t0.Drawers t45_0.toNat).toList).flatMap GCell.cs))], 79⟩ : TS)) h23 rfl (fun t49_1 x hx => ?_) (fun e s' hs => ?_)
        ·clear H
         have H := hx
         clear hx
         unfold g_table_Check_l1 at H
         refine sg [0] rfl ?_
         refine rp rfl rfl (p_bin rfl rfl rfl rfl) ?_
         refine rz [(1, .q 1 (0)), (5, .q 5 (0)), (44, .g (t0.Drawers.toList.flatMap (fun v : Vector GCell 4 => v.toList.flatMap GCell.cs))), (45, .i t45_0), (48, .g (((vrd t0.Drawers t45_0.toNat).toList).flatMap GCell.cs)), (49, .i t49_1), (50, .b (decide (t49_1 < (4 : Int))))] [(1, .pure (GTable.cs t0)), (5, .pure (((vrd t0.Drawers t45_0.toNat).toList).flatMap GCell.cs))] rfl rfl rfl ?_
         refine AW2_seq ?_
         refine AW2_if (p := t49_1 < (4 : Int)) rfl (fun h15 => ?_) (fun h15 => ?_)
         ·replace H := ite_then h15 H
          refine as2 [(1, .q 1 (0)), (5, .q 5 (0)), (44, .g (t0.Drawers.toList.flatMap (fun v : Vector GCell 4 => v.toList.flatMap GCell.cs))), (45, .i t45_0), (48, .g (((vrd t0.Drawers t45_0.toNat).toList).flatMap GCell.cs)), (49, .i t49_1)] [(1, .pure (GTable.cs t0)), (5, .pure (((vrd t0.Drawers t45_0.toNat).toList).flatMap GCell.cs))] rfl rfl rfl ?_
          refine AW2_skip ?_
          refine AW2_seq ?_
          refine bindK H fun o'7 h16 H => ?_
          refine AW2_join (fun j'4 : Unit => (⟨[(1, .q 1 (0)), (5, .q 5 (0)), (44, .g (t0.Drawers.toList.flatMap (fun v : Vector GCell 4 => v.toList.flatMap GCell.cs))), (45, .i t45_0), (48, .g (((vrd t0.Drawers t45_0.toNat).toList).flatMap GCell.cs)), (49, .i t49_1)], [(1, .pure (GTable.cs t0)), (5, .pure (((vrd t0.Drawers t45_0.toNat).toList).flatMap GCell.cs))], 79⟩ : TS)) (fun r e s' => e = Go.Exit.ret ∧ ResAll Tryd.prog s' [ResultVar.tmp 2] [.i r] ∧ HFits s' []) (x := o'7) ?_ (fun j'4 hy => ?_) (fun y'6 e s' hy hs => ?_)
          ·clear H
           have H := h16
           clear h16
           refine AW2_block ?_
           refine sg [0, 1, 2] rfl ?_
           refine chkK H fun h17 H => ?_
           refine rp rfl rfl (u_ixaa rfl rfl Tryd.underlying43 in_42 Tryd.underlying42 rfl rfl rfl (ixe h17) (ixn h17) (Sub.vfm (fun x => (GCell.len x)) (ixn h17)) (GCell.len (vrd (vrd t0.Drawers t45_0.toNat) t49_1.toNat))) ?_
           refine r_op rfl rfl (MakeD.opD (u_alloc 7 rfl in_42 one_42 zc_42) rfl rfl rfl rfl) ?_
           refine r_op rfl rfl (u_st rfl rfl rfl rfl rfl in_42 (GCell.len (vrd (vrd t0.Drawers t45_0.toNat) t49_1.toNat)) (ne_of_lt (n := 0) (Nat.lt_of_lt_of_eq (by decide) (Eq.symm (GCell.len GCell.zero)))) (Upd.refl ((GCell.len (vrd (vrd t0.Drawers t45_0.toNat) t49_1.toNat)).trans (GCell.len GCell.zero).symm))) ?_
           refine rz [(1, .q 1 (0)), (5, .q 5 (0)), (7, .q 7 (0)), (44, .g (t0.Drawers.toList.flatMap (fun v : Vector GCell 4 => v.toList.flatMap GCell.cs))), (45, .i t45_0), (48, .g (((vrd t0.Drawers t45_0.toNat).toList).flatMap GCell.cs)), (49, .i t49_1)] [(1, .pure (GTable.cs t0)), (5, .pure (((vrd t0.Drawers t45_0.toNat).toList).flatMap GCell.cs)), (7, .pure (GCell.cs (vrd (vrd t0.Drawers t45_0.toNat) t49_1.toNat)))] rfl rfl rfl ?_
           refine AW2_seq ?_
           refine AW2_seq ?_
           refine AW2_mid (⟨[(1, .q 1 (0)), (5, .q 5 (0)), (7, .q 7 (0)), (44, .g (t0.Drawers.toList.flatMap (fun v : Vector GCell 4 => v.toList.flatMap GCell.cs))), (45, .i t45_0), (48, .g (((vrd t0.Drawers t45_0.toNat).toList).flatMap GCell.cs)), (49, .i t49_1), (60, .b (decide (((!((vrd (vrd t0.Drawers t45_0.toNat) t49_1.toNat).Full)) = true) ∧ ((((vrd (vrd t0.Drawers t45_0.toNat) t49_1.toNat).Row).length : Int) > (0 : Int)))))], [(1, .pure (GTable.cs t0)), (5, .pure (((vrd t0.Drawers t45_0.toNat).toList).flatMap GCell.cs)), (7, .pure (GCell.cs (vrd (vrd t0.Drawers t45_0.toNat) t49_1.toNat)))], 79⟩ : TS) ?_ ?_
           ·refine AW2_reg [0, 1, 2, 3, 4, 5, 6, 7, 8] rfl ?_
            refine rp rfl rfl (u_fa rfl rfl Tryd.underlying42 rfl in_4 (Nat.succ_ne_zero _) rfl rfl (ne_of_lt (n := 0) (Nat.lt_of_lt_of_eq (by decide) (Eq.symm (GCell.len (vrd (vrd t0.Drawers t45_0.toNat) t49_1.toNat)))))) ?_
            refine rp rfl rfl (u_ld rfl rfl Tryd.underlying4 rfl rfl ((Sub.refl _).trans (GCell.sub0 (vrd (vrd t0.Drawers t45_0.toNat) t49_1.toNat)))) ?_
            refine rp rfl rfl (p_not rfl rfl) ?_
            refine rp rfl rfl (p_move rfl rfl) ?_
            refine (Classical.em ((!((vrd (vrd t0.Drawers t45_0.toNat) t49_1.toNat).Full)) = true)).elim (fun h18 => ?_) (fun h18 => ?_)
            ·refine rn rfl rfl rfl rfl h18 rfl (u_fa rfl rfl Tryd.underlying42 rfl in_38 (Nat.succ_ne_zero _) rfl rfl (ne_of_lt (n := 0) (Nat.lt_of_lt_of_eq (by decide) (Eq.symm (GCell.len (vrd (vrd t0.Drawers t45_0.toNat) t49_1.toNat)))))) ?_
             refine rn rfl rfl rfl rfl h18 rfl (u_ld rfl rfl Tryd.underlying38 rfl rfl ((Sub.refl _).trans (GCell.sub1 (vrd (vrd t0.Drawers t45_0.toNat) t49_1.toNat)))) ?_
             refine rn rfl rfl rfl rfl h18 rfl (p_lenl rfl Tryd.underlying38 rfl rfl) ?_
             refine rn rfl rfl rfl rfl h18 rfl (p_bin rfl rfl rfl rfl) ?_
             refine rp rfl rfl (p_pkt rfl rfl h18 (tb ((and_l (p := (!((vrd (vrd t0.Drawers t45_0.toNat) t49_1.toNat).Full)) = true) (q := (((vrd (vrd t0.Drawers t45_0.toNat) t49_1.toNat).Row).length : Int) > (0 : Int)) h18)))) ?_
             refine rs [(1, .q 1 (0)), (5, .q 5 (0)), (7, .q 7 (0)), (44, .g (t0.Drawers.toList.flatMap (fun v : Vector GCell 4 => v.toList.flatMap GCell.cs))), (45, .i t45_0), (48, .g (((vrd t0.Drawers t45_0.toNat).toList).flatMap GCell.cs)), (49, .i t49_1), (60, .b (decide (((!((vrd (vrd t0.Drawers t45_0.toNat) t49_1.toNat).Full)) = true) ∧ ((((vrd (vrd t0.Drawers t45_0.toNat) t49_1.toNat).Row).length : Int) > (0 : Int)))))] [(1, .pure (GTable.cs t0)), (5, .pure (((vrd t0.Drawers t45_0.toNat).toList).flatMap GCell.cs)), (7, .pure (GCell.cs (vrd (vrd t0.Drawers t45_0.toNat) t49_1.toNat)))] rfl rfl rfl ?_
             exact RunW_nil rfl
            ·refine r_off rfl rfl rfl rfl (bfalse h18) rfl rfl ?_
             refine r_off rfl rfl rfl rfl (bfalse h18) rfl rfl ?_
             refine r_off rfl rfl rfl rfl (bfalse h18) rfl rfl ?_
             refine r_off rfl rfl rfl rfl (bfalse h18) rfl rfl ?_
             refine rp rfl rfl (p_pkf rfl rfl (bfalse h18) (tb (decide_eq_false (p := ((!((vrd (vrd t0.Drawers t45_0.toNat) t49_1.toNat).Full)) = true) ∧ ((((vrd (vrd t0.Drawers t45_0.toNat) t49_1.toNat).Row).length : Int) > (0 : Int))) (fun x => h18 x.1)).symm)) ?_
             refine rs [(1, .q 1 (0)), (5, .q 5 (0)), (7, .q 7 (0)), (44, .g (t0.Drawers.toList.flatMap (fun v : Vector GCell 4 => v.toList.flatMap GCell.cs))), (45, .i t45_0), (48, .g (((vrd t0.Drawers t45_0.toNat).toList).flatMap GCell.cs)), (49, .i t49_1), (60, .b (decide (((!((vrd (vrd t0.Drawers t45_0.toNat) t49_1.toNat).Full)) = true) ∧ ((((vrd (vrd t0.Drawers t45_0.toNat) t49_1.toNat).Row).length : Int) > (0 : Int)))))] [(1, .pure (GTable.cs t0)), (5, .pure (((vrd t0.Drawers t45_0.toNat).toList).flatMap GCell.cs)), (7, .pure (GCell.cs (vrd (vrd t0.Drawers t45_0.toNat) t49_1.toNat)))] rfl rfl rfl ?_
             exact RunW_nil rfl
           ·refine AW2_if (p := ((!((vrd (vrd t0.Drawers t45_0.toNat) t49_1.toNat).Full)) = true) ∧ ((((vrd (vrd t0.Drawers t45_0.toNat) t49_1.toNat).Row).length : Int) > (0 : Int))) rfl (fun h19 => ?_) (fun h19 => ?_)
            ·replace H := ite_then h19 H
             refine sg [0] rfl ?_
             refine rp rfl rfl (p_asg rfl rfl) ?_
             refine rz [(2, .i (3 : Int))] [] rfl rfl rfl ?_
             refine AW2_ret ?_
             have hz := some_elim H
             subst hz
             exact ⟨rfl, ⟨res_tmp (.same _), trivial⟩, trivial⟩
            ·replace H := ite_else h19 H
             refine as2 [(1, .q 1 (0)), (5, .q 5 (0)), (7, .q 7 (0)), (44, .g (t0.Drawers.toList.flatMap (fun v : Vector GCell 4 => v.toList.flatMap GCell.cs))), (45, .i t45_0), (48, .g (((vrd t0.Drawers t45_0.toNat).toList).flatMap GCell.cs)), (49, .i t49_1)] [(1, .pure (GTable.cs t0)), (5, .pure (((vrd t0.Drawers t45_0.toNat).toList).flatMap GCell.cs)), (7, .pure (GCell.cs (vrd (vrd t0.Drawers t45_0.toNat) t49_1.toNat)))] rfl rfl rfl ?_
             refine AW2_skip ?_
             refine AW2_seq ?_
             refine sg [0, 1, 2] rfl ?_
             refine rp rfl rfl (u_fa rfl rfl Tryd.underlying42 rfl in_4 (Nat.succ_ne_zero _) rfl rfl (ne_of_lt (n := 0) (Nat.lt_of_lt_of_eq (by decide) (Eq.symm (GCell.len (vrd (vrd t0.Drawers t45_0.toNat) t49_1.toNat)))))) ?_
             refine rp rfl rfl (u_ld rfl rfl Tryd.underlying4 rfl rfl ((Sub.refl _).trans (GCell.sub0 (vrd (vrd t0.Drawers t45_0.toNat) t49_1.toNat)))) ?_
             refine rp rfl rfl (p_not rfl rfl) ?_
             refine rz [(1, .q 1 (0)), (5, .q 5 (0)), (7, .q 7 (0)), (44, .g (t0.Drawers.toList.flatMap (fun v : Vector GCell 4 => v.toList.flatMap GCell.cs))), (45, .i t45_0), (48, .g (((vrd t0.Drawers t45_0.toNat).toList).flatMap GCell.cs)), (49, .i t49_1), (63, .b (!((vrd (vrd t0.Drawers t45_0.toNat) t49_1.toNat).Full)))] [(1, .pure (GTable.cs t0)), (5, .pure (((vrd t0.Drawers t45_0.toNat).toList).flatMap GCell.cs)), (7, .pure (GCell.cs (vrd (vrd t0.Drawers t45_0.toNat) t49_1.toNat)))] rfl rfl rfl ?_
             refine AW2_cond rfl (fun h20 => ?_) (fun h20 => ?_)
             ·replace H := ite_then h20 H
              refine as2 [(1, .q 1 (0)), (5, .q 5 (0)), (44, .g (t0.Drawers.toList.flatMap (fun v : Vector GCell 4 => v.toList.flatMap GCell.cs))), (45, .i t45_0), (48, .g (((vrd t0.Drawers t45_0.toNat).toList).flatMap GCell.cs)), (49, .i t49_1)] [(1, .pure (GTable.cs t0)), (5, .pure (((vrd t0.Drawers t45_0.toNat).toList).flatMap GCell.cs))] rfl rfl rfl ?_
              refine AW2_exit ?_
              refine thenQ2_exit ?_
              refine blockQ2_exit ?_
              have hz := some_elim H
              subst hz
              exact ⟨rfl, rfl⟩
             ·replace H := ite_else (ne_true h20) H
              refine as2 [(1, .q 1 (0)), (5, .q 5 (0)), (7, .q 7 (0)), (44, .g (t0.Drawers.toList.flatMap (fun v : Vector GCell 4 => v.toList.flatMap GCell.cs))), (45, .i t45_0), (48, .g (((vrd t0.Drawers t45_0.toNat).toList).flatMap GCell.cs)), (49, .i t49_1)] [(1, .pure (GTable.cs t0)), (5, .pure (((vrd t0.Drawers t45_0.toNat).toList).flatMap GCell.cs)), (7, .pure (GCell.cs (vrd (vrd t0.Drawers t45_0.toNat) t49_1.toNat)))] rfl rfl rfl ?_
              refine AW2_skip ?_
              refine sg [0, 1, 2, 3, 4, 5] rfl ?_
              refine rp rfl rfl (u_fa rfl rfl Tryd.underlying42 rfl in_38 (Nat.succ_ne_zero _) rfl rfl (ne_of_lt (n := 0) (Nat.lt_of_lt_of_eq (by decide) (Eq.symm (GCell.len (vrd (vrd t0.Drawers t45_0.toNat) t49_1.toNat)))))) ?_
              refine rp rfl rfl (u_ld rfl rfl Tryd.underlying38 rfl rfl ((Sub.refl _).trans (GCell.sub1 (vrd (vrd t0.Drawers t45_0.toNat) t49_1.toNat)))) ?_
              refine rp rfl rfl (u_fa rfl rfl Tryd.underlying46 rfl in_35 (Nat.succ_ne_zero _) rfl rfl (ne_of_lt (n := 0) (Nat.lt_of_lt_of_eq (by decide) (Eq.symm (GTable.len t0))))) ?_
              refine rp rfl rfl (u_ld rfl rfl Tryd.underlying35 rfl rfl ((Sub.refl _).trans (GTable.sub2 t0))) ?_
              refine bindK H fun r'5 h21 H => ?_
              refine rp rfl rfl (p_callp rfl rfl rfl Tryd.func16 rfl rfl (g_kinds_Row_ac h21) ⟨rfl, rfl, trivial⟩) ?_
              refine rp rfl rfl (p_asg rfl rfl) ?_
              refine rz [(1, .q 1 (0)), (5, .q 5 (0)), (8, .i r'5), (44, .g (t0.Drawers.toList.flatMap (fun v : Vector GCell 4 => v.toList.flatMap GCell.cs))), (45, .i t45_0), (48, .g (((vrd t0.Drawers t45_0.toNat).toList).flatMap GCell.cs)), (49, .i t49_1)] [(1, .pure (GTable.cs t0)), (5, .pure (((vrd t0.Drawers t45_0.toNat).toList).flatMap GCell.cs))] rfl rfl rfl ?_
              refine sg [0, 1] rfl ?_
              refine rp rfl rfl (p_move rfl rfl) ?_
              refine rp rfl rfl (p_ine rfl rfl rfl) ?_
              refine rz [(1, .q 1 (0)), (5, .q 5 (0)), (8, .i r'5), (44, .g (t0.Drawers.toList.flatMap (fun v : Vector GCell 4 => v.toList.flatMap GCell.cs))), (45, .i t45_0), (48, .g (((vrd t0.Drawers t45_0.toNat).toList).flatMap GCell.cs)), (49, .i t49_1), (70, .b (decide (r'5 ≠ (0 : Int))))] [(1, .pure (GTable.cs t0)), (5, .pure (((vrd t0.Drawers t45_0.toNat).toList).flatMap GCell.cs))] rfl rfl rfl ?_
              refine AW2_if (p := r'5 ≠ (0 : Int)) rfl (fun h22 => ?_) (fun h22 => ?_)
              ·replace H := ite_then h22 H
               refine sg [0, 1] rfl ?_
               refine rp rfl rfl (p_move rfl rfl) ?_
               refine rp rfl rfl (p_asg rfl rfl) ?_
               refine rz [(2, .i r'5)] [] rfl rfl rfl ?_
               refine AW2_ret ?_
               have hz := some_elim H
               subst hz
               exact ⟨rfl, ⟨res_tmp (.same _), trivial⟩, trivial⟩
              ·replace H := ite_else h22 H
               refine as2 [(1, .q 1 (0)), (5, .q 5 (0)), (44, .g (t0.Drawers.toList.flatMap (fun v : Vector GCell 4 => v.toList.flatMap GCell.cs))), (45, .i t45_0), (48, .g (((vrd t0.Drawers t45_0.toNat).toList).flatMap GCell.cs)), (49, .i t49_1)] [(1, .pure (GTable.cs t0)), (5, .pure (((vrd t0.Drawers t45_0.toNat).toList).flatMap GCell.cs))] rfl rfl rfl ?_
               refine AW2_skip ?_
               have hz := some_elim H
               subst hz
               exact ⟨rfl, rfl⟩
          ·subst hy
           refine AW2_reg [0, 1] rfl ?_
           refine rp rfl rfl (p_bin rfl rfl rfl rfl) ?_
           refine rp rfl rfl (p_move rfl rfl) ?_
           refine rz [(1, .q 1 (0)), (5, .q 5 (0)), (44, .g (t0.Drawers.toList.flatMap (fun v : Vector GCell 4 => v.toList.flatMap GCell.cs))), (45, .i t45_0), (48, .g (((vrd t0.Drawers t45_0.toNat).toList).flatMap GCell.cs)), (49, .i (w64 (t49_1 + (1 : Int))))] [(1, .pure (GTable.cs t0)), (5, .pure (((vrd t0.Drawers t45_0.toNat).toList).flatMap GCell.cs))] rfl rfl rfl ?_
           have hz := some_elim H
           subst hz
           exact ⟨rfl, rfl⟩
          ·subst hy
           obtain ⟨rfl, hs⟩ := hs
           have hz := some_elim H
           subst hz
           exact ⟨rfl, hs.1, hs.2⟩
         ·replace H := ite_else h15 H
          refine as2 [(1, .q 1 (0)), (5, .q 5 (0)), (44, .g (t0.Drawers.toList.flatMap (fun v : Vector GCell 4 => v.toList.flatMap GCell.cs))), (45, .i t45_0)] [(1, .pure (GTable.cs t0)), (5, .pure (((vrd t0.Drawers t45_0.toNat).toList).flatMap GCell.cs))] rfl rfl rfl ?_
          refine AW2_exit ?_
          refine thenQ2_exit ?_
          have hz := some_elim H
          subst hz
          exact ⟨rfl, rfl⟩
        ·rcases o'11 with y'12 | y'13
         ·obtain ⟨rfl, hs⟩ := hs
          refine ⟨by simp, ?_⟩
          have hz := some_elim H
          subst hz
          exact ⟨rfl, hs.1, hs.2⟩
         ·obtain ⟨rfl, rfl⟩ := hs
          refine ⟨by simp, ?_⟩
          refine blockQ2_exit ?_
          refine sg [0, 1, 2] rfl ?_
          refine rp rfl rfl (u_lda rfl rfl Tryd.underlying43 rfl in_43 rfl (Nat.succ_pos _) (Sub.refl _) (vfm_len (fun x => (GCell.len x)) (vrd t0.Drawers t45_0.toNat))) ?_
          refine bindK H fun r'14 h24 H => ?_
          refine rp rfl rfl (p_callp rfl rfl rfl Tryd.func44 rfl rfl (g_table_keys_ac h24) ⟨rfl, trivial⟩) ?_
          refine rp rfl rfl (p_asg rfl rfl) ?_
          refine rz [(1, .q 1 (0)), (9, .i r'14), (44, .g (t0.Drawers.toList.flatMap (fun v : Vector GCell 4 => v.toList.flatMap GCell.cs))), (45, .i t45_0)] [(1, .pure (GTable.cs t0))] rfl rfl rfl ?_
          refine sg [0, 1] rfl ?_
          refine rp rfl rfl (p_move rfl rfl) ?_
          refine rp rfl rfl (p_ine rfl rfl rfl) ?_
          refine rz [(1, .q 1 (0)), (9, .i r'14), (44, .g (t0.Drawers.toList.flatMap (fun v : Vector GCell 4 => v.toList.flatMap GCell.cs))), (45, .i t45_0), (76, .b (decide (r'14 ≠ (0 : Int))))] [(1, .pure (GTable.cs t0))] rfl rfl rfl ?_
          refine AW2_if (p := r'14 ≠ (0 : Int)) rfl (fun h25 => ?_) (fun h25 => ?_)
          ·replace H := ite_then h25 H
           refine sg [0, 1] rfl ?_
           refine rp rfl rfl (p_move rfl rfl) ?_
           refine rp rfl rfl (p_asg rfl rfl) ?_
           refine rz [(2, .i r'14)] [] rfl rfl rfl ?_
           refine AW2_ret ?_
           have hz := some_elim H
           subst hz
           exact ⟨rfl, ⟨res_tmp (.same _), trivial⟩, trivial⟩
          ·replace H := ite_else h25 H
           refine as2 [(1, .q 1 (0)), (44, .g (t0.Drawers.toList.flatMap (fun v : Vector GCell 4 => v.toList.flatMap GCell.cs))), (45, .i t45_0)] [(1, .pure (GTable.cs t0))] rfl rfl rfl ?_
           refine AW2_skip ?_
           refine AW2_reg [0, 1] rfl ?_
           refine rp rfl rfl (p_bin rfl rfl rfl rfl) ?_
           refine rp rfl rfl (p_move rfl rfl) ?_
           refine rz [(1, .q 1 (0)), (44, .g (t0.Drawers.toList.flatMap (fun v : Vector GCell 4 => v.toList.flatMap GCell.cs))), (45, .i (w64 (t45_0 + (1 : Int))))] [(1, .pure (GTable.cs t0))] rfl rfl rfl ?_
           have hz := some_elim H
           subst hz
           exact ⟨rfl, rfl⟩
       ·replace H := ite_else h13 H
        refine as2 [] [] rfl rfl rfl ?_
        refine AW2_exit ?_
        refine thenQ2_exit ?_
        have hz := some_elim H
        subst hz
        exact ⟨rfl, rfl⟩
      ·rcases o'18 with y'19 | y'20
       ·obtain ⟨rfl, hs⟩ := hs
        refine ⟨by simp, ?_⟩
        have hz := some_elim H
        subst hz
        exact ⟨hs.1, hs.2⟩
       ·obtain ⟨rfl, rfl⟩ := hs
        refine ⟨by simp, ?_⟩
        refine blockQ2_exit ?_
        refine sg [0] rfl ?_
        refine rp rfl rfl (p_asg rfl rfl) ?_
        refine rz [(2, .i (0 : Int))] [] rfl rfl rfl ?_
        refine AW2_ret ?_
        have hz := some_elim H
        subst hz
        exact ⟨⟨res_tmp (.same _), trivial⟩, trivial⟩

/-! table.row -/
noncomputable def g_table_row (r0 : List GValue) : Option ((List GValue)) :=
  if room (([] : List GValue).length + r0.length) 40 then some (([] : List GValue) ++ r0) else none
set_option maxHeartbeats 4000000 in
set_option maxRecDepth 100000 in
theorem g_table_row_ac2 {r0 : List GValue} {r : (List GValue)} (H : g_table_row r0 = some r) : AC2 Tryd.prog 46 (pureT [((fun q : List GValue => AV.lst (q.flatMap GValue.cs) q.length) r0)]) [] (.c (.own 2 r.length 4)) [(2, .pure (r.flatMap GValue.cs))] := by
 refine AC2_of_body (vs := [.c (.own 2 r.length 4)]) Tryd.func46 rfl rfl (Nat.le_of_ble_eq_true rfl) rfl ?_
 unfold g_table_row at H
 refine as2 [(0, .p ((fun q : List GValue => AV.lst (q.flatMap GValue.cs) q.length) r0))] [] rfl rfl rfl ?_
 refine sg [0] rfl ?_
 refine rp rfl rfl (p_asgn rfl) ?_
 refine rz [(0, .p ((fun q : List GValue => AV.lst (q.flatMap GValue.cs) q.length) r0))] [] rfl rfl rfl ?_
 refine sg [0, 1, 2, 3] rfl ?_
 refine r_op rfl rfl (MakeD.opD (n_bs0 3 rfl Tryd.underlying38 in_29) rfl rfl rfl rfl) ?_
 refine rp rfl rfl (p_move rfl rfl) ?_
 refine chkK H fun h1 H => ?_
 refine r_op rfl rfl (u_app [3] rfl rfl rfl rfl Tryd.underlying38 Tryd.underlying38 in_29 rfl rfl rfl (fm_length (fun x => (GValue.len x)) ([] : List GValue)) (by decide) rfl (fm_length (fun x => (GValue.len x)) r0) h1 (by decide) rfl rfl (fapp GValue.cs ([] : List GValue) r0) (lapp ([] : List GValue) r0)) ?_
 refine rp rfl rfl (p_asg rfl rfl) ?_
 refine rs [(2, .c (.own 3 (([] : List GValue) ++ r0).length 4))] [(3, .pure ((([] : List GValue) ++ r0).flatMap GValue.cs))] rfl rfl rfl ?_
 refine RunW_gho (Gho_ren 3 2 rfl rfl rfl rfl rfl) ?_
 refine rz [(2, .c (.own 2 (([] : List GValue) ++ r0).length 4))] [(2, .pure ((([] : List GValue) ++ r0).flatMap GValue.cs))] rfl rfl rfl ?_
 refine as2 [(2, .c (.own 2 (([] : List GValue) ++ r0).length 4))] [(2, .pure ((([] : List GValue) ++ r0).flatMap GValue.cs))] rfl rfl rfl ?_
 refine AW2_ret ?_
 have hz := some_elim H
 subst hz
 exact ⟨⟨res_tmp (.same _), trivial⟩, ⟨rfl, trivial⟩⟩
theorem g_table_row_ac {r0 : List GValue} {r : (List GValue)} (H : g_table_row r0 = some r) : ACp Tryd.prog 46 [((fun q : List GValue => AV.lst (q.flatMap GValue.cs) q.length) r0)] ((fun q : List GValue => AV.lst (q.flatMap GValue.cs) q.length) r) := ACp_pub (g_table_row_ac2 H) (fun _ _ hm => lent_own hm rfl (fm_length (fun x => (GValue.len x)) r) (by decide))

/-! table.fresh -/
noncomputable def g_table_fresh_l1 (t11_0 : Int) : Int × GTable → Option ((Int × GTable) ⊕ (GTable))
  | (t14_1, t1_1) => (if t14_1 < (4 : Int) then if 0 ≤ t11_0 ∧ t11_0 < (2 : Int) then if 0 ≤ t14_1 ∧ t14_1 < (4 : Int) then (g_table_row ((vrd (vrd t1_1.Drawers t11_0.toNat) t14_1.toNat).Row)).bind fun r'1 => letO ({ t1_1 with Drawers := (vwr t1_1.Drawers t11_0.toNat (vwr (vrd t1_1.Drawers t11_0.toNat) t14_1.toNat ({ (vrd (vrd t1_1.Drawers t11_0.toNat) t14_1.toNat) with Row := r'1 }))) }) fun t1'2 => some (.inl (w64 (t14_1 + (1 : Int)), t1'2)) else none else none else some (.inr t1_1))
noncomputable def g_table_fresh_l0 : Int × GTable → Option ((Int × GTable) ⊕ (GTable))
  | (t11_0, t1_0) => (if t11_0 < (2 : Int) then (loopO (g_table_fresh_l1 t11_0) ((0 : Int), t1_0)).bind fun y'6 => some (.inl (w64 (t11_0 + (1 : Int)), y'6)) else some (.inr t1_0))
noncomputable def g_table_fresh (t0 : GTable) : Option (GTable) :=
  if room (([] : List GColumn).length + t0.Cols.length) 32 then (loopO (g_table_fresh_l0) ((0 : Int), { t0 with Cols := ([] : List GColumn) ++ t0.Cols })).bind fun y'10 => some y'10 else none
set_option maxHeartbeats 4000000 in
set_option maxRecDepth 100000 in
theorem g_table_fresh_ac {t0 : GTable} {r : GTable} (H : g_table_fresh t0 = some r) : ACp Tryd.prog 61 [(.agg (GTable.cs t0))] (.agg (GTable.cs r)) := by
 refine ACp_of (AC2_of_body (vs := [.g (GTable.cs r)]) Tryd.func61 rfl rfl (Nat.le_of_ble_eq_true rfl) rfl ?_) (fun _ => .same _)
 unfold g_table_fresh at H
 refine as2 [(0, .g (GTable.cs t0))] [] rfl rfl rfl ?_
 refine sg [0, 1] rfl ?_
 refine r_op rfl rfl (MakeD.opD (n_box 1 rfl rfl) rfl rfl rfl rfl) ?_
 refine r_op rfl rfl (MakeD.opD (u_alloc 2 rfl in_46 one_46 zc_46) rfl rfl rfl rfl) ?_
 refine rz [(1, .q 1 (0)), (2, .q 2 (0))] [(1, .pure (GTable.cs t0)), (2, .pure (GTable.cs GTable.zero))] rfl rfl rfl ?_
 refine sg [0, 1, 2, 3, 4, 5] rfl ?_
 refine r_op rfl rfl (MakeD.opD (n_bs0 6 rfl Tryd.underlying35 in_68) rfl rfl rfl rfl) ?_
 refine rp rfl rfl (u_fa rfl rfl Tryd.underlying46 rfl in_35 (Nat.succ_ne_zero _) rfl rfl (ne_of_lt (n := 0) (Nat.lt_of_lt_of_eq (by decide) (Eq.symm (GTable.len t0))))) ?_
 refine rp rfl rfl (u_ld rfl rfl Tryd.underlying35 rfl rfl ((Sub.refl _).trans (GTable.sub2 t0))) ?_
 refine chkK H fun h1 H => ?_
 refine r_op rfl rfl (u_app [6] rfl rfl rfl rfl Tryd.underlying35 Tryd.underlying35 in_68 rfl rfl rfl (fm_length (fun x => (GColumn.len x)) ([] : List GColumn)) (by decide) rfl (fm_length (fun x => (GColumn.len x)) t0.Cols) h1 (by decide) rfl rfl (fapp GColumn.cs ([] : List GColumn) t0.Cols) (lapp ([] : List GColumn) t0.Cols)) ?_
 refine rp rfl rfl (u_fa rfl rfl Tryd.underlying46 rfl in_35 (Nat.succ_ne_zero _) rfl rfl (ne_of_lt (n := 0) (Nat.lt_of_lt_of_eq (by decide) (Eq.symm (GTable.len t0))))) ?_
 refine RunW_gho (Gho_pubs [9] ⟨rfl, trivial⟩ rfl (fm_length (fun x => (GColumn.len x)) (([] : List GColumn) ++ t0.Cols)) (by decide)) ?_
 refine r_op rfl rfl (u_st rfl rfl rfl rfl rfl in_35 rfl (ne_of_lt (n := 0) (Nat.lt_of_lt_of_eq (by decide) (Eq.symm (GTable.len t0)))) (Upd.trans (Sub.refl _) (GTable.upd2 t0 (([] : List GColumn) ++ t0.Cols)) (Upd.refl ((GTable.len ((GTable.w2 t0 (([] : List GColumn) ++ t0.Cols)))).trans (GTable.len t0).symm)))) ?_
 refine rz [(1, .q 1 (0)), (2, .q 2 (0))] [(1, .pure (GTable.cs ((GTable.w2 t0 (([] : List GColumn) ++ t0.Cols))))), (2, .pure (GTable.cs GTable.zero))] rfl rfl rfl ?_
 refine AW2_seq ?_
 refine sg [0] rfl ?_
 refine rp rfl rfl (p_move rfl rfl) ?_
 refine rz [(1, .q 1 (0)), (2, .q 2 (0)), (11, .i (0 : Int))] [(1, .pure (GTable.cs ((GTable.w2 t0 (([] : List GColumn) ++ t0.Cols))))), (2, .pure (GTable.cs GTable.zero))] rfl rfl rfl ?_
 refine AW2_block ?_
 refine as2 [(1, .q 1 (0)), (2, .q 2 (0)), (11, .i (0 : Int))] [(1, .pure (GTable.cs ((GTable.w2 t0 (([] : List GColumn) ++ t0.Cols))))), (2, .pure (GTable.cs GTable.zero))] rfl rfl rfl ?_
 refine bindK H fun y'10 h8 H => ?_
 refine AW2_loopO (fun a'7 : Int × GTable => (⟨[(1, .q 1 (0)), (2, .q 2 (0)), (11, .i a'7.1)], [(1, .pure (GTable.cs a'7.2)), (2, .pure (GTable.cs GTable.zero))], 33⟩ : TS)) (fun (y'8 : GTable) e s' => e = Go.Exit.exit 0 ∧ s' = (⟨[(1, .q 1 (0)), (2, .q 2 (0))], [(1, .pure (GTable.cs y'8)), (2, .pure (GTable.cs GTable.zero))], 33⟩ : TS)) h8 rfl (fun a x hx => ?_) (fun e s' hs => ?_)
 ·clear H
  obtain ⟨t11_0, t1_0⟩ := a
  have H := hx
  clear hx
  unfold g_table_fresh_l0 at H
  refine sg [0] rfl ?_
  refine rp rfl rfl (p_bin rfl rfl rfl rfl) ?_
  refine rz [(1, .q 1 (0)), (2, .q 2 (0)), (11, .i t11_0), (12, .b (decide (t11_0 < (2 : Int))))] [(1, .pure (GTable.cs t1_0)), (2, .pure (GTable.cs GTable.zero))] rfl rfl rfl ?_
  refine AW2_seq ?_
  refine AW2_if (p := t11_0 < (2 : Int)) rfl (fun h2 => ?_) (fun h2 => ?_)
  ·replace H := ite_then h2 H
   refine as2 [(1, .q 1 (0)), (2, .q 2 (0)), (11, .i t11_0)] [(1, .pure (GTable.cs t1_0)), (2, .pure (GTable.cs GTable.zero))] rfl rfl rfl ?_
   refine AW2_skip ?_
   refine AW2_seq ?_
   refine AW2_block ?_
   refine sg [0, 1] rfl ?_
   refine rp rfl rfl (p_move rfl rfl) ?_
   refine rp rfl rfl (p_asg rfl rfl) ?_
   refine rz [(1, .q 1 (0)), (2, .q 2 (0)), (3, .i t11_0), (11, .i t11_0)] [(1, .pure (GTable.cs t1_0)), (2, .pure (GTable.cs GTable.zero))] rfl rfl rfl ?_
   refine sg [0] rfl ?_
   refine rp rfl rfl (p_move rfl rfl) ?_
   refine rz [(1, .q 1 (0)), (2, .q 2 (0)), (3, .i t11_0), (11, .i t11_0), (14, .i (0 : Int))] [(1, .pure (GTable.cs t1_0)), (2, .pure (GTable.cs GTable.zero))] rfl rfl rfl ?_
   refine AW2_block ?_
   refine as2 [(1, .q 1 (0)), (2, .q 2 (0)), (3, .i t11_0), (11, .i t11_0), (14, .i (0 : Int))] [(1, .pure (GTable.cs t1_0)), (2, .pure (GTable.cs GTable.zero))] rfl rfl rfl ?_
   refine bindK H fun y'6 h7 H => ?_
   refine AW2_loopO (fun a'3 : Int × GTable => (⟨[(1, .q 1 (0)), (2, .q 2 (0)), (3, .i t11_0), (11, .i t11_0), (14, .i a'3.1)], [(1, .pure (GTable.cs a'3.2)), (2, .pure (GTable.cs GTable.zero))], 33⟩ : TS)) (fun (y'4 : GTable) e s' => e = Go.Exit.exit 2 ∧ s' = (⟨[(1, .q 1 (0)), (2, .q 2 (0)), (11, .i t11_0)], [(1, .pure (GTable.cs y'4)), (2, .pure (GTable.cs GTable.zero))], 33⟩ : TS)) h7 rfl (fun a x hx => ?_) (fun e s' hs => ?_)
   ·clear H
    obtain ⟨t14_1, t1_1⟩ := a
    have H := hx
    clear hx
    unfold g_table_fresh_l1 at H
    refine sg [0] rfl ?_
    refine rp rfl rfl (p_bin rfl rfl rfl rfl) ?_
    refine rz [(1, .q 1 (0)), (2, .q 2 (0)), (3, .i t11_0), (11, .i t11_0), (14, .i t14_1), (15, .b (decide (t14_1 < (4 : Int))))] [(1, .pure (GTable.cs t1_1)), (2, .pure (GTable.cs GTable.zero))] rfl rfl rfl ?_
    refine AW2_seq ?_
    refine AW2_if (p := t14_1 < (4 : Int)) rfl (fun h3 => ?_) (fun h3 => ?_)
    ·replace H := ite_then h3 H
     refine as2 [(1, .q 1 (0)), (2, .q 2 (0)), (3, .i t11_0), (11, .i t11_0), (14, .i t14_1)] [(1, .pure (GTable.cs t1_1)), (2, .pure (GTable.cs GTable.zero))] rfl rfl rfl ?_
     refine AW2_skip ?_
     refine AW2_seq ?_
     refine AW2_block ?_
     refine sg [0, 1] rfl ?_
     refine rp rfl rfl (p_move rfl rfl) ?_
     refine rp rfl rfl (p_asg rfl rfl) ?_
     refine rz [(1, .q 1 (0)), (2, .q 2 (0)), (3, .i t11_0), (4, .i t14_1), (11, .i t11_0), (14, .i t14_1)] [(1, .pure (GTable.cs t1_1)), (2, .pure (GTable.cs GTable.zero))] rfl rfl rfl ?_
     refine sg [0, 1, 2, 3, 4, 5] rfl ?_
     refine rp rfl rfl (p_move rfl rfl) ?_
     refine rp rfl rfl (p_move rfl rfl) ?_
     refine rp rfl rfl (u_fa rfl rfl Tryd.underlying46 rfl in_44 (Nat.succ_ne_zero _) rfl rfl (ne_of_lt (n := 0) (Nat.lt_of_lt_of_eq (by decide) (Eq.symm (GTable.len t1_1))))) ?_
     refine chkK H fun h4 H => ?_
     refine rp rfl rfl (u_ixp rfl rfl Tryd.underlying44 in_43 rfl rfl (ne_of_lt (n := 0) (Nat.lt_of_lt_of_eq (by decide) (Eq.symm (GTable.len t1_1)))) rfl (ixe h4) (ixn h4)) ?_
     refine chkK H fun h5 H => ?_
     refine rp rfl rfl (u_ixp rfl rfl Tryd.underlying43 in_42 rfl rfl (ne_of_lt (n := 0) (Nat.lt_of_lt_of_eq (by decide) (Eq.symm (GTable.len t1_1)))) rfl (ixe h5) (ixn h5)) ?_
     refine rp rfl rfl (p_asg rfl rfl) ?_
     refine rz [(1, .q 1 (0)), (2, .q 2 (0)), (3, .i t11_0), (5, .q 1 (0 + 3 + t11_0.toNat * 8 + t14_1.toNat * 2)), (11, .i t11_0), (14, .i t14_1)] [(1, .pure (GTable.cs t1_1)), (2, .pure (GTable.cs GTable.zero))] rfl rfl rfl ?_
     refine AW2_reg [0, 1, 2, 3, 4, 5, 6, 7, 8] rfl ?_
     refine rp rfl rfl (p_move rfl rfl) ?_
     refine rp rfl rfl (p_move rfl rfl) ?_
     refine rp rfl rfl (p_nilc rfl rfl rfl rfl (fun _ => (ne_of_lt (n := 0) (Nat.lt_of_lt_of_eq (by decide) (Eq.symm (GTable.len t1_1)))))) ?_
     refine rp rfl rfl (u_fa rfl rfl Tryd.underlying42 rfl in_38 (Nat.succ_ne_zero _) rfl rfl (ne_of_lt (n := 0) (Nat.lt_of_lt_of_eq (by decide) (Eq.symm (GTable.len t1_1))))) ?_
     refine rp rfl rfl (u_ld rfl rfl Tryd.underlying38 rfl rfl (((((Sub.refl _).trans (GTable.sub3 t1_1)).trans (Sub.vfm (fun x => (vfm_len (fun x => (GCell.len x)) x)) (ixn h4))).trans (Sub.vfm (fun x => (GCell.len x)) (ixn h5))).trans (GCell.sub1 (vrd (vrd t1_1.Drawers t11_0.toNat) t14_1.toNat)))) ?_
     refine bindK H fun r'1 h6 H => ?_
     refine rp rfl rfl (p_callp rfl rfl rfl Tryd.func46 rfl rfl (g_table_row_ac h6) ⟨rfl, trivial⟩) ?_
     refine rp rfl rfl (p_nilc rfl rfl rfl rfl (fun _ => (ne_of_lt (n := 0) (Nat.lt_of_lt_of_eq (by decide) (Eq.symm (GTable.len t1_1)))))) ?_
     refine rp rfl rfl (u_fa rfl rfl Tryd.underlying42 rfl in_38 (Nat.succ_ne_zero _) rfl rfl (ne_of_lt (n := 0) (Nat.lt_of_lt_of_eq (by decide) (Eq.symm (GTable.len t1_1))))) ?_
     refine r_op rfl rfl (u_st rfl rfl rfl rfl rfl in_38 rfl (ne_of_lt (n := 0) (Nat.lt_of_lt_of_eq (by decide) (Eq.symm (GTable.len t1_1)))) (Upd.trans ((((Sub.refl _).trans (GTable.sub3 t1_1)).trans (Sub.vfm (fun x => (vfm_len (fun x => (GCell.len x)) x)) (ixn h4))).trans (Sub.vfm (fun x => (GCell.len x)) (ixn h5))) (GCell.upd1 (vrd (vrd t1_1.Drawers t11_0.toNat) t14_1.toNat) r'1) (Upd.trans (((Sub.refl _).trans (GTable.sub3 t1_1)).trans (Sub.vfm (fun x => (vfm_len (fun x => (GCell.len x)) x)) (ixn h4))) (Upd.vfm (fun x => (GCell.len x)) (ixn h5)) (Upd.trans ((Sub.refl _).trans (GTable.sub3 t1_1)) (Upd.vfm (fun x => (vfm_len (fun x => (GCell.len x)) x)) (ixn h4)) (Upd.trans (Sub.refl _) (GTable.upd3 t1_1 (vwr t1_1.Drawers t11_0.toNat (vwr (vrd t1_1.Drawers t11_0.toNat) t14_1.toNat ((GCell.w1 (vrd (vrd t1_1.Drawers t11_0.toNat) t14_1.toNat) r'1))))) (Upd.refl ((GTable.len ((GTable.w3 t1_1 (vwr t1_1.Drawers t11_0.toNat (vwr (vrd t1_1.Drawers t11_0.toNat) t14_1.toNat ((GCell.w1 (vrd (vrd t1_1.Drawers t11_0.toNat) t14_1.toNat) r'1))))))).trans (GTable.len t1_1).symm))))))) ?_
     refine rz [(1, .q 1 (0)), (2, .q 2 (0)), (3, .i t11_0), (11, .i t11_0), (14, .i t14_1)] [(1, .pure (GTable.cs ((GTable.w3 t1_1 (vwr t1_1.Drawers t11_0.toNat (vwr (vrd t1_1.Drawers t11_0.toNat) t14_1.toNat ((GCell.w1 (vrd (vrd t1_1.Drawers t11_0.toNat) t14_1.toNat) r'1)))))))), (2, .pure (GTable.cs GTable.zero))] rfl rfl rfl ?_
     refine gen1 (fun t1'2 => (⟨[(1, .q 1 (0)), (2, .q 2 (0)), (3, .i t11_0), (11, .i t11_0), (14, .i t14_1)], [(1, .pure (GTable.cs t1'2)), (2, .pure (GTable.cs GTable.zero))], 33⟩ : TS)) H ?_
     intro t1'2 H
     refine AW2_reg [0, 1] rfl ?_
     refine rp rfl rfl (p_bin rfl rfl rfl rfl) ?_
     refine rp rfl rfl (p_move rfl rfl) ?_
     refine rz [(1, .q 1 (0)), (2, .q 2 (0)), (3, .i t11_0), (11, .i t11_0), (14, .i (w64 (t14_1 + (1 : Int))))] [(1, .pure (GTable.cs t1'2)), (2, .pure (GTable.cs GTable.zero))] rfl rfl rfl ?_
     have hz := some_elim H
     subst hz
     exact ⟨rfl, rfl⟩
    ·replace H := ite_else h3 H
     refine as2 [(1, .q 1 (0)), (2, .q 2 (0)), (11, .i t11_0)] [(1, .pure (GTable.cs t1_1)), (2, .pure (GTable.cs GTable.zero))] rfl rfl rfl ?_
     refine AW2_exit ?_
     refine thenQ2_exit ?_
     have hz := some_elim H
     subst hz
     exact ⟨rfl, rfl⟩
   ·obtain ⟨rfl, rfl⟩ := hs
    refine ⟨by simp, ?_⟩
    refine blockQ2_exit ?_
    refine AW2_reg [0, 1] rfl ?_
    refine rp rfl rfl (p_bin rfl rfl rfl rfl) ?_
    refine rp rfl rfl (p_move rfl rfl) ?_
    refine rz [(1, .q 1 (0)), (2, .q 2 (0)), (11, .i (w64 (t11_0 + (1 : Int))))] [(1, .pure (GTable.cs y'6)), (2, .pure (GTable.cs GTable.zero))] rfl rfl rfl ?_
    have hz := some_elim H
    subst hz
    exact ⟨rfl, rfl⟩
  ·replace H := ite_else h2 H
   refine as2 [(1, .q 1 (0)), (2, .q 2 (0))] [(1, .pure (GTable.cs t1_0)), (2, .pure (GTable.cs GTable.zero))] rfl rfl rfl ?_
   refine AW2_exit ?_
   refine thenQ2_exit ?_
   have hz := some_elim H
   subst hz
   exact ⟨rfl, rfl⟩
 ·obtain ⟨rfl, rfl⟩ := hs
  refine ⟨by simp, ?_⟩
  refine blockQ2_exit ?_
  refine sg [0, 1] rfl ?_
  refine rp rfl rfl (u_lda rfl rfl Tryd.underlying46 rfl in_46 rfl (Nat.succ_pos _) (Sub.refl _) (GTable.len y'10)) ?_
  refine r_op rfl rfl (u_st rfl rfl rfl rfl rfl in_46 (GTable.len y'10) (ne_of_lt (n := 0) (Nat.lt_of_lt_of_eq (by decide) (Eq.symm (GTable.len GTable.zero)))) (Upd.refl ((GTable.len y'10).trans (GTable.len GTable.zero).symm))) ?_
  refine rz [(2, .q 2 (0))] [(2, .pure (GTable.cs y'10))] rfl rfl rfl ?_
  refine AW2_ret ?_
  have hz := some_elim H
  subst hz
  exact ⟨⟨res_cella Tryd.underlying46 rfl in_46.sz rfl (Sub.le (Sub.refl _) (GTable.len y'10)) (by decide) (Sub.take (Sub.refl _) (GTable.len y'10)), trivial⟩, trivial⟩

/-! table.begun -/
noncomputable def g_table_begun (t0 : GTable) (drawer1 : Int) : Option (GTable × Int) :=
  (g_table_Check t0).bind fun r'1 => (if r'1 ≠ (0 : Int) then some (GTable.zero, r'1) else (if (drawer1 < (0 : Int)) ∨ (drawer1 ≥ (2 : Int)) then some (GTable.zero, (6 : Int)) else (g_table_fresh t0).bind fun r'2 => some (r'2, (0 : Int))))
set_option maxHeartbeats 4000000 in
set_option maxRecDepth 100000 in
theorem g_table_begun_ac {t0 : GTable} {drawer1 : Int} {r : GTable × Int} (H : g_table_begun t0 drawer1 = some r) : ACp Tryd.prog 49 [(.agg (GTable.cs t0)), (AV.int drawer1)] (.tup [(.agg (GTable.cs r.1)), (AV.int r.2)]) := by
 refine ACp_of (AC2_of_body (vs := [.g (GTable.cs r.1), .i r.2]) Tryd.func49 rfl rfl (Nat.le_of_ble_eq_true rfl) rfl ?_) (fun _ => .same _)
 unfold g_table_begun at H
 refine as2 [(0, .g (GTable.cs t0)), (1, .i drawer1)] [] rfl rfl rfl ?_
 refine sg [0, 1, 2] rfl ?_
 refine r_op rfl rfl (MakeD.opD (n_box 2 rfl rfl) rfl rfl rfl rfl) ?_
 refine r_op rfl rfl (MakeD.opD (u_alloc 4 rfl in_46 one_46 zc_46) rfl rfl rfl rfl) ?_
 refine rp rfl rfl (p_asg rfl rfl) ?_
 refine rz [(1, .i drawer1), (2, .q 2 (0)), (4, .q 4 (0))] [(2, .pure (GTable.cs t0)), (4, .pure (GTable.cs GTable.zero))] rfl rfl rfl ?_
 refine AW2_seq ?_
 refine sg [0, 1, 2] rfl ?_
 refine rp rfl rfl (u_lda rfl rfl Tryd.underlying46 rfl in_46 rfl (Nat.succ_pos _) (Sub.refl _) (GTable.len t0)) ?_
 refine bindK H fun r'1 h1 H => ?_
 refine rp rfl rfl (p_callp rfl rfl rfl Tryd.func18 rfl rfl (g_table_Check_ac h1) ⟨rfl, trivial⟩) ?_
 refine rp rfl rfl (p_asg rfl rfl) ?_
 refine rz [(1, .i drawer1), (2, .q 2 (0)), (4, .q 4 (0)), (6, .i r'1)] [(2, .pure (GTable.cs t0)), (4, .pure (GTable.cs GTable.zero))] rfl rfl rfl ?_
 refine sg [0, 1] rfl ?_
 refine rp rfl rfl (p_move rfl rfl) ?_
 refine rp rfl rfl (p_ine rfl rfl rfl) ?_
 refine rz [(1, .i drawer1), (2, .q 2 (0)), (4, .q 4 (0)), (6, .i r'1), (10, .b (decide (r'1 ≠ (0 : Int))))] [(2, .pure (GTable.cs t0)), (4, .pure (GTable.cs GTable.zero))] rfl rfl rfl ?_
 refine AW2_if (p := r'1 ≠ (0 : Int)) rfl (fun h2 => ?_) (fun h2 => ?_)
 ·replace H := ite_then h2 H
  refine sg [0, 1, 2, 3] rfl ?_
  refine rp rfl rfl (u_bld rfl in_46 one_46 zc_46 pl_46 rfl rfl) ?_
  refine rp rfl rfl (p_move rfl rfl) ?_
  refine r_op rfl rfl (u_st rfl rfl rfl rfl rfl in_46 (GTable.len GTable.zero) (ne_of_lt (n := 0) (Nat.lt_of_lt_of_eq (by decide) (Eq.symm (GTable.len GTable.zero)))) (Upd.refl ((GTable.len GTable.zero).trans (GTable.len GTable.zero).symm))) ?_
  refine rp rfl rfl (p_asg rfl rfl) ?_
  refine rz [(4, .q 4 (0)), (5, .i r'1)] [(4, .pure (GTable.cs GTable.zero))] rfl rfl rfl ?_
  refine AW2_ret ?_
  have hz := some_elim H
  subst hz
  exact ⟨⟨res_cella Tryd.underlying46 rfl in_46.sz rfl (Sub.le (Sub.refl _) (GTable.len GTable.zero)) (by decide) (Sub.take (Sub.refl _) (GTable.len GTable.zero)), res_tmp (.same _), trivial⟩, trivial⟩
 ·replace H := ite_else h2 H
  refine as2 [(1, .i drawer1), (2, .q 2 (0)), (4, .q 4 (0))] [(2, .pure (GTable.cs t0)), (4, .pure (GTable.cs GTable.zero))] rfl rfl rfl ?_
  refine AW2_skip ?_
  refine AW2_seq ?_
  refine AW2_seq ?_
  refine AW2_mid (⟨[(2, .q 2 (0)), (4, .q 4 (0)), (18, .b (decide ((drawer1 < (0 : Int)) ∨ (drawer1 ≥ (2 : Int)))))], [(2, .pure (GTable.cs t0)), (4, .pure (GTable.cs GTable.zero))], 22⟩ : TS) ?_ ?_
  ·refine AW2_reg [0, 1, 2, 3, 4, 5] rfl ?_
   refine rp rfl rfl (p_move rfl rfl) ?_
   refine rp rfl rfl (p_bin rfl rfl rfl rfl) ?_
   refine rp rfl rfl (p_move rfl rfl) ?_
   refine (Classical.em (drawer1 < (0 : Int))).elim (fun h3 => ?_) (fun h3 => ?_)
   ·refine r_off rfl rfl rfl rfl (decide_eq_true h3) rfl rfl ?_
    refine r_off rfl rfl rfl rfl (decide_eq_true h3) rfl rfl ?_
    refine rp rfl rfl (p_pkt rfl rfl (decide_eq_true h3) (tb (decide_eq_true (p := (drawer1 < (0 : Int)) ∨ (drawer1 ≥ (2 : Int))) (Or.inl h3)).symm)) ?_
    refine rs [(2, .q 2 (0)), (4, .q 4 (0)), (18, .b (decide ((drawer1 < (0 : Int)) ∨ (drawer1 ≥ (2 : Int)))))] [(2, .pure (GTable.cs t0)), (4, .pure (GTable.cs GTable.zero))] rfl rfl rfl ?_
    exact RunW_nil rfl
   ·refine r_on rfl rfl rfl rfl (decide_eq_false h3) rfl (PureD.opD (p_move rfl rfl)) ?_
    refine r_on rfl rfl rfl rfl (decide_eq_false h3) rfl (PureD.opD (p_bin rfl rfl rfl rfl)) ?_
    refine rp rfl rfl (p_pkf rfl rfl (decide_eq_false h3) (tb ((or_l (p := drawer1 < (0 : Int)) (q := drawer1 ≥ (2 : Int)) h3)))) ?_
    refine rs [(2, .q 2 (0)), (4, .q 4 (0)), (18, .b (decide ((drawer1 < (0 : Int)) ∨ (drawer1 ≥ (2 : Int)))))] [(2, .pure (GTable.cs t0)), (4, .pure (GTable.cs GTable.zero))] rfl rfl rfl ?_
    exact RunW_nil rfl
  ·refine AW2_if (p := (drawer1 < (0 : Int)) ∨ (drawer1 ≥ (2 : Int))) rfl (fun h4 => ?_) (fun h4 => ?_)
   ·replace H := ite_then h4 H
    refine sg [0, 1, 2] rfl ?_
    refine rp rfl rfl (u_bld rfl in_46 one_46 zc_46 pl_46 rfl rfl) ?_
    refine r_op rfl rfl (u_st rfl rfl rfl rfl rfl in_46 (GTable.len GTable.zero) (ne_of_lt (n := 0) (Nat.lt_of_lt_of_eq (by decide) (Eq.symm (GTable.len GTable.zero)))) (Upd.refl ((GTable.len GTable.zero).trans (GTable.len GTable.zero).symm))) ?_
    refine rp rfl rfl (p_asg rfl rfl) ?_
    refine rz [(4, .q 4 (0)), (5, .i (6 : Int))] [(4, .pure (GTable.cs GTable.zero))] rfl rfl rfl ?_
    refine AW2_ret ?_
    have hz := some_elim H
    subst hz
    exact ⟨⟨res_cella Tryd.underlying46 rfl in_46.sz rfl (Sub.le (Sub.refl _) (GTable.len GTable.zero)) (by decide) (Sub.take (Sub.refl _) (GTable.len GTable.zero)), res_tmp (.same _), trivial⟩, trivial⟩
   ·replace H := ite_else h4 H
    refine as2 [(2, .q 2 (0)), (4, .q 4 (0))] [(2, .pure (GTable.cs t0)), (4, .pure (GTable.cs GTable.zero))] rfl rfl rfl ?_
    refine AW2_skip ?_
    refine sg [0, 1, 2, 3] rfl ?_
    refine rp rfl rfl (u_lda rfl rfl Tryd.underlying46 rfl in_46 rfl (Nat.succ_pos _) (Sub.refl _) (GTable.len t0)) ?_
    refine bindK H fun r'2 h5 H => ?_
    refine rp rfl rfl (p_callp rfl rfl rfl Tryd.func61 rfl rfl (g_table_fresh_ac h5) ⟨rfl, trivial⟩) ?_
    refine r_op rfl rfl (u_st rfl rfl rfl rfl rfl in_46 (GTable.len r'2) (ne_of_lt (n := 0) (Nat.lt_of_lt_of_eq (by decide) (Eq.symm (GTable.len GTable.zero)))) (Upd.refl ((GTable.len r'2).trans (GTable.len GTable.zero).symm))) ?_
    refine rp rfl rfl (p_asg rfl rfl) ?_
    refine rz [(4, .q 4 (0)), (5, .i (0 : Int))] [(4, .pure (GTable.cs r'2))] rfl rfl rfl ?_
    refine AW2_ret ?_
    have hz := some_elim H
    subst hz
    exact ⟨⟨res_cella Tryd.underlying46 rfl in_46.sz rfl (Sub.le (Sub.refl _) (GTable.len r'2)) (by decide) (Sub.take (Sub.refl _) (GTable.len r'2)), res_tmp (.same _), trivial⟩, trivial⟩

/-! table.Insert -/
def g_table_Insert_r11 : List (List (Nat × Option Nat)) := [[(12, none)], [(39, some 0)], [(40, some 1)], [(12, none), (41, some 2)], [(41, some 2), (42, some 3)], [(41, some 2), (43, some 4)], [(41, some 2), (44, some 5)], [(2, none), (41, some 2)], [(41, some 2), (46, some 7)], [(41, some 2), (47, some 8)]]
def g_table_Insert_r11c : List (List Nat) := [[], [0], [0, 1], [0, 1, 2], [0, 1, 2, 3], [0, 1, 2, 3, 4], [0, 1, 2, 3, 4, 5], [0, 1, 2], [0, 1, 2, 7], [0, 1, 2, 7, 8], [0, 1, 2, 3, 4, 5, 6, 7, 8, 9], [0, 1, 2, 3, 4, 5, 6, 7, 8, 9, 10]]
def g_table_Insert_r18 : List (List (Nat × Option Nat)) := [[(1, none)], [(10, none)], [(2, none)], [(66, some 2)], [(67, some 3)], [(3, none)], [(64, some 0), (69, some 5)]]
def g_table_Insert_r18c : List (List Nat) := [[], [], [], [2], [2, 3], [], [0, 5], [0, 1, 2, 3, 4, 5, 6], [0, 1, 2, 3, 4, 5, 6, 7]]
noncomputable def g_table_Insert_l0 (drawer1 : Int) (r2 : List GValue) (r'1 : GTable × Int) : Int × Int → Option ((Int × Int) ⊕ ((GTable × Int) ⊕ Int))
  | (at10_0, t35_0) => (if t35_0 < (4 : Int) then (show Option ((GTable × Int) ⊕ Int) from if 0 ≤ t35_0 ∧ t35_0 < (4 : Int) then ((if ((vrd (vrd r'1.1.Drawers drawer1.toNat) t35_0.toNat).Full) = true then if 0 < ((vrd (vrd r'1.1.Drawers drawer1.toNat) t35_0.toNat).Row).length then if 0 < r2.length then some (decide ((lrd ((vrd (vrd r'1.1.Drawers drawer1.toNat) t35_0.toNat).Row) 0) = (lrd r2 0))) else none else none else some false)).bind fun g'4 => (if g'4 = true then some (.inl (GTable.zero, (8 : Int))) else (if ((!((vrd (vrd r'1.1.Drawers drawer1.toNat) t35_0.toNat).Full)) = true) ∧ (at10_0 < (0 : Int)) then some (.inr t35_0) else some (.inr at10_0))) else none).bind fun o'6 => match o'6 with | .inl y'5 => some (.inr (.inl y'5)) | .inr j'3 => some (.inl (j'3, w64 (t35_0 + (1 : Int)))) else some (.inr (.inr at10_0)))
noncomputable def g_table_Insert (t0 : GTable) (drawer1 : Int) (r2 : List GValue) : Option (GTable × Int) :=
  (g_table_begun t0 drawer1).bind fun r'1 => (if r'1.2 ≠ (0 : Int) then some (GTable.zero, r'1.2) else (g_kinds_Row r2 r'1.1.Cols).bind fun r'2 => (if r'2 ≠ (0 : Int) then some (GTable.zero, r'2) else if 0 ≤ drawer1 ∧ drawer1 < (2 : Int) then (loopO (g_table_Insert_l0 drawer1 r2 r'1) ((-1 : Int), (0 : Int))).bind fun o'10 => match o'10 with | .inl y'11 => some y'11 | .inr (y'12) => (if y'12 < (0 : Int) then some (GTable.zero, (9 : Int)) else (g_table_row r2).bind fun r'13 => if 0 ≤ drawer1 ∧ drawer1 < (2 : Int) then if 0 ≤ y'12 ∧ y'12 < (4 : Int) then letO ({ r'1.1 with Drawers := (vwr r'1.1.Drawers drawer1.toNat (vwr (vrd r'1.1.Drawers drawer1.toNat) y'12.toNat ({ { GCell.zero with Full := true } with Row := r'13 }))) }) fun t3'14 => some (t3'14, (0 : Int)) else none else none) else none))
set_option maxHeartbeats 4000000 in
set_option maxRecDepth 100000 in
theorem g_table_Insert_ac {t0 : GTable} {drawer1 : Int} {r2 : List GValue} {r : GTable × Int} (H : g_table_Insert t0 drawer1 r2 = some r) : ACp Tryd.prog 23 [(.agg (GTable.cs t0)), (AV.int drawer1), ((fun q : List GValue => AV.lst (q.flatMap GValue.cs) q.length) r2)] (.tup [(.agg (GTable.cs r.1)), (AV.int r.2)]) := by
 refine ACp_of (AC2_of_body (vs := [.g (GTable.cs r.1), .i r.2]) Tryd.func23 rfl rfl (Nat.le_of_ble_eq_true rfl) rfl ?_) (fun _ => .same _)
 unfold g_table_Insert at H
 refine as2 [(0, .g (GTable.cs t0)), (1, .i drawer1), (2, .p ((fun q : List GValue => AV.lst (q.flatMap GValue.cs) q.length) r2))] [] rfl rfl rfl ?_
 refine sg [0, 1, 2] rfl ?_
 refine r_op rfl rfl (MakeD.opD (n_box 3 rfl rfl) rfl rfl rfl rfl) ?_
 refine r_op rfl rfl (MakeD.opD (u_alloc 6 rfl in_46 one_46 zc_46) rfl rfl rfl rfl) ?_
 refine rp rfl rfl (p_asg rfl rfl) ?_
 refine rz [(1, .i drawer1), (2, .p ((fun q : List GValue => AV.lst (q.flatMap GValue.cs) q.length) r2)), (3, .q 3 (0)), (6, .q 6 (0))] [(3, .pure (GTable.cs t0)), (6, .pure (GTable.cs GTable.zero))] rfl rfl rfl ?_
 refine sg [0, 1, 2, 3, 4, 5, 6, 7] rfl ?_
 refine rp rfl rfl (u_lda rfl rfl Tryd.underlying46 rfl in_46 rfl (Nat.succ_pos _) (Sub.refl _) (GTable.len t0)) ?_
 refine rp rfl rfl (p_move rfl rfl) ?_
 refine bindK H fun r'1 h1 H => ?_
 refine rp rfl rfl (p_callp rfl rfl rfl Tryd.func49 rfl rfl (g_table_begun_ac h1) ⟨rfl, rfl, trivial⟩) ?_
 refine rp rfl rfl (p_move rfl rfl) ?_
 refine rp rfl rfl (p_ext rfl rfl rfl rfl) ?_
 refine rp rfl rfl (p_ext rfl rfl rfl rfl) ?_
 refine r_op rfl rfl (u_st rfl rfl rfl rfl rfl in_46 (GTable.len r'1.1) (ne_of_lt (n := 0) (Nat.lt_of_lt_of_eq (by decide) (Eq.symm (GTable.len t0)))) (Upd.refl ((GTable.len r'1.1).trans (GTable.len t0).symm))) ?_
 refine rp rfl rfl (p_asg rfl rfl) ?_
 refine rz [(1, .i drawer1), (2, .p ((fun q : List GValue => AV.lst (q.flatMap GValue.cs) q.length) r2)), (3, .q 3 (0)), (6, .q 6 (0)), (8, .i r'1.2)] [(3, .pure (GTable.cs r'1.1)), (6, .pure (GTable.cs GTable.zero))] rfl rfl rfl ?_
 refine AW2_seq ?_
 refine sg [0, 1] rfl ?_
 refine rp rfl rfl (p_move rfl rfl) ?_
 refine rp rfl rfl (p_ine rfl rfl rfl) ?_
 refine rz [(1, .i drawer1), (2, .p ((fun q : List GValue => AV.lst (q.flatMap GValue.cs) q.length) r2)), (3, .q 3 (0)), (6, .q 6 (0)), (8, .i r'1.2), (20, .b (decide (r'1.2 ≠ (0 : Int))))] [(3, .pure (GTable.cs r'1.1)), (6, .pure (GTable.cs GTable.zero))] rfl rfl rfl ?_
 refine AW2_if (p := r'1.2 ≠ (0 : Int)) rfl (fun h2 => ?_) (fun h2 => ?_)
 ·replace H := ite_then h2 H
  refine sg [0, 1, 2, 3] rfl ?_
  refine rp rfl rfl (u_bld rfl in_46 one_46 zc_46 pl_46 rfl rfl) ?_
  refine rp rfl rfl (p_move rfl rfl) ?_
  refine r_op rfl rfl (u_st rfl rfl rfl rfl rfl in_46 (GTable.len GTable.zero) (ne_of_lt (n := 0) (Nat.lt_of_lt_of_eq (by decide) (Eq.symm (GTable.len GTable.zero)))) (Upd.refl ((GTable.len GTable.zero).trans (GTable.len GTable.zero).symm))) ?_
  refine rp rfl rfl (p_asg rfl rfl) ?_
  refine rz [(6, .q 6 (0)), (7, .i r'1.2)] [(6, .pure (GTable.cs GTable.zero))] rfl rfl rfl ?_
  refine AW2_ret ?_
  have hz := some_elim H
  subst hz
  exact ⟨⟨res_cella Tryd.underlying46 rfl in_46.sz rfl (Sub.le (Sub.refl _) (GTable.len GTable.zero)) (by decide) (Sub.take (Sub.refl _) (GTable.len GTable.zero)), res_tmp (.same _), trivial⟩, trivial⟩
 ·replace H := ite_else h2 H
  refine as2 [(1, .i drawer1), (2, .p ((fun q : List GValue => AV.lst (q.flatMap GValue.cs) q.length) r2)), (3, .q 3 (0)), (6, .q 6 (0))] [(3, .pure (GTable.cs r'1.1)), (6, .pure (GTable.cs GTable.zero))] rfl rfl rfl ?_
  refine AW2_skip ?_
  refine AW2_seq ?_
  refine sg [0, 1, 2, 3, 4] rfl ?_
  refine rp rfl rfl (p_move rfl rfl) ?_
  refine rp rfl rfl (u_fa rfl rfl Tryd.underlying46 rfl in_35 (Nat.succ_ne_zero _) rfl rfl (ne_of_lt (n := 0) (Nat.lt_of_lt_of_eq (by decide) (Eq.symm (GTable.len r'1.1))))) ?_
  refine rp rfl rfl (u_ld rfl rfl Tryd.underlying35 rfl rfl ((Sub.refl _).trans (GTable.sub2 r'1.1))) ?_
  refine bindK H fun r'2 h3 H => ?_
  refine rp rfl rfl (p_callp rfl rfl rfl Tryd.func16 rfl rfl (g_kinds_Row_ac h3) ⟨rfl, rfl, trivial⟩) ?_
  refine rp rfl rfl (p_asg rfl rfl) ?_
  refine rz [(1, .i drawer1), (2, .p ((fun q : List GValue => AV.lst (q.flatMap GValue.cs) q.length) r2)), (3, .q 3 (0)), (6, .q 6 (0)), (9, .i r'2)] [(3, .pure (GTable.cs r'1.1)), (6, .pure (GTable.cs GTable.zero))] rfl rfl rfl ?_
  refine sg [0, 1] rfl ?_
  refine rp rfl rfl (p_move rfl rfl) ?_
  refine rp rfl rfl (p_ine rfl rfl rfl) ?_
  refine rz [(1, .i drawer1), (2, .p ((fun q : List GValue => AV.lst (q.flatMap GValue.cs) q.length) r2)), (3, .q 3 (0)), (6, .q 6 (0)), (9, .i r'2), (28, .b (decide (r'2 ≠ (0 : Int))))] [(3, .pure (GTable.cs r'1.1)), (6, .pure (GTable.cs GTable.zero))] rfl rfl rfl ?_
  refine AW2_if (p := r'2 ≠ (0 : Int)) rfl (fun h4 => ?_) (fun h4 => ?_)
  ·replace H := ite_then h4 H
   refine sg [0, 1, 2, 3] rfl ?_
   refine rp rfl rfl (u_bld rfl in_46 one_46 zc_46 pl_46 rfl rfl) ?_
   refine rp rfl rfl (p_move rfl rfl) ?_
   refine r_op rfl rfl (u_st rfl rfl rfl rfl rfl in_46 (GTable.len GTable.zero) (ne_of_lt (n := 0) (Nat.lt_of_lt_of_eq (by decide) (Eq.symm (GTable.len GTable.zero)))) (Upd.refl ((GTable.len GTable.zero).trans (GTable.len GTable.zero).symm))) ?_
   refine rp rfl rfl (p_asg rfl rfl) ?_
   refine rz [(6, .q 6 (0)), (7, .i r'2)] [(6, .pure (GTable.cs GTable.zero))] rfl rfl rfl ?_
   refine AW2_ret ?_
   have hz := some_elim H
   subst hz
   exact ⟨⟨res_cella Tryd.underlying46 rfl in_46.sz rfl (Sub.le (Sub.refl _) (GTable.len GTable.zero)) (by decide) (Sub.take (Sub.refl _) (GTable.len GTable.zero)), res_tmp (.same _), trivial⟩, trivial⟩
  ·replace H := ite_else h4 H
   refine as2 [(1, .i drawer1), (2, .p ((fun q : List GValue => AV.lst (q.flatMap GValue.cs) q.length) r2)), (3, .q 3 (0)), (6, .q 6 (0))] [(3, .pure (GTable.cs r'1.1)), (6, .pure (GTable.cs GTable.zero))] rfl rfl rfl ?_
   refine AW2_skip ?_
   refine sg [0] rfl ?_
   refine rp rfl rfl (p_asg rfl rfl) ?_
   refine rz [(1, .i drawer1), (2, .p ((fun q : List GValue => AV.lst (q.flatMap GValue.cs) q.length) r2)), (3, .q 3 (0)), (6, .q 6 (0)), (10, .i (-1 : Int))] [(3, .pure (GTable.cs r'1.1)), (6, .pure (GTable.cs GTable.zero))] rfl rfl rfl ?_
   refine AW2_seq ?_
   refine sg [0, 1, 2, 3, 4] rfl ?_
   refine rp rfl rfl (p_move rfl rfl) ?_
   refine rp rfl rfl (u_fa rfl rfl Tryd.underlying46 rfl in_44 (Nat.succ_ne_zero _) rfl rfl (ne_of_lt (n := 0) (Nat.lt_of_lt_of_eq (by decide) (Eq.symm (GTable.len r'1.1))))) ?_
   refine chkK H fun h5 H => ?_
   refine rp rfl rfl (u_ixp rfl rfl Tryd.underlying44 in_43 rfl rfl (ne_of_lt (n := 0) (Nat.lt_of_lt_of_eq (by decide) (Eq.symm (GTable.len r'1.1)))) rfl (ixe h5) (ixn h5)) ?_
   refine rp rfl rfl (u_lda rfl rfl Tryd.underlying43 rfl in_43 rfl (Nat.succ_pos _) (((Sub.refl _).trans (GTable.sub3 r'1.1)).trans (Sub.vfm (fun x => (vfm_len (fun x => (GCell.len x)) x)) (ixn h5))) (vfm_len (fun x => (GCell.len x)) (vrd r'1.1.Drawers drawer1.toNat))) ?_
   refine rp rfl rfl (p_move rfl rfl) ?_
   refine rz [(1, .i drawer1), (2, .p ((fun q : List GValue => AV.lst (q.flatMap GValue.cs) q.length) r2)), (3, .q 3 (0)), (6, .q 6 (0)), (10, .i (-1 : Int)), (34, .g (((vrd r'1.1.Drawers drawer1.toNat).toList).flatMap GCell.cs)), (35, .i (0 : Int))] [(3, .pure (GTable.cs r'1.1)), (6, .pure (GTable.cs GTable.zero))] rfl rfl rfl ?_
   refine AW2_block ?_
   refine as2 [(1, .i drawer1), (2, .p ((fun q : List GValue => AV.lst (q.flatMap GValue.cs) q.length) r2)), (3, .q 3 (0)), (6, .q 6 (0)), (10, .i (-1 : Int)), (34, .g (((vrd r'1.1.Drawers drawer1.toNat).toList).flatMap GCell.cs)), (35, .i (0 : Int))] [(3, .pure (GTable.cs r'1.1)), (6, .pure (GTable.cs GTable.zero))] rfl rfl rfl ?_
   refine bindK H fun o'10 h16 H => ?_
   refine AW2_loopO (fun a'7 : Int × Int => (⟨[(1, .i drawer1), (2, .p ((fun q : List GValue => AV.lst (q.flatMap GValue.cs) q.length) r2)), (3, .q 3 (0)), (6, .q 6 (0)), (10, .i a'7.1), (34, .g (((vrd r'1.1.Drawers drawer1.toNat).toList).flatMap GCell.cs)), (35, .i a'7.2)], [(3, .pure (GTable.cs r'1.1)), (6, .pure (GTable.cs GTable.zero))], 73⟩ : TS)) (fun (o : (GTable × Int) ⊕ Int) e s' => match o with | .inl y'8 => e = Go.Exit.ret ∧ ResAll Tryd.prog s' [ResultVar.cell 6 46, ResultVar.tmp 7] [.g (GTable.cs y'8.1), .i y'8.2] ∧ HFits s' [] | .inr (y'9) => e = Go.Exit.exit 0 ∧ s' = (⟨[(1, .i drawer1), (2, .p ((fun q : List GValue => AV.lst (q.flatMap GValue.cs) q.length) r2)), (3, .q 3 (0)), (6, .q 6 (0)), (10, .i y'9)], [(3, .pure (GTable.cs r'1.1)), (6, .pure (GTable.cs GTable.zero))], 73⟩ : TS)) h16 rfl (fun a x hx => ?_) (fun e s' hs => ?_)
   ·clear H
    obtain ⟨at10_0, t35_0⟩ := a
    have H := hx
    clear hx
    unfold g_table_Insert_l0 at H
    refine sg [0] rfl ?_
    refine rp rfl rfl (p_bin rfl rfl rfl rfl) ?_
    refine rz [(1, .i drawer1), (2, .p ((fun q : List GValue => AV.lst (q.flatMap GValue.cs) q.length) r2)), (3, .q 3 (0)), (6, .q 6 (0)), (10, .i at10_0), (34, .g (((vrd r'1.1.Drawers drawer1.toNat).toList).flatMap GCell.cs)), (35, .i t35_0), (36, .b (decide (t35_0 < (4 : Int))))] [(3, .pure (GTable.cs r'1.1)), (6, .pure (GTable.cs GTable.zero))] rfl rfl rfl ?_
    refine AW2_seq ?_
    refine AW2_if (p := t35_0 < (4 : Int)) rfl (fun h6 => ?_) (fun h6 => ?_)
    ·replace H := ite_then h6 H
     refine as2 [(1, .i drawer1), (2, .p ((fun q : List GValue => AV.lst (q.flatMap GValue.cs) q.length) r2)), (3, .q 3 (0)), (6, .q 6 (0)), (10, .i at10_0), (34, .g (((vrd r'1.1.Drawers drawer1.toNat).toList).flatMap GCell.cs)), (35, .i t35_0)] [(3, .pure (GTable.cs r'1.1)), (6, .pure (GTable.cs GTable.zero))] rfl rfl rfl ?_
     refine AW2_skip ?_
     refine AW2_seq ?_
     refine bindK H fun o'6 h7 H => ?_
     refine AW2_join (fun j'3 : Int => (⟨[(1, .i drawer1), (2, .p ((fun q : List GValue => AV.lst (q.flatMap GValue.cs) q.length) r2)), (3, .q 3 (0)), (6, .q 6 (0)), (10, .i j'3), (34, .g (((vrd r'1.1.Drawers drawer1.toNat).toList).flatMap GCell.cs)), (35, .i t35_0)], [(3, .pure (GTable.cs r'1.1)), (6, .pure (GTable.cs GTable.zero))], 73⟩ : TS)) (fun r e s' => e = Go.Exit.ret ∧ ResAll Tryd.prog s' [ResultVar.cell 6 46, ResultVar.tmp 7] [.g (GTable.cs r.1), .i r.2] ∧ HFits s' []) (x := o'6) ?_ (fun j'3 hy => ?_) (fun y'5 e s' hy hs => ?_)
     ·clear H
      have H := h7
      clear h7
      refine AW2_block ?_
      refine sg [0, 1, 2, 3, 4] rfl ?_
      refine rp rfl rfl (p_move rfl rfl) ?_
      refine chkK H fun h8 H => ?_
      refine rp rfl rfl (u_ixaa rfl rfl Tryd.underlying43 in_42 Tryd.underlying42 rfl rfl rfl (ixe h8) (ixn h8) (Sub.vfm (fun x => (GCell.len x)) (ixn h8)) (GCell.len (vrd (vrd r'1.1.Drawers drawer1.toNat) t35_0.toNat))) ?_
      refine r_op rfl rfl (MakeD.opD (u_alloc 12 rfl in_42 one_42 zc_42) rfl rfl rfl rfl) ?_
      refine rp rfl rfl (p_asg rfl rfl) ?_
      refine r_op rfl rfl (u_st rfl rfl rfl rfl rfl in_42 (GCell.len (vrd (vrd r'1.1.Drawers drawer1.toNat) t35_0.toNat)) (ne_of_lt (n := 0) (Nat.lt_of_lt_of_eq (by decide) (Eq.symm (GCell.len GCell.zero)))) (Upd.refl ((GCell.len (vrd (vrd r'1.1.Drawers drawer1.toNat) t35_0.toNat)).trans (GCell.len GCell.zero).symm))) ?_
      refine rz [(1, .i drawer1), (2, .p ((fun q : List GValue => AV.lst (q.flatMap GValue.cs) q.length) r2)), (3, .q 3 (0)), (6, .q 6 (0)), (10, .i at10_0), (11, .i t35_0), (12, .q 12 (0)), (34, .g (((vrd r'1.1.Drawers drawer1.toNat).toList).flatMap GCell.cs)), (35, .i t35_0)] [(3, .pure (GTable.cs r'1.1)), (6, .pure (GTable.cs GTable.zero)), (12, .pure (GCell.cs (vrd (vrd r'1.1.Drawers drawer1.toNat) t35_0.toNat)))] rfl rfl rfl ?_
      refine AW2_seq ?_
      refine AW2_seq ?_
      refine bindK H fun g'4 h12 H => ?_
      refine AW2_mid (⟨[(1, .i drawer1), (2, .p ((fun q : List GValue => AV.lst (q.flatMap GValue.cs) q.length) r2)), (3, .q 3 (0)), (6, .q 6 (0)), (10, .i at10_0), (11, .i t35_0), (12, .q 12 (0)), (34, .g (((vrd r'1.1.Drawers drawer1.toNat).toList).flatMap GCell.cs)), (35, .i t35_0), (50, .b g'4)], [(3, .pure (GTable.cs r'1.1)), (6, .pure (GTable.cs GTable.zero)), (12, .pure (GCell.cs (vrd (vrd r'1.1.Drawers drawer1.toNat) t35_0.toNat)))], 73⟩ : TS) ?_ ?_
      ·clear H
       have H := h12
       clear h12
       refine (Classical.em (((vrd (vrd r'1.1.Drawers drawer1.toNat) t35_0.toNat).Full) = true)).elim (fun h9 => ?_) (fun h9 => ?_)
       ·replace H := ite_then h9 H
        refine chkK H fun h10 H => ?_
        refine chkK H fun h11 H => ?_
        have hz := some_elim H
        subst hz
        refine AW2_ghoQ ?_
        refine AW2_draw 10 [10, 11] (fun k => ([.q 12 (0 + 0), .b ((vrd (vrd r'1.1.Drawers drawer1.toNat) t35_0.toNat).Full), .b ((vrd (vrd r'1.1.Drawers drawer1.toNat) t35_0.toNat).Full), .q 12 (0 + 1), .p ((fun q : List GValue => AV.lst (q.flatMap GValue.cs) q.length) ((vrd (vrd r'1.1.Drawers drawer1.toNat) t35_0.toNat).Row)), .p (.rptr (((vrd (vrd r'1.1.Drawers drawer1.toNat) t35_0.toNat).Row).flatMap GValue.cs) (0 * 4)), .g (GValue.cs (lrd ((vrd (vrd r'1.1.Drawers drawer1.toNat) t35_0.toNat).Row) 0)), .p ((fun q : List GValue => AV.lst (q.flatMap GValue.cs) q.length) r2), .p (.rptr (r2.flatMap GValue.cs) (0 * 4)), .g (GValue.cs (lrd r2 0))] : List TV).getD k TV.any) (fun k => g_table_Insert_r11.getD k []) [(1, none), (2, none), (3, none), (6, none), (10, none), (11, none), (12, none), (34, none), (35, none), (41, some 2), (45, some 6), (48, some 9)] [] (fun k => g_table_Insert_r11c.getD k []) mixed (by kernel_rfl) rfl rfl (a_op (g_x rfl (x_p rfl (u_fa rfl rfl Tryd.underlying42 rfl in_4 (Nat.succ_ne_zero _) rfl rfl (ne_of_lt (n := 0) (Nat.lt_of_lt_of_eq (by decide) (Eq.symm (GCell.len (vrd (vrd r'1.1.Drawers drawer1.toNat) t35_0.toNat)))))) rfl)) (a_op (g_x rfl (x_p rfl (u_ld rfl rfl Tryd.underlying4 rfl rfl ((Sub.refl _).trans (GCell.sub0 (vrd (vrd r'1.1.Drawers drawer1.toNat) t35_0.toNat)))) rfl)) (a_op (g_x rfl (x_p rfl (p_move rfl rfl) rfl)) (a_op (g_on rfl rfl rfl h9 rfl (x_p rfl (u_fa rfl rfl Tryd.underlying42 rfl in_38 (Nat.succ_ne_zero _) rfl rfl (ne_of_lt (n := 0) (Nat.lt_of_lt_of_eq (by decide) (Eq.symm (GCell.len (vrd (vrd r'1.1.Drawers drawer1.toNat) t35_0.toNat)))))) rfl)) (a_op (g_on rfl rfl rfl h9 rfl (x_p rfl (u_ld rfl rfl Tryd.underlying38 rfl rfl ((Sub.refl _).trans (GCell.sub1 (vrd (vrd r'1.1.Drawers drawer1.toNat) t35_0.toNat)))) rfl)) (a_op (g_on rfl rfl rfl h9 rfl (x_p rfl (u_ixl rfl rfl Tryd.underlying38 in_29 rfl rfl rfl h10 (fne (fun x => (GValue.len x)) (by decide) h10)) rfl)) (a_op (g_on rfl rfl rfl h9 rfl (x_p rfl (u_lda rfl rfl Tryd.underlying29 rfl in_29 rfl (Nat.succ_pos _) (Sub.fm default (fun x => (GValue.len x)) h10) (GValue.len (lrd ((vrd (vrd r'1.1.Drawers drawer1.toNat) t35_0.toNat).Row) 0))) rfl)) (a_op (g_on rfl rfl rfl h9 rfl (x_p rfl (p_move rfl rfl) rfl)) (a_op (g_on rfl rfl rfl h9 rfl (x_p rfl (u_ixl rfl rfl Tryd.underlying38 in_29 rfl rfl rfl h11 (fne (fun x => (GValue.len x)) (by decide) h11)) rfl)) (a_op (g_on rfl rfl rfl h9 rfl (x_p rfl (u_lda rfl rfl Tryd.underlying29 rfl in_29 rfl (Nat.succ_pos _) (Sub.fm default (fun x => (GValue.len x)) h11) (GValue.len (lrd r2 0))) rfl)) (a_nil))))))))))) ?_
        refine t_on rfl rfl rfl rfl h9 rfl (PureD.opD (p_eqa (a := (lrd ((vrd (vrd r'1.1.Drawers drawer1.toNat) t35_0.toNat).Row) 0)) (b := (lrd r2 0)) rfl eq_29 rfl (by kernel_rfl) rfl rfl)) ?_
        refine t_op rfl rfl (PureD.opD (p_pkt rfl rfl h9 (.same _))) ?_
        refine t_gho (Gho_st (L := [(1, .i drawer1), (2, .p ((fun q : List GValue => AV.lst (q.flatMap GValue.cs) q.length) r2)), (3, .q 3 (0)), (6, .q 6 (0)), (10, .i at10_0), (11, .i t35_0), (12, .q 12 (0)), (34, .g (((vrd r'1.1.Drawers drawer1.toNat).toList).flatMap GCell.cs)), (35, .i t35_0), (50, .b (decide ((lrd ((vrd (vrd r'1.1.Drawers drawer1.toNat) t35_0.toNat).Row) 0) = (lrd r2 0))))]) (H := [(3, .pure (GTable.cs r'1.1)), (6, .pure (GTable.cs GTable.zero)), (12, .pure (GCell.cs (vrd (vrd r'1.1.Drawers drawer1.toNat) t35_0.toNat)))]) (N := 73) rfl ⟨TLes.same _, TLes.same _, TLes.same _, TLes.same _, TLes.same _, TLes.same _, TLes.same _, TLes.same _, TLes.same _, TLes.same _, trivial⟩ ⟨rfl, rfl, rfl, trivial⟩) ?_
        exact rfl
       ·replace H := ite_else h9 H
        have hz := some_elim H
        subst hz
        refine AW2_ghoQ ?_
        refine AW2_draw 10 [10, 11] (fun k => ([.q 12 (0 + 0), .b ((vrd (vrd r'1.1.Drawers drawer1.toNat) t35_0.toNat).Full), .b ((vrd (vrd r'1.1.Drawers drawer1.toNat) t35_0.toNat).Full), .p (.tup []), .p (.tup []), .p (.tup []), .p (.tup []), .p (.tup []), .p (.tup []), .p (.tup [])] : List TV).getD k TV.any) (fun k => g_table_Insert_r11.getD k []) [(1, none), (2, none), (3, none), (6, none), (10, none), (11, none), (12, none), (34, none), (35, none), (41, some 2), (45, some 6), (48, some 9)] [] (fun k => g_table_Insert_r11c.getD k []) mixed (by kernel_rfl) rfl rfl (a_op (g_x rfl (x_p rfl (u_fa rfl rfl Tryd.underlying42 rfl in_4 (Nat.succ_ne_zero _) rfl rfl (ne_of_lt (n := 0) (Nat.lt_of_lt_of_eq (by decide) (Eq.symm (GCell.len (vrd (vrd r'1.1.Drawers drawer1.toNat) t35_0.toNat)))))) rfl)) (a_op (g_x rfl (x_p rfl (u_ld rfl rfl Tryd.underlying4 rfl rfl ((Sub.refl _).trans (GCell.sub0 (vrd (vrd r'1.1.Drawers drawer1.toNat) t35_0.toNat)))) rfl)) (a_op (g_x rfl (x_p rfl (p_move rfl rfl) rfl)) (a_op (g_off rfl rfl rfl rfl rfl (bfalse h9) rfl rfl) (a_op (g_off rfl rfl rfl rfl rfl (bfalse h9) rfl rfl) (a_op (g_off rfl rfl rfl rfl rfl (bfalse h9) rfl rfl) (a_op (g_off rfl rfl rfl rfl rfl (bfalse h9) rfl rfl) (a_op (g_off rfl rfl rfl rfl rfl (bfalse h9) rfl rfl) (a_op (g_off rfl rfl rfl rfl rfl (bfalse h9) rfl rfl) (a_op (g_off rfl rfl rfl rfl rfl (bfalse h9) rfl rfl) (a_nil))))))))))) ?_
        refine t_off rfl rfl rfl rfl (bfalse h9) rfl rfl ?_
        refine t_op rfl rfl (PureD.opD (p_pkf rfl rfl (bfalse h9) (.same _))) ?_
        refine t_gho (Gho_st (L := [(1, .i drawer1), (2, .p ((fun q : List GValue => AV.lst (q.flatMap GValue.cs) q.length) r2)), (3, .q 3 (0)), (6, .q 6 (0)), (10, .i at10_0), (11, .i t35_0), (12, .q 12 (0)), (34, .g (((vrd r'1.1.Drawers drawer1.toNat).toList).flatMap GCell.cs)), (35, .i t35_0), (50, .b false)]) (H := [(3, .pure (GTable.cs r'1.1)), (6, .pure (GTable.cs GTable.zero)), (12, .pure (GCell.cs (vrd (vrd r'1.1.Drawers drawer1.toNat) t35_0.toNat)))]) (N := 73) rfl ⟨TLes.same _, TLes.same _, TLes.same _, TLes.same _, TLes.same _, TLes.same _, TLes.same _, TLes.same _, TLes.same _, TLes.same _, trivial⟩ ⟨rfl, rfl, rfl, trivial⟩) ?_
        exact rfl
      ·refine AW2_cond rfl (fun h13 => ?_) (fun h13 => ?_)
       ·replace H := ite_then h13 H
        refine sg [0, 1, 2] rfl ?_
        refine rp rfl rfl (u_bld rfl in_46 one_46 zc_46 pl_46 rfl rfl) ?_
        refine r_op rfl rfl (u_st rfl rfl rfl rfl rfl in_46 (GTable.len GTable.zero) (ne_of_lt (n := 0) (Nat.lt_of_lt_of_eq (by decide) (Eq.symm (GTable.len GTable.zero)))) (Upd.refl ((GTable.len GTable.zero).trans (GTable.len GTable.zero).symm))) ?_
        refine rp rfl rfl (p_asg rfl rfl) ?_
        refine rz [(6, .q 6 (0)), (7, .i (8 : Int))] [(6, .pure (GTable.cs GTable.zero))] rfl rfl rfl ?_
        refine AW2_ret ?_
        have hz := some_elim H
        subst hz
        exact ⟨rfl, ⟨res_cella Tryd.underlying46 rfl in_46.sz rfl (Sub.le (Sub.refl _) (GTable.len GTable.zero)) (by decide) (Sub.take (Sub.refl _) (GTable.len GTable.zero)), res_tmp (.same _), trivial⟩, trivial⟩
       ·replace H := ite_else (ne_true h13) H
        refine as2 [(1, .i drawer1), (2, .p ((fun q : List GValue => AV.lst (q.flatMap GValue.cs) q.length) r2)), (3, .q 3 (0)), (6, .q 6 (0)), (10, .i at10_0), (11, .i t35_0), (12, .q 12 (0)), (34, .g (((vrd r'1.1.Drawers drawer1.toNat).toList).flatMap GCell.cs)), (35, .i t35_0)] [(3, .pure (GTable.cs r'1.1)), (6, .pure (GTable.cs GTable.zero)), (12, .pure (GCell.cs (vrd (vrd r'1.1.Drawers drawer1.toNat) t35_0.toNat)))] rfl rfl rfl ?_
        refine AW2_skip ?_
        refine AW2_seq ?_
        refine AW2_mid (⟨[(1, .i drawer1), (2, .p ((fun q : List GValue => AV.lst (q.flatMap GValue.cs) q.length) r2)), (3, .q 3 (0)), (6, .q 6 (0)), (10, .i at10_0), (11, .i t35_0), (34, .g (((vrd r'1.1.Drawers drawer1.toNat).toList).flatMap GCell.cs)), (35, .i t35_0), (58, .b (decide (((!((vrd (vrd r'1.1.Drawers drawer1.toNat) t35_0.toNat).Full)) = true) ∧ (at10_0 < (0 : Int)))))], [(3, .pure (GTable.cs r'1.1)), (6, .pure (GTable.cs GTable.zero))], 73⟩ : TS) ?_ ?_
        ·refine AW2_reg [0, 1, 2, 3, 4, 5, 6] rfl ?_
         refine rp rfl rfl (u_fa rfl rfl Tryd.underlying42 rfl in_4 (Nat.succ_ne_zero _) rfl rfl (ne_of_lt (n := 0) (Nat.lt_of_lt_of_eq (by decide) (Eq.symm (GCell.len (vrd (vrd r'1.1.Drawers drawer1.toNat) t35_0.toNat)))))) ?_
         refine rp rfl rfl (u_ld rfl rfl Tryd.underlying4 rfl rfl ((Sub.refl _).trans (GCell.sub0 (vrd (vrd r'1.1.Drawers drawer1.toNat) t35_0.toNat)))) ?_
         refine rp rfl rfl (p_not rfl rfl) ?_
         refine rp rfl rfl (p_move rfl rfl) ?_
         refine (Classical.em ((!((vrd (vrd r'1.1.Drawers drawer1.toNat) t35_0.toNat).Full)) = true)).elim (fun h14 => ?_) (fun h14 => ?_)
         ·refine rn rfl rfl rfl rfl h14 rfl (p_move rfl rfl) ?_
          refine rn rfl rfl rfl rfl h14 rfl (p_bin rfl rfl rfl rfl) ?_
          refine rp rfl rfl (p_pkt rfl rfl h14 (tb ((and_l (p := (!((vrd (vrd r'1.1.Drawers drawer1.toNat) t35_0.toNat).Full)) = true) (q := at10_0 < (0 : Int)) h14)))) ?_
          refine rs [(1, .i drawer1), (2, .p ((fun q : List GValue => AV.lst (q.flatMap GValue.cs) q.length) r2)), (3, .q 3 (0)), (6, .q 6 (0)), (10, .i at10_0), (11, .i t35_0), (34, .g (((vrd r'1.1.Drawers drawer1.toNat).toList).flatMap GCell.cs)), (35, .i t35_0), (58, .b (decide (((!((vrd (vrd r'1.1.Drawers drawer1.toNat) t35_0.toNat).Full)) = true) ∧ (at10_0 < (0 : Int)))))] [(3, .pure (GTable.cs r'1.1)), (6, .pure (GTable.cs GTable.zero))] rfl rfl rfl ?_
          exact RunW_nil rfl
         ·refine r_off rfl rfl rfl rfl (bfalse h14) rfl rfl ?_
          refine r_off rfl rfl rfl rfl (bfalse h14) rfl rfl ?_
          refine rp rfl rfl (p_pkf rfl rfl (bfalse h14) (tb (decide_eq_false (p := ((!((vrd (vrd r'1.1.Drawers drawer1.toNat) t35_0.toNat).Full)) = true) ∧ (at10_0 < (0 : Int))) (fun x => h14 x.1)).symm)) ?_
          refine rs [(1, .i drawer1), (2, .p ((fun q : List GValue => AV.lst (q.flatMap GValue.cs) q.length) r2)), (3, .q 3 (0)), (6, .q 6 (0)), (10, .i at10_0), (11, .i t35_0), (34, .g (((vrd r'1.1.Drawers drawer1.toNat).toList).flatMap GCell.cs)), (35, .i t35_0), (58, .b (decide (((!((vrd (vrd r'1.1.Drawers drawer1.toNat) t35_0.toNat).Full)) = true) ∧ (at10_0 < (0 : Int)))))] [(3, .pure (GTable.cs r'1.1)), (6, .pure (GTable.cs GTable.zero))] rfl rfl rfl ?_
          exact RunW_nil rfl
        ·refine AW2_if (p := ((!((vrd (vrd r'1.1.Drawers drawer1.toNat) t35_0.toNat).Full)) = true) ∧ (at10_0 < (0 : Int))) rfl (fun h15 => ?_) (fun h15 => ?_)
         ·replace H := ite_then h15 H
          refine AW2_reg [0, 1] rfl ?_
          refine rp rfl rfl (p_move rfl rfl) ?_
          refine rp rfl rfl (p_asg rfl rfl) ?_
          refine rz [(1, .i drawer1), (2, .p ((fun q : List GValue => AV.lst (q.flatMap GValue.cs) q.length) r2)), (3, .q 3 (0)), (6, .q 6 (0)), (10, .i t35_0), (34, .g (((vrd r'1.1.Drawers drawer1.toNat).toList).flatMap GCell.cs)), (35, .i t35_0)] [(3, .pure (GTable.cs r'1.1)), (6, .pure (GTable.cs GTable.zero))] rfl rfl rfl ?_
          have hz := some_elim H
          subst hz
          exact ⟨rfl, rfl⟩
         ·replace H := ite_else h15 H
          refine as2 [(1, .i drawer1), (2, .p ((fun q : List GValue => AV.lst (q.flatMap GValue.cs) q.length) r2)), (3, .q 3 (0)), (6, .q 6 (0)), (10, .i at10_0), (34, .g (((vrd r'1.1.Drawers drawer1.toNat).toList).flatMap GCell.cs)), (35, .i t35_0)] [(3, .pure (GTable.cs r'1.1)), (6, .pure (GTable.cs GTable.zero))] rfl rfl rfl ?_
          refine AW2_skip ?_
          have hz := some_elim H
          subst hz
          exact ⟨rfl, rfl⟩
     ·subst hy
      refine AW2_reg [0, 1] rfl ?_
      refine rp rfl rfl (p_bin rfl rfl rfl rfl) ?_
      refine rp rfl rfl (p_move rfl rfl) ?_
      refine rz [(1, .i drawer1), (2, .p ((fun q : List GValue => AV.lst (q.flatMap GValue.cs) q.length) r2)), (3, .q 3 (0)), (6, .q 6 (0)), (10, .i j'3), (34, .g (((vrd r'1.1.Drawers drawer1.toNat).toList).flatMap GCell.cs)), (35, .i (w64 (t35_0 + (1 : Int))))] [(3, .pure (GTable.cs r'1.1)), (6, .pure (GTable.cs GTable.zero))] rfl rfl rfl ?_
      have hz := some_elim H
      subst hz
      exact ⟨rfl, rfl⟩
     ·subst hy
      obtain ⟨rfl, hs⟩ := hs
      have hz := some_elim H
      subst hz
      exact ⟨rfl, hs.1, hs.2⟩
    ·replace H := ite_else h6 H
     refine as2 [(1, .i drawer1), (2, .p ((fun q : List GValue => AV.lst (q.flatMap GValue.cs) q.length) r2)), (3, .q 3 (0)), (6, .q 6 (0)), (10, .i at10_0)] [(3, .pure (GTable.cs r'1.1)), (6, .pure (GTable.cs GTable.zero))] rfl rfl rfl ?_
     refine AW2_exit ?_
     refine thenQ2_exit ?_
     have hz := some_elim H
     subst hz
     exact ⟨rfl, rfl⟩
   ·rcases o'10 with y'11 | y'12
    ·obtain ⟨rfl, hs⟩ := hs
     refine ⟨by simp, ?_⟩
     have hz := some_elim H
     subst hz
     exact ⟨hs.1, hs.2⟩
    ·obtain ⟨rfl, rfl⟩ := hs
     refine ⟨by simp, ?_⟩
     refine blockQ2_exit ?_
     refine AW2_seq ?_
     refine sg [0, 1] rfl ?_
     refine rp rfl rfl (p_move rfl rfl) ?_
     refine rp rfl rfl (p_bin rfl rfl rfl rfl) ?_
     refine rz [(1, .i drawer1), (2, .p ((fun q : List GValue => AV.lst (q.flatMap GValue.cs) q.length) r2)), (3, .q 3 (0)), (6, .q 6 (0)), (10, .i y'12), (62, .b (decide (y'12 < (0 : Int))))] [(3, .pure (GTable.cs r'1.1)), (6, .pure (GTable.cs GTable.zero))] rfl rfl rfl ?_
     refine AW2_if (p := y'12 < (0 : Int)) rfl (fun h17 => ?_) (fun h17 => ?_)
     ·replace H := ite_then h17 H
      refine sg [0, 1, 2] rfl ?_
      refine rp rfl rfl (u_bld rfl in_46 one_46 zc_46 pl_46 rfl rfl) ?_
      refine r_op rfl rfl (u_st rfl rfl rfl rfl rfl in_46 (GTable.len GTable.zero) (ne_of_lt (n := 0) (Nat.lt_of_lt_of_eq (by decide) (Eq.symm (GTable.len GTable.zero)))) (Upd.refl ((GTable.len GTable.zero).trans (GTable.len GTable.zero).symm))) ?_
      refine rp rfl rfl (p_asg rfl rfl) ?_
      refine rz [(6, .q 6 (0)), (7, .i (9 : Int))] [(6, .pure (GTable.cs GTable.zero))] rfl rfl rfl ?_
      refine AW2_ret ?_
      have hz := some_elim H
      subst hz
      exact ⟨⟨res_cella Tryd.underlying46 rfl in_46.sz rfl (Sub.le (Sub.refl _) (GTable.len GTable.zero)) (by decide) (Sub.take (Sub.refl _) (GTable.len GTable.zero)), res_tmp (.same _), trivial⟩, trivial⟩
     ·replace H := ite_else h17 H
      refine as2 [(1, .i drawer1), (2, .p ((fun q : List GValue => AV.lst (q.flatMap GValue.cs) q.length) r2)), (3, .q 3 (0)), (6, .q 6 (0)), (10, .i y'12)] [(3, .pure (GTable.cs r'1.1)), (6, .pure (GTable.cs GTable.zero))] rfl rfl rfl ?_
      refine AW2_skip ?_
      refine AW2_seq ?_
      refine bindK H fun r'13 h18 H => ?_
      refine chkK H fun h19 H => ?_
      refine chkK H fun h20 H => ?_
      refine AW2_ghoQ ?_
      refine AW2_draw 7 [7, 8] (fun k => ([.i drawer1, .i y'12, .p ((fun q : List GValue => AV.lst (q.flatMap GValue.cs) q.length) r2), .p ((fun q : List GValue => AV.lst (q.flatMap GValue.cs) q.length) r'13), .g (GCell.cs ((GCell.w1 (GCell.w0 GCell.zero true) r'13))), .q 3 (0 + 3), .q 3 (0 + 3 + drawer1.toNat * 8)] : List TV).getD k TV.any) (fun k => g_table_Insert_r18.getD k []) [(3, none), (6, none), (65, some 1), (68, some 4), (70, some 6)] [] (fun k => g_table_Insert_r18c.getD k []) mixed (by kernel_rfl) rfl rfl (a_op (g_x rfl (x_p rfl (p_move rfl rfl) rfl)) (a_op (g_x rfl (x_p rfl (p_move rfl rfl) rfl)) (a_op (g_x rfl (x_p rfl (p_move rfl rfl) rfl)) (a_op (g_x rfl (x_p rfl (p_callp rfl rfl rfl Tryd.func46 rfl rfl (g_table_row_ac h18) ⟨rfl, trivial⟩) rfl)) (a_op (g_x rfl (x_p rfl (u_bld rfl in_42 one_42 zc_42 pl_42 rfl (af_cons rfl rfl (GCell.upd0 GCell.zero true) (af_cons rfl rfl (GCell.upd1 ((GCell.w0 GCell.zero true)) r'13) rfl))) rfl)) (a_op (g_x rfl (x_p rfl (u_fa rfl rfl Tryd.underlying46 rfl in_44 (Nat.succ_ne_zero _) rfl rfl (ne_of_lt (n := 0) (Nat.lt_of_lt_of_eq (by decide) (Eq.symm (GTable.len r'1.1))))) rfl)) (a_op (g_x rfl (x_p rfl (u_ixp rfl rfl Tryd.underlying44 in_43 rfl rfl (ne_of_lt (n := 0) (Nat.lt_of_lt_of_eq (by decide) (Eq.symm (GTable.len r'1.1)))) rfl (ixe h19) (ixn h19)) rfl)) (a_nil)))))))) ?_
      refine t_op rfl rfl (PureD.opD (u_ixp rfl rfl Tryd.underlying43 in_42 rfl rfl (ne_of_lt (n := 0) (Nat.lt_of_lt_of_eq (by decide) (Eq.symm (GTable.len r'1.1)))) rfl (ixe h20) (ixn h20))) ?_
      refine t_op rfl rfl (u_st rfl rfl rfl rfl rfl in_42 (GCell.len ((GCell.w1 (GCell.w0 GCell.zero true) r'13))) (ne_of_lt (n := 0) (Nat.lt_of_lt_of_eq (by decide) (Eq.symm (GTable.len r'1.1)))) (Upd.trans (((Sub.refl _).trans (GTable.sub3 r'1.1)).trans (Sub.vfm (fun x => (vfm_len (fun x => (GCell.len x)) x)) (ixn h19))) (Upd.vfm (fun x => (GCell.len x)) (ixn h20)) (Upd.trans ((Sub.refl _).trans (GTable.sub3 r'1.1)) (Upd.vfm (fun x => (vfm_len (fun x => (GCell.len x)) x)) (ixn h19)) (Upd.trans (Sub.refl _) (GTable.upd3 r'1.1 (vwr r'1.1.Drawers drawer1.toNat (vwr (vrd r'1.1.Drawers drawer1.toNat) y'12.toNat ((GCell.w1 (GCell.w0 GCell.zero true) r'13))))) (Upd.refl ((GTable.len ((GTable.w3 r'1.1 (vwr r'1.1.Drawers drawer1.toNat (vwr (vrd r'1.1.Drawers drawer1.toNat) y'12.toNat ((GCell.w1 (GCell.w0 GCell.zero true) r'13))))))).trans (GTable.len r'1.1).symm)))))) ?_
      refine t_gho (Gho_st (L := [(3, .q 3 (0)), (6, .q 6 (0))]) (H := [(3, .pure (GTable.cs ((GTable.w3 r'1.1 (vwr r'1.1.Drawers drawer1.toNat (vwr (vrd r'1.1.Drawers drawer1.toNat) y'12.toNat ((GCell.w1 (GCell.w0 GCell.zero true) r'13)))))))), (6, .pure (GTable.cs GTable.zero))]) (N := 73) rfl ⟨TLes.same _, TLes.same _, trivial⟩ ⟨rfl, rfl, trivial⟩) ?_
      refine gen1 (fun t3'14 => (⟨[(3, .q 3 (0)), (6, .q 6 (0))], [(3, .pure (GTable.cs t3'14)), (6, .pure (GTable.cs GTable.zero))], 73⟩ : TS)) H ?_
      intro t3'14 H
      refine sg [0, 1, 2] rfl ?_
      refine rp rfl rfl (u_lda rfl rfl Tryd.underlying46 rfl in_46 rfl (Nat.succ_pos _) (Sub.refl _) (GTable.len t3'14)) ?_
      refine r_op rfl rfl (u_st rfl rfl rfl rfl rfl in_46 (GTable.len t3'14) (ne_of_lt (n := 0) (Nat.lt_of_lt_of_eq (by decide) (Eq.symm (GTable.len GTable.zero)))) (Upd.refl ((GTable.len t3'14).trans (GTable.len GTable.zero).symm))) ?_
      refine rp rfl rfl (p_asg rfl rfl) ?_
      refine rz [(6, .q 6 (0)), (7, .i (0 : Int))] [(6, .pure (GTable.cs t3'14))] rfl rfl rfl ?_
      refine AW2_ret ?_
      have hz := some_elim H
      subst hz
      exact ⟨⟨res_cella Tryd.underlying46 rfl in_46.sz rfl (Sub.le (Sub.refl _) (GTable.len t3'14)) (by decide) (Sub.take (Sub.refl _) (GTable.len t3'14)), res_tmp (.same _), trivial⟩, trivial⟩

/-! chirographref.among -/
noncomputable def g_ref_among_l0 (c0 : UInt8) (l1 : List UInt8) : Int → Option (Int ⊕ (Bool ⊕ Unit))
  | i5_0 => (if i5_0 < (l1.length : Int) then if 0 ≤ i5_0 ∧ i5_0 < (l1.length : Int) then (if (lrd l1 i5_0.toNat) = c0 then some (.inr (.inl true)) else some (.inl (w64 (i5_0 + (1 : Int))))) else none else some (.inr (.inr ())))
noncomputable def g_ref_among (c0 : UInt8) (l1 : List UInt8) : Option (Bool) :=
  (loopO (g_ref_among_l0 c0 l1) (0 : Int)).bind fun o'4 => match o'4 with | .inl y'5 => some y'5 | .inr (y'6) => some false
set_option maxHeartbeats 4000000 in
set_option maxRecDepth 100000 in
theorem g_ref_among_ac {c0 : UInt8} {l1 : List UInt8} {r : Bool} (H : g_ref_among c0 l1 = some r) : ACp Tryd.prog 56 [(AV.b8 c0), (AV.txt l1)] (AV.bool r) := by
 refine ACp_of (AC2_of_body (vs := [.b r]) Tryd.func56 rfl rfl (Nat.le_of_ble_eq_true rfl) rfl ?_) (fun _ => .same _)
 unfold g_ref_among at H
 refine as2 [(0, .p (AV.b8 c0)), (1, .t l1)] [] rfl rfl rfl ?_
 refine sg [0] rfl ?_
 refine rp rfl rfl (p_asg rfl rfl) ?_
 refine rz [(0, .p (AV.b8 c0)), (1, .t l1)] [] rfl rfl rfl ?_
 refine AW2_seq ?_
 refine sg [0] rfl ?_
 refine rp rfl rfl (p_asg rfl rfl) ?_
 refine rz [(0, .p (AV.b8 c0)), (1, .t l1), (5, .i (0 : Int))] [] rfl rfl rfl ?_
 refine AW2_block ?_
 refine as2 [(0, .p (AV.b8 c0)), (1, .t l1), (5, .i (0 : Int))] [] rfl rfl rfl ?_
 refine bindK H fun o'4 h4 H => ?_
 refine AW2_loopO (fun a'1 : Int => (⟨[(0, .p (AV.b8 c0)), (1, .t l1), (5, .i a'1)], [], 17⟩ : TS)) (fun (o : Bool ⊕ Unit) e s' => match o with | .inl y'2 => e = Go.Exit.ret ∧ ResAll Tryd.prog s' [ResultVar.tmp 4] [.b y'2] ∧ HFits s' [] | .inr (y'3) => e = Go.Exit.exit 0 ∧ s' = (⟨[], [], 17⟩ : TS)) h4 rfl (fun i5_0 x hx => ?_) (fun e s' hs => ?_)
 ·clear H
  have H := hx
  clear hx
  unfold g_ref_among_l0 at H
  refine AW2_seq ?_
  refine sg [0, 1, 2, 3] rfl ?_
  refine rp rfl rfl (p_move rfl rfl) ?_
  refine rp rfl rfl (p_move rfl rfl) ?_
  refine rp rfl rfl (p_lent rfl Tryd.underlying9 rfl) ?_
  refine rp rfl rfl (p_bin rfl rfl rfl rfl) ?_
  refine rz [(0, .p (AV.b8 c0)), (1, .t l1), (5, .i i5_0), (9, .b (decide (i5_0 < (l1.length : Int))))] [] rfl rfl rfl ?_
  refine AW2_if (p := i5_0 < (l1.length : Int)) rfl (fun h1 => ?_) (fun h1 => ?_)
  ·replace H := ite_then h1 H
   refine as2 [(0, .p (AV.b8 c0)), (1, .t l1), (5, .i i5_0)] [] rfl rfl rfl ?_
   refine AW2_skip ?_
   refine AW2_seq ?_
   refine AW2_block ?_
   refine sg [0, 1, 2, 3, 4] rfl ?_
   refine rp rfl rfl (p_move rfl rfl) ?_
   refine rp rfl rfl (p_move rfl rfl) ?_
   refine chkK H fun h2 H => ?_
   refine rp rfl rfl (p_ixt rfl Tryd.underlying9 rfl rfl (ixe h2) (lrd_get (ixn h2))) ?_
   refine rp rfl rfl (p_move rfl rfl) ?_
   refine rp rfl rfl (p_u8eq (a := (lrd l1 i5_0.toNat)) (b := c0) rfl rfl rfl) ?_
   refine rz [(0, .p (AV.b8 c0)), (1, .t l1), (5, .i i5_0), (16, .b (decide ((lrd l1 i5_0.toNat) = c0)))] [] rfl rfl rfl ?_
   refine AW2_if (p := (lrd l1 i5_0.toNat) = c0) rfl (fun h3 => ?_) (fun h3 => ?_)
   ·replace H := ite_then h3 H
    refine sg [0] rfl ?_
    refine rp rfl rfl (p_asg rfl rfl) ?_
    refine rz [(4, .b true)] [] rfl rfl rfl ?_
    refine AW2_ret ?_
    have hz := some_elim H
    subst hz
    exact ⟨rfl, ⟨res_tmp (.same _), trivial⟩, trivial⟩
   ·replace H := ite_else h3 H
    refine as2 [(0, .p (AV.b8 c0)), (1, .t l1), (5, .i i5_0)] [] rfl rfl rfl ?_
    refine AW2_skip ?_
    refine AW2_reg [0, 1, 2] rfl ?_
    refine rp rfl rfl (p_move rfl rfl) ?_
    refine rp rfl rfl (p_bin rfl rfl rfl rfl) ?_
    refine rp rfl rfl (p_asg rfl rfl) ?_
    refine rz [(0, .p (AV.b8 c0)), (1, .t l1), (5, .i (w64 (i5_0 + (1 : Int))))] [] rfl rfl rfl ?_
    have hz := some_elim H
    subst hz
    exact ⟨rfl, rfl⟩
  ·replace H := ite_else h1 H
   refine as2 [] [] rfl rfl rfl ?_
   refine AW2_exit ?_
   refine thenQ2_exit ?_
   have hz := some_elim H
   subst hz
   exact ⟨rfl, rfl⟩
 ·rcases o'4 with y'5 | y'6
  ·obtain ⟨rfl, hs⟩ := hs
   refine ⟨by simp, ?_⟩
   have hz := some_elim H
   subst hz
   exact ⟨hs.1, hs.2⟩
  ·obtain ⟨rfl, rfl⟩ := hs
   refine ⟨by simp, ?_⟩
   refine blockQ2_exit ?_
   refine sg [0] rfl ?_
   refine rp rfl rfl (p_asg rfl rfl) ?_
   refine rz [(4, .b false)] [] rfl rfl rfl ?_
   refine AW2_ret ?_
   have hz := some_elim H
   subst hz
   exact ⟨⟨res_tmp (.same _), trivial⟩, trivial⟩

/-! chirographref.reach -/
noncomputable def g_ref_reach_l0 (s0 : List UInt8) (l1 : List UInt8) : Int → Option (Int ⊕ (Int))
  | n5_0 => ((if n5_0 < (s0.length : Int) then if 0 ≤ n5_0 ∧ n5_0 < (s0.length : Int) then (g_ref_among (lrd s0 n5_0.toNat) l1).bind fun r'1 => some r'1 else none else some false)).bind fun g'2 => (if g'2 = true then some (.inl (w64 (n5_0 + (1 : Int)))) else some (.inr n5_0))
noncomputable def g_ref_reach (s0 : List UInt8) (l1 : List UInt8) : Option (Int) :=
  (loopO (g_ref_reach_l0 s0 l1) (0 : Int)).bind fun y'6 => some y'6
set_option maxHeartbeats 4000000 in
set_option maxRecDepth 100000 in
theorem g_ref_reach_ac {s0 : List UInt8} {l1 : List UInt8} {r : Int} (H : g_ref_reach s0 l1 = some r) : ACp Tryd.prog 34 [(AV.txt s0), (AV.txt l1)] (AV.int r) := by
 refine ACp_of (AC2_of_body (vs := [.i r]) Tryd.func34 rfl rfl (Nat.le_of_ble_eq_true rfl) rfl ?_) (fun _ => .same _)
 unfold g_ref_reach at H
 refine as2 [(0, .t s0), (1, .t l1)] [] rfl rfl rfl ?_
 refine sg [0] rfl ?_
 refine rp rfl rfl (p_asg rfl rfl) ?_
 refine rz [(0, .t s0), (1, .t l1)] [] rfl rfl rfl ?_
 refine sg [0] rfl ?_
 refine rp rfl rfl (p_asg rfl rfl) ?_
 refine rz [(0, .t s0), (1, .t l1), (5, .i (0 : Int))] [] rfl rfl rfl ?_
 refine AW2_seq ?_
 refine AW2_block ?_
 refine as2 [(0, .t s0), (1, .t l1), (5, .i (0 : Int))] [] rfl rfl rfl ?_
 refine bindK H fun y'6 h8 H => ?_
 refine AW2_loopO (fun a'3 : Int => (⟨[(0, .t s0), (1, .t l1), (5, .i a'3)], [], 20⟩ : TS)) (fun (y'4 : Int) e s' => e = Go.Exit.exit 0 ∧ s' = (⟨[(5, .i y'4)], [], 20⟩ : TS)) h8 rfl (fun n5_0 x hx => ?_) (fun e s' hs => ?_)
 ·clear H
  have H := hx
  clear hx
  unfold g_ref_reach_l0 at H
  refine AW2_seq ?_
  refine AW2_seq ?_
  refine bindK H fun g'2 h5 H => ?_
  refine AW2_mid (⟨[(0, .t s0), (1, .t l1), (5, .i n5_0), (16, .b g'2)], [], 20⟩ : TS) ?_ ?_
  ·clear H
   have H := h5
   clear h5
   refine AW2_reg [0, 1, 2, 3, 4, 5, 6, 7, 8, 9, 10] rfl ?_
   refine rp rfl rfl (p_move rfl rfl) ?_
   refine rp rfl rfl (p_move rfl rfl) ?_
   refine rp rfl rfl (p_lent rfl Tryd.underlying9 rfl) ?_
   refine rp rfl rfl (p_bin rfl rfl rfl rfl) ?_
   refine rp rfl rfl (p_move rfl rfl) ?_
   refine (Classical.em (n5_0 < (s0.length : Int))).elim (fun h2 => ?_) (fun h2 => ?_)
   ·replace H := ite_then h2 H
    refine r_on rfl rfl rfl rfl (decide_eq_true h2) rfl (PureD.opD (p_move rfl rfl)) ?_
    refine r_on rfl rfl rfl rfl (decide_eq_true h2) rfl (PureD.opD (p_move rfl rfl)) ?_
    refine chkK H fun h3 H => ?_
    refine r_on rfl rfl rfl rfl (decide_eq_true h2) rfl (PureD.opD (p_ixt rfl Tryd.underlying9 rfl rfl (ixe h3) (lrd_get (ixn h3)))) ?_
    refine r_on rfl rfl rfl rfl (decide_eq_true h2) rfl (PureD.opD (p_move rfl rfl)) ?_
    refine bindK H fun r'1 h4 H => ?_
    refine r_on rfl rfl rfl rfl (decide_eq_true h2) rfl (PureD.opD (p_callp rfl rfl rfl Tryd.func56 rfl rfl (g_ref_among_ac h4) ⟨rfl, rfl, trivial⟩)) ?_
    refine rp rfl rfl (p_pkt rfl rfl (decide_eq_true h2) (.same _)) ?_
    refine rs [(0, .t s0), (1, .t l1), (5, .i n5_0), (16, .b r'1)] [] rfl rfl rfl ?_
    have hz := some_elim H
    subst hz
    exact RunW_nil rfl
   ·replace H := ite_else h2 H
    refine r_off rfl rfl rfl rfl (decide_eq_false h2) rfl rfl ?_
    refine r_off rfl rfl rfl rfl (decide_eq_false h2) rfl rfl ?_
    refine r_off rfl rfl rfl rfl (decide_eq_false h2) rfl rfl ?_
    refine r_off rfl rfl rfl rfl (decide_eq_false h2) rfl rfl ?_
    refine r_off rfl rfl rfl rfl (decide_eq_false h2) rfl rfl ?_
    refine rp rfl rfl (p_pkf rfl rfl (decide_eq_false h2) (.same _)) ?_
    refine rs [(0, .t s0), (1, .t l1), (5, .i n5_0), (16, .b false)] [] rfl rfl rfl ?_
    have hz := some_elim H
    subst hz
    exact RunW_nil rfl
  ·refine AW2_cond rfl (fun h6 => ?_) (fun h6 => ?_)
   ·replace H := ite_then h6 H
    refine as2 [(0, .t s0), (1, .t l1), (5, .i n5_0)] [] rfl rfl rfl ?_
    refine AW2_skip ?_
    refine AW2_block ?_
    refine AW2_reg [0, 1, 2] rfl ?_
    refine rp rfl rfl (p_move rfl rfl) ?_
    refine rp rfl rfl (p_bin rfl rfl rfl rfl) ?_
    refine rp rfl rfl (p_asg rfl rfl) ?_
    refine rz [(0, .t s0), (1, .t l1), (5, .i (w64 (n5_0 + (1 : Int))))] [] rfl rfl rfl ?_
    have hz := some_elim H
    subst hz
    exact ⟨rfl, rfl⟩
   ·replace H := ite_else (ne_true h6) H
    refine as2 [(5, .i n5_0)] [] rfl rfl rfl ?_
    refine AW2_exit ?_
    refine thenQ2_exit ?_
    have hz := some_elim H
    subst hz
    exact ⟨rfl, rfl⟩
 ·obtain ⟨rfl, rfl⟩ := hs
  refine ⟨by simp, ?_⟩
  refine blockQ2_exit ?_
  refine sg [0, 1] rfl ?_
  refine rp rfl rfl (p_move rfl rfl) ?_
  refine rp rfl rfl (p_asg rfl rfl) ?_
  refine rz [(4, .i y'6)] [] rfl rfl rfl ?_
  refine AW2_ret ?_
  have hz := some_elim H
  subst hz
  exact ⟨⟨res_tmp (.same _), trivial⟩, trivial⟩

/-! chirographref.isName -/
def g_ref_isName_t0 : List UInt8 := [97, 98, 99, 100, 101, 102, 103, 104, 105, 106, 107, 108, 109, 110, 111, 112, 113, 114, 115, 116, 117, 118, 119, 120, 121, 122]
def g_ref_isName_t1 : List UInt8 := [97, 98, 99, 100, 101, 102, 103, 104, 105, 106, 107, 108, 109, 110, 111, 112, 113, 114, 115, 116, 117, 118, 119, 120, 121, 122, 48, 49, 50, 51, 52, 53, 54, 55, 56, 57, 95]
noncomputable def g_ref_isName (s0 : List UInt8) : Option (Bool) :=
  ((if s0 ≠ [] then if 0 < s0.length then (g_ref_among (lrd s0 0) g_ref_isName_t0).bind fun r'1 => (if r'1 = true then (g_ref_reach s0 g_ref_isName_t1).bind fun r'2 => some (decide (r'2 = (s0.length : Int))) else some false) else none else some false)).bind fun g'3 => some g'3
set_option maxHeartbeats 4000000 in
set_option maxRecDepth 100000 in
theorem g_ref_isName_ac {s0 : List UInt8} {r : Bool} (H : g_ref_isName s0 = some r) : ACp Tryd.prog 33 [(AV.txt s0)] (AV.bool r) := by
 refine ACp_of (AC2_of_body (vs := [.b r]) Tryd.func33 rfl rfl (Nat.le_of_ble_eq_true rfl) rfl ?_) (fun _ => .same _)
 unfold g_ref_isName at H
 refine as2 [(0, .t s0)] [] rfl rfl rfl ?_
 refine sg [0] rfl ?_
 refine rp rfl rfl (p_asg rfl rfl) ?_
 refine rz [(0, .t s0)] [] rfl rfl rfl ?_
 refine AW2_seq ?_
 refine bindK H fun g'3 h7 H => ?_
 refine AW2_mid (⟨[(2, .b g'3)], [], 17⟩ : TS) ?_ ?_
 ·clear H
  have H := h7
  clear h7
  refine AW2_reg [0, 1, 2, 3, 4, 5, 6, 7, 8, 9, 10, 11, 12, 13, 14] rfl ?_
  refine rp rfl rfl (p_move rfl rfl) ?_
  refine rp rfl rfl (p_sne rfl rfl rfl) ?_
  refine rp rfl rfl (p_move rfl rfl) ?_
  refine (Classical.em (s0 ≠ [])).elim (fun h2 => ?_) (fun h2 => ?_)
  ·replace H := ite_then h2 H
   refine r_on rfl rfl rfl rfl (decide_eq_true h2) rfl (PureD.opD (p_move rfl rfl)) ?_
   refine chkK H fun h3 H => ?_
   refine r_on rfl rfl rfl rfl (decide_eq_true h2) rfl (PureD.opD (p_ixt rfl Tryd.underlying9 rfl rfl rfl (lrd_get h3))) ?_
   refine bindK H fun r'1 h4 H => ?_
   refine r_on rfl rfl rfl rfl (decide_eq_true h2) rfl (PureD.opD (p_callp rfl rfl rfl Tryd.func56 rfl rfl (g_ref_among_ac h4) ⟨rfl, by kernel_rfl, trivial⟩)) ?_
   refine rp rfl rfl (p_pkt rfl rfl (decide_eq_true h2) (.same _)) ?_
   refine rp rfl rfl (p_move rfl rfl) ?_
   refine (Classical.em (r'1 = true)).elim (fun h5 => ?_) (fun h5 => ?_)
   ·replace H := ite_then h5 H
    refine rn rfl rfl rfl rfl h5 rfl (p_move rfl rfl) ?_
    refine bindK H fun r'2 h6 H => ?_
    refine rn rfl rfl rfl rfl h5 rfl (p_callp rfl rfl rfl Tryd.func34 rfl rfl (g_ref_reach_ac h6) ⟨rfl, by kernel_rfl, trivial⟩) ?_
    refine rn rfl rfl rfl rfl h5 rfl (p_move rfl rfl) ?_
    refine rn rfl rfl rfl rfl h5 rfl (p_lent rfl Tryd.underlying9 rfl) ?_
    refine rn rfl rfl rfl rfl h5 rfl (p_ieq rfl rfl rfl) ?_
    refine rp rfl rfl (p_pkt rfl rfl h5 (.same _)) ?_
    refine rp rfl rfl (p_asg rfl rfl) ?_
    refine rs [(2, .b (decide (r'2 = (s0.length : Int))))] [] rfl rfl rfl ?_
    have hz := some_elim H
    subst hz
    exact RunW_nil rfl
   ·replace H := ite_else h5 H
    refine r_off rfl rfl rfl rfl (bfalse h5) rfl rfl ?_
    refine r_off rfl rfl rfl rfl (bfalse h5) rfl rfl ?_
    refine r_off rfl rfl rfl rfl (bfalse h5) rfl rfl ?_
    refine r_off rfl rfl rfl rfl (bfalse h5) rfl rfl ?_
    refine r_off rfl rfl rfl rfl (bfalse h5) rfl rfl ?_
    refine rp rfl rfl (p_pkf rfl rfl (bfalse h5) (.same _)) ?_
    refine rp rfl rfl (p_asg rfl rfl) ?_
    refine rs [(2, .b false)] [] rfl rfl rfl ?_
    have hz := some_elim H
    subst hz
    exact RunW_nil rfl
  ·replace H := ite_else h2 H
   refine r_off rfl rfl rfl rfl (decide_eq_false h2) rfl rfl ?_
   refine r_off rfl rfl rfl rfl (decide_eq_false h2) rfl rfl ?_
   refine r_off rfl rfl rfl rfl (decide_eq_false h2) rfl rfl ?_
   refine rp rfl rfl (p_pkf rfl rfl (decide_eq_false h2) (.same _)) ?_
   refine rp rfl rfl (p_move rfl rfl) ?_
   refine r_off rfl rfl rfl rfl (bfalse (by decide)) rfl rfl ?_
   refine r_off rfl rfl rfl rfl (bfalse (by decide)) rfl rfl ?_
   refine r_off rfl rfl rfl rfl (bfalse (by decide)) rfl rfl ?_
   refine r_off rfl rfl rfl rfl (bfalse (by decide)) rfl rfl ?_
   refine r_off rfl rfl rfl rfl (bfalse (by decide)) rfl rfl ?_
   refine rp rfl rfl (p_pkf rfl rfl (bfalse (by decide)) (.same _)) ?_
   refine rp rfl rfl (p_asg rfl rfl) ?_
   refine rs [(2, .b false)] [] rfl rfl rfl ?_
   have hz := some_elim H
   subst hz
   exact RunW_nil rfl
 ·refine AW2_ret ?_
  have hz := some_elim H
  subst hz
  exact ⟨⟨res_tmp (.same _), trivial⟩, trivial⟩

/-! chirographref.columnAt -/
noncomputable def g_ref_columnAt_l0 (cols0 : List GColumn) (name1 : List UInt8) : Int → Option (Int ⊕ (Int ⊕ Unit))
  | i5_0 => (if i5_0 ≥ (0 : Int) then if 0 ≤ i5_0 ∧ i5_0 < (cols0.length : Int) then (if (lrd cols0 i5_0.toNat).Name = name1 then some (.inr (.inl i5_0)) else some (.inl (w64 (i5_0 - (1 : Int))))) else none else some (.inr (.inr ())))
noncomputable def g_ref_columnAt (cols0 : List GColumn) (name1 : List UInt8) : Option (Int) :=
  (loopO (g_ref_columnAt_l0 cols0 name1) (w64 ((cols0.length : Int) - (1 : Int)))).bind fun o'4 => match o'4 with | .inl y'5 => some y'5 | .inr (y'6) => some (-1 : Int)
set_option maxHeartbeats 4000000 in
set_option maxRecDepth 100000 in
theorem g_ref_columnAt_ac {cols0 : List GColumn} {name1 : List UInt8} {r : Int} (H : g_ref_columnAt cols0 name1 = some r) : ACp Tryd.prog 41 [((fun q : List GColumn => AV.lst (q.flatMap GColumn.cs) q.length) cols0), (AV.txt name1)] (AV.int r) := by
 refine ACp_of (AC2_of_body (vs := [.i r]) Tryd.func41 rfl rfl (Nat.le_of_ble_eq_true rfl) rfl ?_) (fun _ => .same _)
 unfold g_ref_columnAt at H
 refine as2 [(0, .p ((fun q : List GColumn => AV.lst (q.flatMap GColumn.cs) q.length) cols0)), (1, .t name1)] [] rfl rfl rfl ?_
 refine sg [0] rfl ?_
 refine rp rfl rfl (p_asg rfl rfl) ?_
 refine rz [(0, .p ((fun q : List GColumn => AV.lst (q.flatMap GColumn.cs) q.length) cols0)), (1, .t name1)] [] rfl rfl rfl ?_
 refine AW2_seq ?_
 refine sg [0, 1, 2, 3] rfl ?_
 refine rp rfl rfl (p_move rfl rfl) ?_
 refine rp rfl rfl (p_lenl rfl Tryd.underlying35 rfl rfl) ?_
 refine rp rfl rfl (p_bin rfl rfl rfl rfl) ?_
 refine rp rfl rfl (p_asg rfl rfl) ?_
 refine rz [(0, .p ((fun q : List GColumn => AV.lst (q.flatMap GColumn.cs) q.length) cols0)), (1, .t name1), (5, .i (w64 ((cols0.length : Int) - (1 : Int))))] [] rfl rfl rfl ?_
 refine AW2_block ?_
 refine as2 [(0, .p ((fun q : List GColumn => AV.lst (q.flatMap GColumn.cs) q.length) cols0)), (1, .t name1), (5, .i (w64 ((cols0.length : Int) - (1 : Int))))] [] rfl rfl rfl ?_
 refine bindK H fun o'4 h4 H => ?_
 refine AW2_loopO (fun a'1 : Int => (⟨[(0, .p ((fun q : List GColumn => AV.lst (q.flatMap GColumn.cs) q.length) cols0)), (1, .t name1), (5, .i a'1)], [], 21⟩ : TS)) (fun (o : Int ⊕ Unit) e s' => match o with | .inl y'2 => e = Go.Exit.ret ∧ ResAll Tryd.prog s' [ResultVar.tmp 4] [.i y'2] ∧ HFits s' [] | .inr (y'3) => e = Go.Exit.exit 0 ∧ s' = (⟨[], [], 21⟩ : TS)) h4 rfl (fun i5_0 x hx => ?_) (fun e s' hs => ?_)
 ·clear H
  have H := hx
  clear hx
  unfold g_ref_columnAt_l0 at H
  refine AW2_seq ?_
  refine sg [0, 1] rfl ?_
  refine rp rfl rfl (p_move rfl rfl) ?_
  refine rp rfl rfl (p_bin rfl rfl rfl rfl) ?_
  refine rz [(0, .p ((fun q : List GColumn => AV.lst (q.flatMap GColumn.cs) q.length) cols0)), (1, .t name1), (5, .i i5_0), (10, .b (decide (i5_0 ≥ (0 : Int))))] [] rfl rfl rfl ?_
  refine AW2_if (p := i5_0 ≥ (0 : Int)) rfl (fun h1 => ?_) (fun h1 => ?_)
  ·replace H := ite_then h1 H
   refine as2 [(0, .p ((fun q : List GColumn => AV.lst (q.flatMap GColumn.cs) q.length) cols0)), (1, .t name1), (5, .i i5_0)] [] rfl rfl rfl ?_
   refine AW2_skip ?_
   refine AW2_seq ?_
   refine AW2_block ?_
   refine sg [0, 1, 2, 3, 4, 5, 6] rfl ?_
   refine rp rfl rfl (p_move rfl rfl) ?_
   refine rp rfl rfl (p_move rfl rfl) ?_
   refine chkK H fun h2 H => ?_
   refine rp rfl rfl (u_ixl rfl rfl Tryd.underlying35 in_68 rfl rfl (ixe h2) (ixn h2) (fne (fun x => (GColumn.len x)) (by decide) (ixn h2))) ?_
   refine rp rfl rfl (u_far rfl rfl Tryd.underlying68 rfl in_9 (Nat.succ_ne_zero _) rfl) ?_
   refine rp rfl rfl (u_ld rfl rfl Tryd.underlying9 rfl rfl ((Sub.fm default (fun x => (GColumn.len x)) (ixn h2)).trans (GColumn.sub0 (lrd cols0 i5_0.toNat)))) ?_
   refine rp rfl rfl (p_move rfl rfl) ?_
   refine rp rfl rfl (p_seq rfl rfl rfl) ?_
   refine rz [(0, .p ((fun q : List GColumn => AV.lst (q.flatMap GColumn.cs) q.length) cols0)), (1, .t name1), (5, .i i5_0), (19, .b (decide ((lrd cols0 i5_0.toNat).Name = name1)))] [] rfl rfl rfl ?_
   refine AW2_if (p := (lrd cols0 i5_0.toNat).Name = name1) rfl (fun h3 => ?_) (fun h3 => ?_)
   ·replace H := ite_then h3 H
    refine sg [0, 1] rfl ?_
    refine rp rfl rfl (p_move rfl rfl) ?_
    refine rp rfl rfl (p_asg rfl rfl) ?_
    refine rz [(4, .i i5_0)] [] rfl rfl rfl ?_
    refine AW2_ret ?_
    have hz := some_elim H
    subst hz
    exact ⟨rfl, ⟨res_tmp (.same _), trivial⟩, trivial⟩
   ·replace H := ite_else h3 H
    refine as2 [(0, .p ((fun q : List GColumn => AV.lst (q.flatMap GColumn.cs) q.length) cols0)), (1, .t name1), (5, .i i5_0)] [] rfl rfl rfl ?_
    refine AW2_skip ?_
    refine AW2_reg [0, 1, 2] rfl ?_
    refine rp rfl rfl (p_move rfl rfl) ?_
    refine rp rfl rfl (p_bin rfl rfl rfl rfl) ?_
    refine rp rfl rfl (p_asg rfl rfl) ?_
    refine rz [(0, .p ((fun q : List GColumn => AV.lst (q.flatMap GColumn.cs) q.length) cols0)), (1, .t name1), (5, .i (w64 (i5_0 - (1 : Int))))] [] rfl rfl rfl ?_
    have hz := some_elim H
    subst hz
    exact ⟨rfl, rfl⟩
  ·replace H := ite_else h1 H
   refine as2 [] [] rfl rfl rfl ?_
   refine AW2_exit ?_
   refine thenQ2_exit ?_
   have hz := some_elim H
   subst hz
   exact ⟨rfl, rfl⟩
 ·rcases o'4 with y'5 | y'6
  ·obtain ⟨rfl, hs⟩ := hs
   refine ⟨by simp, ?_⟩
   have hz := some_elim H
   subst hz
   exact ⟨hs.1, hs.2⟩
  ·obtain ⟨rfl, rfl⟩ := hs
   refine ⟨by simp, ?_⟩
   refine blockQ2_exit ?_
   refine sg [0] rfl ?_
   refine rp rfl rfl (p_asg rfl rfl) ?_
   refine rz [(4, .i (-1 : Int))] [] rfl rfl rfl ?_
   refine AW2_ret ?_
   have hz := some_elim H
   subst hz
   exact ⟨⟨res_tmp (.same _), trivial⟩, trivial⟩

/-! chirographref.ColumnsFault -/
def g_ref_ColumnsFault_r10 : List (List (Nat × Option Nat)) := [[(0, none)], [(3, none)], [(46, some 0), (47, some 1)], [(4, none)], [(49, some 3)]]
def g_ref_ColumnsFault_r10c : List (List Nat) := [[], [], [0, 1], [], [3], [0, 1, 2, 3, 4], [0, 1, 2, 3, 4, 5], [0, 1, 2, 3, 4, 5, 6]]
noncomputable def g_ref_ColumnsFault_l0 (cols0 : List GColumn) : Int → Option (Int ⊕ (Int ⊕ Unit))
  | t10_0 => (if t10_0 < (cols0.length : Int) then if 0 ≤ t10_0 ∧ t10_0 < (cols0.length : Int) then (g_ref_isName ((lrd cols0 t10_0.toNat).Name)).bind fun r'1 => (if ((!r'1) = true) ∨ ((((lrd cols0 t10_0.toNat).Name).length : Int) > (8 : Int)) then some (.inr (.inl (3 : Int))) else letO (decide (((((lrd cols0 t10_0.toNat).Kind ≠ (1 : Int)) ∧ ((lrd cols0 t10_0.toNat).Kind ≠ (2 : Int))) ∧ ((lrd cols0 t10_0.toNat).Kind ≠ (3 : Int))) ∧ ((lrd cols0 t10_0.toNat).Kind ≠ (4 : Int)))) fun t26'2 => (if t26'2 = true then some (.inr (.inl (2 : Int))) else if 0 ≤ t10_0 ∧ t10_0 ≤ (cols0.length : Int) then (g_ref_columnAt (cut cols0 (0 : Int) t10_0) ((lrd cols0 t10_0.toNat).Name)).bind fun r'3 => (if r'3 ≥ (0 : Int) then some (.inr (.inl (8 : Int))) else some (.inl (w64 (t10_0 + (1 : Int))))) else none)) else none else some (.inr (.inr ())))
noncomputable def g_ref_ColumnsFault (cols0 : List GColumn) : Option (Int) :=
  (if (cols0.length : Int) > (5 : Int) then some (1 : Int) else (loopO (g_ref_ColumnsFault_l0 cols0) (0 : Int)).bind fun o'7 => match o'7 with | .inl y'8 => some y'8 | .inr (y'9) => some (0 : Int))
set_option maxHeartbeats 4000000 in
set_option maxRecDepth 100000 in
theorem g_ref_ColumnsFault_ac {cols0 : List GColumn} {r : Int} (H : g_ref_ColumnsFault cols0 = some r) : ACp Tryd.prog 15 [((fun q : List GColumn => AV.lst (q.flatMap GColumn.cs) q.length) cols0)] (AV.int r) := by
 refine ACp_of (AC2_of_body (vs := [.i r]) Tryd.func15 rfl rfl (Nat.le_of_ble_eq_true rfl) rfl ?_) (fun _ => .same _)
 unfold g_ref_ColumnsFault at H
 refine as2 [(0, .p ((fun q : List GColumn => AV.lst (q.flatMap GColumn.cs) q.length) cols0))] [] rfl rfl rfl ?_
 refine sg [0] rfl ?_
 refine rp rfl rfl (p_asg rfl rfl) ?_
 refine rz [(0, .p ((fun q : List GColumn => AV.lst (q.flatMap GColumn.cs) q.length) cols0))] [] rfl rfl rfl ?_
 refine AW2_seq ?_
 refine sg [0, 1, 2] rfl ?_
 refine rp rfl rfl (p_move rfl rfl) ?_
 refine rp rfl rfl (p_lenl rfl Tryd.underlying35 rfl rfl) ?_
 refine rp rfl rfl (p_bin rfl rfl rfl rfl) ?_
 refine rz [(0, .p ((fun q : List GColumn => AV.lst (q.flatMap GColumn.cs) q.length) cols0)), (7, .b (decide ((cols0.length : Int) > (5 : Int))))] [] rfl rfl rfl ?_
 refine AW2_if (p := (cols0.length : Int) > (5 : Int)) rfl (fun h1 => ?_) (fun h1 => ?_)
 ·replace H := ite_then h1 H
  refine sg [0] rfl ?_
  refine rp rfl rfl (p_asg rfl rfl) ?_
  refine rz [(2, .i (1 : Int))] [] rfl rfl rfl ?_
  refine AW2_ret ?_
  have hz := some_elim H
  subst hz
  exact ⟨⟨res_tmp (.same _), trivial⟩, trivial⟩
 ·replace H := ite_else h1 H
  refine as2 [(0, .p ((fun q : List GColumn => AV.lst (q.flatMap GColumn.cs) q.length) cols0))] [] rfl rfl rfl ?_
  refine AW2_skip ?_
  refine AW2_seq ?_
  refine sg [0, 1, 2] rfl ?_
  refine rp rfl rfl (p_move rfl rfl) ?_
  refine rp rfl rfl (p_lenl rfl Tryd.underlying35 rfl rfl) ?_
  refine rp rfl rfl (p_move rfl rfl) ?_
  refine rz [(0, .p ((fun q : List GColumn => AV.lst (q.flatMap GColumn.cs) q.length) cols0)), (8, .p ((fun q : List GColumn => AV.lst (q.flatMap GColumn.cs) q.length) cols0)), (9, .i (cols0.length : Int)), (10, .i (0 : Int))] [] rfl rfl rfl ?_
  refine AW2_block ?_
  refine as2 [(0, .p ((fun q : List GColumn => AV.lst (q.flatMap GColumn.cs) q.length) cols0)), (8, .p ((fun q : List GColumn => AV.lst (q.flatMap GColumn.cs) q.length) cols0)), (9, .i (cols0.length : Int)), (10, .i (0 : Int))] [] rfl rfl rfl ?_
  refine bindK H fun o'7 h14 H => ?_
  refine AW2_loopO (fun a'4 : Int => (⟨[(0, .p ((fun q : List GColumn => AV.lst (q.flatMap GColumn.cs) q.length) cols0)), (8, .p ((fun q : List GColumn => AV.lst (q.flatMap GColumn.cs) q.length) cols0)), (9, .i (cols0.length : Int)), (10, .i a'4)], [], 54⟩ : TS)) (fun (o : Int ⊕ Unit) e s' => match o with | .inl y'5 => e = Go.Exit.ret ∧ ResAll Tryd.prog s' [ResultVar.tmp 2] [.i y'5] ∧ HFits s' [] | .inr (y'6) => e = Go.Exit.exit 0 ∧ s' = (⟨[], [], 54⟩ : TS)) h14 rfl (fun t10_0 x hx => ?_) (fun e s' hs => ?_)
  ·clear H
   have H := hx
   clear hx
   unfold g_ref_ColumnsFault_l0 at H
   refine sg [0] rfl ?_
   refine rp rfl rfl (p_bin rfl rfl rfl rfl) ?_
   refine rz [(0, .p ((fun q : List GColumn => AV.lst (q.flatMap GColumn.cs) q.length) cols0)), (8, .p ((fun q : List GColumn => AV.lst (q.flatMap GColumn.cs) q.length) cols0)), (9, .i (cols0.length : Int)), (10, .i t10_0), (11, .b (decide (t10_0 < (cols0.length : Int))))] [] rfl rfl rfl ?_
   refine AW2_seq ?_
   refine AW2_if (p := t10_0 < (cols0.length : Int)) rfl (fun h2 => ?_) (fun h2 => ?_)
   ·replace H := ite_then h2 H
    refine as2 [(0, .p ((fun q : List GColumn => AV.lst (q.flatMap GColumn.cs) q.length) cols0)), (8, .p ((fun q : List GColumn => AV.lst (q.flatMap GColumn.cs) q.length) cols0)), (9, .i (cols0.length : Int)), (10, .i t10_0)] [] rfl rfl rfl ?_
    refine AW2_skip ?_
    refine AW2_seq ?_
    refine AW2_block ?_
    refine sg [0, 1, 2, 3, 4, 5] rfl ?_
    refine rp rfl rfl (p_move rfl rfl) ?_
    refine chkK H fun h3 H => ?_
    refine rp rfl rfl (u_ixl rfl rfl Tryd.underlying35 in_68 rfl rfl (ixe h3) (ixn h3) (fne (fun x => (GColumn.len x)) (by decide) (ixn h3))) ?_
    refine rp rfl rfl (u_lda rfl rfl Tryd.underlying68 rfl in_68 rfl (Nat.succ_pos _) (Sub.fm default (fun x => (GColumn.len x)) (ixn h3)) (GColumn.len (lrd cols0 t10_0.toNat))) ?_
    refine r_op rfl rfl (MakeD.opD (u_alloc 4 rfl in_68 one_68 zc_68) rfl rfl rfl rfl) ?_
    refine rp rfl rfl (p_asg rfl rfl) ?_
    refine r_op rfl rfl (u_st rfl rfl rfl rfl rfl in_68 (GColumn.len (lrd cols0 t10_0.toNat)) (ne_of_lt (n := 0) (Nat.lt_of_lt_of_eq (by decide) (Eq.symm (GColumn.len GColumn.zero)))) (Upd.refl ((GColumn.len (lrd cols0 t10_0.toNat)).trans (GColumn.len GColumn.zero).symm))) ?_
    refine rz [(0, .p ((fun q : List GColumn => AV.lst (q.flatMap GColumn.cs) q.length) cols0)), (3, .i t10_0), (4, .q 4 (0)), (8, .p ((fun q : List GColumn => AV.lst (q.flatMap GColumn.cs) q.length) cols0)), (9, .i (cols0.length : Int)), (10, .i t10_0)] [(4, .pure (GColumn.cs (lrd cols0 t10_0.toNat)))] rfl rfl rfl ?_
    refine AW2_block ?_
    refine AW2_seq ?_
    refine bindK H fun r'1 h4 H => ?_
    refine AW2_mid (⟨[(0, .p ((fun q : List GColumn => AV.lst (q.flatMap GColumn.cs) q.length) cols0)), (3, .i t10_0), (4, .q 4 (0)), (8, .p ((fun q : List GColumn => AV.lst (q.flatMap GColumn.cs) q.length) cols0)), (9, .i (cols0.length : Int)), (10, .i t10_0), (15, .b (decide (((!r'1) = true) ∨ ((((lrd cols0 t10_0.toNat).Name).length : Int) > (8 : Int)))))], [(4, .pure (GColumn.cs (lrd cols0 t10_0.toNat)))], 54⟩ : TS) ?_ ?_
    ·refine AW2_reg [0, 1, 2, 3, 4, 5, 6, 7, 8, 9, 10] rfl ?_
     refine rp rfl rfl (u_fa rfl rfl Tryd.underlying68 rfl in_9 (Nat.succ_ne_zero _) rfl rfl (ne_of_lt (n := 0) (Nat.lt_of_lt_of_eq (by decide) (Eq.symm (GColumn.len (lrd cols0 t10_0.toNat)))))) ?_
     refine rp rfl rfl (u_ld rfl rfl Tryd.underlying9 rfl rfl ((Sub.refl _).trans (GColumn.sub0 (lrd cols0 t10_0.toNat)))) ?_
     refine rp rfl rfl (p_callp rfl rfl rfl Tryd.func33 rfl rfl (g_ref_isName_ac h4) ⟨rfl, trivial⟩) ?_
     refine rp rfl rfl (p_not rfl rfl) ?_
     refine rp rfl rfl (p_move rfl rfl) ?_
     refine (Classical.em ((!r'1) = true)).elim (fun h5 => ?_) (fun h5 => ?_)
     ·refine r_off rfl rfl rfl rfl h5 rfl rfl ?_
      refine r_off rfl rfl rfl rfl h5 rfl rfl ?_
      refine r_off rfl rfl rfl rfl h5 rfl rfl ?_
      refine r_off rfl rfl rfl rfl h5 rfl rfl ?_
      refine rp rfl rfl (p_pkt rfl rfl h5 (tb (decide_eq_true (p := ((!r'1) = true) ∨ ((((lrd cols0 t10_0.toNat).Name).length : Int) > (8 : Int))) (Or.inl h5)).symm)) ?_
      refine rp rfl rfl (p_asg rfl rfl) ?_
      refine rs [(0, .p ((fun q : List GColumn => AV.lst (q.flatMap GColumn.cs) q.length) cols0)), (3, .i t10_0), (4, .q 4 (0)), (8, .p ((fun q : List GColumn => AV.lst (q.flatMap GColumn.cs) q.length) cols0)), (9, .i (cols0.length : Int)), (10, .i t10_0), (15, .b (decide (((!r'1) = true) ∨ ((((lrd cols0 t10_0.toNat).Name).length : Int) > (8 : Int)))))] [(4, .pure (GColumn.cs (lrd cols0 t10_0.toNat)))] rfl rfl rfl ?_
      exact RunW_nil rfl
     ·refine r_on rfl rfl rfl rfl (bfalse h5) rfl (PureD.opD (u_fa rfl rfl Tryd.underlying68 rfl in_9 (Nat.succ_ne_zero _) rfl rfl (ne_of_lt (n := 0) (Nat.lt_of_lt_of_eq (by decide) (Eq.symm (GColumn.len (lrd cols0 t10_0.toNat))))))) ?_
      refine r_on rfl rfl rfl rfl (bfalse h5) rfl (PureD.opD (u_ld rfl rfl Tryd.underlying9 rfl rfl ((Sub.refl _).trans (GColumn.sub0 (lrd cols0 t10_0.toNat))))) ?_
      refine r_on rfl rfl rfl rfl (bfalse h5) rfl (PureD.opD (p_lent rfl Tryd.underlying9 rfl)) ?_
      refine r_on rfl rfl rfl rfl (bfalse h5) rfl (PureD.opD (p_bin rfl rfl rfl rfl)) ?_
      refine rp rfl rfl (p_pkf rfl rfl (bfalse h5) (tb ((or_l (p := (!r'1) = true) (q := (((lrd cols0 t10_0.toNat).Name).length : Int) > (8 : Int)) h5)))) ?_
      refine rp rfl rfl (p_asg rfl rfl) ?_
      refine rs [(0, .p ((fun q : List GColumn => AV.lst (q.flatMap GColumn.cs) q.length) cols0)), (3, .i t10_0), (4, .q 4 (0)), (8, .p ((fun q : List GColumn => AV.lst (q.flatMap GColumn.cs) q.length) cols0)), (9, .i (cols0.length : Int)), (10, .i t10_0), (15, .b (decide (((!r'1) = true) ∨ ((((lrd cols0 t10_0.toNat).Name).length : Int) > (8 : Int)))))] [(4, .pure (GColumn.cs (lrd cols0 t10_0.toNat)))] rfl rfl rfl ?_
      exact RunW_nil rfl
    ·refine AW2_if (p := ((!r'1) = true) ∨ ((((lrd cols0 t10_0.toNat).Name).length : Int) > (8 : Int))) rfl (fun h6 => ?_) (fun h6 => ?_)
     ·replace H := ite_then h6 H
      refine sg [0] rfl ?_
      refine rp rfl rfl (p_asg rfl rfl) ?_
      refine rz [(2, .i (3 : Int))] [] rfl rfl rfl ?_
      refine AW2_ret ?_
      have hz := some_elim H
      subst hz
      exact ⟨rfl, ⟨res_tmp (.same _), trivial⟩, trivial⟩
     ·replace H := ite_else h6 H
      refine AW2_seq ?_
      refine AW2_mid (⟨[(0, .p ((fun q : List GColumn => AV.lst (q.flatMap GColumn.cs) q.length) cols0)), (3, .i t10_0), (4, .q 4 (0)), (8, .p ((fun q : List GColumn => AV.lst (q.flatMap GColumn.cs) q.length) cols0)), (9, .i (cols0.length : Int)), (10, .i t10_0), (26, .b (decide (((((lrd cols0 t10_0.toNat).Kind ≠ (1 : Int)) ∧ ((lrd cols0 t10_0.toNat).Kind ≠ (2 : Int))) ∧ ((lrd cols0 t10_0.toNat).Kind ≠ (3 : Int))) ∧ ((lrd cols0 t10_0.toNat).Kind ≠ (4 : Int)))))], [(4, .pure (GColumn.cs (lrd cols0 t10_0.toNat)))], 54⟩ : TS) ?_ ?_
      ·refine AW2_reg [0, 1, 2, 3, 4, 5, 6, 7, 8, 9, 10, 11, 12, 13, 14, 15, 16, 17, 18] rfl ?_
       refine rp rfl rfl (u_fa rfl rfl Tryd.underlying68 rfl in_3 (Nat.succ_ne_zero _) rfl rfl (ne_of_lt (n := 0) (Nat.lt_of_lt_of_eq (by decide) (Eq.symm (GColumn.len (lrd cols0 t10_0.toNat)))))) ?_
       refine rp rfl rfl (u_ld rfl rfl Tryd.underlying3 rfl rfl ((Sub.refl _).trans (GColumn.sub1 (lrd cols0 t10_0.toNat)))) ?_
       refine rp rfl rfl (p_ine rfl rfl rfl) ?_
       refine rp rfl rfl (p_move rfl rfl) ?_
       refine (Classical.em ((lrd cols0 t10_0.toNat).Kind ≠ (1 : Int))).elim (fun h7 => ?_) (fun h7 => ?_)
       ·refine r_on rfl rfl rfl rfl (decide_eq_true h7) rfl (PureD.opD (u_fa rfl rfl Tryd.underlying68 rfl in_3 (Nat.succ_ne_zero _) rfl rfl (ne_of_lt (n := 0) (Nat.lt_of_lt_of_eq (by decide) (Eq.symm (GColumn.len (lrd cols0 t10_0.toNat))))))) ?_
        refine r_on rfl rfl rfl rfl (decide_eq_true h7) rfl (PureD.opD (u_ld rfl rfl Tryd.underlying3 rfl rfl ((Sub.refl _).trans (GColumn.sub1 (lrd cols0 t10_0.toNat))))) ?_
        refine r_on rfl rfl rfl rfl (decide_eq_true h7) rfl (PureD.opD (p_ine rfl rfl rfl)) ?_
        refine rp rfl rfl (p_pkt rfl rfl (decide_eq_true h7) (tb ((and_l (p := (lrd cols0 t10_0.toNat).Kind ≠ (1 : Int)) (q := (lrd cols0 t10_0.toNat).Kind ≠ (2 : Int)) h7)))) ?_
        refine rp rfl rfl (p_move rfl rfl) ?_
        refine (Classical.em ((lrd cols0 t10_0.toNat).Kind ≠ (2 : Int))).elim (fun h8 => ?_) (fun h8 => ?_)
        ·refine r_on rfl rfl rfl rfl (decide_eq_true (p := ((lrd cols0 t10_0.toNat).Kind ≠ (1 : Int)) ∧ ((lrd cols0 t10_0.toNat).Kind ≠ (2 : Int))) ⟨h7, h8⟩) rfl (PureD.opD (u_fa rfl rfl Tryd.underlying68 rfl in_3 (Nat.succ_ne_zero _) rfl rfl (ne_of_lt (n := 0) (Nat.lt_of_lt_of_eq (by decide) (Eq.symm (GColumn.len (lrd cols0 t10_0.toNat))))))) ?_
         refine r_on rfl rfl rfl rfl (decide_eq_true (p := ((lrd cols0 t10_0.toNat).Kind ≠ (1 : Int)) ∧ ((lrd cols0 t10_0.toNat).Kind ≠ (2 : Int))) ⟨h7, h8⟩) rfl (PureD.opD (u_ld rfl rfl Tryd.underlying3 rfl rfl ((Sub.refl _).trans (GColumn.sub1 (lrd cols0 t10_0.toNat))))) ?_
         refine r_on rfl rfl rfl rfl (decide_eq_true (p := ((lrd cols0 t10_0.toNat).Kind ≠ (1 : Int)) ∧ ((lrd cols0 t10_0.toNat).Kind ≠ (2 : Int))) ⟨h7, h8⟩) rfl (PureD.opD (p_ine rfl rfl rfl)) ?_
         refine rp rfl rfl (p_pkt rfl rfl (decide_eq_true (p := ((lrd cols0 t10_0.toNat).Kind ≠ (1 : Int)) ∧ ((lrd cols0 t10_0.toNat).Kind ≠ (2 : Int))) ⟨h7, h8⟩) (tb ((and_l (p := ((lrd cols0 t10_0.toNat).Kind ≠ (1 : Int)) ∧ ((lrd cols0 t10_0.toNat).Kind ≠ (2 : Int))) (q := (lrd cols0 t10_0.toNat).Kind ≠ (3 : Int)) ⟨h7, h8⟩)))) ?_
         refine rp rfl rfl (p_move rfl rfl) ?_
         refine (Classical.em ((lrd cols0 t10_0.toNat).Kind ≠ (3 : Int))).elim (fun h9 => ?_) (fun h9 => ?_)
         ·refine r_on rfl rfl rfl rfl (decide_eq_true (p := (((lrd cols0 t10_0.toNat).Kind ≠ (1 : Int)) ∧ ((lrd cols0 t10_0.toNat).Kind ≠ (2 : Int))) ∧ ((lrd cols0 t10_0.toNat).Kind ≠ (3 : Int))) ⟨⟨h7, h8⟩, h9⟩) rfl (PureD.opD (u_fa rfl rfl Tryd.underlying68 rfl in_3 (Nat.succ_ne_zero _) rfl rfl (ne_of_lt (n := 0) (Nat.lt_of_lt_of_eq (by decide) (Eq.symm (GColumn.len (lrd cols0 t10_0.toNat))))))) ?_
          refine r_on rfl rfl rfl rfl (decide_eq_true (p := (((lrd cols0 t10_0.toNat).Kind ≠ (1 : Int)) ∧ ((lrd cols0 t10_0.toNat).Kind ≠ (2 : Int))) ∧ ((lrd cols0 t10_0.toNat).Kind ≠ (3 : Int))) ⟨⟨h7, h8⟩, h9⟩) rfl (PureD.opD (u_ld rfl rfl Tryd.underlying3 rfl rfl ((Sub.refl _).trans (GColumn.sub1 (lrd cols0 t10_0.toNat))))) ?_
          refine r_on rfl rfl rfl rfl (decide_eq_true (p := (((lrd cols0 t10_0.toNat).Kind ≠ (1 : Int)) ∧ ((lrd cols0 t10_0.toNat).Kind ≠ (2 : Int))) ∧ ((lrd cols0 t10_0.toNat).Kind ≠ (3 : Int))) ⟨⟨h7, h8⟩, h9⟩) rfl (PureD.opD (p_ine rfl rfl rfl)) ?_
          refine rp rfl rfl (p_pkt rfl rfl (decide_eq_true (p := (((lrd cols0 t10_0.toNat).Kind ≠ (1 : Int)) ∧ ((lrd cols0 t10_0.toNat).Kind ≠ (2 : Int))) ∧ ((lrd cols0 t10_0.toNat).Kind ≠ (3 : Int))) ⟨⟨h7, h8⟩, h9⟩) (tb ((and_l (p := (((lrd cols0 t10_0.toNat).Kind ≠ (1 : Int)) ∧ ((lrd cols0 t10_0.toNat).Kind ≠ (2 : Int))) ∧ ((lrd cols0 t10_0.toNat).Kind ≠ (3 : Int))) (q := (lrd cols0 t10_0.toNat).Kind ≠ (4 : Int)) ⟨⟨h7, h8⟩, h9⟩)))) ?_
          refine rp rfl rfl (p_asg rfl rfl) ?_
          refine rs [(0, .p ((fun q : List GColumn => AV.lst (q.flatMap GColumn.cs) q.length) cols0)), (3, .i t10_0), (4, .q 4 (0)), (8, .p ((fun q : List GColumn => AV.lst (q.flatMap GColumn.cs) q.length) cols0)), (9, .i (cols0.length : Int)), (10, .i t10_0), (26, .b (decide (((((lrd cols0 t10_0.toNat).Kind ≠ (1 : Int)) ∧ ((lrd cols0 t10_0.toNat).Kind ≠ (2 : Int))) ∧ ((lrd cols0 t10_0.toNat).Kind ≠ (3 : Int))) ∧ ((lrd cols0 t10_0.toNat).Kind ≠ (4 : Int)))))] [(4, .pure (GColumn.cs (lrd cols0 t10_0.toNat)))] rfl rfl rfl ?_
          exact RunW_nil rfl
         ·refine r_off rfl rfl rfl rfl (decide_eq_false (p := (((lrd cols0 t10_0.toNat).Kind ≠ (1 : Int)) ∧ ((lrd cols0 t10_0.toNat).Kind ≠ (2 : Int))) ∧ ((lrd cols0 t10_0.toNat).Kind ≠ (3 : Int))) (fun h => h9 h.2)) rfl rfl ?_
          refine r_off rfl rfl rfl rfl (decide_eq_false (p := (((lrd cols0 t10_0.toNat).Kind ≠ (1 : Int)) ∧ ((lrd cols0 t10_0.toNat).Kind ≠ (2 : Int))) ∧ ((lrd cols0 t10_0.toNat).Kind ≠ (3 : Int))) (fun h => h9 h.2)) rfl rfl ?_
          refine r_off rfl rfl rfl rfl (decide_eq_false (p := (((lrd cols0 t10_0.toNat).Kind ≠ (1 : Int)) ∧ ((lrd cols0 t10_0.toNat).Kind ≠ (2 : Int))) ∧ ((lrd cols0 t10_0.toNat).Kind ≠ (3 : Int))) (fun h => h9 h.2)) rfl rfl ?_
          refine rp rfl rfl (p_pkf rfl rfl (decide_eq_false (p := (((lrd cols0 t10_0.toNat).Kind ≠ (1 : Int)) ∧ ((lrd cols0 t10_0.toNat).Kind ≠ (2 : Int))) ∧ ((lrd cols0 t10_0.toNat).Kind ≠ (3 : Int))) (fun h => h9 h.2)) (tb (decide_eq_false (p := ((((lrd cols0 t10_0.toNat).Kind ≠ (1 : Int)) ∧ ((lrd cols0 t10_0.toNat).Kind ≠ (2 : Int))) ∧ ((lrd cols0 t10_0.toNat).Kind ≠ (3 : Int))) ∧ ((lrd cols0 t10_0.toNat).Kind ≠ (4 : Int))) (fun x => (fun h => h9 h.2) x.1)).symm)) ?_
          refine rp rfl rfl (p_asg rfl rfl) ?_
          refine rs [(0, .p ((fun q : List GColumn => AV.lst (q.flatMap GColumn.cs) q.length) cols0)), (3, .i t10_0), (4, .q 4 (0)), (8, .p ((fun q : List GColumn => AV.lst (q.flatMap GColumn.cs) q.length) cols0)), (9, .i (cols0.length : Int)), (10, .i t10_0), (26, .b (decide (((((lrd cols0 t10_0.toNat).Kind ≠ (1 : Int)) ∧ ((lrd cols0 t10_0.toNat).Kind ≠ (2 : Int))) ∧ ((lrd cols0 t10_0.toNat).Kind ≠ (3 : Int))) ∧ ((lrd cols0 t10_0.toNat).Kind ≠ (4 : Int)))))] [(4, .pure (GColumn.cs (lrd cols0 t10_0.toNat)))] rfl rfl rfl ?_
          exact RunW_nil rfl
        ·refine r_off rfl rfl rfl rfl (decide_eq_false (p := ((lrd cols0 t10_0.toNat).Kind ≠ (1 : Int)) ∧ ((lrd cols0 t10_0.toNat).Kind ≠ (2 : Int))) (fun h => h8 h.2)) rfl rfl ?_
         refine r_off rfl rfl rfl rfl (decide_eq_false (p := ((lrd cols0 t10_0.toNat).Kind ≠ (1 : Int)) ∧ ((lrd cols0 t10_0.toNat).Kind ≠ (2 : Int))) (fun h => h8 h.2)) rfl rfl ?_
         refine r_off rfl rfl rfl rfl (decide_eq_false (p := ((lrd cols0 t10_0.toNat).Kind ≠ (1 : Int)) ∧ ((lrd cols0 t10_0.toNat).Kind ≠ (2 : Int))) (fun h => h8 h.2)) rfl rfl ?_
         refine rp rfl rfl (p_pkf rfl rfl (decide_eq_false (p := ((lrd cols0 t10_0.toNat).Kind ≠ (1 : Int)) ∧ ((lrd cols0 t10_0.toNat).Kind ≠ (2 : Int))) (fun h => h8 h.2)) (tb (decide_eq_false (p := (((lrd cols0 t10_0.toNat).Kind ≠ (1 : Int)) ∧ ((lrd cols0 t10_0.toNat).Kind ≠ (2 : Int))) ∧ ((lrd cols0 t10_0.toNat).Kind ≠ (3 : Int))) (fun x => (fun h => h8 h.2) x.1)).symm)) ?_
         refine rp rfl rfl (p_move rfl rfl) ?_
         refine r_off rfl rfl rfl rfl (decide_eq_false (p := (((lrd cols0 t10_0.toNat).Kind ≠ (1 : Int)) ∧ ((lrd cols0 t10_0.toNat).Kind ≠ (2 : Int))) ∧ ((lrd cols0 t10_0.toNat).Kind ≠ (3 : Int))) (fun h => (fun h => h8 h.2) h.1)) rfl rfl ?_
         refine r_off rfl rfl rfl rfl (decide_eq_false (p := (((lrd cols0 t10_0.toNat).Kind ≠ (1 : Int)) ∧ ((lrd cols0 t10_0.toNat).Kind ≠ (2 : Int))) ∧ ((lrd cols0 t10_0.toNat).Kind ≠ (3 : Int))) (fun h => (fun h => h8 h.2) h.1)) rfl rfl ?_
         refine r_off rfl rfl rfl rfl (decide_eq_false (p := (((lrd cols0 t10_0.toNat).Kind ≠ (1 : Int)) ∧ ((lrd cols0 t10_0.toNat).Kind ≠ (2 : Int))) ∧ ((lrd cols0 t10_0.toNat).Kind ≠ (3 : Int))) (fun h => (fun h => h8 h.2) h.1)) rfl rfl ?_
         refine rp rfl rfl (p_pkf rfl rfl (decide_eq_false (p := (((lrd cols0 t10_0.toNat).Kind ≠ (1 : Int)) ∧ ((lrd cols0 t10_0.toNat).Kind ≠ (2 : Int))) ∧ ((lrd cols0 t10_0.toNat).Kind ≠ (3 : Int))) (fun h => (fun h => h8 h.2) h.1)) (tb (decide_eq_false (p := ((((lrd cols0 t10_0.toNat).Kind ≠ (1 : Int)) ∧ ((lrd cols0 t10_0.toNat).Kind ≠ (2 : Int))) ∧ ((lrd cols0 t10_0.toNat).Kind ≠ (3 : Int))) ∧ ((lrd cols0 t10_0.toNat).Kind ≠ (4 : Int))) (fun x => (fun h => (fun h => h8 h.2) h.1) x.1)).symm)) ?_
         refine rp rfl rfl (p_asg rfl rfl) ?_
         refine rs [(0, .p ((fun q : List GColumn => AV.lst (q.flatMap GColumn.cs) q.length) cols0)), (3, .i t10_0), (4, .q 4 (0)), (8, .p ((fun q : List GColumn => AV.lst (q.flatMap GColumn.cs) q.length) cols0)), (9, .i (cols0.length : Int)), (10, .i t10_0), (26, .b (decide (((((lrd cols0 t10_0.toNat).Kind ≠ (1 : Int)) ∧ ((lrd cols0 t10_0.toNat).Kind ≠ (2 : Int))) ∧ ((lrd cols0 t10_0.toNat).Kind ≠ (3 : Int))) ∧ ((lrd cols0 t10_0.toNat).Kind ≠ (4 : Int)))))] [(4, .pure (GColumn.cs (lrd cols0 t10_0.toNat)))] rfl rfl rfl ?_
         exact RunW_nil rfl
       ·refine r_off rfl rfl rfl rfl (decide_eq_false h7) rfl rfl ?_
        refine r_off rfl rfl rfl rfl (decide_eq_false h7) rfl rfl ?_
        refine r_off rfl rfl rfl rfl (decide_eq_false h7) rfl rfl ?_
        refine rp rfl rfl (p_pkf rfl rfl (decide_eq_false h7) (tb (decide_eq_false (p := ((lrd cols0 t10_0.toNat).Kind ≠ (1 : Int)) ∧ ((lrd cols0 t10_0.toNat).Kind ≠ (2 : Int))) (fun x => h7 x.1)).symm)) ?_
        refine rp rfl rfl (p_move rfl rfl) ?_
        refine r_off rfl rfl rfl rfl (decide_eq_false (p := ((lrd cols0 t10_0.toNat).Kind ≠ (1 : Int)) ∧ ((lrd cols0 t10_0.toNat).Kind ≠ (2 : Int))) (fun h => h7 h.1)) rfl rfl ?_
        refine r_off rfl rfl rfl rfl (decide_eq_false (p := ((lrd cols0 t10_0.toNat).Kind ≠ (1 : Int)) ∧ ((lrd cols0 t10_0.toNat).Kind ≠ (2 : Int))) (fun h => h7 h.1)) rfl rfl ?_
        refine r_off rfl rfl rfl rfl (decide_eq_false (p := ((lrd cols0 t10_0.toNat).Kind ≠ (1 : Int)) ∧ ((lrd cols0 t10_0.toNat).Kind ≠ (2 : Int))) (fun h => h7 h.1)) rfl rfl ?_
        refine rp rfl rfl (p_pkf rfl rfl (decide_eq_false (p := ((lrd cols0 t10_0.toNat).Kind ≠ (1 : Int)) ∧ ((lrd cols0 t10_0.toNat).Kind ≠ (2 : Int))) (fun h => h7 h.1)) (tb (decide_eq_false (p := (((lrd cols0 t10_0.toNat).Kind ≠ (1 : Int)) ∧ ((lrd cols0 t10_0.toNat).Kind ≠ (2 : Int))) ∧ ((lrd cols0 t10_0.toNat).Kind ≠ (3 : Int))) (fun x => (fun h => h7 h.1) x.1)).symm)) ?_
        refine rp rfl rfl (p_move rfl rfl) ?_
        refine r_off rfl rfl rfl rfl (decide_eq_false (p := (((lrd cols0 t10_0.toNat).Kind ≠ (1 : Int)) ∧ ((lrd cols0 t10_0.toNat).Kind ≠ (2 : Int))) ∧ ((lrd cols0 t10_0.toNat).Kind ≠ (3 : Int))) (fun h => (fun h => h7 h.1) h.1)) rfl rfl ?_
        refine r_off rfl rfl rfl rfl (decide_eq_false (p := (((lrd cols0 t10_0.toNat).Kind ≠ (1 : Int)) ∧ ((lrd cols0 t10_0.toNat).Kind ≠ (2 : Int))) ∧ ((lrd cols0 t10_0.toNat).Kind ≠ (3 : Int))) (fun h => (fun h => h7 h.1) h.1)) rfl rfl ?_
        refine r_off rfl rfl rfl rfl (decide_eq_false (p := (((lrd cols0 t10_0.toNat).Kind ≠ (1 : Int)) ∧ ((lrd cols0 t10_0.toNat).Kind ≠ (2 : Int))) ∧ ((lrd cols0 t10_0.toNat).Kind ≠ (3 : Int))) (fun h => (fun h => h7 h.1) h.1)) rfl rfl ?_
        refine rp rfl rfl (p_pkf rfl rfl (decide_eq_false (p := (((lrd cols0 t10_0.toNat).Kind ≠ (1 : Int)) ∧ ((lrd cols0 t10_0.toNat).Kind ≠ (2 : Int))) ∧ ((lrd cols0 t10_0.toNat).Kind ≠ (3 : Int))) (fun h => (fun h => h7 h.1) h.1)) (tb (decide_eq_false (p := ((((lrd cols0 t10_0.toNat).Kind ≠ (1 : Int)) ∧ ((lrd cols0 t10_0.toNat).Kind ≠ (2 : Int))) ∧ ((lrd cols0 t10_0.toNat).Kind ≠ (3 : Int))) ∧ ((lrd cols0 t10_0.toNat).Kind ≠ (4 : Int))) (fun x => (fun h => (fun h => h7 h.1) h.1) x.1)).symm)) ?_
        refine rp rfl rfl (p_asg rfl rfl) ?_
        refine rs [(0, .p ((fun q : List GColumn => AV.lst (q.flatMap GColumn.cs) q.length) cols0)), (3, .i t10_0), (4, .q 4 (0)), (8, .p ((fun q : List GColumn => AV.lst (q.flatMap GColumn.cs) q.length) cols0)), (9, .i (cols0.length : Int)), (10, .i t10_0), (26, .b (decide (((((lrd cols0 t10_0.toNat).Kind ≠ (1 : Int)) ∧ ((lrd cols0 t10_0.toNat).Kind ≠ (2 : Int))) ∧ ((lrd cols0 t10_0.toNat).Kind ≠ (3 : Int))) ∧ ((lrd cols0 t10_0.toNat).Kind ≠ (4 : Int)))))] [(4, .pure (GColumn.cs (lrd cols0 t10_0.toNat)))] rfl rfl rfl ?_
        exact RunW_nil rfl
      ·refine gen1 (fun t26'2 => (⟨[(0, .p ((fun q : List GColumn => AV.lst (q.flatMap GColumn.cs) q.length) cols0)), (3, .i t10_0), (4, .q 4 (0)), (8, .p ((fun q : List GColumn => AV.lst (q.flatMap GColumn.cs) q.length) cols0)), (9, .i (cols0.length : Int)), (10, .i t10_0), (26, .b t26'2)], [(4, .pure (GColumn.cs (lrd cols0 t10_0.toNat)))], 54⟩ : TS)) H ?_
       intro t26'2 H
       refine AW2_cond rfl (fun h10 => ?_) (fun h10 => ?_)
       ·replace H := ite_then h10 H
        refine sg [0] rfl ?_
        refine rp rfl rfl (p_asg rfl rfl) ?_
        refine rz [(2, .i (2 : Int))] [] rfl rfl rfl ?_
        refine AW2_ret ?_
        have hz := some_elim H
        subst hz
        exact ⟨rfl, ⟨res_tmp (.same _), trivial⟩, trivial⟩
       ·replace H := ite_else (ne_true h10) H
        refine AW2_seq ?_
        refine chkK H fun h11 H => ?_
        refine bindK H fun r'3 h12 H => ?_
        refine AW2_ghoQ ?_
        refine AW2_draw 5 [5, 6, 7] (fun k => ([.p ((fun q : List GColumn => AV.lst (q.flatMap GColumn.cs) q.length) cols0), .i t10_0, .p ((fun q : List GColumn => AV.lst (q.flatMap GColumn.cs) q.length) (cut cols0 (0 : Int) t10_0)), .q 4 (0 + 0), .t ((lrd cols0 t10_0.toNat).Name)] : List TV).getD k TV.any) (fun k => g_ref_ColumnsFault_r10.getD k []) [(0, none), (8, none), (9, none), (10, none), (48, some 2), (50, some 4)] [] (fun k => g_ref_ColumnsFault_r10c.getD k []) mixed (by kernel_rfl) rfl rfl (a_op (g_x rfl (x_p rfl (p_move rfl rfl) rfl)) (a_op (g_x rfl (x_p rfl (p_move rfl rfl) rfl)) (a_op (g_x rfl (x_p rfl (u_cutl (g := (fun l => l.flatMap GColumn.cs)) (a := (0 : Int)) (b := t10_0) rfl rfl Tryd.underlying35 in_68 rfl bT_zero (bT_i (Int.le_trans (show 0 ≤ (0 : Int) ∧ (0 : Int) ≤ t10_0 ∧ t10_0 ≤ (cols0.length : Int) from ⟨Int.le_refl _, h11.1, h11.2⟩).1 (show 0 ≤ (0 : Int) ∧ (0 : Int) ≤ t10_0 ∧ t10_0 ≤ (cols0.length : Int) from ⟨Int.le_refl _, h11.1, h11.2⟩).2.1) rfl) (.inl rfl) (show 0 ≤ (0 : Int) ∧ (0 : Int) ≤ t10_0 ∧ t10_0 ≤ (cols0.length : Int) from ⟨Int.le_refl _, h11.1, h11.2⟩) (g_fm (fun x => (GColumn.len x)))) rfl)) (a_op (g_x rfl (x_p rfl (u_fa rfl rfl Tryd.underlying68 rfl in_9 (Nat.succ_ne_zero _) rfl rfl (ne_of_lt (n := 0) (Nat.lt_of_lt_of_eq (by decide) (Eq.symm (GColumn.len (lrd cols0 t10_0.toNat)))))) rfl)) (a_op (g_x rfl (x_p rfl (u_ld rfl rfl Tryd.underlying9 rfl rfl ((Sub.refl _).trans (GColumn.sub0 (lrd cols0 t10_0.toNat)))) rfl)) (a_nil)))))) ?_
        refine t_op rfl rfl (PureD.opD (p_callp rfl rfl rfl Tryd.func41 rfl rfl (g_ref_columnAt_ac h12) ⟨rfl, rfl, trivial⟩)) ?_
        refine t_op rfl rfl (PureD.opD (p_bin rfl rfl rfl rfl)) ?_
        refine t_op rfl rfl (PureD.opD (p_asg rfl rfl)) ?_
        refine t_gho (Gho_st (L := [(0, .p ((fun q : List GColumn => AV.lst (q.flatMap GColumn.cs) q.length) cols0)), (8, .p ((fun q : List GColumn => AV.lst (q.flatMap GColumn.cs) q.length) cols0)), (9, .i (cols0.length : Int)), (10, .i t10_0), (45, .b (decide (r'3 ≥ (0 : Int))))]) (H := []) (N := 54) rfl ⟨TLes.same _, TLes.same _, TLes.same _, TLes.same _, TLes.same _, trivial⟩ trivial) ?_
        refine AW2_if (p := r'3 ≥ (0 : Int)) rfl (fun h13 => ?_) (fun h13 => ?_)
        ·replace H := ite_then h13 H
         refine sg [0] rfl ?_
         refine rp rfl rfl (p_asg rfl rfl) ?_
         refine rz [(2, .i (8 : Int))] [] rfl rfl rfl ?_
         refine AW2_ret ?_
         have hz := some_elim H
         subst hz
         exact ⟨rfl, ⟨res_tmp (.same _), trivial⟩, trivial⟩
        ·replace H := ite_else h13 H
         refine as2 [(0, .p ((fun q : List GColumn => AV.lst (q.flatMap GColumn.cs) q.length) cols0)), (8, .p ((fun q : List GColumn => AV.lst (q.flatMap GColumn.cs) q.length) cols0)), (9, .i (cols0.length : Int)), (10, .i t10_0)] [] rfl rfl rfl ?_
         refine AW2_skip ?_
         refine AW2_reg [0, 1] rfl ?_
         refine rp rfl rfl (p_bin rfl rfl rfl rfl) ?_
         refine rp rfl rfl (p_move rfl rfl) ?_
         refine rz [(0, .p ((fun q : List GColumn => AV.lst (q.flatMap GColumn.cs) q.length) cols0)), (8, .p ((fun q : List GColumn => AV.lst (q.flatMap GColumn.cs) q.length) cols0)), (9, .i (cols0.length : Int)), (10, .i (w64 (t10_0 + (1 : Int))))] [] rfl rfl rfl ?_
         have hz := some_elim H
         subst hz
         exact ⟨rfl, rfl⟩
   ·replace H := ite_else h2 H
    refine as2 [] [] rfl rfl rfl ?_
    refine AW2_exit ?_
    refine thenQ2_exit ?_
    have hz := some_elim H
    subst hz
    exact ⟨rfl, rfl⟩
  ·rcases o'7 with y'8 | y'9
   ·obtain ⟨rfl, hs⟩ := hs
    refine ⟨by simp, ?_⟩
    have hz := some_elim H
    subst hz
    exact ⟨hs.1, hs.2⟩
   ·obtain ⟨rfl, rfl⟩ := hs
    refine ⟨by simp, ?_⟩
    refine blockQ2_exit ?_
    refine sg [0] rfl ?_
    refine rp rfl rfl (p_asg rfl rfl) ?_
    refine rz [(2, .i (0 : Int))] [] rfl rfl rfl ?_
    refine AW2_ret ?_
    have hz := some_elim H
    subst hz
    exact ⟨⟨res_tmp (.same _), trivial⟩, trivial⟩
end Go.Proofs.YtalnmpfjgiecdaaDoor.VM
