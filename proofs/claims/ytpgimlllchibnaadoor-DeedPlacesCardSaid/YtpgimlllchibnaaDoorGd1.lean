/- Functions of the program, as they answer, and that their code comes to these answers. -/
import Derived.Test.YtpgimlllchibnaaDoorGd0
namespace Go.Proofs.YtpgimlllchibnaaDoor.VM
open Go Go.RowKit

structure GToken where
  Kind : Int
  Text : List UInt8
  Int_ : Int
  Bits : UInt64
deriving DecidableEq, Inhabited
def GToken.zero : GToken := ⟨(0 : Int), [], (0 : Int), (0 : UInt64)⟩
def GToken.cs (x : GToken) : List AV := ([(AV.int x.Kind)]) ++ (([(AV.txt x.Text)]) ++ (([(AV.int x.Int_)]) ++ ([(AV.u64 x.Bits)])))
theorem GToken.len (x : GToken) : (GToken.cs x).length = 4 := by
  simp only [GToken.cs, List.length_append]
  rw [show ([(AV.int x.Kind)]).length = 1 from (show ([(AV.int x.Kind)]).length = 1 from rfl), show ([(AV.txt x.Text)]).length = 1 from (show ([(AV.txt x.Text)]).length = 1 from rfl), show ([(AV.int x.Int_)]).length = 1 from (show ([(AV.int x.Int_)]).length = 1 from rfl), show ([(AV.u64 x.Bits)]).length = 1 from (show ([(AV.u64 x.Bits)]).length = 1 from rfl)]
theorem GToken.sub0 (x : GToken) : Sub (GToken.cs x) 0 ([(AV.int x.Kind)]) := Sub.head _ _
abbrev GToken.w0 (x : GToken) (y : Int) : GToken := { x with Kind := y }
theorem GToken.upd0 (x : GToken) (y : Int) : Upd (GToken.cs x) 0 ([(AV.int y)]) (GToken.cs { x with Kind := y }) := Upd.head (show ([(AV.int y)]).length = ([(AV.int x.Kind)]).length from rfl)
theorem GToken.sub1 (x : GToken) : Sub (GToken.cs x) 1 ([(AV.txt x.Text)]) := Sub.skip (k := 1) (show ([(AV.int x.Kind)]).length = 1 from rfl) (Sub.head _ _)
abbrev GToken.w1 (x : GToken) (y : List UInt8) : GToken := { x with Text := y }
theorem GToken.upd1 (x : GToken) (y : List UInt8) : Upd (GToken.cs x) 1 ([(AV.txt y)]) (GToken.cs { x with Text := y }) := Upd.skip (k := 1) (show ([(AV.int x.Kind)]).length = 1 from rfl) (Upd.head (show ([(AV.txt y)]).length = ([(AV.txt x.Text)]).length from rfl))
theorem GToken.sub2 (x : GToken) : Sub (GToken.cs x) 2 ([(AV.int x.Int_)]) := Sub.skip (k := 1) (show ([(AV.int x.Kind)]).length = 1 from rfl) (Sub.skip (k := 1) (show ([(AV.txt x.Text)]).length = 1 from rfl) (Sub.head _ _))
abbrev GToken.w2 (x : GToken) (y : Int) : GToken := { x with Int_ := y }
theorem GToken.upd2 (x : GToken) (y : Int) : Upd (GToken.cs x) 2 ([(AV.int y)]) (GToken.cs { x with Int_ := y }) := Upd.skip (k := 1) (show ([(AV.int x.Kind)]).length = 1 from rfl) (Upd.skip (k := 1) (show ([(AV.txt x.Text)]).length = 1 from rfl) (Upd.head (show ([(AV.int y)]).length = ([(AV.int x.Int_)]).length from rfl)))
theorem GToken.sub3 (x : GToken) : Sub (GToken.cs x) 3 ([(AV.u64 x.Bits)]) := Sub.skip (k := 1) (show ([(AV.int x.Kind)]).length = 1 from rfl) (Sub.skip (k := 1) (show ([(AV.txt x.Text)]).length = 1 from rfl) (Sub.skip (k := 1) (show ([(AV.int x.Int_)]).length = 1 from rfl) (Sub.refl _)))
abbrev GToken.w3 (x : GToken) (y : UInt64) : GToken := { x with Bits := y }
theorem GToken.upd3 (x : GToken) (y : UInt64) : Upd (GToken.cs x) 3 ([(AV.u64 y)]) (GToken.cs { x with Bits := y }) := Upd.skip (k := 1) (show ([(AV.int x.Kind)]).length = 1 from rfl) (Upd.skip (k := 1) (show ([(AV.txt x.Text)]).length = 1 from rfl) (Upd.skip (k := 1) (show ([(AV.int x.Int_)]).length = 1 from rfl) (Upd.refl (show ([(AV.u64 y)]).length = ([(AV.u64 x.Bits)]).length from rfl))))
theorem GToken.nl (x : GToken) : (GToken.cs x).all noLst1 = true := nlA rfl (nlA rfl (nlA rfl (rfl)))
structure GColumn where
  Name : List UInt8
  Kind : Int
  Null : Bool
deriving DecidableEq, Inhabited
def GColumn.zero : GColumn := ⟨[], (0 : Int), false⟩
def GColumn.cs (x : GColumn) : List AV := ([(AV.txt x.Name)]) ++ (([(AV.int x.Kind)]) ++ ([(AV.bool x.Null)]))
theorem GColumn.len (x : GColumn) : (GColumn.cs x).length = 3 := by
  simp only [GColumn.cs, List.length_append]
  rw [show ([(AV.txt x.Name)]).length = 1 from (show ([(AV.txt x.Name)]).length = 1 from rfl), show ([(AV.int x.Kind)]).length = 1 from (show ([(AV.int x.Kind)]).length = 1 from rfl), show ([(AV.bool x.Null)]).length = 1 from (show ([(AV.bool x.Null)]).length = 1 from rfl)]
theorem GColumn.sub0 (x : GColumn) : Sub (GColumn.cs x) 0 ([(AV.txt x.Name)]) := Sub.head _ _
abbrev GColumn.w0 (x : GColumn) (y : List UInt8) : GColumn := { x with Name := y }
theorem GColumn.upd0 (x : GColumn) (y : List UInt8) : Upd (GColumn.cs x) 0 ([(AV.txt y)]) (GColumn.cs { x with Name := y }) := Upd.head (show ([(AV.txt y)]).length = ([(AV.txt x.Name)]).length from rfl)
theorem GColumn.sub1 (x : GColumn) : Sub (GColumn.cs x) 1 ([(AV.int x.Kind)]) := Sub.skip (k := 1) (show ([(AV.txt x.Name)]).length = 1 from rfl) (Sub.head _ _)
abbrev GColumn.w1 (x : GColumn) (y : Int) : GColumn := { x with Kind := y }
theorem GColumn.upd1 (x : GColumn) (y : Int) : Upd (GColumn.cs x) 1 ([(AV.int y)]) (GColumn.cs { x with Kind := y }) := Upd.skip (k := 1) (show ([(AV.txt x.Name)]).length = 1 from rfl) (Upd.head (show ([(AV.int y)]).length = ([(AV.int x.Kind)]).length from rfl))
theorem GColumn.sub2 (x : GColumn) : Sub (GColumn.cs x) 2 ([(AV.bool x.Null)]) := Sub.skip (k := 1) (show ([(AV.txt x.Name)]).length = 1 from rfl) (Sub.skip (k := 1) (show ([(AV.int x.Kind)]).length = 1 from rfl) (Sub.refl _))
abbrev GColumn.w2 (x : GColumn) (y : Bool) : GColumn := { x with Null := y }
theorem GColumn.upd2 (x : GColumn) (y : Bool) : Upd (GColumn.cs x) 2 ([(AV.bool y)]) (GColumn.cs { x with Null := y }) := Upd.skip (k := 1) (show ([(AV.txt x.Name)]).length = 1 from rfl) (Upd.skip (k := 1) (show ([(AV.int x.Kind)]).length = 1 from rfl) (Upd.refl (show ([(AV.bool y)]).length = ([(AV.bool x.Null)]).length from rfl)))
theorem GColumn.nl (x : GColumn) : (GColumn.cs x).all noLst1 = true := nlA rfl (nlA rfl (rfl))
structure GCell where
  Full : Bool
  Row : List GValue
deriving DecidableEq, Inhabited
def GCell.zero : GCell := ⟨false, []⟩
def GCell.cs (x : GCell) : List AV := ([(AV.bool x.Full)]) ++ ([((fun q : List GValue => AV.lst (q.flatMap GValue.cs) q.length) x.Row)])
theorem GCell.len (x : GCell) : (GCell.cs x).length = 2 := by
  simp only [GCell.cs, List.length_append]
  rw [show ([(AV.bool x.Full)]).length = 1 from (show ([(AV.bool x.Full)]).length = 1 from rfl), show ([((fun q : List GValue => AV.lst (q.flatMap GValue.cs) q.length) x.Row)]).length = 1 from (show ([((fun q : List GValue => AV.lst (q.flatMap GValue.cs) q.length) x.Row)]).length = 1 from rfl)]
theorem GCell.sub0 (x : GCell) : Sub (GCell.cs x) 0 ([(AV.bool x.Full)]) := Sub.head _ _
abbrev GCell.w0 (x : GCell) (y : Bool) : GCell := { x with Full := y }
theorem GCell.upd0 (x : GCell) (y : Bool) : Upd (GCell.cs x) 0 ([(AV.bool y)]) (GCell.cs { x with Full := y }) := Upd.head (show ([(AV.bool y)]).length = ([(AV.bool x.Full)]).length from rfl)
theorem GCell.sub1 (x : GCell) : Sub (GCell.cs x) 1 ([((fun q : List GValue => AV.lst (q.flatMap GValue.cs) q.length) x.Row)]) := Sub.skip (k := 1) (show ([(AV.bool x.Full)]).length = 1 from rfl) (Sub.refl _)
abbrev GCell.w1 (x : GCell) (y : List GValue) : GCell := { x with Row := y }
theorem GCell.upd1 (x : GCell) (y : List GValue) : Upd (GCell.cs x) 1 ([((fun q : List GValue => AV.lst (q.flatMap GValue.cs) q.length) y)]) (GCell.cs { x with Row := y }) := Upd.skip (k := 1) (show ([(AV.bool x.Full)]).length = 1 from rfl) (Upd.refl (show ([((fun q : List GValue => AV.lst (q.flatMap GValue.cs) q.length) y)]).length = ([((fun q : List GValue => AV.lst (q.flatMap GValue.cs) q.length) x.Row)]).length from rfl))
structure GTable where
  There : Bool
  Name : List UInt8
  Cols : List GColumn
  Drawers : Vector (Vector GCell 4) 2
deriving DecidableEq, Inhabited
def GTable.zero : GTable := ⟨false, [], [], (Vector.replicate 2 (Vector.replicate 4 GCell.zero))⟩
def GTable.cs (x : GTable) : List AV := ([(AV.bool x.There)]) ++ (([(AV.txt x.Name)]) ++ (([((fun q : List GColumn => AV.lst (q.flatMap GColumn.cs) q.length) x.Cols)]) ++ (x.Drawers.toList.flatMap (fun v : Vector GCell 4 => v.toList.flatMap GCell.cs))))
theorem GTable.len (x : GTable) : (GTable.cs x).length = 19 := by
  simp only [GTable.cs, List.length_append]
  rw [show ([(AV.bool x.There)]).length = 1 from (show ([(AV.bool x.There)]).length = 1 from rfl), show ([(AV.txt x.Name)]).length = 1 from (show ([(AV.txt x.Name)]).length = 1 from rfl), show ([((fun q : List GColumn => AV.lst (q.flatMap GColumn.cs) q.length) x.Cols)]).length = 1 from (show ([((fun q : List GColumn => AV.lst (q.flatMap GColumn.cs) q.length) x.Cols)]).length = 1 from rfl), show (x.Drawers.toList.flatMap (fun v : Vector GCell 4 => v.toList.flatMap GCell.cs)).length = 16 from (vfm_len (fun x => (vfm_len (fun x => (GCell.len x)) x)) x.Drawers)]
theorem GTable.sub0 (x : GTable) : Sub (GTable.cs x) 0 ([(AV.bool x.There)]) := Sub.head _ _
abbrev GTable.w0 (x : GTable) (y : Bool) : GTable := { x with There := y }
theorem GTable.upd0 (x : GTable) (y : Bool) : Upd (GTable.cs x) 0 ([(AV.bool y)]) (GTable.cs { x with There := y }) := Upd.head (show ([(AV.bool y)]).length = ([(AV.bool x.There)]).length from rfl)
theorem GTable.sub1 (x : GTable) : Sub (GTable.cs x) 1 ([(AV.txt x.Name)]) := Sub.skip (k := 1) (show ([(AV.bool x.There)]).length = 1 from rfl) (Sub.head _ _)
abbrev GTable.w1 (x : GTable) (y : List UInt8) : GTable := { x with Name := y }
theorem GTable.upd1 (x : GTable) (y : List UInt8) : Upd (GTable.cs x) 1 ([(AV.txt y)]) (GTable.cs { x with Name := y }) := Upd.skip (k := 1) (show ([(AV.bool x.There)]).length = 1 from rfl) (Upd.head (show ([(AV.txt y)]).length = ([(AV.txt x.Name)]).length from rfl))
theorem GTable.sub2 (x : GTable) : Sub (GTable.cs x) 2 ([((fun q : List GColumn => AV.lst (q.flatMap GColumn.cs) q.length) x.Cols)]) := Sub.skip (k := 1) (show ([(AV.bool x.There)]).length = 1 from rfl) (Sub.skip (k := 1) (show ([(AV.txt x.Name)]).length = 1 from rfl) (Sub.head _ _))
abbrev GTable.w2 (x : GTable) (y : List GColumn) : GTable := { x with Cols := y }
theorem GTable.upd2 (x : GTable) (y : List GColumn) : Upd (GTable.cs x) 2 ([((fun q : List GColumn => AV.lst (q.flatMap GColumn.cs) q.length) y)]) (GTable.cs { x with Cols := y }) := Upd.skip (k := 1) (show ([(AV.bool x.There)]).length = 1 from rfl) (Upd.skip (k := 1) (show ([(AV.txt x.Name)]).length = 1 from rfl) (Upd.head (show ([((fun q : List GColumn => AV.lst (q.flatMap GColumn.cs) q.length) y)]).length = ([((fun q : List GColumn => AV.lst (q.flatMap GColumn.cs) q.length) x.Cols)]).length from rfl)))
theorem GTable.sub3 (x : GTable) : Sub (GTable.cs x) 3 (x.Drawers.toList.flatMap (fun v : Vector GCell 4 => v.toList.flatMap GCell.cs)) := Sub.skip (k := 1) (show ([(AV.bool x.There)]).length = 1 from rfl) (Sub.skip (k := 1) (show ([(AV.txt x.Name)]).length = 1 from rfl) (Sub.skip (k := 1) (show ([((fun q : List GColumn => AV.lst (q.flatMap GColumn.cs) q.length) x.Cols)]).length = 1 from rfl) (Sub.refl _)))
abbrev GTable.w3 (x : GTable) (y : Vector (Vector GCell 4) 2) : GTable := { x with Drawers := y }
theorem GTable.upd3 (x : GTable) (y : Vector (Vector GCell 4) 2) : Upd (GTable.cs x) 3 (y.toList.flatMap (fun v : Vector GCell 4 => v.toList.flatMap GCell.cs)) (GTable.cs { x with Drawers := y }) := Upd.skip (k := 1) (show ([(AV.bool x.There)]).length = 1 from rfl) (Upd.skip (k := 1) (show ([(AV.txt x.Name)]).length = 1 from rfl) (Upd.skip (k := 1) (show ([((fun q : List GColumn => AV.lst (q.flatMap GColumn.cs) q.length) x.Cols)]).length = 1 from rfl) (Upd.refl ((vfm_len (fun x => (vfm_len (fun x => (GCell.len x)) x)) y).trans (vfm_len (fun x => (vfm_len (fun x => (GCell.len x)) x)) x.Drawers).symm))))
theorem in_71 : Info Tryd.prog 71 4 40 (.agg #[.int .i64 0, .int .i64 0, .int .u64 0, .string ⟨#[]⟩]) := by unfold Info; kernel_rfl
theorem one_71 : (.agg #[.int .i64 0, .int .i64 0, .int .u64 0, .string ⟨#[]⟩] : Value).cells.all (·.oneCell') = true := by kernel_rfl
theorem zc_71 : ((.agg #[.int .i64 0, .int .i64 0, .int .u64 0, .string ⟨#[]⟩] : Value).cells.toList.map zcell) = GValue.cs GValue.zero := by rfl
theorem pl_71 : placesOf Tryd.prog 71 = some [(0, 1), (1, 1), (2, 1), (3, 1)] := by kernel_rfl
theorem in_55 : Info Tryd.prog 55 3 32 (.agg #[.string ⟨#[]⟩, .int .i64 0, .bool false]) := by unfold Info; kernel_rfl
theorem one_55 : (.agg #[.string ⟨#[]⟩, .int .i64 0, .bool false] : Value).cells.all (·.oneCell') = true := by kernel_rfl
theorem zc_55 : ((.agg #[.string ⟨#[]⟩, .int .i64 0, .bool false] : Value).cells.toList.map zcell) = GColumn.cs GColumn.zero := by rfl
theorem pl_55 : placesOf Tryd.prog 55 = some [(0, 1), (1, 1), (2, 1)] := by kernel_rfl
theorem in_52 : Info Tryd.prog 52 4 40 (.agg #[.int .i64 0, .string ⟨#[]⟩, .int .i64 0, .int .u64 0]) := by unfold Info; kernel_rfl
theorem one_52 : (.agg #[.int .i64 0, .string ⟨#[]⟩, .int .i64 0, .int .u64 0] : Value).cells.all (·.oneCell') = true := by kernel_rfl
theorem zc_52 : ((.agg #[.int .i64 0, .string ⟨#[]⟩, .int .i64 0, .int .u64 0] : Value).cells.toList.map zcell) = GToken.cs GToken.zero := by rfl
theorem pl_52 : placesOf Tryd.prog 52 = some [(0, 1), (1, 1), (2, 1), (3, 1)] := by kernel_rfl
theorem in_4 : Info Tryd.prog 4 1 1 (.bool false) := by unfold Info; kernel_rfl
theorem one_4 : (.bool false : Value).cells.all (·.oneCell') = true := by kernel_rfl
theorem zc_4 : ((.bool false : Value).cells.toList.map zcell) = [(AV.bool false)] := by rfl
theorem in_26 : Info Tryd.prog 26 8 128 (.agg #[.bool false, .slice none 0 0, .bool false, .slice none 0 0, .bool false, .slice none 0 0, .bool false, .slice none 0 0]) := by unfold Info; kernel_rfl
theorem one_26 : (.agg #[.bool false, .slice none 0 0, .bool false, .slice none 0 0, .bool false, .slice none 0 0, .bool false, .slice none 0 0] : Value).cells.all (·.oneCell') = true := by kernel_rfl
theorem zc_26 : ((.agg #[.bool false, .slice none 0 0, .bool false, .slice none 0 0, .bool false, .slice none 0 0, .bool false, .slice none 0 0] : Value).cells.toList.map zcell) = ((Vector.replicate 4 GCell.zero).toList).flatMap GCell.cs := by rfl
theorem in_25 : Info Tryd.prog 25 2 32 (.agg #[.bool false, .slice none 0 0]) := by unfold Info; kernel_rfl
theorem one_25 : (.agg #[.bool false, .slice none 0 0] : Value).cells.all (·.oneCell') = true := by kernel_rfl
theorem zc_25 : ((.agg #[.bool false, .slice none 0 0] : Value).cells.toList.map zcell) = GCell.cs GCell.zero := by rfl
theorem pl_25 : placesOf Tryd.prog 25 = some [(0, 1), (1, 1)] := by kernel_rfl
theorem in_23 : Info Tryd.prog 23 1 24 (.slice none 0 0) := by unfold Info; kernel_rfl
theorem one_23 : (.slice none 0 0 : Value).cells.all (·.oneCell') = true := by kernel_rfl
theorem zc_23 : ((.slice none 0 0 : Value).cells.toList.map zcell) = [((fun q : List GValue => AV.lst (q.flatMap GValue.cs) q.length) [])] := by rfl
theorem in_22 : Info Tryd.prog 22 1 24 (.slice none 0 0) := by unfold Info; kernel_rfl
theorem one_22 : (.slice none 0 0 : Value).cells.all (·.oneCell') = true := by kernel_rfl
theorem zc_22 : ((.slice none 0 0 : Value).cells.toList.map zcell) = [((fun q : List GColumn => AV.lst (q.flatMap GColumn.cs) q.length) [])] := by rfl
theorem in_27 : Info Tryd.prog 27 16 256 (.agg #[.bool false, .slice none 0 0, .bool false, .slice none 0 0, .bool false, .slice none 0 0, .bool false, .slice none 0 0, .bool false, .slice none 0 0, .bool false, .slice none 0 0, .bool false, .slice none 0 0, .bool false, .slice none 0 0]) := by unfold Info; kernel_rfl
theorem one_27 : (.agg #[.bool false, .slice none 0 0, .bool false, .slice none 0 0, .bool false, .slice none 0 0, .bool false, .slice none 0 0, .bool false, .slice none 0 0, .bool false, .slice none 0 0, .bool false, .slice none 0 0, .bool false, .slice none 0 0] : Value).cells.all (·.oneCell') = true := by kernel_rfl
theorem zc_27 : ((.agg #[.bool false, .slice none 0 0, .bool false, .slice none 0 0, .bool false, .slice none 0 0, .bool false, .slice none 0 0, .bool false, .slice none 0 0, .bool false, .slice none 0 0, .bool false, .slice none 0 0, .bool false, .slice none 0 0] : Value).cells.toList.map zcell) = ((Vector.replicate 2 (Vector.replicate 4 GCell.zero)).toList).flatMap (fun v : Vector GCell 4 => v.toList.flatMap GCell.cs) := by rfl
theorem eq_71 : EqT Tryd.prog 71 2 (fun x : GValue => .agg (GValue.cs x)) :=
  eqt_struct [fun a b => a.Kind = b.Kind, fun a b => a.Int_ = b.Int_, fun a b => a.Bits = b.Bits, fun a b => a.Text = b.Text] Tryd.underlying71 (by kernel_rfl) ⟨(FieldEq.more (fe_one (by decide) Tryd.underlying3 rfl (eqt_int Tryd.underlying3) (fun a => GValue.sub0 a)) (by decide : 1 ≤ 1)), (FieldEq.more (fe_one (by decide) Tryd.underlying3 rfl (eqt_int Tryd.underlying3) (fun a => GValue.sub1 a)) (by decide : 1 ≤ 1)), (FieldEq.more (fe_one (by decide) Tryd.underlying50 rfl (eqt_u64 Tryd.underlying50) (fun a => GValue.sub2 a)) (by decide : 1 ≤ 1)), (FieldEq.more (fe_one (by decide) Tryd.underlying9 rfl (eqt_txt Tryd.underlying9) (fun a => GValue.sub3 a)) (by decide : 1 ≤ 1)), trivial⟩ (fun a b => by
    cases a; cases b
    simp)

/-! lex.all -/
noncomputable def g_lex_all_i0_l0 (s0 : List UInt8) : Int → Option (Int ⊕ (Bool ⊕ Unit))
  | t8_0 => (if t8_0 < (s0.length : Int) then if 0 ≤ t8_0 ∧ t8_0 < (s0.length : Int) then (g_lex_inName (lrd s0 t8_0.toNat)).bind fun r'1 => (if (!r'1) = true then some (.inr (.inl false)) else some (.inl (w64 (t8_0 + (1 : Int))))) else none else some (.inr (.inr ())))
noncomputable def g_lex_all_i0 (s0 : List UInt8) : Option (Bool) :=
  (loopO (g_lex_all_i0_l0 s0) (0 : Int)).bind fun o'5 => match o'5 with | .inl y'6 => some y'6 | .inr (y'7) => some (decide (s0 ≠ []))
set_option maxHeartbeats 4000000 in
set_option maxRecDepth 100000 in
theorem g_lex_all_i0_ac {s0 : List UInt8} {r : Bool} (H : g_lex_all_i0 s0 = some r) : ACp Tryd.prog 33 [(AV.txt s0), .clo 34 []] (AV.bool r) := by
 refine ACp_of (AC2_of_body (vs := [.b r]) Tryd.func33 Y Y (Nat.le_of_ble_eq_true Y) Y ?_) (fun _ => .same _)
 unfold g_lex_all_i0 at H
 refine AW2_st [(0, .t s0), (1, .clo 34 [])] [] Y ⟨TLes.same _, (fun _ => .same _), trivial⟩ trivial ?_
 refine sg [0] Y ?_
 refine rp Y Y (p_asg Y Y) ?_
 refine RunW_st [(0, .t s0), (1, .clo 34 [])] [] Y ⟨TLes.same _, (fun _ => .same _), trivial⟩ trivial ?_
 refine RunW_nil ?_
 refine AW2_seq ?_
 refine sg [0, 1, 2] Y ?_
 refine rp Y Y (p_move Y Y) ?_
 refine rp Y Y (p_lent Y Tryd.underlying9 Y) ?_
 refine rp Y Y (p_move Y Y) ?_
 refine RunW_st [(0, .t s0), (1, .clo 34 []), (7, .i (s0.length : Int)), (8, .i (0 : Int))] [] Y ⟨TLes.same _, (fun _ => .same _), TLes.same _, TLes.same _, trivial⟩ trivial ?_
 refine RunW_nil ?_
 refine AW2_block ?_
 refine AW2_st [(0, .t s0), (1, .clo 34 []), (7, .i (s0.length : Int)), (8, .i (0 : Int))] [] Y ⟨TLes.same _, (fun _ => .same _), TLes.same _, TLes.same _, trivial⟩ trivial ?_
 refine bindK H fun o'5 h5 H => ?_
 refine AW2_loopO (fun a'2 : Int => (⟨[(0, .t s0), (1, .clo 34 []), (7, .i (s0.length : Int)), (8, .i a'2)], [], 20⟩ : TS)) (fun (o : Bool ⊕ Unit) e s' => match o with | .inl y'3 => e = Go.Exit.ret ∧ ResAll Tryd.prog s' [ResultVar.tmp 4] [.b y'3] ∧ HFits s' [] | .inr (y'4) => e = Go.Exit.exit 0 ∧ s' = (⟨[(0, .t s0)], [], 20⟩ : TS)) h5 Y (fun t8_0 x hx => ?_) (fun e s' hs => ?_)
 ·clear H
  have H := hx
  clear hx
  unfold g_lex_all_i0_l0 at H
  refine sg [0] Y ?_
  refine rp Y Y (p_bin Y Y Y Y) ?_
  refine RunW_st [(0, .t s0), (1, .clo 34 []), (7, .i (s0.length : Int)), (8, .i t8_0), (9, .b (decide (t8_0 < (s0.length : Int))))] [] Y ⟨TLes.same _, (fun _ => .same _), TLes.same _, TLes.same _, TLes.same _, trivial⟩ trivial ?_
  refine RunW_nil ?_
  refine AW2_seq ?_
  refine AW2_if (p := t8_0 < (s0.length : Int)) Y (fun h1 => ?_) (fun h1 => ?_)
  ·replace H := ite_then h1 H
   refine AW2_st [(0, .t s0), (1, .clo 34 []), (7, .i (s0.length : Int)), (8, .i t8_0)] [] Y ⟨TLes.same _, (fun _ => .same _), TLes.same _, TLes.same _, trivial⟩ trivial ?_
   refine AW2_skip ?_
   refine AW2_seq ?_
   refine AW2_block ?_
   refine sg [0, 1] Y ?_
   refine rp Y Y (p_move Y Y) ?_
   refine rp Y Y (p_asg Y Y) ?_
   refine RunW_st [(0, .t s0), (1, .clo 34 []), (5, .i t8_0), (7, .i (s0.length : Int)), (8, .i t8_0)] [] Y ⟨TLes.same _, (fun _ => .same _), TLes.same _, TLes.same _, TLes.same _, trivial⟩ trivial ?_
   refine RunW_nil ?_
   refine sg [0, 1, 2, 3, 4, 5] Y ?_
   refine rp Y Y (p_move Y Y) ?_
   refine rp Y Y (p_move Y Y) ?_
   refine rp Y Y (p_move Y Y) ?_
   refine chkK H fun h2 H => ?_
   refine rp Y Y (p_ixt Y Tryd.underlying9 Y Y (ixe h2) (lrd_get (ixn h2))) ?_
   refine bindK H fun r'1 h3 H => ?_
   refine rp Y Y (p_callp Y Y Y Tryd.func34 Y Y (g_lex_inName_ac h3) ⟨Y, trivial⟩) ?_
   refine rp Y Y (p_not Y Y) ?_
   refine RunW_st [(0, .t s0), (1, .clo 34 []), (7, .i (s0.length : Int)), (8, .i t8_0), (16, .b (!r'1))] [] Y ⟨TLes.same _, (fun _ => .same _), TLes.same _, TLes.same _, TLes.same _, trivial⟩ trivial ?_
   refine RunW_nil ?_
   refine AW2_cond Y (fun h4 => ?_) (fun h4 => ?_)
   ·replace H := ite_then h4 H
    refine sg [0] Y ?_
    refine rp Y Y (p_asg Y Y) ?_
    refine rz [(4, .b false)] [] Y Y Y ?_
    refine AW2_ret ?_
    have hz := some_elim H
    subst hz
    exact ⟨Y, ⟨res_tmp (.same _), trivial⟩, trivial⟩
   ·replace H := ite_else (ne_true h4) H
    refine AW2_st [(0, .t s0), (1, .clo 34 []), (7, .i (s0.length : Int)), (8, .i t8_0)] [] Y ⟨TLes.same _, (fun _ => .same _), TLes.same _, TLes.same _, trivial⟩ trivial ?_
    refine AW2_skip ?_
    refine AW2_reg [0, 1] Y ?_
    refine rp Y Y (p_bin Y Y Y Y) ?_
    refine rp Y Y (p_move Y Y) ?_
    refine RunW_st [(0, .t s0), (1, .clo 34 []), (7, .i (s0.length : Int)), (8, .i (w64 (t8_0 + (1 : Int))))] [] Y ⟨TLes.same _, (fun _ => .same _), TLes.same _, TLes.same _, trivial⟩ trivial ?_
    refine RunW_nil ?_
    have hz := some_elim H
    subst hz
    exact ⟨Y, Y⟩
  ·replace H := ite_else h1 H
   refine as2 [(0, .t s0)] [] Y Y Y ?_
   refine AW2_exit ?_
   refine thenQ2_exit ?_
   have hz := some_elim H
   subst hz
   exact ⟨Y, Y⟩
 ·rcases o'5 with y'6 | y'7
  ·obtain ⟨rfl, hs⟩ := hs
   refine ⟨by simp, ?_⟩
   have hz := some_elim H
   subst hz
   exact ⟨hs.1, hs.2⟩
  ·obtain ⟨rfl, rfl⟩ := hs
   refine ⟨by simp, ?_⟩
   refine blockQ2_exit ?_
   refine sg [0, 1, 2] Y ?_
   refine rp Y Y (p_move Y Y) ?_
   refine rp Y Y (p_sne Y Y Y) ?_
   refine rp Y Y (p_asg Y Y) ?_
   refine rz [(4, .b (decide (s0 ≠ [])))] [] Y Y Y ?_
   refine AW2_ret ?_
   have hz := some_elim H
   subst hz
   exact ⟨⟨res_tmp (.same _), trivial⟩, trivial⟩

/-! lex.all -/
noncomputable def g_lex_all_i1_l0 (s0 : List UInt8) : Int → Option (Int ⊕ (Bool ⊕ Unit))
  | t8_0 => (if t8_0 < (s0.length : Int) then if 0 ≤ t8_0 ∧ t8_0 < (s0.length : Int) then (g_lex_great (lrd s0 t8_0.toNat)).bind fun r'1 => (if (!r'1) = true then some (.inr (.inl false)) else some (.inl (w64 (t8_0 + (1 : Int))))) else none else some (.inr (.inr ())))
noncomputable def g_lex_all_i1 (s0 : List UInt8) : Option (Bool) :=
  (loopO (g_lex_all_i1_l0 s0) (0 : Int)).bind fun o'5 => match o'5 with | .inl y'6 => some y'6 | .inr (y'7) => some (decide (s0 ≠ []))
set_option maxHeartbeats 4000000 in
set_option maxRecDepth 100000 in
theorem g_lex_all_i1_ac {s0 : List UInt8} {r : Bool} (H : g_lex_all_i1 s0 = some r) : ACp Tryd.prog 33 [(AV.txt s0), .clo 36 []] (AV.bool r) := by
 refine ACp_of (AC2_of_body (vs := [.b r]) Tryd.func33 Y Y (Nat.le_of_ble_eq_true Y) Y ?_) (fun _ => .same _)
 unfold g_lex_all_i1 at H
 refine AW2_st [(0, .t s0), (1, .clo 36 [])] [] Y ⟨TLes.same _, (fun _ => .same _), trivial⟩ trivial ?_
 refine sg [0] Y ?_
 refine rp Y Y (p_asg Y Y) ?_
 refine RunW_st [(0, .t s0), (1, .clo 36 [])] [] Y ⟨TLes.same _, (fun _ => .same _), trivial⟩ trivial ?_
 refine RunW_nil ?_
 refine AW2_seq ?_
 refine sg [0, 1, 2] Y ?_
 refine rp Y Y (p_move Y Y) ?_
 refine rp Y Y (p_lent Y Tryd.underlying9 Y) ?_
 refine rp Y Y (p_move Y Y) ?_
 refine RunW_st [(0, .t s0), (1, .clo 36 []), (7, .i (s0.length : Int)), (8, .i (0 : Int))] [] Y ⟨TLes.same _, (fun _ => .same _), TLes.same _, TLes.same _, trivial⟩ trivial ?_
 refine RunW_nil ?_
 refine AW2_block ?_
 refine AW2_st [(0, .t s0), (1, .clo 36 []), (7, .i (s0.length : Int)), (8, .i (0 : Int))] [] Y ⟨TLes.same _, (fun _ => .same _), TLes.same _, TLes.same _, trivial⟩ trivial ?_
 refine bindK H fun o'5 h5 H => ?_
 refine AW2_loopO (fun a'2 : Int => (⟨[(0, .t s0), (1, .clo 36 []), (7, .i (s0.length : Int)), (8, .i a'2)], [], 20⟩ : TS)) (fun (o : Bool ⊕ Unit) e s' => match o with | .inl y'3 => e = Go.Exit.ret ∧ ResAll Tryd.prog s' [ResultVar.tmp 4] [.b y'3] ∧ HFits s' [] | .inr (y'4) => e = Go.Exit.exit 0 ∧ s' = (⟨[(0, .t s0)], [], 20⟩ : TS)) h5 Y (fun t8_0 x hx => ?_) (fun e s' hs => ?_)
 ·clear H
  have H := hx
  clear hx
  unfold g_lex_all_i1_l0 at H
  refine sg [0] Y ?_
  refine rp Y Y (p_bin Y Y Y Y) ?_
  refine RunW_st [(0, .t s0), (1, .clo 36 []), (7, .i (s0.length : Int)), (8, .i t8_0), (9, .b (decide (t8_0 < (s0.length : Int))))] [] Y ⟨TLes.same _, (fun _ => .same _), TLes.same _, TLes.same _, TLes.same _, trivial⟩ trivial ?_
  refine RunW_nil ?_
  refine AW2_seq ?_
  refine AW2_if (p := t8_0 < (s0.length : Int)) Y (fun h1 => ?_) (fun h1 => ?_)
  ·replace H := ite_then h1 H
   refine AW2_st [(0, .t s0), (1, .clo 36 []), (7, .i (s0.length : Int)), (8, .i t8_0)] [] Y ⟨TLes.same _, (fun _ => .same _), TLes.same _, TLes.same _, trivial⟩ trivial ?_
   refine AW2_skip ?_
   refine AW2_seq ?_
   refine AW2_block ?_
   refine sg [0, 1] Y ?_
   refine rp Y Y (p_move Y Y) ?_
   refine rp Y Y (p_asg Y Y) ?_
   refine RunW_st [(0, .t s0), (1, .clo 36 []), (5, .i t8_0), (7, .i (s0.length : Int)), (8, .i t8_0)] [] Y ⟨TLes.same _, (fun _ => .same _), TLes.same _, TLes.same _, TLes.same _, trivial⟩ trivial ?_
   refine RunW_nil ?_
   refine sg [0, 1, 2, 3, 4, 5] Y ?_
   refine rp Y Y (p_move Y Y) ?_
   refine rp Y Y (p_move Y Y) ?_
   refine rp Y Y (p_move Y Y) ?_
   refine chkK H fun h2 H => ?_
   refine rp Y Y (p_ixt Y Tryd.underlying9 Y Y (ixe h2) (lrd_get (ixn h2))) ?_
   refine bindK H fun r'1 h3 H => ?_
   refine rp Y Y (p_callp Y Y Y Tryd.func36 Y Y (g_lex_great_ac h3) ⟨Y, trivial⟩) ?_
   refine rp Y Y (p_not Y Y) ?_
   refine RunW_st [(0, .t s0), (1, .clo 36 []), (7, .i (s0.length : Int)), (8, .i t8_0), (16, .b (!r'1))] [] Y ⟨TLes.same _, (fun _ => .same _), TLes.same _, TLes.same _, TLes.same _, trivial⟩ trivial ?_
   refine RunW_nil ?_
   refine AW2_cond Y (fun h4 => ?_) (fun h4 => ?_)
   ·replace H := ite_then h4 H
    refine sg [0] Y ?_
    refine rp Y Y (p_asg Y Y) ?_
    refine rz [(4, .b false)] [] Y Y Y ?_
    refine AW2_ret ?_
    have hz := some_elim H
    subst hz
    exact ⟨Y, ⟨res_tmp (.same _), trivial⟩, trivial⟩
   ·replace H := ite_else (ne_true h4) H
    refine AW2_st [(0, .t s0), (1, .clo 36 []), (7, .i (s0.length : Int)), (8, .i t8_0)] [] Y ⟨TLes.same _, (fun _ => .same _), TLes.same _, TLes.same _, trivial⟩ trivial ?_
    refine AW2_skip ?_
    refine AW2_reg [0, 1] Y ?_
    refine rp Y Y (p_bin Y Y Y Y) ?_
    refine rp Y Y (p_move Y Y) ?_
    refine RunW_st [(0, .t s0), (1, .clo 36 []), (7, .i (s0.length : Int)), (8, .i (w64 (t8_0 + (1 : Int))))] [] Y ⟨TLes.same _, (fun _ => .same _), TLes.same _, TLes.same _, trivial⟩ trivial ?_
    refine RunW_nil ?_
    have hz := some_elim H
    subst hz
    exact ⟨Y, Y⟩
  ·replace H := ite_else h1 H
   refine as2 [(0, .t s0)] [] Y Y Y ?_
   refine AW2_exit ?_
   refine thenQ2_exit ?_
   have hz := some_elim H
   subst hz
   exact ⟨Y, Y⟩
 ·rcases o'5 with y'6 | y'7
  ·obtain ⟨rfl, hs⟩ := hs
   refine ⟨by simp, ?_⟩
   have hz := some_elim H
   subst hz
   exact ⟨hs.1, hs.2⟩
  ·obtain ⟨rfl, rfl⟩ := hs
   refine ⟨by simp, ?_⟩
   refine blockQ2_exit ?_
   refine sg [0, 1, 2] Y ?_
   refine rp Y Y (p_move Y Y) ?_
   refine rp Y Y (p_sne Y Y Y) ?_
   refine rp Y Y (p_asg Y Y) ?_
   refine rz [(4, .b (decide (s0 ≠ [])))] [] Y Y Y ?_
   refine AW2_ret ?_
   have hz := some_elim H
   subst hz
   exact ⟨⟨res_tmp (.same _), trivial⟩, trivial⟩

/-! lex.Check -/
noncomputable def g_lex_Check (t0 : GToken) : Option (Int) :=
  (if (t0.Kind < (1 : Int)) ∨ (t0.Kind > (6 : Int)) then some (2 : Int) else letO (decide (((t0.Kind = (4 : Int)) ∧ ((t0.Text.length : Int) > (40 : Int))) ∨ (((t0.Kind = (1 : Int)) ∨ (t0.Kind = (2 : Int))) ∧ ((t0.Text.length : Int) > (8 : Int))))) fun t36'1 => (if t36'1 = true then some (1 : Int) else letO (decide ((((t0.Kind ≠ (3 : Int)) ∧ (t0.Int_ ≠ (0 : Int))) ∨ ((t0.Kind ≠ (5 : Int)) ∧ (t0.Bits ≠ (0 : UInt64)))) ∨ (((t0.Kind = (3 : Int)) ∨ (t0.Kind = (5 : Int))) ∧ (t0.Text ≠ [])))) fun t69'2 => (if t69'2 = true then some (3 : Int) else ((if t0.Kind = (1 : Int) then ((g_lex_all_i0 t0.Text).bind fun r'5 => (if r'5 = true then if 0 < t0.Text.length then (g_lex_small (lrd t0.Text 0)).bind fun r'6 => some r'6 else none else some false)).bind fun g'7 => some g'7 else (if t0.Kind = (2 : Int) then (g_lex_all_i1 t0.Text).bind fun r'8 => some r'8 else (if t0.Kind = (3 : Int) then some (decide (t0.Int_ ≥ (0 : Int))) else (if t0.Kind = (4 : Int) then (g_utf8_ValidString t0.Text).bind fun r'9 => some r'9 else (if t0.Kind = (5 : Int) then (g_value_Check ({ { GValue.zero with Kind := (3 : Int) } with Bits := t0.Bits })).bind fun r'10 => some (decide (r'10 = (0 : Int))) else (if t0.Kind = (6 : Int) then (g_lex_sign t0.Text).bind fun r'11 => some r'11 else some true))))))).bind fun j'3 => (if (!j'3) = true then some (3 : Int) else some (0 : Int)))))
set_option maxHeartbeats 4000000 in
set_option maxRecDepth 100000 in
theorem g_lex_Check_ac {t0 : GToken} {r : Int} (H : g_lex_Check t0 = some r) : ACp Tryd.prog 17 [(.agg (GToken.cs t0))] (AV.int r) := by
 refine ACp_of (AC2_of_body (vs := [.i r]) Tryd.func17 Y Y (Nat.le_of_ble_eq_true Y) Y ?_) (fun _ => .same _)
 unfold g_lex_Check at H
 refine as2 [(0, .g (GToken.cs t0))] [] Y Y Y ?_
 refine sg [0, 1] Y ?_
 refine r_op Y Y (MakeD.opD (n_box 1 Y Y) Y Y Y Y) ?_
 refine rp Y Y (p_asg Y Y) ?_
 refine rz [(1, .q 1 (0))] [(1, .pure (GToken.cs t0))] Y Y Y ?_
 refine AW2_seq ?_
 refine AW2_seq ?_
 refine AW2_mid (⟨[(1, .q 1 (0)), (11, .b (decide ((t0.Kind < (1 : Int)) ∨ (t0.Kind > (6 : Int)))))], [(1, .pure (GToken.cs t0))], 112⟩ : TS) ?_ ?_
 ·refine AW2_reg [0, 1, 2, 3, 4, 5, 6, 7] Y ?_
  refine rp Y Y (u_fa Y Y Tryd.underlying52 Y in_3 nz Y Y (nl (GToken.len t0))) ?_
  refine rp Y Y (u_ld Y Y Tryd.underlying3 Y Y ((Sub.refl _).trans (GToken.sub0 t0))) ?_
  refine rp Y Y (p_bin Y Y Y Y) ?_
  refine rp Y Y (p_move Y Y) ?_
  refine (Classical.em (t0.Kind < (1 : Int))).elim (fun h1 => ?_) (fun h1 => ?_)
  ·iterate 3 (refine r_off rfl rfl rfl rfl (dT h1) rfl rfl ?_)
   refine rp Y Y (p_pkt Y Y (dT h1) (tb (dT (p := (t0.Kind < (1 : Int)) ∨ (t0.Kind > (6 : Int))) (Or.inl h1)).symm)) ?_
   refine rs [(1, .q 1 (0)), (11, .b (decide ((t0.Kind < (1 : Int)) ∨ (t0.Kind > (6 : Int)))))] [(1, .pure (GToken.cs t0))] Y Y Y ?_
   exact RunW_nil rfl
  ·refine r_on Y Y Y Y (dF h1) Y (PureD.opD (u_fa Y Y Tryd.underlying52 Y in_3 nz Y Y (nl (GToken.len t0)))) ?_
   refine r_on Y Y Y Y (dF h1) Y (PureD.opD (u_ld Y Y Tryd.underlying3 Y Y ((Sub.refl _).trans (GToken.sub0 t0)))) ?_
   refine r_on Y Y Y Y (dF h1) Y (PureD.opD (p_bin Y Y Y Y)) ?_
   refine rp Y Y (p_pkf Y Y (dF h1) (tb ((or_l (p := t0.Kind < (1 : Int)) (q := t0.Kind > (6 : Int)) h1)))) ?_
   refine rs [(1, .q 1 (0)), (11, .b (decide ((t0.Kind < (1 : Int)) ∨ (t0.Kind > (6 : Int)))))] [(1, .pure (GToken.cs t0))] Y Y Y ?_
   exact RunW_nil rfl
 ·refine AW2_if (p := (t0.Kind < (1 : Int)) ∨ (t0.Kind > (6 : Int))) Y (fun h2 => ?_) (fun h2 => ?_)
  ·replace H := ite_then h2 H
   refine sg [0] Y ?_
   refine rp Y Y (p_asg Y Y) ?_
   refine rz [(2, .i (2 : Int))] [] Y Y Y ?_
   refine AW2_ret ?_
   have hz := some_elim H
   subst hz
   exact ⟨⟨res_tmp (.same _), trivial⟩, trivial⟩
  ·replace H := ite_else h2 H
   refine as2 [(1, .q 1 (0))] [(1, .pure (GToken.cs t0))] Y Y Y ?_
   refine AW2_skip ?_
   refine AW2_seq ?_
   refine AW2_seq ?_
   refine AW2_mid (⟨[(1, .q 1 (0)), (36, .b (decide (((t0.Kind = (4 : Int)) ∧ ((t0.Text.length : Int) > (40 : Int))) ∨ (((t0.Kind = (1 : Int)) ∨ (t0.Kind = (2 : Int))) ∧ ((t0.Text.length : Int) > (8 : Int))))))], [(1, .pure (GToken.cs t0))], 112⟩ : TS) ?_ ?_
   ·refine AW2_reg [0, 1, 2, 3, 4, 5, 6, 7, 8, 9, 10, 11, 12, 13, 14, 15, 16, 17, 18, 19, 20, 21, 22, 23, 24] Y ?_
    refine rp Y Y (u_fa Y Y Tryd.underlying52 Y in_3 nz Y Y (nl (GToken.len t0))) ?_
    refine rp Y Y (u_ld Y Y Tryd.underlying3 Y Y ((Sub.refl _).trans (GToken.sub0 t0))) ?_
    refine rp Y Y (p_ieq Y Y Y) ?_
    refine rp Y Y (p_move Y Y) ?_
    refine (Classical.em (t0.Kind = (4 : Int))).elim (fun h3 => ?_) (fun h3 => ?_)
    ·refine r_on Y Y Y Y (dT h3) Y (PureD.opD (u_fa Y Y Tryd.underlying52 Y in_9 nz Y Y (nl (GToken.len t0)))) ?_
     refine r_on Y Y Y Y (dT h3) Y (PureD.opD (u_ld Y Y Tryd.underlying9 Y Y ((Sub.refl _).trans (GToken.sub1 t0)))) ?_
     refine r_on Y Y Y Y (dT h3) Y (PureD.opD (p_lent Y Tryd.underlying9 Y)) ?_
     refine r_on Y Y Y Y (dT h3) Y (PureD.opD (p_bin Y Y Y Y)) ?_
     refine rp Y Y (p_pkt Y Y (dT h3) (tb ((and_l (p := t0.Kind = (4 : Int)) (q := (t0.Text.length : Int) > (40 : Int)) h3)))) ?_
     refine rp Y Y (p_move Y Y) ?_
     refine (Classical.em ((t0.Text.length : Int) > (40 : Int))).elim (fun h4 => ?_) (fun h4 => ?_)
     ·have qq1 := dT (p := (t0.Kind = (4 : Int)) ∧ ((t0.Text.length : Int) > (40 : Int))) ⟨h3, h4⟩
      iterate 4 (refine r_off rfl rfl rfl rfl qq1 rfl rfl ?_)
      iterate 3 (refine r_off2 rfl rfl rfl rfl rfl rfl ?_)
      iterate 2 (refine r_off rfl rfl rfl rfl qq1 rfl rfl ?_)
      iterate 4 (refine r_off2 rfl rfl rfl rfl rfl rfl ?_)
      refine r_off Y Y Y Y qq1 Y Y ?_
      refine rp Y Y (p_pkt Y Y qq1 (tb (dT (p := ((t0.Kind = (4 : Int)) ∧ ((t0.Text.length : Int) > (40 : Int))) ∨ (((t0.Kind = (1 : Int)) ∨ (t0.Kind = (2 : Int))) ∧ ((t0.Text.length : Int) > (8 : Int)))) (Or.inl ⟨h3, h4⟩)).symm)) ?_
      refine rs [(1, .q 1 (0)), (36, .b (decide (((t0.Kind = (4 : Int)) ∧ ((t0.Text.length : Int) > (40 : Int))) ∨ (((t0.Kind = (1 : Int)) ∨ (t0.Kind = (2 : Int))) ∧ ((t0.Text.length : Int) > (8 : Int))))))] [(1, .pure (GToken.cs t0))] Y Y Y ?_
      exact RunW_nil rfl
     ·have qq2 := dF (p := (t0.Kind = (4 : Int)) ∧ ((t0.Text.length : Int) > (40 : Int))) (fun h => h4 h.2)
      refine rn Y Y Y Y qq2 Y (u_fa Y Y Tryd.underlying52 Y in_3 nz Y Y (nl (GToken.len t0))) ?_
      refine rn Y Y Y Y qq2 Y (u_ld Y Y Tryd.underlying3 Y Y ((Sub.refl _).trans (GToken.sub0 t0))) ?_
      refine rn Y Y Y Y qq2 Y (p_ieq Y Y Y) ?_
      refine rn Y Y Y Y qq2 Y (p_move Y Y) ?_
      refine (Classical.em (t0.Kind = (1 : Int))).elim (fun h5 => ?_) (fun h5 => ?_)
      ·iterate 3 (refine r_off rfl rfl rfl rfl (dT h5) rfl rfl ?_)
       have qq3 := dT (p := (t0.Kind = (1 : Int)) ∨ (t0.Kind = (2 : Int))) (Or.inl h5)
       refine rn Y Y Y Y qq2 Y (p_pkt Y Y (dT h5) (tb qq3.symm)) ?_
       refine rn Y Y Y Y qq2 Y (p_move Y Y) ?_
       refine rn Y Y Y Y qq3 Y (u_fa Y Y Tryd.underlying52 Y in_9 nz Y Y (nl (GToken.len t0))) ?_
       refine rn Y Y Y Y qq3 Y (u_ld Y Y Tryd.underlying9 Y Y ((Sub.refl _).trans (GToken.sub1 t0))) ?_
       refine rn Y Y Y Y qq3 Y (p_lent Y Tryd.underlying9 Y) ?_
       refine rn Y Y Y Y qq3 Y (p_bin Y Y Y Y) ?_
       refine rn Y Y Y Y qq2 Y (p_pkt Y Y qq3 (tb ((and_l (p := (t0.Kind = (1 : Int)) ∨ (t0.Kind = (2 : Int))) (q := (t0.Text.length : Int) > (8 : Int)) (Or.inl h5))))) ?_
       refine rp Y Y (p_pkf Y Y qq2 (tb ((or_l (p := (t0.Kind = (4 : Int)) ∧ ((t0.Text.length : Int) > (40 : Int))) (q := ((t0.Kind = (1 : Int)) ∨ (t0.Kind = (2 : Int))) ∧ ((t0.Text.length : Int) > (8 : Int))) (fun h => h4 h.2))))) ?_
       refine rs [(1, .q 1 (0)), (36, .b (decide (((t0.Kind = (4 : Int)) ∧ ((t0.Text.length : Int) > (40 : Int))) ∨ (((t0.Kind = (1 : Int)) ∨ (t0.Kind = (2 : Int))) ∧ ((t0.Text.length : Int) > (8 : Int))))))] [(1, .pure (GToken.cs t0))] Y Y Y ?_
       exact RunW_nil rfl
      ·refine r_on Y Y Y Y (dF h5) Y (PureD.opD (u_fa Y Y Tryd.underlying52 Y in_3 nz Y Y (nl (GToken.len t0)))) ?_
       refine r_on Y Y Y Y (dF h5) Y (PureD.opD (u_ld Y Y Tryd.underlying3 Y Y ((Sub.refl _).trans (GToken.sub0 t0)))) ?_
       refine r_on Y Y Y Y (dF h5) Y (PureD.opD (p_ieq Y Y Y)) ?_
       refine rn Y Y Y Y qq2 Y (p_pkf Y Y (dF h5) (tb ((or_l (p := t0.Kind = (1 : Int)) (q := t0.Kind = (2 : Int)) h5)))) ?_
       refine rn Y Y Y Y qq2 Y (p_move Y Y) ?_
       refine (Classical.em (t0.Kind = (2 : Int))).elim (fun h6 => ?_) (fun h6 => ?_)
       ·have qq4 := dT (p := (t0.Kind = (1 : Int)) ∨ (t0.Kind = (2 : Int))) (Or.inr h6)
        refine rn Y Y Y Y qq4 Y (u_fa Y Y Tryd.underlying52 Y in_9 nz Y Y (nl (GToken.len t0))) ?_
        refine rn Y Y Y Y qq4 Y (u_ld Y Y Tryd.underlying9 Y Y ((Sub.refl _).trans (GToken.sub1 t0))) ?_
        refine rn Y Y Y Y qq4 Y (p_lent Y Tryd.underlying9 Y) ?_
        refine rn Y Y Y Y qq4 Y (p_bin Y Y Y Y) ?_
        refine rn Y Y Y Y qq2 Y (p_pkt Y Y qq4 (tb ((and_l (p := (t0.Kind = (1 : Int)) ∨ (t0.Kind = (2 : Int))) (q := (t0.Text.length : Int) > (8 : Int)) (Or.inr h6))))) ?_
        refine rp Y Y (p_pkf Y Y qq2 (tb ((or_l (p := (t0.Kind = (4 : Int)) ∧ ((t0.Text.length : Int) > (40 : Int))) (q := ((t0.Kind = (1 : Int)) ∨ (t0.Kind = (2 : Int))) ∧ ((t0.Text.length : Int) > (8 : Int))) (fun h => h4 h.2))))) ?_
        refine rs [(1, .q 1 (0)), (36, .b (decide (((t0.Kind = (4 : Int)) ∧ ((t0.Text.length : Int) > (40 : Int))) ∨ (((t0.Kind = (1 : Int)) ∨ (t0.Kind = (2 : Int))) ∧ ((t0.Text.length : Int) > (8 : Int))))))] [(1, .pure (GToken.cs t0))] Y Y Y ?_
        exact RunW_nil rfl
       ·have qq5 := dF (p := (t0.Kind = (1 : Int)) ∨ (t0.Kind = (2 : Int))) (not_or.2 ⟨h5, h6⟩)
        iterate 4 (refine r_off rfl rfl rfl rfl qq5 rfl rfl ?_)
        refine rn Y Y Y Y qq2 Y (p_pkf Y Y qq5 (tb (dF (p := ((t0.Kind = (1 : Int)) ∨ (t0.Kind = (2 : Int))) ∧ ((t0.Text.length : Int) > (8 : Int))) (fun x => (not_or.2 ⟨h5, h6⟩) x.1)).symm)) ?_
        refine rp Y Y (p_pkf Y Y qq2 (tb ((or_l (p := (t0.Kind = (4 : Int)) ∧ ((t0.Text.length : Int) > (40 : Int))) (q := ((t0.Kind = (1 : Int)) ∨ (t0.Kind = (2 : Int))) ∧ ((t0.Text.length : Int) > (8 : Int))) (fun h => h4 h.2))))) ?_
        refine rs [(1, .q 1 (0)), (36, .b (decide (((t0.Kind = (4 : Int)) ∧ ((t0.Text.length : Int) > (40 : Int))) ∨ (((t0.Kind = (1 : Int)) ∨ (t0.Kind = (2 : Int))) ∧ ((t0.Text.length : Int) > (8 : Int))))))] [(1, .pure (GToken.cs t0))] Y Y Y ?_
        exact RunW_nil rfl
    ·iterate 4 (refine r_off rfl rfl rfl rfl (dF h3) rfl rfl ?_)
     refine rp Y Y (p_pkf Y Y (dF h3) (tb (dF (p := (t0.Kind = (4 : Int)) ∧ ((t0.Text.length : Int) > (40 : Int))) (fun x => h3 x.1)).symm)) ?_
     refine rp Y Y (p_move Y Y) ?_
     have qq6 := dF (p := (t0.Kind = (4 : Int)) ∧ ((t0.Text.length : Int) > (40 : Int))) (fun h => h3 h.1)
     refine rn Y Y Y Y qq6 Y (u_fa Y Y Tryd.underlying52 Y in_3 nz Y Y (nl (GToken.len t0))) ?_
     refine rn Y Y Y Y qq6 Y (u_ld Y Y Tryd.underlying3 Y Y ((Sub.refl _).trans (GToken.sub0 t0))) ?_
     refine rn Y Y Y Y qq6 Y (p_ieq Y Y Y) ?_
     refine rn Y Y Y Y qq6 Y (p_move Y Y) ?_
     refine (Classical.em (t0.Kind = (1 : Int))).elim (fun h7 => ?_) (fun h7 => ?_)
     ·iterate 3 (refine r_off rfl rfl rfl rfl (dT h7) rfl rfl ?_)
      have qq7 := dT (p := (t0.Kind = (1 : Int)) ∨ (t0.Kind = (2 : Int))) (Or.inl h7)
      refine rn Y Y Y Y qq6 Y (p_pkt Y Y (dT h7) (tb qq7.symm)) ?_
      refine rn Y Y Y Y qq6 Y (p_move Y Y) ?_
      refine rn Y Y Y Y qq7 Y (u_fa Y Y Tryd.underlying52 Y in_9 nz Y Y (nl (GToken.len t0))) ?_
      refine rn Y Y Y Y qq7 Y (u_ld Y Y Tryd.underlying9 Y Y ((Sub.refl _).trans (GToken.sub1 t0))) ?_
      refine rn Y Y Y Y qq7 Y (p_lent Y Tryd.underlying9 Y) ?_
      refine rn Y Y Y Y qq7 Y (p_bin Y Y Y Y) ?_
      refine rn Y Y Y Y qq6 Y (p_pkt Y Y qq7 (tb ((and_l (p := (t0.Kind = (1 : Int)) ∨ (t0.Kind = (2 : Int))) (q := (t0.Text.length : Int) > (8 : Int)) (Or.inl h7))))) ?_
      refine rp Y Y (p_pkf Y Y qq6 (tb ((or_l (p := (t0.Kind = (4 : Int)) ∧ ((t0.Text.length : Int) > (40 : Int))) (q := ((t0.Kind = (1 : Int)) ∨ (t0.Kind = (2 : Int))) ∧ ((t0.Text.length : Int) > (8 : Int))) (fun h => h3 h.1))))) ?_
      refine rs [(1, .q 1 (0)), (36, .b (decide (((t0.Kind = (4 : Int)) ∧ ((t0.Text.length : Int) > (40 : Int))) ∨ (((t0.Kind = (1 : Int)) ∨ (t0.Kind = (2 : Int))) ∧ ((t0.Text.length : Int) > (8 : Int))))))] [(1, .pure (GToken.cs t0))] Y Y Y ?_
      exact RunW_nil rfl
     ·refine r_on Y Y Y Y (dF h7) Y (PureD.opD (u_fa Y Y Tryd.underlying52 Y in_3 nz Y Y (nl (GToken.len t0)))) ?_
      refine r_on Y Y Y Y (dF h7) Y (PureD.opD (u_ld Y Y Tryd.underlying3 Y Y ((Sub.refl _).trans (GToken.sub0 t0)))) ?_
      refine r_on Y Y Y Y (dF h7) Y (PureD.opD (p_ieq Y Y Y)) ?_
      refine rn Y Y Y Y qq6 Y (p_pkf Y Y (dF h7) (tb ((or_l (p := t0.Kind = (1 : Int)) (q := t0.Kind = (2 : Int)) h7)))) ?_
      refine rn Y Y Y Y qq6 Y (p_move Y Y) ?_
      refine (Classical.em (t0.Kind = (2 : Int))).elim (fun h8 => ?_) (fun h8 => ?_)
      ·have qq8 := dT (p := (t0.Kind = (1 : Int)) ∨ (t0.Kind = (2 : Int))) (Or.inr h8)
       refine rn Y Y Y Y qq8 Y (u_fa Y Y Tryd.underlying52 Y in_9 nz Y Y (nl (GToken.len t0))) ?_
       refine rn Y Y Y Y qq8 Y (u_ld Y Y Tryd.underlying9 Y Y ((Sub.refl _).trans (GToken.sub1 t0))) ?_
       refine rn Y Y Y Y qq8 Y (p_lent Y Tryd.underlying9 Y) ?_
       refine rn Y Y Y Y qq8 Y (p_bin Y Y Y Y) ?_
       refine rn Y Y Y Y qq6 Y (p_pkt Y Y qq8 (tb ((and_l (p := (t0.Kind = (1 : Int)) ∨ (t0.Kind = (2 : Int))) (q := (t0.Text.length : Int) > (8 : Int)) (Or.inr h8))))) ?_
       refine rp Y Y (p_pkf Y Y qq6 (tb ((or_l (p := (t0.Kind = (4 : Int)) ∧ ((t0.Text.length : Int) > (40 : Int))) (q := ((t0.Kind = (1 : Int)) ∨ (t0.Kind = (2 : Int))) ∧ ((t0.Text.length : Int) > (8 : Int))) (fun h => h3 h.1))))) ?_
       refine rs [(1, .q 1 (0)), (36, .b (decide (((t0.Kind = (4 : Int)) ∧ ((t0.Text.length : Int) > (40 : Int))) ∨ (((t0.Kind = (1 : Int)) ∨ (t0.Kind = (2 : Int))) ∧ ((t0.Text.length : Int) > (8 : Int))))))] [(1, .pure (GToken.cs t0))] Y Y Y ?_
       exact RunW_nil rfl
      ·have qq9 := dF (p := (t0.Kind = (1 : Int)) ∨ (t0.Kind = (2 : Int))) (not_or.2 ⟨h7, h8⟩)
       iterate 4 (refine r_off rfl rfl rfl rfl qq9 rfl rfl ?_)
       refine rn Y Y Y Y qq6 Y (p_pkf Y Y qq9 (tb (dF (p := ((t0.Kind = (1 : Int)) ∨ (t0.Kind = (2 : Int))) ∧ ((t0.Text.length : Int) > (8 : Int))) (fun x => (not_or.2 ⟨h7, h8⟩) x.1)).symm)) ?_
       refine rp Y Y (p_pkf Y Y qq6 (tb ((or_l (p := (t0.Kind = (4 : Int)) ∧ ((t0.Text.length : Int) > (40 : Int))) (q := ((t0.Kind = (1 : Int)) ∨ (t0.Kind = (2 : Int))) ∧ ((t0.Text.length : Int) > (8 : Int))) (fun h => h3 h.1))))) ?_
       refine rs [(1, .q 1 (0)), (36, .b (decide (((t0.Kind = (4 : Int)) ∧ ((t0.Text.length : Int) > (40 : Int))) ∨ (((t0.Kind = (1 : Int)) ∨ (t0.Kind = (2 : Int))) ∧ ((t0.Text.length : Int) > (8 : Int))))))] [(1, .pure (GToken.cs t0))] Y Y Y ?_
       exact RunW_nil rfl
   ·refine gen1 (fun t36'1 => (⟨[(1, .q 1 (0)), (36, .b t36'1)], [(1, .pure (GToken.cs t0))], 112⟩ : TS)) H ?_
    intro t36'1 H
    refine AW2_cond Y (fun h9 => ?_) (fun h9 => ?_)
    ·replace H := ite_then h9 H
     refine sg [0] Y ?_
     refine rp Y Y (p_asg Y Y) ?_
     refine rz [(2, .i (1 : Int))] [] Y Y Y ?_
     refine AW2_ret ?_
     have hz := some_elim H
     subst hz
     exact ⟨⟨res_tmp (.same _), trivial⟩, trivial⟩
    ·replace H := ite_else (ne_true h9) H
     refine as2 [(1, .q 1 (0))] [(1, .pure (GToken.cs t0))] Y Y Y ?_
     refine AW2_skip ?_
     refine AW2_seq ?_
     refine AW2_seq ?_
     refine AW2_mid (⟨[(1, .q 1 (0)), (69, .b (decide ((((t0.Kind ≠ (3 : Int)) ∧ (t0.Int_ ≠ (0 : Int))) ∨ ((t0.Kind ≠ (5 : Int)) ∧ (t0.Bits ≠ (0 : UInt64)))) ∨ (((t0.Kind = (3 : Int)) ∨ (t0.Kind = (5 : Int))) ∧ (t0.Text ≠ [])))))], [(1, .pure (GToken.cs t0))], 112⟩ : TS) ?_ ?_
     ·refine AW2_reg [0, 1, 2, 3, 4, 5, 6, 7, 8, 9, 10, 11, 12, 13, 14, 15, 16, 17, 18, 19, 20, 21, 22, 23, 24, 25, 26, 27, 28, 29, 30, 31, 32] Y ?_
      refine rp Y Y (u_fa Y Y Tryd.underlying52 Y in_3 nz Y Y (nl (GToken.len t0))) ?_
      refine rp Y Y (u_ld Y Y Tryd.underlying3 Y Y ((Sub.refl _).trans (GToken.sub0 t0))) ?_
      refine rp Y Y (p_ine Y Y Y) ?_
      refine rp Y Y (p_move Y Y) ?_
      refine (Classical.em (t0.Kind ≠ (3 : Int))).elim (fun h10 => ?_) (fun h10 => ?_)
      ·refine r_on Y Y Y Y (dT h10) Y (PureD.opD (u_fa Y Y Tryd.underlying52 Y in_3 nz Y Y (nl (GToken.len t0)))) ?_
       refine r_on Y Y Y Y (dT h10) Y (PureD.opD (u_ld Y Y Tryd.underlying3 Y Y ((Sub.refl _).trans (GToken.sub2 t0)))) ?_
       refine r_on Y Y Y Y (dT h10) Y (PureD.opD (p_ine Y Y Y)) ?_
       refine rp Y Y (p_pkt Y Y (dT h10) (tb ((and_l (p := t0.Kind ≠ (3 : Int)) (q := t0.Int_ ≠ (0 : Int)) h10)))) ?_
       refine rp Y Y (p_move Y Y) ?_
       refine (Classical.em (t0.Int_ ≠ (0 : Int))).elim (fun h11 => ?_) (fun h11 => ?_)
       ·have qq10 := dT (p := (t0.Kind ≠ (3 : Int)) ∧ (t0.Int_ ≠ (0 : Int))) ⟨h10, h11⟩
        iterate 4 (refine r_off rfl rfl rfl rfl qq10 rfl rfl ?_)
        iterate 3 (refine r_off2 rfl rfl rfl rfl rfl rfl ?_)
        refine r_off Y Y Y Y qq10 Y Y ?_
        have qq11 := dT (p := ((t0.Kind ≠ (3 : Int)) ∧ (t0.Int_ ≠ (0 : Int))) ∨ ((t0.Kind ≠ (5 : Int)) ∧ (t0.Bits ≠ (0 : UInt64)))) (Or.inl ⟨h10, h11⟩)
        refine rp Y Y (p_pkt Y Y qq10 (tb qq11.symm)) ?_
        refine rp Y Y (p_move Y Y) ?_
        iterate 4 (refine r_off rfl rfl rfl rfl qq11 rfl rfl ?_)
        iterate 3 (refine r_off2 rfl rfl rfl rfl rfl rfl ?_)
        iterate 2 (refine r_off rfl rfl rfl rfl qq11 rfl rfl ?_)
        iterate 3 (refine r_off2 rfl rfl rfl rfl rfl rfl ?_)
        refine r_off Y Y Y Y qq11 Y Y ?_
        refine rp Y Y (p_pkt Y Y qq11 (tb (dT (p := (((t0.Kind ≠ (3 : Int)) ∧ (t0.Int_ ≠ (0 : Int))) ∨ ((t0.Kind ≠ (5 : Int)) ∧ (t0.Bits ≠ (0 : UInt64)))) ∨ (((t0.Kind = (3 : Int)) ∨ (t0.Kind = (5 : Int))) ∧ (t0.Text ≠ []))) (Or.inl (Or.inl ⟨h10, h11⟩))).symm)) ?_
        refine rs [(1, .q 1 (0)), (69, .b (decide ((((t0.Kind ≠ (3 : Int)) ∧ (t0.Int_ ≠ (0 : Int))) ∨ ((t0.Kind ≠ (5 : Int)) ∧ (t0.Bits ≠ (0 : UInt64)))) ∨ (((t0.Kind = (3 : Int)) ∨ (t0.Kind = (5 : Int))) ∧ (t0.Text ≠ [])))))] [(1, .pure (GToken.cs t0))] Y Y Y ?_
        exact RunW_nil rfl
       ·have qq12 := dF (p := (t0.Kind ≠ (3 : Int)) ∧ (t0.Int_ ≠ (0 : Int))) (fun h => h11 h.2)
        refine rn Y Y Y Y qq12 Y (u_fa Y Y Tryd.underlying52 Y in_3 nz Y Y (nl (GToken.len t0))) ?_
        refine rn Y Y Y Y qq12 Y (u_ld Y Y Tryd.underlying3 Y Y ((Sub.refl _).trans (GToken.sub0 t0))) ?_
        refine rn Y Y Y Y qq12 Y (p_ine Y Y Y) ?_
        refine rn Y Y Y Y qq12 Y (p_move Y Y) ?_
        refine (Classical.em (t0.Kind ≠ (5 : Int))).elim (fun h12 => ?_) (fun h12 => ?_)
        ·refine r_on Y Y Y Y (dT h12) Y (PureD.opD (u_fa Y Y Tryd.underlying52 Y in_50 nz Y Y (nl (GToken.len t0)))) ?_
         refine r_on Y Y Y Y (dT h12) Y (PureD.opD (u_ld Y Y Tryd.underlying50 Y Y ((Sub.refl _).trans (GToken.sub3 t0)))) ?_
         refine r_on Y Y Y Y (dT h12) Y (PureD.opD (p_u64ne (a := t0.Bits) (b := (0 : UInt64)) Y Y Y)) ?_
         refine rn Y Y Y Y qq12 Y (p_pkt Y Y (dT h12) (tb ((and_l (p := t0.Kind ≠ (5 : Int)) (q := t0.Bits ≠ (0 : UInt64)) h12)))) ?_
         refine rp Y Y (p_pkf Y Y qq12 (tb ((or_l (p := (t0.Kind ≠ (3 : Int)) ∧ (t0.Int_ ≠ (0 : Int))) (q := (t0.Kind ≠ (5 : Int)) ∧ (t0.Bits ≠ (0 : UInt64))) (fun h => h11 h.2))))) ?_
         refine rp Y Y (p_move Y Y) ?_
         refine (Classical.em (t0.Bits ≠ (0 : UInt64))).elim (fun h13 => ?_) (fun h13 => ?_)
         ·have qq13 := dT (p := ((t0.Kind ≠ (3 : Int)) ∧ (t0.Int_ ≠ (0 : Int))) ∨ ((t0.Kind ≠ (5 : Int)) ∧ (t0.Bits ≠ (0 : UInt64)))) (Or.inr ⟨h12, h13⟩)
          iterate 4 (refine r_off rfl rfl rfl rfl qq13 rfl rfl ?_)
          iterate 3 (refine r_off2 rfl rfl rfl rfl rfl rfl ?_)
          iterate 2 (refine r_off rfl rfl rfl rfl qq13 rfl rfl ?_)
          iterate 3 (refine r_off2 rfl rfl rfl rfl rfl rfl ?_)
          refine r_off Y Y Y Y qq13 Y Y ?_
          refine rp Y Y (p_pkt Y Y qq13 (tb (dT (p := (((t0.Kind ≠ (3 : Int)) ∧ (t0.Int_ ≠ (0 : Int))) ∨ ((t0.Kind ≠ (5 : Int)) ∧ (t0.Bits ≠ (0 : UInt64)))) ∨ (((t0.Kind = (3 : Int)) ∨ (t0.Kind = (5 : Int))) ∧ (t0.Text ≠ []))) (Or.inl (Or.inr ⟨h12, h13⟩))).symm)) ?_
          refine rs [(1, .q 1 (0)), (69, .b (decide ((((t0.Kind ≠ (3 : Int)) ∧ (t0.Int_ ≠ (0 : Int))) ∨ ((t0.Kind ≠ (5 : Int)) ∧ (t0.Bits ≠ (0 : UInt64)))) ∨ (((t0.Kind = (3 : Int)) ∨ (t0.Kind = (5 : Int))) ∧ (t0.Text ≠ [])))))] [(1, .pure (GToken.cs t0))] Y Y Y ?_
          exact RunW_nil rfl
         ·have qq14 := dF (p := ((t0.Kind ≠ (3 : Int)) ∧ (t0.Int_ ≠ (0 : Int))) ∨ ((t0.Kind ≠ (5 : Int)) ∧ (t0.Bits ≠ (0 : UInt64)))) (not_or.2 ⟨(fun h => h11 h.2), (fun h => h13 h.2)⟩)
          refine rn Y Y Y Y qq14 Y (u_fa Y Y Tryd.underlying52 Y in_3 nz Y Y (nl (GToken.len t0))) ?_
          refine rn Y Y Y Y qq14 Y (u_ld Y Y Tryd.underlying3 Y Y ((Sub.refl _).trans (GToken.sub0 t0))) ?_
          refine rn Y Y Y Y qq14 Y (p_ieq Y Y Y) ?_
          refine rn Y Y Y Y qq14 Y (p_move Y Y) ?_
          refine (Classical.em (t0.Kind = (3 : Int))).elim (fun h14 => ?_) (fun h14 => ?_)
          ·iterate 3 (refine r_off rfl rfl rfl rfl (dT h14) rfl rfl ?_)
           have qq15 := dT (p := (t0.Kind = (3 : Int)) ∨ (t0.Kind = (5 : Int))) (Or.inl h14)
           refine rn Y Y Y Y qq14 Y (p_pkt Y Y (dT h14) (tb qq15.symm)) ?_
           refine rn Y Y Y Y qq14 Y (p_move Y Y) ?_
           refine rn Y Y Y Y qq15 Y (u_fa Y Y Tryd.underlying52 Y in_9 nz Y Y (nl (GToken.len t0))) ?_
           refine rn Y Y Y Y qq15 Y (u_ld Y Y Tryd.underlying9 Y Y ((Sub.refl _).trans (GToken.sub1 t0))) ?_
           refine rn Y Y Y Y qq15 Y (p_sne Y Y Y) ?_
           refine rn Y Y Y Y qq14 Y (p_pkt Y Y qq15 (tb ((and_l (p := (t0.Kind = (3 : Int)) ∨ (t0.Kind = (5 : Int))) (q := t0.Text ≠ []) (Or.inl h14))))) ?_
           refine rp Y Y (p_pkf Y Y qq14 (tb ((or_l (p := ((t0.Kind ≠ (3 : Int)) ∧ (t0.Int_ ≠ (0 : Int))) ∨ ((t0.Kind ≠ (5 : Int)) ∧ (t0.Bits ≠ (0 : UInt64)))) (q := ((t0.Kind = (3 : Int)) ∨ (t0.Kind = (5 : Int))) ∧ (t0.Text ≠ [])) (not_or.2 ⟨(fun h => h11 h.2), (fun h => h13 h.2)⟩))))) ?_
           refine rs [(1, .q 1 (0)), (69, .b (decide ((((t0.Kind ≠ (3 : Int)) ∧ (t0.Int_ ≠ (0 : Int))) ∨ ((t0.Kind ≠ (5 : Int)) ∧ (t0.Bits ≠ (0 : UInt64)))) ∨ (((t0.Kind = (3 : Int)) ∨ (t0.Kind = (5 : Int))) ∧ (t0.Text ≠ [])))))] [(1, .pure (GToken.cs t0))] Y Y Y ?_
           exact RunW_nil rfl
          ·refine r_on Y Y Y Y (dF h14) Y (PureD.opD (u_fa Y Y Tryd.underlying52 Y in_3 nz Y Y (nl (GToken.len t0)))) ?_
           refine r_on Y Y Y Y (dF h14) Y (PureD.opD (u_ld Y Y Tryd.underlying3 Y Y ((Sub.refl _).trans (GToken.sub0 t0)))) ?_
           refine r_on Y Y Y Y (dF h14) Y (PureD.opD (p_ieq Y Y Y)) ?_
           refine rn Y Y Y Y qq14 Y (p_pkf Y Y (dF h14) (tb ((or_l (p := t0.Kind = (3 : Int)) (q := t0.Kind = (5 : Int)) h14)))) ?_
           refine rn Y Y Y Y qq14 Y (p_move Y Y) ?_
           refine (Classical.em (t0.Kind = (5 : Int))).elim (fun h15 => ?_) (fun h15 => ?_)
           ·have qq16 := dT (p := (t0.Kind = (3 : Int)) ∨ (t0.Kind = (5 : Int))) (Or.inr h15)
            refine rn Y Y Y Y qq16 Y (u_fa Y Y Tryd.underlying52 Y in_9 nz Y Y (nl (GToken.len t0))) ?_
            refine rn Y Y Y Y qq16 Y (u_ld Y Y Tryd.underlying9 Y Y ((Sub.refl _).trans (GToken.sub1 t0))) ?_
            refine rn Y Y Y Y qq16 Y (p_sne Y Y Y) ?_
            refine rn Y Y Y Y qq14 Y (p_pkt Y Y qq16 (tb ((and_l (p := (t0.Kind = (3 : Int)) ∨ (t0.Kind = (5 : Int))) (q := t0.Text ≠ []) (Or.inr h15))))) ?_
            refine rp Y Y (p_pkf Y Y qq14 (tb ((or_l (p := ((t0.Kind ≠ (3 : Int)) ∧ (t0.Int_ ≠ (0 : Int))) ∨ ((t0.Kind ≠ (5 : Int)) ∧ (t0.Bits ≠ (0 : UInt64)))) (q := ((t0.Kind = (3 : Int)) ∨ (t0.Kind = (5 : Int))) ∧ (t0.Text ≠ [])) (not_or.2 ⟨(fun h => h11 h.2), (fun h => h13 h.2)⟩))))) ?_
            refine rs [(1, .q 1 (0)), (69, .b (decide ((((t0.Kind ≠ (3 : Int)) ∧ (t0.Int_ ≠ (0 : Int))) ∨ ((t0.Kind ≠ (5 : Int)) ∧ (t0.Bits ≠ (0 : UInt64)))) ∨ (((t0.Kind = (3 : Int)) ∨ (t0.Kind = (5 : Int))) ∧ (t0.Text ≠ [])))))] [(1, .pure (GToken.cs t0))] Y Y Y ?_
            exact RunW_nil rfl
           ·have qq17 := dF (p := (t0.Kind = (3 : Int)) ∨ (t0.Kind = (5 : Int))) (not_or.2 ⟨h14, h15⟩)
            iterate 3 (refine r_off rfl rfl rfl rfl qq17 rfl rfl ?_)
            refine rn Y Y Y Y qq14 Y (p_pkf Y Y qq17 (tb (dF (p := ((t0.Kind = (3 : Int)) ∨ (t0.Kind = (5 : Int))) ∧ (t0.Text ≠ [])) (fun x => (not_or.2 ⟨h14, h15⟩) x.1)).symm)) ?_
            refine rp Y Y (p_pkf Y Y qq14 (tb ((or_l (p := ((t0.Kind ≠ (3 : Int)) ∧ (t0.Int_ ≠ (0 : Int))) ∨ ((t0.Kind ≠ (5 : Int)) ∧ (t0.Bits ≠ (0 : UInt64)))) (q := ((t0.Kind = (3 : Int)) ∨ (t0.Kind = (5 : Int))) ∧ (t0.Text ≠ [])) (not_or.2 ⟨(fun h => h11 h.2), (fun h => h13 h.2)⟩))))) ?_
            refine rs [(1, .q 1 (0)), (69, .b (decide ((((t0.Kind ≠ (3 : Int)) ∧ (t0.Int_ ≠ (0 : Int))) ∨ ((t0.Kind ≠ (5 : Int)) ∧ (t0.Bits ≠ (0 : UInt64)))) ∨ (((t0.Kind = (3 : Int)) ∨ (t0.Kind = (5 : Int))) ∧ (t0.Text ≠ [])))))] [(1, .pure (GToken.cs t0))] Y Y Y ?_
            exact RunW_nil rfl
        ·iterate 3 (refine r_off rfl rfl rfl rfl (dF h12) rfl rfl ?_)
         refine rn Y Y Y Y qq12 Y (p_pkf Y Y (dF h12) (tb (dF (p := (t0.Kind ≠ (5 : Int)) ∧ (t0.Bits ≠ (0 : UInt64))) (fun x => h12 x.1)).symm)) ?_
         refine rp Y Y (p_pkf Y Y qq12 (tb ((or_l (p := (t0.Kind ≠ (3 : Int)) ∧ (t0.Int_ ≠ (0 : Int))) (q := (t0.Kind ≠ (5 : Int)) ∧ (t0.Bits ≠ (0 : UInt64))) (fun h => h11 h.2))))) ?_
         refine rp Y Y (p_move Y Y) ?_
         have qq18 := dF (p := ((t0.Kind ≠ (3 : Int)) ∧ (t0.Int_ ≠ (0 : Int))) ∨ ((t0.Kind ≠ (5 : Int)) ∧ (t0.Bits ≠ (0 : UInt64)))) (not_or.2 ⟨(fun h => h11 h.2), (fun h => h12 h.1)⟩)
         refine rn Y Y Y Y qq18 Y (u_fa Y Y Tryd.underlying52 Y in_3 nz Y Y (nl (GToken.len t0))) ?_
         refine rn Y Y Y Y qq18 Y (u_ld Y Y Tryd.underlying3 Y Y ((Sub.refl _).trans (GToken.sub0 t0))) ?_
         refine rn Y Y Y Y qq18 Y (p_ieq Y Y Y) ?_
         refine rn Y Y Y Y qq18 Y (p_move Y Y) ?_
         refine (Classical.em (t0.Kind = (3 : Int))).elim (fun h16 => ?_) (fun h16 => ?_)
         ·iterate 3 (refine r_off rfl rfl rfl rfl (dT h16) rfl rfl ?_)
          have qq19 := dT (p := (t0.Kind = (3 : Int)) ∨ (t0.Kind = (5 : Int))) (Or.inl h16)
          refine rn Y Y Y Y qq18 Y (p_pkt Y Y (dT h16) (tb qq19.symm)) ?_
          refine rn Y Y Y Y qq18 Y (p_move Y Y) ?_
          refine rn Y Y Y Y qq19 Y (u_fa Y Y Tryd.underlying52 Y in_9 nz Y Y (nl (GToken.len t0))) ?_
          refine rn Y Y Y Y qq19 Y (u_ld Y Y Tryd.underlying9 Y Y ((Sub.refl _).trans (GToken.sub1 t0))) ?_
          refine rn Y Y Y Y qq19 Y (p_sne Y Y Y) ?_
          refine rn Y Y Y Y qq18 Y (p_pkt Y Y qq19 (tb ((and_l (p := (t0.Kind = (3 : Int)) ∨ (t0.Kind = (5 : Int))) (q := t0.Text ≠ []) (Or.inl h16))))) ?_
          refine rp Y Y (p_pkf Y Y qq18 (tb ((or_l (p := ((t0.Kind ≠ (3 : Int)) ∧ (t0.Int_ ≠ (0 : Int))) ∨ ((t0.Kind ≠ (5 : Int)) ∧ (t0.Bits ≠ (0 : UInt64)))) (q := ((t0.Kind = (3 : Int)) ∨ (t0.Kind = (5 : Int))) ∧ (t0.Text ≠ [])) (not_or.2 ⟨(fun h => h11 h.2), (fun h => h12 h.1)⟩))))) ?_
          refine rs [(1, .q 1 (0)), (69, .b (decide ((((t0.Kind ≠ (3 : Int)) ∧ (t0.Int_ ≠ (0 : Int))) ∨ ((t0.Kind ≠ (5 : Int)) ∧ (t0.Bits ≠ (0 : UInt64)))) ∨ (((t0.Kind = (3 : Int)) ∨ (t0.Kind = (5 : Int))) ∧ (t0.Text ≠ [])))))] [(1, .pure (GToken.cs t0))] Y Y Y ?_
          exact RunW_nil rfl
         ·refine r_on Y Y Y Y (dF h16) Y (PureD.opD (u_fa Y Y Tryd.underlying52 Y in_3 nz Y Y (nl (GToken.len t0)))) ?_
          refine r_on Y Y Y Y (dF h16) Y (PureD.opD (u_ld Y Y Tryd.underlying3 Y Y ((Sub.refl _).trans (GToken.sub0 t0)))) ?_
          refine r_on Y Y Y Y (dF h16) Y (PureD.opD (p_ieq Y Y Y)) ?_
          refine rn Y Y Y Y qq18 Y (p_pkf Y Y (dF h16) (tb ((or_l (p := t0.Kind = (3 : Int)) (q := t0.Kind = (5 : Int)) h16)))) ?_
          refine rn Y Y Y Y qq18 Y (p_move Y Y) ?_
          refine (Classical.em (t0.Kind = (5 : Int))).elim (fun h17 => ?_) (fun h17 => ?_)
          ·have qq20 := dT (p := (t0.Kind = (3 : Int)) ∨ (t0.Kind = (5 : Int))) (Or.inr h17)
           refine rn Y Y Y Y qq20 Y (u_fa Y Y Tryd.underlying52 Y in_9 nz Y Y (nl (GToken.len t0))) ?_
           refine rn Y Y Y Y qq20 Y (u_ld Y Y Tryd.underlying9 Y Y ((Sub.refl _).trans (GToken.sub1 t0))) ?_
           refine rn Y Y Y Y qq20 Y (p_sne Y Y Y) ?_
           refine rn Y Y Y Y qq18 Y (p_pkt Y Y qq20 (tb ((and_l (p := (t0.Kind = (3 : Int)) ∨ (t0.Kind = (5 : Int))) (q := t0.Text ≠ []) (Or.inr h17))))) ?_
           refine rp Y Y (p_pkf Y Y qq18 (tb ((or_l (p := ((t0.Kind ≠ (3 : Int)) ∧ (t0.Int_ ≠ (0 : Int))) ∨ ((t0.Kind ≠ (5 : Int)) ∧ (t0.Bits ≠ (0 : UInt64)))) (q := ((t0.Kind = (3 : Int)) ∨ (t0.Kind = (5 : Int))) ∧ (t0.Text ≠ [])) (not_or.2 ⟨(fun h => h11 h.2), (fun h => h12 h.1)⟩))))) ?_
           refine rs [(1, .q 1 (0)), (69, .b (decide ((((t0.Kind ≠ (3 : Int)) ∧ (t0.Int_ ≠ (0 : Int))) ∨ ((t0.Kind ≠ (5 : Int)) ∧ (t0.Bits ≠ (0 : UInt64)))) ∨ (((t0.Kind = (3 : Int)) ∨ (t0.Kind = (5 : Int))) ∧ (t0.Text ≠ [])))))] [(1, .pure (GToken.cs t0))] Y Y Y ?_
           exact RunW_nil rfl
          ·have qq21 := dF (p := (t0.Kind = (3 : Int)) ∨ (t0.Kind = (5 : Int))) (not_or.2 ⟨h16, h17⟩)
           iterate 3 (refine r_off rfl rfl rfl rfl qq21 rfl rfl ?_)
           refine rn Y Y Y Y qq18 Y (p_pkf Y Y qq21 (tb (dF (p := ((t0.Kind = (3 : Int)) ∨ (t0.Kind = (5 : Int))) ∧ (t0.Text ≠ [])) (fun x => (not_or.2 ⟨h16, h17⟩) x.1)).symm)) ?_
           refine rp Y Y (p_pkf Y Y qq18 (tb ((or_l (p := ((t0.Kind ≠ (3 : Int)) ∧ (t0.Int_ ≠ (0 : Int))) ∨ ((t0.Kind ≠ (5 : Int)) ∧ (t0.Bits ≠ (0 : UInt64)))) (q := ((t0.Kind = (3 : Int)) ∨ (t0.Kind = (5 : Int))) ∧ (t0.Text ≠ [])) (not_or.2 ⟨(fun h => h11 h.2), (fun h => h12 h.1)⟩))))) ?_
           refine rs [(1, .q 1 (0)), (69, .b (decide ((((t0.Kind ≠ (3 : Int)) ∧ (t0.Int_ ≠ (0 : Int))) ∨ ((t0.Kind ≠ (5 : Int)) ∧ (t0.Bits ≠ (0 : UInt64)))) ∨ (((t0.Kind = (3 : Int)) ∨ (t0.Kind = (5 : Int))) ∧ (t0.Text ≠ [])))))] [(1, .pure (GToken.cs t0))] Y Y Y ?_
           exact RunW_nil rfl
      ·iterate 3 (refine r_off rfl rfl rfl rfl (dF h10) rfl rfl ?_)
       refine rp Y Y (p_pkf Y Y (dF h10) (tb (dF (p := (t0.Kind ≠ (3 : Int)) ∧ (t0.Int_ ≠ (0 : Int))) (fun x => h10 x.1)).symm)) ?_
       refine rp Y Y (p_move Y Y) ?_
       have qq22 := dF (p := (t0.Kind ≠ (3 : Int)) ∧ (t0.Int_ ≠ (0 : Int))) (fun h => h10 h.1)
       refine rn Y Y Y Y qq22 Y (u_fa Y Y Tryd.underlying52 Y in_3 nz Y Y (nl (GToken.len t0))) ?_
       refine rn Y Y Y Y qq22 Y (u_ld Y Y Tryd.underlying3 Y Y ((Sub.refl _).trans (GToken.sub0 t0))) ?_
       refine rn Y Y Y Y qq22 Y (p_ine Y Y Y) ?_
       refine rn Y Y Y Y qq22 Y (p_move Y Y) ?_
       refine (Classical.em (t0.Kind ≠ (5 : Int))).elim (fun h18 => ?_) (fun h18 => ?_)
       ·refine r_on Y Y Y Y (dT h18) Y (PureD.opD (u_fa Y Y Tryd.underlying52 Y in_50 nz Y Y (nl (GToken.len t0)))) ?_
        refine r_on Y Y Y Y (dT h18) Y (PureD.opD (u_ld Y Y Tryd.underlying50 Y Y ((Sub.refl _).trans (GToken.sub3 t0)))) ?_
        refine r_on Y Y Y Y (dT h18) Y (PureD.opD (p_u64ne (a := t0.Bits) (b := (0 : UInt64)) Y Y Y)) ?_
        refine rn Y Y Y Y qq22 Y (p_pkt Y Y (dT h18) (tb ((and_l (p := t0.Kind ≠ (5 : Int)) (q := t0.Bits ≠ (0 : UInt64)) h18)))) ?_
        refine rp Y Y (p_pkf Y Y qq22 (tb ((or_l (p := (t0.Kind ≠ (3 : Int)) ∧ (t0.Int_ ≠ (0 : Int))) (q := (t0.Kind ≠ (5 : Int)) ∧ (t0.Bits ≠ (0 : UInt64))) (fun h => h10 h.1))))) ?_
        refine rp Y Y (p_move Y Y) ?_
        refine (Classical.em (t0.Bits ≠ (0 : UInt64))).elim (fun h19 => ?_) (fun h19 => ?_)
        ·have qq23 := dT (p := ((t0.Kind ≠ (3 : Int)) ∧ (t0.Int_ ≠ (0 : Int))) ∨ ((t0.Kind ≠ (5 : Int)) ∧ (t0.Bits ≠ (0 : UInt64)))) (Or.inr ⟨h18, h19⟩)
         iterate 4 (refine r_off rfl rfl rfl rfl qq23 rfl rfl ?_)
         iterate 3 (refine r_off2 rfl rfl rfl rfl rfl rfl ?_)
         iterate 2 (refine r_off rfl rfl rfl rfl qq23 rfl rfl ?_)
         iterate 3 (refine r_off2 rfl rfl rfl rfl rfl rfl ?_)
         refine r_off Y Y Y Y qq23 Y Y ?_
         refine rp Y Y (p_pkt Y Y qq23 (tb (dT (p := (((t0.Kind ≠ (3 : Int)) ∧ (t0.Int_ ≠ (0 : Int))) ∨ ((t0.Kind ≠ (5 : Int)) ∧ (t0.Bits ≠ (0 : UInt64)))) ∨ (((t0.Kind = (3 : Int)) ∨ (t0.Kind = (5 : Int))) ∧ (t0.Text ≠ []))) (Or.inl (Or.inr ⟨h18, h19⟩))).symm)) ?_
         refine rs [(1, .q 1 (0)), (69, .b (decide ((((t0.Kind ≠ (3 : Int)) ∧ (t0.Int_ ≠ (0 : Int))) ∨ ((t0.Kind ≠ (5 : Int)) ∧ (t0.Bits ≠ (0 : UInt64)))) ∨ (((t0.Kind = (3 : Int)) ∨ (t0.Kind = (5 : Int))) ∧ (t0.Text ≠ [])))))] [(1, .pure (GToken.cs t0))] Y Y Y ?_
         exact RunW_nil rfl
        ·have qq24 := dF (p := ((t0.Kind ≠ (3 : Int)) ∧ (t0.Int_ ≠ (0 : Int))) ∨ ((t0.Kind ≠ (5 : Int)) ∧ (t0.Bits ≠ (0 : UInt64)))) (not_or.2 ⟨(fun h => h10 h.1), (fun h => h19 h.2)⟩)
         refine rn Y Y Y Y qq24 Y (u_fa Y Y Tryd.underlying52 Y in_3 nz Y Y (nl (GToken.len t0))) ?_
         refine rn Y Y Y Y qq24 Y (u_ld Y Y Tryd.underlying3 Y Y ((Sub.refl _).trans (GToken.sub0 t0))) ?_
         refine rn Y Y Y Y qq24 Y (p_ieq Y Y Y) ?_
         refine rn Y Y Y Y qq24 Y (p_move Y Y) ?_
         refine (Classical.em (t0.Kind = (3 : Int))).elim (fun h20 => ?_) (fun h20 => ?_)
         ·iterate 3 (refine r_off rfl rfl rfl rfl (dT h20) rfl rfl ?_)
          have qq25 := dT (p := (t0.Kind = (3 : Int)) ∨ (t0.Kind = (5 : Int))) (Or.inl h20)
          refine rn Y Y Y Y qq24 Y (p_pkt Y Y (dT h20) (tb qq25.symm)) ?_
          refine rn Y Y Y Y qq24 Y (p_move Y Y) ?_
          refine rn Y Y Y Y qq25 Y (u_fa Y Y Tryd.underlying52 Y in_9 nz Y Y (nl (GToken.len t0))) ?_
          refine rn Y Y Y Y qq25 Y (u_ld Y Y Tryd.underlying9 Y Y ((Sub.refl _).trans (GToken.sub1 t0))) ?_
          refine rn Y Y Y Y qq25 Y (p_sne Y Y Y) ?_
          refine rn Y Y Y Y qq24 Y (p_pkt Y Y qq25 (tb ((and_l (p := (t0.Kind = (3 : Int)) ∨ (t0.Kind = (5 : Int))) (q := t0.Text ≠ []) (Or.inl h20))))) ?_
          refine rp Y Y (p_pkf Y Y qq24 (tb ((or_l (p := ((t0.Kind ≠ (3 : Int)) ∧ (t0.Int_ ≠ (0 : Int))) ∨ ((t0.Kind ≠ (5 : Int)) ∧ (t0.Bits ≠ (0 : UInt64)))) (q := ((t0.Kind = (3 : Int)) ∨ (t0.Kind = (5 : Int))) ∧ (t0.Text ≠ [])) (not_or.2 ⟨(fun h => h10 h.1), (fun h => h19 h.2)⟩))))) ?_
          refine rs [(1, .q 1 (0)), (69, .b (decide ((((t0.Kind ≠ (3 : Int)) ∧ (t0.Int_ ≠ (0 : Int))) ∨ ((t0.Kind ≠ (5 : Int)) ∧ (t0.Bits ≠ (0 : UInt64)))) ∨ (((t0.Kind = (3 : Int)) ∨ (t0.Kind = (5 : Int))) ∧ (t0.Text ≠ [])))))] [(1, .pure (GToken.cs t0))] Y Y Y ?_
          exact RunW_nil rfl
         ·refine r_on Y Y Y Y (dF h20) Y (PureD.opD (u_fa Y Y Tryd.underlying52 Y in_3 nz Y Y (nl (GToken.len t0)))) ?_
          refine r_on Y Y Y Y (dF h20) Y (PureD.opD (u_ld Y Y Tryd.underlying3 Y Y ((Sub.refl _).trans (GToken.sub0 t0)))) ?_
          refine r_on Y Y Y Y (dF h20) Y (PureD.opD (p_ieq Y Y Y)) ?_
          refine rn Y Y Y Y qq24 Y (p_pkf Y Y (dF h20) (tb ((or_l (p := t0.Kind = (3 : Int)) (q := t0.Kind = (5 : Int)) h20)))) ?_
          refine rn Y Y Y Y qq24 Y (p_move Y Y) ?_
          refine (Classical.em (t0.Kind = (5 : Int))).elim (fun h21 => ?_) (fun h21 => ?_)
          ·have qq26 := dT (p := (t0.Kind = (3 : Int)) ∨ (t0.Kind = (5 : Int))) (Or.inr h21)
           refine rn Y Y Y Y qq26 Y (u_fa Y Y Tryd.underlying52 Y in_9 nz Y Y (nl (GToken.len t0))) ?_
           refine rn Y Y Y Y qq26 Y (u_ld Y Y Tryd.underlying9 Y Y ((Sub.refl _).trans (GToken.sub1 t0))) ?_
           refine rn Y Y Y Y qq26 Y (p_sne Y Y Y) ?_
           refine rn Y Y Y Y qq24 Y (p_pkt Y Y qq26 (tb ((and_l (p := (t0.Kind = (3 : Int)) ∨ (t0.Kind = (5 : Int))) (q := t0.Text ≠ []) (Or.inr h21))))) ?_
           refine rp Y Y (p_pkf Y Y qq24 (tb ((or_l (p := ((t0.Kind ≠ (3 : Int)) ∧ (t0.Int_ ≠ (0 : Int))) ∨ ((t0.Kind ≠ (5 : Int)) ∧ (t0.Bits ≠ (0 : UInt64)))) (q := ((t0.Kind = (3 : Int)) ∨ (t0.Kind = (5 : Int))) ∧ (t0.Text ≠ [])) (not_or.2 ⟨(fun h => h10 h.1), (fun h => h19 h.2)⟩))))) ?_
           refine rs [(1, .q 1 (0)), (69, .b (decide ((((t0.Kind ≠ (3 : Int)) ∧ (t0.Int_ ≠ (0 : Int))) ∨ ((t0.Kind ≠ (5 : Int)) ∧ (t0.Bits ≠ (0 : UInt64)))) ∨ (((t0.Kind = (3 : Int)) ∨ (t0.Kind = (5 : Int))) ∧ (t0.Text ≠ [])))))] [(1, .pure (GToken.cs t0))] Y Y Y ?_
           exact RunW_nil rfl
          ·have qq27 := dF (p := (t0.Kind = (3 : Int)) ∨ (t0.Kind = (5 : Int))) (not_or.2 ⟨h20, h21⟩)
           iterate 3 (refine r_off rfl rfl rfl rfl qq27 rfl rfl ?_)
           refine rn Y Y Y Y qq24 Y (p_pkf Y Y qq27 (tb (dF (p := ((t0.Kind = (3 : Int)) ∨ (t0.Kind = (5 : Int))) ∧ (t0.Text ≠ [])) (fun x => (not_or.2 ⟨h20, h21⟩) x.1)).symm)) ?_
           refine rp Y Y (p_pkf Y Y qq24 (tb ((or_l (p := ((t0.Kind ≠ (3 : Int)) ∧ (t0.Int_ ≠ (0 : Int))) ∨ ((t0.Kind ≠ (5 : Int)) ∧ (t0.Bits ≠ (0 : UInt64)))) (q := ((t0.Kind = (3 : Int)) ∨ (t0.Kind = (5 : Int))) ∧ (t0.Text ≠ [])) (not_or.2 ⟨(fun h => h10 h.1), (fun h => h19 h.2)⟩))))) ?_
           refine rs [(1, .q 1 (0)), (69, .b (decide ((((t0.Kind ≠ (3 : Int)) ∧ (t0.Int_ ≠ (0 : Int))) ∨ ((t0.Kind ≠ (5 : Int)) ∧ (t0.Bits ≠ (0 : UInt64)))) ∨ (((t0.Kind = (3 : Int)) ∨ (t0.Kind = (5 : Int))) ∧ (t0.Text ≠ [])))))] [(1, .pure (GToken.cs t0))] Y Y Y ?_
           exact RunW_nil rfl
       ·iterate 3 (refine r_off rfl rfl rfl rfl (dF h18) rfl rfl ?_)
        refine rn Y Y Y Y qq22 Y (p_pkf Y Y (dF h18) (tb (dF (p := (t0.Kind ≠ (5 : Int)) ∧ (t0.Bits ≠ (0 : UInt64))) (fun x => h18 x.1)).symm)) ?_
        refine rp Y Y (p_pkf Y Y qq22 (tb ((or_l (p := (t0.Kind ≠ (3 : Int)) ∧ (t0.Int_ ≠ (0 : Int))) (q := (t0.Kind ≠ (5 : Int)) ∧ (t0.Bits ≠ (0 : UInt64))) (fun h => h10 h.1))))) ?_
        refine rp Y Y (p_move Y Y) ?_
        have qq28 := dF (p := ((t0.Kind ≠ (3 : Int)) ∧ (t0.Int_ ≠ (0 : Int))) ∨ ((t0.Kind ≠ (5 : Int)) ∧ (t0.Bits ≠ (0 : UInt64)))) (not_or.2 ⟨(fun h => h10 h.1), (fun h => h18 h.1)⟩)
        refine rn Y Y Y Y qq28 Y (u_fa Y Y Tryd.underlying52 Y in_3 nz Y Y (nl (GToken.len t0))) ?_
        refine rn Y Y Y Y qq28 Y (u_ld Y Y Tryd.underlying3 Y Y ((Sub.refl _).trans (GToken.sub0 t0))) ?_
        refine rn Y Y Y Y qq28 Y (p_ieq Y Y Y) ?_
        refine rn Y Y Y Y qq28 Y (p_move Y Y) ?_
        refine (Classical.em (t0.Kind = (3 : Int))).elim (fun h22 => ?_) (fun h22 => ?_)
        ·iterate 3 (refine r_off rfl rfl rfl rfl (dT h22) rfl rfl ?_)
         have qq29 := dT (p := (t0.Kind = (3 : Int)) ∨ (t0.Kind = (5 : Int))) (Or.inl h22)
         refine rn Y Y Y Y qq28 Y (p_pkt Y Y (dT h22) (tb qq29.symm)) ?_
         refine rn Y Y Y Y qq28 Y (p_move Y Y) ?_
         refine rn Y Y Y Y qq29 Y (u_fa Y Y Tryd.underlying52 Y in_9 nz Y Y (nl (GToken.len t0))) ?_
         refine rn Y Y Y Y qq29 Y (u_ld Y Y Tryd.underlying9 Y Y ((Sub.refl _).trans (GToken.sub1 t0))) ?_
         refine rn Y Y Y Y qq29 Y (p_sne Y Y Y) ?_
         refine rn Y Y Y Y qq28 Y (p_pkt Y Y qq29 (tb ((and_l (p := (t0.Kind = (3 : Int)) ∨ (t0.Kind = (5 : Int))) (q := t0.Text ≠ []) (Or.inl h22))))) ?_
         refine rp Y Y (p_pkf Y Y qq28 (tb ((or_l (p := ((t0.Kind ≠ (3 : Int)) ∧ (t0.Int_ ≠ (0 : Int))) ∨ ((t0.Kind ≠ (5 : Int)) ∧ (t0.Bits ≠ (0 : UInt64)))) (q := ((t0.Kind = (3 : Int)) ∨ (t0.Kind = (5 : Int))) ∧ (t0.Text ≠ [])) (not_or.2 ⟨(fun h => h10 h.1), (fun h => h18 h.1)⟩))))) ?_
         refine rs [(1, .q 1 (0)), (69, .b (decide ((((t0.Kind ≠ (3 : Int)) ∧ (t0.Int_ ≠ (0 : Int))) ∨ ((t0.Kind ≠ (5 : Int)) ∧ (t0.Bits ≠ (0 : UInt64)))) ∨ (((t0.Kind = (3 : Int)) ∨ (t0.Kind = (5 : Int))) ∧ (t0.Text ≠ [])))))] [(1, .pure (GToken.cs t0))] Y Y Y ?_
         exact RunW_nil rfl
        ·refine r_on Y Y Y Y (dF h22) Y (PureD.opD (u_fa Y Y Tryd.underlying52 Y in_3 nz Y Y (nl (GToken.len t0)))) ?_
         refine r_on Y Y Y Y (dF h22) Y (PureD.opD (u_ld Y Y Tryd.underlying3 Y Y ((Sub.refl _).trans (GToken.sub0 t0)))) ?_
         refine r_on Y Y Y Y (dF h22) Y (PureD.opD (p_ieq Y Y Y)) ?_
         refine rn Y Y Y Y qq28 Y (p_pkf Y Y (dF h22) (tb ((or_l (p := t0.Kind = (3 : Int)) (q := t0.Kind = (5 : Int)) h22)))) ?_
         refine rn Y Y Y Y qq28 Y (p_move Y Y) ?_
         refine (Classical.em (t0.Kind = (5 : Int))).elim (fun h23 => ?_) (fun h23 => ?_)
         ·have qq30 := dT (p := (t0.Kind = (3 : Int)) ∨ (t0.Kind = (5 : Int))) (Or.inr h23)
          refine rn Y Y Y Y qq30 Y (u_fa Y Y Tryd.underlying52 Y in_9 nz Y Y (nl (GToken.len t0))) ?_
          refine rn Y Y Y Y qq30 Y (u_ld Y Y Tryd.underlying9 Y Y ((Sub.refl _).trans (GToken.sub1 t0))) ?_
          refine rn Y Y Y Y qq30 Y (p_sne Y Y Y) ?_
          refine rn Y Y Y Y qq28 Y (p_pkt Y Y qq30 (tb ((and_l (p := (t0.Kind = (3 : Int)) ∨ (t0.Kind = (5 : Int))) (q := t0.Text ≠ []) (Or.inr h23))))) ?_
          refine rp Y Y (p_pkf Y Y qq28 (tb ((or_l (p := ((t0.Kind ≠ (3 : Int)) ∧ (t0.Int_ ≠ (0 : Int))) ∨ ((t0.Kind ≠ (5 : Int)) ∧ (t0.Bits ≠ (0 : UInt64)))) (q := ((t0.Kind = (3 : Int)) ∨ (t0.Kind = (5 : Int))) ∧ (t0.Text ≠ [])) (not_or.2 ⟨(fun h => h10 h.1), (fun h => h18 h.1)⟩))))) ?_
          refine rs [(1, .q 1 (0)), (69, .b (decide ((((t0.Kind ≠ (3 : Int)) ∧ (t0.Int_ ≠ (0 : Int))) ∨ ((t0.Kind ≠ (5 : Int)) ∧ (t0.Bits ≠ (0 : UInt64)))) ∨ (((t0.Kind = (3 : Int)) ∨ (t0.Kind = (5 : Int))) ∧ (t0.Text ≠ [])))))] [(1, .pure (GToken.cs t0))] Y Y Y ?_
          exact RunW_nil rfl
         ·have qq31 := dF (p := (t0.Kind = (3 : Int)) ∨ (t0.Kind = (5 : Int))) (not_or.2 ⟨h22, h23⟩)
          iterate 3 (refine r_off rfl rfl rfl rfl qq31 rfl rfl ?_)
          refine rn Y Y Y Y qq28 Y (p_pkf Y Y qq31 (tb (dF (p := ((t0.Kind = (3 : Int)) ∨ (t0.Kind = (5 : Int))) ∧ (t0.Text ≠ [])) (fun x => (not_or.2 ⟨h22, h23⟩) x.1)).symm)) ?_
          refine rp Y Y (p_pkf Y Y qq28 (tb ((or_l (p := ((t0.Kind ≠ (3 : Int)) ∧ (t0.Int_ ≠ (0 : Int))) ∨ ((t0.Kind ≠ (5 : Int)) ∧ (t0.Bits ≠ (0 : UInt64)))) (q := ((t0.Kind = (3 : Int)) ∨ (t0.Kind = (5 : Int))) ∧ (t0.Text ≠ [])) (not_or.2 ⟨(fun h => h10 h.1), (fun h => h18 h.1)⟩))))) ?_
          refine rs [(1, .q 1 (0)), (69, .b (decide ((((t0.Kind ≠ (3 : Int)) ∧ (t0.Int_ ≠ (0 : Int))) ∨ ((t0.Kind ≠ (5 : Int)) ∧ (t0.Bits ≠ (0 : UInt64)))) ∨ (((t0.Kind = (3 : Int)) ∨ (t0.Kind = (5 : Int))) ∧ (t0.Text ≠ [])))))] [(1, .pure (GToken.cs t0))] Y Y Y ?_
          exact RunW_nil rfl
     ·refine gen1 (fun t69'2 => (⟨[(1, .q 1 (0)), (69, .b t69'2)], [(1, .pure (GToken.cs t0))], 112⟩ : TS)) H ?_
      intro t69'2 H
      refine AW2_cond Y (fun h24 => ?_) (fun h24 => ?_)
      ·replace H := ite_then h24 H
       refine sg [0] Y ?_
       refine rp Y Y (p_asg Y Y) ?_
       refine rz [(2, .i (3 : Int))] [] Y Y Y ?_
       refine AW2_ret ?_
       have hz := some_elim H
       subst hz
       exact ⟨⟨res_tmp (.same _), trivial⟩, trivial⟩
      ·replace H := ite_else (ne_true h24) H
       refine as2 [(1, .q 1 (0))] [(1, .pure (GToken.cs t0))] Y Y Y ?_
       refine AW2_skip ?_
       refine sg [0] Y ?_
       refine rp Y Y (p_asg Y Y) ?_
       refine rz [(1, .q 1 (0)), (3, .b true)] [(1, .pure (GToken.cs t0))] Y Y Y ?_
       refine AW2_seq ?_
       refine bindK H fun j'3 h25 H => ?_
       refine AW2_mid (⟨[(3, .b j'3)], [], 112⟩ : TS) ?_ ?_
       ·clear H
        have H := h25
        clear h25
        refine sg [0, 1] Y ?_
        refine rp Y Y (u_fa Y Y Tryd.underlying52 Y in_3 nz Y Y (nl (GToken.len t0))) ?_
        refine rp Y Y (u_ld Y Y Tryd.underlying3 Y Y ((Sub.refl _).trans (GToken.sub0 t0))) ?_
        refine rz [(1, .q 1 (0)), (3, .b true), (71, .i t0.Kind)] [(1, .pure (GToken.cs t0))] Y Y Y ?_
        refine AW2_block ?_
        refine sg [0, 1] Y ?_
        refine rp Y Y (p_ieq Y Y Y) ?_
        refine rp Y Y (p_asg Y Y) ?_
        refine rz [(1, .q 1 (0)), (3, .b true), (71, .i t0.Kind), (72, .b (decide (t0.Kind = (1 : Int))))] [(1, .pure (GToken.cs t0))] Y Y Y ?_
        refine AW2_if (p := t0.Kind = (1 : Int)) Y (fun h26 => ?_) (fun h26 => ?_)
        ·replace H := ite_then h26 H
         refine bindK H fun g'7 h33 H => ?_
         refine AW2_mid (⟨[(3, .b g'7)], [], 112⟩ : TS) ?_ ?_
         ·clear H
          have H := h33
          clear h33
          refine AW2_reg [0, 1, 2, 3, 4, 5, 6, 7, 8, 9] Y ?_
          refine rp Y Y (u_fa Y Y Tryd.underlying52 Y in_9 nz Y Y (nl (GToken.len t0))) ?_
          refine rp Y Y (u_ld Y Y Tryd.underlying9 Y Y ((Sub.refl _).trans (GToken.sub1 t0))) ?_
          refine bindK H fun r'5 h29 H => ?_
          refine rp Y Y (p_calll Y Y Y Tryd.func33 Y Y (g_lex_all_i0_ac h29) Y ⟨lend_p Y, lend_clo Y Y trivial, trivial⟩) ?_
          refine rp Y Y (p_move Y Y) ?_
          refine (Classical.em (r'5 = true)).elim (fun h30 => ?_) (fun h30 => ?_)
          ·replace H := ite_then h30 H
           refine rn Y Y Y Y h30 Y (u_fa Y Y Tryd.underlying52 Y in_9 nz Y Y (nl (GToken.len t0))) ?_
           refine rn Y Y Y Y h30 Y (u_ld Y Y Tryd.underlying9 Y Y ((Sub.refl _).trans (GToken.sub1 t0))) ?_
           refine chkK H fun h31 H => ?_
           refine rn Y Y Y Y h30 Y (p_ixt Y Tryd.underlying9 Y Y Y (lrd_get h31)) ?_
           refine bindK H fun r'6 h32 H => ?_
           refine rn Y Y Y Y h30 Y (p_callp Y Y Y Tryd.func35 Y Y (g_lex_small_ac h32) ⟨Y, trivial⟩) ?_
           refine rp Y Y (p_pkt Y Y h30 (.same _)) ?_
           refine rp Y Y (p_asg Y Y) ?_
           refine rs [(3, .b r'6)] [] Y Y Y ?_
           have hz := some_elim H
           subst hz
           exact RunW_nil rfl
          ·replace H := ite_else h30 H
           iterate 4 (refine r_off rfl rfl rfl rfl (bfalse h30) rfl rfl ?_)
           refine rp Y Y (p_pkf Y Y (bfalse h30) (.same _)) ?_
           refine rp Y Y (p_asg Y Y) ?_
           refine rs [(3, .b false)] [] Y Y Y ?_
           have hz := some_elim H
           subst hz
           exact RunW_nil rfl
         ·have hz := some_elim H
          subst hz
          exact rfl
        ·replace H := ite_else h26 H
         refine sg [0, 1] Y ?_
         refine rp Y Y (p_ieq Y Y Y) ?_
         refine rp Y Y (p_asg Y Y) ?_
         refine rz [(1, .q 1 (0)), (3, .b true), (71, .i t0.Kind), (83, .b (decide (t0.Kind = (2 : Int))))] [(1, .pure (GToken.cs t0))] Y Y Y ?_
         refine AW2_if (p := t0.Kind = (2 : Int)) Y (fun h35 => ?_) (fun h35 => ?_)
         ·replace H := ite_then h35 H
          refine AW2_reg [0, 1, 2, 3] Y ?_
          refine rp Y Y (u_fa Y Y Tryd.underlying52 Y in_9 nz Y Y (nl (GToken.len t0))) ?_
          refine rp Y Y (u_ld Y Y Tryd.underlying9 Y Y ((Sub.refl _).trans (GToken.sub1 t0))) ?_
          refine bindK H fun r'8 h36 H => ?_
          refine rp Y Y (p_calll Y Y Y Tryd.func33 Y Y (g_lex_all_i1_ac h36) Y ⟨lend_p Y, lend_clo Y Y trivial, trivial⟩) ?_
          refine rp Y Y (p_asg Y Y) ?_
          refine rz [(3, .b r'8)] [] Y Y Y ?_
          have hz := some_elim H
          subst hz
          exact rfl
         ·replace H := ite_else h35 H
          refine sg [0, 1] Y ?_
          refine rp Y Y (p_ieq Y Y Y) ?_
          refine rp Y Y (p_asg Y Y) ?_
          refine rz [(1, .q 1 (0)), (3, .b true), (71, .i t0.Kind), (88, .b (decide (t0.Kind = (3 : Int))))] [(1, .pure (GToken.cs t0))] Y Y Y ?_
          refine AW2_if (p := t0.Kind = (3 : Int)) Y (fun h37 => ?_) (fun h37 => ?_)
          ·replace H := ite_then h37 H
           refine AW2_reg [0, 1, 2, 3] Y ?_
           refine rp Y Y (u_fa Y Y Tryd.underlying52 Y in_3 nz Y Y (nl (GToken.len t0))) ?_
           refine rp Y Y (u_ld Y Y Tryd.underlying3 Y Y ((Sub.refl _).trans (GToken.sub2 t0))) ?_
           refine rp Y Y (p_bin Y Y Y Y) ?_
           refine rp Y Y (p_asg Y Y) ?_
           refine rz [(3, .b (decide (t0.Int_ ≥ (0 : Int))))] [] Y Y Y ?_
           have hz := some_elim H
           subst hz
           exact rfl
          ·replace H := ite_else h37 H
           refine sg [0, 1] Y ?_
           refine rp Y Y (p_ieq Y Y Y) ?_
           refine rp Y Y (p_asg Y Y) ?_
           refine rz [(1, .q 1 (0)), (3, .b true), (71, .i t0.Kind), (93, .b (decide (t0.Kind = (4 : Int))))] [(1, .pure (GToken.cs t0))] Y Y Y ?_
           refine AW2_if (p := t0.Kind = (4 : Int)) Y (fun h38 => ?_) (fun h38 => ?_)
           ·replace H := ite_then h38 H
            refine AW2_reg [0, 1, 2, 3] Y ?_
            refine rp Y Y (u_fa Y Y Tryd.underlying52 Y in_9 nz Y Y (nl (GToken.len t0))) ?_
            refine rp Y Y (u_ld Y Y Tryd.underlying9 Y Y ((Sub.refl _).trans (GToken.sub1 t0))) ?_
            refine bindK H fun r'9 h39 H => ?_
            refine rp Y Y (p_callp Y Y Y Tryd.func37 Y Y (g_utf8_ValidString_ac h39) ⟨Y, trivial⟩) ?_
            refine rp Y Y (p_asg Y Y) ?_
            refine rz [(3, .b r'9)] [] Y Y Y ?_
            have hz := some_elim H
            subst hz
            exact rfl
           ·replace H := ite_else h38 H
            refine sg [0, 1] Y ?_
            refine rp Y Y (p_ieq Y Y Y) ?_
            refine rp Y Y (p_asg Y Y) ?_
            refine rz [(1, .q 1 (0)), (3, .b true), (71, .i t0.Kind), (98, .b (decide (t0.Kind = (5 : Int))))] [(1, .pure (GToken.cs t0))] Y Y Y ?_
            refine AW2_if (p := t0.Kind = (5 : Int)) Y (fun h40 => ?_) (fun h40 => ?_)
            ·replace H := ite_then h40 H
             refine AW2_reg [0, 1, 2, 3, 4, 5] Y ?_
             refine rp Y Y (u_fa Y Y Tryd.underlying52 Y in_50 nz Y Y (nl (GToken.len t0))) ?_
             refine rp Y Y (u_ld Y Y Tryd.underlying50 Y Y ((Sub.refl _).trans (GToken.sub3 t0))) ?_
             refine rp Y Y (u_bld Y in_71 one_71 zc_71 pl_71 Y (af_cons Y Y (GValue.upd0 GValue.zero (3 : Int)) (af_cons Y Y (GValue.upd2 ((GValue.w0 GValue.zero (3 : Int))) t0.Bits) Y))) ?_
             refine bindK H fun r'10 h41 H => ?_
             refine rp Y Y (p_callp Y Y Y Tryd.func38 Y Y (g_value_Check_ac h41) ⟨Y, trivial⟩) ?_
             refine rp Y Y (p_ieq Y Y Y) ?_
             refine rp Y Y (p_asg Y Y) ?_
             refine rz [(3, .b (decide (r'10 = (0 : Int))))] [] Y Y Y ?_
             have hz := some_elim H
             subst hz
             exact rfl
            ·replace H := ite_else h40 H
             refine sg [0, 1] Y ?_
             refine rp Y Y (p_ieq Y Y Y) ?_
             refine rp Y Y (p_asg Y Y) ?_
             refine rz [(1, .q 1 (0)), (3, .b true), (105, .b (decide (t0.Kind = (6 : Int))))] [(1, .pure (GToken.cs t0))] Y Y Y ?_
             refine AW2_if (p := t0.Kind = (6 : Int)) Y (fun h42 => ?_) (fun h42 => ?_)
             ·replace H := ite_then h42 H
              refine AW2_reg [0, 1, 2, 3] Y ?_
              refine rp Y Y (u_fa Y Y Tryd.underlying52 Y in_9 nz Y Y (nl (GToken.len t0))) ?_
              refine rp Y Y (u_ld Y Y Tryd.underlying9 Y Y ((Sub.refl _).trans (GToken.sub1 t0))) ?_
              refine bindK H fun r'11 h43 H => ?_
              refine rp Y Y (p_callp Y Y Y Tryd.func39 Y Y (g_lex_sign_ac h43) ⟨Y, trivial⟩) ?_
              refine rp Y Y (p_asg Y Y) ?_
              refine rz [(3, .b r'11)] [] Y Y Y ?_
              have hz := some_elim H
              subst hz
              exact rfl
             ·replace H := ite_else h42 H
              refine as2 [(3, .b true)] [] Y Y Y ?_
              refine AW2_skip ?_
              have hz := some_elim H
              subst hz
              exact rfl
       ·refine AW2_seq ?_
        refine sg [0, 1] Y ?_
        refine rp Y Y (p_move Y Y) ?_
        refine rp Y Y (p_not Y Y) ?_
        refine rz [(111, .b (!j'3))] [] Y Y Y ?_
        refine AW2_cond Y (fun h44 => ?_) (fun h44 => ?_)
        ·replace H := ite_then h44 H
         refine sg [0] Y ?_
         refine rp Y Y (p_asg Y Y) ?_
         refine rz [(2, .i (3 : Int))] [] Y Y Y ?_
         refine AW2_ret ?_
         have hz := some_elim H
         subst hz
         exact ⟨⟨res_tmp (.same _), trivial⟩, trivial⟩
        ·replace H := ite_else (ne_true h44) H
         refine as2 [] [] Y Y Y ?_
         refine AW2_skip ?_
         refine sg [0] Y ?_
         refine rp Y Y (p_asg Y Y) ?_
         refine rz [(2, .i (0 : Int))] [] Y Y Y ?_
         refine AW2_ret ?_
         have hz := some_elim H
         subst hz
         exact ⟨⟨res_tmp (.same _), trivial⟩, trivial⟩

/-! kinds.Columns -/
noncomputable def g_kinds_Columns_l1 (cols0 : List GColumn) (t12_0 : Int) : Int → Option (Int ⊕ (Int ⊕ Unit))
  | t34_1 => (if t34_1 < ((cut cols0 (0 : Int) t12_0).length : Int) then if 0 ≤ t34_1 ∧ t34_1 < ((cut cols0 (0 : Int) t12_0).length : Int) then (if (lrd (cut cols0 (0 : Int) t12_0) t34_1.toNat).Name = (lrd cols0 t12_0.toNat).Name then some (.inr (.inl (8 : Int))) else some (.inl (w64 (t34_1 + (1 : Int))))) else none else some (.inr (.inr ())))
noncomputable def g_kinds_Columns_l0 (cols0 : List GColumn) : Int → Option (Int ⊕ (Int ⊕ Unit))
  | t12_0 => (if t12_0 < (cols0.length : Int) then if 0 ≤ t12_0 ∧ t12_0 < (cols0.length : Int) then (g_lex_Check ({ { GToken.zero with Kind := (1 : Int) } with Text := (lrd cols0 t12_0.toNat).Name })).bind fun r'1 => (if r'1 ≠ (0 : Int) then some (.inr (.inl (3 : Int))) else (if ((lrd cols0 t12_0.toNat).Kind < (1 : Int)) ∨ ((lrd cols0 t12_0.toNat).Kind > (4 : Int)) then some (.inr (.inl (2 : Int))) else if 0 ≤ t12_0 ∧ t12_0 ≤ (cols0.length : Int) then (loopO (g_kinds_Columns_l1 cols0 t12_0) (0 : Int)).bind fun o'5 => match o'5 with | .inl y'6 => some (.inr (.inl y'6)) | .inr (y'7) => some (.inl (w64 (t12_0 + (1 : Int)))) else none)) else none else some (.inr (.inr ())))
noncomputable def g_kinds_Columns (cols0 : List GColumn) : Option (Int) :=
  (if (cols0.length : Int) > (5 : Int) then some (1 : Int) else (loopO (g_kinds_Columns_l0 cols0) (0 : Int)).bind fun o'11 => match o'11 with | .inl y'12 => some y'12 | .inr (y'13) => some (0 : Int))
set_option maxHeartbeats 4000000 in
set_option maxRecDepth 100000 in
theorem g_kinds_Columns_ac {cols0 : List GColumn} {r : Int} (H : g_kinds_Columns cols0 = some r) : ACp Tryd.prog 18 [((fun q : List GColumn => AV.lst (q.flatMap GColumn.cs) q.length) cols0)] (AV.int r) := by
 refine ACp_of (AC2_of_body (vs := [.i r]) Tryd.func18 Y Y (Nat.le_of_ble_eq_true Y) Y ?_) (fun _ => .same _)
 unfold g_kinds_Columns at H
 refine as2 [(0, .p ((fun q : List GColumn => AV.lst (q.flatMap GColumn.cs) q.length) cols0))] [] Y Y Y ?_
 refine sg [0] Y ?_
 refine rp Y Y (p_asg Y Y) ?_
 refine rz [(0, .p ((fun q : List GColumn => AV.lst (q.flatMap GColumn.cs) q.length) cols0))] [] Y Y Y ?_
 refine AW2_seq ?_
 refine sg [0, 1, 2] Y ?_
 refine rp Y Y (p_move Y Y) ?_
 refine rp Y Y (p_lenl Y Tryd.underlying22 Y Y) ?_
 refine rp Y Y (p_bin Y Y Y Y) ?_
 refine rz [(0, .p ((fun q : List GColumn => AV.lst (q.flatMap GColumn.cs) q.length) cols0)), (9, .b (decide ((cols0.length : Int) > (5 : Int))))] [] Y Y Y ?_
 refine AW2_if (p := (cols0.length : Int) > (5 : Int)) Y (fun h1 => ?_) (fun h1 => ?_)
 ·replace H := ite_then h1 H
  refine sg [0] Y ?_
  refine rp Y Y (p_asg Y Y) ?_
  refine rz [(2, .i (1 : Int))] [] Y Y Y ?_
  refine AW2_ret ?_
  have hz := some_elim H
  subst hz
  exact ⟨⟨res_tmp (.same _), trivial⟩, trivial⟩
 ·replace H := ite_else h1 H
  refine as2 [(0, .p ((fun q : List GColumn => AV.lst (q.flatMap GColumn.cs) q.length) cols0))] [] Y Y Y ?_
  refine AW2_skip ?_
  refine AW2_seq ?_
  refine sg [0, 1, 2] Y ?_
  refine rp Y Y (p_move Y Y) ?_
  refine rp Y Y (p_lenl Y Tryd.underlying22 Y Y) ?_
  refine rp Y Y (p_move Y Y) ?_
  refine rz [(0, .p ((fun q : List GColumn => AV.lst (q.flatMap GColumn.cs) q.length) cols0)), (10, .p ((fun q : List GColumn => AV.lst (q.flatMap GColumn.cs) q.length) cols0)), (11, .i (cols0.length : Int)), (12, .i (0 : Int))] [] Y Y Y ?_
  refine AW2_block ?_
  refine as2 [(0, .p ((fun q : List GColumn => AV.lst (q.flatMap GColumn.cs) q.length) cols0)), (10, .p ((fun q : List GColumn => AV.lst (q.flatMap GColumn.cs) q.length) cols0)), (11, .i (cols0.length : Int)), (12, .i (0 : Int))] [] Y Y Y ?_
  refine bindK H fun o'11 h13 H => ?_
  refine AW2_loopO (fun a'8 : Int => (⟨[(0, .p ((fun q : List GColumn => AV.lst (q.flatMap GColumn.cs) q.length) cols0)), (10, .p ((fun q : List GColumn => AV.lst (q.flatMap GColumn.cs) q.length) cols0)), (11, .i (cols0.length : Int)), (12, .i a'8)], [], 45⟩ : TS)) (fun (o : Int ⊕ Unit) e s' => match o with | .inl y'9 => e = Go.Exit.ret ∧ ResAll Tryd.prog s' [ResultVar.tmp 2] [.i y'9] ∧ HFits s' [] | .inr (y'10) => e = Go.Exit.exit 0 ∧ s' = (⟨[], [], 45⟩ : TS)) h13 Y (fun t12_0 x hx => ?_) (fun e s' hs => ?_)
  ·clear H
   have H := hx
   clear hx
   unfold g_kinds_Columns_l0 at H
   refine sg [0] Y ?_
   refine rp Y Y (p_bin Y Y Y Y) ?_
   refine rz [(0, .p ((fun q : List GColumn => AV.lst (q.flatMap GColumn.cs) q.length) cols0)), (10, .p ((fun q : List GColumn => AV.lst (q.flatMap GColumn.cs) q.length) cols0)), (11, .i (cols0.length : Int)), (12, .i t12_0), (13, .b (decide (t12_0 < (cols0.length : Int))))] [] Y Y Y ?_
   refine AW2_seq ?_
   refine AW2_if (p := t12_0 < (cols0.length : Int)) Y (fun h2 => ?_) (fun h2 => ?_)
   ·replace H := ite_then h2 H
    refine as2 [(0, .p ((fun q : List GColumn => AV.lst (q.flatMap GColumn.cs) q.length) cols0)), (10, .p ((fun q : List GColumn => AV.lst (q.flatMap GColumn.cs) q.length) cols0)), (11, .i (cols0.length : Int)), (12, .i t12_0)] [] Y Y Y ?_
    refine AW2_skip ?_
    refine AW2_seq ?_
    refine AW2_block ?_
    refine sg [0, 1, 2, 3, 4, 5] Y ?_
    refine rp Y Y (p_move Y Y) ?_
    refine chkK H fun h3 H => ?_
    refine rp Y Y (u_ixl Y Y Tryd.underlying22 in_55 Y Y (ixe h3) (ixn h3) (fne (fun x => (GColumn.len x)) (by decide) (ixn h3))) ?_
    refine rp Y Y (u_lda Y Y Tryd.underlying55 Y in_55 Y (Nat.succ_pos _) (Sub.fm default (fun x => (GColumn.len x)) (ixn h3)) (GColumn.len (lrd cols0 t12_0.toNat))) ?_
    refine r_op Y Y (MakeD.opD (u_alloc 4 Y in_55 one_55 zc_55) Y Y Y Y) ?_
    refine rp Y Y (p_asg Y Y) ?_
    refine r_op Y Y (u_st Y Y Y Y Y in_55 (GColumn.len (lrd cols0 t12_0.toNat)) (nl (GColumn.len GColumn.zero)) (Upd.refl ((GColumn.len (lrd cols0 t12_0.toNat)).trans (GColumn.len GColumn.zero).symm))) ?_
    refine rz [(0, .p ((fun q : List GColumn => AV.lst (q.flatMap GColumn.cs) q.length) cols0)), (3, .i t12_0), (4, .q 4 (0)), (10, .p ((fun q : List GColumn => AV.lst (q.flatMap GColumn.cs) q.length) cols0)), (11, .i (cols0.length : Int)), (12, .i t12_0)] [(4, .pure (GColumn.cs (lrd cols0 t12_0.toNat)))] Y Y Y ?_
    refine AW2_seq ?_
    refine sg [0, 1, 2, 3, 4] Y ?_
    refine rp Y Y (u_fa Y Y Tryd.underlying55 Y in_9 nz Y Y (nl (GColumn.len (lrd cols0 t12_0.toNat)))) ?_
    refine rp Y Y (u_ld Y Y Tryd.underlying9 Y Y ((Sub.refl _).trans (GColumn.sub0 (lrd cols0 t12_0.toNat)))) ?_
    refine rp Y Y (u_bld Y in_52 one_52 zc_52 pl_52 Y (af_cons Y Y (GToken.upd0 GToken.zero (1 : Int)) (af_cons Y Y (GToken.upd1 ((GToken.w0 GToken.zero (1 : Int))) ((lrd cols0 t12_0.toNat).Name)) Y))) ?_
    refine bindK H fun r'1 h4 H => ?_
    refine rp Y Y (p_callp Y Y Y Tryd.func17 Y Y (g_lex_Check_ac h4) ⟨Y, trivial⟩) ?_
    refine rp Y Y (p_ine Y Y Y) ?_
    refine rz [(0, .p ((fun q : List GColumn => AV.lst (q.flatMap GColumn.cs) q.length) cols0)), (3, .i t12_0), (4, .q 4 (0)), (10, .p ((fun q : List GColumn => AV.lst (q.flatMap GColumn.cs) q.length) cols0)), (11, .i (cols0.length : Int)), (12, .i t12_0), (21, .b (decide (r'1 ≠ (0 : Int))))] [(4, .pure (GColumn.cs (lrd cols0 t12_0.toNat)))] Y Y Y ?_
    refine AW2_if (p := r'1 ≠ (0 : Int)) Y (fun h5 => ?_) (fun h5 => ?_)
    ·replace H := ite_then h5 H
     refine sg [0] Y ?_
     refine rp Y Y (p_asg Y Y) ?_
     refine rz [(2, .i (3 : Int))] [] Y Y Y ?_
     refine AW2_ret ?_
     have hz := some_elim H
     subst hz
     exact ⟨Y, ⟨res_tmp (.same _), trivial⟩, trivial⟩
    ·replace H := ite_else h5 H
     refine as2 [(0, .p ((fun q : List GColumn => AV.lst (q.flatMap GColumn.cs) q.length) cols0)), (3, .i t12_0), (4, .q 4 (0)), (10, .p ((fun q : List GColumn => AV.lst (q.flatMap GColumn.cs) q.length) cols0)), (11, .i (cols0.length : Int)), (12, .i t12_0)] [(4, .pure (GColumn.cs (lrd cols0 t12_0.toNat)))] Y Y Y ?_
     refine AW2_skip ?_
     refine AW2_seq ?_
     refine AW2_seq ?_
     refine AW2_mid (⟨[(0, .p ((fun q : List GColumn => AV.lst (q.flatMap GColumn.cs) q.length) cols0)), (3, .i t12_0), (4, .q 4 (0)), (10, .p ((fun q : List GColumn => AV.lst (q.flatMap GColumn.cs) q.length) cols0)), (11, .i (cols0.length : Int)), (12, .i t12_0), (29, .b (decide (((lrd cols0 t12_0.toNat).Kind < (1 : Int)) ∨ ((lrd cols0 t12_0.toNat).Kind > (4 : Int)))))], [(4, .pure (GColumn.cs (lrd cols0 t12_0.toNat)))], 45⟩ : TS) ?_ ?_
     ·refine AW2_reg [0, 1, 2, 3, 4, 5, 6, 7] Y ?_
      refine rp Y Y (u_fa Y Y Tryd.underlying55 Y in_3 nz Y Y (nl (GColumn.len (lrd cols0 t12_0.toNat)))) ?_
      refine rp Y Y (u_ld Y Y Tryd.underlying3 Y Y ((Sub.refl _).trans (GColumn.sub1 (lrd cols0 t12_0.toNat)))) ?_
      refine rp Y Y (p_bin Y Y Y Y) ?_
      refine rp Y Y (p_move Y Y) ?_
      refine (Classical.em ((lrd cols0 t12_0.toNat).Kind < (1 : Int))).elim (fun h6 => ?_) (fun h6 => ?_)
      ·refine r_off Y Y Y Y (dT h6) Y Y ?_
       refine r_off Y Y Y Y (dT h6) Y Y ?_
       refine r_off Y Y Y Y (dT h6) Y Y ?_
       refine rp Y Y (p_pkt Y Y (dT h6) (tb (dT (p := ((lrd cols0 t12_0.toNat).Kind < (1 : Int)) ∨ ((lrd cols0 t12_0.toNat).Kind > (4 : Int))) (Or.inl h6)).symm)) ?_
       refine rs [(0, .p ((fun q : List GColumn => AV.lst (q.flatMap GColumn.cs) q.length) cols0)), (3, .i t12_0), (4, .q 4 (0)), (10, .p ((fun q : List GColumn => AV.lst (q.flatMap GColumn.cs) q.length) cols0)), (11, .i (cols0.length : Int)), (12, .i t12_0), (29, .b (decide (((lrd cols0 t12_0.toNat).Kind < (1 : Int)) ∨ ((lrd cols0 t12_0.toNat).Kind > (4 : Int)))))] [(4, .pure (GColumn.cs (lrd cols0 t12_0.toNat)))] Y Y Y ?_
       exact RunW_nil rfl
      ·refine r_on Y Y Y Y (dF h6) Y (PureD.opD (u_fa Y Y Tryd.underlying55 Y in_3 nz Y Y (nl (GColumn.len (lrd cols0 t12_0.toNat))))) ?_
       refine r_on Y Y Y Y (dF h6) Y (PureD.opD (u_ld Y Y Tryd.underlying3 Y Y ((Sub.refl _).trans (GColumn.sub1 (lrd cols0 t12_0.toNat))))) ?_
       refine r_on Y Y Y Y (dF h6) Y (PureD.opD (p_bin Y Y Y Y)) ?_
       refine rp Y Y (p_pkf Y Y (dF h6) (tb ((or_l (p := (lrd cols0 t12_0.toNat).Kind < (1 : Int)) (q := (lrd cols0 t12_0.toNat).Kind > (4 : Int)) h6)))) ?_
       refine rs [(0, .p ((fun q : List GColumn => AV.lst (q.flatMap GColumn.cs) q.length) cols0)), (3, .i t12_0), (4, .q 4 (0)), (10, .p ((fun q : List GColumn => AV.lst (q.flatMap GColumn.cs) q.length) cols0)), (11, .i (cols0.length : Int)), (12, .i t12_0), (29, .b (decide (((lrd cols0 t12_0.toNat).Kind < (1 : Int)) ∨ ((lrd cols0 t12_0.toNat).Kind > (4 : Int)))))] [(4, .pure (GColumn.cs (lrd cols0 t12_0.toNat)))] Y Y Y ?_
       exact RunW_nil rfl
     ·refine AW2_if (p := ((lrd cols0 t12_0.toNat).Kind < (1 : Int)) ∨ ((lrd cols0 t12_0.toNat).Kind > (4 : Int))) Y (fun h7 => ?_) (fun h7 => ?_)
      ·replace H := ite_then h7 H
       refine sg [0] Y ?_
       refine rp Y Y (p_asg Y Y) ?_
       refine rz [(2, .i (2 : Int))] [] Y Y Y ?_
       refine AW2_ret ?_
       have hz := some_elim H
       subst hz
       exact ⟨Y, ⟨res_tmp (.same _), trivial⟩, trivial⟩
      ·replace H := ite_else h7 H
       refine as2 [(0, .p ((fun q : List GColumn => AV.lst (q.flatMap GColumn.cs) q.length) cols0)), (3, .i t12_0), (4, .q 4 (0)), (10, .p ((fun q : List GColumn => AV.lst (q.flatMap GColumn.cs) q.length) cols0)), (11, .i (cols0.length : Int)), (12, .i t12_0)] [(4, .pure (GColumn.cs (lrd cols0 t12_0.toNat)))] Y Y Y ?_
       refine AW2_skip ?_
       refine sg [0, 1, 2, 3, 4] Y ?_
       refine rp Y Y (p_move Y Y) ?_
       refine rp Y Y (p_move Y Y) ?_
       refine chkK H fun h8 H => ?_
       refine rp Y Y (u_cutl (g := (fun l => l.flatMap GColumn.cs)) (a := (0 : Int)) (b := t12_0) Y Y Tryd.underlying22 in_55 Y bT_zero (bT_i (Int.le_trans (show 0 ≤ (0 : Int) ∧ (0 : Int) ≤ t12_0 ∧ t12_0 ≤ (cols0.length : Int) from ⟨Int.le_refl _, h8.1, h8.2⟩).1 (show 0 ≤ (0 : Int) ∧ (0 : Int) ≤ t12_0 ∧ t12_0 ≤ (cols0.length : Int) from ⟨Int.le_refl _, h8.1, h8.2⟩).2.1) Y) (.inl Y) (show 0 ≤ (0 : Int) ∧ (0 : Int) ≤ t12_0 ∧ t12_0 ≤ (cols0.length : Int) from ⟨Int.le_refl _, h8.1, h8.2⟩) (g_fm (fun x => (GColumn.len x)))) ?_
       refine rp Y Y (p_lenl Y Tryd.underlying22 Y Y) ?_
       refine rp Y Y (p_move Y Y) ?_
       refine rz [(0, .p ((fun q : List GColumn => AV.lst (q.flatMap GColumn.cs) q.length) cols0)), (4, .q 4 (0)), (10, .p ((fun q : List GColumn => AV.lst (q.flatMap GColumn.cs) q.length) cols0)), (11, .i (cols0.length : Int)), (12, .i t12_0), (32, .p ((fun q : List GColumn => AV.lst (q.flatMap GColumn.cs) q.length) (cut cols0 (0 : Int) t12_0))), (33, .i ((cut cols0 (0 : Int) t12_0).length : Int)), (34, .i (0 : Int))] [(4, .pure (GColumn.cs (lrd cols0 t12_0.toNat)))] Y Y Y ?_
       refine AW2_block ?_
       refine as2 [(0, .p ((fun q : List GColumn => AV.lst (q.flatMap GColumn.cs) q.length) cols0)), (4, .q 4 (0)), (10, .p ((fun q : List GColumn => AV.lst (q.flatMap GColumn.cs) q.length) cols0)), (11, .i (cols0.length : Int)), (12, .i t12_0), (32, .p ((fun q : List GColumn => AV.lst (q.flatMap GColumn.cs) q.length) (cut cols0 (0 : Int) t12_0))), (33, .i ((cut cols0 (0 : Int) t12_0).length : Int)), (34, .i (0 : Int))] [(4, .pure (GColumn.cs (lrd cols0 t12_0.toNat)))] Y Y Y ?_
       refine bindK H fun o'5 h12 H => ?_
       refine AW2_loopO (fun a'2 : Int => (⟨[(0, .p ((fun q : List GColumn => AV.lst (q.flatMap GColumn.cs) q.length) cols0)), (4, .q 4 (0)), (10, .p ((fun q : List GColumn => AV.lst (q.flatMap GColumn.cs) q.length) cols0)), (11, .i (cols0.length : Int)), (12, .i t12_0), (32, .p ((fun q : List GColumn => AV.lst (q.flatMap GColumn.cs) q.length) (cut cols0 (0 : Int) t12_0))), (33, .i ((cut cols0 (0 : Int) t12_0).length : Int)), (34, .i a'2)], [(4, .pure (GColumn.cs (lrd cols0 t12_0.toNat)))], 45⟩ : TS)) (fun (o : Int ⊕ Unit) e s' => match o with | .inl y'3 => e = Go.Exit.ret ∧ ResAll Tryd.prog s' [ResultVar.tmp 2] [.i y'3] ∧ HFits s' [] | .inr (y'4) => e = Go.Exit.exit 2 ∧ s' = (⟨[(0, .p ((fun q : List GColumn => AV.lst (q.flatMap GColumn.cs) q.length) cols0)), (10, .p ((fun q : List GColumn => AV.lst (q.flatMap GColumn.cs) q.length) cols0)), (11, .i (cols0.length : Int)), (12, .i t12_0)], [], 45⟩ : TS)) h12 Y (fun t34_1 x hx => ?_) (fun e s' hs => ?_)
       ·clear H
        have H := hx
        clear hx
        unfold g_kinds_Columns_l1 at H
        refine sg [0] Y ?_
        refine rp Y Y (p_bin Y Y Y Y) ?_
        refine rz [(0, .p ((fun q : List GColumn => AV.lst (q.flatMap GColumn.cs) q.length) cols0)), (4, .q 4 (0)), (10, .p ((fun q : List GColumn => AV.lst (q.flatMap GColumn.cs) q.length) cols0)), (11, .i (cols0.length : Int)), (12, .i t12_0), (32, .p ((fun q : List GColumn => AV.lst (q.flatMap GColumn.cs) q.length) (cut cols0 (0 : Int) t12_0))), (33, .i ((cut cols0 (0 : Int) t12_0).length : Int)), (34, .i t34_1), (35, .b (decide (t34_1 < ((cut cols0 (0 : Int) t12_0).length : Int))))] [(4, .pure (GColumn.cs (lrd cols0 t12_0.toNat)))] Y Y Y ?_
        refine AW2_seq ?_
        refine AW2_if (p := t34_1 < ((cut cols0 (0 : Int) t12_0).length : Int)) Y (fun h9 => ?_) (fun h9 => ?_)
        ·replace H := ite_then h9 H
         refine as2 [(0, .p ((fun q : List GColumn => AV.lst (q.flatMap GColumn.cs) q.length) cols0)), (4, .q 4 (0)), (10, .p ((fun q : List GColumn => AV.lst (q.flatMap GColumn.cs) q.length) cols0)), (11, .i (cols0.length : Int)), (12, .i t12_0), (32, .p ((fun q : List GColumn => AV.lst (q.flatMap GColumn.cs) q.length) (cut cols0 (0 : Int) t12_0))), (33, .i ((cut cols0 (0 : Int) t12_0).length : Int)), (34, .i t34_1)] [(4, .pure (GColumn.cs (lrd cols0 t12_0.toNat)))] Y Y Y ?_
         refine AW2_skip ?_
         refine AW2_seq ?_
         refine AW2_block ?_
         refine sg [0, 1, 2, 3] Y ?_
         refine chkK H fun h10 H => ?_
         refine rp Y Y (u_ixl Y Y Tryd.underlying22 in_55 Y Y (ixe h10) (ixn h10) (fne (fun x => (GColumn.len x)) (by decide) (ixn h10))) ?_
         refine rp Y Y (u_lda Y Y Tryd.underlying55 Y in_55 Y (Nat.succ_pos _) (Sub.fm default (fun x => (GColumn.len x)) (ixn h10)) (GColumn.len (lrd (cut cols0 (0 : Int) t12_0) t34_1.toNat))) ?_
         refine r_op Y Y (MakeD.opD (u_alloc 6 Y in_55 one_55 zc_55) Y Y Y Y) ?_
         refine r_op Y Y (u_st Y Y Y Y Y in_55 (GColumn.len (lrd (cut cols0 (0 : Int) t12_0) t34_1.toNat)) (nl (GColumn.len GColumn.zero)) (Upd.refl ((GColumn.len (lrd (cut cols0 (0 : Int) t12_0) t34_1.toNat)).trans (GColumn.len GColumn.zero).symm))) ?_
         refine rz [(0, .p ((fun q : List GColumn => AV.lst (q.flatMap GColumn.cs) q.length) cols0)), (4, .q 4 (0)), (6, .q 6 (0)), (10, .p ((fun q : List GColumn => AV.lst (q.flatMap GColumn.cs) q.length) cols0)), (11, .i (cols0.length : Int)), (12, .i t12_0), (32, .p ((fun q : List GColumn => AV.lst (q.flatMap GColumn.cs) q.length) (cut cols0 (0 : Int) t12_0))), (33, .i ((cut cols0 (0 : Int) t12_0).length : Int)), (34, .i t34_1)] [(4, .pure (GColumn.cs (lrd cols0 t12_0.toNat))), (6, .pure (GColumn.cs (lrd (cut cols0 (0 : Int) t12_0) t34_1.toNat)))] Y Y Y ?_
         refine sg [0, 1, 2, 3, 4] Y ?_
         refine rp Y Y (u_fa Y Y Tryd.underlying55 Y in_9 nz Y Y (nl (GColumn.len (lrd (cut cols0 (0 : Int) t12_0) t34_1.toNat)))) ?_
         refine rp Y Y (u_ld Y Y Tryd.underlying9 Y Y ((Sub.refl _).trans (GColumn.sub0 (lrd (cut cols0 (0 : Int) t12_0) t34_1.toNat)))) ?_
         refine rp Y Y (u_fa Y Y Tryd.underlying55 Y in_9 nz Y Y (nl (GColumn.len (lrd cols0 t12_0.toNat)))) ?_
         refine rp Y Y (u_ld Y Y Tryd.underlying9 Y Y ((Sub.refl _).trans (GColumn.sub0 (lrd cols0 t12_0.toNat)))) ?_
         refine rp Y Y (p_seq Y Y Y) ?_
         refine rz [(0, .p ((fun q : List GColumn => AV.lst (q.flatMap GColumn.cs) q.length) cols0)), (4, .q 4 (0)), (10, .p ((fun q : List GColumn => AV.lst (q.flatMap GColumn.cs) q.length) cols0)), (11, .i (cols0.length : Int)), (12, .i t12_0), (32, .p ((fun q : List GColumn => AV.lst (q.flatMap GColumn.cs) q.length) (cut cols0 (0 : Int) t12_0))), (33, .i ((cut cols0 (0 : Int) t12_0).length : Int)), (34, .i t34_1), (42, .b (decide ((lrd (cut cols0 (0 : Int) t12_0) t34_1.toNat).Name = (lrd cols0 t12_0.toNat).Name)))] [(4, .pure (GColumn.cs (lrd cols0 t12_0.toNat)))] Y Y Y ?_
         refine AW2_if (p := (lrd (cut cols0 (0 : Int) t12_0) t34_1.toNat).Name = (lrd cols0 t12_0.toNat).Name) Y (fun h11 => ?_) (fun h11 => ?_)
         ·replace H := ite_then h11 H
          refine sg [0] Y ?_
          refine rp Y Y (p_asg Y Y) ?_
          refine rz [(2, .i (8 : Int))] [] Y Y Y ?_
          refine AW2_ret ?_
          have hz := some_elim H
          subst hz
          exact ⟨Y, ⟨res_tmp (.same _), trivial⟩, trivial⟩
         ·replace H := ite_else h11 H
          refine as2 [(0, .p ((fun q : List GColumn => AV.lst (q.flatMap GColumn.cs) q.length) cols0)), (4, .q 4 (0)), (10, .p ((fun q : List GColumn => AV.lst (q.flatMap GColumn.cs) q.length) cols0)), (11, .i (cols0.length : Int)), (12, .i t12_0), (32, .p ((fun q : List GColumn => AV.lst (q.flatMap GColumn.cs) q.length) (cut cols0 (0 : Int) t12_0))), (33, .i ((cut cols0 (0 : Int) t12_0).length : Int)), (34, .i t34_1)] [(4, .pure (GColumn.cs (lrd cols0 t12_0.toNat)))] Y Y Y ?_
          refine AW2_skip ?_
          refine AW2_reg [0, 1] Y ?_
          refine rp Y Y (p_bin Y Y Y Y) ?_
          refine rp Y Y (p_move Y Y) ?_
          refine rz [(0, .p ((fun q : List GColumn => AV.lst (q.flatMap GColumn.cs) q.length) cols0)), (4, .q 4 (0)), (10, .p ((fun q : List GColumn => AV.lst (q.flatMap GColumn.cs) q.length) cols0)), (11, .i (cols0.length : Int)), (12, .i t12_0), (32, .p ((fun q : List GColumn => AV.lst (q.flatMap GColumn.cs) q.length) (cut cols0 (0 : Int) t12_0))), (33, .i ((cut cols0 (0 : Int) t12_0).length : Int)), (34, .i (w64 (t34_1 + (1 : Int))))] [(4, .pure (GColumn.cs (lrd cols0 t12_0.toNat)))] Y Y Y ?_
          have hz := some_elim H
          subst hz
          exact ⟨Y, Y⟩
        ·replace H := ite_else h9 H
         refine as2 [(0, .p ((fun q : List GColumn => AV.lst (q.flatMap GColumn.cs) q.length) cols0)), (10, .p ((fun q : List GColumn => AV.lst (q.flatMap GColumn.cs) q.length) cols0)), (11, .i (cols0.length : Int)), (12, .i t12_0)] [] Y Y Y ?_
         refine AW2_exit ?_
         refine thenQ2_exit ?_
         have hz := some_elim H
         subst hz
         exact ⟨Y, Y⟩
       ·rcases o'5 with y'6 | y'7
        ·obtain ⟨rfl, hs⟩ := hs
         refine ⟨by simp, ?_⟩
         have hz := some_elim H
         subst hz
         exact ⟨Y, hs.1, hs.2⟩
        ·obtain ⟨rfl, rfl⟩ := hs
         refine ⟨by simp, ?_⟩
         refine blockQ2_exit ?_
         refine AW2_reg [0, 1] Y ?_
         refine rp Y Y (p_bin Y Y Y Y) ?_
         refine rp Y Y (p_move Y Y) ?_
         refine rz [(0, .p ((fun q : List GColumn => AV.lst (q.flatMap GColumn.cs) q.length) cols0)), (10, .p ((fun q : List GColumn => AV.lst (q.flatMap GColumn.cs) q.length) cols0)), (11, .i (cols0.length : Int)), (12, .i (w64 (t12_0 + (1 : Int))))] [] Y Y Y ?_
         have hz := some_elim H
         subst hz
         exact ⟨Y, Y⟩
   ·replace H := ite_else h2 H
    refine as2 [] [] Y Y Y ?_
    refine AW2_exit ?_
    refine thenQ2_exit ?_
    have hz := some_elim H
    subst hz
    exact ⟨Y, Y⟩
  ·rcases o'11 with y'12 | y'13
   ·obtain ⟨rfl, hs⟩ := hs
    refine ⟨by simp, ?_⟩
    have hz := some_elim H
    subst hz
    exact ⟨hs.1, hs.2⟩
   ·obtain ⟨rfl, rfl⟩ := hs
    refine ⟨by simp, ?_⟩
    refine blockQ2_exit ?_
    refine sg [0] Y ?_
    refine rp Y Y (p_asg Y Y) ?_
    refine rz [(2, .i (0 : Int))] [] Y Y Y ?_
    refine AW2_ret ?_
    have hz := some_elim H
    subst hz
    exact ⟨⟨res_tmp (.same _), trivial⟩, trivial⟩

/-! kinds.fits -/
def g_kinds_fits_r14 : List (List (Nat × Option Nat)) := [[(7, none)], [(44, some 0)], [(45, some 1)], [(46, some 2)], [(7, none), (47, some 3)], [(47, some 3), (48, some 4)], [(1, none), (47, some 3)], [(6, none), (47, some 3)], [(47, some 3), (50, some 6), (51, some 7)], [(47, some 3), (52, some 8)], [(47, some 3), (53, some 9)]]
def g_kinds_fits_r14c : List (List Nat) := [[], [0], [0, 1], [0, 1, 2], [0, 1, 2, 3], [0, 1, 2, 3, 4], [0, 1, 2, 3], [0, 1, 2, 3], [0, 1, 2, 3, 6, 7], [0, 1, 2, 3, 6, 7, 8], [0, 1, 2, 3, 6, 7, 8, 9], [0, 1, 2, 3, 4, 5, 6, 7, 8, 9, 10], [0, 1, 2, 3, 4, 5, 6, 7, 8, 9, 10, 11], [0, 1, 2, 3, 4, 5, 6, 7, 8, 9, 10, 11, 12]]
noncomputable def g_kinds_fits_l0 (row0 : List GValue) (cols1 : List GColumn) : Int → Option (Int ⊕ (Int ⊕ Unit))
  | t21_0 => (if t21_0 < (row0.length : Int) then if 0 ≤ t21_0 ∧ t21_0 < (row0.length : Int) then (g_value_Check (lrd row0 t21_0.toNat)).bind fun r'2 => (if r'2 ≠ (0 : Int) then some (.inr (.inl r'2)) else ((if (lrd row0 t21_0.toNat).Kind = (0 : Int) then if 0 ≤ t21_0 ∧ t21_0 < (cols1.length : Int) then some (!((lrd cols1 t21_0.toNat).Null)) else none else some false)).bind fun g'3 => (if g'3 = true then some (.inr (.inl (12 : Int))) else ((if (lrd row0 t21_0.toNat).Kind ≠ (0 : Int) then if 0 ≤ t21_0 ∧ t21_0 < (cols1.length : Int) then some (decide ((lrd row0 t21_0.toNat).Kind ≠ (lrd cols1 t21_0.toNat).Kind)) else none else some false)).bind fun g'4 => (if g'4 = true then some (.inr (.inl (2 : Int))) else some (.inl (w64 (t21_0 + (1 : Int))))))) else none else some (.inr (.inr ())))
noncomputable def g_kinds_fits (row0 : List GValue) (cols1 : List GColumn) : Option (Int) :=
  (g_kinds_Columns cols1).bind fun r'1 => (if r'1 ≠ (0 : Int) then some r'1 else (if (row0.length : Int) ≠ (cols1.length : Int) then some (1 : Int) else (loopO (g_kinds_fits_l0 row0 cols1) (0 : Int)).bind fun o'8 => match o'8 with | .inl y'9 => some y'9 | .inr (y'10) => some (0 : Int)))
set_option maxHeartbeats 4000000 in
set_option maxRecDepth 100000 in
theorem g_kinds_fits_ac {row0 : List GValue} {cols1 : List GColumn} {r : Int} (H : g_kinds_fits row0 cols1 = some r) : ACp Tryd.prog 40 [((fun q : List GValue => AV.lst (q.flatMap GValue.cs) q.length) row0), ((fun q : List GColumn => AV.lst (q.flatMap GColumn.cs) q.length) cols1)] (AV.int r) := by
 refine ACp_of (AC2_of_body (vs := [.i r]) Tryd.func40 Y Y (Nat.le_of_ble_eq_true Y) Y ?_) (fun _ => .same _)
 unfold g_kinds_fits at H
 refine as2 [(0, .p ((fun q : List GValue => AV.lst (q.flatMap GValue.cs) q.length) row0)), (1, .p ((fun q : List GColumn => AV.lst (q.flatMap GColumn.cs) q.length) cols1))] [] Y Y Y ?_
 refine sg [0] Y ?_
 refine rp Y Y (p_asg Y Y) ?_
 refine rz [(0, .p ((fun q : List GValue => AV.lst (q.flatMap GValue.cs) q.length) row0)), (1, .p ((fun q : List GColumn => AV.lst (q.flatMap GColumn.cs) q.length) cols1))] [] Y Y Y ?_
 refine AW2_seq ?_
 refine sg [0, 1, 2] Y ?_
 refine rp Y Y (p_move Y Y) ?_
 refine bindK H fun r'1 h1 H => ?_
 refine rp Y Y (p_callp Y Y Y Tryd.func18 Y Y (g_kinds_Columns_ac h1) ⟨Y, trivial⟩) ?_
 refine rp Y Y (p_asg Y Y) ?_
 refine rz [(0, .p ((fun q : List GValue => AV.lst (q.flatMap GValue.cs) q.length) row0)), (1, .p ((fun q : List GColumn => AV.lst (q.flatMap GColumn.cs) q.length) cols1)), (5, .i r'1)] [] Y Y Y ?_
 refine sg [0, 1] Y ?_
 refine rp Y Y (p_move Y Y) ?_
 refine rp Y Y (p_ine Y Y Y) ?_
 refine rz [(0, .p ((fun q : List GValue => AV.lst (q.flatMap GValue.cs) q.length) row0)), (1, .p ((fun q : List GColumn => AV.lst (q.flatMap GColumn.cs) q.length) cols1)), (5, .i r'1), (12, .b (decide (r'1 ≠ (0 : Int))))] [] Y Y Y ?_
 refine AW2_if (p := r'1 ≠ (0 : Int)) Y (fun h2 => ?_) (fun h2 => ?_)
 ·replace H := ite_then h2 H
  refine sg [0, 1] Y ?_
  refine rp Y Y (p_move Y Y) ?_
  refine rp Y Y (p_asg Y Y) ?_
  refine rz [(4, .i r'1)] [] Y Y Y ?_
  refine AW2_ret ?_
  have hz := some_elim H
  subst hz
  exact ⟨⟨res_tmp (.same _), trivial⟩, trivial⟩
 ·replace H := ite_else h2 H
  refine as2 [(0, .p ((fun q : List GValue => AV.lst (q.flatMap GValue.cs) q.length) row0)), (1, .p ((fun q : List GColumn => AV.lst (q.flatMap GColumn.cs) q.length) cols1))] [] Y Y Y ?_
  refine AW2_skip ?_
  refine AW2_seq ?_
  refine sg [0, 1, 2, 3, 4] Y ?_
  refine rp Y Y (p_move Y Y) ?_
  refine rp Y Y (p_lenl Y Tryd.underlying23 Y Y) ?_
  refine rp Y Y (p_move Y Y) ?_
  refine rp Y Y (p_lenl Y Tryd.underlying22 Y Y) ?_
  refine rp Y Y (p_ine Y Y Y) ?_
  refine rz [(0, .p ((fun q : List GValue => AV.lst (q.flatMap GValue.cs) q.length) row0)), (1, .p ((fun q : List GColumn => AV.lst (q.flatMap GColumn.cs) q.length) cols1)), (18, .b (decide ((row0.length : Int) ≠ (cols1.length : Int))))] [] Y Y Y ?_
  refine AW2_if (p := (row0.length : Int) ≠ (cols1.length : Int)) Y (fun h3 => ?_) (fun h3 => ?_)
  ·replace H := ite_then h3 H
   refine sg [0] Y ?_
   refine rp Y Y (p_asg Y Y) ?_
   refine rz [(4, .i (1 : Int))] [] Y Y Y ?_
   refine AW2_ret ?_
   have hz := some_elim H
   subst hz
   exact ⟨⟨res_tmp (.same _), trivial⟩, trivial⟩
  ·replace H := ite_else h3 H
   refine as2 [(0, .p ((fun q : List GValue => AV.lst (q.flatMap GValue.cs) q.length) row0)), (1, .p ((fun q : List GColumn => AV.lst (q.flatMap GColumn.cs) q.length) cols1))] [] Y Y Y ?_
   refine AW2_skip ?_
   refine AW2_seq ?_
   refine sg [0, 1, 2] Y ?_
   refine rp Y Y (p_move Y Y) ?_
   refine rp Y Y (p_lenl Y Tryd.underlying23 Y Y) ?_
   refine rp Y Y (p_move Y Y) ?_
   refine rz [(1, .p ((fun q : List GColumn => AV.lst (q.flatMap GColumn.cs) q.length) cols1)), (19, .p ((fun q : List GValue => AV.lst (q.flatMap GValue.cs) q.length) row0)), (20, .i (row0.length : Int)), (21, .i (0 : Int))] [] Y Y Y ?_
   refine AW2_block ?_
   refine as2 [(1, .p ((fun q : List GColumn => AV.lst (q.flatMap GColumn.cs) q.length) cols1)), (19, .p ((fun q : List GValue => AV.lst (q.flatMap GValue.cs) q.length) row0)), (20, .i (row0.length : Int)), (21, .i (0 : Int))] [] Y Y Y ?_
   refine bindK H fun o'8 h18 H => ?_
   refine AW2_loopO (fun a'5 : Int => (⟨[(1, .p ((fun q : List GColumn => AV.lst (q.flatMap GColumn.cs) q.length) cols1)), (19, .p ((fun q : List GValue => AV.lst (q.flatMap GValue.cs) q.length) row0)), (20, .i (row0.length : Int)), (21, .i a'5)], [], 58⟩ : TS)) (fun (o : Int ⊕ Unit) e s' => match o with | .inl y'6 => e = Go.Exit.ret ∧ ResAll Tryd.prog s' [ResultVar.tmp 4] [.i y'6] ∧ HFits s' [] | .inr (y'7) => e = Go.Exit.exit 0 ∧ s' = (⟨[], [], 58⟩ : TS)) h18 Y (fun t21_0 x hx => ?_) (fun e s' hs => ?_)
   ·clear H
    have H := hx
    clear hx
    unfold g_kinds_fits_l0 at H
    refine sg [0] Y ?_
    refine rp Y Y (p_bin Y Y Y Y) ?_
    refine rz [(1, .p ((fun q : List GColumn => AV.lst (q.flatMap GColumn.cs) q.length) cols1)), (19, .p ((fun q : List GValue => AV.lst (q.flatMap GValue.cs) q.length) row0)), (20, .i (row0.length : Int)), (21, .i t21_0), (22, .b (decide (t21_0 < (row0.length : Int))))] [] Y Y Y ?_
    refine AW2_seq ?_
    refine AW2_if (p := t21_0 < (row0.length : Int)) Y (fun h4 => ?_) (fun h4 => ?_)
    ·replace H := ite_then h4 H
     refine as2 [(1, .p ((fun q : List GColumn => AV.lst (q.flatMap GColumn.cs) q.length) cols1)), (19, .p ((fun q : List GValue => AV.lst (q.flatMap GValue.cs) q.length) row0)), (20, .i (row0.length : Int)), (21, .i t21_0)] [] Y Y Y ?_
     refine AW2_skip ?_
     refine AW2_seq ?_
     refine AW2_block ?_
     refine sg [0, 1, 2, 3, 4, 5] Y ?_
     refine rp Y Y (p_move Y Y) ?_
     refine chkK H fun h5 H => ?_
     refine rp Y Y (u_ixl Y Y Tryd.underlying23 in_71 Y Y (ixe h5) (ixn h5) (fne (fun x => (GValue.len x)) (by decide) (ixn h5))) ?_
     refine rp Y Y (u_lda Y Y Tryd.underlying71 Y in_71 Y (Nat.succ_pos _) (Sub.fm default (fun x => (GValue.len x)) (ixn h5)) (GValue.len (lrd row0 t21_0.toNat))) ?_
     refine r_op Y Y (MakeD.opD (u_alloc 7 Y in_71 one_71 zc_71) Y Y Y Y) ?_
     refine rp Y Y (p_asg Y Y) ?_
     refine r_op Y Y (u_st Y Y Y Y Y in_71 (GValue.len (lrd row0 t21_0.toNat)) (nl (GValue.len GValue.zero)) (Upd.refl ((GValue.len (lrd row0 t21_0.toNat)).trans (GValue.len GValue.zero).symm))) ?_
     refine rz [(1, .p ((fun q : List GColumn => AV.lst (q.flatMap GColumn.cs) q.length) cols1)), (6, .i t21_0), (7, .q 7 (0)), (19, .p ((fun q : List GValue => AV.lst (q.flatMap GValue.cs) q.length) row0)), (20, .i (row0.length : Int)), (21, .i t21_0)] [(7, .pure (GValue.cs (lrd row0 t21_0.toNat)))] Y Y Y ?_
     refine AW2_seq ?_
     refine sg [0, 1, 2] Y ?_
     refine rp Y Y (u_lda Y Y Tryd.underlying71 Y in_71 Y (Nat.succ_pos _) (Sub.refl _) (GValue.len (lrd row0 t21_0.toNat))) ?_
     refine bindK H fun r'2 h6 H => ?_
     refine rp Y Y (p_callp Y Y Y Tryd.func38 Y Y (g_value_Check_ac h6) ⟨Y, trivial⟩) ?_
     refine rp Y Y (p_asg Y Y) ?_
     refine rz [(1, .p ((fun q : List GColumn => AV.lst (q.flatMap GColumn.cs) q.length) cols1)), (6, .i t21_0), (7, .q 7 (0)), (8, .i r'2), (19, .p ((fun q : List GValue => AV.lst (q.flatMap GValue.cs) q.length) row0)), (20, .i (row0.length : Int)), (21, .i t21_0)] [(7, .pure (GValue.cs (lrd row0 t21_0.toNat)))] Y Y Y ?_
     refine sg [0, 1] Y ?_
     refine rp Y Y (p_move Y Y) ?_
     refine rp Y Y (p_ine Y Y Y) ?_
     refine rz [(1, .p ((fun q : List GColumn => AV.lst (q.flatMap GColumn.cs) q.length) cols1)), (6, .i t21_0), (7, .q 7 (0)), (8, .i r'2), (19, .p ((fun q : List GValue => AV.lst (q.flatMap GValue.cs) q.length) row0)), (20, .i (row0.length : Int)), (21, .i t21_0), (29, .b (decide (r'2 ≠ (0 : Int))))] [(7, .pure (GValue.cs (lrd row0 t21_0.toNat)))] Y Y Y ?_
     refine AW2_if (p := r'2 ≠ (0 : Int)) Y (fun h7 => ?_) (fun h7 => ?_)
     ·replace H := ite_then h7 H
      refine sg [0, 1] Y ?_
      refine rp Y Y (p_move Y Y) ?_
      refine rp Y Y (p_asg Y Y) ?_
      refine rz [(4, .i r'2)] [] Y Y Y ?_
      refine AW2_ret ?_
      have hz := some_elim H
      subst hz
      exact ⟨Y, ⟨res_tmp (.same _), trivial⟩, trivial⟩
     ·replace H := ite_else h7 H
      refine as2 [(1, .p ((fun q : List GColumn => AV.lst (q.flatMap GColumn.cs) q.length) cols1)), (6, .i t21_0), (7, .q 7 (0)), (19, .p ((fun q : List GValue => AV.lst (q.flatMap GValue.cs) q.length) row0)), (20, .i (row0.length : Int)), (21, .i t21_0)] [(7, .pure (GValue.cs (lrd row0 t21_0.toNat)))] Y Y Y ?_
      refine AW2_skip ?_
      refine AW2_block ?_
      refine AW2_seq ?_
      refine bindK H fun g'3 h11 H => ?_
      refine AW2_mid (⟨[(1, .p ((fun q : List GColumn => AV.lst (q.flatMap GColumn.cs) q.length) cols1)), (6, .i t21_0), (7, .q 7 (0)), (19, .p ((fun q : List GValue => AV.lst (q.flatMap GValue.cs) q.length) row0)), (20, .i (row0.length : Int)), (21, .i t21_0), (31, .b g'3)], [(7, .pure (GValue.cs (lrd row0 t21_0.toNat)))], 58⟩ : TS) ?_ ?_
      ·clear H
       have H := h11
       clear h11
       refine AW2_reg [0, 1, 2, 3, 4, 5, 6, 7, 8, 9, 10, 11] Y ?_
       refine rp Y Y (u_fa Y Y Tryd.underlying71 Y in_3 nz Y Y (nl (GValue.len (lrd row0 t21_0.toNat)))) ?_
       refine rp Y Y (u_ld Y Y Tryd.underlying3 Y Y ((Sub.refl _).trans (GValue.sub0 (lrd row0 t21_0.toNat)))) ?_
       refine rp Y Y (p_ieq Y Y Y) ?_
       refine rp Y Y (p_move Y Y) ?_
       refine (Classical.em ((lrd row0 t21_0.toNat).Kind = (0 : Int))).elim (fun h9 => ?_) (fun h9 => ?_)
       ·replace H := ite_then h9 H
        refine r_on Y Y Y Y (dT h9) Y (PureD.opD (p_move Y Y)) ?_
        refine r_on Y Y Y Y (dT h9) Y (PureD.opD (p_move Y Y)) ?_
        refine chkK H fun h10 H => ?_
        refine r_on Y Y Y Y (dT h9) Y (PureD.opD (u_ixl Y Y Tryd.underlying22 in_55 Y Y (ixe h10) (ixn h10) (fne (fun x => (GColumn.len x)) (by decide) (ixn h10)))) ?_
        refine r_on Y Y Y Y (dT h9) Y (PureD.opD (u_far Y Y Tryd.underlying55 Y in_4 nz Y)) ?_
        refine r_on Y Y Y Y (dT h9) Y (PureD.opD (u_ld Y Y Tryd.underlying4 Y Y ((Sub.fm default (fun x => (GColumn.len x)) (ixn h10)).trans (GColumn.sub2 (lrd cols1 t21_0.toNat))))) ?_
        refine r_on Y Y Y Y (dT h9) Y (PureD.opD (p_not Y Y)) ?_
        refine rp Y Y (p_pkt Y Y (dT h9) (.same _)) ?_
        refine rp Y Y (p_asg Y Y) ?_
        refine rs [(1, .p ((fun q : List GColumn => AV.lst (q.flatMap GColumn.cs) q.length) cols1)), (6, .i t21_0), (7, .q 7 (0)), (19, .p ((fun q : List GValue => AV.lst (q.flatMap GValue.cs) q.length) row0)), (20, .i (row0.length : Int)), (21, .i t21_0), (31, .b (!((lrd cols1 t21_0.toNat).Null)))] [(7, .pure (GValue.cs (lrd row0 t21_0.toNat)))] Y Y Y ?_
        have hz := some_elim H
        subst hz
        exact RunW_nil rfl
       ·replace H := ite_else h9 H
        refine r_off Y Y Y Y (dF h9) Y Y ?_
        refine r_off Y Y Y Y (dF h9) Y Y ?_
        refine r_off Y Y Y Y (dF h9) Y Y ?_
        refine r_off Y Y Y Y (dF h9) Y Y ?_
        refine r_off Y Y Y Y (dF h9) Y Y ?_
        refine r_off Y Y Y Y (dF h9) Y Y ?_
        refine rp Y Y (p_pkf Y Y (dF h9) (.same _)) ?_
        refine rp Y Y (p_asg Y Y) ?_
        refine rs [(1, .p ((fun q : List GColumn => AV.lst (q.flatMap GColumn.cs) q.length) cols1)), (6, .i t21_0), (7, .q 7 (0)), (19, .p ((fun q : List GValue => AV.lst (q.flatMap GValue.cs) q.length) row0)), (20, .i (row0.length : Int)), (21, .i t21_0), (31, .b false)] [(7, .pure (GValue.cs (lrd row0 t21_0.toNat)))] Y Y Y ?_
        have hz := some_elim H
        subst hz
        exact RunW_nil rfl
      ·refine AW2_cond Y (fun h12 => ?_) (fun h12 => ?_)
       ·replace H := ite_then h12 H
        refine sg [0] Y ?_
        refine rp Y Y (p_asg Y Y) ?_
        refine rz [(4, .i (12 : Int))] [] Y Y Y ?_
        refine AW2_ret ?_
        have hz := some_elim H
        subst hz
        exact ⟨Y, ⟨res_tmp (.same _), trivial⟩, trivial⟩
       ·replace H := ite_else (ne_true h12) H
        refine AW2_seq ?_
        refine bindK H fun g'4 h15 H => ?_
        refine AW2_mid (⟨[(1, .p ((fun q : List GColumn => AV.lst (q.flatMap GColumn.cs) q.length) cols1)), (19, .p ((fun q : List GValue => AV.lst (q.flatMap GValue.cs) q.length) row0)), (20, .i (row0.length : Int)), (21, .i t21_0), (43, .b g'4)], [], 58⟩ : TS) ?_ ?_
        ·clear H
         have H := h15
         clear h15
         refine (Classical.em ((lrd row0 t21_0.toNat).Kind ≠ (0 : Int))).elim (fun h13 => ?_) (fun h13 => ?_)
         ·replace H := ite_then h13 H
          refine chkK H fun h14 H => ?_
          have hz := some_elim H
          subst hz
          refine AW2_ghoQ ?_
          refine AW2_draw 11 [11, 12, 13] (fun k => ([.q 7 (0 + 0), .i ((lrd row0 t21_0.toNat).Kind), .b (decide ((lrd row0 t21_0.toNat).Kind ≠ (0 : Int))), .b (decide ((lrd row0 t21_0.toNat).Kind ≠ (0 : Int))), .q 7 (0 + 0), .i ((lrd row0 t21_0.toNat).Kind), .p ((fun q : List GColumn => AV.lst (q.flatMap GColumn.cs) q.length) cols1), .i t21_0, .p (.rptr (cols1.flatMap GColumn.cs) (t21_0.toNat * 3)), .p (.rptr (cols1.flatMap GColumn.cs) (t21_0.toNat * 3 + 1)), .i ((lrd cols1 t21_0.toNat).Kind)] : List TV).getD k TV.any) (fun k => g_kinds_fits_r14.getD k []) [(1, none), (19, none), (20, none), (21, none), (47, some 3), (49, some 5), (54, some 10)] [] (fun k => g_kinds_fits_r14c.getD k []) mixed (by kernel_rfl) Y Y (a_op (g_x Y (x_p Y (u_fa Y Y Tryd.underlying71 Y in_3 nz Y Y (nl (GValue.len (lrd row0 t21_0.toNat)))) Y)) (a_op (g_x Y (x_p Y (u_ld Y Y Tryd.underlying3 Y Y ((Sub.refl _).trans (GValue.sub0 (lrd row0 t21_0.toNat)))) Y)) (a_op (g_x Y (x_p Y (p_ine Y Y Y) Y)) (a_op (g_x Y (x_p Y (p_move Y Y) Y)) (a_op (g_on Y Y Y (dT h13) Y (x_p Y (u_fa Y Y Tryd.underlying71 Y in_3 nz Y Y (nl (GValue.len (lrd row0 t21_0.toNat)))) Y)) (a_op (g_on Y Y Y (dT h13) Y (x_p Y (u_ld Y Y Tryd.underlying3 Y Y ((Sub.refl _).trans (GValue.sub0 (lrd row0 t21_0.toNat)))) Y)) (a_op (g_on Y Y Y (dT h13) Y (x_p Y (p_move Y Y) Y)) (a_op (g_on Y Y Y (dT h13) Y (x_p Y (p_move Y Y) Y)) (a_op (g_on Y Y Y (dT h13) Y (x_p Y (u_ixl Y Y Tryd.underlying22 in_55 Y Y (ixe h14) (ixn h14) (fne (fun x => (GColumn.len x)) (by decide) (ixn h14))) Y)) (a_op (g_on Y Y Y (dT h13) Y (x_p Y (u_far Y Y Tryd.underlying55 Y in_3 nz Y) Y)) (a_op (g_on Y Y Y (dT h13) Y (x_p Y (u_ld Y Y Tryd.underlying3 Y Y ((Sub.fm default (fun x => (GColumn.len x)) (ixn h14)).trans (GColumn.sub1 (lrd cols1 t21_0.toNat)))) Y)) (a_nil)))))))))))) ?_
          refine t_on Y Y Y Y (dT h13) Y (PureD.opD (p_ine Y Y Y)) ?_
          refine t_op Y Y (PureD.opD (p_pkt Y Y (dT h13) (.same _))) ?_
          refine t_op Y Y (PureD.opD (p_asg Y Y)) ?_
          refine t_gho (Gho_st (L := [(1, .p ((fun q : List GColumn => AV.lst (q.flatMap GColumn.cs) q.length) cols1)), (19, .p ((fun q : List GValue => AV.lst (q.flatMap GValue.cs) q.length) row0)), (20, .i (row0.length : Int)), (21, .i t21_0), (43, .b (decide ((lrd row0 t21_0.toNat).Kind ≠ (lrd cols1 t21_0.toNat).Kind)))]) (H := []) (N := 58) Y ⟨TLes.same _, TLes.same _, TLes.same _, TLes.same _, TLes.same _, trivial⟩ trivial) ?_
          exact rfl
         ·replace H := ite_else h13 H
          have hz := some_elim H
          subst hz
          refine AW2_ghoQ ?_
          refine AW2_draw 11 [11, 12, 13] (fun k => ([.q 7 (0 + 0), .i ((lrd row0 t21_0.toNat).Kind), .b (decide ((lrd row0 t21_0.toNat).Kind ≠ (0 : Int))), .b (decide ((lrd row0 t21_0.toNat).Kind ≠ (0 : Int))), .p (.tup []), .p (.tup []), .p (.tup []), .p (.tup []), .p (.tup []), .p (.tup []), .p (.tup [])] : List TV).getD k TV.any) (fun k => g_kinds_fits_r14.getD k []) [(1, none), (19, none), (20, none), (21, none), (47, some 3), (49, some 5), (54, some 10)] [] (fun k => g_kinds_fits_r14c.getD k []) mixed (by kernel_rfl) Y Y (a_op (g_x Y (x_p Y (u_fa Y Y Tryd.underlying71 Y in_3 nz Y Y (nl (GValue.len (lrd row0 t21_0.toNat)))) Y)) (a_op (g_x Y (x_p Y (u_ld Y Y Tryd.underlying3 Y Y ((Sub.refl _).trans (GValue.sub0 (lrd row0 t21_0.toNat)))) Y)) (a_op (g_x Y (x_p Y (p_ine Y Y Y) Y)) (a_op (g_x Y (x_p Y (p_move Y Y) Y)) (a_op (g_off Y Y Y Y Y (dF h13) Y Y) (a_op (g_off Y Y Y Y Y (dF h13) Y Y) (a_op (g_off Y Y Y Y Y (dF h13) Y Y) (a_op (g_off Y Y Y Y Y (dF h13) Y Y) (a_op (g_off Y Y Y Y Y (dF h13) Y Y) (a_op (g_off Y Y Y Y Y (dF h13) Y Y) (a_op (g_off Y Y Y Y Y (dF h13) Y Y) (a_nil)))))))))))) ?_
          refine t_off Y Y Y Y (dF h13) Y Y ?_
          refine t_op Y Y (PureD.opD (p_pkf Y Y (dF h13) (.same _))) ?_
          refine t_op Y Y (PureD.opD (p_asg Y Y)) ?_
          refine t_gho (Gho_st (L := [(1, .p ((fun q : List GColumn => AV.lst (q.flatMap GColumn.cs) q.length) cols1)), (19, .p ((fun q : List GValue => AV.lst (q.flatMap GValue.cs) q.length) row0)), (20, .i (row0.length : Int)), (21, .i t21_0), (43, .b false)]) (H := []) (N := 58) Y ⟨TLes.same _, TLes.same _, TLes.same _, TLes.same _, TLes.same _, trivial⟩ trivial) ?_
          exact rfl
        ·refine AW2_cond Y (fun h16 => ?_) (fun h16 => ?_)
         ·replace H := ite_then h16 H
          refine sg [0] Y ?_
          refine rp Y Y (p_asg Y Y) ?_
          refine rz [(4, .i (2 : Int))] [] Y Y Y ?_
          refine AW2_ret ?_
          have hz := some_elim H
          subst hz
          exact ⟨Y, ⟨res_tmp (.same _), trivial⟩, trivial⟩
         ·replace H := ite_else (ne_true h16) H
          refine as2 [(1, .p ((fun q : List GColumn => AV.lst (q.flatMap GColumn.cs) q.length) cols1)), (19, .p ((fun q : List GValue => AV.lst (q.flatMap GValue.cs) q.length) row0)), (20, .i (row0.length : Int)), (21, .i t21_0)] [] Y Y Y ?_
          refine AW2_skip ?_
          refine AW2_reg [0, 1] Y ?_
          refine rp Y Y (p_bin Y Y Y Y) ?_
          refine rp Y Y (p_move Y Y) ?_
          refine rz [(1, .p ((fun q : List GColumn => AV.lst (q.flatMap GColumn.cs) q.length) cols1)), (19, .p ((fun q : List GValue => AV.lst (q.flatMap GValue.cs) q.length) row0)), (20, .i (row0.length : Int)), (21, .i (w64 (t21_0 + (1 : Int))))] [] Y Y Y ?_
          have hz := some_elim H
          subst hz
          exact ⟨Y, Y⟩
    ·replace H := ite_else h4 H
     refine as2 [] [] Y Y Y ?_
     refine AW2_exit ?_
     refine thenQ2_exit ?_
     have hz := some_elim H
     subst hz
     exact ⟨Y, Y⟩
   ·rcases o'8 with y'9 | y'10
    ·obtain ⟨rfl, hs⟩ := hs
     refine ⟨by simp, ?_⟩
     have hz := some_elim H
     subst hz
     exact ⟨hs.1, hs.2⟩
    ·obtain ⟨rfl, rfl⟩ := hs
     refine ⟨by simp, ?_⟩
     refine blockQ2_exit ?_
     refine sg [0] Y ?_
     refine rp Y Y (p_asg Y Y) ?_
     refine rz [(4, .i (0 : Int))] [] Y Y Y ?_
     refine AW2_ret ?_
     have hz := some_elim H
     subst hz
     exact ⟨⟨res_tmp (.same _), trivial⟩, trivial⟩

/-! kinds.Row -/
noncomputable def g_kinds_Row (row0 : List GValue) (cols1 : List GColumn) : Option (Int) :=
  (g_kinds_fits row0 cols1).bind fun r'1 => some r'1
set_option maxHeartbeats 4000000 in
set_option maxRecDepth 100000 in
theorem g_kinds_Row_ac {row0 : List GValue} {cols1 : List GColumn} {r : Int} (H : g_kinds_Row row0 cols1 = some r) : ACp Tryd.prog 19 [((fun q : List GValue => AV.lst (q.flatMap GValue.cs) q.length) row0), ((fun q : List GColumn => AV.lst (q.flatMap GColumn.cs) q.length) cols1)] (AV.int r) := by
 refine ACp_of (AC2_of_body (vs := [.i r]) Tryd.func19 Y Y (Nat.le_of_ble_eq_true Y) Y ?_) (fun _ => .same _)
 unfold g_kinds_Row at H
 refine as2 [(0, .p ((fun q : List GValue => AV.lst (q.flatMap GValue.cs) q.length) row0)), (1, .p ((fun q : List GColumn => AV.lst (q.flatMap GColumn.cs) q.length) cols1))] [] Y Y Y ?_
 refine sg [0] Y ?_
 refine rp Y Y (p_asg Y Y) ?_
 refine rz [(0, .p ((fun q : List GValue => AV.lst (q.flatMap GValue.cs) q.length) row0)), (1, .p ((fun q : List GColumn => AV.lst (q.flatMap GColumn.cs) q.length) cols1))] [] Y Y Y ?_
 refine sg [0, 1, 2, 3] Y ?_
 refine rp Y Y (p_move Y Y) ?_
 refine rp Y Y (p_move Y Y) ?_
 refine bindK H fun r'1 h1 H => ?_
 refine rp Y Y (p_callp Y Y Y Tryd.func40 Y Y (g_kinds_fits_ac h1) ⟨Y, Y, trivial⟩) ?_
 refine rp Y Y (p_asg Y Y) ?_
 refine rz [(4, .i r'1)] [] Y Y Y ?_
 refine AW2_ret ?_
 have hz := some_elim H
 subst hz
 exact ⟨⟨res_tmp (.same _), trivial⟩, trivial⟩

/-! table.keys -/
def g_table_keys_r7 : List (List (Nat × Option Nat)) := [[(4, none)], [(19, some 0)], [(20, some 1)], [(6, none), (21, some 2)], [(21, some 2), (22, some 3)], [(21, some 2), (23, some 4)], [(24, some 5)], [(6, none), (25, some 6)], [(25, some 6), (26, some 7)], [(25, some 6), (27, some 8)], [(25, some 6), (28, some 9)], [(4, none), (25, some 6)], [(25, some 6), (30, some 11)], [(25, some 6), (31, some 12)], [(25, some 6), (32, some 13)]]
def g_table_keys_r7c : List (List Nat) := [[], [0], [0, 1], [0, 1, 2], [0, 1, 2, 3], [0, 1, 2, 3, 4], [0, 1, 2, 3, 4, 5], [0, 1, 2, 3, 4, 5, 6], [0, 1, 2, 3, 4, 5, 6, 7], [0, 1, 2, 3, 4, 5, 6, 7, 8], [0, 1, 2, 3, 4, 5, 6, 7, 8, 9], [0, 1, 2, 3, 4, 5, 6], [0, 1, 2, 3, 4, 5, 6, 11], [0, 1, 2, 3, 4, 5, 6, 11, 12], [0, 1, 2, 3, 4, 5, 6, 11, 12, 13], [0, 1, 2, 3, 4, 5, 6, 7, 8, 9, 10, 11, 12, 13, 14], [0, 1, 2, 3, 4, 5, 6, 7, 8, 9, 10, 11, 12, 13, 14, 15]]
noncomputable def g_table_keys_l1 (d0 : Vector GCell 4) (t8_0 : Int) : Int → Option (Int ⊕ (Int ⊕ Unit))
  | t15_1 => (if t15_1 < (t8_0.toNat : Int) then if 0 ≤ t15_1 ∧ t15_1 < (t8_0.toNat : Int) then ((if ((vrd d0 t8_0.toNat).Full) = true then (if ((vrd d0 t15_1.toNat).Full) = true then if 0 < ((vrd d0 t15_1.toNat).Row).length then if 0 < ((vrd d0 t8_0.toNat).Row).length then some (decide ((lrd ((vrd d0 t15_1.toNat).Row) 0) = (lrd ((vrd d0 t8_0.toNat).Row) 0))) else none else none else some false) else some false)).bind fun g'1 => (if g'1 = true then some (.inr (.inl (8 : Int))) else some (.inl (w64 (t15_1 + (1 : Int))))) else none else some (.inr (.inr ())))
noncomputable def g_table_keys_l0 (d0 : Vector GCell 4) : Int → Option (Int ⊕ (Int ⊕ Unit))
  | t8_0 => (if t8_0 < (4 : Int) then if 0 ≤ t8_0 ∧ t8_0 < (4 : Int) then if 0 ≤ t8_0 ∧ t8_0 ≤ (4 : Int) then (loopO (g_table_keys_l1 d0 t8_0) (0 : Int)).bind fun o'5 => match o'5 with | .inl y'6 => some (.inr (.inl y'6)) | .inr (y'7) => some (.inl (w64 (t8_0 + (1 : Int)))) else none else none else some (.inr (.inr ())))
noncomputable def g_table_keys (d0 : Vector GCell 4) : Option (Int) :=
  (loopO (g_table_keys_l0 d0) (0 : Int)).bind fun o'11 => match o'11 with | .inl y'12 => some y'12 | .inr (y'13) => some (0 : Int)
set_option maxHeartbeats 4000000 in
set_option maxRecDepth 100000 in
theorem g_table_keys_ac {d0 : Vector GCell 4} {r : Int} (H : g_table_keys d0 = some r) : ACp Tryd.prog 20 [(.agg (d0.toList.flatMap GCell.cs))] (AV.int r) := by
 refine ACp_of (AC2_of_body (vs := [.i r]) Tryd.func20 Y Y (Nat.le_of_ble_eq_true Y) Y ?_) (fun _ => .same _)
 unfold g_table_keys at H
 refine as2 [(0, .g (d0.toList.flatMap GCell.cs))] [] Y Y Y ?_
 refine sg [0, 1] Y ?_
 refine r_op Y Y (MakeD.opD (n_box 1 Y Y) Y Y Y Y) ?_
 refine rp Y Y (p_asg Y Y) ?_
 refine rz [(1, .q 1 (0))] [(1, .pure (d0.toList.flatMap GCell.cs))] Y Y Y ?_
 refine AW2_seq ?_
 refine sg [0, 1] Y ?_
 refine rp Y Y (u_lda Y Y Tryd.underlying26 Y in_26 Y (Nat.succ_pos _) (Sub.refl _) (vfm_len (fun x => (GCell.len x)) d0)) ?_
 refine rp Y Y (p_move Y Y) ?_
 refine rz [(1, .q 1 (0)), (7, .g (d0.toList.flatMap GCell.cs)), (8, .i (0 : Int))] [(1, .pure (d0.toList.flatMap GCell.cs))] Y Y Y ?_
 refine AW2_block ?_
 refine as2 [(1, .q 1 (0)), (7, .g (d0.toList.flatMap GCell.cs)), (8, .i (0 : Int))] [(1, .pure (d0.toList.flatMap GCell.cs))] Y Y Y ?_
 refine bindK H fun o'11 h13 H => ?_
 refine AW2_loopO (fun a'8 : Int => (⟨[(1, .q 1 (0)), (7, .g (d0.toList.flatMap GCell.cs)), (8, .i a'8)], [(1, .pure (d0.toList.flatMap GCell.cs))], 38⟩ : TS)) (fun (o : Int ⊕ Unit) e s' => match o with | .inl y'9 => e = Go.Exit.ret ∧ ResAll Tryd.prog s' [ResultVar.tmp 2] [.i y'9] ∧ HFits s' [] | .inr (y'10) => e = Go.Exit.exit 0 ∧ s' = (⟨[], [], 38⟩ : TS)) h13 Y (fun t8_0 x hx => ?_) (fun e s' hs => ?_)
 ·clear H
  have H := hx
  clear hx
  unfold g_table_keys_l0 at H
  refine sg [0] Y ?_
  refine rp Y Y (p_bin Y Y Y Y) ?_
  refine rz [(1, .q 1 (0)), (7, .g (d0.toList.flatMap GCell.cs)), (8, .i t8_0), (9, .b (decide (t8_0 < (4 : Int))))] [(1, .pure (d0.toList.flatMap GCell.cs))] Y Y Y ?_
  refine AW2_seq ?_
  refine AW2_if (p := t8_0 < (4 : Int)) Y (fun h1 => ?_) (fun h1 => ?_)
  ·replace H := ite_then h1 H
   refine as2 [(1, .q 1 (0)), (7, .g (d0.toList.flatMap GCell.cs)), (8, .i t8_0)] [(1, .pure (d0.toList.flatMap GCell.cs))] Y Y Y ?_
   refine AW2_skip ?_
   refine AW2_seq ?_
   refine AW2_block ?_
   refine sg [0, 1, 2, 3, 4] Y ?_
   refine rp Y Y (p_move Y Y) ?_
   refine chkK H fun h2 H => ?_
   refine rp Y Y (u_ixaa Y Y Tryd.underlying26 in_25 Tryd.underlying25 Y Y Y (ixe h2) (ixn h2) (Sub.vfm (fun x => (GCell.len x)) (ixn h2)) (GCell.len (vrd d0 t8_0.toNat))) ?_
   refine r_op Y Y (MakeD.opD (u_alloc 4 Y in_25 one_25 zc_25) Y Y Y Y) ?_
   refine rp Y Y (p_asg Y Y) ?_
   refine r_op Y Y (u_st Y Y Y Y Y in_25 (GCell.len (vrd d0 t8_0.toNat)) (nl (GCell.len GCell.zero)) (Upd.refl ((GCell.len (vrd d0 t8_0.toNat)).trans (GCell.len GCell.zero).symm))) ?_
   refine rz [(1, .q 1 (0)), (3, .i t8_0), (4, .q 4 (0)), (7, .g (d0.toList.flatMap GCell.cs)), (8, .i t8_0)] [(1, .pure (d0.toList.flatMap GCell.cs)), (4, .pure (GCell.cs (vrd d0 t8_0.toNat)))] Y Y Y ?_
   refine sg [0, 1, 2, 3] Y ?_
   refine rp Y Y (p_move Y Y) ?_
   refine chkK H fun h3 H => ?_
   refine rp Y Y (u_cutah Y Y Tryd.underlying26 in_25 Y Y (nl (vfm_len (fun x => (GCell.len x)) d0)) (Sub.refl _) ((vfm_len (fun x => (GCell.len x)) d0).trans (by decide)) (bT_i h3.1 Y) (toNat_le h3)) ?_
   refine rp Y Y (u_lens Y Tryd.underlying72 Y Y Y (nl (vfm_len (fun x => (GCell.len x)) d0))) ?_
   refine rp Y Y (p_move Y Y) ?_
   refine rz [(1, .q 1 (0)), (4, .q 4 (0)), (7, .g (d0.toList.flatMap GCell.cs)), (8, .i t8_0), (13, .c (.sl 1 (0 + 0 * 2) t8_0.toNat 2)), (14, .i (t8_0.toNat : Int)), (15, .i (0 : Int))] [(1, .pure (d0.toList.flatMap GCell.cs)), (4, .pure (GCell.cs (vrd d0 t8_0.toNat)))] Y Y Y ?_
   refine AW2_block ?_
   refine as2 [(1, .q 1 (0)), (4, .q 4 (0)), (7, .g (d0.toList.flatMap GCell.cs)), (8, .i t8_0), (13, .c (.sl 1 (0 + 0 * 2) t8_0.toNat 2)), (14, .i (t8_0.toNat : Int)), (15, .i (0 : Int))] [(1, .pure (d0.toList.flatMap GCell.cs)), (4, .pure (GCell.cs (vrd d0 t8_0.toNat)))] Y Y Y ?_
   refine bindK H fun o'5 h12 H => ?_
   refine AW2_loopO (fun a'2 : Int => (⟨[(1, .q 1 (0)), (4, .q 4 (0)), (7, .g (d0.toList.flatMap GCell.cs)), (8, .i t8_0), (13, .c (.sl 1 (0 + 0 * 2) t8_0.toNat 2)), (14, .i (t8_0.toNat : Int)), (15, .i a'2)], [(1, .pure (d0.toList.flatMap GCell.cs)), (4, .pure (GCell.cs (vrd d0 t8_0.toNat)))], 38⟩ : TS)) (fun (o : Int ⊕ Unit) e s' => match o with | .inl y'3 => e = Go.Exit.ret ∧ ResAll Tryd.prog s' [ResultVar.tmp 2] [.i y'3] ∧ HFits s' [] | .inr (y'4) => e = Go.Exit.exit 2 ∧ s' = (⟨[(1, .q 1 (0)), (7, .g (d0.toList.flatMap GCell.cs)), (8, .i t8_0)], [(1, .pure (d0.toList.flatMap GCell.cs))], 38⟩ : TS)) h12 Y (fun t15_1 x hx => ?_) (fun e s' hs => ?_)
   ·clear H
    have H := hx
    clear hx
    unfold g_table_keys_l1 at H
    refine sg [0] Y ?_
    refine rp Y Y (p_bin Y Y Y Y) ?_
    refine rz [(1, .q 1 (0)), (4, .q 4 (0)), (7, .g (d0.toList.flatMap GCell.cs)), (8, .i t8_0), (13, .c (.sl 1 (0 + 0 * 2) t8_0.toNat 2)), (14, .i (t8_0.toNat : Int)), (15, .i t15_1), (16, .b (decide (t15_1 < (t8_0.toNat : Int))))] [(1, .pure (d0.toList.flatMap GCell.cs)), (4, .pure (GCell.cs (vrd d0 t8_0.toNat)))] Y Y Y ?_
    refine AW2_seq ?_
    refine AW2_if (p := t15_1 < (t8_0.toNat : Int)) Y (fun h4 => ?_) (fun h4 => ?_)
    ·replace H := ite_then h4 H
     refine as2 [(1, .q 1 (0)), (4, .q 4 (0)), (7, .g (d0.toList.flatMap GCell.cs)), (8, .i t8_0), (13, .c (.sl 1 (0 + 0 * 2) t8_0.toNat 2)), (14, .i (t8_0.toNat : Int)), (15, .i t15_1)] [(1, .pure (d0.toList.flatMap GCell.cs)), (4, .pure (GCell.cs (vrd d0 t8_0.toNat)))] Y Y Y ?_
     refine AW2_skip ?_
     refine AW2_seq ?_
     refine AW2_block ?_
     refine sg [0, 1, 2, 3] Y ?_
     refine chkK H fun h5 H => ?_
     refine rp Y Y (u_ixs Y Y Tryd.underlying72 in_25 Y Y (nl (vfm_len (fun x => (GCell.len x)) d0)) Y (ixe h5) (ixn h5)) ?_
     refine rp Y Y (u_lda Y Y Tryd.underlying25 Y in_25 Y (Nat.succ_pos _) ((Sub.refl _).trans (Sub.vfm (fun x => (GCell.len x)) (Nat.lt_of_lt_of_le (ixn h5) (toNat_le h3)))) (GCell.len (vrd d0 t15_1.toNat))) ?_
     refine r_op Y Y (MakeD.opD (u_alloc 6 Y in_25 one_25 zc_25) Y Y Y Y) ?_
     refine r_op Y Y (u_st Y Y Y Y Y in_25 (GCell.len (vrd d0 t15_1.toNat)) (nl (GCell.len GCell.zero)) (Upd.refl ((GCell.len (vrd d0 t15_1.toNat)).trans (GCell.len GCell.zero).symm))) ?_
     refine rz [(1, .q 1 (0)), (4, .q 4 (0)), (6, .q 6 (0)), (7, .g (d0.toList.flatMap GCell.cs)), (8, .i t8_0), (13, .c (.sl 1 (0 + 0 * 2) t8_0.toNat 2)), (14, .i (t8_0.toNat : Int)), (15, .i t15_1)] [(1, .pure (d0.toList.flatMap GCell.cs)), (4, .pure (GCell.cs (vrd d0 t8_0.toNat))), (6, .pure (GCell.cs (vrd d0 t15_1.toNat)))] Y Y Y ?_
     refine AW2_seq ?_
     refine bindK H fun g'1 h10 H => ?_
     refine AW2_mid (⟨[(1, .q 1 (0)), (4, .q 4 (0)), (7, .g (d0.toList.flatMap GCell.cs)), (8, .i t8_0), (13, .c (.sl 1 (0 + 0 * 2) t8_0.toNat 2)), (14, .i (t8_0.toNat : Int)), (15, .i t15_1), (35, .b g'1)], [(1, .pure (d0.toList.flatMap GCell.cs)), (4, .pure (GCell.cs (vrd d0 t8_0.toNat)))], 38⟩ : TS) ?_ ?_
     ·clear H
      have H := h10
      clear h10
      refine (Classical.em (((vrd d0 t8_0.toNat).Full) = true)).elim (fun h6 => ?_) (fun h6 => ?_)
      ·replace H := ite_then h6 H
       refine (Classical.em (((vrd d0 t15_1.toNat).Full) = true)).elim (fun h7 => ?_) (fun h7 => ?_)
       ·replace H := ite_then h7 H
        refine chkK H fun h8 H => ?_
        refine chkK H fun h9 H => ?_
        have hz := some_elim H
        subst hz
        refine AW2_ghoQ ?_
        refine AW2_draw 15 [15, 16] (fun k => ([.q 4 (0 + 0), .b ((vrd d0 t8_0.toNat).Full), .b ((vrd d0 t8_0.toNat).Full), .q 6 (0 + 0), .b ((vrd d0 t15_1.toNat).Full), .b ((vrd d0 t15_1.toNat).Full), .b ((vrd d0 t15_1.toNat).Full), .q 6 (0 + 1), .p ((fun q : List GValue => AV.lst (q.flatMap GValue.cs) q.length) ((vrd d0 t15_1.toNat).Row)), .p (.rptr (((vrd d0 t15_1.toNat).Row).flatMap GValue.cs) (0 * 4)), .g (GValue.cs (lrd ((vrd d0 t15_1.toNat).Row) 0)), .q 4 (0 + 1), .p ((fun q : List GValue => AV.lst (q.flatMap GValue.cs) q.length) ((vrd d0 t8_0.toNat).Row)), .p (.rptr (((vrd d0 t8_0.toNat).Row).flatMap GValue.cs) (0 * 4)), .g (GValue.cs (lrd ((vrd d0 t8_0.toNat).Row) 0))] : List TV).getD k TV.any) (fun k => g_table_keys_r7.getD k []) [(1, none), (4, none), (7, none), (8, none), (13, none), (14, none), (15, none), (25, some 6), (29, some 10), (33, some 14)] [] (fun k => g_table_keys_r7c.getD k []) mixed (by kernel_rfl) Y Y (a_op (g_x Y (x_p Y (u_fa Y Y Tryd.underlying25 Y in_4 nz Y Y (nl (GCell.len (vrd d0 t8_0.toNat)))) Y)) (a_op (g_x Y (x_p Y (u_ld Y Y Tryd.underlying4 Y Y ((Sub.refl _).trans (GCell.sub0 (vrd d0 t8_0.toNat)))) Y)) (a_op (g_x Y (x_p Y (p_move Y Y) Y)) (a_op (g_on Y Y Y h6 Y (x_p Y (u_fa Y Y Tryd.underlying25 Y in_4 nz Y Y (nl (GCell.len (vrd d0 t15_1.toNat)))) Y)) (a_op (g_on Y Y Y h6 Y (x_p Y (u_ld Y Y Tryd.underlying4 Y Y ((Sub.refl _).trans (GCell.sub0 (vrd d0 t15_1.toNat)))) Y)) (a_op (g_x Y (x_p Y (p_pkt Y Y h6 (.same _)) Y)) (a_op (g_x Y (x_p Y (p_move Y Y) Y)) (a_op (g_on Y Y Y h7 Y (x_p Y (u_fa Y Y Tryd.underlying25 Y in_23 nz Y Y (nl (GCell.len (vrd d0 t15_1.toNat)))) Y)) (a_op (g_on Y Y Y h7 Y (x_p Y (u_ld Y Y Tryd.underlying23 Y Y ((Sub.refl _).trans (GCell.sub1 (vrd d0 t15_1.toNat)))) Y)) (a_op (g_on Y Y Y h7 Y (x_p Y (u_ixl Y Y Tryd.underlying23 in_71 Y Y Y h8 (fne (fun x => (GValue.len x)) (by decide) h8)) Y)) (a_op (g_on Y Y Y h7 Y (x_p Y (u_lda Y Y Tryd.underlying71 Y in_71 Y (Nat.succ_pos _) (Sub.fm default (fun x => (GValue.len x)) h8) (GValue.len (lrd ((vrd d0 t15_1.toNat).Row) 0))) Y)) (a_op (g_on Y Y Y h7 Y (x_p Y (u_fa Y Y Tryd.underlying25 Y in_23 nz Y Y (nl (GCell.len (vrd d0 t8_0.toNat)))) Y)) (a_op (g_on Y Y Y h7 Y (x_p Y (u_ld Y Y Tryd.underlying23 Y Y ((Sub.refl _).trans (GCell.sub1 (vrd d0 t8_0.toNat)))) Y)) (a_op (g_on Y Y Y h7 Y (x_p Y (u_ixl Y Y Tryd.underlying23 in_71 Y Y Y h9 (fne (fun x => (GValue.len x)) (by decide) h9)) Y)) (a_op (g_on Y Y Y h7 Y (x_p Y (u_lda Y Y Tryd.underlying71 Y in_71 Y (Nat.succ_pos _) (Sub.fm default (fun x => (GValue.len x)) h9) (GValue.len (lrd ((vrd d0 t8_0.toNat).Row) 0))) Y)) (a_nil)))))))))))))))) ?_
        refine t_on Y Y Y Y h7 Y (PureD.opD (p_eqa (a := (lrd ((vrd d0 t15_1.toNat).Row) 0)) (b := (lrd ((vrd d0 t8_0.toNat).Row) 0)) Y eq_71 Y (by kernel_rfl) Y Y)) ?_
        refine t_op Y Y (PureD.opD (p_pkt Y Y h7 (.same _))) ?_
        refine t_gho (Gho_st (L := [(1, .q 1 (0)), (4, .q 4 (0)), (7, .g (d0.toList.flatMap GCell.cs)), (8, .i t8_0), (13, .c (.sl 1 (0 + 0 * 2) t8_0.toNat 2)), (14, .i (t8_0.toNat : Int)), (15, .i t15_1), (35, .b (decide ((lrd ((vrd d0 t15_1.toNat).Row) 0) = (lrd ((vrd d0 t8_0.toNat).Row) 0))))]) (H := [(1, .pure (d0.toList.flatMap GCell.cs)), (4, .pure (GCell.cs (vrd d0 t8_0.toNat)))]) (N := 38) Y ⟨TLes.same _, TLes.same _, TLes.same _, TLes.same _, TLes.same _, TLes.same _, TLes.same _, TLes.same _, trivial⟩ ⟨Y, Y, trivial⟩) ?_
        exact rfl
       ·replace H := ite_else h7 H
        have hz := some_elim H
        subst hz
        refine AW2_ghoQ ?_
        refine AW2_draw 15 [15, 16] (fun k => ([.q 4 (0 + 0), .b ((vrd d0 t8_0.toNat).Full), .b ((vrd d0 t8_0.toNat).Full), .q 6 (0 + 0), .b ((vrd d0 t15_1.toNat).Full), .b ((vrd d0 t15_1.toNat).Full), .b ((vrd d0 t15_1.toNat).Full), .p (.tup []), .p (.tup []), .p (.tup []), .p (.tup []), .p (.tup []), .p (.tup []), .p (.tup []), .p (.tup [])] : List TV).getD k TV.any) (fun k => g_table_keys_r7.getD k []) [(1, none), (4, none), (7, none), (8, none), (13, none), (14, none), (15, none), (25, some 6), (29, some 10), (33, some 14)] [] (fun k => g_table_keys_r7c.getD k []) mixed (by kernel_rfl) Y Y (a_op (g_x Y (x_p Y (u_fa Y Y Tryd.underlying25 Y in_4 nz Y Y (nl (GCell.len (vrd d0 t8_0.toNat)))) Y)) (a_op (g_x Y (x_p Y (u_ld Y Y Tryd.underlying4 Y Y ((Sub.refl _).trans (GCell.sub0 (vrd d0 t8_0.toNat)))) Y)) (a_op (g_x Y (x_p Y (p_move Y Y) Y)) (a_op (g_on Y Y Y h6 Y (x_p Y (u_fa Y Y Tryd.underlying25 Y in_4 nz Y Y (nl (GCell.len (vrd d0 t15_1.toNat)))) Y)) (a_op (g_on Y Y Y h6 Y (x_p Y (u_ld Y Y Tryd.underlying4 Y Y ((Sub.refl _).trans (GCell.sub0 (vrd d0 t15_1.toNat)))) Y)) (a_op (g_x Y (x_p Y (p_pkt Y Y h6 (.same _)) Y)) (a_op (g_x Y (x_p Y (p_move Y Y) Y)) (a_op (g_off Y Y Y Y Y (bfalse h7) Y Y) (a_op (g_off Y Y Y Y Y (bfalse h7) Y Y) (a_op (g_off Y Y Y Y Y (bfalse h7) Y Y) (a_op (g_off Y Y Y Y Y (bfalse h7) Y Y) (a_op (g_off Y Y Y Y Y (bfalse h7) Y Y) (a_op (g_off Y Y Y Y Y (bfalse h7) Y Y) (a_op (g_off Y Y Y Y Y (bfalse h7) Y Y) (a_op (g_off Y Y Y Y Y (bfalse h7) Y Y) (a_nil)))))))))))))))) ?_
        refine t_off Y Y Y Y (bfalse h7) Y Y ?_
        refine t_op Y Y (PureD.opD (p_pkf Y Y (bfalse h7) (.same _))) ?_
        refine t_gho (Gho_st (L := [(1, .q 1 (0)), (4, .q 4 (0)), (7, .g (d0.toList.flatMap GCell.cs)), (8, .i t8_0), (13, .c (.sl 1 (0 + 0 * 2) t8_0.toNat 2)), (14, .i (t8_0.toNat : Int)), (15, .i t15_1), (35, .b false)]) (H := [(1, .pure (d0.toList.flatMap GCell.cs)), (4, .pure (GCell.cs (vrd d0 t8_0.toNat)))]) (N := 38) Y ⟨TLes.same _, TLes.same _, TLes.same _, TLes.same _, TLes.same _, TLes.same _, TLes.same _, TLes.same _, trivial⟩ ⟨Y, Y, trivial⟩) ?_
        exact rfl
      ·replace H := ite_else h6 H
       have hz := some_elim H
       subst hz
       refine AW2_ghoQ ?_
       refine AW2_draw 15 [15, 16] (fun k => ([.q 4 (0 + 0), .b ((vrd d0 t8_0.toNat).Full), .b ((vrd d0 t8_0.toNat).Full), .p (.tup []), .p (.tup []), .b false, .b false, .p (.tup []), .p (.tup []), .p (.tup []), .p (.tup []), .p (.tup []), .p (.tup []), .p (.tup []), .p (.tup [])] : List TV).getD k TV.any) (fun k => g_table_keys_r7.getD k []) [(1, none), (4, none), (7, none), (8, none), (13, none), (14, none), (15, none), (25, some 6), (29, some 10), (33, some 14)] [] (fun k => g_table_keys_r7c.getD k []) mixed (by kernel_rfl) Y Y (a_op (g_x Y (x_p Y (u_fa Y Y Tryd.underlying25 Y in_4 nz Y Y (nl (GCell.len (vrd d0 t8_0.toNat)))) Y)) (a_op (g_x Y (x_p Y (u_ld Y Y Tryd.underlying4 Y Y ((Sub.refl _).trans (GCell.sub0 (vrd d0 t8_0.toNat)))) Y)) (a_op (g_x Y (x_p Y (p_move Y Y) Y)) (a_op (g_off Y Y Y Y Y (bfalse h6) Y Y) (a_op (g_off Y Y Y Y Y (bfalse h6) Y Y) (a_op (g_x Y (x_p Y (p_pkf Y Y (bfalse h6) (.same _)) Y)) (a_op (g_x Y (x_p Y (p_move Y Y) Y)) (a_op (g_off Y Y Y Y Y (bfalse (by decide)) Y Y) (a_op (g_off Y Y Y Y Y (bfalse (by decide)) Y Y) (a_op (g_off Y Y Y Y Y (bfalse (by decide)) Y Y) (a_op (g_off Y Y Y Y Y (bfalse (by decide)) Y Y) (a_op (g_off Y Y Y Y Y (bfalse (by decide)) Y Y) (a_op (g_off Y Y Y Y Y (bfalse (by decide)) Y Y) (a_op (g_off Y Y Y Y Y (bfalse (by decide)) Y Y) (a_op (g_off Y Y Y Y Y (bfalse (by decide)) Y Y) (a_nil)))))))))))))))) ?_
       refine t_off Y Y Y Y (bfalse (by decide)) Y Y ?_
       refine t_op Y Y (PureD.opD (p_pkf Y Y (bfalse (by decide)) (.same _))) ?_
       refine t_gho (Gho_st (L := [(1, .q 1 (0)), (4, .q 4 (0)), (7, .g (d0.toList.flatMap GCell.cs)), (8, .i t8_0), (13, .c (.sl 1 (0 + 0 * 2) t8_0.toNat 2)), (14, .i (t8_0.toNat : Int)), (15, .i t15_1), (35, .b false)]) (H := [(1, .pure (d0.toList.flatMap GCell.cs)), (4, .pure (GCell.cs (vrd d0 t8_0.toNat)))]) (N := 38) Y ⟨TLes.same _, TLes.same _, TLes.same _, TLes.same _, TLes.same _, TLes.same _, TLes.same _, TLes.same _, trivial⟩ ⟨Y, Y, trivial⟩) ?_
       exact rfl
     ·refine AW2_cond Y (fun h11 => ?_) (fun h11 => ?_)
      ·replace H := ite_then h11 H
       refine sg [0] Y ?_
       refine rp Y Y (p_asg Y Y) ?_
       refine rz [(2, .i (8 : Int))] [] Y Y Y ?_
       refine AW2_ret ?_
       have hz := some_elim H
       subst hz
       exact ⟨Y, ⟨res_tmp (.same _), trivial⟩, trivial⟩
      ·replace H := ite_else (ne_true h11) H
       refine as2 [(1, .q 1 (0)), (4, .q 4 (0)), (7, .g (d0.toList.flatMap GCell.cs)), (8, .i t8_0), (13, .c (.sl 1 (0 + 0 * 2) t8_0.toNat 2)), (14, .i (t8_0.toNat : Int)), (15, .i t15_1)] [(1, .pure (d0.toList.flatMap GCell.cs)), (4, .pure (GCell.cs (vrd d0 t8_0.toNat)))] Y Y Y ?_
       refine AW2_skip ?_
       refine AW2_reg [0, 1] Y ?_
       refine rp Y Y (p_bin Y Y Y Y) ?_
       refine rp Y Y (p_move Y Y) ?_
       refine rz [(1, .q 1 (0)), (4, .q 4 (0)), (7, .g (d0.toList.flatMap GCell.cs)), (8, .i t8_0), (13, .c (.sl 1 (0 + 0 * 2) t8_0.toNat 2)), (14, .i (t8_0.toNat : Int)), (15, .i (w64 (t15_1 + (1 : Int))))] [(1, .pure (d0.toList.flatMap GCell.cs)), (4, .pure (GCell.cs (vrd d0 t8_0.toNat)))] Y Y Y ?_
       have hz := some_elim H
       subst hz
       exact ⟨Y, Y⟩
    ·replace H := ite_else h4 H
     refine as2 [(1, .q 1 (0)), (7, .g (d0.toList.flatMap GCell.cs)), (8, .i t8_0)] [(1, .pure (d0.toList.flatMap GCell.cs))] Y Y Y ?_
     refine AW2_exit ?_
     refine thenQ2_exit ?_
     have hz := some_elim H
     subst hz
     exact ⟨Y, Y⟩
   ·rcases o'5 with y'6 | y'7
    ·obtain ⟨rfl, hs⟩ := hs
     refine ⟨by simp, ?_⟩
     have hz := some_elim H
     subst hz
     exact ⟨Y, hs.1, hs.2⟩
    ·obtain ⟨rfl, rfl⟩ := hs
     refine ⟨by simp, ?_⟩
     refine blockQ2_exit ?_
     refine AW2_reg [0, 1] Y ?_
     refine rp Y Y (p_bin Y Y Y Y) ?_
     refine rp Y Y (p_move Y Y) ?_
     refine rz [(1, .q 1 (0)), (7, .g (d0.toList.flatMap GCell.cs)), (8, .i (w64 (t8_0 + (1 : Int))))] [(1, .pure (d0.toList.flatMap GCell.cs))] Y Y Y ?_
     have hz := some_elim H
     subst hz
     exact ⟨Y, Y⟩
  ·replace H := ite_else h1 H
   refine as2 [] [] Y Y Y ?_
   refine AW2_exit ?_
   refine thenQ2_exit ?_
   have hz := some_elim H
   subst hz
   exact ⟨Y, Y⟩
 ·rcases o'11 with y'12 | y'13
  ·obtain ⟨rfl, hs⟩ := hs
   refine ⟨by simp, ?_⟩
   have hz := some_elim H
   subst hz
   exact ⟨hs.1, hs.2⟩
  ·obtain ⟨rfl, rfl⟩ := hs
   refine ⟨by simp, ?_⟩
   refine blockQ2_exit ?_
   refine sg [0] Y ?_
   refine rp Y Y (p_asg Y Y) ?_
   refine rz [(2, .i (0 : Int))] [] Y Y Y ?_
   refine AW2_ret ?_
   have hz := some_elim H
   subst hz
   exact ⟨⟨res_tmp (.same _), trivial⟩, trivial⟩

/-! table.Check -/
noncomputable def g_table_Check_l1 (t0 : GTable) (t45_0 : Int) : Int → Option (Int ⊕ (Int ⊕ Unit))
  | t49_1 => (if t49_1 < (4 : Int) then (show Option (Int ⊕ Unit) from if 0 ≤ t49_1 ∧ t49_1 < (4 : Int) then (if ((!((vrd (vrd t0.Drawers t45_0.toNat) t49_1.toNat).Full)) = true) ∧ ((((vrd (vrd t0.Drawers t45_0.toNat) t49_1.toNat).Row).length : Int) > (0 : Int)) then some (.inl (3 : Int)) else (if (!((vrd (vrd t0.Drawers t45_0.toNat) t49_1.toNat).Full)) = true then some (.inr ()) else (g_kinds_Row ((vrd (vrd t0.Drawers t45_0.toNat) t49_1.toNat).Row) t0.Cols).bind fun r'5 => (if r'5 ≠ (0 : Int) then some (.inl r'5) else some (.inr ())))) else none).bind fun o'7 => match o'7 with | .inl y'6 => some (.inr (.inl y'6)) | .inr j'4 => some (.inl (w64 (t49_1 + (1 : Int)))) else some (.inr (.inr ())))
noncomputable def g_table_Check_l0 (t0 : GTable) : Int → Option (Int ⊕ (Int ⊕ Unit))
  | t45_0 => (if t45_0 < (2 : Int) then if 0 ≤ t45_0 ∧ t45_0 < (2 : Int) then (loopO (g_table_Check_l1 t0 t45_0) (0 : Int)).bind fun o'11 => match o'11 with | .inl y'12 => some (.inr (.inl y'12)) | .inr (y'13) => (g_table_keys (vrd t0.Drawers t45_0.toNat)).bind fun r'14 => (if r'14 ≠ (0 : Int) then some (.inr (.inl r'14)) else some (.inl (w64 (t45_0 + (1 : Int))))) else none else some (.inr (.inr ())))
noncomputable def g_table_Check (t0 : GTable) : Option (Int) :=
  (if (!t0.There) = true then some (5 : Int) else (g_lex_Check ({ { GToken.zero with Kind := (1 : Int) } with Text := t0.Name })).bind fun r'1 => (if r'1 ≠ (0 : Int) then some (3 : Int) else (g_kinds_Columns t0.Cols).bind fun r'2 => (if r'2 ≠ (0 : Int) then some r'2 else ((if (t0.Cols.length : Int) = (0 : Int) then some true else if 0 < t0.Cols.length then (if (lrd t0.Cols 0).Kind ≠ (2 : Int) then some true else if 0 < t0.Cols.length then some ((lrd t0.Cols 0).Null) else none) else none)).bind fun g'3 => (if g'3 = true then some (3 : Int) else (loopO (g_table_Check_l0 t0) (0 : Int)).bind fun o'18 => match o'18 with | .inl y'19 => some y'19 | .inr (y'20) => some (0 : Int)))))
set_option maxHeartbeats 4000000 in
set_option maxRecDepth 100000 in
theorem g_table_Check_ac {t0 : GTable} {r : Int} (H : g_table_Check t0 = some r) : ACp Tryd.prog 9 [(.agg (GTable.cs t0))] (AV.int r) := by
 refine ACp_of (AC2_of_body (vs := [.i r]) Tryd.func9 Y Y (Nat.le_of_ble_eq_true Y) Y ?_) (fun _ => .same _)
 unfold g_table_Check at H
 refine as2 [(0, .g (GTable.cs t0))] [] Y Y Y ?_
 refine sg [0, 1] Y ?_
 refine r_op Y Y (MakeD.opD (n_box 1 Y Y) Y Y Y Y) ?_
 refine rp Y Y (p_asg Y Y) ?_
 refine rz [(1, .q 1 (0))] [(1, .pure (GTable.cs t0))] Y Y Y ?_
 refine AW2_seq ?_
 refine sg [0, 1, 2] Y ?_
 refine rp Y Y (u_fa Y Y Tryd.underlying29 Y in_4 nz Y Y (nl (GTable.len t0))) ?_
 refine rp Y Y (u_ld Y Y Tryd.underlying4 Y Y ((Sub.refl _).trans (GTable.sub0 t0))) ?_
 refine rp Y Y (p_not Y Y) ?_
 refine rz [(1, .q 1 (0)), (12, .b (!t0.There))] [(1, .pure (GTable.cs t0))] Y Y Y ?_
 refine AW2_cond Y (fun h1 => ?_) (fun h1 => ?_)
 ·replace H := ite_then h1 H
  refine sg [0] Y ?_
  refine rp Y Y (p_asg Y Y) ?_
  refine rz [(2, .i (5 : Int))] [] Y Y Y ?_
  refine AW2_ret ?_
  have hz := some_elim H
  subst hz
  exact ⟨⟨res_tmp (.same _), trivial⟩, trivial⟩
 ·replace H := ite_else (ne_true h1) H
  refine as2 [(1, .q 1 (0))] [(1, .pure (GTable.cs t0))] Y Y Y ?_
  refine AW2_skip ?_
  refine AW2_seq ?_
  refine sg [0, 1, 2, 3, 4] Y ?_
  refine rp Y Y (u_fa Y Y Tryd.underlying29 Y in_9 nz Y Y (nl (GTable.len t0))) ?_
  refine rp Y Y (u_ld Y Y Tryd.underlying9 Y Y ((Sub.refl _).trans (GTable.sub1 t0))) ?_
  refine rp Y Y (u_bld Y in_52 one_52 zc_52 pl_52 Y (af_cons Y Y (GToken.upd0 GToken.zero (1 : Int)) (af_cons Y Y (GToken.upd1 ((GToken.w0 GToken.zero (1 : Int))) t0.Name) Y))) ?_
  refine bindK H fun r'1 h2 H => ?_
  refine rp Y Y (p_callp Y Y Y Tryd.func17 Y Y (g_lex_Check_ac h2) ⟨Y, trivial⟩) ?_
  refine rp Y Y (p_ine Y Y Y) ?_
  refine rz [(1, .q 1 (0)), (17, .b (decide (r'1 ≠ (0 : Int))))] [(1, .pure (GTable.cs t0))] Y Y Y ?_
  refine AW2_if (p := r'1 ≠ (0 : Int)) Y (fun h3 => ?_) (fun h3 => ?_)
  ·replace H := ite_then h3 H
   refine sg [0] Y ?_
   refine rp Y Y (p_asg Y Y) ?_
   refine rz [(2, .i (3 : Int))] [] Y Y Y ?_
   refine AW2_ret ?_
   have hz := some_elim H
   subst hz
   exact ⟨⟨res_tmp (.same _), trivial⟩, trivial⟩
  ·replace H := ite_else h3 H
   refine as2 [(1, .q 1 (0))] [(1, .pure (GTable.cs t0))] Y Y Y ?_
   refine AW2_skip ?_
   refine AW2_seq ?_
   refine sg [0, 1, 2, 3] Y ?_
   refine rp Y Y (u_fa Y Y Tryd.underlying29 Y in_22 nz Y Y (nl (GTable.len t0))) ?_
   refine rp Y Y (u_ld Y Y Tryd.underlying22 Y Y ((Sub.refl _).trans (GTable.sub2 t0))) ?_
   refine bindK H fun r'2 h4 H => ?_
   refine rp Y Y (p_callp Y Y Y Tryd.func18 Y Y (g_kinds_Columns_ac h4) ⟨Y, trivial⟩) ?_
   refine rp Y Y (p_asg Y Y) ?_
   refine rz [(1, .q 1 (0)), (3, .i r'2)] [(1, .pure (GTable.cs t0))] Y Y Y ?_
   refine sg [0, 1] Y ?_
   refine rp Y Y (p_move Y Y) ?_
   refine rp Y Y (p_ine Y Y Y) ?_
   refine rz [(1, .q 1 (0)), (3, .i r'2), (22, .b (decide (r'2 ≠ (0 : Int))))] [(1, .pure (GTable.cs t0))] Y Y Y ?_
   refine AW2_if (p := r'2 ≠ (0 : Int)) Y (fun h5 => ?_) (fun h5 => ?_)
   ·replace H := ite_then h5 H
    refine sg [0, 1] Y ?_
    refine rp Y Y (p_move Y Y) ?_
    refine rp Y Y (p_asg Y Y) ?_
    refine rz [(2, .i r'2)] [] Y Y Y ?_
    refine AW2_ret ?_
    have hz := some_elim H
    subst hz
    exact ⟨⟨res_tmp (.same _), trivial⟩, trivial⟩
   ·replace H := ite_else h5 H
    refine as2 [(1, .q 1 (0))] [(1, .pure (GTable.cs t0))] Y Y Y ?_
    refine AW2_skip ?_
    refine AW2_seq ?_
    refine AW2_seq ?_
    refine bindK H fun g'3 h11 H => ?_
    refine AW2_mid (⟨[(1, .q 1 (0)), (42, .b g'3)], [(1, .pure (GTable.cs t0))], 79⟩ : TS) ?_ ?_
    ·clear H
     have H := h11
     clear h11
     refine AW2_reg [0, 1, 2, 3, 4, 5, 6, 7, 8, 9, 10, 11, 12, 13, 14, 15, 16, 17, 18] Y ?_
     refine rp Y Y (u_fa Y Y Tryd.underlying29 Y in_22 nz Y Y (nl (GTable.len t0))) ?_
     refine rp Y Y (u_ld Y Y Tryd.underlying22 Y Y ((Sub.refl _).trans (GTable.sub2 t0))) ?_
     refine rp Y Y (p_lenl Y Tryd.underlying22 Y Y) ?_
     refine rp Y Y (p_ieq Y Y Y) ?_
     refine rp Y Y (p_move Y Y) ?_
     refine (Classical.em ((t0.Cols.length : Int) = (0 : Int))).elim (fun h7 => ?_) (fun h7 => ?_)
     ·replace H := ite_then h7 H
      iterate 6 (refine r_off rfl rfl rfl rfl (dT h7) rfl rfl ?_)
      refine rp Y Y (p_pkt Y Y (dT h7) (.same _)) ?_
      refine rp Y Y (p_move Y Y) ?_
      iterate 5 (refine r_off rfl rfl rfl rfl rfl rfl rfl ?_)
      refine rp Y Y (p_pkt Y Y Y (.same _)) ?_
      refine rs [(1, .q 1 (0)), (42, .b true)] [(1, .pure (GTable.cs t0))] Y Y Y ?_
      have hz := some_elim H
      subst hz
      exact RunW_nil rfl
     ·replace H := ite_else h7 H
      refine r_on Y Y Y Y (dF h7) Y (PureD.opD (u_fa Y Y Tryd.underlying29 Y in_22 nz Y Y (nl (GTable.len t0)))) ?_
      refine r_on Y Y Y Y (dF h7) Y (PureD.opD (u_ld Y Y Tryd.underlying22 Y Y ((Sub.refl _).trans (GTable.sub2 t0)))) ?_
      refine chkK H fun h8 H => ?_
      refine r_on Y Y Y Y (dF h7) Y (PureD.opD (u_ixl Y Y Tryd.underlying22 in_55 Y Y Y h8 (fne (fun x => (GColumn.len x)) (by decide) h8))) ?_
      refine r_on Y Y Y Y (dF h7) Y (PureD.opD (u_far Y Y Tryd.underlying55 Y in_3 nz Y)) ?_
      refine r_on Y Y Y Y (dF h7) Y (PureD.opD (u_ld Y Y Tryd.underlying3 Y Y ((Sub.fm default (fun x => (GColumn.len x)) h8).trans (GColumn.sub1 (lrd t0.Cols 0))))) ?_
      refine r_on Y Y Y Y (dF h7) Y (PureD.opD (p_ine Y Y Y)) ?_
      refine rp Y Y (p_pkf Y Y (dF h7) (.same _)) ?_
      refine rp Y Y (p_move Y Y) ?_
      refine (Classical.em ((lrd t0.Cols 0).Kind ≠ (2 : Int))).elim (fun h9 => ?_) (fun h9 => ?_)
      ·replace H := ite_then h9 H
       iterate 5 (refine r_off rfl rfl rfl rfl (dT h9) rfl rfl ?_)
       refine rp Y Y (p_pkt Y Y (dT h9) (.same _)) ?_
       refine rs [(1, .q 1 (0)), (42, .b true)] [(1, .pure (GTable.cs t0))] Y Y Y ?_
       have hz := some_elim H
       subst hz
       exact RunW_nil rfl
      ·replace H := ite_else h9 H
       refine r_on Y Y Y Y (dF h9) Y (PureD.opD (u_fa Y Y Tryd.underlying29 Y in_22 nz Y Y (nl (GTable.len t0)))) ?_
       refine r_on Y Y Y Y (dF h9) Y (PureD.opD (u_ld Y Y Tryd.underlying22 Y Y ((Sub.refl _).trans (GTable.sub2 t0)))) ?_
       refine chkK H fun h10 H => ?_
       refine r_on Y Y Y Y (dF h9) Y (PureD.opD (u_ixl Y Y Tryd.underlying22 in_55 Y Y Y h10 (fne (fun x => (GColumn.len x)) (by decide) h10))) ?_
       refine r_on Y Y Y Y (dF h9) Y (PureD.opD (u_far Y Y Tryd.underlying55 Y in_4 nz Y)) ?_
       refine r_on Y Y Y Y (dF h9) Y (PureD.opD (u_ld Y Y Tryd.underlying4 Y Y ((Sub.fm default (fun x => (GColumn.len x)) h10).trans (GColumn.sub2 (lrd t0.Cols 0))))) ?_
       refine rp Y Y (p_pkf Y Y (dF h9) (.same _)) ?_
       refine rs [(1, .q 1 (0)), (42, .b ((lrd t0.Cols 0).Null))] [(1, .pure (GTable.cs t0))] Y Y Y ?_
       have hz := some_elim H
       subst hz
       exact RunW_nil rfl
    ·refine AW2_cond Y (fun h12 => ?_) (fun h12 => ?_)
     ·replace H := ite_then h12 H
      refine sg [0] Y ?_
      refine rp Y Y (p_asg Y Y) ?_
      refine rz [(2, .i (3 : Int))] [] Y Y Y ?_
      refine AW2_ret ?_
      have hz := some_elim H
      subst hz
      exact ⟨⟨res_tmp (.same _), trivial⟩, trivial⟩
     ·replace H := ite_else (ne_true h12) H
      refine as2 [(1, .q 1 (0))] [(1, .pure (GTable.cs t0))] Y Y Y ?_
      refine AW2_skip ?_
      refine AW2_seq ?_
      refine sg [0, 1, 2] Y ?_
      refine rp Y Y (u_fa Y Y Tryd.underlying29 Y in_27 nz Y Y (nl (GTable.len t0))) ?_
      refine rp Y Y (u_lda Y Y Tryd.underlying27 Y in_27 Y (Nat.succ_pos _) ((Sub.refl _).trans (GTable.sub3 t0)) (vfm_len (fun x => (vfm_len (fun x => (GCell.len x)) x)) t0.Drawers)) ?_
      refine rp Y Y (p_move Y Y) ?_
      refine rz [(1, .q 1 (0)), (44, .g (t0.Drawers.toList.flatMap (fun v : Vector GCell 4 => v.toList.flatMap GCell.cs))), (45, .i (0 : Int))] [(1, .pure (GTable.cs t0))] Y Y Y ?_
      refine AW2_block ?_
      refine as2 [(1, .q 1 (0)), (44, .g (t0.Drawers.toList.flatMap (fun v : Vector GCell 4 => v.toList.flatMap GCell.cs))), (45, .i (0 : Int))] [(1, .pure (GTable.cs t0))] Y Y Y ?_
      refine bindK H fun o'18 h26 H => ?_
      refine AW2_loopO (fun a'15 : Int => (⟨[(1, .q 1 (0)), (44, .g (t0.Drawers.toList.flatMap (fun v : Vector GCell 4 => v.toList.flatMap GCell.cs))), (45, .i a'15)], [(1, .pure (GTable.cs t0))], 79⟩ : TS)) (fun (o : Int ⊕ Unit) e s' => match o with | .inl y'16 => e = Go.Exit.ret ∧ ResAll Tryd.prog s' [ResultVar.tmp 2] [.i y'16] ∧ HFits s' [] | .inr (y'17) => e = Go.Exit.exit 0 ∧ s' = (⟨[], [], 79⟩ : TS)) h26 Y (fun t45_0 x hx => ?_) (fun e s' hs => ?_)
      ·clear H
       have H := hx
       clear hx
       unfold g_table_Check_l0 at H
       refine sg [0] Y ?_
       refine rp Y Y (p_bin Y Y Y Y) ?_
       refine rz [(1, .q 1 (0)), (44, .g (t0.Drawers.toList.flatMap (fun v : Vector GCell 4 => v.toList.flatMap GCell.cs))), (45, .i t45_0), (46, .b (decide (t45_0 < (2 : Int))))] [(1, .pure (GTable.cs t0))] Y Y Y ?_
       refine AW2_seq ?_
       refine AW2_if (p := t45_0 < (2 : Int)) Y (fun h13 => ?_) (fun h13 => ?_)
       ·replace H := ite_then h13 H
        refine as2 [(1, .q 1 (0)), (44, .g (t0.Drawers.toList.flatMap (fun v : Vector GCell 4 => v.toList.flatMap GCell.cs))), (45, .i t45_0)] [(1, .pure (GTable.cs t0))] Y Y Y ?_
        refine AW2_skip ?_
        refine AW2_seq ?_
        refine AW2_block ?_
        refine sg [0, 1, 2] Y ?_
        refine chkK H fun h14 H => ?_
        refine rp Y Y (u_ixaa Y Y Tryd.underlying27 in_26 Tryd.underlying26 Y Y Y (ixe h14) (ixn h14) (Sub.vfm (fun x => (vfm_len (fun x => (GCell.len x)) x)) (ixn h14)) (vfm_len (fun x => (GCell.len x)) (vrd t0.Drawers t45_0.toNat))) ?_
        refine r_op Y Y (MakeD.opD (u_alloc 5 Y in_26 one_26 zc_26) Y Y Y Y) ?_
        refine r_op Y Y (u_st Y Y Y Y Y in_26 (vfm_len (fun x => (GCell.len x)) (vrd t0.Drawers t45_0.toNat)) (nl (vfm_len (fun x => (GCell.len x)) (Vector.replicate 4 GCell.zero))) (Upd.refl ((vfm_len (fun x => (GCell.len x)) (vrd t0.Drawers t45_0.toNat)).trans (vfm_len (fun x => (GCell.len x)) (Vector.replicate 4 GCell.zero)).symm))) ?_
        refine rz [(1, .q 1 (0)), (5, .q 5 (0)), (44, .g (t0.Drawers.toList.flatMap (fun v : Vector GCell 4 => v.toList.flatMap GCell.cs))), (45, .i t45_0)] [(1, .pure (GTable.cs t0)), (5, .pure (((vrd t0.Drawers t45_0.toNat).toList).flatMap GCell.cs))] Y Y Y ?_
        refine AW2_seq ?_
        refine sg [0, 1] Y ?_
        refine rp Y Y (u_lda Y Y Tryd.underlying26 Y in_26 Y (Nat.succ_pos _) (Sub.refl _) (vfm_len (fun x => (GCell.len x)) (vrd t0.Drawers t45_0.toNat))) ?_
        refine rp Y Y (p_move Y Y) ?_
        refine rz [(1, .q 1 (0)), (5, .q 5 (0)), (44, .g (t0.Drawers.toList.flatMap (fun v : Vector GCell 4 => v.toList.flatMap GCell.cs))), (45, .i t45_0), (48, .g (((vrd t0.Drawers t45_0.toNat).toList).flatMap GCell.cs)), (49, .i (0 : Int))] [(1, .pure (GTable.cs t0)), (5, .pure (((vrd t0.Drawers t45_0.toNat).toList).flatMap GCell.cs))] Y Y Y ?_
        refine AW2_block ?_
        refine as2 [(1, .q 1 (0)), (5, .q 5 (0)), (44, .g (t0.Drawers.toList.flatMap (fun v : Vector GCell 4 => v.toList.flatMap GCell.cs))), (45, .i t45_0), (48, .g (((vrd t0.Drawers t45_0.toNat).toList).flatMap GCell.cs)), (49, .i (0 : Int))] [(1, .pure (GTable.cs t0)), (5, .pure (((vrd t0.Drawers t45_0.toNat).toList).flatMap GCell.cs))] Y Y Y ?_
        refine bindK H fun o'11 h23 H => ?_
        refine AW2_loopO (fun a'8 : Int => (⟨[(1, .q 1 (0)), (5, .q 5 (0)), (44, .g (t0.Drawers.toList.flatMap (fun v : Vector GCell 4 => v.toList.flatMap GCell.cs))), (45, .i t45_0), (48, .g (((vrd t0.Drawers t45_0.toNat).toList).flatMap GCell.cs)), (49, .i a'8)], [(1, .pure (GTable.cs t0)), (5, .pure (((vrd t0.Drawers t45_0.toNat).toList).flatMap GCell.cs))], 79⟩ : TS)) (fun (o : Int ⊕ Unit) e s' => match o with | .inl y'9 => e = Go.Exit.ret ∧ ResAll Tryd.prog s' [ResultVar.tmp 2] [.i y'9] ∧ HFits s' [] | .inr (y'10) => e = Go.Exit.exit 2 ∧ s' = (⟨[(1, .q 1 (0)), (5, .q 5 (0)), (44, .g (t0.Drawers.toList.flatMap (fun v : Vector GCell 4 => v.toList.flatMap GCell.cs))), (45, .i t45_0)], [(1, .pure (GTable.cs t0)), (5, .pure (((vrd t0.Drawers t45_0.toNat).toList).flatMap GCell.cs))], 79⟩ : TS)) h23 Y (fun t49_1 x hx => ?_) (fun e s' hs => ?_)
        ·clear H
         have H := hx
         clear hx
         unfold g_table_Check_l1 at H
         refine sg [0] Y ?_
         refine rp Y Y (p_bin Y Y Y Y) ?_
         refine rz [(1, .q 1 (0)), (5, .q 5 (0)), (44, .g (t0.Drawers.toList.flatMap (fun v : Vector GCell 4 => v.toList.flatMap GCell.cs))), (45, .i t45_0), (48, .g (((vrd t0.Drawers t45_0.toNat).toList).flatMap GCell.cs)), (49, .i t49_1), (50, .b (decide (t49_1 < (4 : Int))))] [(1, .pure (GTable.cs t0)), (5, .pure (((vrd t0.Drawers t45_0.toNat).toList).flatMap GCell.cs))] Y Y Y ?_
         refine AW2_seq ?_
         refine AW2_if (p := t49_1 < (4 : Int)) Y (fun h15 => ?_) (fun h15 => ?_)
         ·replace H := ite_then h15 H
          refine as2 [(1, .q 1 (0)), (5, .q 5 (0)), (44, .g (t0.Drawers.toList.flatMap (fun v : Vector GCell 4 => v.toList.flatMap GCell.cs))), (45, .i t45_0), (48, .g (((vrd t0.Drawers t45_0.toNat).toList).flatMap GCell.cs)), (49, .i t49_1)] [(1, .pure (GTable.cs t0)), (5, .pure (((vrd t0.Drawers t45_0.toNat).toList).flatMap GCell.cs))] Y Y Y ?_
          refine AW2_skip ?_
          refine AW2_seq ?_
          refine bindK H fun o'7 h16 H => ?_
          refine AW2_join (fun j'4 : Unit => (⟨[(1, .q 1 (0)), (5, .q 5 (0)), (44, .g (t0.Drawers.toList.flatMap (fun v : Vector GCell 4 => v.toList.flatMap GCell.cs))), (45, .i t45_0), (48, .g (((vrd t0.Drawers t45_0.toNat).toList).flatMap GCell.cs)), (49, .i t49_1)], [(1, .pure (GTable.cs t0)), (5, .pure (((vrd t0.Drawers t45_0.toNat).toList).flatMap GCell.cs))], 79⟩ : TS)) (fun r e s' => e = Go.Exit.ret ∧ ResAll Tryd.prog s' [ResultVar.tmp 2] [.i r] ∧ HFits s' []) (x := o'7) ?_ (fun j'4 hy => ?_) (fun y'6 e s' hy hs => ?_)
          ·clear H
           have H := h16
           clear h16
           refine AW2_block ?_
           refine sg [0, 1, 2] Y ?_
           refine chkK H fun h17 H => ?_
           refine rp Y Y (u_ixaa Y Y Tryd.underlying26 in_25 Tryd.underlying25 Y Y Y (ixe h17) (ixn h17) (Sub.vfm (fun x => (GCell.len x)) (ixn h17)) (GCell.len (vrd (vrd t0.Drawers t45_0.toNat) t49_1.toNat))) ?_
           refine r_op Y Y (MakeD.opD (u_alloc 7 Y in_25 one_25 zc_25) Y Y Y Y) ?_
           refine r_op Y Y (u_st Y Y Y Y Y in_25 (GCell.len (vrd (vrd t0.Drawers t45_0.toNat) t49_1.toNat)) (nl (GCell.len GCell.zero)) (Upd.refl ((GCell.len (vrd (vrd t0.Drawers t45_0.toNat) t49_1.toNat)).trans (GCell.len GCell.zero).symm))) ?_
           refine rz [(1, .q 1 (0)), (5, .q 5 (0)), (7, .q 7 (0)), (44, .g (t0.Drawers.toList.flatMap (fun v : Vector GCell 4 => v.toList.flatMap GCell.cs))), (45, .i t45_0), (48, .g (((vrd t0.Drawers t45_0.toNat).toList).flatMap GCell.cs)), (49, .i t49_1)] [(1, .pure (GTable.cs t0)), (5, .pure (((vrd t0.Drawers t45_0.toNat).toList).flatMap GCell.cs)), (7, .pure (GCell.cs (vrd (vrd t0.Drawers t45_0.toNat) t49_1.toNat)))] Y Y Y ?_
           refine AW2_seq ?_
           refine AW2_seq ?_
           refine AW2_mid (⟨[(1, .q 1 (0)), (5, .q 5 (0)), (7, .q 7 (0)), (44, .g (t0.Drawers.toList.flatMap (fun v : Vector GCell 4 => v.toList.flatMap GCell.cs))), (45, .i t45_0), (48, .g (((vrd t0.Drawers t45_0.toNat).toList).flatMap GCell.cs)), (49, .i t49_1), (60, .b (decide (((!((vrd (vrd t0.Drawers t45_0.toNat) t49_1.toNat).Full)) = true) ∧ ((((vrd (vrd t0.Drawers t45_0.toNat) t49_1.toNat).Row).length : Int) > (0 : Int)))))], [(1, .pure (GTable.cs t0)), (5, .pure (((vrd t0.Drawers t45_0.toNat).toList).flatMap GCell.cs)), (7, .pure (GCell.cs (vrd (vrd t0.Drawers t45_0.toNat) t49_1.toNat)))], 79⟩ : TS) ?_ ?_
           ·refine AW2_reg [0, 1, 2, 3, 4, 5, 6, 7, 8] Y ?_
            refine rp Y Y (u_fa Y Y Tryd.underlying25 Y in_4 nz Y Y (nl (GCell.len (vrd (vrd t0.Drawers t45_0.toNat) t49_1.toNat)))) ?_
            refine rp Y Y (u_ld Y Y Tryd.underlying4 Y Y ((Sub.refl _).trans (GCell.sub0 (vrd (vrd t0.Drawers t45_0.toNat) t49_1.toNat)))) ?_
            refine rp Y Y (p_not Y Y) ?_
            refine rp Y Y (p_move Y Y) ?_
            refine (Classical.em ((!((vrd (vrd t0.Drawers t45_0.toNat) t49_1.toNat).Full)) = true)).elim (fun h18 => ?_) (fun h18 => ?_)
            ·refine rn Y Y Y Y h18 Y (u_fa Y Y Tryd.underlying25 Y in_23 nz Y Y (nl (GCell.len (vrd (vrd t0.Drawers t45_0.toNat) t49_1.toNat)))) ?_
             refine rn Y Y Y Y h18 Y (u_ld Y Y Tryd.underlying23 Y Y ((Sub.refl _).trans (GCell.sub1 (vrd (vrd t0.Drawers t45_0.toNat) t49_1.toNat)))) ?_
             refine rn Y Y Y Y h18 Y (p_lenl Y Tryd.underlying23 Y Y) ?_
             refine rn Y Y Y Y h18 Y (p_bin Y Y Y Y) ?_
             refine rp Y Y (p_pkt Y Y h18 (tb ((and_l (p := (!((vrd (vrd t0.Drawers t45_0.toNat) t49_1.toNat).Full)) = true) (q := (((vrd (vrd t0.Drawers t45_0.toNat) t49_1.toNat).Row).length : Int) > (0 : Int)) h18)))) ?_
             refine rs [(1, .q 1 (0)), (5, .q 5 (0)), (7, .q 7 (0)), (44, .g (t0.Drawers.toList.flatMap (fun v : Vector GCell 4 => v.toList.flatMap GCell.cs))), (45, .i t45_0), (48, .g (((vrd t0.Drawers t45_0.toNat).toList).flatMap GCell.cs)), (49, .i t49_1), (60, .b (decide (((!((vrd (vrd t0.Drawers t45_0.toNat) t49_1.toNat).Full)) = true) ∧ ((((vrd (vrd t0.Drawers t45_0.toNat) t49_1.toNat).Row).length : Int) > (0 : Int)))))] [(1, .pure (GTable.cs t0)), (5, .pure (((vrd t0.Drawers t45_0.toNat).toList).flatMap GCell.cs)), (7, .pure (GCell.cs (vrd (vrd t0.Drawers t45_0.toNat) t49_1.toNat)))] Y Y Y ?_
             exact RunW_nil rfl
            ·iterate 4 (refine r_off rfl rfl rfl rfl (bfalse h18) rfl rfl ?_)
             refine rp Y Y (p_pkf Y Y (bfalse h18) (tb (dF (p := ((!((vrd (vrd t0.Drawers t45_0.toNat) t49_1.toNat).Full)) = true) ∧ ((((vrd (vrd t0.Drawers t45_0.toNat) t49_1.toNat).Row).length : Int) > (0 : Int))) (fun x => h18 x.1)).symm)) ?_
             refine rs [(1, .q 1 (0)), (5, .q 5 (0)), (7, .q 7 (0)), (44, .g (t0.Drawers.toList.flatMap (fun v : Vector GCell 4 => v.toList.flatMap GCell.cs))), (45, .i t45_0), (48, .g (((vrd t0.Drawers t45_0.toNat).toList).flatMap GCell.cs)), (49, .i t49_1), (60, .b (decide (((!((vrd (vrd t0.Drawers t45_0.toNat) t49_1.toNat).Full)) = true) ∧ ((((vrd (vrd t0.Drawers t45_0.toNat) t49_1.toNat).Row).length : Int) > (0 : Int)))))] [(1, .pure (GTable.cs t0)), (5, .pure (((vrd t0.Drawers t45_0.toNat).toList).flatMap GCell.cs)), (7, .pure (GCell.cs (vrd (vrd t0.Drawers t45_0.toNat) t49_1.toNat)))] Y Y Y ?_
             exact RunW_nil rfl
           ·refine AW2_if (p := ((!((vrd (vrd t0.Drawers t45_0.toNat) t49_1.toNat).Full)) = true) ∧ ((((vrd (vrd t0.Drawers t45_0.toNat) t49_1.toNat).Row).length : Int) > (0 : Int))) Y (fun h19 => ?_) (fun h19 => ?_)
            ·replace H := ite_then h19 H
             refine sg [0] Y ?_
             refine rp Y Y (p_asg Y Y) ?_
             refine rz [(2, .i (3 : Int))] [] Y Y Y ?_
             refine AW2_ret ?_
             have hz := some_elim H
             subst hz
             exact ⟨Y, ⟨res_tmp (.same _), trivial⟩, trivial⟩
            ·replace H := ite_else h19 H
             refine as2 [(1, .q 1 (0)), (5, .q 5 (0)), (7, .q 7 (0)), (44, .g (t0.Drawers.toList.flatMap (fun v : Vector GCell 4 => v.toList.flatMap GCell.cs))), (45, .i t45_0), (48, .g (((vrd t0.Drawers t45_0.toNat).toList).flatMap GCell.cs)), (49, .i t49_1)] [(1, .pure (GTable.cs t0)), (5, .pure (((vrd t0.Drawers t45_0.toNat).toList).flatMap GCell.cs)), (7, .pure (GCell.cs (vrd (vrd t0.Drawers t45_0.toNat) t49_1.toNat)))] Y Y Y ?_
             refine AW2_skip ?_
             refine AW2_seq ?_
             refine sg [0, 1, 2] Y ?_
             refine rp Y Y (u_fa Y Y Tryd.underlying25 Y in_4 nz Y Y (nl (GCell.len (vrd (vrd t0.Drawers t45_0.toNat) t49_1.toNat)))) ?_
             refine rp Y Y (u_ld Y Y Tryd.underlying4 Y Y ((Sub.refl _).trans (GCell.sub0 (vrd (vrd t0.Drawers t45_0.toNat) t49_1.toNat)))) ?_
             refine rp Y Y (p_not Y Y) ?_
             refine rz [(1, .q 1 (0)), (5, .q 5 (0)), (7, .q 7 (0)), (44, .g (t0.Drawers.toList.flatMap (fun v : Vector GCell 4 => v.toList.flatMap GCell.cs))), (45, .i t45_0), (48, .g (((vrd t0.Drawers t45_0.toNat).toList).flatMap GCell.cs)), (49, .i t49_1), (63, .b (!((vrd (vrd t0.Drawers t45_0.toNat) t49_1.toNat).Full)))] [(1, .pure (GTable.cs t0)), (5, .pure (((vrd t0.Drawers t45_0.toNat).toList).flatMap GCell.cs)), (7, .pure (GCell.cs (vrd (vrd t0.Drawers t45_0.toNat) t49_1.toNat)))] Y Y Y ?_
             refine AW2_cond Y (fun h20 => ?_) (fun h20 => ?_)
             ·replace H := ite_then h20 H
              refine as2 [(1, .q 1 (0)), (5, .q 5 (0)), (44, .g (t0.Drawers.toList.flatMap (fun v : Vector GCell 4 => v.toList.flatMap GCell.cs))), (45, .i t45_0), (48, .g (((vrd t0.Drawers t45_0.toNat).toList).flatMap GCell.cs)), (49, .i t49_1)] [(1, .pure (GTable.cs t0)), (5, .pure (((vrd t0.Drawers t45_0.toNat).toList).flatMap GCell.cs))] Y Y Y ?_
              refine AW2_exit ?_
              refine thenQ2_exit ?_
              refine blockQ2_exit ?_
              have hz := some_elim H
              subst hz
              exact ⟨Y, Y⟩
             ·replace H := ite_else (ne_true h20) H
              refine as2 [(1, .q 1 (0)), (5, .q 5 (0)), (7, .q 7 (0)), (44, .g (t0.Drawers.toList.flatMap (fun v : Vector GCell 4 => v.toList.flatMap GCell.cs))), (45, .i t45_0), (48, .g (((vrd t0.Drawers t45_0.toNat).toList).flatMap GCell.cs)), (49, .i t49_1)] [(1, .pure (GTable.cs t0)), (5, .pure (((vrd t0.Drawers t45_0.toNat).toList).flatMap GCell.cs)), (7, .pure (GCell.cs (vrd (vrd t0.Drawers t45_0.toNat) t49_1.toNat)))] Y Y Y ?_
              refine AW2_skip ?_
              refine sg [0, 1, 2, 3, 4, 5] Y ?_
              refine rp Y Y (u_fa Y Y Tryd.underlying25 Y in_23 nz Y Y (nl (GCell.len (vrd (vrd t0.Drawers t45_0.toNat) t49_1.toNat)))) ?_
              refine rp Y Y (u_ld Y Y Tryd.underlying23 Y Y ((Sub.refl _).trans (GCell.sub1 (vrd (vrd t0.Drawers t45_0.toNat) t49_1.toNat)))) ?_
              refine rp Y Y (u_fa Y Y Tryd.underlying29 Y in_22 nz Y Y (nl (GTable.len t0))) ?_
              refine rp Y Y (u_ld Y Y Tryd.underlying22 Y Y ((Sub.refl _).trans (GTable.sub2 t0))) ?_
              refine bindK H fun r'5 h21 H => ?_
              refine rp Y Y (p_callp Y Y Y Tryd.func19 Y Y (g_kinds_Row_ac h21) ⟨Y, Y, trivial⟩) ?_
              refine rp Y Y (p_asg Y Y) ?_
              refine rz [(1, .q 1 (0)), (5, .q 5 (0)), (8, .i r'5), (44, .g (t0.Drawers.toList.flatMap (fun v : Vector GCell 4 => v.toList.flatMap GCell.cs))), (45, .i t45_0), (48, .g (((vrd t0.Drawers t45_0.toNat).toList).flatMap GCell.cs)), (49, .i t49_1)] [(1, .pure (GTable.cs t0)), (5, .pure (((vrd t0.Drawers t45_0.toNat).toList).flatMap GCell.cs))] Y Y Y ?_
              refine sg [0, 1] Y ?_
              refine rp Y Y (p_move Y Y) ?_
              refine rp Y Y (p_ine Y Y Y) ?_
              refine rz [(1, .q 1 (0)), (5, .q 5 (0)), (8, .i r'5), (44, .g (t0.Drawers.toList.flatMap (fun v : Vector GCell 4 => v.toList.flatMap GCell.cs))), (45, .i t45_0), (48, .g (((vrd t0.Drawers t45_0.toNat).toList).flatMap GCell.cs)), (49, .i t49_1), (70, .b (decide (r'5 ≠ (0 : Int))))] [(1, .pure (GTable.cs t0)), (5, .pure (((vrd t0.Drawers t45_0.toNat).toList).flatMap GCell.cs))] Y Y Y ?_
              refine AW2_if (p := r'5 ≠ (0 : Int)) Y (fun h22 => ?_) (fun h22 => ?_)
              ·replace H := ite_then h22 H
               refine sg [0, 1] Y ?_
               refine rp Y Y (p_move Y Y) ?_
               refine rp Y Y (p_asg Y Y) ?_
               refine rz [(2, .i r'5)] [] Y Y Y ?_
               refine AW2_ret ?_
               have hz := some_elim H
               subst hz
               exact ⟨Y, ⟨res_tmp (.same _), trivial⟩, trivial⟩
              ·replace H := ite_else h22 H
               refine as2 [(1, .q 1 (0)), (5, .q 5 (0)), (44, .g (t0.Drawers.toList.flatMap (fun v : Vector GCell 4 => v.toList.flatMap GCell.cs))), (45, .i t45_0), (48, .g (((vrd t0.Drawers t45_0.toNat).toList).flatMap GCell.cs)), (49, .i t49_1)] [(1, .pure (GTable.cs t0)), (5, .pure (((vrd t0.Drawers t45_0.toNat).toList).flatMap GCell.cs))] Y Y Y ?_
               refine AW2_skip ?_
               have hz := some_elim H
               subst hz
               exact ⟨Y, Y⟩
          ·subst hy
           refine AW2_reg [0, 1] Y ?_
           refine rp Y Y (p_bin Y Y Y Y) ?_
           refine rp Y Y (p_move Y Y) ?_
           refine rz [(1, .q 1 (0)), (5, .q 5 (0)), (44, .g (t0.Drawers.toList.flatMap (fun v : Vector GCell 4 => v.toList.flatMap GCell.cs))), (45, .i t45_0), (48, .g (((vrd t0.Drawers t45_0.toNat).toList).flatMap GCell.cs)), (49, .i (w64 (t49_1 + (1 : Int))))] [(1, .pure (GTable.cs t0)), (5, .pure (((vrd t0.Drawers t45_0.toNat).toList).flatMap GCell.cs))] Y Y Y ?_
           have hz := some_elim H
           subst hz
           exact ⟨Y, Y⟩
          ·subst hy
           obtain ⟨rfl, hs⟩ := hs
           have hz := some_elim H
           subst hz
           exact ⟨Y, hs.1, hs.2⟩
         ·replace H := ite_else h15 H
          refine as2 [(1, .q 1 (0)), (5, .q 5 (0)), (44, .g (t0.Drawers.toList.flatMap (fun v : Vector GCell 4 => v.toList.flatMap GCell.cs))), (45, .i t45_0)] [(1, .pure (GTable.cs t0)), (5, .pure (((vrd t0.Drawers t45_0.toNat).toList).flatMap GCell.cs))] Y Y Y ?_
          refine AW2_exit ?_
          refine thenQ2_exit ?_
          have hz := some_elim H
          subst hz
          exact ⟨Y, Y⟩
        ·rcases o'11 with y'12 | y'13
         ·obtain ⟨rfl, hs⟩ := hs
          refine ⟨by simp, ?_⟩
          have hz := some_elim H
          subst hz
          exact ⟨Y, hs.1, hs.2⟩
         ·obtain ⟨rfl, rfl⟩ := hs
          refine ⟨by simp, ?_⟩
          refine blockQ2_exit ?_
          refine sg [0, 1, 2] Y ?_
          refine rp Y Y (u_lda Y Y Tryd.underlying26 Y in_26 Y (Nat.succ_pos _) (Sub.refl _) (vfm_len (fun x => (GCell.len x)) (vrd t0.Drawers t45_0.toNat))) ?_
          refine bindK H fun r'14 h24 H => ?_
          refine rp Y Y (p_callp Y Y Y Tryd.func20 Y Y (g_table_keys_ac h24) ⟨Y, trivial⟩) ?_
          refine rp Y Y (p_asg Y Y) ?_
          refine rz [(1, .q 1 (0)), (9, .i r'14), (44, .g (t0.Drawers.toList.flatMap (fun v : Vector GCell 4 => v.toList.flatMap GCell.cs))), (45, .i t45_0)] [(1, .pure (GTable.cs t0))] Y Y Y ?_
          refine sg [0, 1] Y ?_
          refine rp Y Y (p_move Y Y) ?_
          refine rp Y Y (p_ine Y Y Y) ?_
          refine rz [(1, .q 1 (0)), (9, .i r'14), (44, .g (t0.Drawers.toList.flatMap (fun v : Vector GCell 4 => v.toList.flatMap GCell.cs))), (45, .i t45_0), (76, .b (decide (r'14 ≠ (0 : Int))))] [(1, .pure (GTable.cs t0))] Y Y Y ?_
          refine AW2_if (p := r'14 ≠ (0 : Int)) Y (fun h25 => ?_) (fun h25 => ?_)
          ·replace H := ite_then h25 H
           refine sg [0, 1] Y ?_
           refine rp Y Y (p_move Y Y) ?_
           refine rp Y Y (p_asg Y Y) ?_
           refine rz [(2, .i r'14)] [] Y Y Y ?_
           refine AW2_ret ?_
           have hz := some_elim H
           subst hz
           exact ⟨Y, ⟨res_tmp (.same _), trivial⟩, trivial⟩
          ·replace H := ite_else h25 H
           refine as2 [(1, .q 1 (0)), (44, .g (t0.Drawers.toList.flatMap (fun v : Vector GCell 4 => v.toList.flatMap GCell.cs))), (45, .i t45_0)] [(1, .pure (GTable.cs t0))] Y Y Y ?_
           refine AW2_skip ?_
           refine AW2_reg [0, 1] Y ?_
           refine rp Y Y (p_bin Y Y Y Y) ?_
           refine rp Y Y (p_move Y Y) ?_
           refine rz [(1, .q 1 (0)), (44, .g (t0.Drawers.toList.flatMap (fun v : Vector GCell 4 => v.toList.flatMap GCell.cs))), (45, .i (w64 (t45_0 + (1 : Int))))] [(1, .pure (GTable.cs t0))] Y Y Y ?_
           have hz := some_elim H
           subst hz
           exact ⟨Y, Y⟩
       ·replace H := ite_else h13 H
        refine as2 [] [] Y Y Y ?_
        refine AW2_exit ?_
        refine thenQ2_exit ?_
        have hz := some_elim H
        subst hz
        exact ⟨Y, Y⟩
      ·rcases o'18 with y'19 | y'20
       ·obtain ⟨rfl, hs⟩ := hs
        refine ⟨by simp, ?_⟩
        have hz := some_elim H
        subst hz
        exact ⟨hs.1, hs.2⟩
       ·obtain ⟨rfl, rfl⟩ := hs
        refine ⟨by simp, ?_⟩
        refine blockQ2_exit ?_
        refine sg [0] Y ?_
        refine rp Y Y (p_asg Y Y) ?_
        refine rz [(2, .i (0 : Int))] [] Y Y Y ?_
        refine AW2_ret ?_
        have hz := some_elim H
        subst hz
        exact ⟨⟨res_tmp (.same _), trivial⟩, trivial⟩
end Go.Proofs.YtpgimlllchibnaaDoor.VM
