/- Functions of the program, as they answer, and that their code comes to these answers. -/
import Derived.Test.YtpgimlllchibnaaDoorGd3
namespace Go.Proofs.YtpgimlllchibnaaDoor.VM
open Go Go.RowKit

theorem in_35 : Info Tryd.prog 35 118 1872 (.agg #[.bool false, .string ⟨#[]⟩, .slice none 0 0, .bool false, .slice none 0 0, .bool false, .slice none 0 0, .bool false, .slice none 0 0, .bool false, .slice none 0 0, .bool false, .slice none 0 0, .bool false, .slice none 0 0, .bool false, .slice none 0 0, .bool false, .slice none 0 0, .bool false, .string ⟨#[]⟩, .slice none 0 0, .bool false, .slice none 0 0, .bool false, .slice none 0 0, .bool false, .slice none 0 0, .bool false, .slice none 0 0, .bool false, .slice none 0 0, .bool false, .slice none 0 0, .bool false, .slice none 0 0, .bool false, .slice none 0 0, .bool false, .string ⟨#[]⟩, .slice none 0 0, .bool false, .slice none 0 0, .bool false, .slice none 0 0, .bool false, .slice none 0 0, .bool false, .slice none 0 0, .bool false, .slice none 0 0, .bool false, .slice none 0 0, .bool false, .slice none 0 0, .bool false, .slice none 0 0, .bool false, .string ⟨#[]⟩, .slice none 0 0, .bool false, .slice none 0 0, .bool false, .slice none 0 0, .bool false, .slice none 0 0, .bool false, .slice none 0 0, .bool false, .slice none 0 0, .bool false, .slice none 0 0, .bool false, .slice none 0 0, .bool false, .slice none 0 0, .bool false, .string ⟨#[]⟩, .slice none 0 0, .bool false, .slice none 0 0, .bool false, .slice none 0 0, .bool false, .slice none 0 0, .bool false, .slice none 0 0, .bool false, .slice none 0 0, .bool false, .slice none 0 0, .bool false, .slice none 0 0, .bool false, .slice none 0 0, .bool false, .string ⟨#[]⟩, .slice none 0 0, .bool false, .slice none 0 0, .bool false, .slice none 0 0, .bool false, .slice none 0 0, .bool false, .slice none 0 0, .bool false, .slice none 0 0, .bool false, .slice none 0 0, .bool false, .slice none 0 0, .bool false, .slice none 0 0, .slice none 0 0, .int .i64 0, .int .i64 0, .int .i64 0]) := by unfold Info; kernel_rfl
theorem one_35 : (.agg #[.bool false, .string ⟨#[]⟩, .slice none 0 0, .bool false, .slice none 0 0, .bool false, .slice none 0 0, .bool false, .slice none 0 0, .bool false, .slice none 0 0, .bool false, .slice none 0 0, .bool false, .slice none 0 0, .bool false, .slice none 0 0, .bool false, .slice none 0 0, .bool false, .string ⟨#[]⟩, .slice none 0 0, .bool false, .slice none 0 0, .bool false, .slice none 0 0, .bool false, .slice none 0 0, .bool false, .slice none 0 0, .bool false, .slice none 0 0, .bool false, .slice none 0 0, .bool false, .slice none 0 0, .bool false, .slice none 0 0, .bool false, .string ⟨#[]⟩, .slice none 0 0, .bool false, .slice none 0 0, .bool false, .slice none 0 0, .bool false, .slice none 0 0, .bool false, .slice none 0 0, .bool false, .slice none 0 0, .bool false, .slice none 0 0, .bool false, .slice none 0 0, .bool false, .slice none 0 0, .bool false, .string ⟨#[]⟩, .slice none 0 0, .bool false, .slice none 0 0, .bool false, .slice none 0 0, .bool false, .slice none 0 0, .bool false, .slice none 0 0, .bool false, .slice none 0 0, .bool false, .slice none 0 0, .bool false, .slice none 0 0, .bool false, .slice none 0 0, .bool false, .string ⟨#[]⟩, .slice none 0 0, .bool false, .slice none 0 0, .bool false, .slice none 0 0, .bool false, .slice none 0 0, .bool false, .slice none 0 0, .bool false, .slice none 0 0, .bool false, .slice none 0 0, .bool false, .slice none 0 0, .bool false, .slice none 0 0, .bool false, .string ⟨#[]⟩, .slice none 0 0, .bool false, .slice none 0 0, .bool false, .slice none 0 0, .bool false, .slice none 0 0, .bool false, .slice none 0 0, .bool false, .slice none 0 0, .bool false, .slice none 0 0, .bool false, .slice none 0 0, .bool false, .slice none 0 0, .slice none 0 0, .int .i64 0, .int .i64 0, .int .i64 0] : Value).cells.all (·.oneCell') = true := by kernel_rfl
theorem zc_35 : ((.agg #[.bool false, .string ⟨#[]⟩, .slice none 0 0, .bool false, .slice none 0 0, .bool false, .slice none 0 0, .bool false, .slice none 0 0, .bool false, .slice none 0 0, .bool false, .slice none 0 0, .bool false, .slice none 0 0, .bool false, .slice none 0 0, .bool false, .slice none 0 0, .bool false, .string ⟨#[]⟩, .slice none 0 0, .bool false, .slice none 0 0, .bool false, .slice none 0 0, .bool false, .slice none 0 0, .bool false, .slice none 0 0, .bool false, .slice none 0 0, .bool false, .slice none 0 0, .bool false, .slice none 0 0, .bool false, .slice none 0 0, .bool false, .string ⟨#[]⟩, .slice none 0 0, .bool false, .slice none 0 0, .bool false, .slice none 0 0, .bool false, .slice none 0 0, .bool false, .slice none 0 0, .bool false, .slice none 0 0, .bool false, .slice none 0 0, .bool false, .slice none 0 0, .bool false, .slice none 0 0, .bool false, .string ⟨#[]⟩, .slice none 0 0, .bool false, .slice none 0 0, .bool false, .slice none 0 0, .bool false, .slice none 0 0, .bool false, .slice none 0 0, .bool false, .slice none 0 0, .bool false, .slice none 0 0, .bool false, .slice none 0 0, .bool false, .slice none 0 0, .bool false, .string ⟨#[]⟩, .slice none 0 0, .bool false, .slice none 0 0, .bool false, .slice none 0 0, .bool false, .slice none 0 0, .bool false, .slice none 0 0, .bool false, .slice none 0 0, .bool false, .slice none 0 0, .bool false, .slice none 0 0, .bool false, .slice none 0 0, .bool false, .string ⟨#[]⟩, .slice none 0 0, .bool false, .slice none 0 0, .bool false, .slice none 0 0, .bool false, .slice none 0 0, .bool false, .slice none 0 0, .bool false, .slice none 0 0, .bool false, .slice none 0 0, .bool false, .slice none 0 0, .bool false, .slice none 0 0, .slice none 0 0, .int .i64 0, .int .i64 0, .int .i64 0] : Value).cells.toList.map zcell) = GState.cs GState.zero := by rfl
theorem pl_35 : placesOf Tryd.prog 35 = some [(0, 114), (114, 1), (115, 3)] := by kernel_rfl
set_option maxRecDepth 100000 in
theorem ty_4 {d : Nat} {cs : List AV} (h : Typed Tryd.prog d 4 cs) : ∃ x : Bool, cs = [(AV.bool x)] ∧ okA x := match d, h with
  | 0, h => False.elim h
  | d + 1, h => ty_bool Tryd.underlying4 h
set_option maxRecDepth 100000 in
theorem ty_9 {d : Nat} {cs : List AV} (h : Typed Tryd.prog d 9 cs) : ∃ x : List UInt8, cs = [(AV.txt x)] ∧ okT x := match d, h with
  | 0, h => False.elim h
  | d + 1, h => ty_text Tryd.underlying9 h
set_option maxRecDepth 100000 in
theorem ty_3 {d : Nat} {cs : List AV} (h : Typed Tryd.prog d 3 cs) : ∃ x : Int, cs = [(AV.int x)] ∧ okI x := match d, h with
  | 0, h => False.elim h
  | d + 1, h => ty_int Tryd.underlying3 h
def GColumn.ok (x : GColumn) : Prop := okT x.Name ∧ okI x.Kind ∧ okA x.Null
set_option maxRecDepth 100000 in
theorem ty_55 {d : Nat} {cs : List AV} (h : Typed Tryd.prog d 55 cs) : ∃ x : GColumn, cs = GColumn.cs x ∧ GColumn.ok x := match d, h with
  | 0, h => False.elim h
  | d + 1, h => by
    obtain ⟨es, rfl, hl, hf⟩ := ty_struct Tryd.underlying55 h
    match es, hl, hf with
    | [e0, e1, e2], _, hf =>
    obtain ⟨x0, h0, q0⟩ := ty_9 (hf 0 _ e0 rfl rfl)
    obtain ⟨x1, h1, q1⟩ := ty_3 (hf 1 _ e1 rfl rfl)
    obtain ⟨x2, h2, q2⟩ := ty_4 (hf 2 _ e2 rfl rfl)
    refine ⟨⟨x0, x1, x2⟩, ?_, ⟨q0, q1, q2⟩⟩
    rw [h0, h1, h2]
    simp only [List.flatten_cons, List.flatten_nil, List.append_nil, GColumn.cs]
set_option maxRecDepth 100000 in
theorem ty_22 {d : Nat} {cs : List AV} (h : Typed Tryd.prog d 22 cs) : ∃ x : List GColumn, cs = [((fun q : List GColumn => AV.lst (q.flatMap GColumn.cs) q.length) x)] ∧ (okL 32 GColumn.ok) x := match d, h with
  | 0, h => False.elim h
  | d + 1, h => ty_slicef (g := fun b : GColumn => GColumn.cs b) Tryd.underlying22 (bytes_of in_55) (fun _ hx => ty_55 hx) h
set_option maxRecDepth 100000 in
theorem ty_50 {d : Nat} {cs : List AV} (h : Typed Tryd.prog d 50 cs) : ∃ x : UInt64, cs = [(AV.u64 x)] ∧ okA x := match d, h with
  | 0, h => False.elim h
  | d + 1, h => ty_u64 Tryd.underlying50 h
def GValue.ok (x : GValue) : Prop := okI x.Kind ∧ okI x.Int_ ∧ okA x.Bits ∧ okT x.Text
set_option maxRecDepth 100000 in
theorem ty_71 {d : Nat} {cs : List AV} (h : Typed Tryd.prog d 71 cs) : ∃ x : GValue, cs = GValue.cs x ∧ GValue.ok x := match d, h with
  | 0, h => False.elim h
  | d + 1, h => by
    obtain ⟨es, rfl, hl, hf⟩ := ty_struct Tryd.underlying71 h
    match es, hl, hf with
    | [e0, e1, e2, e3], _, hf =>
    obtain ⟨x0, h0, q0⟩ := ty_3 (hf 0 _ e0 rfl rfl)
    obtain ⟨x1, h1, q1⟩ := ty_3 (hf 1 _ e1 rfl rfl)
    obtain ⟨x2, h2, q2⟩ := ty_50 (hf 2 _ e2 rfl rfl)
    obtain ⟨x3, h3, q3⟩ := ty_9 (hf 3 _ e3 rfl rfl)
    refine ⟨⟨x0, x1, x2, x3⟩, ?_, ⟨q0, q1, q2, q3⟩⟩
    rw [h0, h1, h2, h3]
    simp only [List.flatten_cons, List.flatten_nil, List.append_nil, GValue.cs]
set_option maxRecDepth 100000 in
theorem ty_23 {d : Nat} {cs : List AV} (h : Typed Tryd.prog d 23 cs) : ∃ x : List GValue, cs = [((fun q : List GValue => AV.lst (q.flatMap GValue.cs) q.length) x)] ∧ (okL 40 GValue.ok) x := match d, h with
  | 0, h => False.elim h
  | d + 1, h => ty_slicef (g := fun b : GValue => GValue.cs b) Tryd.underlying23 (bytes_of in_71) (fun _ hx => ty_71 hx) h
def GCell.ok (x : GCell) : Prop := okA x.Full ∧ (okL 40 GValue.ok) x.Row
set_option maxRecDepth 100000 in
theorem ty_25 {d : Nat} {cs : List AV} (h : Typed Tryd.prog d 25 cs) : ∃ x : GCell, cs = GCell.cs x ∧ GCell.ok x := match d, h with
  | 0, h => False.elim h
  | d + 1, h => by
    obtain ⟨es, rfl, hl, hf⟩ := ty_struct Tryd.underlying25 h
    match es, hl, hf with
    | [e0, e1], _, hf =>
    obtain ⟨x0, h0, q0⟩ := ty_4 (hf 0 _ e0 rfl rfl)
    obtain ⟨x1, h1, q1⟩ := ty_23 (hf 1 _ e1 rfl rfl)
    refine ⟨⟨x0, x1⟩, ?_, ⟨q0, q1⟩⟩
    rw [h0, h1]
    simp only [List.flatten_cons, List.flatten_nil, List.append_nil, GCell.cs]
set_option maxRecDepth 100000 in
theorem ty_26 {d : Nat} {cs : List AV} (h : Typed Tryd.prog d 26 cs) : ∃ x : Vector GCell 4, cs = x.toList.flatMap GCell.cs ∧ (okV GCell.ok) x := match d, h with
  | 0, h => False.elim h
  | d + 1, h => ty_arrayf (g := fun b : GCell => GCell.cs b) Tryd.underlying26 (fun _ hx => ty_25 hx) h
set_option maxRecDepth 100000 in
theorem ty_27 {d : Nat} {cs : List AV} (h : Typed Tryd.prog d 27 cs) : ∃ x : Vector (Vector GCell 4) 2, cs = x.toList.flatMap (fun v : Vector GCell 4 => v.toList.flatMap GCell.cs) ∧ (okV (okV GCell.ok)) x := match d, h with
  | 0, h => False.elim h
  | d + 1, h => ty_arrayf (g := fun b : Vector GCell 4 => b.toList.flatMap GCell.cs) Tryd.underlying27 (fun _ hx => ty_26 hx) h
def GTable.ok (x : GTable) : Prop := okA x.There ∧ okT x.Name ∧ (okL 32 GColumn.ok) x.Cols ∧ (okV (okV GCell.ok)) x.Drawers
set_option maxRecDepth 100000 in
theorem ty_29 {d : Nat} {cs : List AV} (h : Typed Tryd.prog d 29 cs) : ∃ x : GTable, cs = GTable.cs x ∧ GTable.ok x := match d, h with
  | 0, h => False.elim h
  | d + 1, h => by
    obtain ⟨es, rfl, hl, hf⟩ := ty_struct Tryd.underlying29 h
    match es, hl, hf with
    | [e0, e1, e2, e3], _, hf =>
    obtain ⟨x0, h0, q0⟩ := ty_4 (hf 0 _ e0 rfl rfl)
    obtain ⟨x1, h1, q1⟩ := ty_9 (hf 1 _ e1 rfl rfl)
    obtain ⟨x2, h2, q2⟩ := ty_22 (hf 2 _ e2 rfl rfl)
    obtain ⟨x3, h3, q3⟩ := ty_27 (hf 3 _ e3 rfl rfl)
    refine ⟨⟨x0, x1, x2, x3⟩, ?_, ⟨q0, q1, q2, q3⟩⟩
    rw [h0, h1, h2, h3]
    simp only [List.flatten_cons, List.flatten_nil, List.append_nil, GTable.cs]
set_option maxRecDepth 100000 in
theorem ty_30 {d : Nat} {cs : List AV} (h : Typed Tryd.prog d 30 cs) : ∃ x : Vector GTable 2, cs = x.toList.flatMap GTable.cs ∧ (okV GTable.ok) x := match d, h with
  | 0, h => False.elim h
  | d + 1, h => ty_arrayf (g := fun b : GTable => GTable.cs b) Tryd.underlying30 (fun _ hx => ty_29 hx) h
set_option maxRecDepth 100000 in
theorem ty_31 {d : Nat} {cs : List AV} (h : Typed Tryd.prog d 31 cs) : ∃ x : Vector (Vector GTable 2) 3, cs = x.toList.flatMap (fun v : Vector GTable 2 => v.toList.flatMap GTable.cs) ∧ (okV (okV GTable.ok)) x := match d, h with
  | 0, h => False.elim h
  | d + 1, h => ty_arrayf (g := fun b : Vector GTable 2 => b.toList.flatMap GTable.cs) Tryd.underlying31 (fun _ hx => ty_30 hx) h
def GGrant.ok (x : GGrant) : Prop := okI x.From ∧ okI x.To ∧ okI x.Object ∧ okI x.Right ∧ okA x.Option_
set_option maxRecDepth 100000 in
theorem ty_47 {d : Nat} {cs : List AV} (h : Typed Tryd.prog d 47 cs) : ∃ x : GGrant, cs = GGrant.cs x ∧ GGrant.ok x := match d, h with
  | 0, h => False.elim h
  | d + 1, h => by
    obtain ⟨es, rfl, hl, hf⟩ := ty_struct Tryd.underlying47 h
    match es, hl, hf with
    | [e0, e1, e2, e3, e4], _, hf =>
    obtain ⟨x0, h0, q0⟩ := ty_3 (hf 0 _ e0 rfl rfl)
    obtain ⟨x1, h1, q1⟩ := ty_3 (hf 1 _ e1 rfl rfl)
    obtain ⟨x2, h2, q2⟩ := ty_3 (hf 2 _ e2 rfl rfl)
    obtain ⟨x3, h3, q3⟩ := ty_3 (hf 3 _ e3 rfl rfl)
    obtain ⟨x4, h4, q4⟩ := ty_4 (hf 4 _ e4 rfl rfl)
    refine ⟨⟨x0, x1, x2, x3, x4⟩, ?_, ⟨q0, q1, q2, q3, q4⟩⟩
    rw [h0, h1, h2, h3, h4]
    simp only [List.flatten_cons, List.flatten_nil, List.append_nil, GGrant.cs]
set_option maxRecDepth 100000 in
theorem ty_32 {d : Nat} {cs : List AV} (h : Typed Tryd.prog d 32 cs) : ∃ x : List GGrant, cs = [((fun q : List GGrant => AV.lst (q.flatMap GGrant.cs) q.length) x)] ∧ (okL 40 GGrant.ok) x := match d, h with
  | 0, h => False.elim h
  | d + 1, h => ty_slicef (g := fun b : GGrant => GGrant.cs b) Tryd.underlying32 (bytes_of in_47) (fun _ hx => ty_47 hx) h
set_option maxRecDepth 100000 in
theorem ty_33 {d : Nat} {cs : List AV} (h : Typed Tryd.prog d 33 cs) : ∃ x : Vector Int 3, cs = x.toList.map AV.int ∧ (okV okI) x := match d, h with
  | 0, h => False.elim h
  | d + 1, h => ty_array (f := AV.int) Tryd.underlying33 (fun _ hx => ty_3 hx) h
def GState.ok (x : GState) : Prop := (okV (okV GTable.ok)) x.Tables ∧ (okL 40 GGrant.ok) x.Grants ∧ (okV okI) x.Asked
set_option maxRecDepth 100000 in
theorem ty_35 {d : Nat} {cs : List AV} (h : Typed Tryd.prog d 35 cs) : ∃ x : GState, cs = GState.cs x ∧ GState.ok x := match d, h with
  | 0, h => False.elim h
  | d + 1, h => by
    obtain ⟨es, rfl, hl, hf⟩ := ty_struct Tryd.underlying35 h
    match es, hl, hf with
    | [e0, e1, e2], _, hf =>
    obtain ⟨x0, h0, q0⟩ := ty_31 (hf 0 _ e0 rfl rfl)
    obtain ⟨x1, h1, q1⟩ := ty_32 (hf 1 _ e1 rfl rfl)
    obtain ⟨x2, h2, q2⟩ := ty_33 (hf 2 _ e2 rfl rfl)
    refine ⟨⟨x0, x1, x2⟩, ?_, ⟨q0, q1, q2⟩⟩
    rw [h0, h1, h2]
    simp only [List.flatten_cons, List.flatten_nil, List.append_nil, GState.cs]

/-! chirographref.RowFault -/
def g_ref_RowFault_r15 : List (List (Nat × Option Nat)) := [[(7, none)], [(40, some 0)], [(1, none)], [(6, none)], [(42, some 2), (43, some 3)], [(44, some 4)], [(45, some 5)]]
def g_ref_RowFault_r15c : List (List Nat) := [[], [0], [], [], [2, 3], [2, 3, 4], [2, 3, 4, 5], [0, 1, 2, 3, 4, 5, 6]]
noncomputable def g_ref_RowFault_l0 (row0 : List GValue) (cols1 : List GColumn) : Int → Option (Int ⊕ (Int ⊕ Unit))
  | t21_0 => (if t21_0 < (row0.length : Int) then (show Option (Int ⊕ Unit) from if 0 ≤ t21_0 ∧ t21_0 < (row0.length : Int) then (g_ref_ValueFault (lrd row0 t21_0.toNat)).bind fun r'3 => (if r'3 ≠ (0 : Int) then some (.inl r'3) else (if (lrd row0 t21_0.toNat).Kind = (0 : Int) then if 0 ≤ t21_0 ∧ t21_0 < (cols1.length : Int) then (if (!((lrd cols1 t21_0.toNat).Null)) = true then some (.inl (12 : Int)) else some (.inr ())) else none else if 0 ≤ t21_0 ∧ t21_0 < (cols1.length : Int) then (if (lrd row0 t21_0.toNat).Kind ≠ (lrd cols1 t21_0.toNat).Kind then some (.inl (2 : Int)) else some (.inr ())) else none)) else none).bind fun o'5 => match o'5 with | .inl y'4 => some (.inr (.inl y'4)) | .inr j'2 => some (.inl (w64 (t21_0 + (1 : Int)))) else some (.inr (.inr ())))
noncomputable def g_ref_RowFault (row0 : List GValue) (cols1 : List GColumn) : Option (Int) :=
  (g_ref_ColumnsFault cols1).bind fun r'1 => (if r'1 ≠ (0 : Int) then some r'1 else (if (row0.length : Int) ≠ (cols1.length : Int) then some (1 : Int) else (loopO (g_ref_RowFault_l0 row0 cols1) (0 : Int)).bind fun o'9 => match o'9 with | .inl y'10 => some y'10 | .inr (y'11) => some (0 : Int)))
set_option maxHeartbeats 4000000 in
set_option maxRecDepth 100000 in
theorem g_ref_RowFault_ac {row0 : List GValue} {cols1 : List GColumn} {r : Int} (H : g_ref_RowFault row0 cols1 = some r) : ACp Tryd.prog 30 [((fun q : List GValue => AV.lst (q.flatMap GValue.cs) q.length) row0), ((fun q : List GColumn => AV.lst (q.flatMap GColumn.cs) q.length) cols1)] (AV.int r) := by
 refine ACp_of (AC2_of_body (vs := [.i r]) Tryd.func30 Y Y (Nat.le_of_ble_eq_true Y) Y ?_) (fun _ => .same _)
 unfold g_ref_RowFault at H
 refine as2 [(0, .p ((fun q : List GValue => AV.lst (q.flatMap GValue.cs) q.length) row0)), (1, .p ((fun q : List GColumn => AV.lst (q.flatMap GColumn.cs) q.length) cols1))] [] Y Y Y ?_
 refine sg [0] Y ?_
 refine rp Y Y (p_asg Y Y) ?_
 refine rz [(0, .p ((fun q : List GValue => AV.lst (q.flatMap GValue.cs) q.length) row0)), (1, .p ((fun q : List GColumn => AV.lst (q.flatMap GColumn.cs) q.length) cols1))] [] Y Y Y ?_
 refine AW2_seq ?_
 refine sg [0, 1, 2] Y ?_
 refine rp Y Y (p_move Y Y) ?_
 refine bindK H fun r'1 h1 H => ?_
 refine rp Y Y (p_callp Y Y Y Tryd.func29 Y Y (g_ref_ColumnsFault_ac h1) ⟨Y, trivial⟩) ?_
 refine rp Y Y (p_asg Y Y) ?_
 refine rz [(0, .p ((fun q : List GValue => AV.lst (q.flatMap GValue.cs) q.length) row0)), (1, .p ((fun q : List GColumn => AV.lst (q.flatMap GColumn.cs) q.length) cols1)), (5, .i r'1)] [] Y Y Y ?_
 refine sg [0, 1] Y ?_
 refine rp Y Y (p_move Y Y) ?_
 refine rp Y Y (p_ine Y Y Y) ?_
 refine rz [(0, .p ((fun q : List GValue => AV.lst (q.flatMap GValue.cs) q.length) row0)), (1, .p ((fun q : List GColumn => AV.lst (q.flatMap GColumn.cs) q.length) cols1)), (5, .i r'1), (12, .b (decide (r'1 ≠ (0 : Int))))] [] Y Y Y ?_
 refine AW2_if (p := r'1 ≠ (0 : Int)) Y (fun h2 => ?_) (fun h2 => ?_)
 ·replace H := ite_then h2 H
  refine sg [0, 1] Y ?_
  refine rp Y Y (p_move Y Y) ?_
  refine rp Y Y (p_asg Y Y) ?_
  refine rz [(4, .i r'1)] [] Y Y Y ?_
  refine AW2_ret ?_
  have hz := some_elim H
  subst hz
  exact ⟨⟨res_tmp (.same _), trivial⟩, trivial⟩
 ·replace H := ite_else h2 H
  refine as2 [(0, .p ((fun q : List GValue => AV.lst (q.flatMap GValue.cs) q.length) row0)), (1, .p ((fun q : List GColumn => AV.lst (q.flatMap GColumn.cs) q.length) cols1))] [] Y Y Y ?_
  refine AW2_skip ?_
  refine AW2_seq ?_
  refine sg [0, 1, 2, 3, 4] Y ?_
  refine rp Y Y (p_move Y Y) ?_
  refine rp Y Y (p_lenl Y Tryd.underlying23 Y Y) ?_
  refine rp Y Y (p_move Y Y) ?_
  refine rp Y Y (p_lenl Y Tryd.underlying22 Y Y) ?_
  refine rp Y Y (p_ine Y Y Y) ?_
  refine rz [(0, .p ((fun q : List GValue => AV.lst (q.flatMap GValue.cs) q.length) row0)), (1, .p ((fun q : List GColumn => AV.lst (q.flatMap GColumn.cs) q.length) cols1)), (18, .b (decide ((row0.length : Int) ≠ (cols1.length : Int))))] [] Y Y Y ?_
  refine AW2_if (p := (row0.length : Int) ≠ (cols1.length : Int)) Y (fun h3 => ?_) (fun h3 => ?_)
  ·replace H := ite_then h3 H
   refine sg [0] Y ?_
   refine rp Y Y (p_asg Y Y) ?_
   refine rz [(4, .i (1 : Int))] [] Y Y Y ?_
   refine AW2_ret ?_
   have hz := some_elim H
   subst hz
   exact ⟨⟨res_tmp (.same _), trivial⟩, trivial⟩
  ·replace H := ite_else h3 H
   refine as2 [(0, .p ((fun q : List GValue => AV.lst (q.flatMap GValue.cs) q.length) row0)), (1, .p ((fun q : List GColumn => AV.lst (q.flatMap GColumn.cs) q.length) cols1))] [] Y Y Y ?_
   refine AW2_skip ?_
   refine AW2_seq ?_
   refine sg [0, 1, 2] Y ?_
   refine rp Y Y (p_move Y Y) ?_
   refine rp Y Y (p_lenl Y Tryd.underlying23 Y Y) ?_
   refine rp Y Y (p_move Y Y) ?_
   refine rz [(1, .p ((fun q : List GColumn => AV.lst (q.flatMap GColumn.cs) q.length) cols1)), (19, .p ((fun q : List GValue => AV.lst (q.flatMap GValue.cs) q.length) row0)), (20, .i (row0.length : Int)), (21, .i (0 : Int))] [] Y Y Y ?_
   refine AW2_block ?_
   refine as2 [(1, .p ((fun q : List GColumn => AV.lst (q.flatMap GColumn.cs) q.length) cols1)), (19, .p ((fun q : List GValue => AV.lst (q.flatMap GValue.cs) q.length) row0)), (20, .i (row0.length : Int)), (21, .i (0 : Int))] [] Y Y Y ?_
   refine bindK H fun o'9 h14 H => ?_
   refine AW2_loopO (fun a'6 : Int => (⟨[(1, .p ((fun q : List GColumn => AV.lst (q.flatMap GColumn.cs) q.length) cols1)), (19, .p ((fun q : List GValue => AV.lst (q.flatMap GValue.cs) q.length) row0)), (20, .i (row0.length : Int)), (21, .i a'6)], [], 49⟩ : TS)) (fun (o : Int ⊕ Unit) e s' => match o with | .inl y'7 => e = Go.Exit.ret ∧ ResAll Tryd.prog s' [ResultVar.tmp 4] [.i y'7] ∧ HFits s' [] | .inr (y'8) => e = Go.Exit.exit 0 ∧ s' = (⟨[], [], 49⟩ : TS)) h14 Y (fun t21_0 x hx => ?_) (fun e s' hs => ?_)
   ·clear H
    have H := hx
    clear hx
    unfold g_ref_RowFault_l0 at H
    refine sg [0] Y ?_
    refine rp Y Y (p_bin Y Y Y Y) ?_
    refine rz [(1, .p ((fun q : List GColumn => AV.lst (q.flatMap GColumn.cs) q.length) cols1)), (19, .p ((fun q : List GValue => AV.lst (q.flatMap GValue.cs) q.length) row0)), (20, .i (row0.length : Int)), (21, .i t21_0), (22, .b (decide (t21_0 < (row0.length : Int))))] [] Y Y Y ?_
    refine AW2_seq ?_
    refine AW2_if (p := t21_0 < (row0.length : Int)) Y (fun h4 => ?_) (fun h4 => ?_)
    ·replace H := ite_then h4 H
     refine as2 [(1, .p ((fun q : List GColumn => AV.lst (q.flatMap GColumn.cs) q.length) cols1)), (19, .p ((fun q : List GValue => AV.lst (q.flatMap GValue.cs) q.length) row0)), (20, .i (row0.length : Int)), (21, .i t21_0)] [] Y Y Y ?_
     refine AW2_skip ?_
     refine AW2_seq ?_
     refine bindK H fun o'5 h5 H => ?_
     refine AW2_join (fun j'2 : Unit => (⟨[(1, .p ((fun q : List GColumn => AV.lst (q.flatMap GColumn.cs) q.length) cols1)), (19, .p ((fun q : List GValue => AV.lst (q.flatMap GValue.cs) q.length) row0)), (20, .i (row0.length : Int)), (21, .i t21_0)], [], 49⟩ : TS)) (fun r e s' => e = Go.Exit.ret ∧ ResAll Tryd.prog s' [ResultVar.tmp 4] [.i r] ∧ HFits s' []) (x := o'5) ?_ (fun j'2 hy => ?_) (fun y'4 e s' hy hs => ?_)
     ·clear H
      have H := h5
      clear h5
      refine AW2_block ?_
      refine sg [0, 1, 2, 3, 4, 5] Y ?_
      refine rp Y Y (p_move Y Y) ?_
      refine chkK H fun h6 H => ?_
      refine rp Y Y (u_ixl Y Y Tryd.underlying23 in_71 Y Y (ixe h6) (ixn h6) (fne (fun x => (GValue.len x)) (by decide) (ixn h6))) ?_
      refine rp Y Y (u_lda Y Y Tryd.underlying71 Y in_71 Y (Nat.succ_pos _) (Sub.fm default (fun x => (GValue.len x)) (ixn h6)) (GValue.len (lrd row0 t21_0.toNat))) ?_
      refine r_op Y Y (MakeD.opD (u_alloc 7 Y in_71 one_71 zc_71) Y Y Y Y) ?_
      refine rp Y Y (p_asg Y Y) ?_
      refine r_op Y Y (u_st Y Y Y Y Y in_71 (GValue.len (lrd row0 t21_0.toNat)) (nl (GValue.len GValue.zero)) (Upd.refl ((GValue.len (lrd row0 t21_0.toNat)).trans (GValue.len GValue.zero).symm))) ?_
      refine rz [(1, .p ((fun q : List GColumn => AV.lst (q.flatMap GColumn.cs) q.length) cols1)), (6, .i t21_0), (7, .q 7 (0)), (19, .p ((fun q : List GValue => AV.lst (q.flatMap GValue.cs) q.length) row0)), (20, .i (row0.length : Int)), (21, .i t21_0)] [(7, .pure (GValue.cs (lrd row0 t21_0.toNat)))] Y Y Y ?_
      refine AW2_seq ?_
      refine sg [0, 1, 2] Y ?_
      refine rp Y Y (u_lda Y Y Tryd.underlying71 Y in_71 Y (Nat.succ_pos _) (Sub.refl _) (GValue.len (lrd row0 t21_0.toNat))) ?_
      refine bindK H fun r'3 h7 H => ?_
      refine rp Y Y (p_callp Y Y Y Tryd.func48 Y Y (g_ref_ValueFault_ac h7) ⟨Y, trivial⟩) ?_
      refine rp Y Y (p_asg Y Y) ?_
      refine rz [(1, .p ((fun q : List GColumn => AV.lst (q.flatMap GColumn.cs) q.length) cols1)), (6, .i t21_0), (7, .q 7 (0)), (8, .i r'3), (19, .p ((fun q : List GValue => AV.lst (q.flatMap GValue.cs) q.length) row0)), (20, .i (row0.length : Int)), (21, .i t21_0)] [(7, .pure (GValue.cs (lrd row0 t21_0.toNat)))] Y Y Y ?_
      refine sg [0, 1] Y ?_
      refine rp Y Y (p_move Y Y) ?_
      refine rp Y Y (p_ine Y Y Y) ?_
      refine rz [(1, .p ((fun q : List GColumn => AV.lst (q.flatMap GColumn.cs) q.length) cols1)), (6, .i t21_0), (7, .q 7 (0)), (8, .i r'3), (19, .p ((fun q : List GValue => AV.lst (q.flatMap GValue.cs) q.length) row0)), (20, .i (row0.length : Int)), (21, .i t21_0), (29, .b (decide (r'3 ≠ (0 : Int))))] [(7, .pure (GValue.cs (lrd row0 t21_0.toNat)))] Y Y Y ?_
      refine AW2_if (p := r'3 ≠ (0 : Int)) Y (fun h8 => ?_) (fun h8 => ?_)
      ·replace H := ite_then h8 H
       refine sg [0, 1] Y ?_
       refine rp Y Y (p_move Y Y) ?_
       refine rp Y Y (p_asg Y Y) ?_
       refine rz [(4, .i r'3)] [] Y Y Y ?_
       refine AW2_ret ?_
       have hz := some_elim H
       subst hz
       exact ⟨Y, ⟨res_tmp (.same _), trivial⟩, trivial⟩
      ·replace H := ite_else h8 H
       refine as2 [(1, .p ((fun q : List GColumn => AV.lst (q.flatMap GColumn.cs) q.length) cols1)), (6, .i t21_0), (7, .q 7 (0)), (19, .p ((fun q : List GValue => AV.lst (q.flatMap GValue.cs) q.length) row0)), (20, .i (row0.length : Int)), (21, .i t21_0)] [(7, .pure (GValue.cs (lrd row0 t21_0.toNat)))] Y Y Y ?_
       refine AW2_skip ?_
       refine sg [0, 1, 2] Y ?_
       refine rp Y Y (u_fa Y Y Tryd.underlying71 Y in_3 nz Y Y (nl (GValue.len (lrd row0 t21_0.toNat)))) ?_
       refine rp Y Y (u_ld Y Y Tryd.underlying3 Y Y ((Sub.refl _).trans (GValue.sub0 (lrd row0 t21_0.toNat)))) ?_
       refine rp Y Y (p_ieq Y Y Y) ?_
       refine rz [(1, .p ((fun q : List GColumn => AV.lst (q.flatMap GColumn.cs) q.length) cols1)), (6, .i t21_0), (7, .q 7 (0)), (19, .p ((fun q : List GValue => AV.lst (q.flatMap GValue.cs) q.length) row0)), (20, .i (row0.length : Int)), (21, .i t21_0), (33, .b (decide ((lrd row0 t21_0.toNat).Kind = (0 : Int))))] [(7, .pure (GValue.cs (lrd row0 t21_0.toNat)))] Y Y Y ?_
       refine AW2_if (p := (lrd row0 t21_0.toNat).Kind = (0 : Int)) Y (fun h9 => ?_) (fun h9 => ?_)
       ·replace H := ite_then h9 H
        refine sg [0, 1, 2, 3, 4, 5] Y ?_
        refine rp Y Y (p_move Y Y) ?_
        refine rp Y Y (p_move Y Y) ?_
        refine chkK H fun h10 H => ?_
        refine rp Y Y (u_ixl Y Y Tryd.underlying22 in_55 Y Y (ixe h10) (ixn h10) (fne (fun x => (GColumn.len x)) (by decide) (ixn h10))) ?_
        refine rp Y Y (u_far Y Y Tryd.underlying55 Y in_4 nz Y) ?_
        refine rp Y Y (u_ld Y Y Tryd.underlying4 Y Y ((Sub.fm default (fun x => (GColumn.len x)) (ixn h10)).trans (GColumn.sub2 (lrd cols1 t21_0.toNat)))) ?_
        refine rp Y Y (p_not Y Y) ?_
        refine rz [(1, .p ((fun q : List GColumn => AV.lst (q.flatMap GColumn.cs) q.length) cols1)), (19, .p ((fun q : List GValue => AV.lst (q.flatMap GValue.cs) q.length) row0)), (20, .i (row0.length : Int)), (21, .i t21_0), (39, .b (!((lrd cols1 t21_0.toNat).Null)))] [] Y Y Y ?_
        refine AW2_cond Y (fun h11 => ?_) (fun h11 => ?_)
        ·replace H := ite_then h11 H
         refine sg [0] Y ?_
         refine rp Y Y (p_asg Y Y) ?_
         refine rz [(4, .i (12 : Int))] [] Y Y Y ?_
         refine AW2_ret ?_
         have hz := some_elim H
         subst hz
         exact ⟨Y, ⟨res_tmp (.same _), trivial⟩, trivial⟩
        ·replace H := ite_else (ne_true h11) H
         refine as2 [(1, .p ((fun q : List GColumn => AV.lst (q.flatMap GColumn.cs) q.length) cols1)), (19, .p ((fun q : List GValue => AV.lst (q.flatMap GValue.cs) q.length) row0)), (20, .i (row0.length : Int)), (21, .i t21_0)] [] Y Y Y ?_
         refine AW2_skip ?_
         have hz := some_elim H
         subst hz
         exact ⟨Y, Y⟩
       ·replace H := ite_else h9 H
        refine AW2_seq ?_
        refine chkK H fun h12 H => ?_
        refine AW2_ghoQ ?_
        refine AW2_draw 7 [7] (fun k => ([.q 7 (0 + 0), .i ((lrd row0 t21_0.toNat).Kind), .p ((fun q : List GColumn => AV.lst (q.flatMap GColumn.cs) q.length) cols1), .i t21_0, .p (.rptr (cols1.flatMap GColumn.cs) (t21_0.toNat * 3)), .p (.rptr (cols1.flatMap GColumn.cs) (t21_0.toNat * 3 + 1)), .i ((lrd cols1 t21_0.toNat).Kind)] : List TV).getD k TV.any) (fun k => g_ref_RowFault_r15.getD k []) [(1, none), (19, none), (20, none), (21, none), (41, some 1), (46, some 6)] [] (fun k => g_ref_RowFault_r15c.getD k []) mixed (by kernel_rfl) Y Y (a_op (g_x Y (x_p Y (u_fa Y Y Tryd.underlying71 Y in_3 nz Y Y (nl (GValue.len (lrd row0 t21_0.toNat)))) Y)) (a_op (g_x Y (x_p Y (u_ld Y Y Tryd.underlying3 Y Y ((Sub.refl _).trans (GValue.sub0 (lrd row0 t21_0.toNat)))) Y)) (a_op (g_x Y (x_p Y (p_move Y Y) Y)) (a_op (g_x Y (x_p Y (p_move Y Y) Y)) (a_op (g_x Y (x_p Y (u_ixl Y Y Tryd.underlying22 in_55 Y Y (ixe h12) (ixn h12) (fne (fun x => (GColumn.len x)) (by decide) (ixn h12))) Y)) (a_op (g_x Y (x_p Y (u_far Y Y Tryd.underlying55 Y in_3 nz Y) Y)) (a_op (g_x Y (x_p Y (u_ld Y Y Tryd.underlying3 Y Y ((Sub.fm default (fun x => (GColumn.len x)) (ixn h12)).trans (GColumn.sub1 (lrd cols1 t21_0.toNat)))) Y)) (a_nil)))))))) ?_
        refine t_op Y Y (PureD.opD (p_ine Y Y Y)) ?_
        refine t_gho (Gho_st (L := [(1, .p ((fun q : List GColumn => AV.lst (q.flatMap GColumn.cs) q.length) cols1)), (19, .p ((fun q : List GValue => AV.lst (q.flatMap GValue.cs) q.length) row0)), (20, .i (row0.length : Int)), (21, .i t21_0), (47, .b (decide ((lrd row0 t21_0.toNat).Kind ≠ (lrd cols1 t21_0.toNat).Kind)))]) (H := []) (N := 49) Y ⟨TLes.same _, TLes.same _, TLes.same _, TLes.same _, TLes.same _, trivial⟩ trivial) ?_
        refine AW2_if (p := (lrd row0 t21_0.toNat).Kind ≠ (lrd cols1 t21_0.toNat).Kind) Y (fun h13 => ?_) (fun h13 => ?_)
        ·replace H := ite_then h13 H
         refine sg [0] Y ?_
         refine rp Y Y (p_asg Y Y) ?_
         refine rz [(4, .i (2 : Int))] [] Y Y Y ?_
         refine AW2_ret ?_
         have hz := some_elim H
         subst hz
         exact ⟨Y, ⟨res_tmp (.same _), trivial⟩, trivial⟩
        ·replace H := ite_else h13 H
         refine as2 [(1, .p ((fun q : List GColumn => AV.lst (q.flatMap GColumn.cs) q.length) cols1)), (19, .p ((fun q : List GValue => AV.lst (q.flatMap GValue.cs) q.length) row0)), (20, .i (row0.length : Int)), (21, .i t21_0)] [] Y Y Y ?_
         refine AW2_skip ?_
         have hz := some_elim H
         subst hz
         exact ⟨Y, Y⟩
     ·subst hy
      refine AW2_reg [0, 1] Y ?_
      refine rp Y Y (p_bin Y Y Y Y) ?_
      refine rp Y Y (p_move Y Y) ?_
      refine rz [(1, .p ((fun q : List GColumn => AV.lst (q.flatMap GColumn.cs) q.length) cols1)), (19, .p ((fun q : List GValue => AV.lst (q.flatMap GValue.cs) q.length) row0)), (20, .i (row0.length : Int)), (21, .i (w64 (t21_0 + (1 : Int))))] [] Y Y Y ?_
      have hz := some_elim H
      subst hz
      exact ⟨Y, Y⟩
     ·subst hy
      obtain ⟨rfl, hs⟩ := hs
      have hz := some_elim H
      subst hz
      exact ⟨Y, hs.1, hs.2⟩
    ·replace H := ite_else h4 H
     refine as2 [] [] Y Y Y ?_
     refine AW2_exit ?_
     refine thenQ2_exit ?_
     have hz := some_elim H
     subst hz
     exact ⟨Y, Y⟩
   ·rcases o'9 with y'10 | y'11
    ·obtain ⟨rfl, hs⟩ := hs
     refine ⟨by simp, ?_⟩
     have hz := some_elim H
     subst hz
     exact ⟨hs.1, hs.2⟩
    ·obtain ⟨rfl, rfl⟩ := hs
     refine ⟨by simp, ?_⟩
     refine blockQ2_exit ?_
     refine sg [0] Y ?_
     refine rp Y Y (p_asg Y Y) ?_
     refine rz [(4, .i (0 : Int))] [] Y Y Y ?_
     refine AW2_ret ?_
     have hz := some_elim H
     subst hz
     exact ⟨⟨res_tmp (.same _), trivial⟩, trivial⟩

/-! chirographref.keysFault -/
noncomputable def g_ref_keysFault_l1 (d0 : Vector GCell 4) (t9_0 : Int) (seen3_0 : List Int) : Int → Option (Int ⊕ (Int ⊕ Unit))
  | t17_1 => (if t17_1 < (seen3_0.length : Int) then if 0 ≤ t17_1 ∧ t17_1 < (seen3_0.length : Int) then if 0 < ((vrd d0 t9_0.toNat).Row).length then (if (lrd seen3_0 t17_1.toNat) = (lrd ((vrd d0 t9_0.toNat).Row) 0).Int_ then some (.inr (.inl (8 : Int))) else some (.inl (w64 (t17_1 + (1 : Int))))) else none else none else some (.inr (.inr ())))
noncomputable def g_ref_keysFault_l0 (d0 : Vector GCell 4) : Int × (List Int) → Option ((Int × (List Int)) ⊕ (Int ⊕ Unit))
  | (t9_0, seen3_0) => (if t9_0 < (4 : Int) then (show Option (Int ⊕ ((List Int))) from if 0 ≤ t9_0 ∧ t9_0 < (4 : Int) then (if (!((vrd d0 t9_0.toNat).Full)) = true then some (.inr seen3_0) else (loopO (g_ref_keysFault_l1 d0 t9_0 seen3_0) (0 : Int)).bind fun o'5 => match o'5 with | .inl y'6 => some (.inl y'6) | .inr (y'7) => if 0 < ((vrd d0 t9_0.toNat).Row).length then if room (seen3_0.length + ([(lrd ((vrd d0 t9_0.toNat).Row) 0).Int_] : List Int).length) 8 then some (.inr (seen3_0 ++ ([(lrd ((vrd d0 t9_0.toNat).Row) 0).Int_] : List Int))) else none else none) else none).bind fun o'9 => match o'9 with | .inl y'8 => some (.inr (.inl y'8)) | .inr j'1 => some (.inl (w64 (t9_0 + (1 : Int)), j'1)) else some (.inr (.inr ())))
noncomputable def g_ref_keysFault (d0 : Vector GCell 4) : Option (Int) :=
  (loopO (g_ref_keysFault_l0 d0) ((0 : Int), ([] : List Int))).bind fun o'13 => match o'13 with | .inl y'14 => some y'14 | .inr (y'15) => some (0 : Int)
set_option maxHeartbeats 4000000 in
set_option maxRecDepth 100000 in
theorem g_ref_keysFault_ac {d0 : Vector GCell 4} {r : Int} (H : g_ref_keysFault d0 = some r) : ACp Tryd.prog 31 [(.agg (d0.toList.flatMap GCell.cs))] (AV.int r) := by
 refine ACp_of (AC2_of_body (vs := [.i r]) Tryd.func31 Y Y (Nat.le_of_ble_eq_true Y) Y ?_) (fun _ => .same _)
 unfold g_ref_keysFault at H
 refine as2 [(0, .g (d0.toList.flatMap GCell.cs))] [] Y Y Y ?_
 refine sg [0, 1] Y ?_
 refine r_op Y Y (MakeD.opD (n_box 1 Y Y) Y Y Y Y) ?_
 refine rp Y Y (p_asg Y Y) ?_
 refine rz [(1, .q 1 (0))] [(1, .pure (d0.toList.flatMap GCell.cs))] Y Y Y ?_
 refine sg [0] Y ?_
 refine rp Y Y (p_asgn Y) ?_
 refine rz [(1, .q 1 (0)), (3, .p .nil)] [(1, .pure (d0.toList.flatMap GCell.cs))] Y Y Y ?_
 refine AW2_seq ?_
 refine sg [0, 1] Y ?_
 refine rp Y Y (u_lda Y Y Tryd.underlying26 Y in_26 Y (Nat.succ_pos _) (Sub.refl _) (vfm_len (fun x => (GCell.len x)) d0)) ?_
 refine rp Y Y (p_move Y Y) ?_
 refine rz [(3, .p .nil), (8, .g (d0.toList.flatMap GCell.cs)), (9, .i (0 : Int))] [] Y Y Y ?_
 refine AW2_block ?_
 refine as2 [(3, .p .nil), (8, .g (d0.toList.flatMap GCell.cs)), (9, .i (0 : Int))] [] Y Y Y ?_
 refine AW2_gho (Gho_own (d := 3) (b := 3) (z := 1) Y Y Y Y) ?_
 refine AW2_st [(3, .c (.own 3 ([] : List Int).length 1)), (8, .g (d0.toList.flatMap GCell.cs)), (9, .i (0 : Int))] [(3, .pure (([] : List Int).map AV.int))] Y ⟨TLes.own Y, TLes.same _, TLes.same _, trivial⟩ ⟨Y, trivial⟩ ?_
 refine bindK H fun o'13 h12 H => ?_
 refine AW2_loopO (fun a'10 : Int × (List Int) => (⟨[(3, .c (.own 3 a'10.2.length 1)), (8, .g (d0.toList.flatMap GCell.cs)), (9, .i a'10.1)], [(3, .pure (a'10.2.map AV.int))], 38⟩ : TS)) (fun (o : Int ⊕ Unit) e s' => match o with | .inl y'11 => e = Go.Exit.ret ∧ ResAll Tryd.prog s' [ResultVar.tmp 2] [.i y'11] ∧ HFits s' [] | .inr (y'12) => e = Go.Exit.exit 0 ∧ s' = (⟨[], [], 38⟩ : TS)) h12 Y (fun a x hx => ?_) (fun e s' hs => ?_)
 ·clear H
  obtain ⟨t9_0, seen3_0⟩ := a
  have H := hx
  clear hx
  unfold g_ref_keysFault_l0 at H
  refine sg [0] Y ?_
  refine rp Y Y (p_bin Y Y Y Y) ?_
  refine rz [(3, .c (.own 3 seen3_0.length 1)), (8, .g (d0.toList.flatMap GCell.cs)), (9, .i t9_0), (10, .b (decide (t9_0 < (4 : Int))))] [(3, .pure (seen3_0.map AV.int))] Y Y Y ?_
  refine AW2_seq ?_
  refine AW2_if (p := t9_0 < (4 : Int)) Y (fun h1 => ?_) (fun h1 => ?_)
  ·replace H := ite_then h1 H
   refine as2 [(3, .c (.own 3 seen3_0.length 1)), (8, .g (d0.toList.flatMap GCell.cs)), (9, .i t9_0)] [(3, .pure (seen3_0.map AV.int))] Y Y Y ?_
   refine AW2_skip ?_
   refine AW2_seq ?_
   refine bindK H fun o'9 h2 H => ?_
   refine AW2_join (fun j'1 : (List Int) => (⟨[(3, .c (.own 3 j'1.length 1)), (8, .g (d0.toList.flatMap GCell.cs)), (9, .i t9_0)], [(3, .pure (j'1.map AV.int))], 38⟩ : TS)) (fun r e s' => e = Go.Exit.ret ∧ ResAll Tryd.prog s' [ResultVar.tmp 2] [.i r] ∧ HFits s' []) (x := o'9) ?_ (fun j'1 hy => ?_) (fun y'8 e s' hy hs => ?_)
   ·clear H
    have H := h2
    clear h2
    refine AW2_block ?_
    refine sg [0, 1, 2] Y ?_
    refine chkK H fun h3 H => ?_
    refine rp Y Y (u_ixaa Y Y Tryd.underlying26 in_25 Tryd.underlying25 Y Y Y (ixe h3) (ixn h3) (Sub.vfm (fun x => (GCell.len x)) (ixn h3)) (GCell.len (vrd d0 t9_0.toNat))) ?_
    refine r_op Y Y (MakeD.opD (u_alloc 5 Y in_25 one_25 zc_25) Y Y Y Y) ?_
    refine r_op Y Y (u_st Y Y Y Y Y in_25 (GCell.len (vrd d0 t9_0.toNat)) (nl (GCell.len GCell.zero)) (Upd.refl ((GCell.len (vrd d0 t9_0.toNat)).trans (GCell.len GCell.zero).symm))) ?_
    refine rz [(3, .c (.own 3 seen3_0.length 1)), (5, .q 5 (0)), (8, .g (d0.toList.flatMap GCell.cs)), (9, .i t9_0)] [(3, .pure (seen3_0.map AV.int)), (5, .pure (GCell.cs (vrd d0 t9_0.toNat)))] Y Y Y ?_
    refine AW2_seq ?_
    refine sg [0, 1, 2] Y ?_
    refine rp Y Y (u_fa Y Y Tryd.underlying25 Y in_4 nz Y Y (nl (GCell.len (vrd d0 t9_0.toNat)))) ?_
    refine rp Y Y (u_ld Y Y Tryd.underlying4 Y Y ((Sub.refl _).trans (GCell.sub0 (vrd d0 t9_0.toNat)))) ?_
    refine rp Y Y (p_not Y Y) ?_
    refine rz [(3, .c (.own 3 seen3_0.length 1)), (5, .q 5 (0)), (8, .g (d0.toList.flatMap GCell.cs)), (9, .i t9_0), (14, .b (!((vrd d0 t9_0.toNat).Full)))] [(3, .pure (seen3_0.map AV.int)), (5, .pure (GCell.cs (vrd d0 t9_0.toNat)))] Y Y Y ?_
    refine AW2_cond Y (fun h4 => ?_) (fun h4 => ?_)
    ·replace H := ite_then h4 H
     refine as2 [(3, .c (.own 3 seen3_0.length 1)), (8, .g (d0.toList.flatMap GCell.cs)), (9, .i t9_0)] [(3, .pure (seen3_0.map AV.int))] Y Y Y ?_
     refine AW2_exit ?_
     refine thenQ2_exit ?_
     refine blockQ2_exit ?_
     have hz := some_elim H
     subst hz
     exact ⟨Y, Y⟩
    ·replace H := ite_else (ne_true h4) H
     refine as2 [(3, .c (.own 3 seen3_0.length 1)), (5, .q 5 (0)), (8, .g (d0.toList.flatMap GCell.cs)), (9, .i t9_0)] [(3, .pure (seen3_0.map AV.int)), (5, .pure (GCell.cs (vrd d0 t9_0.toNat)))] Y Y Y ?_
     refine AW2_skip ?_
     refine AW2_seq ?_
     refine sg [0, 1, 2] Y ?_
     refine rp Y Y (p_move Y Y) ?_
     refine rp Y Y (p_leno Y Tryd.underlying74 Y Y Y (ml AV.int seen3_0) (by decide)) ?_
     refine rp Y Y (p_move Y Y) ?_
     refine rz [(3, .c (.own 3 seen3_0.length 1)), (5, .q 5 (0)), (8, .g (d0.toList.flatMap GCell.cs)), (9, .i t9_0), (15, .c (.own 3 seen3_0.length 1)), (16, .i (seen3_0.length : Int)), (17, .i (0 : Int))] [(3, .pure (seen3_0.map AV.int)), (5, .pure (GCell.cs (vrd d0 t9_0.toNat)))] Y Y Y ?_
     refine AW2_block ?_
     refine as2 [(3, .c (.own 3 seen3_0.length 1)), (5, .q 5 (0)), (8, .g (d0.toList.flatMap GCell.cs)), (9, .i t9_0), (15, .c (.own 3 seen3_0.length 1)), (16, .i (seen3_0.length : Int)), (17, .i (0 : Int))] [(3, .pure (seen3_0.map AV.int)), (5, .pure (GCell.cs (vrd d0 t9_0.toNat)))] Y Y Y ?_
     refine bindK H fun o'5 h9 H => ?_
     refine AW2_loopO (fun a'2 : Int => (⟨[(3, .c (.own 3 seen3_0.length 1)), (5, .q 5 (0)), (8, .g (d0.toList.flatMap GCell.cs)), (9, .i t9_0), (15, .c (.own 3 seen3_0.length 1)), (16, .i (seen3_0.length : Int)), (17, .i a'2)], [(3, .pure (seen3_0.map AV.int)), (5, .pure (GCell.cs (vrd d0 t9_0.toNat)))], 38⟩ : TS)) (fun (o : Int ⊕ Unit) e s' => match o with | .inl y'3 => e = Go.Exit.ret ∧ ResAll Tryd.prog s' [ResultVar.tmp 2] [.i y'3] ∧ HFits s' [] | .inr (y'4) => e = Go.Exit.exit 2 ∧ s' = (⟨[(3, .c (.own 3 seen3_0.length 1)), (5, .q 5 (0)), (8, .g (d0.toList.flatMap GCell.cs)), (9, .i t9_0)], [(3, .pure (seen3_0.map AV.int)), (5, .pure (GCell.cs (vrd d0 t9_0.toNat)))], 38⟩ : TS)) h9 Y (fun t17_1 x hx => ?_) (fun e s' hs => ?_)
     ·clear H
      have H := hx
      clear hx
      unfold g_ref_keysFault_l1 at H
      refine sg [0] Y ?_
      refine rp Y Y (p_bin Y Y Y Y) ?_
      refine rz [(3, .c (.own 3 seen3_0.length 1)), (5, .q 5 (0)), (8, .g (d0.toList.flatMap GCell.cs)), (9, .i t9_0), (15, .c (.own 3 seen3_0.length 1)), (16, .i (seen3_0.length : Int)), (17, .i t17_1), (18, .b (decide (t17_1 < (seen3_0.length : Int))))] [(3, .pure (seen3_0.map AV.int)), (5, .pure (GCell.cs (vrd d0 t9_0.toNat)))] Y Y Y ?_
      refine AW2_seq ?_
      refine AW2_if (p := t17_1 < (seen3_0.length : Int)) Y (fun h5 => ?_) (fun h5 => ?_)
      ·replace H := ite_then h5 H
       refine as2 [(3, .c (.own 3 seen3_0.length 1)), (5, .q 5 (0)), (8, .g (d0.toList.flatMap GCell.cs)), (9, .i t9_0), (15, .c (.own 3 seen3_0.length 1)), (16, .i (seen3_0.length : Int)), (17, .i t17_1)] [(3, .pure (seen3_0.map AV.int)), (5, .pure (GCell.cs (vrd d0 t9_0.toNat)))] Y Y Y ?_
       refine AW2_skip ?_
       refine AW2_seq ?_
       refine AW2_block ?_
       refine sg [0, 1, 2] Y ?_
       refine chkK H fun h6 H => ?_
       refine rp Y Y (u_ixo Y Y Tryd.underlying74 in_3 Y Y (lne (ixn h6)) Y (ixe h6) (ixn h6)) ?_
       refine rp Y Y (u_ld Y Y Tryd.underlying3 Y Y ((Sub.refl _).trans (Sub.map default (ixn h6)))) ?_
       refine rp Y Y (p_asg Y Y) ?_
       refine rz [(3, .c (.own 3 seen3_0.length 1)), (5, .q 5 (0)), (7, .i (lrd seen3_0 t17_1.toNat)), (8, .g (d0.toList.flatMap GCell.cs)), (9, .i t9_0), (15, .c (.own 3 seen3_0.length 1)), (16, .i (seen3_0.length : Int)), (17, .i t17_1)] [(3, .pure (seen3_0.map AV.int)), (5, .pure (GCell.cs (vrd d0 t9_0.toNat)))] Y Y Y ?_
       refine sg [0, 1, 2, 3, 4, 5, 6] Y ?_
       refine rp Y Y (p_move Y Y) ?_
       refine rp Y Y (u_fa Y Y Tryd.underlying25 Y in_23 nz Y Y (nl (GCell.len (vrd d0 t9_0.toNat)))) ?_
       refine rp Y Y (u_ld Y Y Tryd.underlying23 Y Y ((Sub.refl _).trans (GCell.sub1 (vrd d0 t9_0.toNat)))) ?_
       refine chkK H fun h7 H => ?_
       refine rp Y Y (u_ixl Y Y Tryd.underlying23 in_71 Y Y Y h7 (fne (fun x => (GValue.len x)) (by decide) h7)) ?_
       refine rp Y Y (u_far Y Y Tryd.underlying71 Y in_3 nz Y) ?_
       refine rp Y Y (u_ld Y Y Tryd.underlying3 Y Y ((Sub.fm default (fun x => (GValue.len x)) h7).trans (GValue.sub1 (lrd ((vrd d0 t9_0.toNat).Row) 0)))) ?_
       refine rp Y Y (p_ieq Y Y Y) ?_
       refine rz [(3, .c (.own 3 seen3_0.length 1)), (5, .q 5 (0)), (8, .g (d0.toList.flatMap GCell.cs)), (9, .i t9_0), (15, .c (.own 3 seen3_0.length 1)), (16, .i (seen3_0.length : Int)), (17, .i t17_1), (27, .b (decide ((lrd seen3_0 t17_1.toNat) = (lrd ((vrd d0 t9_0.toNat).Row) 0).Int_)))] [(3, .pure (seen3_0.map AV.int)), (5, .pure (GCell.cs (vrd d0 t9_0.toNat)))] Y Y Y ?_
       refine AW2_if (p := (lrd seen3_0 t17_1.toNat) = (lrd ((vrd d0 t9_0.toNat).Row) 0).Int_) Y (fun h8 => ?_) (fun h8 => ?_)
       ·replace H := ite_then h8 H
        refine sg [0] Y ?_
        refine rp Y Y (p_asg Y Y) ?_
        refine rz [(2, .i (8 : Int))] [] Y Y Y ?_
        refine AW2_ret ?_
        have hz := some_elim H
        subst hz
        exact ⟨Y, ⟨res_tmp (.same _), trivial⟩, trivial⟩
       ·replace H := ite_else h8 H
        refine as2 [(3, .c (.own 3 seen3_0.length 1)), (5, .q 5 (0)), (8, .g (d0.toList.flatMap GCell.cs)), (9, .i t9_0), (15, .c (.own 3 seen3_0.length 1)), (16, .i (seen3_0.length : Int)), (17, .i t17_1)] [(3, .pure (seen3_0.map AV.int)), (5, .pure (GCell.cs (vrd d0 t9_0.toNat)))] Y Y Y ?_
        refine AW2_skip ?_
        refine AW2_reg [0, 1] Y ?_
        refine rp Y Y (p_bin Y Y Y Y) ?_
        refine rp Y Y (p_move Y Y) ?_
        refine rz [(3, .c (.own 3 seen3_0.length 1)), (5, .q 5 (0)), (8, .g (d0.toList.flatMap GCell.cs)), (9, .i t9_0), (15, .c (.own 3 seen3_0.length 1)), (16, .i (seen3_0.length : Int)), (17, .i (w64 (t17_1 + (1 : Int))))] [(3, .pure (seen3_0.map AV.int)), (5, .pure (GCell.cs (vrd d0 t9_0.toNat)))] Y Y Y ?_
        have hz := some_elim H
        subst hz
        exact ⟨Y, Y⟩
      ·replace H := ite_else h5 H
       refine as2 [(3, .c (.own 3 seen3_0.length 1)), (5, .q 5 (0)), (8, .g (d0.toList.flatMap GCell.cs)), (9, .i t9_0)] [(3, .pure (seen3_0.map AV.int)), (5, .pure (GCell.cs (vrd d0 t9_0.toNat)))] Y Y Y ?_
       refine AW2_exit ?_
       refine thenQ2_exit ?_
       have hz := some_elim H
       subst hz
       exact ⟨Y, Y⟩
     ·rcases o'5 with y'6 | y'7
      ·obtain ⟨rfl, hs⟩ := hs
       refine ⟨by simp, ?_⟩
       have hz := some_elim H
       subst hz
       exact ⟨Y, hs.1, hs.2⟩
      ·obtain ⟨rfl, rfl⟩ := hs
       refine ⟨by simp, ?_⟩
       refine blockQ2_exit ?_
       refine AW2_reg [0, 1, 2, 3, 4, 5, 6, 7, 8] Y ?_
       refine rp Y Y (p_move Y Y) ?_
       refine rp Y Y (u_fa Y Y Tryd.underlying25 Y in_23 nz Y Y (nl (GCell.len (vrd d0 t9_0.toNat)))) ?_
       refine rp Y Y (u_ld Y Y Tryd.underlying23 Y Y ((Sub.refl _).trans (GCell.sub1 (vrd d0 t9_0.toNat)))) ?_
       refine chkK H fun h10 H => ?_
       refine rp Y Y (u_ixl Y Y Tryd.underlying23 in_71 Y Y Y h10 (fne (fun x => (GValue.len x)) (by decide) h10)) ?_
       refine rp Y Y (u_far Y Y Tryd.underlying71 Y in_3 nz Y) ?_
       refine rp Y Y (u_ld Y Y Tryd.underlying3 Y Y ((Sub.fm default (fun x => (GValue.len x)) h10).trans (GValue.sub1 (lrd ((vrd d0 t9_0.toNat).Row) 0)))) ?_
       refine r_op Y Y (MakeD.opD (u_bs 35 Y Tryd.underlying74 in_3 Y one_3 (by decide) (by decide) Y Y Y) Y Y Y Y) ?_
       refine chkK H fun h11 H => ?_
       refine r_op Y Y (u_app [3, 29] Y Y Y Y Tryd.underlying74 Tryd.underlying74 in_3 Y Y Y (ml AV.int seen3_0) (by decide) (srcT_o Y Y (ml AV.int ([(lrd ((vrd d0 t9_0.toNat).Row) 0).Int_] : List Int)) (by decide)) (ml AV.int ([(lrd ((vrd d0 t9_0.toNat).Row) 0).Int_] : List Int)) h11 (by decide) Y Y (mapp AV.int seen3_0 ([(lrd ((vrd d0 t9_0.toNat).Row) 0).Int_] : List Int)) (lapp seen3_0 ([(lrd ((vrd d0 t9_0.toNat).Row) 0).Int_] : List Int))) ?_
       refine rp Y Y (p_asg Y Y) ?_
       refine rz [(3, .c (.own 3 (seen3_0 ++ ([(lrd ((vrd d0 t9_0.toNat).Row) 0).Int_] : List Int)).length 1)), (8, .g (d0.toList.flatMap GCell.cs)), (9, .i t9_0)] [(3, .pure ((seen3_0 ++ ([(lrd ((vrd d0 t9_0.toNat).Row) 0).Int_] : List Int)).map AV.int))] Y Y Y ?_
       have hz := some_elim H
       subst hz
       exact ⟨Y, Y⟩
   ·subst hy
    refine AW2_reg [0, 1] Y ?_
    refine rp Y Y (p_bin Y Y Y Y) ?_
    refine rp Y Y (p_move Y Y) ?_
    refine rz [(3, .c (.own 3 j'1.length 1)), (8, .g (d0.toList.flatMap GCell.cs)), (9, .i (w64 (t9_0 + (1 : Int))))] [(3, .pure (j'1.map AV.int))] Y Y Y ?_
    have hz := some_elim H
    subst hz
    exact ⟨Y, Y⟩
   ·subst hy
    obtain ⟨rfl, hs⟩ := hs
    have hz := some_elim H
    subst hz
    exact ⟨Y, hs.1, hs.2⟩
  ·replace H := ite_else h1 H
   refine as2 [] [] Y Y Y ?_
   refine AW2_exit ?_
   refine thenQ2_exit ?_
   have hz := some_elim H
   subst hz
   exact ⟨Y, Y⟩
 ·rcases o'13 with y'14 | y'15
  ·obtain ⟨rfl, hs⟩ := hs
   refine ⟨by simp, ?_⟩
   have hz := some_elim H
   subst hz
   exact ⟨hs.1, hs.2⟩
  ·obtain ⟨rfl, rfl⟩ := hs
   refine ⟨by simp, ?_⟩
   refine blockQ2_exit ?_
   refine sg [0] Y ?_
   refine rp Y Y (p_asg Y Y) ?_
   refine rz [(2, .i (0 : Int))] [] Y Y Y ?_
   refine AW2_ret ?_
   have hz := some_elim H
   subst hz
   exact ⟨⟨res_tmp (.same _), trivial⟩, trivial⟩

/-! chirographref.TableFault -/
noncomputable def g_ref_TableFault_l1 (t0 : GTable) (t52_0 : Int) : Int → Option (Int ⊕ (Int ⊕ Unit))
  | t56_1 => (if t56_1 < (4 : Int) then (show Option (Int ⊕ Unit) from if 0 ≤ t56_1 ∧ t56_1 < (4 : Int) then (if ((vrd (vrd t0.Drawers t52_0.toNat) t56_1.toNat).Full) = true then (g_ref_RowFault ((vrd (vrd t0.Drawers t52_0.toNat) t56_1.toNat).Row) t0.Cols).bind fun r'5 => (if r'5 ≠ (0 : Int) then some (.inl r'5) else some (.inr ())) else (if (((vrd (vrd t0.Drawers t52_0.toNat) t56_1.toNat).Row).length : Int) ≠ (0 : Int) then some (.inl (3 : Int)) else some (.inr ()))) else none).bind fun o'7 => match o'7 with | .inl y'6 => some (.inr (.inl y'6)) | .inr j'4 => some (.inl (w64 (t56_1 + (1 : Int)))) else some (.inr (.inr ())))
noncomputable def g_ref_TableFault_l0 (t0 : GTable) : Int → Option (Int ⊕ (Int ⊕ Unit))
  | t52_0 => (if t52_0 < (2 : Int) then if 0 ≤ t52_0 ∧ t52_0 < (2 : Int) then (loopO (g_ref_TableFault_l1 t0 t52_0) (0 : Int)).bind fun o'11 => match o'11 with | .inl y'12 => some (.inr (.inl y'12)) | .inr (y'13) => (g_ref_keysFault (vrd t0.Drawers t52_0.toNat)).bind fun r'14 => (if r'14 ≠ (0 : Int) then some (.inr (.inl r'14)) else some (.inl (w64 (t52_0 + (1 : Int))))) else none else some (.inr (.inr ())))
noncomputable def g_ref_TableFault (t0 : GTable) : Option (Int) :=
  (if (!t0.There) = true then some (5 : Int) else (g_ref_isName t0.Name).bind fun r'1 => (if ((!r'1) = true) ∨ ((t0.Name.length : Int) > (8 : Int)) then some (3 : Int) else (g_ref_ColumnsFault t0.Cols).bind fun r'2 => (if r'2 ≠ (0 : Int) then some r'2 else ((if (t0.Cols.length : Int) = (0 : Int) then some true else if 0 < t0.Cols.length then (if (lrd t0.Cols 0).Kind ≠ (2 : Int) then some true else if 0 < t0.Cols.length then some ((lrd t0.Cols 0).Null) else none) else none)).bind fun g'3 => (if g'3 = true then some (3 : Int) else (loopO (g_ref_TableFault_l0 t0) (0 : Int)).bind fun o'18 => match o'18 with | .inl y'19 => some y'19 | .inr (y'20) => some (0 : Int)))))
set_option maxHeartbeats 4000000 in
set_option maxRecDepth 100000 in
theorem g_ref_TableFault_ac {t0 : GTable} {r : Int} (H : g_ref_TableFault t0 = some r) : ACp Tryd.prog 14 [(.agg (GTable.cs t0))] (AV.int r) := by
 refine ACp_of (AC2_of_body (vs := [.i r]) Tryd.func14 Y Y (Nat.le_of_ble_eq_true Y) Y ?_) (fun _ => .same _)
 unfold g_ref_TableFault at H
 refine as2 [(0, .g (GTable.cs t0))] [] Y Y Y ?_
 refine sg [0, 1] Y ?_
 refine r_op Y Y (MakeD.opD (n_box 1 Y Y) Y Y Y Y) ?_
 refine rp Y Y (p_asg Y Y) ?_
 refine rz [(1, .q 1 (0))] [(1, .pure (GTable.cs t0))] Y Y Y ?_
 refine AW2_seq ?_
 refine AW2_block ?_
 refine sg [0, 1, 2, 3] Y ?_
 refine rp Y Y (u_fa Y Y Tryd.underlying29 Y in_4 nz Y Y (nl (GTable.len t0))) ?_
 refine rp Y Y (u_ld Y Y Tryd.underlying4 Y Y ((Sub.refl _).trans (GTable.sub0 t0))) ?_
 refine rp Y Y (p_not Y Y) ?_
 refine rp Y Y (p_asg Y Y) ?_
 refine rz [(1, .q 1 (0)), (10, .b (!t0.There))] [(1, .pure (GTable.cs t0))] Y Y Y ?_
 refine AW2_cond Y (fun h1 => ?_) (fun h1 => ?_)
 ·replace H := ite_then h1 H
  refine sg [0] Y ?_
  refine rp Y Y (p_asg Y Y) ?_
  refine rz [(2, .i (5 : Int))] [] Y Y Y ?_
  refine AW2_ret ?_
  have hz := some_elim H
  subst hz
  exact ⟨⟨res_tmp (.same _), trivial⟩, trivial⟩
 ·replace H := ite_else (ne_true h1) H
  refine AW2_seq ?_
  refine bindK H fun r'1 h2 H => ?_
  refine AW2_mid (⟨[(1, .q 1 (0)), (14, .b (decide (((!r'1) = true) ∨ ((t0.Name.length : Int) > (8 : Int)))))], [(1, .pure (GTable.cs t0))], 80⟩ : TS) ?_ ?_
  ·refine AW2_reg [0, 1, 2, 3, 4, 5, 6, 7, 8, 9, 10] Y ?_
   refine rp Y Y (u_fa Y Y Tryd.underlying29 Y in_9 nz Y Y (nl (GTable.len t0))) ?_
   refine rp Y Y (u_ld Y Y Tryd.underlying9 Y Y ((Sub.refl _).trans (GTable.sub1 t0))) ?_
   refine rp Y Y (p_callp Y Y Y Tryd.func28 Y Y (g_ref_isName_ac h2) ⟨Y, trivial⟩) ?_
   refine rp Y Y (p_not Y Y) ?_
   refine rp Y Y (p_move Y Y) ?_
   refine (Classical.em ((!r'1) = true)).elim (fun h3 => ?_) (fun h3 => ?_)
   ·refine r_off Y Y Y Y h3 Y Y ?_
    refine r_off Y Y Y Y h3 Y Y ?_
    refine r_off Y Y Y Y h3 Y Y ?_
    refine r_off Y Y Y Y h3 Y Y ?_
    refine rp Y Y (p_pkt Y Y h3 (tb (dT (p := ((!r'1) = true) ∨ ((t0.Name.length : Int) > (8 : Int))) (Or.inl h3)).symm)) ?_
    refine rp Y Y (p_asg Y Y) ?_
    refine rs [(1, .q 1 (0)), (14, .b (decide (((!r'1) = true) ∨ ((t0.Name.length : Int) > (8 : Int)))))] [(1, .pure (GTable.cs t0))] Y Y Y ?_
    exact RunW_nil rfl
   ·refine r_on Y Y Y Y (bfalse h3) Y (PureD.opD (u_fa Y Y Tryd.underlying29 Y in_9 nz Y Y (nl (GTable.len t0)))) ?_
    refine r_on Y Y Y Y (bfalse h3) Y (PureD.opD (u_ld Y Y Tryd.underlying9 Y Y ((Sub.refl _).trans (GTable.sub1 t0)))) ?_
    refine r_on Y Y Y Y (bfalse h3) Y (PureD.opD (p_lent Y Tryd.underlying9 Y)) ?_
    refine r_on Y Y Y Y (bfalse h3) Y (PureD.opD (p_bin Y Y Y Y)) ?_
    refine rp Y Y (p_pkf Y Y (bfalse h3) (tb ((or_l (p := (!r'1) = true) (q := (t0.Name.length : Int) > (8 : Int)) h3)))) ?_
    refine rp Y Y (p_asg Y Y) ?_
    refine rs [(1, .q 1 (0)), (14, .b (decide (((!r'1) = true) ∨ ((t0.Name.length : Int) > (8 : Int)))))] [(1, .pure (GTable.cs t0))] Y Y Y ?_
    exact RunW_nil rfl
  ·refine AW2_if (p := ((!r'1) = true) ∨ ((t0.Name.length : Int) > (8 : Int))) Y (fun h4 => ?_) (fun h4 => ?_)
   ·replace H := ite_then h4 H
    refine sg [0] Y ?_
    refine rp Y Y (p_asg Y Y) ?_
    refine rz [(2, .i (3 : Int))] [] Y Y Y ?_
    refine AW2_ret ?_
    have hz := some_elim H
    subst hz
    exact ⟨⟨res_tmp (.same _), trivial⟩, trivial⟩
   ·replace H := ite_else h4 H
    refine as2 [(1, .q 1 (0))] [(1, .pure (GTable.cs t0))] Y Y Y ?_
    refine AW2_skip ?_
    refine AW2_seq ?_
    refine sg [0, 1, 2, 3] Y ?_
    refine rp Y Y (u_fa Y Y Tryd.underlying29 Y in_22 nz Y Y (nl (GTable.len t0))) ?_
    refine rp Y Y (u_ld Y Y Tryd.underlying22 Y Y ((Sub.refl _).trans (GTable.sub2 t0))) ?_
    refine bindK H fun r'2 h5 H => ?_
    refine rp Y Y (p_callp Y Y Y Tryd.func29 Y Y (g_ref_ColumnsFault_ac h5) ⟨Y, trivial⟩) ?_
    refine rp Y Y (p_asg Y Y) ?_
    refine rz [(1, .q 1 (0)), (3, .i r'2)] [(1, .pure (GTable.cs t0))] Y Y Y ?_
    refine sg [0, 1] Y ?_
    refine rp Y Y (p_move Y Y) ?_
    refine rp Y Y (p_ine Y Y Y) ?_
    refine rz [(1, .q 1 (0)), (3, .i r'2), (29, .b (decide (r'2 ≠ (0 : Int))))] [(1, .pure (GTable.cs t0))] Y Y Y ?_
    refine AW2_if (p := r'2 ≠ (0 : Int)) Y (fun h6 => ?_) (fun h6 => ?_)
    ·replace H := ite_then h6 H
     refine sg [0, 1] Y ?_
     refine rp Y Y (p_move Y Y) ?_
     refine rp Y Y (p_asg Y Y) ?_
     refine rz [(2, .i r'2)] [] Y Y Y ?_
     refine AW2_ret ?_
     have hz := some_elim H
     subst hz
     exact ⟨⟨res_tmp (.same _), trivial⟩, trivial⟩
    ·replace H := ite_else h6 H
     refine as2 [(1, .q 1 (0))] [(1, .pure (GTable.cs t0))] Y Y Y ?_
     refine AW2_skip ?_
     refine AW2_seq ?_
     refine AW2_seq ?_
     refine bindK H fun g'3 h12 H => ?_
     refine AW2_mid (⟨[(1, .q 1 (0)), (49, .b g'3)], [(1, .pure (GTable.cs t0))], 80⟩ : TS) ?_ ?_
     ·clear H
      have H := h12
      clear h12
      refine AW2_reg [0, 1, 2, 3, 4, 5, 6, 7, 8, 9, 10, 11, 12, 13, 14, 15, 16, 17, 18] Y ?_
      refine rp Y Y (u_fa Y Y Tryd.underlying29 Y in_22 nz Y Y (nl (GTable.len t0))) ?_
      refine rp Y Y (u_ld Y Y Tryd.underlying22 Y Y ((Sub.refl _).trans (GTable.sub2 t0))) ?_
      refine rp Y Y (p_lenl Y Tryd.underlying22 Y Y) ?_
      refine rp Y Y (p_ieq Y Y Y) ?_
      refine rp Y Y (p_move Y Y) ?_
      refine (Classical.em ((t0.Cols.length : Int) = (0 : Int))).elim (fun h8 => ?_) (fun h8 => ?_)
      ·replace H := ite_then h8 H
       refine r_off Y Y Y Y (dT h8) Y Y ?_
       refine r_off Y Y Y Y (dT h8) Y Y ?_
       refine r_off Y Y Y Y (dT h8) Y Y ?_
       refine r_off Y Y Y Y (dT h8) Y Y ?_
       refine r_off Y Y Y Y (dT h8) Y Y ?_
       refine r_off Y Y Y Y (dT h8) Y Y ?_
       refine rp Y Y (p_pkt Y Y (dT h8) (.same _)) ?_
       refine rp Y Y (p_move Y Y) ?_
       refine r_off Y Y Y Y Y Y Y ?_
       refine r_off Y Y Y Y Y Y Y ?_
       refine r_off Y Y Y Y Y Y Y ?_
       refine r_off Y Y Y Y Y Y Y ?_
       refine r_off Y Y Y Y Y Y Y ?_
       refine rp Y Y (p_pkt Y Y Y (.same _)) ?_
       refine rs [(1, .q 1 (0)), (49, .b true)] [(1, .pure (GTable.cs t0))] Y Y Y ?_
       have hz := some_elim H
       subst hz
       exact RunW_nil rfl
      ·replace H := ite_else h8 H
       refine r_on Y Y Y Y (dF h8) Y (PureD.opD (u_fa Y Y Tryd.underlying29 Y in_22 nz Y Y (nl (GTable.len t0)))) ?_
       refine r_on Y Y Y Y (dF h8) Y (PureD.opD (u_ld Y Y Tryd.underlying22 Y Y ((Sub.refl _).trans (GTable.sub2 t0)))) ?_
       refine chkK H fun h9 H => ?_
       refine r_on Y Y Y Y (dF h8) Y (PureD.opD (u_ixl Y Y Tryd.underlying22 in_55 Y Y Y h9 (fne (fun x => (GColumn.len x)) (by decide) h9))) ?_
       refine r_on Y Y Y Y (dF h8) Y (PureD.opD (u_far Y Y Tryd.underlying55 Y in_3 nz Y)) ?_
       refine r_on Y Y Y Y (dF h8) Y (PureD.opD (u_ld Y Y Tryd.underlying3 Y Y ((Sub.fm default (fun x => (GColumn.len x)) h9).trans (GColumn.sub1 (lrd t0.Cols 0))))) ?_
       refine r_on Y Y Y Y (dF h8) Y (PureD.opD (p_ine Y Y Y)) ?_
       refine rp Y Y (p_pkf Y Y (dF h8) (.same _)) ?_
       refine rp Y Y (p_move Y Y) ?_
       refine (Classical.em ((lrd t0.Cols 0).Kind ≠ (2 : Int))).elim (fun h10 => ?_) (fun h10 => ?_)
       ·replace H := ite_then h10 H
        refine r_off Y Y Y Y (dT h10) Y Y ?_
        refine r_off Y Y Y Y (dT h10) Y Y ?_
        refine r_off Y Y Y Y (dT h10) Y Y ?_
        refine r_off Y Y Y Y (dT h10) Y Y ?_
        refine r_off Y Y Y Y (dT h10) Y Y ?_
        refine rp Y Y (p_pkt Y Y (dT h10) (.same _)) ?_
        refine rs [(1, .q 1 (0)), (49, .b true)] [(1, .pure (GTable.cs t0))] Y Y Y ?_
        have hz := some_elim H
        subst hz
        exact RunW_nil rfl
       ·replace H := ite_else h10 H
        refine r_on Y Y Y Y (dF h10) Y (PureD.opD (u_fa Y Y Tryd.underlying29 Y in_22 nz Y Y (nl (GTable.len t0)))) ?_
        refine r_on Y Y Y Y (dF h10) Y (PureD.opD (u_ld Y Y Tryd.underlying22 Y Y ((Sub.refl _).trans (GTable.sub2 t0)))) ?_
        refine chkK H fun h11 H => ?_
        refine r_on Y Y Y Y (dF h10) Y (PureD.opD (u_ixl Y Y Tryd.underlying22 in_55 Y Y Y h11 (fne (fun x => (GColumn.len x)) (by decide) h11))) ?_
        refine r_on Y Y Y Y (dF h10) Y (PureD.opD (u_far Y Y Tryd.underlying55 Y in_4 nz Y)) ?_
        refine r_on Y Y Y Y (dF h10) Y (PureD.opD (u_ld Y Y Tryd.underlying4 Y Y ((Sub.fm default (fun x => (GColumn.len x)) h11).trans (GColumn.sub2 (lrd t0.Cols 0))))) ?_
        refine rp Y Y (p_pkf Y Y (dF h10) (.same _)) ?_
        refine rs [(1, .q 1 (0)), (49, .b ((lrd t0.Cols 0).Null))] [(1, .pure (GTable.cs t0))] Y Y Y ?_
        have hz := some_elim H
        subst hz
        exact RunW_nil rfl
     ·refine AW2_cond Y (fun h13 => ?_) (fun h13 => ?_)
      ·replace H := ite_then h13 H
       refine sg [0] Y ?_
       refine rp Y Y (p_asg Y Y) ?_
       refine rz [(2, .i (3 : Int))] [] Y Y Y ?_
       refine AW2_ret ?_
       have hz := some_elim H
       subst hz
       exact ⟨⟨res_tmp (.same _), trivial⟩, trivial⟩
      ·replace H := ite_else (ne_true h13) H
       refine as2 [(1, .q 1 (0))] [(1, .pure (GTable.cs t0))] Y Y Y ?_
       refine AW2_skip ?_
       refine AW2_seq ?_
       refine sg [0, 1, 2] Y ?_
       refine rp Y Y (u_fa Y Y Tryd.underlying29 Y in_27 nz Y Y (nl (GTable.len t0))) ?_
       refine rp Y Y (u_lda Y Y Tryd.underlying27 Y in_27 Y (Nat.succ_pos _) ((Sub.refl _).trans (GTable.sub3 t0)) (vfm_len (fun x => (vfm_len (fun x => (GCell.len x)) x)) t0.Drawers)) ?_
       refine rp Y Y (p_move Y Y) ?_
       refine rz [(1, .q 1 (0)), (51, .g (t0.Drawers.toList.flatMap (fun v : Vector GCell 4 => v.toList.flatMap GCell.cs))), (52, .i (0 : Int))] [(1, .pure (GTable.cs t0))] Y Y Y ?_
       refine AW2_block ?_
       refine as2 [(1, .q 1 (0)), (51, .g (t0.Drawers.toList.flatMap (fun v : Vector GCell 4 => v.toList.flatMap GCell.cs))), (52, .i (0 : Int))] [(1, .pure (GTable.cs t0))] Y Y Y ?_
       refine bindK H fun o'18 h26 H => ?_
       refine AW2_loopO (fun a'15 : Int => (⟨[(1, .q 1 (0)), (51, .g (t0.Drawers.toList.flatMap (fun v : Vector GCell 4 => v.toList.flatMap GCell.cs))), (52, .i a'15)], [(1, .pure (GTable.cs t0))], 80⟩ : TS)) (fun (o : Int ⊕ Unit) e s' => match o with | .inl y'16 => e = Go.Exit.ret ∧ ResAll Tryd.prog s' [ResultVar.tmp 2] [.i y'16] ∧ HFits s' [] | .inr (y'17) => e = Go.Exit.exit 1 ∧ s' = (⟨[], [], 80⟩ : TS)) h26 Y (fun t52_0 x hx => ?_) (fun e s' hs => ?_)
       ·clear H
        have H := hx
        clear hx
        unfold g_ref_TableFault_l0 at H
        refine sg [0] Y ?_
        refine rp Y Y (p_bin Y Y Y Y) ?_
        refine rz [(1, .q 1 (0)), (51, .g (t0.Drawers.toList.flatMap (fun v : Vector GCell 4 => v.toList.flatMap GCell.cs))), (52, .i t52_0), (53, .b (decide (t52_0 < (2 : Int))))] [(1, .pure (GTable.cs t0))] Y Y Y ?_
        refine AW2_seq ?_
        refine AW2_if (p := t52_0 < (2 : Int)) Y (fun h14 => ?_) (fun h14 => ?_)
        ·replace H := ite_then h14 H
         refine as2 [(1, .q 1 (0)), (51, .g (t0.Drawers.toList.flatMap (fun v : Vector GCell 4 => v.toList.flatMap GCell.cs))), (52, .i t52_0)] [(1, .pure (GTable.cs t0))] Y Y Y ?_
         refine AW2_skip ?_
         refine AW2_seq ?_
         refine AW2_block ?_
         refine sg [0, 1, 2] Y ?_
         refine chkK H fun h15 H => ?_
         refine rp Y Y (u_ixaa Y Y Tryd.underlying27 in_26 Tryd.underlying26 Y Y Y (ixe h15) (ixn h15) (Sub.vfm (fun x => (vfm_len (fun x => (GCell.len x)) x)) (ixn h15)) (vfm_len (fun x => (GCell.len x)) (vrd t0.Drawers t52_0.toNat))) ?_
         refine r_op Y Y (MakeD.opD (u_alloc 5 Y in_26 one_26 zc_26) Y Y Y Y) ?_
         refine r_op Y Y (u_st Y Y Y Y Y in_26 (vfm_len (fun x => (GCell.len x)) (vrd t0.Drawers t52_0.toNat)) (nl (vfm_len (fun x => (GCell.len x)) (Vector.replicate 4 GCell.zero))) (Upd.refl ((vfm_len (fun x => (GCell.len x)) (vrd t0.Drawers t52_0.toNat)).trans (vfm_len (fun x => (GCell.len x)) (Vector.replicate 4 GCell.zero)).symm))) ?_
         refine rz [(1, .q 1 (0)), (5, .q 5 (0)), (51, .g (t0.Drawers.toList.flatMap (fun v : Vector GCell 4 => v.toList.flatMap GCell.cs))), (52, .i t52_0)] [(1, .pure (GTable.cs t0)), (5, .pure (((vrd t0.Drawers t52_0.toNat).toList).flatMap GCell.cs))] Y Y Y ?_
         refine AW2_seq ?_
         refine sg [0, 1] Y ?_
         refine rp Y Y (u_lda Y Y Tryd.underlying26 Y in_26 Y (Nat.succ_pos _) (Sub.refl _) (vfm_len (fun x => (GCell.len x)) (vrd t0.Drawers t52_0.toNat))) ?_
         refine rp Y Y (p_move Y Y) ?_
         refine rz [(1, .q 1 (0)), (5, .q 5 (0)), (51, .g (t0.Drawers.toList.flatMap (fun v : Vector GCell 4 => v.toList.flatMap GCell.cs))), (52, .i t52_0), (55, .g (((vrd t0.Drawers t52_0.toNat).toList).flatMap GCell.cs)), (56, .i (0 : Int))] [(1, .pure (GTable.cs t0)), (5, .pure (((vrd t0.Drawers t52_0.toNat).toList).flatMap GCell.cs))] Y Y Y ?_
         refine AW2_block ?_
         refine as2 [(1, .q 1 (0)), (5, .q 5 (0)), (51, .g (t0.Drawers.toList.flatMap (fun v : Vector GCell 4 => v.toList.flatMap GCell.cs))), (52, .i t52_0), (55, .g (((vrd t0.Drawers t52_0.toNat).toList).flatMap GCell.cs)), (56, .i (0 : Int))] [(1, .pure (GTable.cs t0)), (5, .pure (((vrd t0.Drawers t52_0.toNat).toList).flatMap GCell.cs))] Y Y Y ?_
         refine bindK H fun o'11 h23 H => ?_
         refine AW2_loopO (fun a'8 : Int => (⟨[(1, .q 1 (0)), (5, .q 5 (0)), (51, .g (t0.Drawers.toList.flatMap (fun v : Vector GCell 4 => v.toList.flatMap GCell.cs))), (52, .i t52_0), (55, .g (((vrd t0.Drawers t52_0.toNat).toList).flatMap GCell.cs)), (56, .i a'8)], [(1, .pure (GTable.cs t0)), (5, .pure (((vrd t0.Drawers t52_0.toNat).toList).flatMap GCell.cs))], 80⟩ : TS)) (fun (o : Int ⊕ Unit) e s' => match o with | .inl y'9 => e = Go.Exit.ret ∧ ResAll Tryd.prog s' [ResultVar.tmp 2] [.i y'9] ∧ HFits s' [] | .inr (y'10) => e = Go.Exit.exit 3 ∧ s' = (⟨[(1, .q 1 (0)), (5, .q 5 (0)), (51, .g (t0.Drawers.toList.flatMap (fun v : Vector GCell 4 => v.toList.flatMap GCell.cs))), (52, .i t52_0)], [(1, .pure (GTable.cs t0)), (5, .pure (((vrd t0.Drawers t52_0.toNat).toList).flatMap GCell.cs))], 80⟩ : TS)) h23 Y (fun t56_1 x hx => ?_) (fun e s' hs => ?_)
         ·clear H
          have H := hx
          clear hx
          unfold g_ref_TableFault_l1 at H
          refine sg [0] Y ?_
          refine rp Y Y (p_bin Y Y Y Y) ?_
          refine rz [(1, .q 1 (0)), (5, .q 5 (0)), (51, .g (t0.Drawers.toList.flatMap (fun v : Vector GCell 4 => v.toList.flatMap GCell.cs))), (52, .i t52_0), (55, .g (((vrd t0.Drawers t52_0.toNat).toList).flatMap GCell.cs)), (56, .i t56_1), (57, .b (decide (t56_1 < (4 : Int))))] [(1, .pure (GTable.cs t0)), (5, .pure (((vrd t0.Drawers t52_0.toNat).toList).flatMap GCell.cs))] Y Y Y ?_
          refine AW2_seq ?_
          refine AW2_if (p := t56_1 < (4 : Int)) Y (fun h16 => ?_) (fun h16 => ?_)
          ·replace H := ite_then h16 H
           refine as2 [(1, .q 1 (0)), (5, .q 5 (0)), (51, .g (t0.Drawers.toList.flatMap (fun v : Vector GCell 4 => v.toList.flatMap GCell.cs))), (52, .i t52_0), (55, .g (((vrd t0.Drawers t52_0.toNat).toList).flatMap GCell.cs)), (56, .i t56_1)] [(1, .pure (GTable.cs t0)), (5, .pure (((vrd t0.Drawers t52_0.toNat).toList).flatMap GCell.cs))] Y Y Y ?_
           refine AW2_skip ?_
           refine AW2_seq ?_
           refine bindK H fun o'7 h17 H => ?_
           refine AW2_join (fun j'4 : Unit => (⟨[(1, .q 1 (0)), (5, .q 5 (0)), (51, .g (t0.Drawers.toList.flatMap (fun v : Vector GCell 4 => v.toList.flatMap GCell.cs))), (52, .i t52_0), (55, .g (((vrd t0.Drawers t52_0.toNat).toList).flatMap GCell.cs)), (56, .i t56_1)], [(1, .pure (GTable.cs t0)), (5, .pure (((vrd t0.Drawers t52_0.toNat).toList).flatMap GCell.cs))], 80⟩ : TS)) (fun r e s' => e = Go.Exit.ret ∧ ResAll Tryd.prog s' [ResultVar.tmp 2] [.i r] ∧ HFits s' []) (x := o'7) ?_ (fun j'4 hy => ?_) (fun y'6 e s' hy hs => ?_)
           ·clear H
            have H := h17
            clear h17
            refine AW2_block ?_
            refine sg [0, 1, 2] Y ?_
            refine chkK H fun h18 H => ?_
            refine rp Y Y (u_ixaa Y Y Tryd.underlying26 in_25 Tryd.underlying25 Y Y Y (ixe h18) (ixn h18) (Sub.vfm (fun x => (GCell.len x)) (ixn h18)) (GCell.len (vrd (vrd t0.Drawers t52_0.toNat) t56_1.toNat))) ?_
            refine r_op Y Y (MakeD.opD (u_alloc 7 Y in_25 one_25 zc_25) Y Y Y Y) ?_
            refine r_op Y Y (u_st Y Y Y Y Y in_25 (GCell.len (vrd (vrd t0.Drawers t52_0.toNat) t56_1.toNat)) (nl (GCell.len GCell.zero)) (Upd.refl ((GCell.len (vrd (vrd t0.Drawers t52_0.toNat) t56_1.toNat)).trans (GCell.len GCell.zero).symm))) ?_
            refine rz [(1, .q 1 (0)), (5, .q 5 (0)), (7, .q 7 (0)), (51, .g (t0.Drawers.toList.flatMap (fun v : Vector GCell 4 => v.toList.flatMap GCell.cs))), (52, .i t52_0), (55, .g (((vrd t0.Drawers t52_0.toNat).toList).flatMap GCell.cs)), (56, .i t56_1)] [(1, .pure (GTable.cs t0)), (5, .pure (((vrd t0.Drawers t52_0.toNat).toList).flatMap GCell.cs)), (7, .pure (GCell.cs (vrd (vrd t0.Drawers t52_0.toNat) t56_1.toNat)))] Y Y Y ?_
            refine sg [0, 1] Y ?_
            refine rp Y Y (u_fa Y Y Tryd.underlying25 Y in_4 nz Y Y (nl (GCell.len (vrd (vrd t0.Drawers t52_0.toNat) t56_1.toNat)))) ?_
            refine rp Y Y (u_ld Y Y Tryd.underlying4 Y Y ((Sub.refl _).trans (GCell.sub0 (vrd (vrd t0.Drawers t52_0.toNat) t56_1.toNat)))) ?_
            refine rz [(1, .q 1 (0)), (5, .q 5 (0)), (7, .q 7 (0)), (51, .g (t0.Drawers.toList.flatMap (fun v : Vector GCell 4 => v.toList.flatMap GCell.cs))), (52, .i t52_0), (55, .g (((vrd t0.Drawers t52_0.toNat).toList).flatMap GCell.cs)), (56, .i t56_1), (60, .b ((vrd (vrd t0.Drawers t52_0.toNat) t56_1.toNat).Full))] [(1, .pure (GTable.cs t0)), (5, .pure (((vrd t0.Drawers t52_0.toNat).toList).flatMap GCell.cs)), (7, .pure (GCell.cs (vrd (vrd t0.Drawers t52_0.toNat) t56_1.toNat)))] Y Y Y ?_
            refine AW2_cond Y (fun h19 => ?_) (fun h19 => ?_)
            ·replace H := ite_then h19 H
             refine sg [0, 1, 2, 3, 4, 5] Y ?_
             refine rp Y Y (u_fa Y Y Tryd.underlying25 Y in_23 nz Y Y (nl (GCell.len (vrd (vrd t0.Drawers t52_0.toNat) t56_1.toNat)))) ?_
             refine rp Y Y (u_ld Y Y Tryd.underlying23 Y Y ((Sub.refl _).trans (GCell.sub1 (vrd (vrd t0.Drawers t52_0.toNat) t56_1.toNat)))) ?_
             refine rp Y Y (u_fa Y Y Tryd.underlying29 Y in_22 nz Y Y (nl (GTable.len t0))) ?_
             refine rp Y Y (u_ld Y Y Tryd.underlying22 Y Y ((Sub.refl _).trans (GTable.sub2 t0))) ?_
             refine bindK H fun r'5 h20 H => ?_
             refine rp Y Y (p_callp Y Y Y Tryd.func30 Y Y (g_ref_RowFault_ac h20) ⟨Y, Y, trivial⟩) ?_
             refine rp Y Y (p_asg Y Y) ?_
             refine rz [(1, .q 1 (0)), (5, .q 5 (0)), (8, .i r'5), (51, .g (t0.Drawers.toList.flatMap (fun v : Vector GCell 4 => v.toList.flatMap GCell.cs))), (52, .i t52_0), (55, .g (((vrd t0.Drawers t52_0.toNat).toList).flatMap GCell.cs)), (56, .i t56_1)] [(1, .pure (GTable.cs t0)), (5, .pure (((vrd t0.Drawers t52_0.toNat).toList).flatMap GCell.cs))] Y Y Y ?_
             refine sg [0, 1] Y ?_
             refine rp Y Y (p_move Y Y) ?_
             refine rp Y Y (p_ine Y Y Y) ?_
             refine rz [(1, .q 1 (0)), (5, .q 5 (0)), (8, .i r'5), (51, .g (t0.Drawers.toList.flatMap (fun v : Vector GCell 4 => v.toList.flatMap GCell.cs))), (52, .i t52_0), (55, .g (((vrd t0.Drawers t52_0.toNat).toList).flatMap GCell.cs)), (56, .i t56_1), (67, .b (decide (r'5 ≠ (0 : Int))))] [(1, .pure (GTable.cs t0)), (5, .pure (((vrd t0.Drawers t52_0.toNat).toList).flatMap GCell.cs))] Y Y Y ?_
             refine AW2_if (p := r'5 ≠ (0 : Int)) Y (fun h21 => ?_) (fun h21 => ?_)
             ·replace H := ite_then h21 H
              refine sg [0, 1] Y ?_
              refine rp Y Y (p_move Y Y) ?_
              refine rp Y Y (p_asg Y Y) ?_
              refine rz [(2, .i r'5)] [] Y Y Y ?_
              refine AW2_ret ?_
              have hz := some_elim H
              subst hz
              exact ⟨Y, ⟨res_tmp (.same _), trivial⟩, trivial⟩
             ·replace H := ite_else h21 H
              refine as2 [(1, .q 1 (0)), (5, .q 5 (0)), (51, .g (t0.Drawers.toList.flatMap (fun v : Vector GCell 4 => v.toList.flatMap GCell.cs))), (52, .i t52_0), (55, .g (((vrd t0.Drawers t52_0.toNat).toList).flatMap GCell.cs)), (56, .i t56_1)] [(1, .pure (GTable.cs t0)), (5, .pure (((vrd t0.Drawers t52_0.toNat).toList).flatMap GCell.cs))] Y Y Y ?_
              refine AW2_skip ?_
              have hz := some_elim H
              subst hz
              exact ⟨Y, Y⟩
            ·replace H := ite_else (ne_true h19) H
             refine sg [0, 1, 2, 3] Y ?_
             refine rp Y Y (u_fa Y Y Tryd.underlying25 Y in_23 nz Y Y (nl (GCell.len (vrd (vrd t0.Drawers t52_0.toNat) t56_1.toNat)))) ?_
             refine rp Y Y (u_ld Y Y Tryd.underlying23 Y Y ((Sub.refl _).trans (GCell.sub1 (vrd (vrd t0.Drawers t52_0.toNat) t56_1.toNat)))) ?_
             refine rp Y Y (p_lenl Y Tryd.underlying23 Y Y) ?_
             refine rp Y Y (p_ine Y Y Y) ?_
             refine rz [(1, .q 1 (0)), (5, .q 5 (0)), (51, .g (t0.Drawers.toList.flatMap (fun v : Vector GCell 4 => v.toList.flatMap GCell.cs))), (52, .i t52_0), (55, .g (((vrd t0.Drawers t52_0.toNat).toList).flatMap GCell.cs)), (56, .i t56_1), (72, .b (decide ((((vrd (vrd t0.Drawers t52_0.toNat) t56_1.toNat).Row).length : Int) ≠ (0 : Int))))] [(1, .pure (GTable.cs t0)), (5, .pure (((vrd t0.Drawers t52_0.toNat).toList).flatMap GCell.cs))] Y Y Y ?_
             refine AW2_if (p := (((vrd (vrd t0.Drawers t52_0.toNat) t56_1.toNat).Row).length : Int) ≠ (0 : Int)) Y (fun h22 => ?_) (fun h22 => ?_)
             ·replace H := ite_then h22 H
              refine sg [0] Y ?_
              refine rp Y Y (p_asg Y Y) ?_
              refine rz [(2, .i (3 : Int))] [] Y Y Y ?_
              refine AW2_ret ?_
              have hz := some_elim H
              subst hz
              exact ⟨Y, ⟨res_tmp (.same _), trivial⟩, trivial⟩
             ·replace H := ite_else h22 H
              refine as2 [(1, .q 1 (0)), (5, .q 5 (0)), (51, .g (t0.Drawers.toList.flatMap (fun v : Vector GCell 4 => v.toList.flatMap GCell.cs))), (52, .i t52_0), (55, .g (((vrd t0.Drawers t52_0.toNat).toList).flatMap GCell.cs)), (56, .i t56_1)] [(1, .pure (GTable.cs t0)), (5, .pure (((vrd t0.Drawers t52_0.toNat).toList).flatMap GCell.cs))] Y Y Y ?_
              refine AW2_skip ?_
              have hz := some_elim H
              subst hz
              exact ⟨Y, Y⟩
           ·subst hy
            refine AW2_reg [0, 1] Y ?_
            refine rp Y Y (p_bin Y Y Y Y) ?_
            refine rp Y Y (p_move Y Y) ?_
            refine rz [(1, .q 1 (0)), (5, .q 5 (0)), (51, .g (t0.Drawers.toList.flatMap (fun v : Vector GCell 4 => v.toList.flatMap GCell.cs))), (52, .i t52_0), (55, .g (((vrd t0.Drawers t52_0.toNat).toList).flatMap GCell.cs)), (56, .i (w64 (t56_1 + (1 : Int))))] [(1, .pure (GTable.cs t0)), (5, .pure (((vrd t0.Drawers t52_0.toNat).toList).flatMap GCell.cs))] Y Y Y ?_
            have hz := some_elim H
            subst hz
            exact ⟨Y, Y⟩
           ·subst hy
            obtain ⟨rfl, hs⟩ := hs
            have hz := some_elim H
            subst hz
            exact ⟨Y, hs.1, hs.2⟩
          ·replace H := ite_else h16 H
           refine as2 [(1, .q 1 (0)), (5, .q 5 (0)), (51, .g (t0.Drawers.toList.flatMap (fun v : Vector GCell 4 => v.toList.flatMap GCell.cs))), (52, .i t52_0)] [(1, .pure (GTable.cs t0)), (5, .pure (((vrd t0.Drawers t52_0.toNat).toList).flatMap GCell.cs))] Y Y Y ?_
           refine AW2_exit ?_
           refine thenQ2_exit ?_
           have hz := some_elim H
           subst hz
           exact ⟨Y, Y⟩
         ·rcases o'11 with y'12 | y'13
          ·obtain ⟨rfl, hs⟩ := hs
           refine ⟨by simp, ?_⟩
           have hz := some_elim H
           subst hz
           exact ⟨Y, hs.1, hs.2⟩
          ·obtain ⟨rfl, rfl⟩ := hs
           refine ⟨by simp, ?_⟩
           refine blockQ2_exit ?_
           refine sg [0, 1, 2] Y ?_
           refine rp Y Y (u_lda Y Y Tryd.underlying26 Y in_26 Y (Nat.succ_pos _) (Sub.refl _) (vfm_len (fun x => (GCell.len x)) (vrd t0.Drawers t52_0.toNat))) ?_
           refine bindK H fun r'14 h24 H => ?_
           refine rp Y Y (p_callp Y Y Y Tryd.func31 Y Y (g_ref_keysFault_ac h24) ⟨Y, trivial⟩) ?_
           refine rp Y Y (p_asg Y Y) ?_
           refine rz [(1, .q 1 (0)), (9, .i r'14), (51, .g (t0.Drawers.toList.flatMap (fun v : Vector GCell 4 => v.toList.flatMap GCell.cs))), (52, .i t52_0)] [(1, .pure (GTable.cs t0))] Y Y Y ?_
           refine sg [0, 1] Y ?_
           refine rp Y Y (p_move Y Y) ?_
           refine rp Y Y (p_ine Y Y Y) ?_
           refine rz [(1, .q 1 (0)), (9, .i r'14), (51, .g (t0.Drawers.toList.flatMap (fun v : Vector GCell 4 => v.toList.flatMap GCell.cs))), (52, .i t52_0), (77, .b (decide (r'14 ≠ (0 : Int))))] [(1, .pure (GTable.cs t0))] Y Y Y ?_
           refine AW2_if (p := r'14 ≠ (0 : Int)) Y (fun h25 => ?_) (fun h25 => ?_)
           ·replace H := ite_then h25 H
            refine sg [0, 1] Y ?_
            refine rp Y Y (p_move Y Y) ?_
            refine rp Y Y (p_asg Y Y) ?_
            refine rz [(2, .i r'14)] [] Y Y Y ?_
            refine AW2_ret ?_
            have hz := some_elim H
            subst hz
            exact ⟨Y, ⟨res_tmp (.same _), trivial⟩, trivial⟩
           ·replace H := ite_else h25 H
            refine as2 [(1, .q 1 (0)), (51, .g (t0.Drawers.toList.flatMap (fun v : Vector GCell 4 => v.toList.flatMap GCell.cs))), (52, .i t52_0)] [(1, .pure (GTable.cs t0))] Y Y Y ?_
            refine AW2_skip ?_
            refine AW2_reg [0, 1] Y ?_
            refine rp Y Y (p_bin Y Y Y Y) ?_
            refine rp Y Y (p_move Y Y) ?_
            refine rz [(1, .q 1 (0)), (51, .g (t0.Drawers.toList.flatMap (fun v : Vector GCell 4 => v.toList.flatMap GCell.cs))), (52, .i (w64 (t52_0 + (1 : Int))))] [(1, .pure (GTable.cs t0))] Y Y Y ?_
            have hz := some_elim H
            subst hz
            exact ⟨Y, Y⟩
        ·replace H := ite_else h14 H
         refine as2 [] [] Y Y Y ?_
         refine AW2_exit ?_
         refine thenQ2_exit ?_
         have hz := some_elim H
         subst hz
         exact ⟨Y, Y⟩
       ·rcases o'18 with y'19 | y'20
        ·obtain ⟨rfl, hs⟩ := hs
         refine ⟨by simp, ?_⟩
         have hz := some_elim H
         subst hz
         exact ⟨hs.1, hs.2⟩
        ·obtain ⟨rfl, rfl⟩ := hs
         refine ⟨by simp, ?_⟩
         refine blockQ2_exit ?_
         refine sg [0] Y ?_
         refine rp Y Y (p_asg Y Y) ?_
         refine rz [(2, .i (0 : Int))] [] Y Y Y ?_
         refine AW2_ret ?_
         have hz := some_elim H
         subst hz
         exact ⟨⟨res_tmp (.same _), trivial⟩, trivial⟩

/-! chirographref.StateFault -/
noncomputable def g_ref_StateFault_l1 (s0 : GState) (t18_0 : Int) : Bool × Int × MapI → Option ((Bool × Int × MapI) ⊕ (Bool))
  | (ok3_1, t24_1, t22_1) => (if t24_1 < (2 : Int) then (if 0 ≤ t24_1 ∧ t24_1 < (2 : Int) then (if (!((vrd (vrd s0.Tables t18_0.toNat) t24_1.toNat).There)) = true then ((if ok3_1 = true then (g_ref_emptyTable (vrd (vrd s0.Tables t18_0.toNat) t24_1.toNat)).bind fun r'4 => some r'4 else some false)).bind fun g'5 => some (g'5, t22_1) else letO ((mputI t22_1 ((vrd (vrd s0.Tables t18_0.toNat) t24_1.toNat).Name) (w64 ((mgetI t22_1 ((vrd (vrd s0.Tables t18_0.toNat) t24_1.toNat).Name)) + (1 : Int))))) fun t22'6 => ((if ok3_1 = true then (g_ref_TableFault (vrd (vrd s0.Tables t18_0.toNat) t24_1.toNat)).bind fun r'8 => (if r'8 = (0 : Int) then some (decide (mgetI t22'6 ((vrd (vrd s0.Tables t18_0.toNat) t24_1.toNat).Name) = (1 : Int))) else some false) else some false)).bind fun g'9 => some (g'9, t22'6)) else none).bind fun j'2 => some (.inl (j'2.1, w64 (t24_1 + (1 : Int)), j'2.2)) else some (.inr ok3_1))
noncomputable def g_ref_StateFault_l0 (s0 : GState) : Bool × Int → Option ((Bool × Int) ⊕ (Bool))
  | (ok3_0, t18_0) => (if t18_0 < (3 : Int) then if 0 ≤ t18_0 ∧ t18_0 < (3 : Int) then (loopO (g_ref_StateFault_l1 s0 t18_0) (ok3_0, (0 : Int), ([] : MapI))).bind fun y'13 => ((if y'13 = true then if 0 ≤ t18_0 ∧ t18_0 < (3 : Int) then (if (vrd s0.Asked t18_0.toNat) ≥ (0 : Int) then if 0 ≤ t18_0 ∧ t18_0 < (3 : Int) then some (decide ((vrd s0.Asked t18_0.toNat) ≤ (12 : Int))) else none else some false) else none else some false)).bind fun g'14 => some (.inl (g'14, w64 (t18_0 + (1 : Int)))) else none else some (.inr ok3_0))
noncomputable def g_ref_StateFault_l2 (s0 : GState) : Bool × Int → Option ((Bool × Int) ⊕ (Bool))
  | (ok3_2, t74_2) => (if t74_2 < (s0.Grants.length : Int) then if 0 ≤ t74_2 ∧ t74_2 < (s0.Grants.length : Int) then ((if ok3_2 = true then if 0 ≤ w64 ((w64 (((lrd s0.Grants t74_2.toNat).Object).tdiv (2 : Int))).tdiv (2 : Int)) ∧ w64 ((w64 (((lrd s0.Grants t74_2.toNat).Object).tdiv (2 : Int))).tdiv (2 : Int)) < (3 : Int) then if 0 ≤ (w64 (((lrd s0.Grants t74_2.toNat).Object).tdiv (2 : Int))).tmod (2 : Int) ∧ (w64 (((lrd s0.Grants t74_2.toNat).Object).tdiv (2 : Int))).tmod (2 : Int) < (2 : Int) then some ((vrd (vrd s0.Tables ((w64 ((w64 (((lrd s0.Grants t74_2.toNat).Object).tdiv (2 : Int))).tdiv (2 : Int))).toNat)) (((w64 (((lrd s0.Grants t74_2.toNat).Object).tdiv (2 : Int))).tmod (2 : Int)).toNat)).There) else none else none else some false)).bind fun g'20 => some (.inl (g'20, w64 (t74_2 + (1 : Int)))) else none else some (.inr ok3_2))
noncomputable def g_ref_StateFault (s0 : GState) : Option (Int) :=
  (g_ref_GrantsFault s0.Grants).bind fun r'1 => (loopO (g_ref_StateFault_l0 s0) ((decide (r'1 = (0 : Int))), (0 : Int))).bind fun y'18 => ((if y'18 = true then (loopO (g_ref_StateFault_l2 s0) (y'18, (0 : Int))).bind fun y'24 => some y'24 else some y'18)).bind fun j'19 => (if (!j'19) = true then some (11 : Int) else some (0 : Int))
set_option maxHeartbeats 4000000 in
set_option maxRecDepth 100000 in
theorem g_ref_StateFault_ac {s0 : GState} {r : Int} (H : g_ref_StateFault s0 = some r) : ACp Tryd.prog 6 [(.agg (GState.cs s0))] (AV.int r) := by
 refine ACp_of (AC2_of_body (vs := [.i r]) Tryd.func6 Y Y (Nat.le_of_ble_eq_true Y) Y ?_) (fun _ => .same _)
 unfold g_ref_StateFault at H
 refine as2 [(0, .g (GState.cs s0))] [] Y Y Y ?_
 refine sg [0, 1] Y ?_
 refine r_op Y Y (MakeD.opD (n_box 1 Y Y) Y Y Y Y) ?_
 refine rp Y Y (p_asg Y Y) ?_
 refine rz [(1, .q 1 (0))] [(1, .pure (GState.cs s0))] Y Y Y ?_
 refine sg [0, 1, 2, 3, 4] Y ?_
 refine rp Y Y (u_fa Y Y Tryd.underlying35 Y in_32 nz Y Y (nl (GState.len s0))) ?_
 refine rp Y Y (u_ld Y Y Tryd.underlying32 Y Y ((Sub.refl _).trans (GState.sub1 s0))) ?_
 refine bindK H fun r'1 h1 H => ?_
 refine rp Y Y (p_callp Y Y Y Tryd.func12 Y Y (g_ref_GrantsFault_ac h1) ⟨Y, trivial⟩) ?_
 refine rp Y Y (p_ieq Y Y Y) ?_
 refine rp Y Y (p_asg Y Y) ?_
 refine rz [(1, .q 1 (0)), (3, .b (decide (r'1 = (0 : Int))))] [(1, .pure (GState.cs s0))] Y Y Y ?_
 refine AW2_seq ?_
 refine sg [0, 1, 2] Y ?_
 refine rp Y Y (u_fa Y Y Tryd.underlying35 Y in_31 nz Y Y (nl (GState.len s0))) ?_
 refine rp Y Y (u_lda Y Y Tryd.underlying31 Y in_31 Y (Nat.succ_pos _) ((Sub.refl _).trans (GState.sub0 s0)) (vfm_len (fun x => (vfm_len (fun x => (GTable.len x)) x)) s0.Tables)) ?_
 refine rp Y Y (p_move Y Y) ?_
 refine rz [(1, .q 1 (0)), (3, .b (decide (r'1 = (0 : Int)))), (17, .g (s0.Tables.toList.flatMap (fun v : Vector GTable 2 => v.toList.flatMap GTable.cs))), (18, .i (0 : Int))] [(1, .pure (GState.cs s0))] Y Y Y ?_
 refine AW2_block ?_
 refine as2 [(1, .q 1 (0)), (3, .b (decide (r'1 = (0 : Int)))), (17, .g (s0.Tables.toList.flatMap (fun v : Vector GTable 2 => v.toList.flatMap GTable.cs))), (18, .i (0 : Int))] [(1, .pure (GState.cs s0))] Y Y Y ?_
 refine bindK H fun y'18 h27 H => ?_
 refine AW2_loopO (fun a'15 : Bool × Int => (⟨[(1, .q 1 (0)), (3, .b a'15.1), (17, .g (s0.Tables.toList.flatMap (fun v : Vector GTable 2 => v.toList.flatMap GTable.cs))), (18, .i a'15.2)], [(1, .pure (GState.cs s0))], 96⟩ : TS)) (fun (y'16 : Bool) e s' => e = Go.Exit.exit 0 ∧ s' = (⟨[(1, .q 1 (0)), (3, .b y'16)], [(1, .pure (GState.cs s0))], 96⟩ : TS)) h27 Y (fun a x hx => ?_) (fun e s' hs => ?_)
 ·clear H
  obtain ⟨ok3_0, t18_0⟩ := a
  have H := hx
  clear hx
  unfold g_ref_StateFault_l0 at H
  refine sg [0] Y ?_
  refine rp Y Y (p_bin Y Y Y Y) ?_
  refine rz [(1, .q 1 (0)), (3, .b ok3_0), (17, .g (s0.Tables.toList.flatMap (fun v : Vector GTable 2 => v.toList.flatMap GTable.cs))), (18, .i t18_0), (19, .b (decide (t18_0 < (3 : Int))))] [(1, .pure (GState.cs s0))] Y Y Y ?_
  refine AW2_seq ?_
  refine AW2_if (p := t18_0 < (3 : Int)) Y (fun h2 => ?_) (fun h2 => ?_)
  ·replace H := ite_then h2 H
   refine as2 [(1, .q 1 (0)), (3, .b ok3_0), (17, .g (s0.Tables.toList.flatMap (fun v : Vector GTable 2 => v.toList.flatMap GTable.cs))), (18, .i t18_0)] [(1, .pure (GState.cs s0))] Y Y Y ?_
   refine AW2_skip ?_
   refine AW2_seq ?_
   refine AW2_block ?_
   refine sg [0, 1, 2, 3, 4] Y ?_
   refine rp Y Y (p_move Y Y) ?_
   refine chkK H fun h3 H => ?_
   refine rp Y Y (u_ixaa Y Y Tryd.underlying31 in_30 Tryd.underlying30 Y Y Y (ixe h3) (ixn h3) (Sub.vfm (fun x => (vfm_len (fun x => (GTable.len x)) x)) (ixn h3)) (vfm_len (fun x => (GTable.len x)) (vrd s0.Tables t18_0.toNat))) ?_
   refine r_op Y Y (MakeD.opD (u_alloc 5 Y in_30 one_30 zc_30) Y Y Y Y) ?_
   refine rp Y Y (p_asg Y Y) ?_
   refine r_op Y Y (u_st Y Y Y Y Y in_30 (vfm_len (fun x => (GTable.len x)) (vrd s0.Tables t18_0.toNat)) (nl (vfm_len (fun x => (GTable.len x)) (Vector.replicate 2 GTable.zero))) (Upd.refl ((vfm_len (fun x => (GTable.len x)) (vrd s0.Tables t18_0.toNat)).trans (vfm_len (fun x => (GTable.len x)) (Vector.replicate 2 GTable.zero)).symm))) ?_
   refine rz [(1, .q 1 (0)), (3, .b ok3_0), (4, .i t18_0), (5, .q 5 (0)), (17, .g (s0.Tables.toList.flatMap (fun v : Vector GTable 2 => v.toList.flatMap GTable.cs))), (18, .i t18_0)] [(1, .pure (GState.cs s0)), (5, .pure (((vrd s0.Tables t18_0.toNat).toList).flatMap GTable.cs))] Y Y Y ?_
   refine sg [0, 1] Y ?_
   refine r_op Y Y (MakeD.opD (n_mkmap 22 Y) Y Y Y Y) ?_
   refine rp Y Y (p_asg Y Y) ?_
   refine rz [(1, .q 1 (0)), (3, .b ok3_0), (4, .i t18_0), (5, .q 5 (0)), (6, .c (.mref 22)), (17, .g (s0.Tables.toList.flatMap (fun v : Vector GTable 2 => v.toList.flatMap GTable.cs))), (18, .i t18_0)] [(1, .pure (GState.cs s0)), (5, .pure (((vrd s0.Tables t18_0.toNat).toList).flatMap GTable.cs)), (22, .pure ([(mcell ([] : MapI))]))] Y Y Y ?_
   refine AW2_seq ?_
   refine sg [0, 1] Y ?_
   refine rp Y Y (u_lda Y Y Tryd.underlying30 Y in_30 Y (Nat.succ_pos _) (Sub.refl _) (vfm_len (fun x => (GTable.len x)) (vrd s0.Tables t18_0.toNat))) ?_
   refine rp Y Y (p_move Y Y) ?_
   refine rz [(1, .q 1 (0)), (3, .b ok3_0), (4, .i t18_0), (6, .c (.mref 22)), (17, .g (s0.Tables.toList.flatMap (fun v : Vector GTable 2 => v.toList.flatMap GTable.cs))), (18, .i t18_0), (23, .g (((vrd s0.Tables t18_0.toNat).toList).flatMap GTable.cs)), (24, .i (0 : Int))] [(1, .pure (GState.cs s0)), (22, .pure ([(mcell ([] : MapI))]))] Y Y Y ?_
   refine AW2_block ?_
   refine as2 [(1, .q 1 (0)), (3, .b ok3_0), (4, .i t18_0), (6, .c (.mref 22)), (17, .g (s0.Tables.toList.flatMap (fun v : Vector GTable 2 => v.toList.flatMap GTable.cs))), (18, .i t18_0), (23, .g (((vrd s0.Tables t18_0.toNat).toList).flatMap GTable.cs)), (24, .i (0 : Int))] [(1, .pure (GState.cs s0)), (22, .pure ([(mcell ([] : MapI))]))] Y Y Y ?_
   refine bindK H fun y'13 h19 H => ?_
   refine AW2_loopO (fun a'10 : Bool × Int × MapI => (⟨[(1, .q 1 (0)), (3, .b a'10.1), (4, .i t18_0), (6, .c (.mref 22)), (17, .g (s0.Tables.toList.flatMap (fun v : Vector GTable 2 => v.toList.flatMap GTable.cs))), (18, .i t18_0), (23, .g (((vrd s0.Tables t18_0.toNat).toList).flatMap GTable.cs)), (24, .i a'10.2.1)], [(1, .pure (GState.cs s0)), (22, .pure ([(mcell a'10.2.2)]))], 96⟩ : TS)) (fun (y'11 : Bool) e s' => e = Go.Exit.exit 2 ∧ s' = (⟨[(1, .q 1 (0)), (3, .b y'11), (4, .i t18_0), (17, .g (s0.Tables.toList.flatMap (fun v : Vector GTable 2 => v.toList.flatMap GTable.cs))), (18, .i t18_0)], [(1, .pure (GState.cs s0))], 96⟩ : TS)) h19 Y (fun a x hx => ?_) (fun e s' hs => ?_)
   ·clear H
    obtain ⟨ok3_1, t24_1, t22_1⟩ := a
    have H := hx
    clear hx
    unfold g_ref_StateFault_l1 at H
    refine sg [0] Y ?_
    refine rp Y Y (p_bin Y Y Y Y) ?_
    refine rz [(1, .q 1 (0)), (3, .b ok3_1), (4, .i t18_0), (6, .c (.mref 22)), (17, .g (s0.Tables.toList.flatMap (fun v : Vector GTable 2 => v.toList.flatMap GTable.cs))), (18, .i t18_0), (23, .g (((vrd s0.Tables t18_0.toNat).toList).flatMap GTable.cs)), (24, .i t24_1), (25, .b (decide (t24_1 < (2 : Int))))] [(1, .pure (GState.cs s0)), (22, .pure ([(mcell t22_1)]))] Y Y Y ?_
    refine AW2_seq ?_
    refine AW2_if (p := t24_1 < (2 : Int)) Y (fun h4 => ?_) (fun h4 => ?_)
    ·replace H := ite_then h4 H
     refine as2 [(1, .q 1 (0)), (3, .b ok3_1), (4, .i t18_0), (6, .c (.mref 22)), (17, .g (s0.Tables.toList.flatMap (fun v : Vector GTable 2 => v.toList.flatMap GTable.cs))), (18, .i t18_0), (23, .g (((vrd s0.Tables t18_0.toNat).toList).flatMap GTable.cs)), (24, .i t24_1)] [(1, .pure (GState.cs s0)), (22, .pure ([(mcell t22_1)]))] Y Y Y ?_
     refine AW2_skip ?_
     refine AW2_seq ?_
     refine bindK H fun j'2 h5 H => ?_
     refine AW2_mid (⟨[(1, .q 1 (0)), (3, .b j'2.1), (4, .i t18_0), (6, .c (.mref 22)), (17, .g (s0.Tables.toList.flatMap (fun v : Vector GTable 2 => v.toList.flatMap GTable.cs))), (18, .i t18_0), (23, .g (((vrd s0.Tables t18_0.toNat).toList).flatMap GTable.cs)), (24, .i t24_1)], [(1, .pure (GState.cs s0)), (22, .pure ([(mcell j'2.2)]))], 96⟩ : TS) ?_ ?_
     ·clear H
      have H := h5
      clear h5
      refine AW2_block ?_
      refine sg [0, 1, 2] Y ?_
      refine chkK H fun h6 H => ?_
      refine rp Y Y (u_ixaa Y Y Tryd.underlying30 in_29 Tryd.underlying29 Y Y Y (ixe h6) (ixn h6) (Sub.vfm (fun x => (GTable.len x)) (ixn h6)) (GTable.len (vrd (vrd s0.Tables t18_0.toNat) t24_1.toNat))) ?_
      refine r_op Y Y (MakeD.opD (u_alloc 8 Y in_29 one_29 zc_29) Y Y Y Y) ?_
      refine r_op Y Y (u_st Y Y Y Y Y in_29 (GTable.len (vrd (vrd s0.Tables t18_0.toNat) t24_1.toNat)) (nl (GTable.len GTable.zero)) (Upd.refl ((GTable.len (vrd (vrd s0.Tables t18_0.toNat) t24_1.toNat)).trans (GTable.len GTable.zero).symm))) ?_
      refine rz [(1, .q 1 (0)), (3, .b ok3_1), (4, .i t18_0), (6, .c (.mref 22)), (8, .q 8 (0)), (17, .g (s0.Tables.toList.flatMap (fun v : Vector GTable 2 => v.toList.flatMap GTable.cs))), (18, .i t18_0), (23, .g (((vrd s0.Tables t18_0.toNat).toList).flatMap GTable.cs)), (24, .i t24_1)] [(1, .pure (GState.cs s0)), (8, .pure (GTable.cs (vrd (vrd s0.Tables t18_0.toNat) t24_1.toNat))), (22, .pure ([(mcell t22_1)]))] Y Y Y ?_
      refine AW2_seq ?_
      refine sg [0, 1, 2] Y ?_
      refine rp Y Y (u_fa Y Y Tryd.underlying29 Y in_4 nz Y Y (nl (GTable.len (vrd (vrd s0.Tables t18_0.toNat) t24_1.toNat)))) ?_
      refine rp Y Y (u_ld Y Y Tryd.underlying4 Y Y ((Sub.refl _).trans (GTable.sub0 (vrd (vrd s0.Tables t18_0.toNat) t24_1.toNat)))) ?_
      refine rp Y Y (p_not Y Y) ?_
      refine rz [(1, .q 1 (0)), (3, .b ok3_1), (4, .i t18_0), (6, .c (.mref 22)), (8, .q 8 (0)), (17, .g (s0.Tables.toList.flatMap (fun v : Vector GTable 2 => v.toList.flatMap GTable.cs))), (18, .i t18_0), (23, .g (((vrd s0.Tables t18_0.toNat).toList).flatMap GTable.cs)), (24, .i t24_1), (29, .b (!((vrd (vrd s0.Tables t18_0.toNat) t24_1.toNat).There)))] [(1, .pure (GState.cs s0)), (8, .pure (GTable.cs (vrd (vrd s0.Tables t18_0.toNat) t24_1.toNat))), (22, .pure ([(mcell t22_1)]))] Y Y Y ?_
      refine AW2_cond Y (fun h7 => ?_) (fun h7 => ?_)
      ·replace H := ite_then h7 H
       refine AW2_seq ?_
       refine bindK H fun g'5 h11 H => ?_
       refine AW2_mid (⟨[(1, .q 1 (0)), (3, .b g'5), (4, .i t18_0), (6, .c (.mref 22)), (17, .g (s0.Tables.toList.flatMap (fun v : Vector GTable 2 => v.toList.flatMap GTable.cs))), (18, .i t18_0), (23, .g (((vrd s0.Tables t18_0.toNat).toList).flatMap GTable.cs)), (24, .i t24_1)], [(1, .pure (GState.cs s0)), (22, .pure ([(mcell t22_1)]))], 96⟩ : TS) ?_ ?_
       ·clear H
        have H := h11
        clear h11
        refine AW2_reg [0, 1, 2, 3, 4, 5] Y ?_
        refine rp Y Y (p_move Y Y) ?_
        refine rp Y Y (p_move Y Y) ?_
        refine (Classical.em (ok3_1 = true)).elim (fun h9 => ?_) (fun h9 => ?_)
        ·replace H := ite_then h9 H
         refine rn Y Y Y Y h9 Y (u_lda Y Y Tryd.underlying29 Y in_29 Y (Nat.succ_pos _) (Sub.refl _) (GTable.len (vrd (vrd s0.Tables t18_0.toNat) t24_1.toNat))) ?_
         refine bindK H fun r'4 h10 H => ?_
         refine rn Y Y Y Y h9 Y (p_callp Y Y Y Tryd.func13 Y Y (g_ref_emptyTable_ac h10) ⟨Y, trivial⟩) ?_
         refine rp Y Y (p_pkt Y Y h9 (.same _)) ?_
         refine rp Y Y (p_asg Y Y) ?_
         refine rs [(1, .q 1 (0)), (3, .b r'4), (4, .i t18_0), (6, .c (.mref 22)), (17, .g (s0.Tables.toList.flatMap (fun v : Vector GTable 2 => v.toList.flatMap GTable.cs))), (18, .i t18_0), (23, .g (((vrd s0.Tables t18_0.toNat).toList).flatMap GTable.cs)), (24, .i t24_1)] [(1, .pure (GState.cs s0)), (22, .pure ([(mcell t22_1)]))] Y Y Y ?_
         have hz := some_elim H
         subst hz
         exact RunW_nil rfl
        ·replace H := ite_else h9 H
         iterate 2 (refine r_off rfl rfl rfl rfl (bfalse h9) rfl rfl ?_)
         refine rp Y Y (p_pkf Y Y (bfalse h9) (.same _)) ?_
         refine rp Y Y (p_asg Y Y) ?_
         refine rs [(1, .q 1 (0)), (3, .b false), (4, .i t18_0), (6, .c (.mref 22)), (17, .g (s0.Tables.toList.flatMap (fun v : Vector GTable 2 => v.toList.flatMap GTable.cs))), (18, .i t18_0), (23, .g (((vrd s0.Tables t18_0.toNat).toList).flatMap GTable.cs)), (24, .i t24_1)] [(1, .pure (GState.cs s0)), (22, .pure ([(mcell t22_1)]))] Y Y Y ?_
         have hz := some_elim H
         subst hz
         exact RunW_nil rfl
       ·refine as2 [(1, .q 1 (0)), (3, .b g'5), (4, .i t18_0), (6, .c (.mref 22)), (17, .g (s0.Tables.toList.flatMap (fun v : Vector GTable 2 => v.toList.flatMap GTable.cs))), (18, .i t18_0), (23, .g (((vrd s0.Tables t18_0.toNat).toList).flatMap GTable.cs)), (24, .i t24_1)] [(1, .pure (GState.cs s0)), (22, .pure ([(mcell t22_1)]))] Y Y Y ?_
        refine AW2_exit ?_
        refine thenQ2_exit ?_
        refine blockQ2_exit ?_
        have hz := some_elim H
        subst hz
        exact rfl
      ·replace H := ite_else (ne_true h7) H
       refine as2 [(1, .q 1 (0)), (3, .b ok3_1), (4, .i t18_0), (6, .c (.mref 22)), (8, .q 8 (0)), (17, .g (s0.Tables.toList.flatMap (fun v : Vector GTable 2 => v.toList.flatMap GTable.cs))), (18, .i t18_0), (23, .g (((vrd s0.Tables t18_0.toNat).toList).flatMap GTable.cs)), (24, .i t24_1)] [(1, .pure (GState.cs s0)), (8, .pure (GTable.cs (vrd (vrd s0.Tables t18_0.toNat) t24_1.toNat))), (22, .pure ([(mcell t22_1)]))] Y Y Y ?_
       refine AW2_skip ?_
       refine sg [0, 1, 2, 3, 4, 5] Y ?_
       refine rp Y Y (p_move Y Y) ?_
       refine rp Y Y (u_fa Y Y Tryd.underlying29 Y in_9 nz Y Y (nl (GTable.len (vrd (vrd s0.Tables t18_0.toNat) t24_1.toNat)))) ?_
       refine rp Y Y (u_ld Y Y Tryd.underlying9 Y Y ((Sub.refl _).trans (GTable.sub1 (vrd (vrd s0.Tables t18_0.toNat) t24_1.toNat)))) ?_
       refine rp Y Y (p_mget Y Y Y Y Y Tryd.underlying48 Tryd.underlying9 in_3) ?_
       refine rp Y Y (p_bin Y Y Y Y) ?_
       refine r_op Y Y (d_mput Y Y Y Y Y Y Tryd.underlying48 Tryd.underlying9 Y) ?_
       refine rz [(1, .q 1 (0)), (3, .b ok3_1), (4, .i t18_0), (6, .c (.mref 22)), (8, .q 8 (0)), (17, .g (s0.Tables.toList.flatMap (fun v : Vector GTable 2 => v.toList.flatMap GTable.cs))), (18, .i t18_0), (23, .g (((vrd s0.Tables t18_0.toNat).toList).flatMap GTable.cs)), (24, .i t24_1)] [(1, .pure (GState.cs s0)), (8, .pure (GTable.cs (vrd (vrd s0.Tables t18_0.toNat) t24_1.toNat))), (22, .pure ([(mcell (mputI t22_1 ((vrd (vrd s0.Tables t18_0.toNat) t24_1.toNat).Name) (w64 ((mgetI t22_1 ((vrd (vrd s0.Tables t18_0.toNat) t24_1.toNat).Name)) + (1 : Int)))))]))] Y Y Y ?_
       refine gen1 (fun t22'6 => (⟨[(1, .q 1 (0)), (3, .b ok3_1), (4, .i t18_0), (6, .c (.mref 22)), (8, .q 8 (0)), (17, .g (s0.Tables.toList.flatMap (fun v : Vector GTable 2 => v.toList.flatMap GTable.cs))), (18, .i t18_0), (23, .g (((vrd s0.Tables t18_0.toNat).toList).flatMap GTable.cs)), (24, .i t24_1)], [(1, .pure (GState.cs s0)), (8, .pure (GTable.cs (vrd (vrd s0.Tables t18_0.toNat) t24_1.toNat))), (22, .pure ([(mcell t22'6)]))], 96⟩ : TS)) H ?_
       intro t22'6 H
       refine bindK H fun g'9 h17 H => ?_
       refine AW2_mid (⟨[(1, .q 1 (0)), (3, .b g'9), (4, .i t18_0), (6, .c (.mref 22)), (17, .g (s0.Tables.toList.flatMap (fun v : Vector GTable 2 => v.toList.flatMap GTable.cs))), (18, .i t18_0), (23, .g (((vrd s0.Tables t18_0.toNat).toList).flatMap GTable.cs)), (24, .i t24_1)], [(1, .pure (GState.cs s0)), (22, .pure ([(mcell t22'6)]))], 96⟩ : TS) ?_ ?_
       ·clear H
        have H := h17
        clear h17
        refine AW2_reg [0, 1, 2, 3, 4, 5, 6, 7, 8, 9, 10, 11, 12, 13] Y ?_
        refine rp Y Y (p_move Y Y) ?_
        refine rp Y Y (p_move Y Y) ?_
        refine (Classical.em (ok3_1 = true)).elim (fun h14 => ?_) (fun h14 => ?_)
        ·replace H := ite_then h14 H
         refine rn Y Y Y Y h14 Y (u_lda Y Y Tryd.underlying29 Y in_29 Y (Nat.succ_pos _) (Sub.refl _) (GTable.len (vrd (vrd s0.Tables t18_0.toNat) t24_1.toNat))) ?_
         refine bindK H fun r'8 h15 H => ?_
         refine rn Y Y Y Y h14 Y (p_callp Y Y Y Tryd.func14 Y Y (g_ref_TableFault_ac h15) ⟨Y, trivial⟩) ?_
         refine rn Y Y Y Y h14 Y (p_ieq Y Y Y) ?_
         refine rp Y Y (p_pkt Y Y h14 (.same _)) ?_
         refine rp Y Y (p_move Y Y) ?_
         refine (Classical.em (r'8 = (0 : Int))).elim (fun h16 => ?_) (fun h16 => ?_)
         ·replace H := ite_then h16 H
          refine r_on Y Y Y Y (dT h16) Y (PureD.opD (p_move Y Y)) ?_
          refine r_on Y Y Y Y (dT h16) Y (PureD.opD (u_fa Y Y Tryd.underlying29 Y in_9 nz Y Y (nl (GTable.len (vrd (vrd s0.Tables t18_0.toNat) t24_1.toNat))))) ?_
          refine r_on Y Y Y Y (dT h16) Y (PureD.opD (u_ld Y Y Tryd.underlying9 Y Y ((Sub.refl _).trans (GTable.sub1 (vrd (vrd s0.Tables t18_0.toNat) t24_1.toNat))))) ?_
          refine r_on Y Y Y Y (dT h16) Y (PureD.opD (p_mget Y Y Y Y Y Tryd.underlying48 Tryd.underlying9 in_3)) ?_
          refine r_on Y Y Y Y (dT h16) Y (PureD.opD (p_ieq Y Y Y)) ?_
          refine rp Y Y (p_pkt Y Y (dT h16) (.same _)) ?_
          refine rp Y Y (p_asg Y Y) ?_
          refine rs [(1, .q 1 (0)), (3, .b (decide (mgetI t22'6 ((vrd (vrd s0.Tables t18_0.toNat) t24_1.toNat).Name) = (1 : Int)))), (4, .i t18_0), (6, .c (.mref 22)), (17, .g (s0.Tables.toList.flatMap (fun v : Vector GTable 2 => v.toList.flatMap GTable.cs))), (18, .i t18_0), (23, .g (((vrd s0.Tables t18_0.toNat).toList).flatMap GTable.cs)), (24, .i t24_1)] [(1, .pure (GState.cs s0)), (22, .pure ([(mcell t22'6)]))] Y Y Y ?_
          have hz := some_elim H
          subst hz
          exact RunW_nil rfl
         ·replace H := ite_else h16 H
          iterate 5 (refine r_off rfl rfl rfl rfl (dF h16) rfl rfl ?_)
          refine rp Y Y (p_pkf Y Y (dF h16) (.same _)) ?_
          refine rp Y Y (p_asg Y Y) ?_
          refine rs [(1, .q 1 (0)), (3, .b false), (4, .i t18_0), (6, .c (.mref 22)), (17, .g (s0.Tables.toList.flatMap (fun v : Vector GTable 2 => v.toList.flatMap GTable.cs))), (18, .i t18_0), (23, .g (((vrd s0.Tables t18_0.toNat).toList).flatMap GTable.cs)), (24, .i t24_1)] [(1, .pure (GState.cs s0)), (22, .pure ([(mcell t22'6)]))] Y Y Y ?_
          have hz := some_elim H
          subst hz
          exact RunW_nil rfl
        ·replace H := ite_else h14 H
         iterate 3 (refine r_off rfl rfl rfl rfl (bfalse h14) rfl rfl ?_)
         refine rp Y Y (p_pkf Y Y (bfalse h14) (.same _)) ?_
         refine rp Y Y (p_move Y Y) ?_
         iterate 5 (refine r_off rfl rfl rfl rfl (bfalse (by decide)) rfl rfl ?_)
         refine rp Y Y (p_pkf Y Y (bfalse (by decide)) (.same _)) ?_
         refine rp Y Y (p_asg Y Y) ?_
         refine rs [(1, .q 1 (0)), (3, .b false), (4, .i t18_0), (6, .c (.mref 22)), (17, .g (s0.Tables.toList.flatMap (fun v : Vector GTable 2 => v.toList.flatMap GTable.cs))), (18, .i t18_0), (23, .g (((vrd s0.Tables t18_0.toNat).toList).flatMap GTable.cs)), (24, .i t24_1)] [(1, .pure (GState.cs s0)), (22, .pure ([(mcell t22'6)]))] Y Y Y ?_
         have hz := some_elim H
         subst hz
         exact RunW_nil rfl
       ·have hz := some_elim H
        subst hz
        exact rfl
     ·refine AW2_reg [0, 1] Y ?_
      refine rp Y Y (p_bin Y Y Y Y) ?_
      refine rp Y Y (p_move Y Y) ?_
      refine rz [(1, .q 1 (0)), (3, .b j'2.1), (4, .i t18_0), (6, .c (.mref 22)), (17, .g (s0.Tables.toList.flatMap (fun v : Vector GTable 2 => v.toList.flatMap GTable.cs))), (18, .i t18_0), (23, .g (((vrd s0.Tables t18_0.toNat).toList).flatMap GTable.cs)), (24, .i (w64 (t24_1 + (1 : Int))))] [(1, .pure (GState.cs s0)), (22, .pure ([(mcell j'2.2)]))] Y Y Y ?_
      have hz := some_elim H
      subst hz
      exact ⟨Y, Y⟩
    ·replace H := ite_else h4 H
     refine as2 [(1, .q 1 (0)), (3, .b ok3_1), (4, .i t18_0), (17, .g (s0.Tables.toList.flatMap (fun v : Vector GTable 2 => v.toList.flatMap GTable.cs))), (18, .i t18_0)] [(1, .pure (GState.cs s0))] Y Y Y ?_
     refine AW2_exit ?_
     refine thenQ2_exit ?_
     have hz := some_elim H
     subst hz
     exact ⟨Y, Y⟩
   ·obtain ⟨rfl, rfl⟩ := hs
    refine ⟨by simp, ?_⟩
    refine blockQ2_exit ?_
    refine bindK H fun g'14 h25 H => ?_
    refine AW2_mid (⟨[(1, .q 1 (0)), (3, .b g'14), (17, .g (s0.Tables.toList.flatMap (fun v : Vector GTable 2 => v.toList.flatMap GTable.cs))), (18, .i t18_0)], [(1, .pure (GState.cs s0))], 96⟩ : TS) ?_ ?_
    ·clear H
     have H := h25
     clear h25
     refine AW2_reg [0, 1, 2, 3, 4, 5, 6, 7, 8, 9, 10, 11, 12, 13, 14, 15] Y ?_
     refine rp Y Y (p_move Y Y) ?_
     refine rp Y Y (p_move Y Y) ?_
     refine (Classical.em (y'13 = true)).elim (fun h21 => ?_) (fun h21 => ?_)
     ·replace H := ite_then h21 H
      refine rn Y Y Y Y h21 Y (p_move Y Y) ?_
      refine rn Y Y Y Y h21 Y (u_fa Y Y Tryd.underlying35 Y in_33 nz Y Y (nl (GState.len s0))) ?_
      refine chkK H fun h22 H => ?_
      refine rn Y Y Y Y h21 Y (u_ixp Y Y Tryd.underlying33 in_3 Y Y (nl (GState.len s0)) Y (ixe h22) (ixn h22)) ?_
      refine rn Y Y Y Y h21 Y (u_ld Y Y Tryd.underlying3 Y Y (((Sub.refl _).trans (GState.sub2 s0)).trans (Sub.vmap (ixn h22)))) ?_
      refine rn Y Y Y Y h21 Y (p_bin Y Y Y Y) ?_
      refine rp Y Y (p_pkt Y Y h21 (.same _)) ?_
      refine rp Y Y (p_move Y Y) ?_
      refine (Classical.em ((vrd s0.Asked t18_0.toNat) ≥ (0 : Int))).elim (fun h23 => ?_) (fun h23 => ?_)
      ·replace H := ite_then h23 H
       refine r_on Y Y Y Y (dT h23) Y (PureD.opD (p_move Y Y)) ?_
       refine r_on Y Y Y Y (dT h23) Y (PureD.opD (u_fa Y Y Tryd.underlying35 Y in_33 nz Y Y (nl (GState.len s0)))) ?_
       refine chkK H fun h24 H => ?_
       refine r_on Y Y Y Y (dT h23) Y (PureD.opD (u_ixp Y Y Tryd.underlying33 in_3 Y Y (nl (GState.len s0)) Y (ixe h24) (ixn h24))) ?_
       refine r_on Y Y Y Y (dT h23) Y (PureD.opD (u_ld Y Y Tryd.underlying3 Y Y (((Sub.refl _).trans (GState.sub2 s0)).trans (Sub.vmap (ixn h24))))) ?_
       refine r_on Y Y Y Y (dT h23) Y (PureD.opD (p_bin Y Y Y Y)) ?_
       refine rp Y Y (p_pkt Y Y (dT h23) (.same _)) ?_
       refine rp Y Y (p_asg Y Y) ?_
       refine rs [(1, .q 1 (0)), (3, .b (decide ((vrd s0.Asked t18_0.toNat) ≤ (12 : Int)))), (17, .g (s0.Tables.toList.flatMap (fun v : Vector GTable 2 => v.toList.flatMap GTable.cs))), (18, .i t18_0)] [(1, .pure (GState.cs s0))] Y Y Y ?_
       have hz := some_elim H
       subst hz
       exact RunW_nil rfl
      ·replace H := ite_else h23 H
       iterate 5 (refine r_off rfl rfl rfl rfl (dF h23) rfl rfl ?_)
       refine rp Y Y (p_pkf Y Y (dF h23) (.same _)) ?_
       refine rp Y Y (p_asg Y Y) ?_
       refine rs [(1, .q 1 (0)), (3, .b false), (17, .g (s0.Tables.toList.flatMap (fun v : Vector GTable 2 => v.toList.flatMap GTable.cs))), (18, .i t18_0)] [(1, .pure (GState.cs s0))] Y Y Y ?_
       have hz := some_elim H
       subst hz
       exact RunW_nil rfl
     ·replace H := ite_else h21 H
      iterate 5 (refine r_off rfl rfl rfl rfl (bfalse h21) rfl rfl ?_)
      refine rp Y Y (p_pkf Y Y (bfalse h21) (.same _)) ?_
      refine rp Y Y (p_move Y Y) ?_
      iterate 5 (refine r_off rfl rfl rfl rfl (bfalse (by decide)) rfl rfl ?_)
      refine rp Y Y (p_pkf Y Y (bfalse (by decide)) (.same _)) ?_
      refine rp Y Y (p_asg Y Y) ?_
      refine rs [(1, .q 1 (0)), (3, .b false), (17, .g (s0.Tables.toList.flatMap (fun v : Vector GTable 2 => v.toList.flatMap GTable.cs))), (18, .i t18_0)] [(1, .pure (GState.cs s0))] Y Y Y ?_
      have hz := some_elim H
      subst hz
      exact RunW_nil rfl
    ·refine AW2_reg [0, 1] Y ?_
     refine rp Y Y (p_bin Y Y Y Y) ?_
     refine rp Y Y (p_move Y Y) ?_
     refine rz [(1, .q 1 (0)), (3, .b g'14), (17, .g (s0.Tables.toList.flatMap (fun v : Vector GTable 2 => v.toList.flatMap GTable.cs))), (18, .i (w64 (t18_0 + (1 : Int))))] [(1, .pure (GState.cs s0))] Y Y Y ?_
     have hz := some_elim H
     subst hz
     exact ⟨Y, Y⟩
  ·replace H := ite_else h2 H
   refine as2 [(1, .q 1 (0)), (3, .b ok3_0)] [(1, .pure (GState.cs s0))] Y Y Y ?_
   refine AW2_exit ?_
   refine thenQ2_exit ?_
   have hz := some_elim H
   subst hz
   exact ⟨Y, Y⟩
 ·obtain ⟨rfl, rfl⟩ := hs
  refine ⟨by simp, ?_⟩
  refine blockQ2_exit ?_
  refine AW2_seq ?_
  refine bindK H fun j'19 h28 H => ?_
  refine AW2_mid (⟨[(3, .b j'19)], [], 96⟩ : TS) ?_ ?_
  ·clear H
   have H := h28
   clear h28
   refine sg [0] Y ?_
   refine rp Y Y (p_move Y Y) ?_
   refine rz [(1, .q 1 (0)), (3, .b y'18), (70, .b y'18)] [(1, .pure (GState.cs s0))] Y Y Y ?_
   refine AW2_cond Y (fun h29 => ?_) (fun h29 => ?_)
   ·replace H := ite_then h29 H
    refine sg [0, 1, 2, 3] Y ?_
    refine rp Y Y (u_fa Y Y Tryd.underlying35 Y in_32 nz Y Y (nl (GState.len s0))) ?_
    refine rp Y Y (u_ld Y Y Tryd.underlying32 Y Y ((Sub.refl _).trans (GState.sub1 s0))) ?_
    refine rp Y Y (p_lenl Y Tryd.underlying32 Y Y) ?_
    refine rp Y Y (p_move Y Y) ?_
    refine rz [(1, .q 1 (0)), (3, .b y'18), (72, .p ((fun q : List GGrant => AV.lst (q.flatMap GGrant.cs) q.length) s0.Grants)), (73, .i (s0.Grants.length : Int)), (74, .i (0 : Int))] [(1, .pure (GState.cs s0))] Y Y Y ?_
    refine AW2_block ?_
    refine as2 [(1, .q 1 (0)), (3, .b y'18), (72, .p ((fun q : List GGrant => AV.lst (q.flatMap GGrant.cs) q.length) s0.Grants)), (73, .i (s0.Grants.length : Int)), (74, .i (0 : Int))] [(1, .pure (GState.cs s0))] Y Y Y ?_
    refine bindK H fun y'24 h38 H => ?_
    refine AW2_loopO (fun a'21 : Bool × Int => (⟨[(1, .q 1 (0)), (3, .b a'21.1), (72, .p ((fun q : List GGrant => AV.lst (q.flatMap GGrant.cs) q.length) s0.Grants)), (73, .i (s0.Grants.length : Int)), (74, .i a'21.2)], [(1, .pure (GState.cs s0))], 96⟩ : TS)) (fun (y'22 : Bool) e s' => e = Go.Exit.exit 4 ∧ s' = (⟨[(3, .b y'22)], [], 96⟩ : TS)) h38 Y (fun a x hx => ?_) (fun e s' hs => ?_)
    ·clear H
     obtain ⟨ok3_2, t74_2⟩ := a
     have H := hx
     clear hx
     unfold g_ref_StateFault_l2 at H
     refine sg [0] Y ?_
     refine rp Y Y (p_bin Y Y Y Y) ?_
     refine rz [(1, .q 1 (0)), (3, .b ok3_2), (72, .p ((fun q : List GGrant => AV.lst (q.flatMap GGrant.cs) q.length) s0.Grants)), (73, .i (s0.Grants.length : Int)), (74, .i t74_2), (75, .b (decide (t74_2 < (s0.Grants.length : Int))))] [(1, .pure (GState.cs s0))] Y Y Y ?_
     refine AW2_seq ?_
     refine AW2_if (p := t74_2 < (s0.Grants.length : Int)) Y (fun h30 => ?_) (fun h30 => ?_)
     ·replace H := ite_then h30 H
      refine as2 [(1, .q 1 (0)), (3, .b ok3_2), (72, .p ((fun q : List GGrant => AV.lst (q.flatMap GGrant.cs) q.length) s0.Grants)), (73, .i (s0.Grants.length : Int)), (74, .i t74_2)] [(1, .pure (GState.cs s0))] Y Y Y ?_
      refine AW2_skip ?_
      refine AW2_seq ?_
      refine AW2_block ?_
      refine sg [0, 1, 2, 3] Y ?_
      refine chkK H fun h31 H => ?_
      refine rp Y Y (u_ixl Y Y Tryd.underlying32 in_47 Y Y (ixe h31) (ixn h31) (fne (fun x => (GGrant.len x)) (by decide) (ixn h31))) ?_
      refine rp Y Y (u_lda Y Y Tryd.underlying47 Y in_47 Y (Nat.succ_pos _) (Sub.fm default (fun x => (GGrant.len x)) (ixn h31)) (GGrant.len (lrd s0.Grants t74_2.toNat))) ?_
      refine r_op Y Y (MakeD.opD (u_alloc 10 Y in_47 one_47 zc_47) Y Y Y Y) ?_
      refine r_op Y Y (u_st Y Y Y Y Y in_47 (GGrant.len (lrd s0.Grants t74_2.toNat)) (nl (GGrant.len GGrant.zero)) (Upd.refl ((GGrant.len (lrd s0.Grants t74_2.toNat)).trans (GGrant.len GGrant.zero).symm))) ?_
      refine rz [(1, .q 1 (0)), (3, .b ok3_2), (10, .q 10 (0)), (72, .p ((fun q : List GGrant => AV.lst (q.flatMap GGrant.cs) q.length) s0.Grants)), (73, .i (s0.Grants.length : Int)), (74, .i t74_2)] [(1, .pure (GState.cs s0)), (10, .pure (GGrant.cs (lrd s0.Grants t74_2.toNat)))] Y Y Y ?_
      refine sg [0, 1, 2, 3] Y ?_
      refine rp Y Y (u_fa Y Y Tryd.underlying47 Y in_3 nz Y Y (nl (GGrant.len (lrd s0.Grants t74_2.toNat)))) ?_
      refine rp Y Y (u_ld Y Y Tryd.underlying3 Y Y ((Sub.refl _).trans (GGrant.sub2 (lrd s0.Grants t74_2.toNat)))) ?_
      refine rp Y Y (p_iquo Y Y Y (by decide)) ?_
      refine rp Y Y (p_asg Y Y) ?_
      refine rz [(1, .q 1 (0)), (3, .b ok3_2), (11, .i (w64 (((lrd s0.Grants t74_2.toNat).Object).tdiv (2 : Int)))), (72, .p ((fun q : List GGrant => AV.lst (q.flatMap GGrant.cs) q.length) s0.Grants)), (73, .i (s0.Grants.length : Int)), (74, .i t74_2)] [(1, .pure (GState.cs s0))] Y Y Y ?_
      refine bindK H fun g'20 h36 H => ?_
      refine AW2_mid (⟨[(1, .q 1 (0)), (3, .b g'20), (72, .p ((fun q : List GGrant => AV.lst (q.flatMap GGrant.cs) q.length) s0.Grants)), (73, .i (s0.Grants.length : Int)), (74, .i t74_2)], [(1, .pure (GState.cs s0))], 96⟩ : TS) ?_ ?_
      ·clear H
       have H := h36
       clear h36
       refine AW2_reg [0, 1, 2, 3, 4, 5, 6, 7, 8, 9, 10, 11, 12] Y ?_
       refine rp Y Y (p_move Y Y) ?_
       refine rp Y Y (p_move Y Y) ?_
       refine (Classical.em (ok3_2 = true)).elim (fun h33 => ?_) (fun h33 => ?_)
       ·replace H := ite_then h33 H
        refine rn Y Y Y Y h33 Y (p_move Y Y) ?_
        refine rn Y Y Y Y h33 Y (p_iquo Y Y Y (by decide)) ?_
        refine rn Y Y Y Y h33 Y (p_move Y Y) ?_
        refine rn Y Y Y Y h33 Y (p_irem Y Y Y (by decide)) ?_
        refine rn Y Y Y Y h33 Y (u_fa Y Y Tryd.underlying35 Y in_31 nz Y Y (nl (GState.len s0))) ?_
        refine chkK H fun h34 H => ?_
        refine rn Y Y Y Y h33 Y (u_ixp Y Y Tryd.underlying31 in_30 Y Y (nl (GState.len s0)) Y (ixe h34) (ixn h34)) ?_
        refine chkK H fun h35 H => ?_
        refine rn Y Y Y Y h33 Y (u_ixp Y Y Tryd.underlying30 in_29 Y Y (nl (GState.len s0)) Y (ixe h35) (ixn h35)) ?_
        refine rn Y Y Y Y h33 Y (u_fa Y Y Tryd.underlying29 Y in_4 nz Y Y (nl (GState.len s0))) ?_
        refine rn Y Y Y Y h33 Y (u_ld Y Y Tryd.underlying4 Y Y (((((Sub.refl _).trans (GState.sub0 s0)).trans (Sub.vfm (fun x => (vfm_len (fun x => (GTable.len x)) x)) (ixn h34))).trans (Sub.vfm (fun x => (GTable.len x)) (ixn h35))).trans (GTable.sub0 (vrd (vrd s0.Tables ((w64 ((w64 (((lrd s0.Grants t74_2.toNat).Object).tdiv (2 : Int))).tdiv (2 : Int))).toNat)) (((w64 (((lrd s0.Grants t74_2.toNat).Object).tdiv (2 : Int))).tmod (2 : Int)).toNat))))) ?_
        refine rp Y Y (p_pkt Y Y h33 (.same _)) ?_
        refine rp Y Y (p_asg Y Y) ?_
        refine rs [(1, .q 1 (0)), (3, .b ((vrd (vrd s0.Tables ((w64 ((w64 (((lrd s0.Grants t74_2.toNat).Object).tdiv (2 : Int))).tdiv (2 : Int))).toNat)) (((w64 (((lrd s0.Grants t74_2.toNat).Object).tdiv (2 : Int))).tmod (2 : Int)).toNat)).There)), (72, .p ((fun q : List GGrant => AV.lst (q.flatMap GGrant.cs) q.length) s0.Grants)), (73, .i (s0.Grants.length : Int)), (74, .i t74_2)] [(1, .pure (GState.cs s0))] Y Y Y ?_
        have hz := some_elim H
        subst hz
        exact RunW_nil rfl
       ·replace H := ite_else h33 H
        iterate 9 (refine r_off rfl rfl rfl rfl (bfalse h33) rfl rfl ?_)
        refine rp Y Y (p_pkf Y Y (bfalse h33) (.same _)) ?_
        refine rp Y Y (p_asg Y Y) ?_
        refine rs [(1, .q 1 (0)), (3, .b false), (72, .p ((fun q : List GGrant => AV.lst (q.flatMap GGrant.cs) q.length) s0.Grants)), (73, .i (s0.Grants.length : Int)), (74, .i t74_2)] [(1, .pure (GState.cs s0))] Y Y Y ?_
        have hz := some_elim H
        subst hz
        exact RunW_nil rfl
      ·refine AW2_reg [0, 1] Y ?_
       refine rp Y Y (p_bin Y Y Y Y) ?_
       refine rp Y Y (p_move Y Y) ?_
       refine rz [(1, .q 1 (0)), (3, .b g'20), (72, .p ((fun q : List GGrant => AV.lst (q.flatMap GGrant.cs) q.length) s0.Grants)), (73, .i (s0.Grants.length : Int)), (74, .i (w64 (t74_2 + (1 : Int))))] [(1, .pure (GState.cs s0))] Y Y Y ?_
       have hz := some_elim H
       subst hz
       exact ⟨Y, Y⟩
     ·replace H := ite_else h30 H
      refine as2 [(3, .b ok3_2)] [] Y Y Y ?_
      refine AW2_exit ?_
      refine thenQ2_exit ?_
      have hz := some_elim H
      subst hz
      exact ⟨Y, Y⟩
    ·obtain ⟨rfl, rfl⟩ := hs
     refine ⟨by simp, ?_⟩
     refine blockQ2_exit ?_
     have hz := some_elim H
     subst hz
     exact rfl
   ·replace H := ite_else (ne_true h29) H
    refine as2 [(3, .b y'18)] [] Y Y Y ?_
    refine AW2_skip ?_
    have hz := some_elim H
    subst hz
    exact rfl
  ·refine AW2_seq ?_
   refine sg [0, 1] Y ?_
   refine rp Y Y (p_move Y Y) ?_
   refine rp Y Y (p_not Y Y) ?_
   refine rz [(95, .b (!j'19))] [] Y Y Y ?_
   refine AW2_cond Y (fun h39 => ?_) (fun h39 => ?_)
   ·replace H := ite_then h39 H
    refine sg [0] Y ?_
    refine rp Y Y (p_asg Y Y) ?_
    refine rz [(2, .i (11 : Int))] [] Y Y Y ?_
    refine AW2_ret ?_
    have hz := some_elim H
    subst hz
    exact ⟨⟨res_tmp (.same _), trivial⟩, trivial⟩
   ·replace H := ite_else (ne_true h39) H
    refine as2 [] [] Y Y Y ?_
    refine AW2_skip ?_
    refine sg [0] Y ?_
    refine rp Y Y (p_asg Y Y) ?_
    refine rz [(2, .i (0 : Int))] [] Y Y Y ?_
    refine AW2_ret ?_
    have hz := some_elim H
    subst hz
    exact ⟨⟨res_tmp (.same _), trivial⟩, trivial⟩

/-! chirographlaw.DeedChecks -/
noncomputable def g_law_DeedChecks (s0 : GState) : Option (Bool) :=
  (g_deed_Check s0).bind fun r'1 => (g_ref_StateFault s0).bind fun r'2 => some (decide (r'1 = r'2))
set_option maxHeartbeats 4000000 in
set_option maxRecDepth 100000 in
theorem g_law_DeedChecks_ac {s0 : GState} {r : Bool} (H : g_law_DeedChecks s0 = some r) : ACp Tryd.prog 3 [(.agg (GState.cs s0))] (AV.bool r) := by
 refine ACp_of (AC2_of_body (vs := [.b r]) Tryd.func3 Y Y (Nat.le_of_ble_eq_true Y) Y ?_) (fun _ => .same _)
 unfold g_law_DeedChecks at H
 refine as2 [(0, .g (GState.cs s0))] [] Y Y Y ?_
 refine sg [0, 1] Y ?_
 refine r_op Y Y (MakeD.opD (n_box 1 Y Y) Y Y Y Y) ?_
 refine rp Y Y (p_asg Y Y) ?_
 refine rz [(1, .q 1 (0))] [(1, .pure (GState.cs s0))] Y Y Y ?_
 refine sg [0, 1, 2] Y ?_
 refine rp Y Y (u_lda Y Y Tryd.underlying35 Y in_35 Y (Nat.succ_pos _) (Sub.refl _) (GState.len s0)) ?_
 refine bindK H fun r'1 h1 H => ?_
 refine rp Y Y (p_callp Y Y Y Tryd.func5 Y Y (g_deed_Check_ac h1) ⟨Y, trivial⟩) ?_
 refine rp Y Y (p_asg Y Y) ?_
 refine rz [(1, .q 1 (0)), (3, .i r'1)] [(1, .pure (GState.cs s0))] Y Y Y ?_
 refine sg [0, 1, 2] Y ?_
 refine rp Y Y (u_lda Y Y Tryd.underlying35 Y in_35 Y (Nat.succ_pos _) (Sub.refl _) (GState.len s0)) ?_
 refine bindK H fun r'2 h2 H => ?_
 refine rp Y Y (p_callp Y Y Y Tryd.func6 Y Y (g_ref_StateFault_ac h2) ⟨Y, trivial⟩) ?_
 refine rp Y Y (p_asg Y Y) ?_
 refine rz [(3, .i r'1), (4, .i r'2)] [] Y Y Y ?_
 refine sg [0, 1, 2, 3] Y ?_
 refine rp Y Y (p_move Y Y) ?_
 refine rp Y Y (p_move Y Y) ?_
 refine rp Y Y (p_ieq Y Y Y) ?_
 refine rp Y Y (p_asg Y Y) ?_
 refine rz [(2, .b (decide (r'1 = r'2)))] [] Y Y Y ?_
 refine AW2_ret ?_
 have hz := some_elim H
 subst hz
 exact ⟨⟨res_tmp (.same _), trivial⟩, trivial⟩

/-! deed.placed -/
noncomputable def g_deed_placed_l1 (s0 : GState) (user1 : Int) (owner2 : Int) (t24_0 : Int) : Int → Option (Int ⊕ ((Int × Int) ⊕ Unit))
  | t44_1 => (if t44_1 < (s0.Grants.length : Int) then if 0 ≤ t44_1 ∧ t44_1 < (s0.Grants.length : Int) then (if ((lrd s0.Grants t44_1.toNat).To = user1) ∧ (w64 (((lrd s0.Grants t44_1.toNat).Object).tdiv (2 : Int)) = w64 ((w64 (owner2 * (2 : Int))) + t24_0)) then some (.inr (.inl (t24_0, (0 : Int)))) else some (.inl (w64 (t44_1 + (1 : Int))))) else none else some (.inr (.inr ())))
noncomputable def g_deed_placed_l0 (s0 : GState) (user1 : Int) (owner2 : Int) (name3 : List UInt8) : Int → Option (Int ⊕ ((Int × Int) ⊕ Unit))
  | t24_0 => (if t24_0 < (2 : Int) then (show Option ((Int × Int) ⊕ Unit) from if 0 ≤ t24_0 ∧ t24_0 < (2 : Int) then (if ((!((vrd (vrd s0.Tables owner2.toNat) t24_0.toNat).There)) = true) ∨ ((vrd (vrd s0.Tables owner2.toNat) t24_0.toNat).Name ≠ name3) then some (.inr ()) else (if owner2 = user1 then some (.inl (t24_0, (0 : Int))) else (loopO (g_deed_placed_l1 s0 user1 owner2 t24_0) (0 : Int)).bind fun o'5 => match o'5 with | .inl y'6 => some (.inl y'6) | .inr (y'7) => some (.inr ()))) else none).bind fun o'9 => match o'9 with | .inl y'8 => some (.inr (.inl y'8)) | .inr j'1 => some (.inl (w64 (t24_0 + (1 : Int)))) else some (.inr (.inr ())))
noncomputable def g_deed_placed (s0 : GState) (user1 : Int) (owner2 : Int) (name3 : List UInt8) : Option (Int × Int) :=
  (if (owner2 < (0 : Int)) ∨ (owner2 ≥ (3 : Int)) then some ((0 : Int), (5 : Int)) else if 0 ≤ owner2 ∧ owner2 < (3 : Int) then (loopO (g_deed_placed_l0 s0 user1 owner2 name3) (0 : Int)).bind fun o'13 => match o'13 with | .inl y'14 => some y'14 | .inr (y'15) => some ((0 : Int), (5 : Int)) else none)
set_option maxHeartbeats 4000000 in
set_option maxRecDepth 100000 in
theorem g_deed_placed_ac {s0 : GState} {user1 : Int} {owner2 : Int} {name3 : List UInt8} {r : Int × Int} (H : g_deed_placed s0 user1 owner2 name3 = some r) : ACp Tryd.prog 15 [(.agg (GState.cs s0)), (AV.int user1), (AV.int owner2), (AV.txt name3)] (.tup [(AV.int r.1), (AV.int r.2)]) := by
 refine ACp_of (AC2_of_body (vs := [.i r.1, .i r.2]) Tryd.func15 Y Y (Nat.le_of_ble_eq_true Y) Y ?_) (fun _ => .same _)
 unfold g_deed_placed at H
 refine as2 [(0, .g (GState.cs s0)), (1, .i user1), (2, .i owner2), (3, .t name3)] [] Y Y Y ?_
 refine sg [0, 1, 2] Y ?_
 refine r_op Y Y (MakeD.opD (n_box 4 Y Y) Y Y Y Y) ?_
 refine rp Y Y (p_asg Y Y) ?_
 refine rp Y Y (p_asg Y Y) ?_
 refine rz [(1, .i user1), (2, .i owner2), (3, .t name3), (4, .q 4 (0))] [(4, .pure (GState.cs s0))] Y Y Y ?_
 refine AW2_seq ?_
 refine AW2_seq ?_
 refine AW2_mid (⟨[(1, .i user1), (2, .i owner2), (3, .t name3), (4, .q 4 (0)), (19, .b (decide ((owner2 < (0 : Int)) ∨ (owner2 ≥ (3 : Int)))))], [(4, .pure (GState.cs s0))], 65⟩ : TS) ?_ ?_
 ·refine AW2_reg [0, 1, 2, 3, 4, 5] Y ?_
  refine rp Y Y (p_move Y Y) ?_
  refine rp Y Y (p_bin Y Y Y Y) ?_
  refine rp Y Y (p_move Y Y) ?_
  refine (Classical.em (owner2 < (0 : Int))).elim (fun h1 => ?_) (fun h1 => ?_)
  ·refine r_off Y Y Y Y (dT h1) Y Y ?_
   refine r_off Y Y Y Y (dT h1) Y Y ?_
   refine rp Y Y (p_pkt Y Y (dT h1) (tb (dT (p := (owner2 < (0 : Int)) ∨ (owner2 ≥ (3 : Int))) (Or.inl h1)).symm)) ?_
   refine rs [(1, .i user1), (2, .i owner2), (3, .t name3), (4, .q 4 (0)), (19, .b (decide ((owner2 < (0 : Int)) ∨ (owner2 ≥ (3 : Int)))))] [(4, .pure (GState.cs s0))] Y Y Y ?_
   exact RunW_nil rfl
  ·refine r_on Y Y Y Y (dF h1) Y (PureD.opD (p_move Y Y)) ?_
   refine r_on Y Y Y Y (dF h1) Y (PureD.opD (p_bin Y Y Y Y)) ?_
   refine rp Y Y (p_pkf Y Y (dF h1) (tb ((or_l (p := owner2 < (0 : Int)) (q := owner2 ≥ (3 : Int)) h1)))) ?_
   refine rs [(1, .i user1), (2, .i owner2), (3, .t name3), (4, .q 4 (0)), (19, .b (decide ((owner2 < (0 : Int)) ∨ (owner2 ≥ (3 : Int)))))] [(4, .pure (GState.cs s0))] Y Y Y ?_
   exact RunW_nil rfl
 ·refine AW2_if (p := (owner2 < (0 : Int)) ∨ (owner2 ≥ (3 : Int))) Y (fun h2 => ?_) (fun h2 => ?_)
  ·replace H := ite_then h2 H
   refine sg [0, 1] Y ?_
   refine rp Y Y (p_asg Y Y) ?_
   refine rp Y Y (p_asg Y Y) ?_
   refine rz [(8, .i (0 : Int)), (9, .i (5 : Int))] [] Y Y Y ?_
   refine AW2_ret ?_
   have hz := some_elim H
   subst hz
   exact ⟨⟨res_tmp (.same _), res_tmp (.same _), trivial⟩, trivial⟩
  ·replace H := ite_else h2 H
   refine as2 [(1, .i user1), (2, .i owner2), (3, .t name3), (4, .q 4 (0))] [(4, .pure (GState.cs s0))] Y Y Y ?_
   refine AW2_skip ?_
   refine AW2_seq ?_
   refine sg [0, 1, 2, 3, 4] Y ?_
   refine rp Y Y (p_move Y Y) ?_
   refine rp Y Y (u_fa Y Y Tryd.underlying35 Y in_31 nz Y Y (nl (GState.len s0))) ?_
   refine chkK H fun h3 H => ?_
   refine rp Y Y (u_ixp Y Y Tryd.underlying31 in_30 Y Y (nl (GState.len s0)) Y (ixe h3) (ixn h3)) ?_
   refine rp Y Y (u_lda Y Y Tryd.underlying30 Y in_30 Y (Nat.succ_pos _) (((Sub.refl _).trans (GState.sub0 s0)).trans (Sub.vfm (fun x => (vfm_len (fun x => (GTable.len x)) x)) (ixn h3))) (vfm_len (fun x => (GTable.len x)) (vrd s0.Tables owner2.toNat))) ?_
   refine rp Y Y (p_move Y Y) ?_
   refine rz [(1, .i user1), (2, .i owner2), (3, .t name3), (4, .q 4 (0)), (23, .g (((vrd s0.Tables owner2.toNat).toList).flatMap GTable.cs)), (24, .i (0 : Int))] [(4, .pure (GState.cs s0))] Y Y Y ?_
   refine AW2_block ?_
   refine as2 [(1, .i user1), (2, .i owner2), (3, .t name3), (4, .q 4 (0)), (23, .g (((vrd s0.Tables owner2.toNat).toList).flatMap GTable.cs)), (24, .i (0 : Int))] [(4, .pure (GState.cs s0))] Y Y Y ?_
   refine bindK H fun o'13 h15 H => ?_
   refine AW2_loopO (fun a'10 : Int => (⟨[(1, .i user1), (2, .i owner2), (3, .t name3), (4, .q 4 (0)), (23, .g (((vrd s0.Tables owner2.toNat).toList).flatMap GTable.cs)), (24, .i a'10)], [(4, .pure (GState.cs s0))], 65⟩ : TS)) (fun (o : (Int × Int) ⊕ Unit) e s' => match o with | .inl y'11 => e = Go.Exit.ret ∧ ResAll Tryd.prog s' [ResultVar.tmp 8, ResultVar.tmp 9] [.i y'11.1, .i y'11.2] ∧ HFits s' [] | .inr (y'12) => e = Go.Exit.exit 0 ∧ s' = (⟨[], [], 65⟩ : TS)) h15 Y (fun t24_0 x hx => ?_) (fun e s' hs => ?_)
   ·clear H
    have H := hx
    clear hx
    unfold g_deed_placed_l0 at H
    refine sg [0] Y ?_
    refine rp Y Y (p_bin Y Y Y Y) ?_
    refine rz [(1, .i user1), (2, .i owner2), (3, .t name3), (4, .q 4 (0)), (23, .g (((vrd s0.Tables owner2.toNat).toList).flatMap GTable.cs)), (24, .i t24_0), (25, .b (decide (t24_0 < (2 : Int))))] [(4, .pure (GState.cs s0))] Y Y Y ?_
    refine AW2_seq ?_
    refine AW2_if (p := t24_0 < (2 : Int)) Y (fun h4 => ?_) (fun h4 => ?_)
    ·replace H := ite_then h4 H
     refine as2 [(1, .i user1), (2, .i owner2), (3, .t name3), (4, .q 4 (0)), (23, .g (((vrd s0.Tables owner2.toNat).toList).flatMap GTable.cs)), (24, .i t24_0)] [(4, .pure (GState.cs s0))] Y Y Y ?_
     refine AW2_skip ?_
     refine AW2_seq ?_
     refine bindK H fun o'9 h5 H => ?_
     refine AW2_join (fun j'1 : Unit => (⟨[(1, .i user1), (2, .i owner2), (3, .t name3), (4, .q 4 (0)), (23, .g (((vrd s0.Tables owner2.toNat).toList).flatMap GTable.cs)), (24, .i t24_0)], [(4, .pure (GState.cs s0))], 65⟩ : TS)) (fun r e s' => e = Go.Exit.ret ∧ ResAll Tryd.prog s' [ResultVar.tmp 8, ResultVar.tmp 9] [.i r.1, .i r.2] ∧ HFits s' []) (x := o'9) ?_ (fun j'1 hy => ?_) (fun y'8 e s' hy hs => ?_)
     ·clear H
      have H := h5
      clear h5
      refine AW2_block ?_
      refine sg [0, 1, 2, 3, 4] Y ?_
      refine rp Y Y (p_move Y Y) ?_
      refine chkK H fun h6 H => ?_
      refine rp Y Y (u_ixaa Y Y Tryd.underlying30 in_29 Tryd.underlying29 Y Y Y (ixe h6) (ixn h6) (Sub.vfm (fun x => (GTable.len x)) (ixn h6)) (GTable.len (vrd (vrd s0.Tables owner2.toNat) t24_0.toNat))) ?_
      refine r_op Y Y (MakeD.opD (u_alloc 11 Y in_29 one_29 zc_29) Y Y Y Y) ?_
      refine rp Y Y (p_asg Y Y) ?_
      refine r_op Y Y (u_st Y Y Y Y Y in_29 (GTable.len (vrd (vrd s0.Tables owner2.toNat) t24_0.toNat)) (nl (GTable.len GTable.zero)) (Upd.refl ((GTable.len (vrd (vrd s0.Tables owner2.toNat) t24_0.toNat)).trans (GTable.len GTable.zero).symm))) ?_
      refine rz [(1, .i user1), (2, .i owner2), (3, .t name3), (4, .q 4 (0)), (10, .i t24_0), (11, .q 11 (0)), (23, .g (((vrd s0.Tables owner2.toNat).toList).flatMap GTable.cs)), (24, .i t24_0)] [(4, .pure (GState.cs s0)), (11, .pure (GTable.cs (vrd (vrd s0.Tables owner2.toNat) t24_0.toNat)))] Y Y Y ?_
      refine AW2_seq ?_
      refine AW2_seq ?_
      refine AW2_mid (⟨[(1, .i user1), (2, .i owner2), (3, .t name3), (4, .q 4 (0)), (10, .i t24_0), (23, .g (((vrd s0.Tables owner2.toNat).toList).flatMap GTable.cs)), (24, .i t24_0), (36, .b (decide (((!((vrd (vrd s0.Tables owner2.toNat) t24_0.toNat).There)) = true) ∨ ((vrd (vrd s0.Tables owner2.toNat) t24_0.toNat).Name ≠ name3))))], [(4, .pure (GState.cs s0))], 65⟩ : TS) ?_ ?_
      ·refine AW2_reg [0, 1, 2, 3, 4, 5, 6, 7, 8] Y ?_
       refine rp Y Y (u_fa Y Y Tryd.underlying29 Y in_4 nz Y Y (nl (GTable.len (vrd (vrd s0.Tables owner2.toNat) t24_0.toNat)))) ?_
       refine rp Y Y (u_ld Y Y Tryd.underlying4 Y Y ((Sub.refl _).trans (GTable.sub0 (vrd (vrd s0.Tables owner2.toNat) t24_0.toNat)))) ?_
       refine rp Y Y (p_not Y Y) ?_
       refine rp Y Y (p_move Y Y) ?_
       refine (Classical.em ((!((vrd (vrd s0.Tables owner2.toNat) t24_0.toNat).There)) = true)).elim (fun h7 => ?_) (fun h7 => ?_)
       ·refine r_off Y Y Y Y h7 Y Y ?_
        refine r_off Y Y Y Y h7 Y Y ?_
        refine r_off Y Y Y Y h7 Y Y ?_
        refine r_off Y Y Y Y h7 Y Y ?_
        refine rp Y Y (p_pkt Y Y h7 (tb (dT (p := ((!((vrd (vrd s0.Tables owner2.toNat) t24_0.toNat).There)) = true) ∨ ((vrd (vrd s0.Tables owner2.toNat) t24_0.toNat).Name ≠ name3)) (Or.inl h7)).symm)) ?_
        refine rs [(1, .i user1), (2, .i owner2), (3, .t name3), (4, .q 4 (0)), (10, .i t24_0), (23, .g (((vrd s0.Tables owner2.toNat).toList).flatMap GTable.cs)), (24, .i t24_0), (36, .b (decide (((!((vrd (vrd s0.Tables owner2.toNat) t24_0.toNat).There)) = true) ∨ ((vrd (vrd s0.Tables owner2.toNat) t24_0.toNat).Name ≠ name3))))] [(4, .pure (GState.cs s0))] Y Y Y ?_
        exact RunW_nil rfl
       ·refine r_on Y Y Y Y (bfalse h7) Y (PureD.opD (u_fa Y Y Tryd.underlying29 Y in_9 nz Y Y (nl (GTable.len (vrd (vrd s0.Tables owner2.toNat) t24_0.toNat))))) ?_
        refine r_on Y Y Y Y (bfalse h7) Y (PureD.opD (u_ld Y Y Tryd.underlying9 Y Y ((Sub.refl _).trans (GTable.sub1 (vrd (vrd s0.Tables owner2.toNat) t24_0.toNat))))) ?_
        refine r_on Y Y Y Y (bfalse h7) Y (PureD.opD (p_move Y Y)) ?_
        refine r_on Y Y Y Y (bfalse h7) Y (PureD.opD (p_sne Y Y Y)) ?_
        refine rp Y Y (p_pkf Y Y (bfalse h7) (tb ((or_l (p := (!((vrd (vrd s0.Tables owner2.toNat) t24_0.toNat).There)) = true) (q := (vrd (vrd s0.Tables owner2.toNat) t24_0.toNat).Name ≠ name3) h7)))) ?_
        refine rs [(1, .i user1), (2, .i owner2), (3, .t name3), (4, .q 4 (0)), (10, .i t24_0), (23, .g (((vrd s0.Tables owner2.toNat).toList).flatMap GTable.cs)), (24, .i t24_0), (36, .b (decide (((!((vrd (vrd s0.Tables owner2.toNat) t24_0.toNat).There)) = true) ∨ ((vrd (vrd s0.Tables owner2.toNat) t24_0.toNat).Name ≠ name3))))] [(4, .pure (GState.cs s0))] Y Y Y ?_
        exact RunW_nil rfl
      ·refine AW2_if (p := ((!((vrd (vrd s0.Tables owner2.toNat) t24_0.toNat).There)) = true) ∨ ((vrd (vrd s0.Tables owner2.toNat) t24_0.toNat).Name ≠ name3)) Y (fun h8 => ?_) (fun h8 => ?_)
       ·replace H := ite_then h8 H
        refine as2 [(1, .i user1), (2, .i owner2), (3, .t name3), (4, .q 4 (0)), (23, .g (((vrd s0.Tables owner2.toNat).toList).flatMap GTable.cs)), (24, .i t24_0)] [(4, .pure (GState.cs s0))] Y Y Y ?_
        refine AW2_exit ?_
        refine thenQ2_exit ?_
        refine blockQ2_exit ?_
        have hz := some_elim H
        subst hz
        exact ⟨Y, Y⟩
       ·replace H := ite_else h8 H
        refine as2 [(1, .i user1), (2, .i owner2), (3, .t name3), (4, .q 4 (0)), (10, .i t24_0), (23, .g (((vrd s0.Tables owner2.toNat).toList).flatMap GTable.cs)), (24, .i t24_0)] [(4, .pure (GState.cs s0))] Y Y Y ?_
        refine AW2_skip ?_
        refine AW2_seq ?_
        refine sg [0, 1, 2] Y ?_
        refine rp Y Y (p_move Y Y) ?_
        refine rp Y Y (p_move Y Y) ?_
        refine rp Y Y (p_ieq Y Y Y) ?_
        refine rz [(1, .i user1), (2, .i owner2), (3, .t name3), (4, .q 4 (0)), (10, .i t24_0), (23, .g (((vrd s0.Tables owner2.toNat).toList).flatMap GTable.cs)), (24, .i t24_0), (39, .b (decide (owner2 = user1)))] [(4, .pure (GState.cs s0))] Y Y Y ?_
        refine AW2_if (p := owner2 = user1) Y (fun h9 => ?_) (fun h9 => ?_)
        ·replace H := ite_then h9 H
         refine sg [0, 1, 2] Y ?_
         refine rp Y Y (p_move Y Y) ?_
         refine rp Y Y (p_asg Y Y) ?_
         refine rp Y Y (p_asg Y Y) ?_
         refine rz [(8, .i t24_0), (9, .i (0 : Int))] [] Y Y Y ?_
         refine AW2_ret ?_
         have hz := some_elim H
         subst hz
         exact ⟨Y, ⟨res_tmp (.same _), res_tmp (.same _), trivial⟩, trivial⟩
        ·replace H := ite_else h9 H
         refine as2 [(1, .i user1), (2, .i owner2), (3, .t name3), (4, .q 4 (0)), (10, .i t24_0), (23, .g (((vrd s0.Tables owner2.toNat).toList).flatMap GTable.cs)), (24, .i t24_0)] [(4, .pure (GState.cs s0))] Y Y Y ?_
         refine AW2_skip ?_
         refine sg [0, 1, 2, 3] Y ?_
         refine rp Y Y (u_fa Y Y Tryd.underlying35 Y in_32 nz Y Y (nl (GState.len s0))) ?_
         refine rp Y Y (u_ld Y Y Tryd.underlying32 Y Y ((Sub.refl _).trans (GState.sub1 s0))) ?_
         refine rp Y Y (p_lenl Y Tryd.underlying32 Y Y) ?_
         refine rp Y Y (p_move Y Y) ?_
         refine rz [(1, .i user1), (2, .i owner2), (3, .t name3), (4, .q 4 (0)), (10, .i t24_0), (23, .g (((vrd s0.Tables owner2.toNat).toList).flatMap GTable.cs)), (24, .i t24_0), (42, .p ((fun q : List GGrant => AV.lst (q.flatMap GGrant.cs) q.length) s0.Grants)), (43, .i (s0.Grants.length : Int)), (44, .i (0 : Int))] [(4, .pure (GState.cs s0))] Y Y Y ?_
         refine AW2_block ?_
         refine as2 [(1, .i user1), (2, .i owner2), (3, .t name3), (4, .q 4 (0)), (10, .i t24_0), (23, .g (((vrd s0.Tables owner2.toNat).toList).flatMap GTable.cs)), (24, .i t24_0), (42, .p ((fun q : List GGrant => AV.lst (q.flatMap GGrant.cs) q.length) s0.Grants)), (43, .i (s0.Grants.length : Int)), (44, .i (0 : Int))] [(4, .pure (GState.cs s0))] Y Y Y ?_
         refine bindK H fun o'5 h14 H => ?_
         refine AW2_loopO (fun a'2 : Int => (⟨[(1, .i user1), (2, .i owner2), (3, .t name3), (4, .q 4 (0)), (10, .i t24_0), (23, .g (((vrd s0.Tables owner2.toNat).toList).flatMap GTable.cs)), (24, .i t24_0), (42, .p ((fun q : List GGrant => AV.lst (q.flatMap GGrant.cs) q.length) s0.Grants)), (43, .i (s0.Grants.length : Int)), (44, .i a'2)], [(4, .pure (GState.cs s0))], 65⟩ : TS)) (fun (o : (Int × Int) ⊕ Unit) e s' => match o with | .inl y'3 => e = Go.Exit.ret ∧ ResAll Tryd.prog s' [ResultVar.tmp 8, ResultVar.tmp 9] [.i y'3.1, .i y'3.2] ∧ HFits s' [] | .inr (y'4) => e = Go.Exit.exit 2 ∧ s' = (⟨[(1, .i user1), (2, .i owner2), (3, .t name3), (4, .q 4 (0)), (23, .g (((vrd s0.Tables owner2.toNat).toList).flatMap GTable.cs)), (24, .i t24_0)], [(4, .pure (GState.cs s0))], 65⟩ : TS)) h14 Y (fun t44_1 x hx => ?_) (fun e s' hs => ?_)
         ·clear H
          have H := hx
          clear hx
          unfold g_deed_placed_l1 at H
          refine sg [0] Y ?_
          refine rp Y Y (p_bin Y Y Y Y) ?_
          refine rz [(1, .i user1), (2, .i owner2), (3, .t name3), (4, .q 4 (0)), (10, .i t24_0), (23, .g (((vrd s0.Tables owner2.toNat).toList).flatMap GTable.cs)), (24, .i t24_0), (42, .p ((fun q : List GGrant => AV.lst (q.flatMap GGrant.cs) q.length) s0.Grants)), (43, .i (s0.Grants.length : Int)), (44, .i t44_1), (45, .b (decide (t44_1 < (s0.Grants.length : Int))))] [(4, .pure (GState.cs s0))] Y Y Y ?_
          refine AW2_seq ?_
          refine AW2_if (p := t44_1 < (s0.Grants.length : Int)) Y (fun h10 => ?_) (fun h10 => ?_)
          ·replace H := ite_then h10 H
           refine as2 [(1, .i user1), (2, .i owner2), (3, .t name3), (4, .q 4 (0)), (10, .i t24_0), (23, .g (((vrd s0.Tables owner2.toNat).toList).flatMap GTable.cs)), (24, .i t24_0), (42, .p ((fun q : List GGrant => AV.lst (q.flatMap GGrant.cs) q.length) s0.Grants)), (43, .i (s0.Grants.length : Int)), (44, .i t44_1)] [(4, .pure (GState.cs s0))] Y Y Y ?_
           refine AW2_skip ?_
           refine AW2_seq ?_
           refine AW2_block ?_
           refine sg [0, 1, 2, 3] Y ?_
           refine chkK H fun h11 H => ?_
           refine rp Y Y (u_ixl Y Y Tryd.underlying32 in_47 Y Y (ixe h11) (ixn h11) (fne (fun x => (GGrant.len x)) (by decide) (ixn h11))) ?_
           refine rp Y Y (u_lda Y Y Tryd.underlying47 Y in_47 Y (Nat.succ_pos _) (Sub.fm default (fun x => (GGrant.len x)) (ixn h11)) (GGrant.len (lrd s0.Grants t44_1.toNat))) ?_
           refine r_op Y Y (MakeD.opD (u_alloc 13 Y in_47 one_47 zc_47) Y Y Y Y) ?_
           refine r_op Y Y (u_st Y Y Y Y Y in_47 (GGrant.len (lrd s0.Grants t44_1.toNat)) (nl (GGrant.len GGrant.zero)) (Upd.refl ((GGrant.len (lrd s0.Grants t44_1.toNat)).trans (GGrant.len GGrant.zero).symm))) ?_
           refine rz [(1, .i user1), (2, .i owner2), (3, .t name3), (4, .q 4 (0)), (10, .i t24_0), (13, .q 13 (0)), (23, .g (((vrd s0.Tables owner2.toNat).toList).flatMap GTable.cs)), (24, .i t24_0), (42, .p ((fun q : List GGrant => AV.lst (q.flatMap GGrant.cs) q.length) s0.Grants)), (43, .i (s0.Grants.length : Int)), (44, .i t44_1)] [(4, .pure (GState.cs s0)), (13, .pure (GGrant.cs (lrd s0.Grants t44_1.toNat)))] Y Y Y ?_
           refine AW2_seq ?_
           refine AW2_mid (⟨[(1, .i user1), (2, .i owner2), (3, .t name3), (4, .q 4 (0)), (10, .i t24_0), (23, .g (((vrd s0.Tables owner2.toNat).toList).flatMap GTable.cs)), (24, .i t24_0), (42, .p ((fun q : List GGrant => AV.lst (q.flatMap GGrant.cs) q.length) s0.Grants)), (43, .i (s0.Grants.length : Int)), (44, .i t44_1), (61, .b (decide (((lrd s0.Grants t44_1.toNat).To = user1) ∧ (w64 (((lrd s0.Grants t44_1.toNat).Object).tdiv (2 : Int)) = w64 ((w64 (owner2 * (2 : Int))) + t24_0)))))], [(4, .pure (GState.cs s0))], 65⟩ : TS) ?_ ?_
           ·refine AW2_reg [0, 1, 2, 3, 4, 5, 6, 7, 8, 9, 10, 11, 12, 13] Y ?_
            refine rp Y Y (u_fa Y Y Tryd.underlying47 Y in_3 nz Y Y (nl (GGrant.len (lrd s0.Grants t44_1.toNat)))) ?_
            refine rp Y Y (u_ld Y Y Tryd.underlying3 Y Y ((Sub.refl _).trans (GGrant.sub1 (lrd s0.Grants t44_1.toNat)))) ?_
            refine rp Y Y (p_move Y Y) ?_
            refine rp Y Y (p_ieq Y Y Y) ?_
            refine rp Y Y (p_move Y Y) ?_
            refine (Classical.em ((lrd s0.Grants t44_1.toNat).To = user1)).elim (fun h12 => ?_) (fun h12 => ?_)
            ·refine r_on Y Y Y Y (dT h12) Y (PureD.opD (u_fa Y Y Tryd.underlying47 Y in_3 nz Y Y (nl (GGrant.len (lrd s0.Grants t44_1.toNat))))) ?_
             refine r_on Y Y Y Y (dT h12) Y (PureD.opD (u_ld Y Y Tryd.underlying3 Y Y ((Sub.refl _).trans (GGrant.sub2 (lrd s0.Grants t44_1.toNat))))) ?_
             refine r_on Y Y Y Y (dT h12) Y (PureD.opD (p_iquo Y Y Y (by decide))) ?_
             refine r_on Y Y Y Y (dT h12) Y (PureD.opD (p_move Y Y)) ?_
             refine r_on Y Y Y Y (dT h12) Y (PureD.opD (p_bin Y Y Y Y)) ?_
             refine r_on Y Y Y Y (dT h12) Y (PureD.opD (p_move Y Y)) ?_
             refine r_on Y Y Y Y (dT h12) Y (PureD.opD (p_bin Y Y Y Y)) ?_
             refine r_on Y Y Y Y (dT h12) Y (PureD.opD (p_ieq Y Y Y)) ?_
             refine rp Y Y (p_pkt Y Y (dT h12) (tb ((and_l (p := (lrd s0.Grants t44_1.toNat).To = user1) (q := w64 (((lrd s0.Grants t44_1.toNat).Object).tdiv (2 : Int)) = w64 ((w64 (owner2 * (2 : Int))) + t24_0)) h12)))) ?_
             refine rs [(1, .i user1), (2, .i owner2), (3, .t name3), (4, .q 4 (0)), (10, .i t24_0), (23, .g (((vrd s0.Tables owner2.toNat).toList).flatMap GTable.cs)), (24, .i t24_0), (42, .p ((fun q : List GGrant => AV.lst (q.flatMap GGrant.cs) q.length) s0.Grants)), (43, .i (s0.Grants.length : Int)), (44, .i t44_1), (61, .b (decide (((lrd s0.Grants t44_1.toNat).To = user1) ∧ (w64 (((lrd s0.Grants t44_1.toNat).Object).tdiv (2 : Int)) = w64 ((w64 (owner2 * (2 : Int))) + t24_0)))))] [(4, .pure (GState.cs s0))] Y Y Y ?_
             exact RunW_nil rfl
            ·refine r_off Y Y Y Y (dF h12) Y Y ?_
             refine r_off Y Y Y Y (dF h12) Y Y ?_
             refine r_off Y Y Y Y (dF h12) Y Y ?_
             refine r_off Y Y Y Y (dF h12) Y Y ?_
             refine r_off Y Y Y Y (dF h12) Y Y ?_
             refine r_off Y Y Y Y (dF h12) Y Y ?_
             refine r_off Y Y Y Y (dF h12) Y Y ?_
             refine r_off Y Y Y Y (dF h12) Y Y ?_
             refine rp Y Y (p_pkf Y Y (dF h12) (tb (dF (p := ((lrd s0.Grants t44_1.toNat).To = user1) ∧ (w64 (((lrd s0.Grants t44_1.toNat).Object).tdiv (2 : Int)) = w64 ((w64 (owner2 * (2 : Int))) + t24_0))) (fun x => h12 x.1)).symm)) ?_
             refine rs [(1, .i user1), (2, .i owner2), (3, .t name3), (4, .q 4 (0)), (10, .i t24_0), (23, .g (((vrd s0.Tables owner2.toNat).toList).flatMap GTable.cs)), (24, .i t24_0), (42, .p ((fun q : List GGrant => AV.lst (q.flatMap GGrant.cs) q.length) s0.Grants)), (43, .i (s0.Grants.length : Int)), (44, .i t44_1), (61, .b (decide (((lrd s0.Grants t44_1.toNat).To = user1) ∧ (w64 (((lrd s0.Grants t44_1.toNat).Object).tdiv (2 : Int)) = w64 ((w64 (owner2 * (2 : Int))) + t24_0)))))] [(4, .pure (GState.cs s0))] Y Y Y ?_
             exact RunW_nil rfl
           ·refine AW2_if (p := ((lrd s0.Grants t44_1.toNat).To = user1) ∧ (w64 (((lrd s0.Grants t44_1.toNat).Object).tdiv (2 : Int)) = w64 ((w64 (owner2 * (2 : Int))) + t24_0))) Y (fun h13 => ?_) (fun h13 => ?_)
            ·replace H := ite_then h13 H
             refine sg [0, 1, 2] Y ?_
             refine rp Y Y (p_move Y Y) ?_
             refine rp Y Y (p_asg Y Y) ?_
             refine rp Y Y (p_asg Y Y) ?_
             refine rz [(8, .i t24_0), (9, .i (0 : Int))] [] Y Y Y ?_
             refine AW2_ret ?_
             have hz := some_elim H
             subst hz
             exact ⟨Y, ⟨res_tmp (.same _), res_tmp (.same _), trivial⟩, trivial⟩
            ·replace H := ite_else h13 H
             refine as2 [(1, .i user1), (2, .i owner2), (3, .t name3), (4, .q 4 (0)), (10, .i t24_0), (23, .g (((vrd s0.Tables owner2.toNat).toList).flatMap GTable.cs)), (24, .i t24_0), (42, .p ((fun q : List GGrant => AV.lst (q.flatMap GGrant.cs) q.length) s0.Grants)), (43, .i (s0.Grants.length : Int)), (44, .i t44_1)] [(4, .pure (GState.cs s0))] Y Y Y ?_
             refine AW2_skip ?_
             refine AW2_reg [0, 1] Y ?_
             refine rp Y Y (p_bin Y Y Y Y) ?_
             refine rp Y Y (p_move Y Y) ?_
             refine rz [(1, .i user1), (2, .i owner2), (3, .t name3), (4, .q 4 (0)), (10, .i t24_0), (23, .g (((vrd s0.Tables owner2.toNat).toList).flatMap GTable.cs)), (24, .i t24_0), (42, .p ((fun q : List GGrant => AV.lst (q.flatMap GGrant.cs) q.length) s0.Grants)), (43, .i (s0.Grants.length : Int)), (44, .i (w64 (t44_1 + (1 : Int))))] [(4, .pure (GState.cs s0))] Y Y Y ?_
             have hz := some_elim H
             subst hz
             exact ⟨Y, Y⟩
          ·replace H := ite_else h10 H
           refine as2 [(1, .i user1), (2, .i owner2), (3, .t name3), (4, .q 4 (0)), (23, .g (((vrd s0.Tables owner2.toNat).toList).flatMap GTable.cs)), (24, .i t24_0)] [(4, .pure (GState.cs s0))] Y Y Y ?_
           refine AW2_exit ?_
           refine thenQ2_exit ?_
           have hz := some_elim H
           subst hz
           exact ⟨Y, Y⟩
         ·rcases o'5 with y'6 | y'7
          ·obtain ⟨rfl, hs⟩ := hs
           refine ⟨by simp, ?_⟩
           have hz := some_elim H
           subst hz
           exact ⟨Y, hs.1, hs.2⟩
          ·obtain ⟨rfl, rfl⟩ := hs
           refine ⟨by simp, ?_⟩
           refine blockQ2_exit ?_
           have hz := some_elim H
           subst hz
           exact ⟨Y, Y⟩
     ·subst hy
      refine AW2_reg [0, 1] Y ?_
      refine rp Y Y (p_bin Y Y Y Y) ?_
      refine rp Y Y (p_move Y Y) ?_
      refine rz [(1, .i user1), (2, .i owner2), (3, .t name3), (4, .q 4 (0)), (23, .g (((vrd s0.Tables owner2.toNat).toList).flatMap GTable.cs)), (24, .i (w64 (t24_0 + (1 : Int))))] [(4, .pure (GState.cs s0))] Y Y Y ?_
      have hz := some_elim H
      subst hz
      exact ⟨Y, Y⟩
     ·subst hy
      obtain ⟨rfl, hs⟩ := hs
      have hz := some_elim H
      subst hz
      exact ⟨Y, hs.1, hs.2⟩
    ·replace H := ite_else h4 H
     refine as2 [] [] Y Y Y ?_
     refine AW2_exit ?_
     refine thenQ2_exit ?_
     have hz := some_elim H
     subst hz
     exact ⟨Y, Y⟩
   ·rcases o'13 with y'14 | y'15
    ·obtain ⟨rfl, hs⟩ := hs
     refine ⟨by simp, ?_⟩
     have hz := some_elim H
     subst hz
     exact ⟨hs.1, hs.2⟩
    ·obtain ⟨rfl, rfl⟩ := hs
     refine ⟨by simp, ?_⟩
     refine blockQ2_exit ?_
     refine sg [0, 1] Y ?_
     refine rp Y Y (p_asg Y Y) ?_
     refine rp Y Y (p_asg Y Y) ?_
     refine rz [(8, .i (0 : Int)), (9, .i (5 : Int))] [] Y Y Y ?_
     refine AW2_ret ?_
     have hz := some_elim H
     subst hz
     exact ⟨⟨res_tmp (.same _), res_tmp (.same _), trivial⟩, trivial⟩

/-! deed.Place -/
noncomputable def g_deed_Place (s0 : GState) (user1 : Int) (owner2 : Int) (name3 : List UInt8) : Option (Int × Int) :=
  (g_deed_Check s0).bind fun r'1 => (if r'1 ≠ (0 : Int) then some ((0 : Int), r'1) else (if (user1 < (0 : Int)) ∨ (user1 ≥ (3 : Int)) then some ((0 : Int), (6 : Int)) else (g_deed_placed s0 user1 owner2 name3).bind fun r'2 => some (r'2.1, r'2.2)))
set_option maxHeartbeats 4000000 in
set_option maxRecDepth 100000 in
theorem g_deed_Place_ac {s0 : GState} {user1 : Int} {owner2 : Int} {name3 : List UInt8} {r : Int × Int} (H : g_deed_Place s0 user1 owner2 name3 = some r) : ACp Tryd.prog 7 [(.agg (GState.cs s0)), (AV.int user1), (AV.int owner2), (AV.txt name3)] (.tup [(AV.int r.1), (AV.int r.2)]) := by
 refine ACp_of (AC2_of_body (vs := [.i r.1, .i r.2]) Tryd.func7 Y Y (Nat.le_of_ble_eq_true Y) Y ?_) (fun _ => .same _)
 unfold g_deed_Place at H
 refine as2 [(0, .g (GState.cs s0)), (1, .i user1), (2, .i owner2), (3, .t name3)] [] Y Y Y ?_
 refine sg [0, 1, 2] Y ?_
 refine r_op Y Y (MakeD.opD (n_box 4 Y Y) Y Y Y Y) ?_
 refine rp Y Y (p_asg Y Y) ?_
 refine rp Y Y (p_asg Y Y) ?_
 refine rz [(1, .i user1), (2, .i owner2), (3, .t name3), (4, .q 4 (0))] [(4, .pure (GState.cs s0))] Y Y Y ?_
 refine AW2_seq ?_
 refine sg [0, 1, 2] Y ?_
 refine rp Y Y (u_lda Y Y Tryd.underlying35 Y in_35 Y (Nat.succ_pos _) (Sub.refl _) (GState.len s0)) ?_
 refine bindK H fun r'1 h1 H => ?_
 refine rp Y Y (p_callp Y Y Y Tryd.func5 Y Y (g_deed_Check_ac h1) ⟨Y, trivial⟩) ?_
 refine rp Y Y (p_asg Y Y) ?_
 refine rz [(1, .i user1), (2, .i owner2), (3, .t name3), (4, .q 4 (0)), (10, .i r'1)] [(4, .pure (GState.cs s0))] Y Y Y ?_
 refine sg [0, 1] Y ?_
 refine rp Y Y (p_move Y Y) ?_
 refine rp Y Y (p_ine Y Y Y) ?_
 refine rz [(1, .i user1), (2, .i owner2), (3, .t name3), (4, .q 4 (0)), (10, .i r'1), (14, .b (decide (r'1 ≠ (0 : Int))))] [(4, .pure (GState.cs s0))] Y Y Y ?_
 refine AW2_if (p := r'1 ≠ (0 : Int)) Y (fun h2 => ?_) (fun h2 => ?_)
 ·replace H := ite_then h2 H
  refine sg [0, 1, 2] Y ?_
  refine rp Y Y (p_move Y Y) ?_
  refine rp Y Y (p_asg Y Y) ?_
  refine rp Y Y (p_asg Y Y) ?_
  refine rz [(8, .i (0 : Int)), (9, .i r'1)] [] Y Y Y ?_
  refine AW2_ret ?_
  have hz := some_elim H
  subst hz
  exact ⟨⟨res_tmp (.same _), res_tmp (.same _), trivial⟩, trivial⟩
 ·replace H := ite_else h2 H
  refine as2 [(1, .i user1), (2, .i owner2), (3, .t name3), (4, .q 4 (0))] [(4, .pure (GState.cs s0))] Y Y Y ?_
  refine AW2_skip ?_
  refine AW2_seq ?_
  refine AW2_seq ?_
  refine AW2_mid (⟨[(1, .i user1), (2, .i owner2), (3, .t name3), (4, .q 4 (0)), (21, .b (decide ((user1 < (0 : Int)) ∨ (user1 ≥ (3 : Int)))))], [(4, .pure (GState.cs s0))], 29⟩ : TS) ?_ ?_
  ·refine AW2_reg [0, 1, 2, 3, 4, 5] Y ?_
   refine rp Y Y (p_move Y Y) ?_
   refine rp Y Y (p_bin Y Y Y Y) ?_
   refine rp Y Y (p_move Y Y) ?_
   refine (Classical.em (user1 < (0 : Int))).elim (fun h3 => ?_) (fun h3 => ?_)
   ·refine r_off Y Y Y Y (dT h3) Y Y ?_
    refine r_off Y Y Y Y (dT h3) Y Y ?_
    refine rp Y Y (p_pkt Y Y (dT h3) (tb (dT (p := (user1 < (0 : Int)) ∨ (user1 ≥ (3 : Int))) (Or.inl h3)).symm)) ?_
    refine rs [(1, .i user1), (2, .i owner2), (3, .t name3), (4, .q 4 (0)), (21, .b (decide ((user1 < (0 : Int)) ∨ (user1 ≥ (3 : Int)))))] [(4, .pure (GState.cs s0))] Y Y Y ?_
    exact RunW_nil rfl
   ·refine r_on Y Y Y Y (dF h3) Y (PureD.opD (p_move Y Y)) ?_
    refine r_on Y Y Y Y (dF h3) Y (PureD.opD (p_bin Y Y Y Y)) ?_
    refine rp Y Y (p_pkf Y Y (dF h3) (tb ((or_l (p := user1 < (0 : Int)) (q := user1 ≥ (3 : Int)) h3)))) ?_
    refine rs [(1, .i user1), (2, .i owner2), (3, .t name3), (4, .q 4 (0)), (21, .b (decide ((user1 < (0 : Int)) ∨ (user1 ≥ (3 : Int)))))] [(4, .pure (GState.cs s0))] Y Y Y ?_
    exact RunW_nil rfl
  ·refine AW2_if (p := (user1 < (0 : Int)) ∨ (user1 ≥ (3 : Int))) Y (fun h4 => ?_) (fun h4 => ?_)
   ·replace H := ite_then h4 H
    refine sg [0, 1] Y ?_
    refine rp Y Y (p_asg Y Y) ?_
    refine rp Y Y (p_asg Y Y) ?_
    refine rz [(8, .i (0 : Int)), (9, .i (6 : Int))] [] Y Y Y ?_
    refine AW2_ret ?_
    have hz := some_elim H
    subst hz
    exact ⟨⟨res_tmp (.same _), res_tmp (.same _), trivial⟩, trivial⟩
   ·replace H := ite_else h4 H
    refine as2 [(1, .i user1), (2, .i owner2), (3, .t name3), (4, .q 4 (0))] [(4, .pure (GState.cs s0))] Y Y Y ?_
    refine AW2_skip ?_
    refine sg [0, 1, 2, 3, 4, 5, 6, 7, 8] Y ?_
    refine rp Y Y (u_lda Y Y Tryd.underlying35 Y in_35 Y (Nat.succ_pos _) (Sub.refl _) (GState.len s0)) ?_
    refine rp Y Y (p_move Y Y) ?_
    refine rp Y Y (p_move Y Y) ?_
    refine rp Y Y (p_move Y Y) ?_
    refine bindK H fun r'2 h5 H => ?_
    refine rp Y Y (p_callp Y Y Y Tryd.func15 Y Y (g_deed_placed_ac h5) ⟨Y, Y, Y, Y, trivial⟩) ?_
    refine rp Y Y (p_ext Y Y Y Y) ?_
    refine rp Y Y (p_ext Y Y Y Y) ?_
    refine rp Y Y (p_asg Y Y) ?_
    refine rp Y Y (p_asg Y Y) ?_
    refine rz [(8, .i r'2.1), (9, .i r'2.2)] [] Y Y Y ?_
    refine AW2_ret ?_
    have hz := some_elim H
    subst hz
    exact ⟨⟨res_tmp (.same _), res_tmp (.same _), trivial⟩, trivial⟩

/-! chirographref.objectOf -/
noncomputable def g_ref_objectOf (owner0 : Int) (place1 : Int) (drawer2 : Int) : Option (Int) :=
  letO (w64 ((w64 ((w64 ((w64 (owner0 * (2 : Int))) * (2 : Int))) + (w64 (place1 * (2 : Int))))) + drawer2)) fun t6'1 => some t6'1
set_option maxHeartbeats 4000000 in
set_option maxRecDepth 100000 in
theorem g_ref_objectOf_ac {owner0 : Int} {place1 : Int} {drawer2 : Int} {r : Int} (H : g_ref_objectOf owner0 place1 drawer2 = some r) : ACp Tryd.prog 50 [(AV.int owner0), (AV.int place1), (AV.int drawer2)] (AV.int r) := by
 refine ACp_of (AC2_of_body (vs := [.i r]) Tryd.func50 Y Y (Nat.le_of_ble_eq_true Y) Y ?_) (fun _ => .same _)
 unfold g_ref_objectOf at H
 refine as2 [(0, .i owner0), (1, .i place1), (2, .i drawer2)] [] Y Y Y ?_
 refine sg [0] Y ?_
 refine rp Y Y (p_asg Y Y) ?_
 refine rz [(0, .i owner0), (1, .i place1), (2, .i drawer2)] [] Y Y Y ?_
 refine sg [0, 1, 2, 3, 4, 5, 6, 7, 8] Y ?_
 refine rp Y Y (p_move Y Y) ?_
 refine rp Y Y (p_bin Y Y Y Y) ?_
 refine rp Y Y (p_bin Y Y Y Y) ?_
 refine rp Y Y (p_move Y Y) ?_
 refine rp Y Y (p_bin Y Y Y Y) ?_
 refine rp Y Y (p_bin Y Y Y Y) ?_
 refine rp Y Y (p_move Y Y) ?_
 refine rp Y Y (p_bin Y Y Y Y) ?_
 refine rp Y Y (p_asg Y Y) ?_
 refine rz [(6, .i (w64 ((w64 ((w64 ((w64 (owner0 * (2 : Int))) * (2 : Int))) + (w64 (place1 * (2 : Int))))) + drawer2)))] [] Y Y Y ?_
 refine gen1 (fun t6'1 => (⟨[(6, .i t6'1)], [], 15⟩ : TS)) H ?_
 intro t6'1 H
 refine AW2_ret ?_
 have hz := some_elim H
 subst hz
 exact ⟨⟨res_tmp (.same _), trivial⟩, trivial⟩

/-! chirographref.has -/
noncomputable def g_ref_has_l0 (l0 : List GGrant) (user1 : Int) (object2 : Int) (right3 : Int) : Int × Int → Option ((Int × Int) ⊕ (Int))
  | (n9_0, t14_0) => (if t14_0 < (l0.length : Int) then (if 0 ≤ t14_0 ∧ t14_0 < (l0.length : Int) then (if (((lrd l0 t14_0.toNat).To = user1) ∧ ((lrd l0 t14_0.toNat).Object = object2)) ∧ ((lrd l0 t14_0.toNat).Right = right3) then some (w64 (n9_0 + (1 : Int))) else some n9_0) else none).bind fun j'1 => some (.inl (j'1, w64 (t14_0 + (1 : Int)))) else some (.inr n9_0))
noncomputable def g_ref_has (l0 : List GGrant) (user1 : Int) (object2 : Int) (right3 : Int) : Option (Bool) :=
  (loopO (g_ref_has_l0 l0 user1 object2 right3) ((0 : Int), (0 : Int))).bind fun y'5 => ((if y'5 > (0 : Int) then some true else (g_ref_Owner object2).bind fun r'7 => some (decide (r'7 = user1)))).bind fun g'8 => some g'8
set_option maxHeartbeats 4000000 in
set_option maxRecDepth 100000 in
theorem g_ref_has_ac {l0 : List GGrant} {user1 : Int} {object2 : Int} {right3 : Int} {r : Bool} (H : g_ref_has l0 user1 object2 right3 = some r) : ACp Tryd.prog 49 [((fun q : List GGrant => AV.lst (q.flatMap GGrant.cs) q.length) l0), (AV.int user1), (AV.int object2), (AV.int right3)] (AV.bool r) := by
 refine ACp_of (AC2_of_body (vs := [.b r]) Tryd.func49 Y Y (Nat.le_of_ble_eq_true Y) Y ?_) (fun _ => .same _)
 unfold g_ref_has at H
 refine as2 [(0, .p ((fun q : List GGrant => AV.lst (q.flatMap GGrant.cs) q.length) l0)), (1, .i user1), (2, .i object2), (3, .i right3)] [] Y Y Y ?_
 refine sg [0] Y ?_
 refine rp Y Y (p_asg Y Y) ?_
 refine rz [(0, .p ((fun q : List GGrant => AV.lst (q.flatMap GGrant.cs) q.length) l0)), (1, .i user1), (2, .i object2), (3, .i right3)] [] Y Y Y ?_
 refine sg [0] Y ?_
 refine rp Y Y (p_asg Y Y) ?_
 refine rz [(0, .p ((fun q : List GGrant => AV.lst (q.flatMap GGrant.cs) q.length) l0)), (1, .i user1), (2, .i object2), (3, .i right3), (9, .i (0 : Int))] [] Y Y Y ?_
 refine AW2_seq ?_
 refine sg [0, 1, 2] Y ?_
 refine rp Y Y (p_move Y Y) ?_
 refine rp Y Y (p_lenl Y Tryd.underlying32 Y Y) ?_
 refine rp Y Y (p_move Y Y) ?_
 refine rz [(1, .i user1), (2, .i object2), (3, .i right3), (9, .i (0 : Int)), (12, .p ((fun q : List GGrant => AV.lst (q.flatMap GGrant.cs) q.length) l0)), (13, .i (l0.length : Int)), (14, .i (0 : Int))] [] Y Y Y ?_
 refine AW2_block ?_
 refine as2 [(1, .i user1), (2, .i object2), (3, .i right3), (9, .i (0 : Int)), (12, .p ((fun q : List GGrant => AV.lst (q.flatMap GGrant.cs) q.length) l0)), (13, .i (l0.length : Int)), (14, .i (0 : Int))] [] Y Y Y ?_
 refine bindK H fun y'5 h7 H => ?_
 refine AW2_loopO (fun a'2 : Int × Int => (⟨[(1, .i user1), (2, .i object2), (3, .i right3), (9, .i a'2.1), (12, .p ((fun q : List GGrant => AV.lst (q.flatMap GGrant.cs) q.length) l0)), (13, .i (l0.length : Int)), (14, .i a'2.2)], [], 45⟩ : TS)) (fun (y'3 : Int) e s' => e = Go.Exit.exit 0 ∧ s' = (⟨[(1, .i user1), (2, .i object2), (9, .i y'3)], [], 45⟩ : TS)) h7 Y (fun a x hx => ?_) (fun e s' hs => ?_)
 ·clear H
  obtain ⟨n9_0, t14_0⟩ := a
  have H := hx
  clear hx
  unfold g_ref_has_l0 at H
  refine sg [0] Y ?_
  refine rp Y Y (p_bin Y Y Y Y) ?_
  refine rz [(1, .i user1), (2, .i object2), (3, .i right3), (9, .i n9_0), (12, .p ((fun q : List GGrant => AV.lst (q.flatMap GGrant.cs) q.length) l0)), (13, .i (l0.length : Int)), (14, .i t14_0), (15, .b (decide (t14_0 < (l0.length : Int))))] [] Y Y Y ?_
  refine AW2_seq ?_
  refine AW2_if (p := t14_0 < (l0.length : Int)) Y (fun h1 => ?_) (fun h1 => ?_)
  ·replace H := ite_then h1 H
   refine as2 [(1, .i user1), (2, .i object2), (3, .i right3), (9, .i n9_0), (12, .p ((fun q : List GGrant => AV.lst (q.flatMap GGrant.cs) q.length) l0)), (13, .i (l0.length : Int)), (14, .i t14_0)] [] Y Y Y ?_
   refine AW2_skip ?_
   refine AW2_seq ?_
   refine bindK H fun j'1 h2 H => ?_
   refine AW2_mid (⟨[(1, .i user1), (2, .i object2), (3, .i right3), (9, .i j'1), (12, .p ((fun q : List GGrant => AV.lst (q.flatMap GGrant.cs) q.length) l0)), (13, .i (l0.length : Int)), (14, .i t14_0)], [], 45⟩ : TS) ?_ ?_
   ·clear H
    have H := h2
    clear h2
    refine AW2_block ?_
    refine sg [0, 1, 2, 3] Y ?_
    refine chkK H fun h3 H => ?_
    refine rp Y Y (u_ixl Y Y Tryd.underlying32 in_47 Y Y (ixe h3) (ixn h3) (fne (fun x => (GGrant.len x)) (by decide) (ixn h3))) ?_
    refine rp Y Y (u_lda Y Y Tryd.underlying47 Y in_47 Y (Nat.succ_pos _) (Sub.fm default (fun x => (GGrant.len x)) (ixn h3)) (GGrant.len (lrd l0 t14_0.toNat))) ?_
    refine r_op Y Y (MakeD.opD (u_alloc 11 Y in_47 one_47 zc_47) Y Y Y Y) ?_
    refine r_op Y Y (u_st Y Y Y Y Y in_47 (GGrant.len (lrd l0 t14_0.toNat)) (nl (GGrant.len GGrant.zero)) (Upd.refl ((GGrant.len (lrd l0 t14_0.toNat)).trans (GGrant.len GGrant.zero).symm))) ?_
    refine rz [(1, .i user1), (2, .i object2), (3, .i right3), (9, .i n9_0), (11, .q 11 (0)), (12, .p ((fun q : List GGrant => AV.lst (q.flatMap GGrant.cs) q.length) l0)), (13, .i (l0.length : Int)), (14, .i t14_0)] [(11, .pure (GGrant.cs (lrd l0 t14_0.toNat)))] Y Y Y ?_
    refine AW2_seq ?_
    refine AW2_mid (⟨[(1, .i user1), (2, .i object2), (3, .i right3), (9, .i n9_0), (12, .p ((fun q : List GGrant => AV.lst (q.flatMap GGrant.cs) q.length) l0)), (13, .i (l0.length : Int)), (14, .i t14_0), (33, .b (decide ((((lrd l0 t14_0.toNat).To = user1) ∧ ((lrd l0 t14_0.toNat).Object = object2)) ∧ ((lrd l0 t14_0.toNat).Right = right3))))], [], 45⟩ : TS) ?_ ?_
    ·refine AW2_reg [0, 1, 2, 3, 4, 5, 6, 7, 8, 9, 10, 11, 12, 13, 14, 15] Y ?_
     refine rp Y Y (u_fa Y Y Tryd.underlying47 Y in_3 nz Y Y (nl (GGrant.len (lrd l0 t14_0.toNat)))) ?_
     refine rp Y Y (u_ld Y Y Tryd.underlying3 Y Y ((Sub.refl _).trans (GGrant.sub1 (lrd l0 t14_0.toNat)))) ?_
     refine rp Y Y (p_move Y Y) ?_
     refine rp Y Y (p_ieq Y Y Y) ?_
     refine rp Y Y (p_move Y Y) ?_
     refine (Classical.em ((lrd l0 t14_0.toNat).To = user1)).elim (fun h4 => ?_) (fun h4 => ?_)
     ·refine r_on Y Y Y Y (dT h4) Y (PureD.opD (u_fa Y Y Tryd.underlying47 Y in_3 nz Y Y (nl (GGrant.len (lrd l0 t14_0.toNat))))) ?_
      refine r_on Y Y Y Y (dT h4) Y (PureD.opD (u_ld Y Y Tryd.underlying3 Y Y ((Sub.refl _).trans (GGrant.sub2 (lrd l0 t14_0.toNat))))) ?_
      refine r_on Y Y Y Y (dT h4) Y (PureD.opD (p_move Y Y)) ?_
      refine r_on Y Y Y Y (dT h4) Y (PureD.opD (p_ieq Y Y Y)) ?_
      refine rp Y Y (p_pkt Y Y (dT h4) (tb ((and_l (p := (lrd l0 t14_0.toNat).To = user1) (q := (lrd l0 t14_0.toNat).Object = object2) h4)))) ?_
      refine rp Y Y (p_move Y Y) ?_
      refine (Classical.em ((lrd l0 t14_0.toNat).Object = object2)).elim (fun h5 => ?_) (fun h5 => ?_)
      ·refine r_on Y Y Y Y (dT (p := ((lrd l0 t14_0.toNat).To = user1) ∧ ((lrd l0 t14_0.toNat).Object = object2)) ⟨h4, h5⟩) Y (PureD.opD (u_fa Y Y Tryd.underlying47 Y in_3 nz Y Y (nl (GGrant.len (lrd l0 t14_0.toNat))))) ?_
       refine r_on Y Y Y Y (dT (p := ((lrd l0 t14_0.toNat).To = user1) ∧ ((lrd l0 t14_0.toNat).Object = object2)) ⟨h4, h5⟩) Y (PureD.opD (u_ld Y Y Tryd.underlying3 Y Y ((Sub.refl _).trans (GGrant.sub3 (lrd l0 t14_0.toNat))))) ?_
       refine r_on Y Y Y Y (dT (p := ((lrd l0 t14_0.toNat).To = user1) ∧ ((lrd l0 t14_0.toNat).Object = object2)) ⟨h4, h5⟩) Y (PureD.opD (p_move Y Y)) ?_
       refine r_on Y Y Y Y (dT (p := ((lrd l0 t14_0.toNat).To = user1) ∧ ((lrd l0 t14_0.toNat).Object = object2)) ⟨h4, h5⟩) Y (PureD.opD (p_ieq Y Y Y)) ?_
       refine rp Y Y (p_pkt Y Y (dT (p := ((lrd l0 t14_0.toNat).To = user1) ∧ ((lrd l0 t14_0.toNat).Object = object2)) ⟨h4, h5⟩) (tb ((and_l (p := ((lrd l0 t14_0.toNat).To = user1) ∧ ((lrd l0 t14_0.toNat).Object = object2)) (q := (lrd l0 t14_0.toNat).Right = right3) ⟨h4, h5⟩)))) ?_
       refine rs [(1, .i user1), (2, .i object2), (3, .i right3), (9, .i n9_0), (12, .p ((fun q : List GGrant => AV.lst (q.flatMap GGrant.cs) q.length) l0)), (13, .i (l0.length : Int)), (14, .i t14_0), (33, .b (decide ((((lrd l0 t14_0.toNat).To = user1) ∧ ((lrd l0 t14_0.toNat).Object = object2)) ∧ ((lrd l0 t14_0.toNat).Right = right3))))] [] Y Y Y ?_
       exact RunW_nil rfl
      ·refine r_off Y Y Y Y (dF (p := ((lrd l0 t14_0.toNat).To = user1) ∧ ((lrd l0 t14_0.toNat).Object = object2)) (fun h => h5 h.2)) Y Y ?_
       refine r_off Y Y Y Y (dF (p := ((lrd l0 t14_0.toNat).To = user1) ∧ ((lrd l0 t14_0.toNat).Object = object2)) (fun h => h5 h.2)) Y Y ?_
       refine r_off Y Y Y Y (dF (p := ((lrd l0 t14_0.toNat).To = user1) ∧ ((lrd l0 t14_0.toNat).Object = object2)) (fun h => h5 h.2)) Y Y ?_
       refine r_off Y Y Y Y (dF (p := ((lrd l0 t14_0.toNat).To = user1) ∧ ((lrd l0 t14_0.toNat).Object = object2)) (fun h => h5 h.2)) Y Y ?_
       refine rp Y Y (p_pkf Y Y (dF (p := ((lrd l0 t14_0.toNat).To = user1) ∧ ((lrd l0 t14_0.toNat).Object = object2)) (fun h => h5 h.2)) (tb (dF (p := (((lrd l0 t14_0.toNat).To = user1) ∧ ((lrd l0 t14_0.toNat).Object = object2)) ∧ ((lrd l0 t14_0.toNat).Right = right3)) (fun x => (fun h => h5 h.2) x.1)).symm)) ?_
       refine rs [(1, .i user1), (2, .i object2), (3, .i right3), (9, .i n9_0), (12, .p ((fun q : List GGrant => AV.lst (q.flatMap GGrant.cs) q.length) l0)), (13, .i (l0.length : Int)), (14, .i t14_0), (33, .b (decide ((((lrd l0 t14_0.toNat).To = user1) ∧ ((lrd l0 t14_0.toNat).Object = object2)) ∧ ((lrd l0 t14_0.toNat).Right = right3))))] [] Y Y Y ?_
       exact RunW_nil rfl
     ·refine r_off Y Y Y Y (dF h4) Y Y ?_
      refine r_off Y Y Y Y (dF h4) Y Y ?_
      refine r_off Y Y Y Y (dF h4) Y Y ?_
      refine r_off Y Y Y Y (dF h4) Y Y ?_
      refine rp Y Y (p_pkf Y Y (dF h4) (tb (dF (p := ((lrd l0 t14_0.toNat).To = user1) ∧ ((lrd l0 t14_0.toNat).Object = object2)) (fun x => h4 x.1)).symm)) ?_
      refine rp Y Y (p_move Y Y) ?_
      refine r_off Y Y Y Y (dF (p := ((lrd l0 t14_0.toNat).To = user1) ∧ ((lrd l0 t14_0.toNat).Object = object2)) (fun h => h4 h.1)) Y Y ?_
      refine r_off Y Y Y Y (dF (p := ((lrd l0 t14_0.toNat).To = user1) ∧ ((lrd l0 t14_0.toNat).Object = object2)) (fun h => h4 h.1)) Y Y ?_
      refine r_off Y Y Y Y (dF (p := ((lrd l0 t14_0.toNat).To = user1) ∧ ((lrd l0 t14_0.toNat).Object = object2)) (fun h => h4 h.1)) Y Y ?_
      refine r_off Y Y Y Y (dF (p := ((lrd l0 t14_0.toNat).To = user1) ∧ ((lrd l0 t14_0.toNat).Object = object2)) (fun h => h4 h.1)) Y Y ?_
      refine rp Y Y (p_pkf Y Y (dF (p := ((lrd l0 t14_0.toNat).To = user1) ∧ ((lrd l0 t14_0.toNat).Object = object2)) (fun h => h4 h.1)) (tb (dF (p := (((lrd l0 t14_0.toNat).To = user1) ∧ ((lrd l0 t14_0.toNat).Object = object2)) ∧ ((lrd l0 t14_0.toNat).Right = right3)) (fun x => (fun h => h4 h.1) x.1)).symm)) ?_
      refine rs [(1, .i user1), (2, .i object2), (3, .i right3), (9, .i n9_0), (12, .p ((fun q : List GGrant => AV.lst (q.flatMap GGrant.cs) q.length) l0)), (13, .i (l0.length : Int)), (14, .i t14_0), (33, .b (decide ((((lrd l0 t14_0.toNat).To = user1) ∧ ((lrd l0 t14_0.toNat).Object = object2)) ∧ ((lrd l0 t14_0.toNat).Right = right3))))] [] Y Y Y ?_
      exact RunW_nil rfl
    ·refine AW2_if (p := (((lrd l0 t14_0.toNat).To = user1) ∧ ((lrd l0 t14_0.toNat).Object = object2)) ∧ ((lrd l0 t14_0.toNat).Right = right3)) Y (fun h6 => ?_) (fun h6 => ?_)
     ·replace H := ite_then h6 H
      refine AW2_reg [0, 1, 2] Y ?_
      refine rp Y Y (p_move Y Y) ?_
      refine rp Y Y (p_bin Y Y Y Y) ?_
      refine rp Y Y (p_asg Y Y) ?_
      refine rz [(1, .i user1), (2, .i object2), (3, .i right3), (9, .i (w64 (n9_0 + (1 : Int)))), (12, .p ((fun q : List GGrant => AV.lst (q.flatMap GGrant.cs) q.length) l0)), (13, .i (l0.length : Int)), (14, .i t14_0)] [] Y Y Y ?_
      have hz := some_elim H
      subst hz
      exact rfl
     ·replace H := ite_else h6 H
      refine as2 [(1, .i user1), (2, .i object2), (3, .i right3), (9, .i n9_0), (12, .p ((fun q : List GGrant => AV.lst (q.flatMap GGrant.cs) q.length) l0)), (13, .i (l0.length : Int)), (14, .i t14_0)] [] Y Y Y ?_
      refine AW2_skip ?_
      have hz := some_elim H
      subst hz
      exact rfl
   ·refine AW2_reg [0, 1] Y ?_
    refine rp Y Y (p_bin Y Y Y Y) ?_
    refine rp Y Y (p_move Y Y) ?_
    refine rz [(1, .i user1), (2, .i object2), (3, .i right3), (9, .i j'1), (12, .p ((fun q : List GGrant => AV.lst (q.flatMap GGrant.cs) q.length) l0)), (13, .i (l0.length : Int)), (14, .i (w64 (t14_0 + (1 : Int))))] [] Y Y Y ?_
    have hz := some_elim H
    subst hz
    exact ⟨Y, Y⟩
  ·replace H := ite_else h1 H
   refine as2 [(1, .i user1), (2, .i object2), (9, .i n9_0)] [] Y Y Y ?_
   refine AW2_exit ?_
   refine thenQ2_exit ?_
   have hz := some_elim H
   subst hz
   exact ⟨Y, Y⟩
 ·obtain ⟨rfl, rfl⟩ := hs
  refine ⟨by simp, ?_⟩
  refine blockQ2_exit ?_
  refine AW2_seq ?_
  refine bindK H fun g'8 h11 H => ?_
  refine AW2_mid (⟨[(8, .b g'8)], [], 45⟩ : TS) ?_ ?_
  ·clear H
   have H := h11
   clear h11
   refine AW2_reg [0, 1, 2, 3, 4, 5, 6, 7, 8] Y ?_
   refine rp Y Y (p_move Y Y) ?_
   refine rp Y Y (p_bin Y Y Y Y) ?_
   refine rp Y Y (p_move Y Y) ?_
   refine (Classical.em (y'5 > (0 : Int))).elim (fun h9 => ?_) (fun h9 => ?_)
   ·replace H := ite_then h9 H
    refine r_off Y Y Y Y (dT h9) Y Y ?_
    refine r_off Y Y Y Y (dT h9) Y Y ?_
    refine r_off Y Y Y Y (dT h9) Y Y ?_
    refine r_off Y Y Y Y (dT h9) Y Y ?_
    refine rp Y Y (p_pkt Y Y (dT h9) (.same _)) ?_
    refine rp Y Y (p_asg Y Y) ?_
    refine rs [(8, .b true)] [] Y Y Y ?_
    have hz := some_elim H
    subst hz
    exact RunW_nil rfl
   ·replace H := ite_else h9 H
    refine r_on Y Y Y Y (dF h9) Y (PureD.opD (p_move Y Y)) ?_
    refine bindK H fun r'7 h10 H => ?_
    refine r_on Y Y Y Y (dF h9) Y (PureD.opD (p_callp Y Y Y Tryd.func43 Y Y (g_ref_Owner_ac h10) ⟨Y, trivial⟩)) ?_
    refine r_on Y Y Y Y (dF h9) Y (PureD.opD (p_move Y Y)) ?_
    refine r_on Y Y Y Y (dF h9) Y (PureD.opD (p_ieq Y Y Y)) ?_
    refine rp Y Y (p_pkf Y Y (dF h9) (.same _)) ?_
    refine rp Y Y (p_asg Y Y) ?_
    refine rs [(8, .b (decide (r'7 = user1)))] [] Y Y Y ?_
    have hz := some_elim H
    subst hz
    exact RunW_nil rfl
  ·refine AW2_ret ?_
   have hz := some_elim H
   subst hz
   exact ⟨⟨res_tmp (.same _), trivial⟩, trivial⟩

/-! chirographref.anyRight -/
def g_ref_anyRight_r7 : List (List (Nat × Option Nat)) := [[(4, none)], [(19, some 0)], [(1, none)], [(2, none)], [(3, none)], [(9, none)], [(22, some 3), (23, some 4), (24, some 5)], [(10, none)]]
def g_ref_anyRight_r7c : List (List Nat) := [[], [0], [], [], [], [], [3, 4, 5], [], [0, 1, 2, 3, 4, 5, 6, 7]]
noncomputable def g_ref_anyRight_l1 (s0 : GState) (user1 : Int) (owner2 : Int) (place3 : Int) (d9_0 : Int) : Int → Option (Int ⊕ (Bool ⊕ Unit))
  | r10_1 => (if r10_1 ≤ (2 : Int) then (g_ref_objectOf owner2 place3 d9_0).bind fun r'1 => (g_ref_has s0.Grants user1 r'1 r10_1).bind fun r'2 => (if r'2 = true then some (.inr (.inl true)) else some (.inl (w64 (r10_1 + (1 : Int))))) else some (.inr (.inr ())))
noncomputable def g_ref_anyRight_l0 (s0 : GState) (user1 : Int) (owner2 : Int) (place3 : Int) : Int → Option (Int ⊕ (Bool ⊕ Unit))
  | d9_0 => (if d9_0 < (2 : Int) then (loopO (g_ref_anyRight_l1 s0 user1 owner2 place3 d9_0) (1 : Int)).bind fun o'6 => match o'6 with | .inl y'7 => some (.inr (.inl y'7)) | .inr (y'8) => some (.inl (w64 (d9_0 + (1 : Int)))) else some (.inr (.inr ())))
noncomputable def g_ref_anyRight (s0 : GState) (user1 : Int) (owner2 : Int) (place3 : Int) : Option (Bool) :=
  (loopO (g_ref_anyRight_l0 s0 user1 owner2 place3) (0 : Int)).bind fun o'12 => match o'12 with | .inl y'13 => some y'13 | .inr (y'14) => some false
set_option maxHeartbeats 4000000 in
set_option maxRecDepth 100000 in
theorem g_ref_anyRight_ac {s0 : GState} {user1 : Int} {owner2 : Int} {place3 : Int} {r : Bool} (H : g_ref_anyRight s0 user1 owner2 place3 = some r) : ACp Tryd.prog 32 [(.agg (GState.cs s0)), (AV.int user1), (AV.int owner2), (AV.int place3)] (AV.bool r) := by
 refine ACp_of (AC2_of_body (vs := [.b r]) Tryd.func32 Y Y (Nat.le_of_ble_eq_true Y) Y ?_) (fun _ => .same _)
 unfold g_ref_anyRight at H
 refine as2 [(0, .g (GState.cs s0)), (1, .i user1), (2, .i owner2), (3, .i place3)] [] Y Y Y ?_
 refine sg [0, 1] Y ?_
 refine r_op Y Y (MakeD.opD (n_box 4 Y Y) Y Y Y Y) ?_
 refine rp Y Y (p_asg Y Y) ?_
 refine rz [(1, .i user1), (2, .i owner2), (3, .i place3), (4, .q 4 (0))] [(4, .pure (GState.cs s0))] Y Y Y ?_
 refine AW2_seq ?_
 refine sg [0] Y ?_
 refine rp Y Y (p_asg Y Y) ?_
 refine rz [(1, .i user1), (2, .i owner2), (3, .i place3), (4, .q 4 (0)), (9, .i (0 : Int))] [(4, .pure (GState.cs s0))] Y Y Y ?_
 refine AW2_block ?_
 refine as2 [(1, .i user1), (2, .i owner2), (3, .i place3), (4, .q 4 (0)), (9, .i (0 : Int))] [(4, .pure (GState.cs s0))] Y Y Y ?_
 refine bindK H fun o'12 h7 H => ?_
 refine AW2_loopO (fun a'9 : Int => (⟨[(1, .i user1), (2, .i owner2), (3, .i place3), (4, .q 4 (0)), (9, .i a'9)], [(4, .pure (GState.cs s0))], 28⟩ : TS)) (fun (o : Bool ⊕ Unit) e s' => match o with | .inl y'10 => e = Go.Exit.ret ∧ ResAll Tryd.prog s' [ResultVar.tmp 8] [.b y'10] ∧ HFits s' [] | .inr (y'11) => e = Go.Exit.exit 0 ∧ s' = (⟨[], [], 28⟩ : TS)) h7 Y (fun d9_0 x hx => ?_) (fun e s' hs => ?_)
 ·clear H
  have H := hx
  clear hx
  unfold g_ref_anyRight_l0 at H
  refine AW2_seq ?_
  refine sg [0, 1] Y ?_
  refine rp Y Y (p_move Y Y) ?_
  refine rp Y Y (p_bin Y Y Y Y) ?_
  refine rz [(1, .i user1), (2, .i owner2), (3, .i place3), (4, .q 4 (0)), (9, .i d9_0), (12, .b (decide (d9_0 < (2 : Int))))] [(4, .pure (GState.cs s0))] Y Y Y ?_
  refine AW2_if (p := d9_0 < (2 : Int)) Y (fun h1 => ?_) (fun h1 => ?_)
  ·replace H := ite_then h1 H
   refine as2 [(1, .i user1), (2, .i owner2), (3, .i place3), (4, .q 4 (0)), (9, .i d9_0)] [(4, .pure (GState.cs s0))] Y Y Y ?_
   refine AW2_skip ?_
   refine AW2_seq ?_
   refine AW2_block ?_
   refine sg [0] Y ?_
   refine rp Y Y (p_asg Y Y) ?_
   refine rz [(1, .i user1), (2, .i owner2), (3, .i place3), (4, .q 4 (0)), (9, .i d9_0), (10, .i (1 : Int))] [(4, .pure (GState.cs s0))] Y Y Y ?_
   refine AW2_block ?_
   refine as2 [(1, .i user1), (2, .i owner2), (3, .i place3), (4, .q 4 (0)), (9, .i d9_0), (10, .i (1 : Int))] [(4, .pure (GState.cs s0))] Y Y Y ?_
   refine bindK H fun o'6 h6 H => ?_
   refine AW2_loopO (fun a'3 : Int => (⟨[(1, .i user1), (2, .i owner2), (3, .i place3), (4, .q 4 (0)), (9, .i d9_0), (10, .i a'3)], [(4, .pure (GState.cs s0))], 28⟩ : TS)) (fun (o : Bool ⊕ Unit) e s' => match o with | .inl y'4 => e = Go.Exit.ret ∧ ResAll Tryd.prog s' [ResultVar.tmp 8] [.b y'4] ∧ HFits s' [] | .inr (y'5) => e = Go.Exit.exit 2 ∧ s' = (⟨[(1, .i user1), (2, .i owner2), (3, .i place3), (4, .q 4 (0)), (9, .i d9_0)], [(4, .pure (GState.cs s0))], 28⟩ : TS)) h6 Y (fun r10_1 x hx => ?_) (fun e s' hs => ?_)
   ·clear H
    have H := hx
    clear hx
    unfold g_ref_anyRight_l1 at H
    refine AW2_seq ?_
    refine sg [0, 1] Y ?_
    refine rp Y Y (p_move Y Y) ?_
    refine rp Y Y (p_bin Y Y Y Y) ?_
    refine rz [(1, .i user1), (2, .i owner2), (3, .i place3), (4, .q 4 (0)), (9, .i d9_0), (10, .i r10_1), (16, .b (decide (r10_1 ≤ (2 : Int))))] [(4, .pure (GState.cs s0))] Y Y Y ?_
    refine AW2_if (p := r10_1 ≤ (2 : Int)) Y (fun h2 => ?_) (fun h2 => ?_)
    ·replace H := ite_then h2 H
     refine as2 [(1, .i user1), (2, .i owner2), (3, .i place3), (4, .q 4 (0)), (9, .i d9_0), (10, .i r10_1)] [(4, .pure (GState.cs s0))] Y Y Y ?_
     refine AW2_skip ?_
     refine AW2_seq ?_
     refine AW2_block ?_
     refine AW2_seq ?_
     refine bindK H fun r'1 h3 H => ?_
     refine bindK H fun r'2 h4 H => ?_
     refine AW2_ghoQ ?_
     refine AW2_draw 8 [8] (fun k => ([.q 4 (0 + 114), .p ((fun q : List GGrant => AV.lst (q.flatMap GGrant.cs) q.length) s0.Grants), .i user1, .i owner2, .i place3, .i d9_0, .i r'1, .i r10_1] : List TV).getD k TV.any) (fun k => g_ref_anyRight_r7.getD k []) [(1, none), (2, none), (3, none), (4, none), (9, none), (10, none), (20, some 1), (21, some 2), (25, some 6), (26, some 7)] [] (fun k => g_ref_anyRight_r7c.getD k []) mixed (by kernel_rfl) Y Y (a_op (g_x Y (x_p Y (u_fa Y Y Tryd.underlying35 Y in_32 nz Y Y (nl (GState.len s0))) Y)) (a_op (g_x Y (x_p Y (u_ld Y Y Tryd.underlying32 Y Y ((Sub.refl _).trans (GState.sub1 s0))) Y)) (a_op (g_x Y (x_p Y (p_move Y Y) Y)) (a_op (g_x Y (x_p Y (p_move Y Y) Y)) (a_op (g_x Y (x_p Y (p_move Y Y) Y)) (a_op (g_x Y (x_p Y (p_move Y Y) Y)) (a_op (g_x Y (x_p Y (p_callp Y Y Y Tryd.func50 Y Y (g_ref_objectOf_ac h3) ⟨Y, Y, Y, trivial⟩) Y)) (a_op (g_x Y (x_p Y (p_move Y Y) Y)) (a_nil))))))))) ?_
     refine t_op Y Y (PureD.opD (p_callp Y Y Y Tryd.func49 Y Y (g_ref_has_ac h4) ⟨Y, Y, Y, Y, trivial⟩)) ?_
     refine t_gho (Gho_st (L := [(1, .i user1), (2, .i owner2), (3, .i place3), (4, .q 4 (0)), (9, .i d9_0), (10, .i r10_1), (27, .b r'2)]) (H := [(4, .pure (GState.cs s0))]) (N := 28) Y ⟨TLes.same _, TLes.same _, TLes.same _, TLes.same _, TLes.same _, TLes.same _, TLes.same _, trivial⟩ ⟨Y, trivial⟩) ?_
     refine AW2_cond Y (fun h5 => ?_) (fun h5 => ?_)
     ·replace H := ite_then h5 H
      refine sg [0] Y ?_
      refine rp Y Y (p_asg Y Y) ?_
      refine rz [(8, .b true)] [] Y Y Y ?_
      refine AW2_ret ?_
      have hz := some_elim H
      subst hz
      exact ⟨Y, ⟨res_tmp (.same _), trivial⟩, trivial⟩
     ·replace H := ite_else (ne_true h5) H
      refine as2 [(1, .i user1), (2, .i owner2), (3, .i place3), (4, .q 4 (0)), (9, .i d9_0), (10, .i r10_1)] [(4, .pure (GState.cs s0))] Y Y Y ?_
      refine AW2_skip ?_
      refine AW2_reg [0, 1, 2] Y ?_
      refine rp Y Y (p_move Y Y) ?_
      refine rp Y Y (p_bin Y Y Y Y) ?_
      refine rp Y Y (p_asg Y Y) ?_
      refine rz [(1, .i user1), (2, .i owner2), (3, .i place3), (4, .q 4 (0)), (9, .i d9_0), (10, .i (w64 (r10_1 + (1 : Int))))] [(4, .pure (GState.cs s0))] Y Y Y ?_
      have hz := some_elim H
      subst hz
      exact ⟨Y, Y⟩
    ·replace H := ite_else h2 H
     refine as2 [(1, .i user1), (2, .i owner2), (3, .i place3), (4, .q 4 (0)), (9, .i d9_0)] [(4, .pure (GState.cs s0))] Y Y Y ?_
     refine AW2_exit ?_
     refine thenQ2_exit ?_
     have hz := some_elim H
     subst hz
     exact ⟨Y, Y⟩
   ·rcases o'6 with y'7 | y'8
    ·obtain ⟨rfl, hs⟩ := hs
     refine ⟨by simp, ?_⟩
     have hz := some_elim H
     subst hz
     exact ⟨Y, hs.1, hs.2⟩
    ·obtain ⟨rfl, rfl⟩ := hs
     refine ⟨by simp, ?_⟩
     refine blockQ2_exit ?_
     refine AW2_reg [0, 1, 2] Y ?_
     refine rp Y Y (p_move Y Y) ?_
     refine rp Y Y (p_bin Y Y Y Y) ?_
     refine rp Y Y (p_asg Y Y) ?_
     refine rz [(1, .i user1), (2, .i owner2), (3, .i place3), (4, .q 4 (0)), (9, .i (w64 (d9_0 + (1 : Int))))] [(4, .pure (GState.cs s0))] Y Y Y ?_
     have hz := some_elim H
     subst hz
     exact ⟨Y, Y⟩
  ·replace H := ite_else h1 H
   refine as2 [] [] Y Y Y ?_
   refine AW2_exit ?_
   refine thenQ2_exit ?_
   have hz := some_elim H
   subst hz
   exact ⟨Y, Y⟩
 ·rcases o'12 with y'13 | y'14
  ·obtain ⟨rfl, hs⟩ := hs
   refine ⟨by simp, ?_⟩
   have hz := some_elim H
   subst hz
   exact ⟨hs.1, hs.2⟩
  ·obtain ⟨rfl, rfl⟩ := hs
   refine ⟨by simp, ?_⟩
   refine blockQ2_exit ?_
   refine sg [0] Y ?_
   refine rp Y Y (p_asg Y Y) ?_
   refine rz [(8, .b false)] [] Y Y Y ?_
   refine AW2_ret ?_
   have hz := some_elim H
   subst hz
   exact ⟨⟨res_tmp (.same _), trivial⟩, trivial⟩
end Go.Proofs.YtpgimlllchibnaaDoor.VM
