/- Functions of the program, as they answer, and that their code comes to these answers. -/
import Derived.Test.YtalnmpfjgiecdaaDoorGw3
namespace Go.Proofs.YtalnmpfjgiecdaaDoor.VM
open Go Go.RowKit

set_option maxRecDepth 100000 in
theorem ty_4 {d : Nat} {cs : List AV} (h : Typed Tryd.prog d 4 cs) : ∃ x : Bool, cs = [(AV.bool x)] ∧ okA x := match d, h with
  | 0, h => False.elim h
  | d + 1, h => ty_bool Tryd.underlying4 h
set_option maxRecDepth 100000 in
theorem ty_9 {d : Nat} {cs : List AV} (h : Typed Tryd.prog d 9 cs) : ∃ x : List UInt8, cs = [(AV.txt x)] ∧ okT x := match d, h with
  | 0, h => False.elim h
  | d + 1, h => ty_text Tryd.underlying9 h
set_option maxRecDepth 100000 in
theorem ty_3 {d : Nat} {cs : List AV} (h : Typed Tryd.prog d 3 cs) : ∃ x : Int, cs = [(AV.int x)] ∧ okI x := match d, h with
  | 0, h => False.elim h
  | d + 1, h => ty_int Tryd.underlying3 h
def GColumn.ok (x : GColumn) : Prop := okT x.Name ∧ okI x.Kind ∧ okA x.Null
set_option maxRecDepth 100000 in
theorem ty_68 {d : Nat} {cs : List AV} (h : Typed Tryd.prog d 68 cs) : ∃ x : GColumn, cs = GColumn.cs x ∧ GColumn.ok x := match d, h with
  | 0, h => False.elim h
  | d + 1, h => by
    obtain ⟨es, rfl, hl, hf⟩ := ty_struct Tryd.underlying68 h
    match es, hl, hf with
    | [e0, e1, e2], _, hf =>
    obtain ⟨x0, h0, q0⟩ := ty_9 (hf 0 _ e0 rfl rfl)
    obtain ⟨x1, h1, q1⟩ := ty_3 (hf 1 _ e1 rfl rfl)
    obtain ⟨x2, h2, q2⟩ := ty_4 (hf 2 _ e2 rfl rfl)
    refine ⟨⟨x0, x1, x2⟩, ?_, ⟨q0, q1, q2⟩⟩
    rw [h0, h1, h2]
    simp only [List.flatten_cons, List.flatten_nil, List.append_nil, GColumn.cs]
set_option maxRecDepth 100000 in
theorem ty_35 {d : Nat} {cs : List AV} (h : Typed Tryd.prog d 35 cs) : ∃ x : List GColumn, cs = [((fun q : List GColumn => AV.lst (q.flatMap GColumn.cs) q.length) x)] ∧ (okL 32 GColumn.ok) x := match d, h with
  | 0, h => False.elim h
  | d + 1, h => ty_slicef (g := fun b : GColumn => GColumn.cs b) Tryd.underlying35 (bytes_of in_68) (fun _ hx => ty_68 hx) h
set_option maxRecDepth 100000 in
theorem ty_22 {d : Nat} {cs : List AV} (h : Typed Tryd.prog d 22 cs) : ∃ x : UInt64, cs = [(AV.u64 x)] ∧ okA x := match d, h with
  | 0, h => False.elim h
  | d + 1, h => ty_u64 Tryd.underlying22 h
def GValue.ok (x : GValue) : Prop := okI x.Kind ∧ okI x.Int_ ∧ okA x.Bits ∧ okT x.Text
set_option maxRecDepth 100000 in
theorem ty_29 {d : Nat} {cs : List AV} (h : Typed Tryd.prog d 29 cs) : ∃ x : GValue, cs = GValue.cs x ∧ GValue.ok x := match d, h with
  | 0, h => False.elim h
  | d + 1, h => by
    obtain ⟨es, rfl, hl, hf⟩ := ty_struct Tryd.underlying29 h
    match es, hl, hf with
    | [e0, e1, e2, e3], _, hf =>
    obtain ⟨x0, h0, q0⟩ := ty_3 (hf 0 _ e0 rfl rfl)
    obtain ⟨x1, h1, q1⟩ := ty_3 (hf 1 _ e1 rfl rfl)
    obtain ⟨x2, h2, q2⟩ := ty_22 (hf 2 _ e2 rfl rfl)
    obtain ⟨x3, h3, q3⟩ := ty_9 (hf 3 _ e3 rfl rfl)
    refine ⟨⟨x0, x1, x2, x3⟩, ?_, ⟨q0, q1, q2, q3⟩⟩
    rw [h0, h1, h2, h3]
    simp only [List.flatten_cons, List.flatten_nil, List.append_nil, GValue.cs]
set_option maxRecDepth 100000 in
theorem ty_38 {d : Nat} {cs : List AV} (h : Typed Tryd.prog d 38 cs) : ∃ x : List GValue, cs = [((fun q : List GValue => AV.lst (q.flatMap GValue.cs) q.length) x)] ∧ (okL 40 GValue.ok) x := match d, h with
  | 0, h => False.elim h
  | d + 1, h => ty_slicef (g := fun b : GValue => GValue.cs b) Tryd.underlying38 (bytes_of in_29) (fun _ hx => ty_29 hx) h
def GCell.ok (x : GCell) : Prop := okA x.Full ∧ (okL 40 GValue.ok) x.Row
set_option maxRecDepth 100000 in
theorem ty_42 {d : Nat} {cs : List AV} (h : Typed Tryd.prog d 42 cs) : ∃ x : GCell, cs = GCell.cs x ∧ GCell.ok x := match d, h with
  | 0, h => False.elim h
  | d + 1, h => by
    obtain ⟨es, rfl, hl, hf⟩ := ty_struct Tryd.underlying42 h
    match es, hl, hf with
    | [e0, e1], _, hf =>
    obtain ⟨x0, h0, q0⟩ := ty_4 (hf 0 _ e0 rfl rfl)
    obtain ⟨x1, h1, q1⟩ := ty_38 (hf 1 _ e1 rfl rfl)
    refine ⟨⟨x0, x1⟩, ?_, ⟨q0, q1⟩⟩
    rw [h0, h1]
    simp only [List.flatten_cons, List.flatten_nil, List.append_nil, GCell.cs]
set_option maxRecDepth 100000 in
theorem ty_43 {d : Nat} {cs : List AV} (h : Typed Tryd.prog d 43 cs) : ∃ x : Vector GCell 4, cs = x.toList.flatMap GCell.cs ∧ (okV GCell.ok) x := match d, h with
  | 0, h => False.elim h
  | d + 1, h => ty_arrayf (g := fun b : GCell => GCell.cs b) Tryd.underlying43 (fun _ hx => ty_42 hx) h
set_option maxRecDepth 100000 in
theorem ty_44 {d : Nat} {cs : List AV} (h : Typed Tryd.prog d 44 cs) : ∃ x : Vector (Vector GCell 4) 2, cs = x.toList.flatMap (fun v : Vector GCell 4 => v.toList.flatMap GCell.cs) ∧ (okV (okV GCell.ok)) x := match d, h with
  | 0, h => False.elim h
  | d + 1, h => ty_arrayf (g := fun b : Vector GCell 4 => b.toList.flatMap GCell.cs) Tryd.underlying44 (fun _ hx => ty_43 hx) h
def GTable.ok (x : GTable) : Prop := okA x.There ∧ okT x.Name ∧ (okL 32 GColumn.ok) x.Cols ∧ (okV (okV GCell.ok)) x.Drawers
set_option maxRecDepth 100000 in
theorem ty_46 {d : Nat} {cs : List AV} (h : Typed Tryd.prog d 46 cs) : ∃ x : GTable, cs = GTable.cs x ∧ GTable.ok x := match d, h with
  | 0, h => False.elim h
  | d + 1, h => by
    obtain ⟨es, rfl, hl, hf⟩ := ty_struct Tryd.underlying46 h
    match es, hl, hf with
    | [e0, e1, e2, e3], _, hf =>
    obtain ⟨x0, h0, q0⟩ := ty_4 (hf 0 _ e0 rfl rfl)
    obtain ⟨x1, h1, q1⟩ := ty_9 (hf 1 _ e1 rfl rfl)
    obtain ⟨x2, h2, q2⟩ := ty_35 (hf 2 _ e2 rfl rfl)
    obtain ⟨x3, h3, q3⟩ := ty_44 (hf 3 _ e3 rfl rfl)
    refine ⟨⟨x0, x1, x2, x3⟩, ?_, ⟨q0, q1, q2, q3⟩⟩
    rw [h0, h1, h2, h3]
    simp only [List.flatten_cons, List.flatten_nil, List.append_nil, GTable.cs]
set_option maxRecDepth 100000 in
theorem ty_49 {d : Nat} {cs : List AV} (h : Typed Tryd.prog d 49 cs) : ∃ x : Vector Bool 2, cs = x.toList.map AV.bool ∧ (okV okA) x := match d, h with
  | 0, h => False.elim h
  | d + 1, h => ty_array (f := AV.bool) Tryd.underlying49 (fun _ hx => ty_4 hx) h

/-! chirographlaw.TableRows -/
noncomputable def g_law_TableRows (t0 : GTable) (open1 : Vector Bool 2) : Option (Bool) :=
  (g_table_Rows t0 open1).bind fun r'1 => (g_ref_RowsOf t0 open1).bind fun r'2 => ((if r'1.2 = r'2.2 then (g_law_sameRows r'1.1 r'2.1).bind fun r'4 => some r'4 else some false)).bind fun g'5 => some g'5
set_option maxHeartbeats 4000000 in
set_option maxRecDepth 100000 in
theorem g_law_TableRows_ac {t0 : GTable} {open1 : Vector Bool 2} {r : Bool} (H : g_law_TableRows t0 open1 = some r) : ACp Tryd.prog 8 [(.agg (GTable.cs t0)), (.agg (open1.toList.map AV.bool))] (AV.bool r) := by
 refine ACp_of (AC2_of_body (vs := [.b r]) Tryd.func8 rfl rfl (Nat.le_of_ble_eq_true rfl) rfl ?_) (fun _ => .same _)
 unfold g_law_TableRows at H
 refine as2 [(0, .g (GTable.cs t0)), (1, .g (open1.toList.map AV.bool))] [] rfl rfl rfl ?_
 refine sg [0, 1, 2] rfl ?_
 refine r_op rfl rfl (MakeD.opD (n_box 2 rfl rfl) rfl rfl rfl rfl) ?_
 refine r_op rfl rfl (MakeD.opD (n_box 3 rfl rfl) rfl rfl rfl rfl) ?_
 refine rp rfl rfl (p_asg rfl rfl) ?_
 refine rz [(2, .q 2 (0)), (3, .q 3 (0))] [(2, .pure (GTable.cs t0)), (3, .pure (open1.toList.map AV.bool))] rfl rfl rfl ?_
 refine sg [0, 1, 2, 3, 4, 5, 6, 7] rfl ?_
 refine rp rfl rfl (u_lda rfl rfl Tryd.underlying46 rfl in_46 rfl (Nat.succ_pos _) (Sub.refl _) (GTable.len t0)) ?_
 refine rp rfl rfl (u_lda rfl rfl Tryd.underlying49 rfl in_49 rfl (Nat.succ_pos _) (Sub.refl _) (vmap_len (f := AV.bool) open1)) ?_
 refine bindK H fun r'1 h1 H => ?_
 refine rp rfl rfl (p_callp rfl rfl rfl Tryd.func20 rfl rfl (g_table_Rows_ac h1) ⟨rfl, rfl, trivial⟩) ?_
 refine rp rfl rfl (p_move rfl rfl) ?_
 refine rp rfl rfl (p_ext rfl rfl rfl rfl) ?_
 refine rp rfl rfl (p_ext rfl rfl rfl rfl) ?_
 refine rp rfl rfl (p_asg rfl rfl) ?_
 refine rp rfl rfl (p_asg rfl rfl) ?_
 refine rz [(2, .q 2 (0)), (3, .q 3 (0)), (5, .p ((fun q : List (List GValue) => AV.lst (q.map (fun q : List GValue => AV.lst (q.flatMap GValue.cs) q.length)) q.length) r'1.1)), (6, .i r'1.2)] [(2, .pure (GTable.cs t0)), (3, .pure (open1.toList.map AV.bool))] rfl rfl rfl ?_
 refine sg [0, 1, 2, 3, 4, 5, 6, 7] rfl ?_
 refine rp rfl rfl (u_lda rfl rfl Tryd.underlying46 rfl in_46 rfl (Nat.succ_pos _) (Sub.refl _) (GTable.len t0)) ?_
 refine rp rfl rfl (u_lda rfl rfl Tryd.underlying49 rfl in_49 rfl (Nat.succ_pos _) (Sub.refl _) (vmap_len (f := AV.bool) open1)) ?_
 refine bindK H fun r'2 h2 H => ?_
 refine rp rfl rfl (p_callp rfl rfl rfl Tryd.func21 rfl rfl (g_ref_RowsOf_ac h2) ⟨rfl, rfl, trivial⟩) ?_
 refine rp rfl rfl (p_move rfl rfl) ?_
 refine rp rfl rfl (p_ext rfl rfl rfl rfl) ?_
 refine rp rfl rfl (p_ext rfl rfl rfl rfl) ?_
 refine rp rfl rfl (p_asg rfl rfl) ?_
 refine rp rfl rfl (p_asg rfl rfl) ?_
 refine rz [(5, .p ((fun q : List (List GValue) => AV.lst (q.map (fun q : List GValue => AV.lst (q.flatMap GValue.cs) q.length)) q.length) r'1.1)), (6, .i r'1.2), (7, .p ((fun q : List (List GValue) => AV.lst (q.map (fun q : List GValue => AV.lst (q.flatMap GValue.cs) q.length)) q.length) r'2.1)), (8, .i r'2.2)] [] rfl rfl rfl ?_
 refine AW2_seq ?_
 refine bindK H fun g'5 h6 H => ?_
 refine AW2_mid (⟨[(4, .b g'5)], [], 29⟩ : TS) ?_ ?_
 ·clear H
  have H := h6
  clear h6
  refine AW2_reg [0, 1, 2, 3, 4, 5, 6, 7, 8] rfl ?_
  refine rp rfl rfl (p_move rfl rfl) ?_
  refine rp rfl rfl (p_move rfl rfl) ?_
  refine rp rfl rfl (p_ieq rfl rfl rfl) ?_
  refine rp rfl rfl (p_move rfl rfl) ?_
  refine (Classical.em (r'1.2 = r'2.2)).elim (fun h4 => ?_) (fun h4 => ?_)
  ·replace H := ite_then h4 H
   refine r_on rfl rfl rfl rfl (decide_eq_true h4) rfl (PureD.opD (p_move rfl rfl)) ?_
   refine r_on rfl rfl rfl rfl (decide_eq_true h4) rfl (PureD.opD (p_move rfl rfl)) ?_
   refine bindK H fun r'4 h5 H => ?_
   refine r_on rfl rfl rfl rfl (decide_eq_true h4) rfl (PureD.opD (p_callp rfl rfl rfl Tryd.func22 rfl rfl (g_law_sameRows_ac h5) ⟨rfl, rfl, trivial⟩)) ?_
   refine rp rfl rfl (p_pkt rfl rfl (decide_eq_true h4) (.same _)) ?_
   refine rp rfl rfl (p_asg rfl rfl) ?_
   refine rs [(4, .b r'4)] [] rfl rfl rfl ?_
   have hz := some_elim H
   subst hz
   exact RunW_nil rfl
  ·replace H := ite_else h4 H
   refine r_off rfl rfl rfl rfl (decide_eq_false h4) rfl rfl ?_
   refine r_off rfl rfl rfl rfl (decide_eq_false h4) rfl rfl ?_
   refine r_off rfl rfl rfl rfl (decide_eq_false h4) rfl rfl ?_
   refine rp rfl rfl (p_pkf rfl rfl (decide_eq_false h4) (.same _)) ?_
   refine rp rfl rfl (p_asg rfl rfl) ?_
   refine rs [(4, .b false)] [] rfl rfl rfl ?_
   have hz := some_elim H
   subst hz
   exact RunW_nil rfl
 ·refine AW2_ret ?_
  have hz := some_elim H
  subst hz
  exact ⟨⟨res_tmp (.same _), trivial⟩, trivial⟩
end Go.Proofs.YtalnmpfjgiecdaaDoor.VM
