/- Functions of the program, as they answer, and that their code comes to these answers. -/
import Derived.Test.YtcahembojhmpbaaDoorKs4
namespace Go.Proofs.YtcahembojhmpbaaDoor.VM
open Go Go.RowKit

set_option maxRecDepth 100000 in
theorem ty_3 {d : Nat} {cs : List AV} (h : Typed Tryd.prog d 3 cs) : ∃ x : Int, cs = [(AV.int x)] ∧ okI x := match d, h with
  | 0, h => False.elim h
  | d + 1, h => ty_int Tryd.underlying3 h
set_option maxRecDepth 100000 in
theorem ty_9 {d : Nat} {cs : List AV} (h : Typed Tryd.prog d 9 cs) : ∃ x : List UInt8, cs = [(AV.txt x)] ∧ okT x := match d, h with
  | 0, h => False.elim h
  | d + 1, h => ty_text Tryd.underlying9 h
set_option maxRecDepth 100000 in
theorem ty_4 {d : Nat} {cs : List AV} (h : Typed Tryd.prog d 4 cs) : ∃ x : Bool, cs = [(AV.bool x)] ∧ okA x := match d, h with
  | 0, h => False.elim h
  | d + 1, h => ty_bool Tryd.underlying4 h
def GColumn.ok (x : GColumn) : Prop := okT x.Name ∧ okI x.Kind ∧ okA x.Null
set_option maxRecDepth 100000 in
theorem ty_59 {d : Nat} {cs : List AV} (h : Typed Tryd.prog d 59 cs) : ∃ x : GColumn, cs = GColumn.cs x ∧ GColumn.ok x := match d, h with
  | 0, h => False.elim h
  | d + 1, h => by
    obtain ⟨es, rfl, hl, hf⟩ := ty_struct Tryd.underlying59 h
    match es, hl, hf with
    | [e0, e1, e2], _, hf =>
    obtain ⟨x0, h0, q0⟩ := ty_9 (hf 0 _ e0 rfl rfl)
    obtain ⟨x1, h1, q1⟩ := ty_3 (hf 1 _ e1 rfl rfl)
    obtain ⟨x2, h2, q2⟩ := ty_4 (hf 2 _ e2 rfl rfl)
    refine ⟨⟨x0, x1, x2⟩, ?_, ⟨q0, q1, q2⟩⟩
    rw [h0, h1, h2]
    simp only [List.flatten_cons, List.flatten_nil, List.append_nil, GColumn.cs]
set_option maxRecDepth 100000 in
theorem ty_28 {d : Nat} {cs : List AV} (h : Typed Tryd.prog d 28 cs) : ∃ x : List GColumn, cs = [((fun q : List GColumn => AV.lst (q.flatMap GColumn.cs) q.length) x)] ∧ (okL 32 GColumn.ok) x := match d, h with
  | 0, h => False.elim h
  | d + 1, h => ty_slicef (g := fun b : GColumn => GColumn.cs b) Tryd.underlying28 (bytes_of in_59) (fun _ hx => ty_59 hx) h
set_option maxRecDepth 100000 in
theorem ty_22 {d : Nat} {cs : List AV} (h : Typed Tryd.prog d 22 cs) : ∃ x : UInt64, cs = [(AV.u64 x)] ∧ okA x := match d, h with
  | 0, h => False.elim h
  | d + 1, h => ty_u64 Tryd.underlying22 h
def GValue.ok (x : GValue) : Prop := okI x.Kind ∧ okI x.Int_ ∧ okA x.Bits ∧ okT x.Text
set_option maxRecDepth 100000 in
theorem ty_24 {d : Nat} {cs : List AV} (h : Typed Tryd.prog d 24 cs) : ∃ x : GValue, cs = GValue.cs x ∧ GValue.ok x := match d, h with
  | 0, h => False.elim h
  | d + 1, h => by
    obtain ⟨es, rfl, hl, hf⟩ := ty_struct Tryd.underlying24 h
    match es, hl, hf with
    | [e0, e1, e2, e3], _, hf =>
    obtain ⟨x0, h0, q0⟩ := ty_3 (hf 0 _ e0 rfl rfl)
    obtain ⟨x1, h1, q1⟩ := ty_3 (hf 1 _ e1 rfl rfl)
    obtain ⟨x2, h2, q2⟩ := ty_22 (hf 2 _ e2 rfl rfl)
    obtain ⟨x3, h3, q3⟩ := ty_9 (hf 3 _ e3 rfl rfl)
    refine ⟨⟨x0, x1, x2, x3⟩, ?_, ⟨q0, q1, q2, q3⟩⟩
    rw [h0, h1, h2, h3]
    simp only [List.flatten_cons, List.flatten_nil, List.append_nil, GValue.cs]
set_option maxRecDepth 100000 in
theorem ty_40 {d : Nat} {cs : List AV} (h : Typed Tryd.prog d 40 cs) : ∃ x : List GValue, cs = [((fun q : List GValue => AV.lst (q.flatMap GValue.cs) q.length) x)] ∧ (okL 40 GValue.ok) x := match d, h with
  | 0, h => False.elim h
  | d + 1, h => ty_slicef (g := fun b : GValue => GValue.cs b) Tryd.underlying40 (bytes_of in_24) (fun _ hx => ty_24 hx) h
inductive GExpr.ok : GExpr → Prop
  | mk {x : GExpr} : okI x.Op → GValue.ok x.Value → okT x.Name → x.Args.length * 88 ≤ reachBytes → x.Args.length ≤ maxLen → (∀ y ∈ x.Args, GExpr.ok y) → GExpr.ok x
set_option maxRecDepth 100000 in
theorem ty_27_ (N : Nat) : ∀ (d : Nat) (cs : List AV), d ≤ N → Typed Tryd.prog d 27 cs → ∃ x : GExpr, cs = GExpr.cs x ∧ GExpr.ok x := by
  induction N with
  | zero =>
    intro d cs hd h
    obtain rfl : d = 0 := by omega
    exact False.elim h
  | succ N ih =>
    intro d cs hd h
    match d, hd, h with
    | 0, _, h => exact False.elim h
    | d + 1, hd, h =>
    obtain ⟨es, rfl, hl, hf⟩ := ty_struct Tryd.underlying27 h
    match es, hl, hf with
    | [e0, e1, e2, e3], _, hf =>
    obtain ⟨x0, h0, q0⟩ := ty_3 (hf 0 _ e0 rfl rfl)
    obtain ⟨x1, h1, q1⟩ := ty_24 (hf 1 _ e1 rfl rfl)
    obtain ⟨x2, h2, q2⟩ := ty_9 (hf 2 _ e2 rfl rfl)
    obtain ⟨x3, h3, q3⟩ : ∃ l : List GExpr, e3 = [.lst (l.flatMap GExpr.cs) l.length] ∧ okL 88 GExpr.ok l := by
      have h9 := hf 3 _ e3 rfl rfl
      match d, hd, h9 with
      | 0, _, h => exact False.elim h
      | k + 1, hd, h => exact ty_slicef (g := fun b : GExpr => GExpr.cs b) Tryd.underlying25 (bytes_of in_27) (fun x hx => ih k x (by omega) hx) h
    refine ⟨⟨x0, x1, x2, x3⟩, ?_, .mk q0 q1 q2 q3.1 q3.2.1 q3.2.2⟩
    rw [h0, h1, h2, h3, GExpr.cs_eq]
    simp only [List.flatten_cons, List.flatten_nil, List.append_nil]
theorem ty_27 {d : Nat} {cs : List AV} (h : Typed Tryd.prog d 27 cs) : ∃ x : GExpr, cs = GExpr.cs x ∧ GExpr.ok x := ty_27_ d d cs (Nat.le_refl _) h
def GSet.ok (x : GSet) : Prop := okT x.Col ∧ GExpr.ok x.Expr
set_option maxRecDepth 100000 in
theorem ty_71 {d : Nat} {cs : List AV} (h : Typed Tryd.prog d 71 cs) : ∃ x : GSet, cs = GSet.cs x ∧ GSet.ok x := match d, h with
  | 0, h => False.elim h
  | d + 1, h => by
    obtain ⟨es, rfl, hl, hf⟩ := ty_struct Tryd.underlying71 h
    match es, hl, hf with
    | [e0, e1], _, hf =>
    obtain ⟨x0, h0, q0⟩ := ty_9 (hf 0 _ e0 rfl rfl)
    obtain ⟨x1, h1, q1⟩ := ty_27 (hf 1 _ e1 rfl rfl)
    refine ⟨⟨x0, x1⟩, ?_, ⟨q0, q1⟩⟩
    rw [h0, h1]
    simp only [List.flatten_cons, List.flatten_nil, List.append_nil, GSet.cs]
set_option maxRecDepth 100000 in
theorem ty_41 {d : Nat} {cs : List AV} (h : Typed Tryd.prog d 41 cs) : ∃ x : List GSet, cs = [((fun q : List GSet => AV.lst (q.flatMap GSet.cs) q.length) x)] ∧ (okL 104 GSet.ok) x := match d, h with
  | 0, h => False.elim h
  | d + 1, h => ty_slicef (g := fun b : GSet => GSet.cs b) Tryd.underlying41 (bytes_of in_71) (fun _ hx => ty_71 hx) h
def GItem.ok (x : GItem) : Prop := okI x.Agg ∧ GExpr.ok x.Expr
set_option maxRecDepth 100000 in
theorem ty_61 {d : Nat} {cs : List AV} (h : Typed Tryd.prog d 61 cs) : ∃ x : GItem, cs = GItem.cs x ∧ GItem.ok x := match d, h with
  | 0, h => False.elim h
  | d + 1, h => by
    obtain ⟨es, rfl, hl, hf⟩ := ty_struct Tryd.underlying61 h
    match es, hl, hf with
    | [e0, e1], _, hf =>
    obtain ⟨x0, h0, q0⟩ := ty_3 (hf 0 _ e0 rfl rfl)
    obtain ⟨x1, h1, q1⟩ := ty_27 (hf 1 _ e1 rfl rfl)
    refine ⟨⟨x0, x1⟩, ?_, ⟨q0, q1⟩⟩
    rw [h0, h1]
    simp only [List.flatten_cons, List.flatten_nil, List.append_nil, GItem.cs]
set_option maxRecDepth 100000 in
theorem ty_34 {d : Nat} {cs : List AV} (h : Typed Tryd.prog d 34 cs) : ∃ x : List GItem, cs = [((fun q : List GItem => AV.lst (q.flatMap GItem.cs) q.length) x)] ∧ (okL 96 GItem.ok) x := match d, h with
  | 0, h => False.elim h
  | d + 1, h => ty_slicef (g := fun b : GItem => GItem.cs b) Tryd.underlying34 (bytes_of in_61) (fun _ hx => ty_61 hx) h
def GSort.ok (x : GSort) : Prop := okI x.Item ∧ okA x.Down
set_option maxRecDepth 100000 in
theorem ty_64 {d : Nat} {cs : List AV} (h : Typed Tryd.prog d 64 cs) : ∃ x : GSort, cs = GSort.cs x ∧ GSort.ok x := match d, h with
  | 0, h => False.elim h
  | d + 1, h => by
    obtain ⟨es, rfl, hl, hf⟩ := ty_struct Tryd.underlying64 h
    match es, hl, hf with
    | [e0, e1], _, hf =>
    obtain ⟨x0, h0, q0⟩ := ty_3 (hf 0 _ e0 rfl rfl)
    obtain ⟨x1, h1, q1⟩ := ty_4 (hf 1 _ e1 rfl rfl)
    refine ⟨⟨x0, x1⟩, ?_, ⟨q0, q1⟩⟩
    rw [h0, h1]
    simp only [List.flatten_cons, List.flatten_nil, List.append_nil, GSort.cs]
set_option maxRecDepth 100000 in
theorem ty_35 {d : Nat} {cs : List AV} (h : Typed Tryd.prog d 35 cs) : ∃ x : List GSort, cs = [((fun q : List GSort => AV.lst (q.flatMap GSort.cs) q.length) x)] ∧ (okL 16 GSort.ok) x := match d, h with
  | 0, h => False.elim h
  | d + 1, h => ty_slicef (g := fun b : GSort => GSort.cs b) Tryd.underlying35 (bytes_of in_64) (fun _ hx => ty_64 hx) h
def GQuery.ok (x : GQuery) : Prop := (okL 96 GItem.ok) x.Items ∧ GExpr.ok x.Where ∧ okT x.Group ∧ (okL 16 GSort.ok) x.Sorts ∧ okA x.Cut ∧ okI x.Most
set_option maxRecDepth 100000 in
theorem ty_37 {d : Nat} {cs : List AV} (h : Typed Tryd.prog d 37 cs) : ∃ x : GQuery, cs = GQuery.cs x ∧ GQuery.ok x := match d, h with
  | 0, h => False.elim h
  | d + 1, h => by
    obtain ⟨es, rfl, hl, hf⟩ := ty_struct Tryd.underlying37 h
    match es, hl, hf with
    | [e0, e1, e2, e3, e4, e5], _, hf =>
    obtain ⟨x0, h0, q0⟩ := ty_34 (hf 0 _ e0 rfl rfl)
    obtain ⟨x1, h1, q1⟩ := ty_27 (hf 1 _ e1 rfl rfl)
    obtain ⟨x2, h2, q2⟩ := ty_9 (hf 2 _ e2 rfl rfl)
    obtain ⟨x3, h3, q3⟩ := ty_35 (hf 3 _ e3 rfl rfl)
    obtain ⟨x4, h4, q4⟩ := ty_4 (hf 4 _ e4 rfl rfl)
    obtain ⟨x5, h5, q5⟩ := ty_3 (hf 5 _ e5 rfl rfl)
    refine ⟨⟨x0, x1, x2, x3, x4, x5⟩, ?_, ⟨q0, q1, q2, q3, q4, q5⟩⟩
    rw [h0, h1, h2, h3, h4, h5]
    simp only [List.flatten_cons, List.flatten_nil, List.append_nil, GQuery.cs]
def GCommand.ok (x : GCommand) : Prop := okI x.Kind ∧ okI x.Owner ∧ okT x.Table ∧ okI x.Drawer ∧ (okL 32 GColumn.ok) x.Cols ∧ (okL 40 GValue.ok) x.Row ∧ (okL 104 GSet.ok) x.Sets ∧ GExpr.ok x.Where ∧ GQuery.ok x.Query ∧ okI x.To ∧ okI x.Right ∧ okA x.Option_
set_option maxRecDepth 100000 in
theorem ty_43 {d : Nat} {cs : List AV} (h : Typed Tryd.prog d 43 cs) : ∃ x : GCommand, cs = GCommand.cs x ∧ GCommand.ok x := match d, h with
  | 0, h => False.elim h
  | d + 1, h => by
    obtain ⟨es, rfl, hl, hf⟩ := ty_struct Tryd.underlying43 h
    match es, hl, hf with
    | [e0, e1, e2, e3, e4, e5, e6, e7, e8, e9, e10, e11], _, hf =>
    obtain ⟨x0, h0, q0⟩ := ty_3 (hf 0 _ e0 rfl rfl)
    obtain ⟨x1, h1, q1⟩ := ty_3 (hf 1 _ e1 rfl rfl)
    obtain ⟨x2, h2, q2⟩ := ty_9 (hf 2 _ e2 rfl rfl)
    obtain ⟨x3, h3, q3⟩ := ty_3 (hf 3 _ e3 rfl rfl)
    obtain ⟨x4, h4, q4⟩ := ty_28 (hf 4 _ e4 rfl rfl)
    obtain ⟨x5, h5, q5⟩ := ty_40 (hf 5 _ e5 rfl rfl)
    obtain ⟨x6, h6, q6⟩ := ty_41 (hf 6 _ e6 rfl rfl)
    obtain ⟨x7, h7, q7⟩ := ty_27 (hf 7 _ e7 rfl rfl)
    obtain ⟨x8, h8, q8⟩ := ty_37 (hf 8 _ e8 rfl rfl)
    obtain ⟨x9, h9, q9⟩ := ty_3 (hf 9 _ e9 rfl rfl)
    obtain ⟨x10, h10, q10⟩ := ty_3 (hf 10 _ e10 rfl rfl)
    obtain ⟨x11, h11, q11⟩ := ty_4 (hf 11 _ e11 rfl rfl)
    refine ⟨⟨x0, x1, x2, x3, x4, x5, x6, x7, x8, x9, x10, x11⟩, ?_, ⟨q0, q1, q2, q3, q4, q5, q6, q7, q8, q9, q10, q11⟩⟩
    rw [h0, h1, h2, h3, h4, h5, h6, h7, h8, h9, h10, h11]
    simp only [List.flatten_cons, List.flatten_nil, List.append_nil, GCommand.cs]

/-! chirographlaw.StmtChecks -/
noncomputable def g_law_StmtChecks (c0 : GCommand) : Option (Bool) :=
  (g_stmt_Check c0).bind fun r'1 => (g_ref_CommandFault c0).bind fun r'2 => some (decide (r'1 = r'2))
set_option maxHeartbeats 4000000 in
set_option maxRecDepth 100000 in
theorem g_law_StmtChecks_ac {c0 : GCommand} {r : Bool} (H : g_law_StmtChecks c0 = some r) : ACp Tryd.prog 6 [(.agg (GCommand.cs c0))] (AV.bool r) := by
 refine ACp_of (AC2_of_body (vs := [.b r]) Tryd.func6 rfl rfl (Nat.le_of_ble_eq_true rfl) rfl ?_) (fun _ => .same _)
 unfold g_law_StmtChecks at H
 refine as2 [(0, .g (GCommand.cs c0))] [] rfl rfl rfl ?_
 refine sg [0, 1] rfl ?_
 refine r_op rfl rfl (MakeD.opD (n_box 1 rfl rfl) rfl rfl rfl rfl) ?_
 refine rp rfl rfl (p_asg rfl rfl) ?_
 refine rz [(1, .q 1 (0))] [(1, .pure (GCommand.cs c0))] rfl rfl rfl ?_
 refine sg [0, 1, 2] rfl ?_
 refine rp rfl rfl (u_lda rfl rfl Tryd.underlying43 rfl in_43 rfl (Nat.succ_pos _) (Sub.refl _) (GCommand.len c0)) ?_
 refine bindK H fun r'1 h1 H => ?_
 refine rp rfl rfl (p_callp rfl rfl rfl Tryd.func14 rfl rfl (g_stmt_Check_ac h1) ⟨rfl, trivial⟩) ?_
 refine rp rfl rfl (p_asg rfl rfl) ?_
 refine rz [(1, .q 1 (0)), (3, .i r'1)] [(1, .pure (GCommand.cs c0))] rfl rfl rfl ?_
 refine sg [0, 1, 2] rfl ?_
 refine rp rfl rfl (u_lda rfl rfl Tryd.underlying43 rfl in_43 rfl (Nat.succ_pos _) (Sub.refl _) (GCommand.len c0)) ?_
 refine bindK H fun r'2 h2 H => ?_
 refine rp rfl rfl (p_callp rfl rfl rfl Tryd.func15 rfl rfl (g_ref_CommandFault_ac h2) ⟨rfl, trivial⟩) ?_
 refine rp rfl rfl (p_asg rfl rfl) ?_
 refine rz [(3, .i r'1), (4, .i r'2)] [] rfl rfl rfl ?_
 refine sg [0, 1, 2, 3] rfl ?_
 refine rp rfl rfl (p_move rfl rfl) ?_
 refine rp rfl rfl (p_move rfl rfl) ?_
 refine rp rfl rfl (p_ieq rfl rfl rfl) ?_
 refine rp rfl rfl (p_asg rfl rfl) ?_
 refine rz [(2, .b (decide (r'1 = r'2)))] [] rfl rfl rfl ?_
 refine AW2_ret ?_
 have hz := some_elim H
 subst hz
 exact ⟨⟨res_tmp (.same _), trivial⟩, trivial⟩
end Go.Proofs.YtcahembojhmpbaaDoor.VM
