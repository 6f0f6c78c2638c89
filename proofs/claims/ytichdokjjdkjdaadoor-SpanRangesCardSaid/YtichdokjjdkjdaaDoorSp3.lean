/- Functions of the program, as they answer, and that their code comes to these answers. -/
import Derived.Test.YtichdokjjdkjdaaDoorSp2
namespace Go.Proofs.YtichdokjjdkjdaaDoor.VM
open Go Go.RowKit

theorem eq_29 : EqT Tryd.prog 29 2 (fun x : GRange => .agg (GRange.cs x)) :=
  eqt_struct [fun a b => a.Lo = b.Lo, fun a b => a.Hi = b.Hi] Tryd.underlying29 (by kernel_rfl) ⟨(FieldEq.more (fe_one (by decide) Tryd.underlying3 rfl (eqt_int Tryd.underlying3) (fun a => GRange.sub0 a)) (by decide : 1 ≤ 1)), (FieldEq.more (fe_one (by decide) Tryd.underlying3 rfl (eqt_int Tryd.underlying3) (fun a => GRange.sub1 a)) (by decide : 1 ≤ 1)), trivial⟩ (fun a b => by
    cases a; cases b
    simp)
set_option maxRecDepth 100000 in
theorem ty_3 {d : Nat} {cs : List AV} (h : Typed Tryd.prog d 3 cs) : ∃ x : Int, cs = [(AV.int x)] ∧ okI x := match d, h with
  | 0, h => False.elim h
  | d + 1, h => ty_int Tryd.underlying3 h
set_option maxRecDepth 100000 in
theorem ty_22 {d : Nat} {cs : List AV} (h : Typed Tryd.prog d 22 cs) : ∃ x : UInt64, cs = [(AV.u64 x)] ∧ okA x := match d, h with
  | 0, h => False.elim h
  | d + 1, h => ty_u64 Tryd.underlying22 h
set_option maxRecDepth 100000 in
theorem ty_9 {d : Nat} {cs : List AV} (h : Typed Tryd.prog d 9 cs) : ∃ x : List UInt8, cs = [(AV.txt x)] ∧ okT x := match d, h with
  | 0, h => False.elim h
  | d + 1, h => ty_text Tryd.underlying9 h
def GValue.ok (x : GValue) : Prop := okI x.Kind ∧ okI x.Int_ ∧ okA x.Bits ∧ okT x.Text
set_option maxRecDepth 100000 in
theorem ty_24 {d : Nat} {cs : List AV} (h : Typed Tryd.prog d 24 cs) : ∃ x : GValue, cs = GValue.cs x ∧ GValue.ok x := match d, h with
  | 0, h => False.elim h
  | d + 1, h => by
    obtain ⟨es, rfl, hl, hf⟩ := ty_struct Tryd.underlying24 h
    match es, hl, hf with
    | [e0, e1, e2, e3], _, hf =>
    obtain ⟨x0, h0, q0⟩ := ty_3 (hf 0 _ e0 rfl rfl)
    obtain ⟨x1, h1, q1⟩ := ty_3 (hf 1 _ e1 rfl rfl)
    obtain ⟨x2, h2, q2⟩ := ty_22 (hf 2 _ e2 rfl rfl)
    obtain ⟨x3, h3, q3⟩ := ty_9 (hf 3 _ e3 rfl rfl)
    refine ⟨⟨x0, x1, x2, x3⟩, ?_, ⟨q0, q1, q2, q3⟩⟩
    rw [h0, h1, h2, h3]
    simp only [List.flatten_cons, List.flatten_nil, List.append_nil, GValue.cs]
inductive GExpr.ok : GExpr → Prop
  | mk {x : GExpr} : okI x.Op → GValue.ok x.Value → okT x.Name → x.Args.length * 88 ≤ reachBytes → x.Args.length ≤ maxLen → (∀ y ∈ x.Args, GExpr.ok y) → GExpr.ok x
set_option maxRecDepth 100000 in
theorem ty_27_ (N : Nat) : ∀ (d : Nat) (cs : List AV), d ≤ N → Typed Tryd.prog d 27 cs → ∃ x : GExpr, cs = GExpr.cs x ∧ GExpr.ok x := by
  induction N with
  | zero =>
    intro d cs hd h
    obtain rfl : d = 0 := by omega
    exact False.elim h
  | succ N ih =>
    intro d cs hd h
    match d, hd, h with
    | 0, _, h => exact False.elim h
    | d + 1, hd, h =>
    obtain ⟨es, rfl, hl, hf⟩ := ty_struct Tryd.underlying27 h
    match es, hl, hf with
    | [e0, e1, e2, e3], _, hf =>
    obtain ⟨x0, h0, q0⟩ := ty_3 (hf 0 _ e0 rfl rfl)
    obtain ⟨x1, h1, q1⟩ := ty_24 (hf 1 _ e1 rfl rfl)
    obtain ⟨x2, h2, q2⟩ := ty_9 (hf 2 _ e2 rfl rfl)
    obtain ⟨x3, h3, q3⟩ : ∃ l : List GExpr, e3 = [.lst (l.flatMap GExpr.cs) l.length] ∧ okL 88 GExpr.ok l := by
      have h9 := hf 3 _ e3 rfl rfl
      match d, hd, h9 with
      | 0, _, h => exact False.elim h
      | k + 1, hd, h => exact ty_slicef (g := fun b : GExpr => GExpr.cs b) Tryd.underlying25 (bytes_of in_27) (fun x hx => ih k x (by omega) hx) h
    refine ⟨⟨x0, x1, x2, x3⟩, ?_, .mk q0 q1 q2 q3.1 q3.2.1 q3.2.2⟩
    rw [h0, h1, h2, h3, GExpr.cs_eq]
    simp only [List.flatten_cons, List.flatten_nil, List.append_nil]
theorem ty_27 {d : Nat} {cs : List AV} (h : Typed Tryd.prog d 27 cs) : ∃ x : GExpr, cs = GExpr.cs x ∧ GExpr.ok x := ty_27_ d d cs (Nat.le_refl _) h

/-! chirographlaw.SpanRanges -/
noncomputable def g_law_SpanRanges (x0 : GExpr) (col1 : List UInt8) : Option (Bool) :=
  (g_span_Of x0 col1).bind fun r'1 => (g_ref_RangeOf x0 col1).bind fun r'2 => some (decide ((r'1.2 = r'2.2) ∧ (r'1.1 = r'2.1)))
set_option maxHeartbeats 4000000 in
set_option maxRecDepth 100000 in
theorem g_law_SpanRanges_ac {x0 : GExpr} {col1 : List UInt8} {r : Bool} (H : g_law_SpanRanges x0 col1 = some r) : ACp Tryd.prog 3 [(.agg (GExpr.cs x0)), (AV.txt col1)] (AV.bool r) := by
 refine ACp_of (AC2_of_body (vs := [.b r]) Tryd.func3 rfl rfl (Nat.le_of_ble_eq_true rfl) rfl ?_) (fun _ => .same _)
 unfold g_law_SpanRanges at H
 refine as2 [(0, .g (GExpr.cs x0)), (1, .t col1)] [] rfl rfl rfl ?_
 refine sg [0, 1] rfl ?_
 refine r_op rfl rfl (MakeD.opD (n_box 2 rfl rfl) rfl rfl rfl rfl) ?_
 refine rp rfl rfl (p_asg rfl rfl) ?_
 refine rz [(1, .t col1), (2, .q 2 (0))] [(2, .pure (GExpr.cs x0))] rfl rfl rfl ?_
 refine sg [0, 1, 2, 3, 4, 5, 6, 7, 8] rfl ?_
 refine rp rfl rfl (u_lda rfl rfl Tryd.underlying27 rfl in_27 rfl (Nat.succ_pos _) (Sub.refl _) (GExpr.len x0)) ?_
 refine rp rfl rfl (p_move rfl rfl) ?_
 refine bindK H fun r'1 h1 H => ?_
 refine rp rfl rfl (p_callp rfl rfl rfl Tryd.func4 rfl rfl (g_span_Of_ac h1) ⟨rfl, rfl, trivial⟩) ?_
 refine rp rfl rfl (p_move rfl rfl) ?_
 refine rp rfl rfl (p_ext rfl rfl rfl rfl) ?_
 refine rp rfl rfl (p_ext rfl rfl rfl rfl) ?_
 refine r_op rfl rfl (MakeD.opD (u_alloc 5 rfl in_29 one_29 zc_29) rfl rfl rfl rfl) ?_
 refine r_op rfl rfl (u_st rfl rfl rfl rfl rfl in_29 (GRange.len r'1.1) (ne_of_lt (n := 0) (Nat.lt_of_lt_of_eq (by decide) (Eq.symm (GRange.len GRange.zero)))) (Upd.refl ((GRange.len r'1.1).trans (GRange.len GRange.zero).symm))) ?_
 refine rp rfl rfl (p_asg rfl rfl) ?_
 refine rz [(1, .t col1), (2, .q 2 (0)), (5, .q 5 (0)), (6, .i r'1.2)] [(2, .pure (GExpr.cs x0)), (5, .pure (GRange.cs r'1.1))] rfl rfl rfl ?_
 refine sg [0, 1, 2, 3, 4, 5, 6, 7, 8] rfl ?_
 refine rp rfl rfl (u_lda rfl rfl Tryd.underlying27 rfl in_27 rfl (Nat.succ_pos _) (Sub.refl _) (GExpr.len x0)) ?_
 refine rp rfl rfl (p_move rfl rfl) ?_
 refine bindK H fun r'2 h2 H => ?_
 refine rp rfl rfl (p_callp rfl rfl rfl Tryd.func5 rfl rfl (g_ref_RangeOf_ac h2) ⟨rfl, rfl, trivial⟩) ?_
 refine rp rfl rfl (p_move rfl rfl) ?_
 refine rp rfl rfl (p_ext rfl rfl rfl rfl) ?_
 refine rp rfl rfl (p_ext rfl rfl rfl rfl) ?_
 refine r_op rfl rfl (MakeD.opD (u_alloc 7 rfl in_29 one_29 zc_29) rfl rfl rfl rfl) ?_
 refine r_op rfl rfl (u_st rfl rfl rfl rfl rfl in_29 (GRange.len r'2.1) (ne_of_lt (n := 0) (Nat.lt_of_lt_of_eq (by decide) (Eq.symm (GRange.len GRange.zero)))) (Upd.refl ((GRange.len r'2.1).trans (GRange.len GRange.zero).symm))) ?_
 refine rp rfl rfl (p_asg rfl rfl) ?_
 refine rz [(5, .q 5 (0)), (6, .i r'1.2), (7, .q 7 (0)), (8, .i r'2.2)] [(5, .pure (GRange.cs r'1.1)), (7, .pure (GRange.cs r'2.1))] rfl rfl rfl ?_
 refine AW2_seq ?_
 refine AW2_mid (⟨[(4, .b (decide ((r'1.2 = r'2.2) ∧ (r'1.1 = r'2.1))))], [], 29⟩ : TS) ?_ ?_
 ·refine AW2_reg [0, 1, 2, 3, 4, 5, 6, 7, 8] rfl ?_
  refine rp rfl rfl (p_move rfl rfl) ?_
  refine rp rfl rfl (p_move rfl rfl) ?_
  refine rp rfl rfl (p_ieq rfl rfl rfl) ?_
  refine rp rfl rfl (p_move rfl rfl) ?_
  refine (Classical.em (r'1.2 = r'2.2)).elim (fun h3 => ?_) (fun h3 => ?_)
  ·refine r_on rfl rfl rfl rfl (decide_eq_true h3) rfl (PureD.opD (u_lda rfl rfl Tryd.underlying29 rfl in_29 rfl (Nat.succ_pos _) (Sub.refl _) (GRange.len r'1.1))) ?_
   refine r_on rfl rfl rfl rfl (decide_eq_true h3) rfl (PureD.opD (u_lda rfl rfl Tryd.underlying29 rfl in_29 rfl (Nat.succ_pos _) (Sub.refl _) (GRange.len r'2.1))) ?_
   refine r_on rfl rfl rfl rfl (decide_eq_true h3) rfl (PureD.opD (p_eqa (a := r'1.1) (b := r'2.1) rfl eq_29 rfl (by kernel_rfl) rfl rfl)) ?_
   refine rp rfl rfl (p_pkt rfl rfl (decide_eq_true h3) (tb ((and_l (p := r'1.2 = r'2.2) (q := r'1.1 = r'2.1) h3)))) ?_
   refine rp rfl rfl (p_asg rfl rfl) ?_
   refine rs [(4, .b (decide ((r'1.2 = r'2.2) ∧ (r'1.1 = r'2.1))))] [] rfl rfl rfl ?_
   exact RunW_nil rfl
  ·refine r_off rfl rfl rfl rfl (decide_eq_false h3) rfl rfl ?_
   refine r_off rfl rfl rfl rfl (decide_eq_false h3) rfl rfl ?_
   refine r_off rfl rfl rfl rfl (decide_eq_false h3) rfl rfl ?_
   refine rp rfl rfl (p_pkf rfl rfl (decide_eq_false h3) (tb (decide_eq_false (p := (r'1.2 = r'2.2) ∧ (r'1.1 = r'2.1)) (fun x => h3 x.1)).symm)) ?_
   refine rp rfl rfl (p_asg rfl rfl) ?_
   refine rs [(4, .b (decide ((r'1.2 = r'2.2) ∧ (r'1.1 = r'2.1))))] [] rfl rfl rfl ?_
   exact RunW_nil rfl
 ·refine AW2_ret ?_
  have hz := some_elim H
  subst hz
  exact ⟨⟨res_tmp (.same _), trivial⟩, trivial⟩
end Go.Proofs.YtichdokjjdkjdaaDoor.VM
