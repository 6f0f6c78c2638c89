/- Functions of the program, as they answer, and that their code comes to these answers. -/
import Derived.Test.YtalnmpfjgiecdaaDoorGl2
namespace Go.Proofs.YtalnmpfjgiecdaaDoor.VM
open Go Go.RowKit

theorem eq_29 : EqT Tryd.prog 29 2 (fun x : GValue => .agg (GValue.cs x)) :=
  eqt_struct [fun a b => a.Kind = b.Kind, fun a b => a.Int_ = b.Int_, fun a b => a.Bits = b.Bits, fun a b => a.Text = b.Text] Tryd.underlying29 (by kernel_rfl) ⟨(FieldEq.more (fe_one (by decide) Tryd.underlying3 rfl (eqt_int Tryd.underlying3) (fun a => GValue.sub0 a)) (by decide : 1 ≤ 1)), (FieldEq.more (fe_one (by decide) Tryd.underlying3 rfl (eqt_int Tryd.underlying3) (fun a => GValue.sub1 a)) (by decide : 1 ≤ 1)), (FieldEq.more (fe_one (by decide) Tryd.underlying22 rfl (eqt_u64 Tryd.underlying22) (fun a => GValue.sub2 a)) (by decide : 1 ≤ 1)), (FieldEq.more (fe_one (by decide) Tryd.underlying9 rfl (eqt_txt Tryd.underlying9) (fun a => GValue.sub3 a)) (by decide : 1 ≤ 1)), trivial⟩ (fun a b => by
    cases a; cases b
    simp)
def GValue.ok (x : GValue) : Prop := okI x.Kind ∧ okI x.Int_ ∧ okA x.Bits ∧ okT x.Text
set_option maxRecDepth 100000 in
theorem ty_29 {d : Nat} {cs : List AV} (h : Typed Tryd.prog d 29 cs) : ∃ x : GValue, cs = GValue.cs x ∧ GValue.ok x := match d, h with
  | 0, h => False.elim h
  | d + 1, h => by
    obtain ⟨es, rfl, hl, hf⟩ := ty_struct Tryd.underlying29 h
    match es, hl, hf with
    | [e0, e1, e2, e3], _, hf =>
    obtain ⟨x0, h0, q0⟩ := ty_3 (hf 0 _ e0 rfl rfl)
    obtain ⟨x1, h1, q1⟩ := ty_3 (hf 1 _ e1 rfl rfl)
    obtain ⟨x2, h2, q2⟩ := ty_22 (hf 2 _ e2 rfl rfl)
    obtain ⟨x3, h3, q3⟩ := ty_9 (hf 3 _ e3 rfl rfl)
    refine ⟨⟨x0, x1, x2, x3⟩, ?_, ⟨q0, q1, q2, q3⟩⟩
    rw [h0, h1, h2, h3]
    simp only [List.flatten_cons, List.flatten_nil, List.append_nil, GValue.cs]
set_option maxRecDepth 100000 in
theorem ty_38 {d : Nat} {cs : List AV} (h : Typed Tryd.prog d 38 cs) : ∃ x : List GValue, cs = [((fun q : List GValue => AV.lst (q.flatMap GValue.cs) q.length) x)] ∧ (okL 40 GValue.ok) x := match d, h with
  | 0, h => False.elim h
  | d + 1, h => ty_slicef (g := fun b : GValue => GValue.cs b) Tryd.underlying38 (bytes_of in_29) (fun _ hx => ty_29 hx) h

/-! kinds.Row -/
noncomputable def g_kinds_Row (row0 : List GValue) (cols1 : List GColumn) : Option (Int) :=
  (g_kinds_fits row0 cols1).bind fun r'1 => some r'1
set_option maxHeartbeats 4000000 in
set_option maxRecDepth 100000 in
theorem g_kinds_Row_ac {row0 : List GValue} {cols1 : List GColumn} {r : Int} (H : g_kinds_Row row0 cols1 = some r) : ACp Tryd.prog 16 [((fun q : List GValue => AV.lst (q.flatMap GValue.cs) q.length) row0), ((fun q : List GColumn => AV.lst (q.flatMap GColumn.cs) q.length) cols1)] (AV.int r) := by
  refine ACp_of (AC2_of_body (vs := [.i r]) Tryd.func16 rfl rfl (Nat.le_of_ble_eq_true rfl) rfl ?_) (fun _ => .same _)
  unfold g_kinds_Row at H
  refine as2 [(0, .p ((fun q : List GValue => AV.lst (q.flatMap GValue.cs) q.length) row0)), (1, .p ((fun q : List GColumn => AV.lst (q.flatMap GColumn.cs) q.length) cols1))] [] rfl rfl rfl ?_
  refine sg [0] rfl ?_
  refine rp rfl rfl (p_asg rfl rfl) ?_
  refine rz [(0, .p ((fun q : List GValue => AV.lst (q.flatMap GValue.cs) q.length) row0)), (1, .p ((fun q : List GColumn => AV.lst (q.flatMap GColumn.cs) q.length) cols1))] [] rfl rfl rfl ?_
  refine sg [0, 1, 2, 3] rfl ?_
  refine rp rfl rfl (p_move rfl rfl) ?_
  refine rp rfl rfl (p_move rfl rfl) ?_
  refine bindK H fun r'1 h1 H => ?_
  refine rp rfl rfl (p_callp rfl rfl rfl Tryd.func42 rfl rfl (g_kinds_fits_ac h1) ⟨rfl, rfl, trivial⟩) ?_
  refine rp rfl rfl (p_asg rfl rfl) ?_
  refine rz [(4, .i r'1)] [] rfl rfl rfl ?_
  refine AW2_ret ?_
  have hz := some_elim H
  subst hz
  exact ⟨⟨res_tmp (.same _), trivial⟩, trivial⟩

/-! chirographref.ValueFault -/
noncomputable def g_ref_ValueFault (v0 : GValue) : Option (Int) :=
  (show Option (Int ⊕ GValue) from (if v0.Kind = (0 : Int) then some (.inr ({ GValue.zero with Kind := v0.Kind })) else ((if v0.Kind = (1 : Int) then some (decide (v0.Kind = (1 : Int))) else some (decide (v0.Kind = (2 : Int))))).bind fun j'2 => (if j'2 = true then some (.inr ({ { GValue.zero with Kind := v0.Kind } with Int_ := v0.Int_ })) else (if v0.Kind = (3 : Int) then some (.inr ({ { GValue.zero with Kind := v0.Kind } with Bits := v0.Bits })) else (if v0.Kind = (4 : Int) then some (.inr ({ { GValue.zero with Kind := v0.Kind } with Text := v0.Text })) else some (.inl (2 : Int))))))).bind fun o'12 => match o'12 with | .inl y'3 => some y'3 | .inr j'1 => (if (v0.Text.length : Int) > (40 : Int) then some (1 : Int) else ((if v0 ≠ j'1 then some true else (if v0.Kind = (1 : Int) then (if (1 : UInt64) < UInt64.ofInt v0.Int_ then some true else (if v0.Kind = (3 : Int) then (g_ref_badReal v0.Bits).bind fun r'5 => (if r'5 = true then some true else (g_utf8_ValidString v0.Text).bind fun r'6 => some (!r'6)) else (g_utf8_ValidString v0.Text).bind fun r'7 => some (!r'7))) else (if v0.Kind = (3 : Int) then (g_ref_badReal v0.Bits).bind fun r'8 => (if r'8 = true then some true else (g_utf8_ValidString v0.Text).bind fun r'9 => some (!r'9)) else (g_utf8_ValidString v0.Text).bind fun r'10 => some (!r'10))))).bind fun g'11 => (if g'11 = true then some (3 : Int) else some (0 : Int)))
set_option maxHeartbeats 4000000 in
set_option maxRecDepth 100000 in
theorem g_ref_ValueFault_ac {v0 : GValue} {r : Int} (H : g_ref_ValueFault v0 = some r) : ACp Tryd.prog 43 [(.agg (GValue.cs v0))] (AV.int r) := by
  refine ACp_of (AC2_of_body (vs := [.i r]) Tryd.func43 rfl rfl (Nat.le_of_ble_eq_true rfl) rfl ?_) (fun _ => .same _)
  unfold g_ref_ValueFault at H
  refine as2 [(0, .g (GValue.cs v0))] [] rfl rfl rfl ?_
  refine sg [0, 1] rfl ?_
  refine r_op rfl rfl (MakeD.opD (n_box 1 rfl rfl) rfl rfl rfl rfl) ?_
  refine rp rfl rfl (p_asg rfl rfl) ?_
  refine rz [(1, .q 1 (0))] [(1, .pure (GValue.cs v0))] rfl rfl rfl ?_
  refine sg [0, 1, 2, 3, 4] rfl ?_
  refine rp rfl rfl (u_fa rfl rfl Tryd.underlying29 rfl in_3 (Nat.succ_ne_zero _) rfl rfl (ne_of_lt (n := 0) (Nat.lt_of_lt_of_eq (by decide) (Eq.symm (GValue.len v0))))) ?_
  refine rp rfl rfl (u_ld rfl rfl Tryd.underlying3 rfl rfl ((Sub.refl _).trans (GValue.sub0 v0))) ?_
  refine rp rfl rfl (u_bld rfl in_29 one_29 zc_29 pl_29 rfl (af_cons rfl rfl (GValue.upd0 GValue.zero v0.Kind) rfl)) ?_
  refine r_op rfl rfl (MakeD.opD (u_alloc 3 rfl in_29 one_29 zc_29) rfl rfl rfl rfl) ?_
  refine r_op rfl rfl (u_st rfl rfl rfl rfl rfl in_29 (GValue.len ({ GValue.zero with Kind := v0.Kind })) (ne_of_lt (n := 0) (Nat.lt_of_lt_of_eq (by decide) (Eq.symm (GValue.len GValue.zero)))) (Upd.refl ((GValue.len ({ GValue.zero with Kind := v0.Kind })).trans (GValue.len GValue.zero).symm))) ?_
  refine rz [(1, .q 1 (0)), (3, .q 3 (0))] [(1, .pure (GValue.cs v0)), (3, .pure (GValue.cs ({ GValue.zero with Kind := v0.Kind })))] rfl rfl rfl ?_
  refine AW2_seq ?_
  refine bindK H fun o'12 h1 H => ?_
  refine AW2_join (fun j'1 : GValue => (⟨[(1, .q 1 (0)), (3, .q 3 (0))], [(1, .pure (GValue.cs v0)), (3, .pure (GValue.cs j'1))], 61⟩ : TS)) (fun r e s' => e = Go.Exit.ret ∧ ResAll Tryd.prog s' [ResultVar.tmp 2] [.i r] ∧ HFits s' []) (x := o'12) ?_ (fun j'1 hy => ?_) (fun y'3 e s' hy hs => ?_)
  · clear H
    have H := h1
    clear h1
    refine sg [0, 1] rfl ?_
    refine rp rfl rfl (u_fa rfl rfl Tryd.underlying29 rfl in_3 (Nat.succ_ne_zero _) rfl rfl (ne_of_lt (n := 0) (Nat.lt_of_lt_of_eq (by decide) (Eq.symm (GValue.len v0))))) ?_
    refine rp rfl rfl (u_ld rfl rfl Tryd.underlying3 rfl rfl ((Sub.refl _).trans (GValue.sub0 v0))) ?_
    refine rz [(1, .q 1 (0)), (3, .q 3 (0)), (8, .i v0.Kind)] [(1, .pure (GValue.cs v0)), (3, .pure (GValue.cs ({ GValue.zero with Kind := v0.Kind })))] rfl rfl rfl ?_
    refine AW2_block ?_
    refine sg [0, 1] rfl ?_
    refine rp rfl rfl (p_ieq rfl rfl rfl) ?_
    refine rp rfl rfl (p_asg rfl rfl) ?_
    refine rz [(1, .q 1 (0)), (3, .q 3 (0)), (8, .i v0.Kind), (9, .b (decide (v0.Kind = (0 : Int))))] [(1, .pure (GValue.cs v0)), (3, .pure (GValue.cs ({ GValue.zero with Kind := v0.Kind })))] rfl rfl rfl ?_
    refine AW2_if (p := v0.Kind = (0 : Int)) rfl (fun h2 => ?_) (fun h2 => ?_)
    · replace H := ite_then h2 H
      refine as2 [(1, .q 1 (0)), (3, .q 3 (0))] [(1, .pure (GValue.cs v0)), (3, .pure (GValue.cs ({ GValue.zero with Kind := v0.Kind })))] rfl rfl rfl ?_
      refine AW2_skip ?_
      have hz := some_elim H
      subst hz
      exact ⟨rfl, rfl⟩
    · replace H := ite_else h2 H
      refine AW2_seq ?_
      refine bindK H fun j'2 h3 H => ?_
      refine AW2_mid (⟨[(1, .q 1 (0)), (3, .q 3 (0)), (8, .i v0.Kind), (11, .b j'2)], [(1, .pure (GValue.cs v0)), (3, .pure (GValue.cs ({ GValue.zero with Kind := v0.Kind })))], 61⟩ : TS) ?_ ?_
      · clear H
        have H := h3
        clear h3
        refine sg [0, 1] rfl ?_
        refine rp rfl rfl (p_ieq rfl rfl rfl) ?_
        refine rp rfl rfl (p_asg rfl rfl) ?_
        refine rz [(1, .q 1 (0)), (3, .q 3 (0)), (8, .i v0.Kind), (11, .b (decide (v0.Kind = (1 : Int))))] [(1, .pure (GValue.cs v0)), (3, .pure (GValue.cs ({ GValue.zero with Kind := v0.Kind })))] rfl rfl rfl ?_
        refine AW2_if (p := v0.Kind = (1 : Int)) rfl (fun h4 => ?_) (fun h4 => ?_)
        · replace H := ite_then h4 H
          refine AW2_skip ?_
          have hz := some_elim H
          subst hz
          exact rfl
        · replace H := ite_else h4 H
          refine AW2_reg [0, 1] rfl ?_
          refine rp rfl rfl (p_ieq rfl rfl rfl) ?_
          refine rp rfl rfl (p_asg rfl rfl) ?_
          refine rz [(1, .q 1 (0)), (3, .q 3 (0)), (8, .i v0.Kind), (11, .b (decide (v0.Kind = (2 : Int))))] [(1, .pure (GValue.cs v0)), (3, .pure (GValue.cs ({ GValue.zero with Kind := v0.Kind })))] rfl rfl rfl ?_
          have hz := some_elim H
          subst hz
          exact rfl
      · refine AW2_cond rfl (fun h5 => ?_) (fun h5 => ?_)
        · replace H := ite_then h5 H
          refine AW2_reg [0, 1, 2, 3] rfl ?_
          refine rp rfl rfl (u_fa rfl rfl Tryd.underlying29 rfl in_3 (Nat.succ_ne_zero _) rfl rfl (ne_of_lt (n := 0) (Nat.lt_of_lt_of_eq (by decide) (Eq.symm (GValue.len v0))))) ?_
          refine rp rfl rfl (u_ld rfl rfl Tryd.underlying3 rfl rfl ((Sub.refl _).trans (GValue.sub1 v0))) ?_
          refine rp rfl rfl (u_fa rfl rfl Tryd.underlying29 rfl in_3 (Nat.succ_ne_zero _) rfl rfl (ne_of_lt (n := 0) (Nat.lt_of_lt_of_eq (by decide) (Eq.symm (GValue.len ({ GValue.zero with Kind := v0.Kind })))))) ?_
          refine r_op rfl rfl (u_st rfl rfl rfl rfl rfl in_3 rfl (ne_of_lt (n := 0) (Nat.lt_of_lt_of_eq (by decide) (Eq.symm (GValue.len ({ GValue.zero with Kind := v0.Kind }))))) (Upd.trans (Sub.refl _) (GValue.upd1 ({ GValue.zero with Kind := v0.Kind }) v0.Int_) (Upd.refl ((GValue.len ({ { GValue.zero with Kind := v0.Kind } with Int_ := v0.Int_ })).trans (GValue.len ({ GValue.zero with Kind := v0.Kind })).symm)))) ?_
          refine rz [(1, .q 1 (0)), (3, .q 3 (0))] [(1, .pure (GValue.cs v0)), (3, .pure (GValue.cs ({ { GValue.zero with Kind := v0.Kind } with Int_ := v0.Int_ })))] rfl rfl rfl ?_
          have hz := some_elim H
          subst hz
          exact ⟨rfl, rfl⟩
        · replace H := ite_else (ne_true h5) H
          refine sg [0, 1] rfl ?_
          refine rp rfl rfl (p_ieq rfl rfl rfl) ?_
          refine rp rfl rfl (p_asg rfl rfl) ?_
          refine rz [(1, .q 1 (0)), (3, .q 3 (0)), (8, .i v0.Kind), (17, .b (decide (v0.Kind = (3 : Int))))] [(1, .pure (GValue.cs v0)), (3, .pure (GValue.cs ({ GValue.zero with Kind := v0.Kind })))] rfl rfl rfl ?_
          refine AW2_if (p := v0.Kind = (3 : Int)) rfl (fun h6 => ?_) (fun h6 => ?_)
          · replace H := ite_then h6 H
            refine AW2_reg [0, 1, 2, 3] rfl ?_
            refine rp rfl rfl (u_fa rfl rfl Tryd.underlying29 rfl in_22 (Nat.succ_ne_zero _) rfl rfl (ne_of_lt (n := 0) (Nat.lt_of_lt_of_eq (by decide) (Eq.symm (GValue.len v0))))) ?_
            refine rp rfl rfl (u_ld rfl rfl Tryd.underlying22 rfl rfl ((Sub.refl _).trans (GValue.sub2 v0))) ?_
            refine rp rfl rfl (u_fa rfl rfl Tryd.underlying29 rfl in_22 (Nat.succ_ne_zero _) rfl rfl (ne_of_lt (n := 0) (Nat.lt_of_lt_of_eq (by decide) (Eq.symm (GValue.len ({ GValue.zero with Kind := v0.Kind })))))) ?_
            refine r_op rfl rfl (u_st rfl rfl rfl rfl rfl in_22 rfl (ne_of_lt (n := 0) (Nat.lt_of_lt_of_eq (by decide) (Eq.symm (GValue.len ({ GValue.zero with Kind := v0.Kind }))))) (Upd.trans (Sub.refl _) (GValue.upd2 ({ GValue.zero with Kind := v0.Kind }) v0.Bits) (Upd.refl ((GValue.len ({ { GValue.zero with Kind := v0.Kind } with Bits := v0.Bits })).trans (GValue.len ({ GValue.zero with Kind := v0.Kind })).symm)))) ?_
            refine rz [(1, .q 1 (0)), (3, .q 3 (0))] [(1, .pure (GValue.cs v0)), (3, .pure (GValue.cs ({ { GValue.zero with Kind := v0.Kind } with Bits := v0.Bits })))] rfl rfl rfl ?_
            have hz := some_elim H
            subst hz
            exact ⟨rfl, rfl⟩
          · replace H := ite_else h6 H
            refine sg [0, 1] rfl ?_
            refine rp rfl rfl (p_ieq rfl rfl rfl) ?_
            refine rp rfl rfl (p_asg rfl rfl) ?_
            refine rz [(1, .q 1 (0)), (3, .q 3 (0)), (22, .b (decide (v0.Kind = (4 : Int))))] [(1, .pure (GValue.cs v0)), (3, .pure (GValue.cs ({ GValue.zero with Kind := v0.Kind })))] rfl rfl rfl ?_
            refine AW2_if (p := v0.Kind = (4 : Int)) rfl (fun h7 => ?_) (fun h7 => ?_)
            · replace H := ite_then h7 H
              refine AW2_reg [0, 1, 2, 3] rfl ?_
              refine rp rfl rfl (u_fa rfl rfl Tryd.underlying29 rfl in_9 (Nat.succ_ne_zero _) rfl rfl (ne_of_lt (n := 0) (Nat.lt_of_lt_of_eq (by decide) (Eq.symm (GValue.len v0))))) ?_
              refine rp rfl rfl (u_ld rfl rfl Tryd.underlying9 rfl rfl ((Sub.refl _).trans (GValue.sub3 v0))) ?_
              refine rp rfl rfl (u_fa rfl rfl Tryd.underlying29 rfl in_9 (Nat.succ_ne_zero _) rfl rfl (ne_of_lt (n := 0) (Nat.lt_of_lt_of_eq (by decide) (Eq.symm (GValue.len ({ GValue.zero with Kind := v0.Kind })))))) ?_
              refine r_op rfl rfl (u_st rfl rfl rfl rfl rfl in_9 rfl (ne_of_lt (n := 0) (Nat.lt_of_lt_of_eq (by decide) (Eq.symm (GValue.len ({ GValue.zero with Kind := v0.Kind }))))) (Upd.trans (Sub.refl _) (GValue.upd3 ({ GValue.zero with Kind := v0.Kind }) v0.Text) (Upd.refl ((GValue.len ({ { GValue.zero with Kind := v0.Kind } with Text := v0.Text })).trans (GValue.len ({ GValue.zero with Kind := v0.Kind })).symm)))) ?_
              refine rz [(1, .q 1 (0)), (3, .q 3 (0))] [(1, .pure (GValue.cs v0)), (3, .pure (GValue.cs ({ { GValue.zero with Kind := v0.Kind } with Text := v0.Text })))] rfl rfl rfl ?_
              have hz := some_elim H
              subst hz
              exact ⟨rfl, rfl⟩
            · replace H := ite_else h7 H
              refine sg [0] rfl ?_
              refine rp rfl rfl (p_asg rfl rfl) ?_
              refine rz [(2, .i (2 : Int))] [] rfl rfl rfl ?_
              refine AW2_ret ?_
              have hz := some_elim H
              subst hz
              exact ⟨rfl, ⟨res_tmp (.same _), trivial⟩, trivial⟩
  · subst hy
    refine AW2_seq ?_
    refine sg [0, 1, 2, 3] rfl ?_
    refine rp rfl rfl (u_fa rfl rfl Tryd.underlying29 rfl in_9 (Nat.succ_ne_zero _) rfl rfl (ne_of_lt (n := 0) (Nat.lt_of_lt_of_eq (by decide) (Eq.symm (GValue.len v0))))) ?_
    refine rp rfl rfl (u_ld rfl rfl Tryd.underlying9 rfl rfl ((Sub.refl _).trans (GValue.sub3 v0))) ?_
    refine rp rfl rfl (p_lent rfl Tryd.underlying9 rfl) ?_
    refine rp rfl rfl (p_bin rfl rfl rfl rfl) ?_
    refine rz [(1, .q 1 (0)), (3, .q 3 (0)), (30, .b (decide ((v0.Text.length : Int) > (40 : Int))))] [(1, .pure (GValue.cs v0)), (3, .pure (GValue.cs j'1))] rfl rfl rfl ?_
    refine AW2_if (p := (v0.Text.length : Int) > (40 : Int)) rfl (fun h8 => ?_) (fun h8 => ?_)
    · replace H := ite_then h8 H
      refine sg [0] rfl ?_
      refine rp rfl rfl (p_asg rfl rfl) ?_
      refine rz [(2, .i (1 : Int))] [] rfl rfl rfl ?_
      refine AW2_ret ?_
      have hz := some_elim H
      subst hz
      exact ⟨⟨res_tmp (.same _), trivial⟩, trivial⟩
    · replace H := ite_else h8 H
      refine as2 [(1, .q 1 (0)), (3, .q 3 (0))] [(1, .pure (GValue.cs v0)), (3, .pure (GValue.cs j'1))] rfl rfl rfl ?_
      refine AW2_skip ?_
      refine AW2_seq ?_
      refine AW2_seq ?_
      refine bindK H fun g'11 h23 H => ?_
      refine AW2_mid (⟨[(60, .b g'11)], [], 61⟩ : TS) ?_ ?_
      · clear H
        have H := h23
        clear h23
        refine AW2_reg [0, 1, 2, 3, 4, 5, 6, 7, 8, 9, 10, 11, 12, 13, 14, 15, 16, 17, 18, 19, 20, 21, 22, 23, 24, 25, 26, 27, 28, 29] rfl ?_
        refine rp rfl rfl (u_lda rfl rfl Tryd.underlying29 rfl in_29 rfl (Nat.succ_pos _) (Sub.refl _) (GValue.len v0)) ?_
        refine rp rfl rfl (u_lda rfl rfl Tryd.underlying29 rfl in_29 rfl (Nat.succ_pos _) (Sub.refl _) (GValue.len j'1)) ?_
        refine rp rfl rfl (p_nea (a := v0) (b := j'1) rfl eq_29 rfl (by kernel_rfl) rfl rfl) ?_
        refine rp rfl rfl (p_move rfl rfl) ?_
        refine (Classical.em (v0 ≠ j'1)).elim (fun h10 => ?_) (fun h10 => ?_)
        · replace H := ite_then h10 H
          refine r_off rfl rfl rfl rfl (decide_eq_true (p := v0 ≠ j'1) h10) rfl rfl ?_
          refine r_off rfl rfl rfl rfl (decide_eq_true (p := v0 ≠ j'1) h10) rfl rfl ?_
          refine r_off rfl rfl rfl rfl (decide_eq_true (p := v0 ≠ j'1) h10) rfl rfl ?_
          refine r_off rfl rfl rfl rfl (decide_eq_true (p := v0 ≠ j'1) h10) rfl rfl ?_
          refine r_off2 rfl rfl rfl rfl rfl rfl ?_
          refine r_off2 rfl rfl rfl rfl rfl rfl ?_
          refine r_off2 rfl rfl rfl rfl rfl rfl ?_
          refine r_off2 rfl rfl rfl rfl rfl rfl ?_
          refine r_off rfl rfl rfl rfl (decide_eq_true (p := v0 ≠ j'1) h10) rfl rfl ?_
          refine rp rfl rfl (p_pkt rfl rfl (decide_eq_true (p := v0 ≠ j'1) h10) (.same _)) ?_
          refine rp rfl rfl (p_move rfl rfl) ?_
          refine r_off rfl rfl rfl rfl rfl rfl rfl ?_
          refine r_off rfl rfl rfl rfl rfl rfl rfl ?_
          refine r_off rfl rfl rfl rfl rfl rfl rfl ?_
          refine r_off rfl rfl rfl rfl rfl rfl rfl ?_
          refine r_off2 rfl rfl rfl rfl rfl rfl ?_
          refine r_off2 rfl rfl rfl rfl rfl rfl ?_
          refine r_off2 rfl rfl rfl rfl rfl rfl ?_
          refine r_off rfl rfl rfl rfl rfl rfl rfl ?_
          refine rp rfl rfl (p_pkt rfl rfl rfl (.same _)) ?_
          refine rp rfl rfl (p_move rfl rfl) ?_
          refine r_off rfl rfl rfl rfl rfl rfl rfl ?_
          refine r_off rfl rfl rfl rfl rfl rfl rfl ?_
          refine r_off rfl rfl rfl rfl rfl rfl rfl ?_
          refine r_off rfl rfl rfl rfl rfl rfl rfl ?_
          refine rp rfl rfl (p_pkt rfl rfl rfl (.same _)) ?_
          refine rs [(60, .b true)] [] rfl rfl rfl ?_
          have hz := some_elim H
          subst hz
          exact RunW_nil rfl
        · replace H := ite_else h10 H
          refine r_on rfl rfl rfl rfl (decide_eq_false (p := v0 ≠ j'1) h10) rfl (PureD.opD (u_fa rfl rfl Tryd.underlying29 rfl in_3 (Nat.succ_ne_zero _) rfl rfl (ne_of_lt (n := 0) (Nat.lt_of_lt_of_eq (by decide) (Eq.symm (GValue.len v0)))))) ?_
          refine r_on rfl rfl rfl rfl (decide_eq_false (p := v0 ≠ j'1) h10) rfl (PureD.opD (u_ld rfl rfl Tryd.underlying3 rfl rfl ((Sub.refl _).trans (GValue.sub0 v0)))) ?_
          refine r_on rfl rfl rfl rfl (decide_eq_false (p := v0 ≠ j'1) h10) rfl (PureD.opD (p_ieq rfl rfl rfl)) ?_
          refine r_on rfl rfl rfl rfl (decide_eq_false (p := v0 ≠ j'1) h10) rfl (PureD.opD (p_move rfl rfl)) ?_
          refine (Classical.em (v0.Kind = (1 : Int))).elim (fun h11 => ?_) (fun h11 => ?_)
          · replace H := ite_then h11 H
            refine r_on rfl rfl rfl rfl (decide_eq_true (p := v0.Kind = (1 : Int)) h11) rfl (PureD.opD (u_fa rfl rfl Tryd.underlying29 rfl in_3 (Nat.succ_ne_zero _) rfl rfl (ne_of_lt (n := 0) (Nat.lt_of_lt_of_eq (by decide) (Eq.symm (GValue.len v0)))))) ?_
            refine r_on rfl rfl rfl rfl (decide_eq_true (p := v0.Kind = (1 : Int)) h11) rfl (PureD.opD (u_ld rfl rfl Tryd.underlying3 rfl rfl ((Sub.refl _).trans (GValue.sub1 v0)))) ?_
            refine r_on rfl rfl rfl rfl (decide_eq_true (p := v0.Kind = (1 : Int)) h11) rfl (PureD.opD (p_i_u64 rfl Tryd.underlying3 Tryd.underlying82 rfl)) ?_
            refine r_on rfl rfl rfl rfl (decide_eq_true (p := v0.Kind = (1 : Int)) h11) rfl (PureD.opD (p_u64gt (a := UInt64.ofInt v0.Int_) (b := (1 : UInt64)) rfl rfl rfl)) ?_
            refine r_on rfl rfl rfl rfl (decide_eq_false (p := v0 ≠ j'1) h10) rfl (PureD.opD (p_pkt rfl rfl (decide_eq_true (p := v0.Kind = (1 : Int)) h11) (.same _))) ?_
            refine rp rfl rfl (p_pkf rfl rfl (decide_eq_false (p := v0 ≠ j'1) h10) (.same _)) ?_
            refine rp rfl rfl (p_move rfl rfl) ?_
            refine (Classical.em ((1 : UInt64) < UInt64.ofInt v0.Int_)).elim (fun h12 => ?_) (fun h12 => ?_)
            · replace H := ite_then h12 H
              refine r_off rfl rfl rfl rfl (decide_eq_true (p := (1 : UInt64) < UInt64.ofInt v0.Int_) h12) rfl rfl ?_
              refine r_off rfl rfl rfl rfl (decide_eq_true (p := (1 : UInt64) < UInt64.ofInt v0.Int_) h12) rfl rfl ?_
              refine r_off rfl rfl rfl rfl (decide_eq_true (p := (1 : UInt64) < UInt64.ofInt v0.Int_) h12) rfl rfl ?_
              refine r_off rfl rfl rfl rfl (decide_eq_true (p := (1 : UInt64) < UInt64.ofInt v0.Int_) h12) rfl rfl ?_
              refine r_off2 rfl rfl rfl rfl rfl rfl ?_
              refine r_off2 rfl rfl rfl rfl rfl rfl ?_
              refine r_off2 rfl rfl rfl rfl rfl rfl ?_
              refine r_off rfl rfl rfl rfl (decide_eq_true (p := (1 : UInt64) < UInt64.ofInt v0.Int_) h12) rfl rfl ?_
              refine rp rfl rfl (p_pkt rfl rfl (decide_eq_true (p := (1 : UInt64) < UInt64.ofInt v0.Int_) h12) (.same _)) ?_
              refine rp rfl rfl (p_move rfl rfl) ?_
              refine r_off rfl rfl rfl rfl rfl rfl rfl ?_
              refine r_off rfl rfl rfl rfl rfl rfl rfl ?_
              refine r_off rfl rfl rfl rfl rfl rfl rfl ?_
              refine r_off rfl rfl rfl rfl rfl rfl rfl ?_
              refine rp rfl rfl (p_pkt rfl rfl rfl (.same _)) ?_
              refine rs [(60, .b true)] [] rfl rfl rfl ?_
              have hz := some_elim H
              subst hz
              exact RunW_nil rfl
            · replace H := ite_else h12 H
              refine r_on rfl rfl rfl rfl (decide_eq_false (p := (1 : UInt64) < UInt64.ofInt v0.Int_) h12) rfl (PureD.opD (u_fa rfl rfl Tryd.underlying29 rfl in_3 (Nat.succ_ne_zero _) rfl rfl (ne_of_lt (n := 0) (Nat.lt_of_lt_of_eq (by decide) (Eq.symm (GValue.len v0)))))) ?_
              refine r_on rfl rfl rfl rfl (decide_eq_false (p := (1 : UInt64) < UInt64.ofInt v0.Int_) h12) rfl (PureD.opD (u_ld rfl rfl Tryd.underlying3 rfl rfl ((Sub.refl _).trans (GValue.sub0 v0)))) ?_
              refine r_on rfl rfl rfl rfl (decide_eq_false (p := (1 : UInt64) < UInt64.ofInt v0.Int_) h12) rfl (PureD.opD (p_ieq rfl rfl rfl)) ?_
              refine r_on rfl rfl rfl rfl (decide_eq_false (p := (1 : UInt64) < UInt64.ofInt v0.Int_) h12) rfl (PureD.opD (p_move rfl rfl)) ?_
              refine (Classical.em (v0.Kind = (3 : Int))).elim (fun h13 => ?_) (fun h13 => ?_)
              · replace H := ite_then h13 H
                refine r_on rfl rfl rfl rfl (decide_eq_true (p := v0.Kind = (3 : Int)) h13) rfl (PureD.opD (u_fa rfl rfl Tryd.underlying29 rfl in_22 (Nat.succ_ne_zero _) rfl rfl (ne_of_lt (n := 0) (Nat.lt_of_lt_of_eq (by decide) (Eq.symm (GValue.len v0)))))) ?_
                refine r_on rfl rfl rfl rfl (decide_eq_true (p := v0.Kind = (3 : Int)) h13) rfl (PureD.opD (u_ld rfl rfl Tryd.underlying22 rfl rfl ((Sub.refl _).trans (GValue.sub2 v0)))) ?_
                refine bindK H fun r'5 h14 H => ?_
                refine r_on rfl rfl rfl rfl (decide_eq_true (p := v0.Kind = (3 : Int)) h13) rfl (PureD.opD (p_callp rfl rfl rfl Tryd.func35 rfl rfl (g_ref_badReal_ac h14) ⟨rfl, trivial⟩)) ?_
                refine r_on rfl rfl rfl rfl (decide_eq_false (p := (1 : UInt64) < UInt64.ofInt v0.Int_) h12) rfl (PureD.opD (p_pkt rfl rfl (decide_eq_true (p := v0.Kind = (3 : Int)) h13) (.same _))) ?_
                refine rp rfl rfl (p_pkf rfl rfl (decide_eq_false (p := (1 : UInt64) < UInt64.ofInt v0.Int_) h12) (.same _)) ?_
                refine rp rfl rfl (p_move rfl rfl) ?_
                refine (Classical.em (r'5 = true)).elim (fun h15 => ?_) (fun h15 => ?_)
                · replace H := ite_then h15 H
                  refine r_off rfl rfl rfl rfl h15 rfl rfl ?_
                  refine r_off rfl rfl rfl rfl h15 rfl rfl ?_
                  refine r_off rfl rfl rfl rfl h15 rfl rfl ?_
                  refine r_off rfl rfl rfl rfl h15 rfl rfl ?_
                  refine rp rfl rfl (p_pkt rfl rfl h15 (.same _)) ?_
                  refine rs [(60, .b true)] [] rfl rfl rfl ?_
                  have hz := some_elim H
                  subst hz
                  exact RunW_nil rfl
                · replace H := ite_else h15 H
                  refine r_on rfl rfl rfl rfl (bfalse h15) rfl (PureD.opD (u_fa rfl rfl Tryd.underlying29 rfl in_9 (Nat.succ_ne_zero _) rfl rfl (ne_of_lt (n := 0) (Nat.lt_of_lt_of_eq (by decide) (Eq.symm (GValue.len v0)))))) ?_
                  refine r_on rfl rfl rfl rfl (bfalse h15) rfl (PureD.opD (u_ld rfl rfl Tryd.underlying9 rfl rfl ((Sub.refl _).trans (GValue.sub3 v0)))) ?_
                  refine bindK H fun r'6 h16 H => ?_
                  refine r_on rfl rfl rfl rfl (bfalse h15) rfl (PureD.opD (p_callp rfl rfl rfl Tryd.func30 rfl rfl (g_utf8_ValidString_ac h16) ⟨rfl, trivial⟩)) ?_
                  refine r_on rfl rfl rfl rfl (bfalse h15) rfl (PureD.opD (p_not rfl rfl)) ?_
                  refine rp rfl rfl (p_pkf rfl rfl (bfalse h15) (.same _)) ?_
                  refine rs [(60, .b (!r'6))] [] rfl rfl rfl ?_
                  have hz := some_elim H
                  subst hz
                  exact RunW_nil rfl
              · replace H := ite_else h13 H
                refine r_off rfl rfl rfl rfl (decide_eq_false (p := v0.Kind = (3 : Int)) h13) rfl rfl ?_
                refine r_off rfl rfl rfl rfl (decide_eq_false (p := v0.Kind = (3 : Int)) h13) rfl rfl ?_
                refine r_off rfl rfl rfl rfl (decide_eq_false (p := v0.Kind = (3 : Int)) h13) rfl rfl ?_
                refine r_on rfl rfl rfl rfl (decide_eq_false (p := (1 : UInt64) < UInt64.ofInt v0.Int_) h12) rfl (PureD.opD (p_pkf rfl rfl (decide_eq_false (p := v0.Kind = (3 : Int)) h13) (.same _))) ?_
                refine rp rfl rfl (p_pkf rfl rfl (decide_eq_false (p := (1 : UInt64) < UInt64.ofInt v0.Int_) h12) (.same _)) ?_
                refine rp rfl rfl (p_move rfl rfl) ?_
                refine r_on rfl rfl rfl rfl (bfalse (by decide)) rfl (PureD.opD (u_fa rfl rfl Tryd.underlying29 rfl in_9 (Nat.succ_ne_zero _) rfl rfl (ne_of_lt (n := 0) (Nat.lt_of_lt_of_eq (by decide) (Eq.symm (GValue.len v0)))))) ?_
                refine r_on rfl rfl rfl rfl (bfalse (by decide)) rfl (PureD.opD (u_ld rfl rfl Tryd.underlying9 rfl rfl ((Sub.refl _).trans (GValue.sub3 v0)))) ?_
                refine bindK H fun r'7 h17 H => ?_
                refine r_on rfl rfl rfl rfl (bfalse (by decide)) rfl (PureD.opD (p_callp rfl rfl rfl Tryd.func30 rfl rfl (g_utf8_ValidString_ac h17) ⟨rfl, trivial⟩)) ?_
                refine r_on rfl rfl rfl rfl (bfalse (by decide)) rfl (PureD.opD (p_not rfl rfl)) ?_
                refine rp rfl rfl (p_pkf rfl rfl (bfalse (by decide)) (.same _)) ?_
                refine rs [(60, .b (!r'7))] [] rfl rfl rfl ?_
                have hz := some_elim H
                subst hz
                exact RunW_nil rfl
          · replace H := ite_else h11 H
            refine r_off rfl rfl rfl rfl (decide_eq_false (p := v0.Kind = (1 : Int)) h11) rfl rfl ?_
            refine r_off rfl rfl rfl rfl (decide_eq_false (p := v0.Kind = (1 : Int)) h11) rfl rfl ?_
            refine r_off rfl rfl rfl rfl (decide_eq_false (p := v0.Kind = (1 : Int)) h11) rfl rfl ?_
            refine r_off rfl rfl rfl rfl (decide_eq_false (p := v0.Kind = (1 : Int)) h11) rfl rfl ?_
            refine r_on rfl rfl rfl rfl (decide_eq_false (p := v0 ≠ j'1) h10) rfl (PureD.opD (p_pkf rfl rfl (decide_eq_false (p := v0.Kind = (1 : Int)) h11) (.same _))) ?_
            refine rp rfl rfl (p_pkf rfl rfl (decide_eq_false (p := v0 ≠ j'1) h10) (.same _)) ?_
            refine rp rfl rfl (p_move rfl rfl) ?_
            refine r_on rfl rfl rfl rfl (bfalse (by decide)) rfl (PureD.opD (u_fa rfl rfl Tryd.underlying29 rfl in_3 (Nat.succ_ne_zero _) rfl rfl (ne_of_lt (n := 0) (Nat.lt_of_lt_of_eq (by decide) (Eq.symm (GValue.len v0)))))) ?_
            refine r_on rfl rfl rfl rfl (bfalse (by decide)) rfl (PureD.opD (u_ld rfl rfl Tryd.underlying3 rfl rfl ((Sub.refl _).trans (GValue.sub0 v0)))) ?_
            refine r_on rfl rfl rfl rfl (bfalse (by decide)) rfl (PureD.opD (p_ieq rfl rfl rfl)) ?_
            refine r_on rfl rfl rfl rfl (bfalse (by decide)) rfl (PureD.opD (p_move rfl rfl)) ?_
            refine (Classical.em (v0.Kind = (3 : Int))).elim (fun h18 => ?_) (fun h18 => ?_)
            · replace H := ite_then h18 H
              refine r_on rfl rfl rfl rfl (decide_eq_true (p := v0.Kind = (3 : Int)) h18) rfl (PureD.opD (u_fa rfl rfl Tryd.underlying29 rfl in_22 (Nat.succ_ne_zero _) rfl rfl (ne_of_lt (n := 0) (Nat.lt_of_lt_of_eq (by decide) (Eq.symm (GValue.len v0)))))) ?_
              refine r_on rfl rfl rfl rfl (decide_eq_true (p := v0.Kind = (3 : Int)) h18) rfl (PureD.opD (u_ld rfl rfl Tryd.underlying22 rfl rfl ((Sub.refl _).trans (GValue.sub2 v0)))) ?_
              refine bindK H fun r'8 h19 H => ?_
              refine r_on rfl rfl rfl rfl (decide_eq_true (p := v0.Kind = (3 : Int)) h18) rfl (PureD.opD (p_callp rfl rfl rfl Tryd.func35 rfl rfl (g_ref_badReal_ac h19) ⟨rfl, trivial⟩)) ?_
              refine r_on rfl rfl rfl rfl (bfalse (by decide)) rfl (PureD.opD (p_pkt rfl rfl (decide_eq_true (p := v0.Kind = (3 : Int)) h18) (.same _))) ?_
              refine rp rfl rfl (p_pkf rfl rfl (bfalse (by decide)) (.same _)) ?_
              refine rp rfl rfl (p_move rfl rfl) ?_
              refine (Classical.em (r'8 = true)).elim (fun h20 => ?_) (fun h20 => ?_)
              · replace H := ite_then h20 H
                refine r_off rfl rfl rfl rfl h20 rfl rfl ?_
                refine r_off rfl rfl rfl rfl h20 rfl rfl ?_
                refine r_off rfl rfl rfl rfl h20 rfl rfl ?_
                refine r_off rfl rfl rfl rfl h20 rfl rfl ?_
                refine rp rfl rfl (p_pkt rfl rfl h20 (.same _)) ?_
                refine rs [(60, .b true)] [] rfl rfl rfl ?_
                have hz := some_elim H
                subst hz
                exact RunW_nil rfl
              · replace H := ite_else h20 H
                refine r_on rfl rfl rfl rfl (bfalse h20) rfl (PureD.opD (u_fa rfl rfl Tryd.underlying29 rfl in_9 (Nat.succ_ne_zero _) rfl rfl (ne_of_lt (n := 0) (Nat.lt_of_lt_of_eq (by decide) (Eq.symm (GValue.len v0)))))) ?_
                refine r_on rfl rfl rfl rfl (bfalse h20) rfl (PureD.opD (u_ld rfl rfl Tryd.underlying9 rfl rfl ((Sub.refl _).trans (GValue.sub3 v0)))) ?_
                refine bindK H fun r'9 h21 H => ?_
                refine r_on rfl rfl rfl rfl (bfalse h20) rfl (PureD.opD (p_callp rfl rfl rfl Tryd.func30 rfl rfl (g_utf8_ValidString_ac h21) ⟨rfl, trivial⟩)) ?_
                refine r_on rfl rfl rfl rfl (bfalse h20) rfl (PureD.opD (p_not rfl rfl)) ?_
                refine rp rfl rfl (p_pkf rfl rfl (bfalse h20) (.same _)) ?_
                refine rs [(60, .b (!r'9))] [] rfl rfl rfl ?_
                have hz := some_elim H
                subst hz
                exact RunW_nil rfl
            · replace H := ite_else h18 H
              refine r_off rfl rfl rfl rfl (decide_eq_false (p := v0.Kind = (3 : Int)) h18) rfl rfl ?_
              refine r_off rfl rfl rfl rfl (decide_eq_false (p := v0.Kind = (3 : Int)) h18) rfl rfl ?_
              refine r_off rfl rfl rfl rfl (decide_eq_false (p := v0.Kind = (3 : Int)) h18) rfl rfl ?_
              refine r_on rfl rfl rfl rfl (bfalse (by decide)) rfl (PureD.opD (p_pkf rfl rfl (decide_eq_false (p := v0.Kind = (3 : Int)) h18) (.same _))) ?_
              refine rp rfl rfl (p_pkf rfl rfl (bfalse (by decide)) (.same _)) ?_
              refine rp rfl rfl (p_move rfl rfl) ?_
              refine r_on rfl rfl rfl rfl (bfalse (by decide)) rfl (PureD.opD (u_fa rfl rfl Tryd.underlying29 rfl in_9 (Nat.succ_ne_zero _) rfl rfl (ne_of_lt (n := 0) (Nat.lt_of_lt_of_eq (by decide) (Eq.symm (GValue.len v0)))))) ?_
              refine r_on rfl rfl rfl rfl (bfalse (by decide)) rfl (PureD.opD (u_ld rfl rfl Tryd.underlying9 rfl rfl ((Sub.refl _).trans (GValue.sub3 v0)))) ?_
              refine bindK H fun r'10 h22 H => ?_
              refine r_on rfl rfl rfl rfl (bfalse (by decide)) rfl (PureD.opD (p_callp rfl rfl rfl Tryd.func30 rfl rfl (g_utf8_ValidString_ac h22) ⟨rfl, trivial⟩)) ?_
              refine r_on rfl rfl rfl rfl (bfalse (by decide)) rfl (PureD.opD (p_not rfl rfl)) ?_
              refine rp rfl rfl (p_pkf rfl rfl (bfalse (by decide)) (.same _)) ?_
              refine rs [(60, .b (!r'10))] [] rfl rfl rfl ?_
              have hz := some_elim H
              subst hz
              exact RunW_nil rfl
      · refine AW2_cond rfl (fun h24 => ?_) (fun h24 => ?_)
        · replace H := ite_then h24 H
          refine sg [0] rfl ?_
          refine rp rfl rfl (p_asg rfl rfl) ?_
          refine rz [(2, .i (3 : Int))] [] rfl rfl rfl ?_
          refine AW2_ret ?_
          have hz := some_elim H
          subst hz
          exact ⟨⟨res_tmp (.same _), trivial⟩, trivial⟩
        · replace H := ite_else (ne_true h24) H
          refine as2 [] [] rfl rfl rfl ?_
          refine AW2_skip ?_
          refine sg [0] rfl ?_
          refine rp rfl rfl (p_asg rfl rfl) ?_
          refine rz [(2, .i (0 : Int))] [] rfl rfl rfl ?_
          refine AW2_ret ?_
          have hz := some_elim H
          subst hz
          exact ⟨⟨res_tmp (.same _), trivial⟩, trivial⟩
  · subst hy
    obtain ⟨rfl, hs⟩ := hs
    have hz := some_elim H
    subst hz
    exact ⟨hs.1, hs.2⟩

/-! chirographref.RowFault -/
noncomputable def g_ref_RowFault_l0 (row0 : List GValue) (cols1 : List GColumn) : Int → Option (Int ⊕ (Int ⊕ Unit))
  | t21_0 => (if t21_0 < (row0.length : Int) then (show Option (Int ⊕ Unit) from if 0 ≤ t21_0 ∧ t21_0 < (row0.length : Int) then (g_ref_ValueFault (lrd row0 t21_0.toNat)).bind fun r'3 => (if r'3 ≠ (0 : Int) then some (.inl r'3) else (if (lrd row0 t21_0.toNat).Kind = (0 : Int) then if 0 ≤ t21_0 ∧ t21_0 < (cols1.length : Int) then (if (!((lrd cols1 t21_0.toNat).Null)) = true then some (.inl (12 : Int)) else some (.inr ())) else none else if 0 ≤ t21_0 ∧ t21_0 < (cols1.length : Int) then (if (lrd row0 t21_0.toNat).Kind ≠ (lrd cols1 t21_0.toNat).Kind then some (.inl (2 : Int)) else some (.inr ())) else none)) else none).bind fun o'5 => match o'5 with | .inl y'4 => some (.inr (.inl y'4)) | .inr j'2 => some (.inl (w64 (t21_0 + (1 : Int)))) else some (.inr (.inr ())))
noncomputable def g_ref_RowFault (row0 : List GValue) (cols1 : List GColumn) : Option (Int) :=
  (g_ref_ColumnsFault cols1).bind fun r'1 => (if r'1 ≠ (0 : Int) then some r'1 else (if (row0.length : Int) ≠ (cols1.length : Int) then some (1 : Int) else (loopO (g_ref_RowFault_l0 row0 cols1) (0 : Int)).bind fun o'9 => match o'9 with | .inl y'10 => some y'10 | .inr (y'11) => some (0 : Int)))
set_option maxHeartbeats 4000000 in
set_option maxRecDepth 100000 in
theorem g_ref_RowFault_ac {row0 : List GValue} {cols1 : List GColumn} {r : Int} (H : g_ref_RowFault row0 cols1 = some r) : ACp Tryd.prog 17 [((fun q : List GValue => AV.lst (q.flatMap GValue.cs) q.length) row0), ((fun q : List GColumn => AV.lst (q.flatMap GColumn.cs) q.length) cols1)] (AV.int r) := by
  refine ACp_of (AC2_of_body (vs := [.i r]) Tryd.func17 rfl rfl (Nat.le_of_ble_eq_true rfl) rfl ?_) (fun _ => .same _)
  unfold g_ref_RowFault at H
  refine as2 [(0, .p ((fun q : List GValue => AV.lst (q.flatMap GValue.cs) q.length) row0)), (1, .p ((fun q : List GColumn => AV.lst (q.flatMap GColumn.cs) q.length) cols1))] [] rfl rfl rfl ?_
  refine sg [0] rfl ?_
  refine rp rfl rfl (p_asg rfl rfl) ?_
  refine rz [(0, .p ((fun q : List GValue => AV.lst (q.flatMap GValue.cs) q.length) row0)), (1, .p ((fun q : List GColumn => AV.lst (q.flatMap GColumn.cs) q.length) cols1))] [] rfl rfl rfl ?_
  refine AW2_seq ?_
  refine sg [0, 1, 2] rfl ?_
  refine rp rfl rfl (p_move rfl rfl) ?_
  refine bindK H fun r'1 h1 H => ?_
  refine rp rfl rfl (p_callp rfl rfl rfl Tryd.func15 rfl rfl (g_ref_ColumnsFault_ac h1) ⟨rfl, trivial⟩) ?_
  refine rp rfl rfl (p_asg rfl rfl) ?_
  refine rz [(0, .p ((fun q : List GValue => AV.lst (q.flatMap GValue.cs) q.length) row0)), (1, .p ((fun q : List GColumn => AV.lst (q.flatMap GColumn.cs) q.length) cols1)), (5, .i r'1)] [] rfl rfl rfl ?_
  refine sg [0, 1] rfl ?_
  refine rp rfl rfl (p_move rfl rfl) ?_
  refine rp rfl rfl (p_ine rfl rfl rfl) ?_
  refine rz [(0, .p ((fun q : List GValue => AV.lst (q.flatMap GValue.cs) q.length) row0)), (1, .p ((fun q : List GColumn => AV.lst (q.flatMap GColumn.cs) q.length) cols1)), (5, .i r'1), (12, .b (decide (r'1 ≠ (0 : Int))))] [] rfl rfl rfl ?_
  refine AW2_if (p := r'1 ≠ (0 : Int)) rfl (fun h2 => ?_) (fun h2 => ?_)
  · replace H := ite_then h2 H
    refine sg [0, 1] rfl ?_
    refine rp rfl rfl (p_move rfl rfl) ?_
    refine rp rfl rfl (p_asg rfl rfl) ?_
    refine rz [(4, .i r'1)] [] rfl rfl rfl ?_
    refine AW2_ret ?_
    have hz := some_elim H
    subst hz
    exact ⟨⟨res_tmp (.same _), trivial⟩, trivial⟩
  · replace H := ite_else h2 H
    refine as2 [(0, .p ((fun q : List GValue => AV.lst (q.flatMap GValue.cs) q.length) row0)), (1, .p ((fun q : List GColumn => AV.lst (q.flatMap GColumn.cs) q.length) cols1))] [] rfl rfl rfl ?_
    refine AW2_skip ?_
    refine AW2_seq ?_
    refine sg [0, 1, 2, 3, 4] rfl ?_
    refine rp rfl rfl (p_move rfl rfl) ?_
    refine rp rfl rfl (p_lenl rfl Tryd.underlying38 rfl rfl) ?_
    refine rp rfl rfl (p_move rfl rfl) ?_
    refine rp rfl rfl (p_lenl rfl Tryd.underlying35 rfl rfl) ?_
    refine rp rfl rfl (p_ine rfl rfl rfl) ?_
    refine rz [(0, .p ((fun q : List GValue => AV.lst (q.flatMap GValue.cs) q.length) row0)), (1, .p ((fun q : List GColumn => AV.lst (q.flatMap GColumn.cs) q.length) cols1)), (18, .b (decide ((row0.length : Int) ≠ (cols1.length : Int))))] [] rfl rfl rfl ?_
    refine AW2_if (p := (row0.length : Int) ≠ (cols1.length : Int)) rfl (fun h3 => ?_) (fun h3 => ?_)
    · replace H := ite_then h3 H
      refine sg [0] rfl ?_
      refine rp rfl rfl (p_asg rfl rfl) ?_
      refine rz [(4, .i (1 : Int))] [] rfl rfl rfl ?_
      refine AW2_ret ?_
      have hz := some_elim H
      subst hz
      exact ⟨⟨res_tmp (.same _), trivial⟩, trivial⟩
    · replace H := ite_else h3 H
      refine as2 [(0, .p ((fun q : List GValue => AV.lst (q.flatMap GValue.cs) q.length) row0)), (1, .p ((fun q : List GColumn => AV.lst (q.flatMap GColumn.cs) q.length) cols1))] [] rfl rfl rfl ?_
      refine AW2_skip ?_
      refine AW2_seq ?_
      refine sg [0, 1, 2] rfl ?_
      refine rp rfl rfl (p_move rfl rfl) ?_
      refine rp rfl rfl (p_lenl rfl Tryd.underlying38 rfl rfl) ?_
      refine rp rfl rfl (p_move rfl rfl) ?_
      refine rz [(1, .p ((fun q : List GColumn => AV.lst (q.flatMap GColumn.cs) q.length) cols1)), (19, .p ((fun q : List GValue => AV.lst (q.flatMap GValue.cs) q.length) row0)), (20, .i (row0.length : Int)), (21, .i (0 : Int))] [] rfl rfl rfl ?_
      refine AW2_block ?_
      refine as2 [(1, .p ((fun q : List GColumn => AV.lst (q.flatMap GColumn.cs) q.length) cols1)), (19, .p ((fun q : List GValue => AV.lst (q.flatMap GValue.cs) q.length) row0)), (20, .i (row0.length : Int)), (21, .i (0 : Int))] [] rfl rfl rfl ?_
      refine bindK H fun o'9 h14 H => ?_
      refine AW2_loopO (fun a'6 : Int => (⟨[(1, .p ((fun q : List GColumn => AV.lst (q.flatMap GColumn.cs) q.length) cols1)), (19, .p ((fun q : List GValue => AV.lst (q.flatMap GValue.cs) q.length) row0)), (20, .i (row0.length : Int)), (21, .i a'6)], [], 49⟩ : TS)) (fun (o : Int ⊕ Unit) e s' => match o with | .inl y'7 => e = Go.Exit.ret ∧ ResAll Tryd.prog s' [ResultVar.tmp 4] [.i y'7] ∧ HFits s' [] | .inr (y'8) => e = Go.Exit.exit 0 ∧ s' = (⟨[], [], 49⟩ : TS)) h14 rfl (fun t21_0 x hx => ?_) (fun e s' hs => ?_)
      · clear H
        have H := hx
        clear hx
        unfold g_ref_RowFault_l0 at H
        refine sg [0] rfl ?_
        refine rp rfl rfl (p_bin rfl rfl rfl rfl) ?_
        refine rz [(1, .p ((fun q : List GColumn => AV.lst (q.flatMap GColumn.cs) q.length) cols1)), (19, .p ((fun q : List GValue => AV.lst (q.flatMap GValue.cs) q.length) row0)), (20, .i (row0.length : Int)), (21, .i t21_0), (22, .b (decide (t21_0 < (row0.length : Int))))] [] rfl rfl rfl ?_
        refine AW2_seq ?_
        refine AW2_if (p := t21_0 < (row0.length : Int)) rfl (fun h4 => ?_) (fun h4 => ?_)
        · replace H := ite_then h4 H
          refine as2 [(1, .p ((fun q : List GColumn => AV.lst (q.flatMap GColumn.cs) q.length) cols1)), (19, .p ((fun q : List GValue => AV.lst (q.flatMap GValue.cs) q.length) row0)), (20, .i (row0.length : Int)), (21, .i t21_0)] [] rfl rfl rfl ?_
          refine AW2_skip ?_
          refine AW2_seq ?_
          refine bindK H fun o'5 h5 H => ?_
          refine AW2_join (fun j'2 : Unit => (⟨[(1, .p ((fun q : List GColumn => AV.lst (q.flatMap GColumn.cs) q.length) cols1)), (19, .p ((fun q : List GValue => AV.lst (q.flatMap GValue.cs) q.length) row0)), (20, .i (row0.length : Int)), (21, .i t21_0)], [], 49⟩ : TS)) (fun r e s' => e = Go.Exit.ret ∧ ResAll Tryd.prog s' [ResultVar.tmp 4] [.i r] ∧ HFits s' []) (x := o'5) ?_ (fun j'2 hy => ?_) (fun y'4 e s' hy hs => ?_)
          · clear H
            have H := h5
            clear h5
            refine AW2_block ?_
            refine sg [0, 1, 2, 3, 4, 5] rfl ?_
            refine rp rfl rfl (p_move rfl rfl) ?_
            refine chkK H fun h6 H => ?_
            refine rp rfl rfl (u_ixl rfl rfl Tryd.underlying38 in_29 rfl rfl (ixe h6) (ixn h6) (fne (fun x => (GValue.len x)) (by decide) (ixn h6))) ?_
            refine rp rfl rfl (u_lda rfl rfl Tryd.underlying29 rfl in_29 rfl (Nat.succ_pos _) (Sub.fm default (fun x => (GValue.len x)) (ixn h6)) (GValue.len (lrd row0 t21_0.toNat))) ?_
            refine r_op rfl rfl (MakeD.opD (u_alloc 7 rfl in_29 one_29 zc_29) rfl rfl rfl rfl) ?_
            refine rp rfl rfl (p_asg rfl rfl) ?_
            refine r_op rfl rfl (u_st rfl rfl rfl rfl rfl in_29 (GValue.len (lrd row0 t21_0.toNat)) (ne_of_lt (n := 0) (Nat.lt_of_lt_of_eq (by decide) (Eq.symm (GValue.len GValue.zero)))) (Upd.refl ((GValue.len (lrd row0 t21_0.toNat)).trans (GValue.len GValue.zero).symm))) ?_
            refine rz [(1, .p ((fun q : List GColumn => AV.lst (q.flatMap GColumn.cs) q.length) cols1)), (6, .i t21_0), (7, .q 7 (0)), (19, .p ((fun q : List GValue => AV.lst (q.flatMap GValue.cs) q.length) row0)), (20, .i (row0.length : Int)), (21, .i t21_0)] [(7, .pure (GValue.cs (lrd row0 t21_0.toNat)))] rfl rfl rfl ?_
            refine AW2_seq ?_
            refine sg [0, 1, 2] rfl ?_
            refine rp rfl rfl (u_lda rfl rfl Tryd.underlying29 rfl in_29 rfl (Nat.succ_pos _) (Sub.refl _) (GValue.len (lrd row0 t21_0.toNat))) ?_
            refine bindK H fun r'3 h7 H => ?_
            refine rp rfl rfl (p_callp rfl rfl rfl Tryd.func43 rfl rfl (g_ref_ValueFault_ac h7) ⟨rfl, trivial⟩) ?_
            refine rp rfl rfl (p_asg rfl rfl) ?_
            refine rz [(1, .p ((fun q : List GColumn => AV.lst (q.flatMap GColumn.cs) q.length) cols1)), (6, .i t21_0), (7, .q 7 (0)), (8, .i r'3), (19, .p ((fun q : List GValue => AV.lst (q.flatMap GValue.cs) q.length) row0)), (20, .i (row0.length : Int)), (21, .i t21_0)] [(7, .pure (GValue.cs (lrd row0 t21_0.toNat)))] rfl rfl rfl ?_
            refine sg [0, 1] rfl ?_
            refine rp rfl rfl (p_move rfl rfl) ?_
            refine rp rfl rfl (p_ine rfl rfl rfl) ?_
            refine rz [(1, .p ((fun q : List GColumn => AV.lst (q.flatMap GColumn.cs) q.length) cols1)), (6, .i t21_0), (7, .q 7 (0)), (8, .i r'3), (19, .p ((fun q : List GValue => AV.lst (q.flatMap GValue.cs) q.length) row0)), (20, .i (row0.length : Int)), (21, .i t21_0), (29, .b (decide (r'3 ≠ (0 : Int))))] [(7, .pure (GValue.cs (lrd row0 t21_0.toNat)))] rfl rfl rfl ?_
            refine AW2_if (p := r'3 ≠ (0 : Int)) rfl (fun h8 => ?_) (fun h8 => ?_)
            · replace H := ite_then h8 H
              refine sg [0, 1] rfl ?_
              refine rp rfl rfl (p_move rfl rfl) ?_
              refine rp rfl rfl (p_asg rfl rfl) ?_
              refine rz [(4, .i r'3)] [] rfl rfl rfl ?_
              refine AW2_ret ?_
              have hz := some_elim H
              subst hz
              exact ⟨rfl, ⟨res_tmp (.same _), trivial⟩, trivial⟩
            · replace H := ite_else h8 H
              refine as2 [(1, .p ((fun q : List GColumn => AV.lst (q.flatMap GColumn.cs) q.length) cols1)), (6, .i t21_0), (7, .q 7 (0)), (19, .p ((fun q : List GValue => AV.lst (q.flatMap GValue.cs) q.length) row0)), (20, .i (row0.length : Int)), (21, .i t21_0)] [(7, .pure (GValue.cs (lrd row0 t21_0.toNat)))] rfl rfl rfl ?_
              refine AW2_skip ?_
              refine sg [0, 1, 2] rfl ?_
              refine rp rfl rfl (u_fa rfl rfl Tryd.underlying29 rfl in_3 (Nat.succ_ne_zero _) rfl rfl (ne_of_lt (n := 0) (Nat.lt_of_lt_of_eq (by decide) (Eq.symm (GValue.len (lrd row0 t21_0.toNat)))))) ?_
              refine rp rfl rfl (u_ld rfl rfl Tryd.underlying3 rfl rfl ((Sub.refl _).trans (GValue.sub0 (lrd row0 t21_0.toNat)))) ?_
              refine rp rfl rfl (p_ieq rfl rfl rfl) ?_
              refine rz [(1, .p ((fun q : List GColumn => AV.lst (q.flatMap GColumn.cs) q.length) cols1)), (6, .i t21_0), (7, .q 7 (0)), (19, .p ((fun q : List GValue => AV.lst (q.flatMap GValue.cs) q.length) row0)), (20, .i (row0.length : Int)), (21, .i t21_0), (33, .b (decide ((lrd row0 t21_0.toNat).Kind = (0 : Int))))] [(7, .pure (GValue.cs (lrd row0 t21_0.toNat)))] rfl rfl rfl ?_
              refine AW2_if (p := (lrd row0 t21_0.toNat).Kind = (0 : Int)) rfl (fun h9 => ?_) (fun h9 => ?_)
              · replace H := ite_then h9 H
                refine sg [0, 1, 2, 3, 4, 5] rfl ?_
                refine rp rfl rfl (p_move rfl rfl) ?_
                refine rp rfl rfl (p_move rfl rfl) ?_
                refine chkK H fun h10 H => ?_
                refine rp rfl rfl (u_ixl rfl rfl Tryd.underlying35 in_68 rfl rfl (ixe h10) (ixn h10) (fne (fun x => (GColumn.len x)) (by decide) (ixn h10))) ?_
                refine rp rfl rfl (u_far rfl rfl Tryd.underlying68 rfl in_4 (Nat.succ_ne_zero _) rfl) ?_
                refine rp rfl rfl (u_ld rfl rfl Tryd.underlying4 rfl rfl ((Sub.fm default (fun x => (GColumn.len x)) (ixn h10)).trans (GColumn.sub2 (lrd cols1 t21_0.toNat)))) ?_
                refine rp rfl rfl (p_not rfl rfl) ?_
                refine rz [(1, .p ((fun q : List GColumn => AV.lst (q.flatMap GColumn.cs) q.length) cols1)), (19, .p ((fun q : List GValue => AV.lst (q.flatMap GValue.cs) q.length) row0)), (20, .i (row0.length : Int)), (21, .i t21_0), (39, .b (!((lrd cols1 t21_0.toNat).Null)))] [] rfl rfl rfl ?_
                refine AW2_cond rfl (fun h11 => ?_) (fun h11 => ?_)
                · replace H := ite_then h11 H
                  refine sg [0] rfl ?_
                  refine rp rfl rfl (p_asg rfl rfl) ?_
                  refine rz [(4, .i (12 : Int))] [] rfl rfl rfl ?_
                  refine AW2_ret ?_
                  have hz := some_elim H
                  subst hz
                  exact ⟨rfl, ⟨res_tmp (.same _), trivial⟩, trivial⟩
                · replace H := ite_else (ne_true h11) H
                  refine as2 [(1, .p ((fun q : List GColumn => AV.lst (q.flatMap GColumn.cs) q.length) cols1)), (19, .p ((fun q : List GValue => AV.lst (q.flatMap GValue.cs) q.length) row0)), (20, .i (row0.length : Int)), (21, .i t21_0)] [] rfl rfl rfl ?_
                  refine AW2_skip ?_
                  have hz := some_elim H
                  subst hz
                  exact ⟨rfl, rfl⟩
              · replace H := ite_else h9 H
                refine AW2_seq ?_
                refine chkK H fun h12 H => ?_
                refine AW2_ghoQ ?_
                refine AW2_draw 7 [7] (fun k => ([.q 7 (0 + 0), .i ((lrd row0 t21_0.toNat).Kind), .p ((fun q : List GColumn => AV.lst (q.flatMap GColumn.cs) q.length) cols1), .i t21_0, .p (.rptr (cols1.flatMap GColumn.cs) (t21_0.toNat * 3)), .p (.rptr (cols1.flatMap GColumn.cs) (t21_0.toNat * 3 + 1)), .i ((lrd cols1 t21_0.toNat).Kind)] : List TV).getD k TV.any) (fun k => ([[(7, none)], [(40, some 0)], [(1, none)], [(6, none)], [(42, some 2), (43, some 3)], [(44, some 4)], [(45, some 5)]] : List (List (Nat × Option Nat))).getD k []) [(1, none), (19, none), (20, none), (21, none), (41, some 1), (46, some 6)] [] (fun k => ([[], [0], [], [], [2, 3], [2, 3, 4], [2, 3, 4, 5], [0, 1, 2, 3, 4, 5, 6]] : List (List Nat)).getD k []) mixed (by kernel_rfl) rfl rfl (a_op (g_x rfl (x_p rfl (u_fa rfl rfl Tryd.underlying29 rfl in_3 (Nat.succ_ne_zero _) rfl rfl (ne_of_lt (n := 0) (Nat.lt_of_lt_of_eq (by decide) (Eq.symm (GValue.len (lrd row0 t21_0.toNat)))))) rfl)) (a_op (g_x rfl (x_p rfl (u_ld rfl rfl Tryd.underlying3 rfl rfl ((Sub.refl _).trans (GValue.sub0 (lrd row0 t21_0.toNat)))) rfl)) (a_op (g_x rfl (x_p rfl (p_move rfl rfl) rfl)) (a_op (g_x rfl (x_p rfl (p_move rfl rfl) rfl)) (a_op (g_x rfl (x_p rfl (u_ixl rfl rfl Tryd.underlying35 in_68 rfl rfl (ixe h12) (ixn h12) (fne (fun x => (GColumn.len x)) (by decide) (ixn h12))) rfl)) (a_op (g_x rfl (x_p rfl (u_far rfl rfl Tryd.underlying68 rfl in_3 (Nat.succ_ne_zero _) rfl) rfl)) (a_op (g_x rfl (x_p rfl (u_ld rfl rfl Tryd.underlying3 rfl rfl ((Sub.fm default (fun x => (GColumn.len x)) (ixn h12)).trans (GColumn.sub1 (lrd cols1 t21_0.toNat)))) rfl)) (a_nil)))))))) ?_
                refine t_op rfl rfl (PureD.opD (p_ine rfl rfl rfl)) ?_
                refine t_gho (Gho_st (L := [(1, .p ((fun q : List GColumn => AV.lst (q.flatMap GColumn.cs) q.length) cols1)), (19, .p ((fun q : List GValue => AV.lst (q.flatMap GValue.cs) q.length) row0)), (20, .i (row0.length : Int)), (21, .i t21_0), (47, .b (decide ((lrd row0 t21_0.toNat).Kind ≠ (lrd cols1 t21_0.toNat).Kind)))]) (H := []) (N := 49) rfl ⟨TLes.same _, TLes.same _, TLes.same _, TLes.same _, TLes.same _, trivial⟩ trivial) ?_
                refine AW2_if (p := (lrd row0 t21_0.toNat).Kind ≠ (lrd cols1 t21_0.toNat).Kind) rfl (fun h13 => ?_) (fun h13 => ?_)
                · replace H := ite_then h13 H
                  refine sg [0] rfl ?_
                  refine rp rfl rfl (p_asg rfl rfl) ?_
                  refine rz [(4, .i (2 : Int))] [] rfl rfl rfl ?_
                  refine AW2_ret ?_
                  have hz := some_elim H
                  subst hz
                  exact ⟨rfl, ⟨res_tmp (.same _), trivial⟩, trivial⟩
                · replace H := ite_else h13 H
                  refine as2 [(1, .p ((fun q : List GColumn => AV.lst (q.flatMap GColumn.cs) q.length) cols1)), (19, .p ((fun q : List GValue => AV.lst (q.flatMap GValue.cs) q.length) row0)), (20, .i (row0.length : Int)), (21, .i t21_0)] [] rfl rfl rfl ?_
                  refine AW2_skip ?_
                  have hz := some_elim H
                  subst hz
                  exact ⟨rfl, rfl⟩
          · subst hy
            refine AW2_reg [0, 1] rfl ?_
            refine rp rfl rfl (p_bin rfl rfl rfl rfl) ?_
            refine rp rfl rfl (p_move rfl rfl) ?_
            refine rz [(1, .p ((fun q : List GColumn => AV.lst (q.flatMap GColumn.cs) q.length) cols1)), (19, .p ((fun q : List GValue => AV.lst (q.flatMap GValue.cs) q.length) row0)), (20, .i (row0.length : Int)), (21, .i (w64 (t21_0 + (1 : Int))))] [] rfl rfl rfl ?_
            have hz := some_elim H
            subst hz
            exact ⟨rfl, rfl⟩
          · subst hy
            obtain ⟨rfl, hs⟩ := hs
            have hz := some_elim H
            subst hz
            exact ⟨rfl, hs.1, hs.2⟩
        · replace H := ite_else h4 H
          refine as2 [] [] rfl rfl rfl ?_
          refine AW2_exit ?_
          refine thenQ2_exit ?_
          have hz := some_elim H
          subst hz
          exact ⟨rfl, rfl⟩
      · rcases o'9 with y'10 | y'11
        · obtain ⟨rfl, hs⟩ := hs
          refine ⟨by simp, ?_⟩
          have hz := some_elim H
          subst hz
          exact ⟨hs.1, hs.2⟩
        · obtain ⟨rfl, rfl⟩ := hs
          refine ⟨by simp, ?_⟩
          refine blockQ2_exit ?_
          refine sg [0] rfl ?_
          refine rp rfl rfl (p_asg rfl rfl) ?_
          refine rz [(4, .i (0 : Int))] [] rfl rfl rfl ?_
          refine AW2_ret ?_
          have hz := some_elim H
          subst hz
          exact ⟨⟨res_tmp (.same _), trivial⟩, trivial⟩

/-! chirographlaw.KindsRows -/
noncomputable def g_law_KindsRows (row0 : List GValue) (cols1 : List GColumn) : Option (Bool) :=
  (g_kinds_Row row0 cols1).bind fun r'1 => (g_ref_RowFault row0 cols1).bind fun r'2 => some (decide (r'1 = r'2))
set_option maxHeartbeats 4000000 in
set_option maxRecDepth 100000 in
theorem g_law_KindsRows_ac {row0 : List GValue} {cols1 : List GColumn} {r : Bool} (H : g_law_KindsRows row0 cols1 = some r) : ACp Tryd.prog 6 [((fun q : List GValue => AV.lst (q.flatMap GValue.cs) q.length) row0), ((fun q : List GColumn => AV.lst (q.flatMap GColumn.cs) q.length) cols1)] (AV.bool r) := by
  refine ACp_of (AC2_of_body (vs := [.b r]) Tryd.func6 rfl rfl (Nat.le_of_ble_eq_true rfl) rfl ?_) (fun _ => .same _)
  unfold g_law_KindsRows at H
  refine as2 [(0, .p ((fun q : List GValue => AV.lst (q.flatMap GValue.cs) q.length) row0)), (1, .p ((fun q : List GColumn => AV.lst (q.flatMap GColumn.cs) q.length) cols1))] [] rfl rfl rfl ?_
  refine sg [0] rfl ?_
  refine rp rfl rfl (p_asg rfl rfl) ?_
  refine rz [(0, .p ((fun q : List GValue => AV.lst (q.flatMap GValue.cs) q.length) row0)), (1, .p ((fun q : List GColumn => AV.lst (q.flatMap GColumn.cs) q.length) cols1))] [] rfl rfl rfl ?_
  refine sg [0, 1, 2, 3] rfl ?_
  refine rp rfl rfl (p_move rfl rfl) ?_
  refine rp rfl rfl (p_move rfl rfl) ?_
  refine bindK H fun r'1 h1 H => ?_
  refine rp rfl rfl (p_callp rfl rfl rfl Tryd.func16 rfl rfl (g_kinds_Row_ac h1) ⟨rfl, rfl, trivial⟩) ?_
  refine rp rfl rfl (p_asg rfl rfl) ?_
  refine rz [(0, .p ((fun q : List GValue => AV.lst (q.flatMap GValue.cs) q.length) row0)), (1, .p ((fun q : List GColumn => AV.lst (q.flatMap GColumn.cs) q.length) cols1)), (5, .i r'1)] [] rfl rfl rfl ?_
  refine sg [0, 1, 2, 3] rfl ?_
  refine rp rfl rfl (p_move rfl rfl) ?_
  refine rp rfl rfl (p_move rfl rfl) ?_
  refine bindK H fun r'2 h2 H => ?_
  refine rp rfl rfl (p_callp rfl rfl rfl Tryd.func17 rfl rfl (g_ref_RowFault_ac h2) ⟨rfl, rfl, trivial⟩) ?_
  refine rp rfl rfl (p_asg rfl rfl) ?_
  refine rz [(5, .i r'1), (6, .i r'2)] [] rfl rfl rfl ?_
  refine sg [0, 1, 2, 3] rfl ?_
  refine rp rfl rfl (p_move rfl rfl) ?_
  refine rp rfl rfl (p_move rfl rfl) ?_
  refine rp rfl rfl (p_ieq rfl rfl rfl) ?_
  refine rp rfl rfl (p_asg rfl rfl) ?_
  refine rz [(4, .b (decide (r'1 = r'2)))] [] rfl rfl rfl ?_
  refine AW2_ret ?_
  have hz := some_elim H
  subst hz
  exact ⟨⟨res_tmp (.same _), trivial⟩, trivial⟩
end Go.Proofs.YtalnmpfjgiecdaaDoor.VM
