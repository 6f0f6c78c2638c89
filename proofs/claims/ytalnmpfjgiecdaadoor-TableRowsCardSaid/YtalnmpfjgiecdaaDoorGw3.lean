/- Functions of the program, as they answer, and that their code comes to these answers. -/
import Derived.Test.YtalnmpfjgiecdaaDoorGw2
namespace Go.Proofs.YtalnmpfjgiecdaaDoor.VM
open Go Go.RowKit

theorem in_49 : Info Tryd.prog 49 2 2 (.agg #[.bool false, .bool false]) := by unfold Info; kernel_rfl
theorem one_49 : (.agg #[.bool false, .bool false] : Value).cells.all (·.oneCell') = true := by kernel_rfl
theorem zc_49 : ((.agg #[.bool false, .bool false] : Value).cells.toList.map zcell) = ((Vector.replicate 2 false).toList).map AV.bool := by rfl

/-! chirographref.RowFault -/
def g_ref_RowFault_r15 : List (List (Nat × Option Nat)) := [[(7, none)], [(40, some 0)], [(1, none)], [(6, none)], [(42, some 2), (43, some 3)], [(44, some 4)], [(45, some 5)]]
def g_ref_RowFault_r15c : List (List Nat) := [[], [0], [], [], [2, 3], [2, 3, 4], [2, 3, 4, 5], [0, 1, 2, 3, 4, 5, 6]]
noncomputable def g_ref_RowFault_l0 (row0 : List GValue) (cols1 : List GColumn) : Int → Option (Int ⊕ (Int ⊕ Unit))
  | t21_0 => (if t21_0 < (row0.length : Int) then (show Option (Int ⊕ Unit) from if 0 ≤ t21_0 ∧ t21_0 < (row0.length : Int) then (g_ref_ValueFault (lrd row0 t21_0.toNat)).bind fun r'3 => (if r'3 ≠ (0 : Int) then some (.inl r'3) else (if (lrd row0 t21_0.toNat).Kind = (0 : Int) then if 0 ≤ t21_0 ∧ t21_0 < (cols1.length : Int) then (if (!((lrd cols1 t21_0.toNat).Null)) = true then some (.inl (12 : Int)) else some (.inr ())) else none else if 0 ≤ t21_0 ∧ t21_0 < (cols1.length : Int) then (if (lrd row0 t21_0.toNat).Kind ≠ (lrd cols1 t21_0.toNat).Kind then some (.inl (2 : Int)) else some (.inr ())) else none)) else none).bind fun o'5 => match o'5 with | .inl y'4 => some (.inr (.inl y'4)) | .inr j'2 => some (.inl (w64 (t21_0 + (1 : Int)))) else some (.inr (.inr ())))
noncomputable def g_ref_RowFault (row0 : List GValue) (cols1 : List GColumn) : Option (Int) :=
  (g_ref_ColumnsFault cols1).bind fun r'1 => (if r'1 ≠ (0 : Int) then some r'1 else (if (row0.length : Int) ≠ (cols1.length : Int) then some (1 : Int) else (loopO (g_ref_RowFault_l0 row0 cols1) (0 : Int)).bind fun o'9 => match o'9 with | .inl y'10 => some y'10 | .inr (y'11) => some (0 : Int)))
set_option maxHeartbeats 4000000 in
set_option maxRecDepth 100000 in
theorem g_ref_RowFault_ac {row0 : List GValue} {cols1 : List GColumn} {r : Int} (H : g_ref_RowFault row0 cols1 = some r) : ACp Tryd.prog 17 [((fun q : List GValue => AV.lst (q.flatMap GValue.cs) q.length) row0), ((fun q : List GColumn => AV.lst (q.flatMap GColumn.cs) q.length) cols1)] (AV.int r) := by
 refine ACp_of (AC2_of_body (vs := [.i r]) Tryd.func17 rfl rfl (Nat.le_of_ble_eq_true rfl) rfl ?_) (fun _ => .same _)
 unfold g_ref_RowFault at H
 refine as2 [(0, .p ((fun q : List GValue => AV.lst (q.flatMap GValue.cs) q.length) row0)), (1, .p ((fun q : List GColumn => AV.lst (q.flatMap GColumn.cs) q.length) cols1))] [] rfl rfl rfl ?_
 refine sg [0] rfl ?_
 refine rp rfl rfl (p_asg rfl rfl) ?_
 refine rz [(0, .p ((fun q : List GValue => AV.lst (q.flatMap GValue.cs) q.length) row0)), (1, .p ((fun q : List GColumn => AV.lst (q.flatMap GColumn.cs) q.length) cols1))] [] rfl rfl rfl ?_
 refine AW2_seq ?_
 refine sg [0, 1, 2] rfl ?_
 refine rp rfl rfl (p_move rfl rfl) ?_
 refine bindK H fun r'1 h1 H => ?_
 refine rp rfl rfl (p_callp rfl rfl rfl Tryd.func15 rfl rfl (g_ref_ColumnsFault_ac h1) ⟨rfl, trivial⟩) ?_
 refine rp rfl rfl (p_asg rfl rfl) ?_
 refine rz [(0, .p ((fun q : List GValue => AV.lst (q.flatMap GValue.cs) q.length) row0)), (1, .p ((fun q : List GColumn => AV.lst (q.flatMap GColumn.cs) q.length) cols1)), (5, .i r'1)] [] rfl rfl rfl ?_
 refine sg [0, 1] rfl ?_
 refine rp rfl rfl (p_move rfl rfl) ?_
 refine rp rfl rfl (p_ine rfl rfl rfl) ?_
 refine rz [(0, .p ((fun q : List GValue => AV.lst (q.flatMap GValue.cs) q.length) row0)), (1, .p ((fun q : List GColumn => AV.lst (q.flatMap GColumn.cs) q.length) cols1)), (5, .i r'1), (12, .b (decide (r'1 ≠ (0 : Int))))] [] rfl rfl rfl ?_
 refine AW2_if (p := r'1 ≠ (0 : Int)) rfl (fun h2 => ?_) (fun h2 => ?_)
 ·replace H := ite_then h2 H
  refine sg [0, 1] rfl ?_
  refine rp rfl rfl (p_move rfl rfl) ?_
  refine rp rfl rfl (p_asg rfl rfl) ?_
  refine rz [(4, .i r'1)] [] rfl rfl rfl ?_
  refine AW2_ret ?_
  have hz := some_elim H
  subst hz
  exact ⟨⟨res_tmp (.same _), trivial⟩, trivial⟩
 ·replace H := ite_else h2 H
  refine as2 [(0, .p ((fun q : List GValue => AV.lst (q.flatMap GValue.cs) q.length) row0)), (1, .p ((fun q : List GColumn => AV.lst (q.flatMap GColumn.cs) q.length) cols1))] [] rfl rfl rfl ?_
  refine AW2_skip ?_
  refine AW2_seq ?_
  refine sg [0, 1, 2, 3, 4] rfl ?_
  refine rp rfl rfl (p_move rfl rfl) ?_
  refine rp rfl rfl (p_lenl rfl Tryd.underlying38 rfl rfl) ?_
  refine rp rfl rfl (p_move rfl rfl) ?_
  refine rp rfl rfl (p_lenl rfl Tryd.underlying35 rfl rfl) ?_
  refine rp rfl rfl (p_ine rfl rfl rfl) ?_
  refine rz [(0, .p ((fun q : List GValue => AV.lst (q.flatMap GValue.cs) q.length) row0)), (1, .p ((fun q : List GColumn => AV.lst (q.flatMap GColumn.cs) q.length) cols1)), (18, .b (decide ((row0.length : Int) ≠ (cols1.length : Int))))] [] rfl rfl rfl ?_
  refine AW2_if (p := (row0.length : Int) ≠ (cols1.length : Int)) rfl (fun h3 => ?_) (fun h3 => ?_)
  ·replace H := ite_then h3 H
   refine sg [0] rfl ?_
   refine rp rfl rfl (p_asg rfl rfl) ?_
   refine rz [(4, .i (1 : Int))] [] rfl rfl rfl ?_
   refine AW2_ret ?_
   have hz := some_elim H
   subst hz
   exact ⟨⟨res_tmp (.same _), trivial⟩, trivial⟩
  ·replace H := ite_else h3 H
   refine as2 [(0, .p ((fun q : List GValue => AV.lst (q.flatMap GValue.cs) q.length) row0)), (1, .p ((fun q : List GColumn => AV.lst (q.flatMap GColumn.cs) q.length) cols1))] [] rfl rfl rfl ?_
   refine AW2_skip ?_
   refine AW2_seq ?_
   refine sg [0, 1, 2] rfl ?_
   refine rp rfl rfl (p_move rfl rfl) ?_
   refine rp rfl rfl (p_lenl rfl Tryd.underlying38 rfl rfl) ?_
   refine rp rfl rfl (p_move rfl rfl) ?_
   refine rz [(1, .p ((fun q : List GColumn => AV.lst (q.flatMap GColumn.cs) q.length) cols1)), (19, .p ((fun q : List GValue => AV.lst (q.flatMap GValue.cs) q.length) row0)), (20, .i (row0.length : Int)), (21, .i (0 : Int))] [] rfl rfl rfl ?_
   refine AW2_block ?_
   refine as2 [(1, .p ((fun q : List GColumn => AV.lst (q.flatMap GColumn.cs) q.length) cols1)), (19, .p ((fun q : List GValue => AV.lst (q.flatMap GValue.cs) q.length) row0)), (20, .i (row0.length : Int)), (21, .i (0 : Int))] [] rfl rfl rfl ?_
   refine bindK H fun o'9 h14 H => ?_
   refine AW2_loopO (fun a'6 : Int => (⟨[(1, .p ((fun q : List GColumn => AV.lst (q.flatMap GColumn.cs) q.length) cols1)), (19, .p ((fun q : List GValue => AV.lst (q.flatMap GValue.cs) q.length) row0)), (20, .i (row0.length : Int)), (21, .i a'6)], [], 49⟩ : TS)) (fun (o : Int ⊕ Unit) e s' => match o with | .inl y'7 => e = Go.Exit.ret ∧ ResAll Tryd.prog s' [ResultVar.tmp 4] [.i y'7] ∧ HFits s' [] | .inr (y'8) => e = Go.Exit.exit 0 ∧ s' = (⟨[], [], 49⟩ : TS)) h14 rfl (fun t21_0 x hx => ?_) (fun e s' hs => ?_)
   ·clear H
    have H := hx
    clear hx
    unfold g_ref_RowFault_l0 at H
    refine sg [0] rfl ?_
    refine rp rfl rfl (p_bin rfl rfl rfl rfl) ?_
    refine rz [(1, .p ((fun q : List GColumn => AV.lst (q.flatMap GColumn.cs) q.length) cols1)), (19, .p ((fun q : List GValue => AV.lst (q.flatMap GValue.cs) q.length) row0)), (20, .i (row0.length : Int)), (21, .i t21_0), (22, .b (decide (t21_0 < (row0.length : Int))))] [] rfl rfl rfl ?_
    refine AW2_seq ?_
    refine AW2_if (p := t21_0 < (row0.length : Int)) rfl (fun h4 => ?_) (fun h4 => ?_)
    ·replace H := ite_then h4 H
     refine as2 [(1, .p ((fun q : List GColumn => AV.lst (q.flatMap GColumn.cs) q.length) cols1)), (19, .p ((fun q : List GValue => AV.lst (q.flatMap GValue.cs) q.length) row0)), (20, .i (row0.length : Int)), (21, .i t21_0)] [] rfl rfl rfl ?_
     refine AW2_skip ?_
     refine AW2_seq ?_
     refine bindK H fun o'5 h5 H => ?_
     refine AW2_join (fun j'2 : Unit => (⟨[(1, .p ((fun q : List GColumn => AV.lst (q.flatMap GColumn.cs) q.length) cols1)), (19, .p ((fun q : List GValue => AV.lst (q.flatMap GValue.cs) q.length) row0)), (20, .i (row0.length : Int)), (21, .i t21_0)], [], 49⟩ : TS)) (fun r e s' => e = Go.Exit.ret ∧ ResAll Tryd.prog s' [ResultVar.tmp 4] [.i r] ∧ HFits s' []) (x := o'5) ?_ (fun j'2 hy => ?_) (fun y'4 e s' hy hs => ?_)
     ·clear H
      have H := h5
      clear h5
      refine AW2_block ?_
      refine sg [0, 1, 2, 3, 4, 5] rfl ?_
      refine rp rfl rfl (p_move rfl rfl) ?_
      refine chkK H fun h6 H => ?_
      refine rp rfl rfl (u_ixl rfl rfl Tryd.underlying38 in_29 rfl rfl (ixe h6) (ixn h6) (fne (fun x => (GValue.len x)) (by decide) (ixn h6))) ?_
      refine rp rfl rfl (u_lda rfl rfl Tryd.underlying29 rfl in_29 rfl (Nat.succ_pos _) (Sub.fm default (fun x => (GValue.len x)) (ixn h6)) (GValue.len (lrd row0 t21_0.toNat))) ?_
      refine r_op rfl rfl (MakeD.opD (u_alloc 7 rfl in_29 one_29 zc_29) rfl rfl rfl rfl) ?_
      refine rp rfl rfl (p_asg rfl rfl) ?_
      refine r_op rfl rfl (u_st rfl rfl rfl rfl rfl in_29 (GValue.len (lrd row0 t21_0.toNat)) (ne_of_lt (n := 0) (Nat.lt_of_lt_of_eq (by decide) (Eq.symm (GValue.len GValue.zero)))) (Upd.refl ((GValue.len (lrd row0 t21_0.toNat)).trans (GValue.len GValue.zero).symm))) ?_
      refine rz [(1, .p ((fun q : List GColumn => AV.lst (q.flatMap GColumn.cs) q.length) cols1)), (6, .i t21_0), (7, .q 7 (0)), (19, .p ((fun q : List GValue => AV.lst (q.flatMap GValue.cs) q.length) row0)), (20, .i (row0.length : Int)), (21, .i t21_0)] [(7, .pure (GValue.cs (lrd row0 t21_0.toNat)))] rfl rfl rfl ?_
      refine AW2_seq ?_
      refine sg [0, 1, 2] rfl ?_
      refine rp rfl rfl (u_lda rfl rfl Tryd.underlying29 rfl in_29 rfl (Nat.succ_pos _) (Sub.refl _) (GValue.len (lrd row0 t21_0.toNat))) ?_
      refine bindK H fun r'3 h7 H => ?_
      refine rp rfl rfl (p_callp rfl rfl rfl Tryd.func43 rfl rfl (g_ref_ValueFault_ac h7) ⟨rfl, trivial⟩) ?_
      refine rp rfl rfl (p_asg rfl rfl) ?_
      refine rz [(1, .p ((fun q : List GColumn => AV.lst (q.flatMap GColumn.cs) q.length) cols1)), (6, .i t21_0), (7, .q 7 (0)), (8, .i r'3), (19, .p ((fun q : List GValue => AV.lst (q.flatMap GValue.cs) q.length) row0)), (20, .i (row0.length : Int)), (21, .i t21_0)] [(7, .pure (GValue.cs (lrd row0 t21_0.toNat)))] rfl rfl rfl ?_
      refine sg [0, 1] rfl ?_
      refine rp rfl rfl (p_move rfl rfl) ?_
      refine rp rfl rfl (p_ine rfl rfl rfl) ?_
      refine rz [(1, .p ((fun q : List GColumn => AV.lst (q.flatMap GColumn.cs) q.length) cols1)), (6, .i t21_0), (7, .q 7 (0)), (8, .i r'3), (19, .p ((fun q : List GValue => AV.lst (q.flatMap GValue.cs) q.length) row0)), (20, .i (row0.length : Int)), (21, .i t21_0), (29, .b (decide (r'3 ≠ (0 : Int))))] [(7, .pure (GValue.cs (lrd row0 t21_0.toNat)))] rfl rfl rfl ?_
      refine AW2_if (p := r'3 ≠ (0 : Int)) rfl (fun h8 => ?_) (fun h8 => ?_)
      ·replace H := ite_then h8 H
       refine sg [0, 1] rfl ?_
       refine rp rfl rfl (p_move rfl rfl) ?_
       refine rp rfl rfl (p_asg rfl rfl) ?_
       refine rz [(4, .i r'3)] [] rfl rfl rfl ?_
       refine AW2_ret ?_
       have hz := some_elim H
       subst hz
       exact ⟨rfl, ⟨res_tmp (.same _), trivial⟩, trivial⟩
      ·replace H := ite_else h8 H
       refine as2 [(1, .p ((fun q : List GColumn => AV.lst (q.flatMap GColumn.cs) q.length) cols1)), (6, .i t21_0), (7, .q 7 (0)), (19, .p ((fun q : List GValue => AV.lst (q.flatMap GValue.cs) q.length) row0)), (20, .i (row0.length : Int)), (21, .i t21_0)] [(7, .pure (GValue.cs (lrd row0 t21_0.toNat)))] rfl rfl rfl ?_
       refine AW2_skip ?_
       refine sg [0, 1, 2] rfl ?_
       refine rp rfl rfl (u_fa rfl rfl Tryd.underlying29 rfl in_3 (Nat.succ_ne_zero _) rfl rfl (ne_of_lt (n := 0) (Nat.lt_of_lt_of_eq (by decide) (Eq.symm (GValue.len (lrd row0 t21_0.toNat)))))) ?_
       refine rp rfl rfl (u_ld rfl rfl Tryd.underlying3 rfl rfl ((Sub.refl _).trans (GValue.sub0 (lrd row0 t21_0.toNat)))) ?_
       refine rp rfl rfl (p_ieq rfl rfl rfl) ?_
       refine rz [(1, .p ((fun q : List GColumn => AV.lst (q.flatMap GColumn.cs) q.length) cols1)), (6, .i t21_0), (7, .q 7 (0)), (19, .p ((fun q : List GValue => AV.lst (q.flatMap GValue.cs) q.length) row0)), (20, .i (row0.length : Int)), (21, .i t21_0), (33, .b (decide ((lrd row0 t21_0.toNat).Kind = (0 : Int))))] [(7, .pure (GValue.cs (lrd row0 t21_0.toNat)))] rfl rfl rfl ?_
       refine AW2_if (p := (lrd row0 t21_0.toNat).Kind = (0 : Int)) rfl (fun h9 => ?_) (fun h9 => ?_)
       ·replace H := ite_then h9 H
        refine sg [0, 1, 2, 3, 4, 5] rfl ?_
        refine rp rfl rfl (p_move rfl rfl) ?_
        refine rp rfl rfl (p_move rfl rfl) ?_
        refine chkK H fun h10 H => ?_
        refine rp rfl rfl (u_ixl rfl rfl Tryd.underlying35 in_68 rfl rfl (ixe h10) (ixn h10) (fne (fun x => (GColumn.len x)) (by decide) (ixn h10))) ?_
        refine rp rfl rfl (u_far rfl rfl Tryd.underlying68 rfl in_4 (Nat.succ_ne_zero _) rfl) ?_
        refine rp rfl rfl (u_ld rfl rfl Tryd.underlying4 rfl rfl ((Sub.fm default (fun x => (GColumn.len x)) (ixn h10)).trans (GColumn.sub2 (lrd cols1 t21_0.toNat)))) ?_
        refine rp rfl rfl (p_not rfl rfl) ?_
        refine rz [(1, .p ((fun q : List GColumn => AV.lst (q.flatMap GColumn.cs) q.length) cols1)), (19, .p ((fun q : List GValue => AV.lst (q.flatMap GValue.cs) q.length) row0)), (20, .i (row0.length : Int)), (21, .i t21_0), (39, .b (!((lrd cols1 t21_0.toNat).Null)))] [] rfl rfl rfl ?_
        refine AW2_cond rfl (fun h11 => ?_) (fun h11 => ?_)
        ·replace H := ite_then h11 H
         refine sg [0] rfl ?_
         refine rp rfl rfl (p_asg rfl rfl) ?_
         refine rz [(4, .i (12 : Int))] [] rfl rfl rfl ?_
         refine AW2_ret ?_
         have hz := some_elim H
         subst hz
         exact ⟨rfl, ⟨res_tmp (.same _), trivial⟩, trivial⟩
        ·replace H := ite_else (ne_true h11) H
         refine as2 [(1, .p ((fun q : List GColumn => AV.lst (q.flatMap GColumn.cs) q.length) cols1)), (19, .p ((fun q : List GValue => AV.lst (q.flatMap GValue.cs) q.length) row0)), (20, .i (row0.length : Int)), (21, .i t21_0)] [] rfl rfl rfl ?_
         refine AW2_skip ?_
         have hz := some_elim H
         subst hz
         exact ⟨rfl, rfl⟩
       ·replace H := ite_else h9 H
        refine AW2_seq ?_
        refine chkK H fun h12 H => ?_
        refine AW2_ghoQ ?_
        refine AW2_draw 7 [7] (fun k => ([.q 7 (0 + 0), .i ((lrd row0 t21_0.toNat).Kind), .p ((fun q : List GColumn => AV.lst (q.flatMap GColumn.cs) q.length) cols1), .i t21_0, .p (.rptr (cols1.flatMap GColumn.cs) (t21_0.toNat * 3)), .p (.rptr (cols1.flatMap GColumn.cs) (t21_0.toNat * 3 + 1)), .i ((lrd cols1 t21_0.toNat).Kind)] : List TV).getD k TV.any) (fun k => g_ref_RowFault_r15.getD k []) [(1, none), (19, none), (20, none), (21, none), (41, some 1), (46, some 6)] [] (fun k => g_ref_RowFault_r15c.getD k []) mixed (by kernel_rfl) rfl rfl (a_op (g_x rfl (x_p rfl (u_fa rfl rfl Tryd.underlying29 rfl in_3 (Nat.succ_ne_zero _) rfl rfl (ne_of_lt (n := 0) (Nat.lt_of_lt_of_eq (by decide) (Eq.symm (GValue.len (lrd row0 t21_0.toNat)))))) rfl)) (a_op (g_x rfl (x_p rfl (u_ld rfl rfl Tryd.underlying3 rfl rfl ((Sub.refl _).trans (GValue.sub0 (lrd row0 t21_0.toNat)))) rfl)) (a_op (g_x rfl (x_p rfl (p_move rfl rfl) rfl)) (a_op (g_x rfl (x_p rfl (p_move rfl rfl) rfl)) (a_op (g_x rfl (x_p rfl (u_ixl rfl rfl Tryd.underlying35 in_68 rfl rfl (ixe h12) (ixn h12) (fne (fun x => (GColumn.len x)) (by decide) (ixn h12))) rfl)) (a_op (g_x rfl (x_p rfl (u_far rfl rfl Tryd.underlying68 rfl in_3 (Nat.succ_ne_zero _) rfl) rfl)) (a_op (g_x rfl (x_p rfl (u_ld rfl rfl Tryd.underlying3 rfl rfl ((Sub.fm default (fun x => (GColumn.len x)) (ixn h12)).trans (GColumn.sub1 (lrd cols1 t21_0.toNat)))) rfl)) (a_nil)))))))) ?_
        refine t_op rfl rfl (PureD.opD (p_ine rfl rfl rfl)) ?_
        refine t_gho (Gho_st (L := [(1, .p ((fun q : List GColumn => AV.lst (q.flatMap GColumn.cs) q.length) cols1)), (19, .p ((fun q : List GValue => AV.lst (q.flatMap GValue.cs) q.length) row0)), (20, .i (row0.length : Int)), (21, .i t21_0), (47, .b (decide ((lrd row0 t21_0.toNat).Kind ≠ (lrd cols1 t21_0.toNat).Kind)))]) (H := []) (N := 49) rfl ⟨TLes.same _, TLes.same _, TLes.same _, TLes.same _, TLes.same _, trivial⟩ trivial) ?_
        refine AW2_if (p := (lrd row0 t21_0.toNat).Kind ≠ (lrd cols1 t21_0.toNat).Kind) rfl (fun h13 => ?_) (fun h13 => ?_)
        ·replace H := ite_then h13 H
         refine sg [0] rfl ?_
         refine rp rfl rfl (p_asg rfl rfl) ?_
         refine rz [(4, .i (2 : Int))] [] rfl rfl rfl ?_
         refine AW2_ret ?_
         have hz := some_elim H
         subst hz
         exact ⟨rfl, ⟨res_tmp (.same _), trivial⟩, trivial⟩
        ·replace H := ite_else h13 H
         refine as2 [(1, .p ((fun q : List GColumn => AV.lst (q.flatMap GColumn.cs) q.length) cols1)), (19, .p ((fun q : List GValue => AV.lst (q.flatMap GValue.cs) q.length) row0)), (20, .i (row0.length : Int)), (21, .i t21_0)] [] rfl rfl rfl ?_
         refine AW2_skip ?_
         have hz := some_elim H
         subst hz
         exact ⟨rfl, rfl⟩
     ·subst hy
      refine AW2_reg [0, 1] rfl ?_
      refine rp rfl rfl (p_bin rfl rfl rfl rfl) ?_
      refine rp rfl rfl (p_move rfl rfl) ?_
      refine rz [(1, .p ((fun q : List GColumn => AV.lst (q.flatMap GColumn.cs) q.length) cols1)), (19, .p ((fun q : List GValue => AV.lst (q.flatMap GValue.cs) q.length) row0)), (20, .i (row0.length : Int)), (21, .i (w64 (t21_0 + (1 : Int))))] [] rfl rfl rfl ?_
      have hz := some_elim H
      subst hz
      exact ⟨rfl, rfl⟩
     ·subst hy
      obtain ⟨rfl, hs⟩ := hs
      have hz := some_elim H
      subst hz
      exact ⟨rfl, hs.1, hs.2⟩
    ·replace H := ite_else h4 H
     refine as2 [] [] rfl rfl rfl ?_
     refine AW2_exit ?_
     refine thenQ2_exit ?_
     have hz := some_elim H
     subst hz
     exact ⟨rfl, rfl⟩
   ·rcases o'9 with y'10 | y'11
    ·obtain ⟨rfl, hs⟩ := hs
     refine ⟨by simp, ?_⟩
     have hz := some_elim H
     subst hz
     exact ⟨hs.1, hs.2⟩
    ·obtain ⟨rfl, rfl⟩ := hs
     refine ⟨by simp, ?_⟩
     refine blockQ2_exit ?_
     refine sg [0] rfl ?_
     refine rp rfl rfl (p_asg rfl rfl) ?_
     refine rz [(4, .i (0 : Int))] [] rfl rfl rfl ?_
     refine AW2_ret ?_
     have hz := some_elim H
     subst hz
     exact ⟨⟨res_tmp (.same _), trivial⟩, trivial⟩

/-! chirographref.keysFault -/
noncomputable def g_ref_keysFault_l1 (d0 : Vector GCell 4) (t9_0 : Int) (seen3_0 : List Int) : Int → Option (Int ⊕ (Int ⊕ Unit))
  | t17_1 => (if t17_1 < (seen3_0.length : Int) then if 0 ≤ t17_1 ∧ t17_1 < (seen3_0.length : Int) then if 0 < ((vrd d0 t9_0.toNat).Row).length then (if (lrd seen3_0 t17_1.toNat) = (lrd ((vrd d0 t9_0.toNat).Row) 0).Int_ then some (.inr (.inl (8 : Int))) else some (.inl (w64 (t17_1 + (1 : Int))))) else none else none else some (.inr (.inr ())))
noncomputable def g_ref_keysFault_l0 (d0 : Vector GCell 4) : Int × (List Int) → Option ((Int × (List Int)) ⊕ (Int ⊕ Unit))
  | (t9_0, seen3_0) => (if t9_0 < (4 : Int) then (show Option (Int ⊕ ((List Int))) from if 0 ≤ t9_0 ∧ t9_0 < (4 : Int) then (if (!((vrd d0 t9_0.toNat).Full)) = true then some (.inr seen3_0) else (loopO (g_ref_keysFault_l1 d0 t9_0 seen3_0) (0 : Int)).bind fun o'5 => match o'5 with | .inl y'6 => some (.inl y'6) | .inr (y'7) => if 0 < ((vrd d0 t9_0.toNat).Row).length then if room (seen3_0.length + ([(lrd ((vrd d0 t9_0.toNat).Row) 0).Int_] : List Int).length) 8 then some (.inr (seen3_0 ++ ([(lrd ((vrd d0 t9_0.toNat).Row) 0).Int_] : List Int))) else none else none) else none).bind fun o'9 => match o'9 with | .inl y'8 => some (.inr (.inl y'8)) | .inr j'1 => some (.inl (w64 (t9_0 + (1 : Int)), j'1)) else some (.inr (.inr ())))
noncomputable def g_ref_keysFault (d0 : Vector GCell 4) : Option (Int) :=
  (loopO (g_ref_keysFault_l0 d0) ((0 : Int), ([] : List Int))).bind fun o'13 => match o'13 with | .inl y'14 => some y'14 | .inr (y'15) => some (0 : Int)
set_option maxHeartbeats 4000000 in
set_option maxRecDepth 100000 in
theorem g_ref_keysFault_ac {d0 : Vector GCell 4} {r : Int} (H : g_ref_keysFault d0 = some r) : ACp Tryd.prog 45 [(.agg (d0.toList.flatMap GCell.cs))] (AV.int r) := by
 refine ACp_of (AC2_of_body (vs := [.i r]) Tryd.func45 rfl rfl (Nat.le_of_ble_eq_true rfl) rfl ?_) (fun _ => .same _)
 unfold g_ref_keysFault at H
 refine as2 [(0, .g (d0.toList.flatMap GCell.cs))] [] rfl rfl rfl ?_
 refine sg [0, 1] rfl ?_
 refine r_op rfl rfl (MakeD.opD (n_box 1 rfl rfl) rfl rfl rfl rfl) ?_
 refine rp rfl rfl (p_asg rfl rfl) ?_
 refine rz [(1, .q 1 (0))] [(1, .pure (d0.toList.flatMap GCell.cs))] rfl rfl rfl ?_
 refine sg [0] rfl ?_
 refine rp rfl rfl (p_asgn rfl) ?_
 refine rz [(1, .q 1 (0)), (3, .p .nil)] [(1, .pure (d0.toList.flatMap GCell.cs))] rfl rfl rfl ?_
 refine AW2_seq ?_
 refine sg [0, 1] rfl ?_
 refine rp rfl rfl (u_lda rfl rfl Tryd.underlying43 rfl in_43 rfl (Nat.succ_pos _) (Sub.refl _) (vfm_len (fun x => (GCell.len x)) d0)) ?_
 refine rp rfl rfl (p_move rfl rfl) ?_
 refine rz [(3, .p .nil), (8, .g (d0.toList.flatMap GCell.cs)), (9, .i (0 : Int))] [] rfl rfl rfl ?_
 refine AW2_block ?_
 refine as2 [(3, .p .nil), (8, .g (d0.toList.flatMap GCell.cs)), (9, .i (0 : Int))] [] rfl rfl rfl ?_
 refine AW2_gho (Gho_own (d := 3) (b := 3) (z := 1) rfl rfl rfl rfl) ?_
 refine AW2_st [(3, .c (.own 3 ([] : List Int).length 1)), (8, .g (d0.toList.flatMap GCell.cs)), (9, .i (0 : Int))] [(3, .pure (([] : List Int).map AV.int))] rfl ⟨TLes.own rfl, TLes.same _, TLes.same _, trivial⟩ ⟨rfl, trivial⟩ ?_
 refine bindK H fun o'13 h12 H => ?_
 refine AW2_loopO (fun a'10 : Int × (List Int) => (⟨[(3, .c (.own 3 a'10.2.length 1)), (8, .g (d0.toList.flatMap GCell.cs)), (9, .i a'10.1)], [(3, .pure (a'10.2.map AV.int))], 38⟩ : TS)) (fun (o : Int ⊕ Unit) e s' => match o with | .inl y'11 => e = Go.Exit.ret ∧ ResAll Tryd.prog s' [ResultVar.tmp 2] [.i y'11] ∧ HFits s' [] | .inr (y'12) => e = Go.Exit.exit 0 ∧ s' = (⟨[], [], 38⟩ : TS)) h12 rfl (fun a x hx => ?_) (fun e s' hs => ?_)
 ·clear H
  obtain ⟨t9_0, seen3_0⟩ := a
  have H := hx
  clear hx
  unfold g_ref_keysFault_l0 at H
  refine sg [0] rfl ?_
  refine rp rfl rfl (p_bin rfl rfl rfl rfl) ?_
  refine rz [(3, .c (.own 3 seen3_0.length 1)), (8, .g (d0.toList.flatMap GCell.cs)), (9, .i t9_0), (10, .b (decide (t9_0 < (4 : Int))))] [(3, .pure (seen3_0.map AV.int))] rfl rfl rfl ?_
  refine AW2_seq ?_
  refine AW2_if (p := t9_0 < (4 : Int)) rfl (fun h1 => ?_) (fun h1 => ?_)
  ·replace H := ite_then h1 H
   refine as2 [(3, .c (.own 3 seen3_0.length 1)), (8, .g (d0.toList.flatMap GCell.cs)), (9, .i t9_0)] [(3, .pure (seen3_0.map AV.int))] rfl rfl rfl ?_
   refine AW2_skip ?_
   refine AW2_seq ?_
   refine bindK H fun o'9 h2 H => ?_
   refine AW2_join (fun j'1 : (List Int) => (⟨[(3, .c (.own 3 j'1.length 1)), (8, .g (d0.toList.flatMap GCell.cs)), (9, .i t9_0)], [(3, .pure (j'1.map AV.int))], 38⟩ : TS)) (fun r e s' => e = Go.Exit.ret ∧ ResAll Tryd.prog s' [ResultVar.tmp 2] [.i r] ∧ HFits s' []) (x := o'9) ?_ (fun j'1 hy => ?_) (fun y'8 e s' hy hs => ?_)
   ·clear H
    have H := h2
    clear h2
    refine AW2_block ?_
    refine sg [0, 1, 2] rfl ?_
    refine chkK H fun h3 H => ?_
    refine rp rfl rfl (u_ixaa rfl rfl Tryd.underlying43 in_42 Tryd.underlying42 rfl rfl rfl (ixe h3) (ixn h3) (Sub.vfm (fun x => (GCell.len x)) (ixn h3)) (GCell.len (vrd d0 t9_0.toNat))) ?_
    refine r_op rfl rfl (MakeD.opD (u_alloc 5 rfl in_42 one_42 zc_42) rfl rfl rfl rfl) ?_
    refine r_op rfl rfl (u_st rfl rfl rfl rfl rfl in_42 (GCell.len (vrd d0 t9_0.toNat)) (ne_of_lt (n := 0) (Nat.lt_of_lt_of_eq (by decide) (Eq.symm (GCell.len GCell.zero)))) (Upd.refl ((GCell.len (vrd d0 t9_0.toNat)).trans (GCell.len GCell.zero).symm))) ?_
    refine rz [(3, .c (.own 3 seen3_0.length 1)), (5, .q 5 (0)), (8, .g (d0.toList.flatMap GCell.cs)), (9, .i t9_0)] [(3, .pure (seen3_0.map AV.int)), (5, .pure (GCell.cs (vrd d0 t9_0.toNat)))] rfl rfl rfl ?_
    refine AW2_seq ?_
    refine sg [0, 1, 2] rfl ?_
    refine rp rfl rfl (u_fa rfl rfl Tryd.underlying42 rfl in_4 (Nat.succ_ne_zero _) rfl rfl (ne_of_lt (n := 0) (Nat.lt_of_lt_of_eq (by decide) (Eq.symm (GCell.len (vrd d0 t9_0.toNat)))))) ?_
    refine rp rfl rfl (u_ld rfl rfl Tryd.underlying4 rfl rfl ((Sub.refl _).trans (GCell.sub0 (vrd d0 t9_0.toNat)))) ?_
    refine rp rfl rfl (p_not rfl rfl) ?_
    refine rz [(3, .c (.own 3 seen3_0.length 1)), (5, .q 5 (0)), (8, .g (d0.toList.flatMap GCell.cs)), (9, .i t9_0), (14, .b (!((vrd d0 t9_0.toNat).Full)))] [(3, .pure (seen3_0.map AV.int)), (5, .pure (GCell.cs (vrd d0 t9_0.toNat)))] rfl rfl rfl ?_
    refine AW2_cond rfl (fun h4 => ?_) (fun h4 => ?_)
    ·replace H := ite_then h4 H
     refine as2 [(3, .c (.own 3 seen3_0.length 1)), (8, .g (d0.toList.flatMap GCell.cs)), (9, .i t9_0)] [(3, .pure (seen3_0.map AV.int))] rfl rfl rfl ?_
     refine AW2_exit ?_
     refine thenQ2_exit ?_
     refine blockQ2_exit ?_
     have hz := some_elim H
     subst hz
     exact ⟨rfl, rfl⟩
    ·replace H := ite_else (ne_true h4) H
     refine as2 [(3, .c (.own 3 seen3_0.length 1)), (5, .q 5 (0)), (8, .g (d0.toList.flatMap GCell.cs)), (9, .i t9_0)] [(3, .pure (seen3_0.map AV.int)), (5, .pure (GCell.cs (vrd d0 t9_0.toNat)))] rfl rfl rfl ?_
     refine AW2_skip ?_
     refine AW2_seq ?_
     refine sg [0, 1, 2] rfl ?_
     refine rp rfl rfl (p_move rfl rfl) ?_
     refine rp rfl rfl (p_leno rfl Tryd.underlying88 rfl rfl rfl (ml AV.int seen3_0) (by decide)) ?_
     refine rp rfl rfl (p_move rfl rfl) ?_
     refine rz [(3, .c (.own 3 seen3_0.length 1)), (5, .q 5 (0)), (8, .g (d0.toList.flatMap GCell.cs)), (9, .i t9_0), (15, .c (.own 3 seen3_0.length 1)), (16, .i (seen3_0.length : Int)), (17, .i (0 : Int))] [(3, .pure (seen3_0.map AV.int)), (5, .pure (GCell.cs (vrd d0 t9_0.toNat)))] rfl rfl rfl ?_
     refine AW2_block ?_
     refine as2 [(3, .c (.own 3 seen3_0.length 1)), (5, .q 5 (0)), (8, .g (d0.toList.flatMap GCell.cs)), (9, .i t9_0), (15, .c (.own 3 seen3_0.length 1)), (16, .i (seen3_0.length : Int)), (17, .i (0 : Int))] [(3, .pure (seen3_0.map AV.int)), (5, .pure (GCell.cs (vrd d0 t9_0.toNat)))] rfl rfl rfl ?_
     refine bindK H fun o'5 h9 H => ?_
     refine AW2_loopO (fun a'2 : Int => (⟨[(3, .c (.own 3 seen3_0.length 1)), (5, .q 5 (0)), (8, .g (d0.toList.flatMap GCell.cs)), (9, .i t9_0), (15, .c (.own 3 seen3_0.length 1)), (16, .i (seen3_0.length : Int)), (17, .i a'2)], [(3, .pure (seen3_0.map AV.int)), (5, .pure (GCell.cs (vrd d0 t9_0.toNat)))], 38⟩ : TS)) (fun (o : Int ⊕ Unit) e s' => match o with | .inl y'3 => e = Go.Exit.ret ∧ ResAll Tryd.prog s' [ResultVar.tmp 2] [.i y'3] ∧ HFits s' [] | .inr (y'4) => e = Go.Exit.exit 2 ∧ s' = (⟨[(3, .c (.own 3 seen3_0.length 1)), (5, .q 5 (0)), (8, .g (d0.toList.flatMap GCell.cs)), (9, .i t9_0)], [(3, .pure (seen3_0.map AV.int)), (5, .pure (GCell.cs (vrd d0 t9_0.toNat)))], 38⟩ : TS)) h9 rfl (fun t17_1 x hx => ?_) (fun e s' hs => ?_)
     ·clear H
      have H := hx
      clear hx
      unfold g_ref_keysFault_l1 at H
      refine sg [0] rfl ?_
      refine rp rfl rfl (p_bin rfl rfl rfl rfl) ?_
      refine rz [(3, .c (.own 3 seen3_0.length 1)), (5, .q 5 (0)), (8, .g (d0.toList.flatMap GCell.cs)), (9, .i t9_0), (15, .c (.own 3 seen3_0.length 1)), (16, .i (seen3_0.length : Int)), (17, .i t17_1), (18, .b (decide (t17_1 < (seen3_0.length : Int))))] [(3, .pure (seen3_0.map AV.int)), (5, .pure (GCell.cs (vrd d0 t9_0.toNat)))] rfl rfl rfl ?_
      refine AW2_seq ?_
      refine AW2_if (p := t17_1 < (seen3_0.length : Int)) rfl (fun h5 => ?_) (fun h5 => ?_)
      ·replace H := ite_then h5 H
       refine as2 [(3, .c (.own 3 seen3_0.length 1)), (5, .q 5 (0)), (8, .g (d0.toList.flatMap GCell.cs)), (9, .i t9_0), (15, .c (.own 3 seen3_0.length 1)), (16, .i (seen3_0.length : Int)), (17, .i t17_1)] [(3, .pure (seen3_0.map AV.int)), (5, .pure (GCell.cs (vrd d0 t9_0.toNat)))] rfl rfl rfl ?_
       refine AW2_skip ?_
       refine AW2_seq ?_
       refine AW2_block ?_
       refine sg [0, 1, 2] rfl ?_
       refine chkK H fun h6 H => ?_
       refine rp rfl rfl (u_ixo rfl rfl Tryd.underlying88 in_3 rfl rfl (lne (ixn h6)) rfl (ixe h6) (ixn h6)) ?_
       refine rp rfl rfl (u_ld rfl rfl Tryd.underlying3 rfl rfl ((Sub.refl _).trans (Sub.map default (ixn h6)))) ?_
       refine rp rfl rfl (p_asg rfl rfl) ?_
       refine rz [(3, .c (.own 3 seen3_0.length 1)), (5, .q 5 (0)), (7, .i (lrd seen3_0 t17_1.toNat)), (8, .g (d0.toList.flatMap GCell.cs)), (9, .i t9_0), (15, .c (.own 3 seen3_0.length 1)), (16, .i (seen3_0.length : Int)), (17, .i t17_1)] [(3, .pure (seen3_0.map AV.int)), (5, .pure (GCell.cs (vrd d0 t9_0.toNat)))] rfl rfl rfl ?_
       refine sg [0, 1, 2, 3, 4, 5, 6] rfl ?_
       refine rp rfl rfl (p_move rfl rfl) ?_
       refine rp rfl rfl (u_fa rfl rfl Tryd.underlying42 rfl in_38 (Nat.succ_ne_zero _) rfl rfl (ne_of_lt (n := 0) (Nat.lt_of_lt_of_eq (by decide) (Eq.symm (GCell.len (vrd d0 t9_0.toNat)))))) ?_
       refine rp rfl rfl (u_ld rfl rfl Tryd.underlying38 rfl rfl ((Sub.refl _).trans (GCell.sub1 (vrd d0 t9_0.toNat)))) ?_
       refine chkK H fun h7 H => ?_
       refine rp rfl rfl (u_ixl rfl rfl Tryd.underlying38 in_29 rfl rfl rfl h7 (fne (fun x => (GValue.len x)) (by decide) h7)) ?_
       refine rp rfl rfl (u_far rfl rfl Tryd.underlying29 rfl in_3 (Nat.succ_ne_zero _) rfl) ?_
       refine rp rfl rfl (u_ld rfl rfl Tryd.underlying3 rfl rfl ((Sub.fm default (fun x => (GValue.len x)) h7).trans (GValue.sub1 (lrd ((vrd d0 t9_0.toNat).Row) 0)))) ?_
       refine rp rfl rfl (p_ieq rfl rfl rfl) ?_
       refine rz [(3, .c (.own 3 seen3_0.length 1)), (5, .q 5 (0)), (8, .g (d0.toList.flatMap GCell.cs)), (9, .i t9_0), (15, .c (.own 3 seen3_0.length 1)), (16, .i (seen3_0.length : Int)), (17, .i t17_1), (27, .b (decide ((lrd seen3_0 t17_1.toNat) = (lrd ((vrd d0 t9_0.toNat).Row) 0).Int_)))] [(3, .pure (seen3_0.map AV.int)), (5, .pure (GCell.cs (vrd d0 t9_0.toNat)))] rfl rfl rfl ?_
       refine AW2_if (p := (lrd seen3_0 t17_1.toNat) = (lrd ((vrd d0 t9_0.toNat).Row) 0).Int_) rfl (fun h8 => ?_) (fun h8 => ?_)
       ·replace H := ite_then h8 H
        refine sg [0] rfl ?_
        refine rp rfl rfl (p_asg rfl rfl) ?_
        refine rz [(2, .i (8 : Int))] [] rfl rfl rfl ?_
        refine AW2_ret ?_
        have hz := some_elim H
        subst hz
        exact ⟨rfl, ⟨res_tmp (.same _), trivial⟩, trivial⟩
       ·replace H := ite_else h8 H
        refine as2 [(3, .c (.own 3 seen3_0.length 1)), (5, .q 5 (0)), (8, .g (d0.toList.flatMap GCell.cs)), (9, .i t9_0), (15, .c (.own 3 seen3_0.length 1)), (16, .i (seen3_0.length : Int)), (17, .i t17_1)] [(3, .pure (seen3_0.map AV.int)), (5, .pure (GCell.cs (vrd d0 t9_0.toNat)))] rfl rfl rfl ?_
        refine AW2_skip ?_
        refine AW2_reg [0, 1] rfl ?_
        refine rp rfl rfl (p_bin rfl rfl rfl rfl) ?_
        refine rp rfl rfl (p_move rfl rfl) ?_
        refine rz [(3, .c (.own 3 seen3_0.length 1)), (5, .q 5 (0)), (8, .g (d0.toList.flatMap GCell.cs)), (9, .i t9_0), (15, .c (.own 3 seen3_0.length 1)), (16, .i (seen3_0.length : Int)), (17, .i (w64 (t17_1 + (1 : Int))))] [(3, .pure (seen3_0.map AV.int)), (5, .pure (GCell.cs (vrd d0 t9_0.toNat)))] rfl rfl rfl ?_
        have hz := some_elim H
        subst hz
        exact ⟨rfl, rfl⟩
      ·replace H := ite_else h5 H
       refine as2 [(3, .c (.own 3 seen3_0.length 1)), (5, .q 5 (0)), (8, .g (d0.toList.flatMap GCell.cs)), (9, .i t9_0)] [(3, .pure (seen3_0.map AV.int)), (5, .pure (GCell.cs (vrd d0 t9_0.toNat)))] rfl rfl rfl ?_
       refine AW2_exit ?_
       refine thenQ2_exit ?_
       have hz := some_elim H
       subst hz
       exact ⟨rfl, rfl⟩
     ·rcases o'5 with y'6 | y'7
      ·obtain ⟨rfl, hs⟩ := hs
       refine ⟨by simp, ?_⟩
       have hz := some_elim H
       subst hz
       exact ⟨rfl, hs.1, hs.2⟩
      ·obtain ⟨rfl, rfl⟩ := hs
       refine ⟨by simp, ?_⟩
       refine blockQ2_exit ?_
       refine AW2_reg [0, 1, 2, 3, 4, 5, 6, 7, 8] rfl ?_
       refine rp rfl rfl (p_move rfl rfl) ?_
       refine rp rfl rfl (u_fa rfl rfl Tryd.underlying42 rfl in_38 (Nat.succ_ne_zero _) rfl rfl (ne_of_lt (n := 0) (Nat.lt_of_lt_of_eq (by decide) (Eq.symm (GCell.len (vrd d0 t9_0.toNat)))))) ?_
       refine rp rfl rfl (u_ld rfl rfl Tryd.underlying38 rfl rfl ((Sub.refl _).trans (GCell.sub1 (vrd d0 t9_0.toNat)))) ?_
       refine chkK H fun h10 H => ?_
       refine rp rfl rfl (u_ixl rfl rfl Tryd.underlying38 in_29 rfl rfl rfl h10 (fne (fun x => (GValue.len x)) (by decide) h10)) ?_
       refine rp rfl rfl (u_far rfl rfl Tryd.underlying29 rfl in_3 (Nat.succ_ne_zero _) rfl) ?_
       refine rp rfl rfl (u_ld rfl rfl Tryd.underlying3 rfl rfl ((Sub.fm default (fun x => (GValue.len x)) h10).trans (GValue.sub1 (lrd ((vrd d0 t9_0.toNat).Row) 0)))) ?_
       refine r_op rfl rfl (MakeD.opD (u_bs 35 rfl Tryd.underlying88 in_3 rfl one_3 (by decide) (by decide) rfl rfl rfl) rfl rfl rfl rfl) ?_
       refine chkK H fun h11 H => ?_
       refine r_op rfl rfl (u_app [3, 29] rfl rfl rfl rfl Tryd.underlying88 Tryd.underlying88 in_3 rfl rfl rfl (ml AV.int seen3_0) (by decide) (srcT_o rfl rfl (ml AV.int ([(lrd ((vrd d0 t9_0.toNat).Row) 0).Int_] : List Int)) (by decide)) (ml AV.int ([(lrd ((vrd d0 t9_0.toNat).Row) 0).Int_] : List Int)) h11 (by decide) rfl rfl (mapp AV.int seen3_0 ([(lrd ((vrd d0 t9_0.toNat).Row) 0).Int_] : List Int)) (lapp seen3_0 ([(lrd ((vrd d0 t9_0.toNat).Row) 0).Int_] : List Int))) ?_
       refine rp rfl rfl (p_asg rfl rfl) ?_
       refine rz [(3, .c (.own 3 (seen3_0 ++ ([(lrd ((vrd d0 t9_0.toNat).Row) 0).Int_] : List Int)).length 1)), (8, .g (d0.toList.flatMap GCell.cs)), (9, .i t9_0)] [(3, .pure ((seen3_0 ++ ([(lrd ((vrd d0 t9_0.toNat).Row) 0).Int_] : List Int)).map AV.int))] rfl rfl rfl ?_
       have hz := some_elim H
       subst hz
       exact ⟨rfl, rfl⟩
   ·subst hy
    refine AW2_reg [0, 1] rfl ?_
    refine rp rfl rfl (p_bin rfl rfl rfl rfl) ?_
    refine rp rfl rfl (p_move rfl rfl) ?_
    refine rz [(3, .c (.own 3 j'1.length 1)), (8, .g (d0.toList.flatMap GCell.cs)), (9, .i (w64 (t9_0 + (1 : Int))))] [(3, .pure (j'1.map AV.int))] rfl rfl rfl ?_
    have hz := some_elim H
    subst hz
    exact ⟨rfl, rfl⟩
   ·subst hy
    obtain ⟨rfl, hs⟩ := hs
    have hz := some_elim H
    subst hz
    exact ⟨rfl, hs.1, hs.2⟩
  ·replace H := ite_else h1 H
   refine as2 [] [] rfl rfl rfl ?_
   refine AW2_exit ?_
   refine thenQ2_exit ?_
   have hz := some_elim H
   subst hz
   exact ⟨rfl, rfl⟩
 ·rcases o'13 with y'14 | y'15
  ·obtain ⟨rfl, hs⟩ := hs
   refine ⟨by simp, ?_⟩
   have hz := some_elim H
   subst hz
   exact ⟨hs.1, hs.2⟩
  ·obtain ⟨rfl, rfl⟩ := hs
   refine ⟨by simp, ?_⟩
   refine blockQ2_exit ?_
   refine sg [0] rfl ?_
   refine rp rfl rfl (p_asg rfl rfl) ?_
   refine rz [(2, .i (0 : Int))] [] rfl rfl rfl ?_
   refine AW2_ret ?_
   have hz := some_elim H
   subst hz
   exact ⟨⟨res_tmp (.same _), trivial⟩, trivial⟩

/-! chirographref.TableFault -/
noncomputable def g_ref_TableFault_l1 (t0 : GTable) (t52_0 : Int) : Int → Option (Int ⊕ (Int ⊕ Unit))
  | t56_1 => (if t56_1 < (4 : Int) then (show Option (Int ⊕ Unit) from if 0 ≤ t56_1 ∧ t56_1 < (4 : Int) then (if ((vrd (vrd t0.Drawers t52_0.toNat) t56_1.toNat).Full) = true then (g_ref_RowFault ((vrd (vrd t0.Drawers t52_0.toNat) t56_1.toNat).Row) t0.Cols).bind fun r'5 => (if r'5 ≠ (0 : Int) then some (.inl r'5) else some (.inr ())) else (if (((vrd (vrd t0.Drawers t52_0.toNat) t56_1.toNat).Row).length : Int) ≠ (0 : Int) then some (.inl (3 : Int)) else some (.inr ()))) else none).bind fun o'7 => match o'7 with | .inl y'6 => some (.inr (.inl y'6)) | .inr j'4 => some (.inl (w64 (t56_1 + (1 : Int)))) else some (.inr (.inr ())))
noncomputable def g_ref_TableFault_l0 (t0 : GTable) : Int → Option (Int ⊕ (Int ⊕ Unit))
  | t52_0 => (if t52_0 < (2 : Int) then if 0 ≤ t52_0 ∧ t52_0 < (2 : Int) then (loopO (g_ref_TableFault_l1 t0 t52_0) (0 : Int)).bind fun o'11 => match o'11 with | .inl y'12 => some (.inr (.inl y'12)) | .inr (y'13) => (g_ref_keysFault (vrd t0.Drawers t52_0.toNat)).bind fun r'14 => (if r'14 ≠ (0 : Int) then some (.inr (.inl r'14)) else some (.inl (w64 (t52_0 + (1 : Int))))) else none else some (.inr (.inr ())))
noncomputable def g_ref_TableFault (t0 : GTable) : Option (Int) :=
  (if (!t0.There) = true then some (5 : Int) else (g_ref_isName t0.Name).bind fun r'1 => (if ((!r'1) = true) ∨ ((t0.Name.length : Int) > (8 : Int)) then some (3 : Int) else (g_ref_ColumnsFault t0.Cols).bind fun r'2 => (if r'2 ≠ (0 : Int) then some r'2 else ((if (t0.Cols.length : Int) = (0 : Int) then some true else if 0 < t0.Cols.length then (if (lrd t0.Cols 0).Kind ≠ (2 : Int) then some true else if 0 < t0.Cols.length then some ((lrd t0.Cols 0).Null) else none) else none)).bind fun g'3 => (if g'3 = true then some (3 : Int) else (loopO (g_ref_TableFault_l0 t0) (0 : Int)).bind fun o'18 => match o'18 with | .inl y'19 => some y'19 | .inr (y'20) => some (0 : Int)))))
set_option maxHeartbeats 4000000 in
set_option maxRecDepth 100000 in
theorem g_ref_TableFault_ac {t0 : GTable} {r : Int} (H : g_ref_TableFault t0 = some r) : ACp Tryd.prog 19 [(.agg (GTable.cs t0))] (AV.int r) := by
 refine ACp_of (AC2_of_body (vs := [.i r]) Tryd.func19 rfl rfl (Nat.le_of_ble_eq_true rfl) rfl ?_) (fun _ => .same _)
 unfold g_ref_TableFault at H
 refine as2 [(0, .g (GTable.cs t0))] [] rfl rfl rfl ?_
 refine sg [0, 1] rfl ?_
 refine r_op rfl rfl (MakeD.opD (n_box 1 rfl rfl) rfl rfl rfl rfl) ?_
 refine rp rfl rfl (p_asg rfl rfl) ?_
 refine rz [(1, .q 1 (0))] [(1, .pure (GTable.cs t0))] rfl rfl rfl ?_
 refine AW2_seq ?_
 refine AW2_block ?_
 refine sg [0, 1, 2, 3] rfl ?_
 refine rp rfl rfl (u_fa rfl rfl Tryd.underlying46 rfl in_4 (Nat.succ_ne_zero _) rfl rfl (ne_of_lt (n := 0) (Nat.lt_of_lt_of_eq (by decide) (Eq.symm (GTable.len t0))))) ?_
 refine rp rfl rfl (u_ld rfl rfl Tryd.underlying4 rfl rfl ((Sub.refl _).trans (GTable.sub0 t0))) ?_
 refine rp rfl rfl (p_not rfl rfl) ?_
 refine rp rfl rfl (p_asg rfl rfl) ?_
 refine rz [(1, .q 1 (0)), (10, .b (!t0.There))] [(1, .pure (GTable.cs t0))] rfl rfl rfl ?_
 refine AW2_cond rfl (fun h1 => ?_) (fun h1 => ?_)
 ·replace H := ite_then h1 H
  refine sg [0] rfl ?_
  refine rp rfl rfl (p_asg rfl rfl) ?_
  refine rz [(2, .i (5 : Int))] [] rfl rfl rfl ?_
  refine AW2_ret ?_
  have hz := some_elim H
  subst hz
  exact ⟨⟨res_tmp (.same _), trivial⟩, trivial⟩
 ·replace H := ite_else (ne_true h1) H
  refine AW2_seq ?_
  refine bindK H fun r'1 h2 H => ?_
  refine AW2_mid (⟨[(1, .q 1 (0)), (14, .b (decide (((!r'1) = true) ∨ ((t0.Name.length : Int) > (8 : Int)))))], [(1, .pure (GTable.cs t0))], 80⟩ : TS) ?_ ?_
  ·refine AW2_reg [0, 1, 2, 3, 4, 5, 6, 7, 8, 9, 10] rfl ?_
   refine rp rfl rfl (u_fa rfl rfl Tryd.underlying46 rfl in_9 (Nat.succ_ne_zero _) rfl rfl (ne_of_lt (n := 0) (Nat.lt_of_lt_of_eq (by decide) (Eq.symm (GTable.len t0))))) ?_
   refine rp rfl rfl (u_ld rfl rfl Tryd.underlying9 rfl rfl ((Sub.refl _).trans (GTable.sub1 t0))) ?_
   refine rp rfl rfl (p_callp rfl rfl rfl Tryd.func33 rfl rfl (g_ref_isName_ac h2) ⟨rfl, trivial⟩) ?_
   refine rp rfl rfl (p_not rfl rfl) ?_
   refine rp rfl rfl (p_move rfl rfl) ?_
   refine (Classical.em ((!r'1) = true)).elim (fun h3 => ?_) (fun h3 => ?_)
   ·refine r_off rfl rfl rfl rfl h3 rfl rfl ?_
    refine r_off rfl rfl rfl rfl h3 rfl rfl ?_
    refine r_off rfl rfl rfl rfl h3 rfl rfl ?_
    refine r_off rfl rfl rfl rfl h3 rfl rfl ?_
    refine rp rfl rfl (p_pkt rfl rfl h3 (tb (decide_eq_true (p := ((!r'1) = true) ∨ ((t0.Name.length : Int) > (8 : Int))) (Or.inl h3)).symm)) ?_
    refine rp rfl rfl (p_asg rfl rfl) ?_
    refine rs [(1, .q 1 (0)), (14, .b (decide (((!r'1) = true) ∨ ((t0.Name.length : Int) > (8 : Int)))))] [(1, .pure (GTable.cs t0))] rfl rfl rfl ?_
    exact RunW_nil rfl
   ·refine r_on rfl rfl rfl rfl (bfalse h3) rfl (PureD.opD (u_fa rfl rfl Tryd.underlying46 rfl in_9 (Nat.succ_ne_zero _) rfl rfl (ne_of_lt (n := 0) (Nat.lt_of_lt_of_eq (by decide) (Eq.symm (GTable.len t0)))))) ?_
    refine r_on rfl rfl rfl rfl (bfalse h3) rfl (PureD.opD (u_ld rfl rfl Tryd.underlying9 rfl rfl ((Sub.refl _).trans (GTable.sub1 t0)))) ?_
    refine r_on rfl rfl rfl rfl (bfalse h3) rfl (PureD.opD (p_lent rfl Tryd.underlying9 rfl)) ?_
    refine r_on rfl rfl rfl rfl (bfalse h3) rfl (PureD.opD (p_bin rfl rfl rfl rfl)) ?_
    refine rp rfl rfl (p_pkf rfl rfl (bfalse h3) (tb ((or_l (p := (!r'1) = true) (q := (t0.Name.length : Int) > (8 : Int)) h3)))) ?_
    refine rp rfl rfl (p_asg rfl rfl) ?_
    refine rs [(1, .q 1 (0)), (14, .b (decide (((!r'1) = true) ∨ ((t0.Name.length : Int) > (8 : Int)))))] [(1, .pure (GTable.cs t0))] rfl rfl rfl ?_
    exact RunW_nil rfl
  ·refine AW2_if (p := ((!r'1) = true) ∨ ((t0.Name.length : Int) > (8 : Int))) rfl (fun h4 => ?_) (fun h4 => ?_)
   ·replace H := ite_then h4 H
    refine sg [0] rfl ?_
    refine rp rfl rfl (p_asg rfl rfl) ?_
    refine rz [(2, .i (3 : Int))] [] rfl rfl rfl ?_
    refine AW2_ret ?_
    have hz := some_elim H
    subst hz
    exact ⟨⟨res_tmp (.same _), trivial⟩, trivial⟩
   ·replace H := ite_else h4 H
    refine as2 [(1, .q 1 (0))] [(1, .pure (GTable.cs t0))] rfl rfl rfl ?_
    refine AW2_skip ?_
    refine AW2_seq ?_
    refine sg [0, 1, 2, 3] rfl ?_
    refine rp rfl rfl (u_fa rfl rfl Tryd.underlying46 rfl in_35 (Nat.succ_ne_zero _) rfl rfl (ne_of_lt (n := 0) (Nat.lt_of_lt_of_eq (by decide) (Eq.symm (GTable.len t0))))) ?_
    refine rp rfl rfl (u_ld rfl rfl Tryd.underlying35 rfl rfl ((Sub.refl _).trans (GTable.sub2 t0))) ?_
    refine bindK H fun r'2 h5 H => ?_
    refine rp rfl rfl (p_callp rfl rfl rfl Tryd.func15 rfl rfl (g_ref_ColumnsFault_ac h5) ⟨rfl, trivial⟩) ?_
    refine rp rfl rfl (p_asg rfl rfl) ?_
    refine rz [(1, .q 1 (0)), (3, .i r'2)] [(1, .pure (GTable.cs t0))] rfl rfl rfl ?_
    refine sg [0, 1] rfl ?_
    refine rp rfl rfl (p_move rfl rfl) ?_
    refine rp rfl rfl (p_ine rfl rfl rfl) ?_
    refine rz [(1, .q 1 (0)), (3, .i r'2), (29, .b (decide (r'2 ≠ (0 : Int))))] [(1, .pure (GTable.cs t0))] rfl rfl rfl ?_
    refine AW2_if (p := r'2 ≠ (0 : Int)) rfl (fun h6 => ?_) (fun h6 => ?_)
    ·replace H := ite_then h6 H
     refine sg [0, 1] rfl ?_
     refine rp rfl rfl (p_move rfl rfl) ?_
     refine rp rfl rfl (p_asg rfl rfl) ?_
     refine rz [(2, .i r'2)] [] rfl rfl rfl ?_
     refine AW2_ret ?_
     have hz := some_elim H
     subst hz
     exact ⟨⟨res_tmp (.same _), trivial⟩, trivial⟩
    ·replace H := ite_else h6 H
     refine as2 [(1, .q 1 (0))] [(1, .pure (GTable.cs t0))] rfl rfl rfl ?_
     refine AW2_skip ?_
     refine AW2_seq ?_
     refine AW2_seq ?_
     refine bindK H fun g'3 h12 H => ?_
     refine AW2_mid (⟨[(1, .q 1 (0)), (49, .b g'3)], [(1, .pure (GTable.cs t0))], 80⟩ : TS) ?_ ?_
     ·clear H
      have H := h12
      clear h12
      refine AW2_reg [0, 1, 2, 3, 4, 5, 6, 7, 8, 9, 10, 11, 12, 13, 14, 15, 16, 17, 18] rfl ?_
      refine rp rfl rfl (u_fa rfl rfl Tryd.underlying46 rfl in_35 (Nat.succ_ne_zero _) rfl rfl (ne_of_lt (n := 0) (Nat.lt_of_lt_of_eq (by decide) (Eq.symm (GTable.len t0))))) ?_
      refine rp rfl rfl (u_ld rfl rfl Tryd.underlying35 rfl rfl ((Sub.refl _).trans (GTable.sub2 t0))) ?_
      refine rp rfl rfl (p_lenl rfl Tryd.underlying35 rfl rfl) ?_
      refine rp rfl rfl (p_ieq rfl rfl rfl) ?_
      refine rp rfl rfl (p_move rfl rfl) ?_
      refine (Classical.em ((t0.Cols.length : Int) = (0 : Int))).elim (fun h8 => ?_) (fun h8 => ?_)
      ·replace H := ite_then h8 H
       refine r_off rfl rfl rfl rfl (decide_eq_true h8) rfl rfl ?_
       refine r_off rfl rfl rfl rfl (decide_eq_true h8) rfl rfl ?_
       refine r_off rfl rfl rfl rfl (decide_eq_true h8) rfl rfl ?_
       refine r_off rfl rfl rfl rfl (decide_eq_true h8) rfl rfl ?_
       refine r_off rfl rfl rfl rfl (decide_eq_true h8) rfl rfl ?_
       refine r_off rfl rfl rfl rfl (decide_eq_true h8) rfl rfl ?_
       refine rp rfl rfl (p_pkt rfl rfl (decide_eq_true h8) (.same _)) ?_
       refine rp rfl rfl (p_move rfl rfl) ?_
       refine r_off rfl rfl rfl rfl rfl rfl rfl ?_
       refine r_off rfl rfl rfl rfl rfl rfl rfl ?_
       refine r_off rfl rfl rfl rfl rfl rfl rfl ?_
       refine r_off rfl rfl rfl rfl rfl rfl rfl ?_
       refine r_off rfl rfl rfl rfl rfl rfl rfl ?_
       refine rp rfl rfl (p_pkt rfl rfl rfl (.same _)) ?_
       refine rs [(1, .q 1 (0)), (49, .b true)] [(1, .pure (GTable.cs t0))] rfl rfl rfl ?_
       have hz := some_elim H
       subst hz
       exact RunW_nil rfl
      ·replace H := ite_else h8 H
       refine r_on rfl rfl rfl rfl (decide_eq_false h8) rfl (PureD.opD (u_fa rfl rfl Tryd.underlying46 rfl in_35 (Nat.succ_ne_zero _) rfl rfl (ne_of_lt (n := 0) (Nat.lt_of_lt_of_eq (by decide) (Eq.symm (GTable.len t0)))))) ?_
       refine r_on rfl rfl rfl rfl (decide_eq_false h8) rfl (PureD.opD (u_ld rfl rfl Tryd.underlying35 rfl rfl ((Sub.refl _).trans (GTable.sub2 t0)))) ?_
       refine chkK H fun h9 H => ?_
       refine r_on rfl rfl rfl rfl (decide_eq_false h8) rfl (PureD.opD (u_ixl rfl rfl Tryd.underlying35 in_68 rfl rfl rfl h9 (fne (fun x => (GColumn.len x)) (by decide) h9))) ?_
       refine r_on rfl rfl rfl rfl (decide_eq_false h8) rfl (PureD.opD (u_far rfl rfl Tryd.underlying68 rfl in_3 (Nat.succ_ne_zero _) rfl)) ?_
       refine r_on rfl rfl rfl rfl (decide_eq_false h8) rfl (PureD.opD (u_ld rfl rfl Tryd.underlying3 rfl rfl ((Sub.fm default (fun x => (GColumn.len x)) h9).trans (GColumn.sub1 (lrd t0.Cols 0))))) ?_
       refine r_on rfl rfl rfl rfl (decide_eq_false h8) rfl (PureD.opD (p_ine rfl rfl rfl)) ?_
       refine rp rfl rfl (p_pkf rfl rfl (decide_eq_false h8) (.same _)) ?_
       refine rp rfl rfl (p_move rfl rfl) ?_
       refine (Classical.em ((lrd t0.Cols 0).Kind ≠ (2 : Int))).elim (fun h10 => ?_) (fun h10 => ?_)
       ·replace H := ite_then h10 H
        refine r_off rfl rfl rfl rfl (decide_eq_true h10) rfl rfl ?_
        refine r_off rfl rfl rfl rfl (decide_eq_true h10) rfl rfl ?_
        refine r_off rfl rfl rfl rfl (decide_eq_true h10) rfl rfl ?_
        refine r_off rfl rfl rfl rfl (decide_eq_true h10) rfl rfl ?_
        refine r_off rfl rfl rfl rfl (decide_eq_true h10) rfl rfl ?_
        refine rp rfl rfl (p_pkt rfl rfl (decide_eq_true h10) (.same _)) ?_
        refine rs [(1, .q 1 (0)), (49, .b true)] [(1, .pure (GTable.cs t0))] rfl rfl rfl ?_
        have hz := some_elim H
        subst hz
        exact RunW_nil rfl
       ·replace H := ite_else h10 H
        refine r_on rfl rfl rfl rfl (decide_eq_false h10) rfl (PureD.opD (u_fa rfl rfl Tryd.underlying46 rfl in_35 (Nat.succ_ne_zero _) rfl rfl (ne_of_lt (n := 0) (Nat.lt_of_lt_of_eq (by decide) (Eq.symm (GTable.len t0)))))) ?_
        refine r_on rfl rfl rfl rfl (decide_eq_false h10) rfl (PureD.opD (u_ld rfl rfl Tryd.underlying35 rfl rfl ((Sub.refl _).trans (GTable.sub2 t0)))) ?_
        refine chkK H fun h11 H => ?_
        refine r_on rfl rfl rfl rfl (decide_eq_false h10) rfl (PureD.opD (u_ixl rfl rfl Tryd.underlying35 in_68 rfl rfl rfl h11 (fne (fun x => (GColumn.len x)) (by decide) h11))) ?_
        refine r_on rfl rfl rfl rfl (decide_eq_false h10) rfl (PureD.opD (u_far rfl rfl Tryd.underlying68 rfl in_4 (Nat.succ_ne_zero _) rfl)) ?_
        refine r_on rfl rfl rfl rfl (decide_eq_false h10) rfl (PureD.opD (u_ld rfl rfl Tryd.underlying4 rfl rfl ((Sub.fm default (fun x => (GColumn.len x)) h11).trans (GColumn.sub2 (lrd t0.Cols 0))))) ?_
        refine rp rfl rfl (p_pkf rfl rfl (decide_eq_false h10) (.same _)) ?_
        refine rs [(1, .q 1 (0)), (49, .b ((lrd t0.Cols 0).Null))] [(1, .pure (GTable.cs t0))] rfl rfl rfl ?_
        have hz := some_elim H
        subst hz
        exact RunW_nil rfl
     ·refine AW2_cond rfl (fun h13 => ?_) (fun h13 => ?_)
      ·replace H := ite_then h13 H
       refine sg [0] rfl ?_
       refine rp rfl rfl (p_asg rfl rfl) ?_
       refine rz [(2, .i (3 : Int))] [] rfl rfl rfl ?_
       refine AW2_ret ?_
       have hz := some_elim H
       subst hz
       exact ⟨⟨res_tmp (.same _), trivial⟩, trivial⟩
      ·replace H := ite_else (ne_true h13) H
       refine as2 [(1, .q 1 (0))] [(1, .pure (GTable.cs t0))] rfl rfl rfl ?_
       refine AW2_skip ?_
       refine AW2_seq ?_
       refine sg [0, 1, 2] rfl ?_
       refine rp rfl rfl (u_fa rfl rfl Tryd.underlying46 rfl in_44 (Nat.succ_ne_zero _) rfl rfl (ne_of_lt (n := 0) (Nat.lt_of_lt_of_eq (by decide) (Eq.symm (GTable.len t0))))) ?_
       refine rp rfl rfl (u_lda rfl rfl Tryd.underlying44 rfl in_44 rfl (Nat.succ_pos _) ((Sub.refl _).trans (GTable.sub3 t0)) (vfm_len (fun x => (vfm_len (fun x => (GCell.len x)) x)) t0.Drawers)) ?_
       refine rp rfl rfl (p_move rfl rfl) ?_
       refine rz [(1, .q 1 (0)), (51, .g (t0.Drawers.toList.flatMap (fun v : Vector GCell 4 => v.toList.flatMap GCell.cs))), (52, .i (0 : Int))] [(1, .pure (GTable.cs t0))] rfl rfl rfl ?_
       refine AW2_block ?_
       refine as2 [(1, .q 1 (0)), (51, .g (t0.Drawers.toList.flatMap (fun v : Vector GCell 4 => v.toList.flatMap GCell.cs))), (52, .i (0 : Int))] [(1, .pure (GTable.cs t0))] rfl rfl rfl ?_
       refine bindK H fun o'18 h26 H => ?_
       refine AW2_loopO (fun a'15 : Int => (⟨[(1, .q 1 (0)), (51, .g (t0.Drawers.toList.flatMap (fun v : Vector GCell 4 => v.toList.flatMap GCell.cs))), (52, .i a'15)], [(1, .pure (GTable.cs t0))], 80⟩ : TS)) (fun (o : Int ⊕ Unit) e s' => match o with | .inl y'16 => e = Go.Exit.ret ∧ ResAll Tryd.prog s' [ResultVar.tmp 2] [.i y'16] ∧ HFits s' [] | .inr (y'17) => e = Go.Exit.exit 1 ∧ s' = (⟨[], [], 80⟩ : TS)) h26 rfl (fun t52_0 x hx => ?_) (fun e s' hs => ?_)
       ·clear H
        have H := hx
        clear hx
        unfold g_ref_TableFault_l0 at H
        refine sg [0] rfl ?_
        refine rp rfl rfl (p_bin rfl rfl rfl rfl) ?_
        refine rz [(1, .q 1 (0)), (51, .g (t0.Drawers.toList.flatMap (fun v : Vector GCell 4 => v.toList.flatMap GCell.cs))), (52, .i t52_0), (53, .b (decide (t52_0 < (2 : Int))))] [(1, .pure (GTable.cs t0))] rfl rfl rfl ?_
        refine AW2_seq ?_
        refine AW2_if (p := t52_0 < (2 : Int)) rfl (fun h14 => ?_) (fun h14 => ?_)
        ·replace H := ite_then h14 H
         refine as2 [(1, .q 1 (0)), (51, .g (t0.Drawers.toList.flatMap (fun v : Vector GCell 4 => v.toList.flatMap GCell.cs))), (52, .i t52_0)] [(1, .pure (GTable.cs t0))] rfl rfl rfl ?_
         refine AW2_skip ?_
         refine AW2_seq ?_
         refine AW2_block ?_
         refine sg [0, 1, 2] rfl ?_
         refine chkK H fun h15 H => ?_
         refine rp rfl rfl (u_ixaa rfl rfl Tryd.underlying44 in_43 Tryd.underlying43 rfl rfl rfl (ixe h15) (ixn h15) (Sub.vfm (fun x => (vfm_len (fun x => (GCell.len x)) x)) (ixn h15)) (vfm_len (fun x => (GCell.len x)) (vrd t0.Drawers t52_0.toNat))) ?_
         refine r_op rfl rfl (MakeD.opD (u_alloc 5 rfl in_43 one_43 zc_43) rfl rfl rfl rfl) ?_
         refine r_op rfl rfl (u_st rfl rfl rfl rfl rfl in_43 (vfm_len (fun x => (GCell.len x)) (vrd t0.Drawers t52_0.toNat)) (ne_of_lt (n := 0) (Nat.lt_of_lt_of_eq (by decide) (Eq.symm (vfm_len (fun x => (GCell.len x)) (Vector.replicate 4 GCell.zero))))) (Upd.refl ((vfm_len (fun x => (GCell.len x)) (vrd t0.Drawers t52_0.toNat)).trans (vfm_len (fun x => (GCell.len x)) (Vector.replicate 4 GCell.zero)).symm))) ?_
         refine rz [(1, .q 1 (0)), (5, .q 5 (0)), (51, .g (t0.Drawers.toList.flatMap (fun v : Vector GCell 4 => v.toList.flatMap GCell.cs))), (52, .i t52_0)] [(1, .pure (GTable.cs t0)), (5, .pure (((vrd t0.Drawers t52_0.toNat).toList).flatMap GCell.cs))] rfl rfl rfl ?_
         refine AW2_seq ?_
         refine sg [0, 1] rfl ?_
         refine rp rfl rfl (u_lda rfl rfl Tryd.underlying43 rfl in_43 rfl (Nat.succ_pos _) (Sub.refl _) (vfm_len (fun x => (GCell.len x)) (vrd t0.Drawers t52_0.toNat))) ?_
         refine rp rfl rfl (p_move rfl rfl) ?_
         refine rz [(1, .q 1 (0)), (5, .q 5 (0)), (51, .g (t0.Drawers.toList.flatMap (fun v : Vector GCell 4 => v.toList.flatMap GCell.cs))), (52, .i t52_0), (55, .g (((vrd t0.Drawers t52_0.toNat).toList).flatMap GCell.cs)), (56, .i (0 : Int))] [(1, .pure (GTable.cs t0)), (5, .pure (((vrd t0.Drawers t52_0.toNat).toList).flatMap GCell.cs))] rfl rfl rfl ?_
         refine AW2_block ?_
         refine as2 [(1, .q 1 (0)), (5, .q 5 (0)), (51, .g (t0.Drawers.toList.flatMap (fun v : Vector GCell 4 => v.toList.flatMap GCell.cs))), (52, .i t52_0), (55, .g (((vrd t0.Drawers t52_0.toNat).toList).flatMap GCell.cs)), (56, .i (0 : Int))] [(1, .pure (GTable.cs t0)), (5, .pure (((vrd t0.Drawers t52_0.toNat).toList).flatMap GCell.cs))] rfl rfl rfl ?_
         refine bindK H fun o'11 h23 H => ?_
         refine AW2_loopO (fun a'8 : Int => (⟨[(1, .q 1 (0)), (5, .q 5 (0)), (51, .g (t0.Drawers.toList.flatMap (fun v : Vector GCell 4 => v.toList.flatMap GCell.cs))), (52, .i t52_0), (55, .g (((vrd t0.Drawers t52_0.toNat).toList).flatMap GCell.cs)), (56, .i a'8)], [(1, .pure (GTable.cs t0)), (5, .pure (((vrd t0.Drawers t52_0.toNat).toList).flatMap GCell.cs))], 80⟩ : TS)) (fun (o : Int ⊕ Unit) e s' => match o with | .inl y'9 => e = Go.Exit.ret ∧ ResAll Tryd.prog s' [ResultVar.tmp 2] [.i y'9] ∧ HFits s' [] | .inr (y'10) => e = Go.Exit.exit 3 ∧ s' = (⟨[(1, .q 1 (0)), (5, .q 5 (0)), (51, .g (t0.Drawers.toList.flatMap (fun v : Vector GCell 4 => v.toList.flatMap GCell.cs))), (52, .i t52_0)], [(1, .pure (GTable.cs t0)), (5, .pure (((vrd t0.Drawers t52_0.toNat).toList).flatMap GCell.cs))], 80⟩ : TS)) h23 rfl (fun t56_1 x hx => ?_) (fun e s' hs => ?_)
         ·clear H
          have H := hx
          clear hx
          unfold g_ref_TableFault_l1 at H
          refine sg [0] rfl ?_
          refine rp rfl rfl (p_bin rfl rfl rfl rfl) ?_
          refine rz [(1, .q 1 (0)), (5, .q 5 (0)), (51, .g (t0.Drawers.toList.flatMap (fun v : Vector GCell 4 => v.toList.flatMap GCell.cs))), (52, .i t52_0), (55, .g (((vrd t0.Drawers t52_0.toNat).toList).flatMap GCell.cs)), (56, .i t56_1), (57, .b (decide (t56_1 < (4 : Int))))] [(1, .pure (GTable.cs t0)), (5, .pure (((vrd t0.Drawers t52_0.toNat).toList).flatMap GCell.cs))] rfl rfl rfl ?_
          refine AW2_seq ?_
          refine AW2_if (p := t56_1 < (4 : Int)) rfl (fun h16 => ?_) (fun h16 => ?_)
          ·replace H := ite_then h16 H
           refine as2 [(1, .q 1 (0)), (5, .q 5 (0)), (51, .g (t0.Drawers.toList.flatMap (fun v : Vector GCell 4 => v.toList.flatMap GCell.cs))), (52, .i t52_0), (55, .g (((vrd t0.Drawers t52_0.toNat).toList).flatMap GCell.cs)), (56, .i t56_1)] [(1, .pure (GTable.cs t0)), (5, .pure (((vrd t0.Drawers t52_0.toNat).toList).flatMap GCell.cs))] rfl rfl rfl ?_
           refine AW2_skip ?_
           refine AW2_seq ?_
           refine bindK H fun o'7 h17 H => ?_
           refine AW2_join (fun j'4 : Unit => (⟨[(1, .q 1 (0)), (5, .q 5 (0)), (51, .g (t0.Drawers.toList.flatMap (fun v : Vector GCell 4 => v.toList.flatMap GCell.cs))), (52, .i t52_0), (55, .g (((vrd t0.Drawers t52_0.toNat).toList).flatMap GCell.cs)), (56, .i t56_1)], [(1, .pure (GTable.cs t0)), (5, .pure (((vrd t0.Drawers t52_0.toNat).toList).flatMap GCell.cs))], 80⟩ : TS)) (fun r e s' => e = Go.Exit.ret ∧ ResAll Tryd.prog s' [ResultVar.tmp 2] [.i r] ∧ HFits s' []) (x := o'7) ?_ (fun j'4 hy => ?_) (fun y'6 e s' hy hs => ?_)
           ·clear H
            have H := h17
            clear h17
            refine AW2_block ?_
            refine sg [0, 1, 2] rfl ?_
            refine chkK H fun h18 H => ?_
            refine rp rfl rfl (u_ixaa rfl rfl Tryd.underlying43 in_42 Tryd.underlying42 rfl rfl rfl (ixe h18) (ixn h18) (Sub.vfm (fun x => (GCell.len x)) (ixn h18)) (GCell.len (vrd (vrd t0.Drawers t52_0.toNat) t56_1.toNat))) ?_
            refine r_op rfl rfl (MakeD.opD (u_alloc 7 rfl in_42 one_42 zc_42) rfl rfl rfl rfl) ?_
            refine r_op rfl rfl (u_st rfl rfl rfl rfl rfl in_42 (GCell.len (vrd (vrd t0.Drawers t52_0.toNat) t56_1.toNat)) (ne_of_lt (n := 0) (Nat.lt_of_lt_of_eq (by decide) (Eq.symm (GCell.len GCell.zero)))) (Upd.refl ((GCell.len (vrd (vrd t0.Drawers t52_0.toNat) t56_1.toNat)).trans (GCell.len GCell.zero).symm))) ?_
            refine rz [(1, .q 1 (0)), (5, .q 5 (0)), (7, .q 7 (0)), (51, .g (t0.Drawers.toList.flatMap (fun v : Vector GCell 4 => v.toList.flatMap GCell.cs))), (52, .i t52_0), (55, .g (((vrd t0.Drawers t52_0.toNat).toList).flatMap GCell.cs)), (56, .i t56_1)] [(1, .pure (GTable.cs t0)), (5, .pure (((vrd t0.Drawers t52_0.toNat).toList).flatMap GCell.cs)), (7, .pure (GCell.cs (vrd (vrd t0.Drawers t52_0.toNat) t56_1.toNat)))] rfl rfl rfl ?_
            refine sg [0, 1] rfl ?_
            refine rp rfl rfl (u_fa rfl rfl Tryd.underlying42 rfl in_4 (Nat.succ_ne_zero _) rfl rfl (ne_of_lt (n := 0) (Nat.lt_of_lt_of_eq (by decide) (Eq.symm (GCell.len (vrd (vrd t0.Drawers t52_0.toNat) t56_1.toNat)))))) ?_
            refine rp rfl rfl (u_ld rfl rfl Tryd.underlying4 rfl rfl ((Sub.refl _).trans (GCell.sub0 (vrd (vrd t0.Drawers t52_0.toNat) t56_1.toNat)))) ?_
            refine rz [(1, .q 1 (0)), (5, .q 5 (0)), (7, .q 7 (0)), (51, .g (t0.Drawers.toList.flatMap (fun v : Vector GCell 4 => v.toList.flatMap GCell.cs))), (52, .i t52_0), (55, .g (((vrd t0.Drawers t52_0.toNat).toList).flatMap GCell.cs)), (56, .i t56_1), (60, .b ((vrd (vrd t0.Drawers t52_0.toNat) t56_1.toNat).Full))] [(1, .pure (GTable.cs t0)), (5, .pure (((vrd t0.Drawers t52_0.toNat).toList).flatMap GCell.cs)), (7, .pure (GCell.cs (vrd (vrd t0.Drawers t52_0.toNat) t56_1.toNat)))] rfl rfl rfl ?_
            refine AW2_cond rfl (fun h19 => ?_) (fun h19 => ?_)
            ·replace H := ite_then h19 H
             refine sg [0, 1, 2, 3, 4, 5] rfl ?_
             refine rp rfl rfl (u_fa rfl rfl Tryd.underlying42 rfl in_38 (Nat.succ_ne_zero _) rfl rfl (ne_of_lt (n := 0) (Nat.lt_of_lt_of_eq (by decide) (Eq.symm (GCell.len (vrd (vrd t0.Drawers t52_0.toNat) t56_1.toNat)))))) ?_
             refine rp rfl rfl (u_ld rfl rfl Tryd.underlying38 rfl rfl ((Sub.refl _).trans (GCell.sub1 (vrd (vrd t0.Drawers t52_0.toNat) t56_1.toNat)))) ?_
             refine rp rfl rfl (u_fa rfl rfl Tryd.underlying46 rfl in_35 (Nat.succ_ne_zero _) rfl rfl (ne_of_lt (n := 0) (Nat.lt_of_lt_of_eq (by decide) (Eq.symm (GTable.len t0))))) ?_
             refine rp rfl rfl (u_ld rfl rfl Tryd.underlying35 rfl rfl ((Sub.refl _).trans (GTable.sub2 t0))) ?_
             refine bindK H fun r'5 h20 H => ?_
             refine rp rfl rfl (p_callp rfl rfl rfl Tryd.func17 rfl rfl (g_ref_RowFault_ac h20) ⟨rfl, rfl, trivial⟩) ?_
             refine rp rfl rfl (p_asg rfl rfl) ?_
             refine rz [(1, .q 1 (0)), (5, .q 5 (0)), (8, .i r'5), (51, .g (t0.Drawers.toList.flatMap (fun v : Vector GCell 4 => v.toList.flatMap GCell.cs))), (52, .i t52_0), (55, .g (((vrd t0.Drawers t52_0.toNat).toList).flatMap GCell.cs)), (56, .i t56_1)] [(1, .pure (GTable.cs t0)), (5, .pure (((vrd t0.Drawers t52_0.toNat).toList).flatMap GCell.cs))] rfl rfl rfl ?_
             refine sg [0, 1] rfl ?_
             refine rp rfl rfl (p_move rfl rfl) ?_
             refine rp rfl rfl (p_ine rfl rfl rfl) ?_
             refine rz [(1, .q 1 (0)), (5, .q 5 (0)), (8, .i r'5), (51, .g (t0.Drawers.toList.flatMap (fun v : Vector GCell 4 => v.toList.flatMap GCell.cs))), (52, .i t52_0), (55, .g (((vrd t0.Drawers t52_0.toNat).toList).flatMap GCell.cs)), (56, .i t56_1), (67, .b (decide (r'5 ≠ (0 : Int))))] [(1, .pure (GTable.cs t0)), (5, .pure (((vrd t0.Drawers t52_0.toNat).toList).flatMap GCell.cs))] rfl rfl rfl ?_
             refine AW2_if (p := r'5 ≠ (0 : Int)) rfl (fun h21 => ?_) (fun h21 => ?_)
             ·replace H := ite_then h21 H
              refine sg [0, 1] rfl ?_
              refine rp rfl rfl (p_move rfl rfl) ?_
              refine rp rfl rfl (p_asg rfl rfl) ?_
              refine rz [(2, .i r'5)] [] rfl rfl rfl ?_
              refine AW2_ret ?_
              have hz := some_elim H
              subst hz
              exact ⟨rfl, ⟨res_tmp (.same _), trivial⟩, trivial⟩
             ·replace H := ite_else h21 H
              refine as2 [(1, .q 1 (0)), (5, .q 5 (0)), (51, .g (t0.Drawers.toList.flatMap (fun v : Vector GCell 4 => v.toList.flatMap GCell.cs))), (52, .i t52_0), (55, .g (((vrd t0.Drawers t52_0.toNat).toList).flatMap GCell.cs)), (56, .i t56_1)] [(1, .pure (GTable.cs t0)), (5, .pure (((vrd t0.Drawers t52_0.toNat).toList).flatMap GCell.cs))] rfl rfl rfl ?_
              refine AW2_skip ?_
              have hz := some_elim H
              subst hz
              exact ⟨rfl, rfl⟩
            ·replace H := ite_else (ne_true h19) H
             refine sg [0, 1, 2, 3] rfl ?_
             refine rp rfl rfl (u_fa rfl rfl Tryd.underlying42 rfl in_38 (Nat.succ_ne_zero _) rfl rfl (ne_of_lt (n := 0) (Nat.lt_of_lt_of_eq (by decide) (Eq.symm (GCell.len (vrd (vrd t0.Drawers t52_0.toNat) t56_1.toNat)))))) ?_
             refine rp rfl rfl (u_ld rfl rfl Tryd.underlying38 rfl rfl ((Sub.refl _).trans (GCell.sub1 (vrd (vrd t0.Drawers t52_0.toNat) t56_1.toNat)))) ?_
             refine rp rfl rfl (p_lenl rfl Tryd.underlying38 rfl rfl) ?_
             refine rp rfl rfl (p_ine rfl rfl rfl) ?_
             refine rz [(1, .q 1 (0)), (5, .q 5 (0)), (51, .g (t0.Drawers.toList.flatMap (fun v : Vector GCell 4 => v.toList.flatMap GCell.cs))), (52, .i t52_0), (55, .g (((vrd t0.Drawers t52_0.toNat).toList).flatMap GCell.cs)), (56, .i t56_1), (72, .b (decide ((((vrd (vrd t0.Drawers t52_0.toNat) t56_1.toNat).Row).length : Int) ≠ (0 : Int))))] [(1, .pure (GTable.cs t0)), (5, .pure (((vrd t0.Drawers t52_0.toNat).toList).flatMap GCell.cs))] rfl rfl rfl ?_
             refine AW2_if (p := (((vrd (vrd t0.Drawers t52_0.toNat) t56_1.toNat).Row).length : Int) ≠ (0 : Int)) rfl (fun h22 => ?_) (fun h22 => ?_)
             ·replace H := ite_then h22 H
              refine sg [0] rfl ?_
              refine rp rfl rfl (p_asg rfl rfl) ?_
              refine rz [(2, .i (3 : Int))] [] rfl rfl rfl ?_
              refine AW2_ret ?_
              have hz := some_elim H
              subst hz
              exact ⟨rfl, ⟨res_tmp (.same _), trivial⟩, trivial⟩
             ·replace H := ite_else h22 H
              refine as2 [(1, .q 1 (0)), (5, .q 5 (0)), (51, .g (t0.Drawers.toList.flatMap (fun v : Vector GCell 4 => v.toList.flatMap GCell.cs))), (52, .i t52_0), (55, .g (((vrd t0.Drawers t52_0.toNat).toList).flatMap GCell.cs)), (56, .i t56_1)] [(1, .pure (GTable.cs t0)), (5, .pure (((vrd t0.Drawers t52_0.toNat).toList).flatMap GCell.cs))] rfl rfl rfl ?_
              refine AW2_skip ?_
              have hz := some_elim H
              subst hz
              exact ⟨rfl, rfl⟩
           ·subst hy
            refine AW2_reg [0, 1] rfl ?_
            refine rp rfl rfl (p_bin rfl rfl rfl rfl) ?_
            refine rp rfl rfl (p_move rfl rfl) ?_
            refine rz [(1, .q 1 (0)), (5, .q 5 (0)), (51, .g (t0.Drawers.toList.flatMap (fun v : Vector GCell 4 => v.toList.flatMap GCell.cs))), (52, .i t52_0), (55, .g (((vrd t0.Drawers t52_0.toNat).toList).flatMap GCell.cs)), (56, .i (w64 (t56_1 + (1 : Int))))] [(1, .pure (GTable.cs t0)), (5, .pure (((vrd t0.Drawers t52_0.toNat).toList).flatMap GCell.cs))] rfl rfl rfl ?_
            have hz := some_elim H
            subst hz
            exact ⟨rfl, rfl⟩
           ·subst hy
            obtain ⟨rfl, hs⟩ := hs
            have hz := some_elim H
            subst hz
            exact ⟨rfl, hs.1, hs.2⟩
          ·replace H := ite_else h16 H
           refine as2 [(1, .q 1 (0)), (5, .q 5 (0)), (51, .g (t0.Drawers.toList.flatMap (fun v : Vector GCell 4 => v.toList.flatMap GCell.cs))), (52, .i t52_0)] [(1, .pure (GTable.cs t0)), (5, .pure (((vrd t0.Drawers t52_0.toNat).toList).flatMap GCell.cs))] rfl rfl rfl ?_
           refine AW2_exit ?_
           refine thenQ2_exit ?_
           have hz := some_elim H
           subst hz
           exact ⟨rfl, rfl⟩
         ·rcases o'11 with y'12 | y'13
          ·obtain ⟨rfl, hs⟩ := hs
           refine ⟨by simp, ?_⟩
           have hz := some_elim H
           subst hz
           exact ⟨rfl, hs.1, hs.2⟩
          ·obtain ⟨rfl, rfl⟩ := hs
           refine ⟨by simp, ?_⟩
           refine blockQ2_exit ?_
           refine sg [0, 1, 2] rfl ?_
           refine rp rfl rfl (u_lda rfl rfl Tryd.underlying43 rfl in_43 rfl (Nat.succ_pos _) (Sub.refl _) (vfm_len (fun x => (GCell.len x)) (vrd t0.Drawers t52_0.toNat))) ?_
           refine bindK H fun r'14 h24 H => ?_
           refine rp rfl rfl (p_callp rfl rfl rfl Tryd.func45 rfl rfl (g_ref_keysFault_ac h24) ⟨rfl, trivial⟩) ?_
           refine rp rfl rfl (p_asg rfl rfl) ?_
           refine rz [(1, .q 1 (0)), (9, .i r'14), (51, .g (t0.Drawers.toList.flatMap (fun v : Vector GCell 4 => v.toList.flatMap GCell.cs))), (52, .i t52_0)] [(1, .pure (GTable.cs t0))] rfl rfl rfl ?_
           refine sg [0, 1] rfl ?_
           refine rp rfl rfl (p_move rfl rfl) ?_
           refine rp rfl rfl (p_ine rfl rfl rfl) ?_
           refine rz [(1, .q 1 (0)), (9, .i r'14), (51, .g (t0.Drawers.toList.flatMap (fun v : Vector GCell 4 => v.toList.flatMap GCell.cs))), (52, .i t52_0), (77, .b (decide (r'14 ≠ (0 : Int))))] [(1, .pure (GTable.cs t0))] rfl rfl rfl ?_
           refine AW2_if (p := r'14 ≠ (0 : Int)) rfl (fun h25 => ?_) (fun h25 => ?_)
           ·replace H := ite_then h25 H
            refine sg [0, 1] rfl ?_
            refine rp rfl rfl (p_move rfl rfl) ?_
            refine rp rfl rfl (p_asg rfl rfl) ?_
            refine rz [(2, .i r'14)] [] rfl rfl rfl ?_
            refine AW2_ret ?_
            have hz := some_elim H
            subst hz
            exact ⟨rfl, ⟨res_tmp (.same _), trivial⟩, trivial⟩
           ·replace H := ite_else h25 H
            refine as2 [(1, .q 1 (0)), (51, .g (t0.Drawers.toList.flatMap (fun v : Vector GCell 4 => v.toList.flatMap GCell.cs))), (52, .i t52_0)] [(1, .pure (GTable.cs t0))] rfl rfl rfl ?_
            refine AW2_skip ?_
            refine AW2_reg [0, 1] rfl ?_
            refine rp rfl rfl (p_bin rfl rfl rfl rfl) ?_
            refine rp rfl rfl (p_move rfl rfl) ?_
            refine rz [(1, .q 1 (0)), (51, .g (t0.Drawers.toList.flatMap (fun v : Vector GCell 4 => v.toList.flatMap GCell.cs))), (52, .i (w64 (t52_0 + (1 : Int))))] [(1, .pure (GTable.cs t0))] rfl rfl rfl ?_
            have hz := some_elim H
            subst hz
            exact ⟨rfl, rfl⟩
        ·replace H := ite_else h14 H
         refine as2 [] [] rfl rfl rfl ?_
         refine AW2_exit ?_
         refine thenQ2_exit ?_
         have hz := some_elim H
         subst hz
         exact ⟨rfl, rfl⟩
       ·rcases o'18 with y'19 | y'20
        ·obtain ⟨rfl, hs⟩ := hs
         refine ⟨by simp, ?_⟩
         have hz := some_elim H
         subst hz
         exact ⟨hs.1, hs.2⟩
        ·obtain ⟨rfl, rfl⟩ := hs
         refine ⟨by simp, ?_⟩
         refine blockQ2_exit ?_
         refine sg [0] rfl ?_
         refine rp rfl rfl (p_asg rfl rfl) ?_
         refine rz [(2, .i (0 : Int))] [] rfl rfl rfl ?_
         refine AW2_ret ?_
         have hz := some_elim H
         subst hz
         exact ⟨⟨res_tmp (.same _), trivial⟩, trivial⟩

/-! chirographref.bitsOrder -/
noncomputable def g_ref_bitsOrder (a0 : UInt64) (b1 : UInt64) : Option (Int) :=
  (if a0 < b1 then some (-1 : Int) else (if b1 < a0 then some (1 : Int) else some (0 : Int)))
set_option maxHeartbeats 4000000 in
set_option maxRecDepth 100000 in
theorem g_ref_bitsOrder_ac {a0 : UInt64} {b1 : UInt64} {r : Int} (H : g_ref_bitsOrder a0 b1 = some r) : ACp Tryd.prog 60 [(AV.u64 a0), (AV.u64 b1)] (AV.int r) := by
 refine ACp_of (AC2_of_body (vs := [.i r]) Tryd.func60 rfl rfl (Nat.le_of_ble_eq_true rfl) rfl ?_) (fun _ => .same _)
 unfold g_ref_bitsOrder at H
 refine as2 [(0, .p (AV.u64 a0)), (1, .p (AV.u64 b1))] [] rfl rfl rfl ?_
 refine sg [0] rfl ?_
 refine rp rfl rfl (p_asg rfl rfl) ?_
 refine rz [(0, .p (AV.u64 a0)), (1, .p (AV.u64 b1))] [] rfl rfl rfl ?_
 refine AW2_seq ?_
 refine sg [0, 1, 2] rfl ?_
 refine rp rfl rfl (p_move rfl rfl) ?_
 refine rp rfl rfl (p_move rfl rfl) ?_
 refine rp rfl rfl (p_u64lt (a := a0) (b := b1) rfl rfl rfl) ?_
 refine rz [(0, .p (AV.u64 a0)), (1, .p (AV.u64 b1)), (7, .b (decide (a0 < b1)))] [] rfl rfl rfl ?_
 refine AW2_if (p := a0 < b1) rfl (fun h1 => ?_) (fun h1 => ?_)
 ·replace H := ite_then h1 H
  refine sg [0] rfl ?_
  refine rp rfl rfl (p_asg rfl rfl) ?_
  refine rz [(4, .i (-1 : Int))] [] rfl rfl rfl ?_
  refine AW2_ret ?_
  have hz := some_elim H
  subst hz
  exact ⟨⟨res_tmp (.same _), trivial⟩, trivial⟩
 ·replace H := ite_else h1 H
  refine as2 [(0, .p (AV.u64 a0)), (1, .p (AV.u64 b1))] [] rfl rfl rfl ?_
  refine AW2_skip ?_
  refine AW2_seq ?_
  refine sg [0, 1, 2] rfl ?_
  refine rp rfl rfl (p_move rfl rfl) ?_
  refine rp rfl rfl (p_move rfl rfl) ?_
  refine rp rfl rfl (p_u64gt (a := a0) (b := b1) rfl rfl rfl) ?_
  refine rz [(10, .b (decide (b1 < a0)))] [] rfl rfl rfl ?_
  refine AW2_if (p := b1 < a0) rfl (fun h2 => ?_) (fun h2 => ?_)
  ·replace H := ite_then h2 H
   refine sg [0] rfl ?_
   refine rp rfl rfl (p_asg rfl rfl) ?_
   refine rz [(4, .i (1 : Int))] [] rfl rfl rfl ?_
   refine AW2_ret ?_
   have hz := some_elim H
   subst hz
   exact ⟨⟨res_tmp (.same _), trivial⟩, trivial⟩
  ·replace H := ite_else h2 H
   refine as2 [] [] rfl rfl rfl ?_
   refine AW2_skip ?_
   refine sg [0] rfl ?_
   refine rp rfl rfl (p_asg rfl rfl) ?_
   refine rz [(4, .i (0 : Int))] [] rfl rfl rfl ?_
   refine AW2_ret ?_
   have hz := some_elim H
   subst hz
   exact ⟨⟨res_tmp (.same _), trivial⟩, trivial⟩

/-! chirographref.rowsOf$1 -/
def g_ref_rowsOf_1_r1 : List (List (Nat × Option Nat)) := [[(0, none)], [(5, some 0)], [(6, some 1)], [(7, some 2)], [(8, some 3)], [(9, some 4)], [(1, none)], [(11, some 6)], [(12, some 7)], [(13, some 8)], [(14, some 9)], [(15, some 10)]]
def g_ref_rowsOf_1_r1c : List (List Nat) := [[], [0], [0, 1], [0, 1, 2], [0, 1, 2, 3], [0, 1, 2, 3, 4], [], [6], [6, 7], [6, 7, 8], [6, 7, 8, 9], [6, 7, 8, 9, 10], [0, 1, 2, 3, 4, 5, 6, 7, 8, 9, 10, 11], [0, 1, 2, 3, 4, 5, 6, 7, 8, 9, 10, 11, 12]]
noncomputable def g_ref_rowsOf_1 (a0 : List GValue) (b1 : List GValue) : Option (Int) :=
  if 0 < a0.length then if 0 < b1.length then (g_ref_bitsOrder ((UInt64.ofInt ((lrd a0 0).Int_)) + (9223372036854775808 : UInt64)) ((UInt64.ofInt ((lrd b1 0).Int_)) + (9223372036854775808 : UInt64))).bind fun r'1 => some r'1 else none else none
set_option maxHeartbeats 4000000 in
set_option maxRecDepth 100000 in
theorem g_ref_rowsOf_1_ac {a0 : List GValue} {b1 : List GValue} {r : Int} (H : g_ref_rowsOf_1 a0 b1 = some r) : ACp Tryd.prog 59 [((fun q : List GValue => AV.lst (q.flatMap GValue.cs) q.length) a0), ((fun q : List GValue => AV.lst (q.flatMap GValue.cs) q.length) b1)] (AV.int r) := by
 refine ACp_of (AC2_of_body (vs := [.i r]) Tryd.func59 rfl rfl (Nat.le_of_ble_eq_true rfl) rfl ?_) (fun _ => .same _)
 unfold g_ref_rowsOf_1 at H
 refine as2 [(0, .p ((fun q : List GValue => AV.lst (q.flatMap GValue.cs) q.length) a0)), (1, .p ((fun q : List GValue => AV.lst (q.flatMap GValue.cs) q.length) b1))] [] rfl rfl rfl ?_
 refine sg [0] rfl ?_
 refine rp rfl rfl (p_asg rfl rfl) ?_
 refine rz [(0, .p ((fun q : List GValue => AV.lst (q.flatMap GValue.cs) q.length) a0)), (1, .p ((fun q : List GValue => AV.lst (q.flatMap GValue.cs) q.length) b1))] [] rfl rfl rfl ?_
 refine AW2_seq ?_
 refine chkK H fun h1 H => ?_
 refine chkK H fun h2 H => ?_
 refine bindK H fun r'1 h3 H => ?_
 refine AW2_ghoQ ?_
 refine AW2_draw 12 [12, 13] (fun k => ([.p ((fun q : List GValue => AV.lst (q.flatMap GValue.cs) q.length) a0), .p (.rptr (a0.flatMap GValue.cs) (0 * 4)), .p (.rptr (a0.flatMap GValue.cs) (0 * 4 + 1)), .i ((lrd a0 0).Int_), .p (AV.u64 (UInt64.ofInt ((lrd a0 0).Int_))), .p (AV.u64 ((UInt64.ofInt ((lrd a0 0).Int_)) + (9223372036854775808 : UInt64))), .p ((fun q : List GValue => AV.lst (q.flatMap GValue.cs) q.length) b1), .p (.rptr (b1.flatMap GValue.cs) (0 * 4)), .p (.rptr (b1.flatMap GValue.cs) (0 * 4 + 1)), .i ((lrd b1 0).Int_), .p (AV.u64 (UInt64.ofInt ((lrd b1 0).Int_))), .p (AV.u64 ((UInt64.ofInt ((lrd b1 0).Int_)) + (9223372036854775808 : UInt64)))] : List TV).getD k TV.any) (fun k => g_ref_rowsOf_1_r1.getD k []) [(10, some 5), (16, some 11)] [] (fun k => g_ref_rowsOf_1_r1c.getD k []) mixed (by kernel_rfl) rfl rfl (a_op (g_x rfl (x_p rfl (p_move rfl rfl) rfl)) (a_op (g_x rfl (x_p rfl (u_ixl rfl rfl Tryd.underlying38 in_29 rfl rfl rfl h1 (fne (fun x => (GValue.len x)) (by decide) h1)) rfl)) (a_op (g_x rfl (x_p rfl (u_far rfl rfl Tryd.underlying29 rfl in_3 (Nat.succ_ne_zero _) rfl) rfl)) (a_op (g_x rfl (x_p rfl (u_ld rfl rfl Tryd.underlying3 rfl rfl ((Sub.fm default (fun x => (GValue.len x)) h1).trans (GValue.sub1 (lrd a0 0)))) rfl)) (a_op (g_x rfl (x_p rfl (p_i_u64 rfl Tryd.underlying3 Tryd.underlying22 rfl) rfl)) (a_op (g_x rfl (x_p rfl (p_u64add (a := UInt64.ofInt ((lrd a0 0).Int_)) (b := (9223372036854775808 : UInt64)) rfl rfl rfl) rfl)) (a_op (g_x rfl (x_p rfl (p_move rfl rfl) rfl)) (a_op (g_x rfl (x_p rfl (u_ixl rfl rfl Tryd.underlying38 in_29 rfl rfl rfl h2 (fne (fun x => (GValue.len x)) (by decide) h2)) rfl)) (a_op (g_x rfl (x_p rfl (u_far rfl rfl Tryd.underlying29 rfl in_3 (Nat.succ_ne_zero _) rfl) rfl)) (a_op (g_x rfl (x_p rfl (u_ld rfl rfl Tryd.underlying3 rfl rfl ((Sub.fm default (fun x => (GValue.len x)) h2).trans (GValue.sub1 (lrd b1 0)))) rfl)) (a_op (g_x rfl (x_p rfl (p_i_u64 rfl Tryd.underlying3 Tryd.underlying22 rfl) rfl)) (a_op (g_x rfl (x_p rfl (p_u64add (a := UInt64.ofInt ((lrd b1 0).Int_)) (b := (9223372036854775808 : UInt64)) rfl rfl rfl) rfl)) (a_nil))))))))))))) ?_
 refine t_op rfl rfl (PureD.opD (p_callp rfl rfl rfl Tryd.func60 rfl rfl (g_ref_bitsOrder_ac h3) ⟨rfl, rfl, trivial⟩)) ?_
 refine t_op rfl rfl (PureD.opD (p_asg rfl rfl)) ?_
 refine t_gho (Gho_st (L := [(4, .i r'1)]) (H := []) (N := 18) rfl ⟨TLes.same _, trivial⟩ trivial) ?_
 refine AW2_ret ?_
 have hz := some_elim H
 subst hz
 exact ⟨⟨res_tmp (.same _), trivial⟩, trivial⟩

/-! chirographref.ranked -/
noncomputable def g_ref_ranked_i0_l1 (l0 : List (List GValue)) (t17_0 : Int) : Int × Int → Option ((Int × Int) ⊕ (Int))
  | (n8_1, t24_1) => (if t24_1 < (l0.length : Int) then (if 0 ≤ t24_1 ∧ t24_1 < (l0.length : Int) then (g_ref_rowsOf_1 (lrd l0 t24_1.toNat) (lrd l0 t17_0.toNat)).bind fun r'2 => (if (r'2 < (0 : Int)) ∨ ((r'2 = (0 : Int)) ∧ (t24_1 < t17_0)) then some (w64 (n8_1 + (1 : Int))) else some n8_1) else none).bind fun j'1 => some (.inl (j'1, w64 (t24_1 + (1 : Int)))) else some (.inr n8_1))
noncomputable def g_ref_ranked_i0_l0 (l0 : List (List GValue)) : Int × (List (List GValue)) → Option ((Int × (List (List GValue))) ⊕ (((List (List GValue)))))
  | (t17_0, out5_0) => (if t17_0 < (l0.length : Int) then if 0 ≤ t17_0 ∧ t17_0 < (l0.length : Int) then (loopO (g_ref_ranked_i0_l1 l0 t17_0) ((0 : Int), (0 : Int))).bind fun y'6 => if 0 ≤ y'6 ∧ y'6 < (out5_0.length : Int) then some (.inl (w64 (t17_0 + (1 : Int)), (out5_0.set y'6.toNat (lrd l0 t17_0.toNat)))) else none else none else some (.inr out5_0))
noncomputable def g_ref_ranked_i0 (l0 : List (List GValue)) : Option ((List (List GValue))) :=
  if 0 ≤ (l0.length : Int) then if 24 * (l0.length : Int).toNat ≤ 281474976710656 then (loopO (g_ref_ranked_i0_l0 l0) ((0 : Int), (List.replicate ((l0.length : Int).toNat) ([] : List GValue)))).bind fun y'10 => some y'10 else none else none
set_option maxHeartbeats 4000000 in
set_option maxRecDepth 100000 in
theorem g_ref_ranked_i0_ac2 {l0 : List (List GValue)} {r : (List (List GValue))} (H : g_ref_ranked_i0 l0 = some r) : AC2 Tryd.prog 58 (pureT [((fun q : List (List GValue) => AV.lst (q.map (fun q : List GValue => AV.lst (q.flatMap GValue.cs) q.length)) q.length) l0), .clo 59 []]) [] (.c (.own 4 r.length 1)) [(4, .pure (r.map (fun q : List GValue => AV.lst (q.flatMap GValue.cs) q.length)))] := by
 refine AC2_of_body (vs := [.c (.own 4 r.length 1)]) Tryd.func58 rfl rfl (Nat.le_of_ble_eq_true rfl) rfl ?_
 unfold g_ref_ranked_i0 at H
 refine AW2_st [(0, .p ((fun q : List (List GValue) => AV.lst (q.map (fun q : List GValue => AV.lst (q.flatMap GValue.cs) q.length)) q.length) l0)), (1, .clo 59 [])] [] rfl ⟨TLes.same _, (fun _ => .same _), trivial⟩ trivial ?_
 refine sg [0] rfl ?_
 refine rp rfl rfl (p_asgn rfl) ?_
 refine RunW_st [(0, .p ((fun q : List (List GValue) => AV.lst (q.map (fun q : List GValue => AV.lst (q.flatMap GValue.cs) q.length)) q.length) l0)), (1, .clo 59 [])] [] rfl ⟨TLes.same _, (fun _ => .same _), trivial⟩ trivial ?_
 refine RunW_nil ?_
 refine sg [0, 1, 2, 3] rfl ?_
 refine rp rfl rfl (p_move rfl rfl) ?_
 refine rp rfl rfl (p_lenl rfl Tryd.underlying50 rfl rfl) ?_
 refine chkK H fun h1 H => ?_
 refine chkK H fun h2 H => ?_
 refine r_op rfl rfl (MakeD.opD (u_make 14 rfl rfl rfl (Int.toNat_of_nonneg h1).symm Tryd.underlying50 in_38 rfl one_38 h2 (by omega) zc_38 (az_map (fun q : List GValue => AV.lst (q.flatMap GValue.cs) q.length) _ ([] : List GValue)) (List.length_replicate (n := (l0.length : Int).toNat) (a := ([] : List GValue))).symm) rfl rfl rfl rfl) ?_
 refine rp rfl rfl (p_asg rfl rfl) ?_
 refine RunW_st [(0, .p ((fun q : List (List GValue) => AV.lst (q.map (fun q : List GValue => AV.lst (q.flatMap GValue.cs) q.length)) q.length) l0)), (1, .clo 59 []), (5, .c (.own 14 (List.replicate ((l0.length : Int).toNat) ([] : List GValue)).length 1))] [(14, .pure ((List.replicate ((l0.length : Int).toNat) ([] : List GValue)).map (fun q : List GValue => AV.lst (q.flatMap GValue.cs) q.length)))] rfl ⟨TLes.same _, (fun _ => .same _), TLes.same _, trivial⟩ ⟨rfl, trivial⟩ ?_
 refine RunW_gho (Gho_ren 14 5 rfl rfl rfl rfl rfl) ?_
 refine rz [(0, .p ((fun q : List (List GValue) => AV.lst (q.map (fun q : List GValue => AV.lst (q.flatMap GValue.cs) q.length)) q.length) l0)), (1, .clo 59 []), (5, .c (.own 5 (List.replicate ((l0.length : Int).toNat) ([] : List GValue)).length 1))] [(5, .pure ((List.replicate ((l0.length : Int).toNat) ([] : List GValue)).map (fun q : List GValue => AV.lst (q.flatMap GValue.cs) q.length)))] rfl rfl rfl ?_
 refine AW2_seq ?_
 refine sg [0, 1, 2] rfl ?_
 refine rp rfl rfl (p_move rfl rfl) ?_
 refine rp rfl rfl (p_lenl rfl Tryd.underlying50 rfl rfl) ?_
 refine rp rfl rfl (p_move rfl rfl) ?_
 refine RunW_st [(0, .p ((fun q : List (List GValue) => AV.lst (q.map (fun q : List GValue => AV.lst (q.flatMap GValue.cs) q.length)) q.length) l0)), (1, .clo 59 []), (5, .c (.own 5 (List.replicate ((l0.length : Int).toNat) ([] : List GValue)).length 1)), (15, .p ((fun q : List (List GValue) => AV.lst (q.map (fun q : List GValue => AV.lst (q.flatMap GValue.cs) q.length)) q.length) l0)), (16, .i (l0.length : Int)), (17, .i (0 : Int))] [(5, .pure ((List.replicate ((l0.length : Int).toNat) ([] : List GValue)).map (fun q : List GValue => AV.lst (q.flatMap GValue.cs) q.length)))] rfl ⟨TLes.same _, (fun _ => .same _), TLes.same _, TLes.same _, TLes.same _, TLes.same _, trivial⟩ ⟨rfl, trivial⟩ ?_
 refine RunW_nil ?_
 refine AW2_block ?_
 refine AW2_st [(0, .p ((fun q : List (List GValue) => AV.lst (q.map (fun q : List GValue => AV.lst (q.flatMap GValue.cs) q.length)) q.length) l0)), (1, .clo 59 []), (5, .c (.own 5 (List.replicate ((l0.length : Int).toNat) ([] : List GValue)).length 1)), (15, .p ((fun q : List (List GValue) => AV.lst (q.map (fun q : List GValue => AV.lst (q.flatMap GValue.cs) q.length)) q.length) l0)), (16, .i (l0.length : Int)), (17, .i (0 : Int))] [(5, .pure ((List.replicate ((l0.length : Int).toNat) ([] : List GValue)).map (fun q : List GValue => AV.lst (q.flatMap GValue.cs) q.length)))] rfl ⟨TLes.same _, (fun _ => .same _), TLes.same _, TLes.same _, TLes.same _, TLes.same _, trivial⟩ ⟨rfl, trivial⟩ ?_
 refine bindK H fun y'10 h14 H => ?_
 refine AW2_loopO (fun a'7 : Int × (List (List GValue)) => (⟨[(0, .p ((fun q : List (List GValue) => AV.lst (q.map (fun q : List GValue => AV.lst (q.flatMap GValue.cs) q.length)) q.length) l0)), (1, .clo 59 []), (5, .c (.own 5 a'7.2.length 1)), (15, .p ((fun q : List (List GValue) => AV.lst (q.map (fun q : List GValue => AV.lst (q.flatMap GValue.cs) q.length)) q.length) l0)), (16, .i (l0.length : Int)), (17, .i a'7.1)], [(5, .pure (a'7.2.map (fun q : List GValue => AV.lst (q.flatMap GValue.cs) q.length)))], 53⟩ : TS)) (fun (y'8 : ((List (List GValue)))) e s' => e = Go.Exit.exit 0 ∧ s' = (⟨[(5, .c (.own 5 y'8.length 1))], [(5, .pure (y'8.map (fun q : List GValue => AV.lst (q.flatMap GValue.cs) q.length)))], 53⟩ : TS)) h14 rfl (fun a x hx => ?_) (fun e s' hs => ?_)
 ·clear H
  obtain ⟨t17_0, out5_0⟩ := a
  have H := hx
  clear hx
  unfold g_ref_ranked_i0_l0 at H
  refine sg [0] rfl ?_
  refine rp rfl rfl (p_bin rfl rfl rfl rfl) ?_
  refine RunW_st [(0, .p ((fun q : List (List GValue) => AV.lst (q.map (fun q : List GValue => AV.lst (q.flatMap GValue.cs) q.length)) q.length) l0)), (1, .clo 59 []), (5, .c (.own 5 out5_0.length 1)), (15, .p ((fun q : List (List GValue) => AV.lst (q.map (fun q : List GValue => AV.lst (q.flatMap GValue.cs) q.length)) q.length) l0)), (16, .i (l0.length : Int)), (17, .i t17_0), (18, .b (decide (t17_0 < (l0.length : Int))))] [(5, .pure (out5_0.map (fun q : List GValue => AV.lst (q.flatMap GValue.cs) q.length)))] rfl ⟨TLes.same _, (fun _ => .same _), TLes.same _, TLes.same _, TLes.same _, TLes.same _, TLes.same _, trivial⟩ ⟨rfl, trivial⟩ ?_
  refine RunW_nil ?_
  refine AW2_seq ?_
  refine AW2_if (p := t17_0 < (l0.length : Int)) rfl (fun h3 => ?_) (fun h3 => ?_)
  ·replace H := ite_then h3 H
   refine AW2_st [(0, .p ((fun q : List (List GValue) => AV.lst (q.map (fun q : List GValue => AV.lst (q.flatMap GValue.cs) q.length)) q.length) l0)), (1, .clo 59 []), (5, .c (.own 5 out5_0.length 1)), (15, .p ((fun q : List (List GValue) => AV.lst (q.map (fun q : List GValue => AV.lst (q.flatMap GValue.cs) q.length)) q.length) l0)), (16, .i (l0.length : Int)), (17, .i t17_0)] [(5, .pure (out5_0.map (fun q : List GValue => AV.lst (q.flatMap GValue.cs) q.length)))] rfl ⟨TLes.same _, (fun _ => .same _), TLes.same _, TLes.same _, TLes.same _, TLes.same _, trivial⟩ ⟨rfl, trivial⟩ ?_
   refine AW2_skip ?_
   refine AW2_seq ?_
   refine AW2_block ?_
   refine sg [0, 1, 2, 3, 4] rfl ?_
   refine rp rfl rfl (p_move rfl rfl) ?_
   refine chkK H fun h4 H => ?_
   refine rp rfl rfl (u_ixl rfl rfl Tryd.underlying50 in_38 rfl rfl (ixe h4) (ixn h4) (lne (ixn h4))) ?_
   refine rp rfl rfl (u_ld rfl rfl Tryd.underlying38 rfl rfl (Sub.map default (ixn h4))) ?_
   refine rp rfl rfl (p_asg rfl rfl) ?_
   refine rp rfl rfl (p_asg rfl rfl) ?_
   refine RunW_st [(0, .p ((fun q : List (List GValue) => AV.lst (q.map (fun q : List GValue => AV.lst (q.flatMap GValue.cs) q.length)) q.length) l0)), (1, .clo 59 []), (5, .c (.own 5 out5_0.length 1)), (6, .i t17_0), (7, .p ((fun q : List GValue => AV.lst (q.flatMap GValue.cs) q.length) (lrd l0 t17_0.toNat))), (15, .p ((fun q : List (List GValue) => AV.lst (q.map (fun q : List GValue => AV.lst (q.flatMap GValue.cs) q.length)) q.length) l0)), (16, .i (l0.length : Int)), (17, .i t17_0)] [(5, .pure (out5_0.map (fun q : List GValue => AV.lst (q.flatMap GValue.cs) q.length)))] rfl ⟨TLes.same _, (fun _ => .same _), TLes.same _, TLes.same _, TLes.same _, TLes.same _, TLes.same _, TLes.same _, trivial⟩ ⟨rfl, trivial⟩ ?_
   refine RunW_nil ?_
   refine sg [0] rfl ?_
   refine rp rfl rfl (p_asg rfl rfl) ?_
   refine RunW_st [(0, .p ((fun q : List (List GValue) => AV.lst (q.map (fun q : List GValue => AV.lst (q.flatMap GValue.cs) q.length)) q.length) l0)), (1, .clo 59 []), (5, .c (.own 5 out5_0.length 1)), (6, .i t17_0), (7, .p ((fun q : List GValue => AV.lst (q.flatMap GValue.cs) q.length) (lrd l0 t17_0.toNat))), (8, .i (0 : Int)), (15, .p ((fun q : List (List GValue) => AV.lst (q.map (fun q : List GValue => AV.lst (q.flatMap GValue.cs) q.length)) q.length) l0)), (16, .i (l0.length : Int)), (17, .i t17_0)] [(5, .pure (out5_0.map (fun q : List GValue => AV.lst (q.flatMap GValue.cs) q.length)))] rfl ⟨TLes.same _, (fun _ => .same _), TLes.same _, TLes.same _, TLes.same _, TLes.same _, TLes.same _, TLes.same _, TLes.same _, trivial⟩ ⟨rfl, trivial⟩ ?_
   refine RunW_nil ?_
   refine AW2_seq ?_
   refine sg [0, 1, 2] rfl ?_
   refine rp rfl rfl (p_move rfl rfl) ?_
   refine rp rfl rfl (p_lenl rfl Tryd.underlying50 rfl rfl) ?_
   refine rp rfl rfl (p_move rfl rfl) ?_
   refine RunW_st [(0, .p ((fun q : List (List GValue) => AV.lst (q.map (fun q : List GValue => AV.lst (q.flatMap GValue.cs) q.length)) q.length) l0)), (1, .clo 59 []), (5, .c (.own 5 out5_0.length 1)), (6, .i t17_0), (7, .p ((fun q : List GValue => AV.lst (q.flatMap GValue.cs) q.length) (lrd l0 t17_0.toNat))), (8, .i (0 : Int)), (15, .p ((fun q : List (List GValue) => AV.lst (q.map (fun q : List GValue => AV.lst (q.flatMap GValue.cs) q.length)) q.length) l0)), (16, .i (l0.length : Int)), (17, .i t17_0), (22, .p ((fun q : List (List GValue) => AV.lst (q.map (fun q : List GValue => AV.lst (q.flatMap GValue.cs) q.length)) q.length) l0)), (23, .i (l0.length : Int)), (24, .i (0 : Int))] [(5, .pure (out5_0.map (fun q : List GValue => AV.lst (q.flatMap GValue.cs) q.length)))] rfl ⟨TLes.same _, (fun _ => .same _), TLes.same _, TLes.same _, TLes.same _, TLes.same _, TLes.same _, TLes.same _, TLes.same _, TLes.same _, TLes.same _, TLes.same _, trivial⟩ ⟨rfl, trivial⟩ ?_
   refine RunW_nil ?_
   refine AW2_block ?_
   refine AW2_st [(0, .p ((fun q : List (List GValue) => AV.lst (q.map (fun q : List GValue => AV.lst (q.flatMap GValue.cs) q.length)) q.length) l0)), (1, .clo 59 []), (5, .c (.own 5 out5_0.length 1)), (6, .i t17_0), (7, .p ((fun q : List GValue => AV.lst (q.flatMap GValue.cs) q.length) (lrd l0 t17_0.toNat))), (8, .i (0 : Int)), (15, .p ((fun q : List (List GValue) => AV.lst (q.map (fun q : List GValue => AV.lst (q.flatMap GValue.cs) q.length)) q.length) l0)), (16, .i (l0.length : Int)), (17, .i t17_0), (22, .p ((fun q : List (List GValue) => AV.lst (q.map (fun q : List GValue => AV.lst (q.flatMap GValue.cs) q.length)) q.length) l0)), (23, .i (l0.length : Int)), (24, .i (0 : Int))] [(5, .pure (out5_0.map (fun q : List GValue => AV.lst (q.flatMap GValue.cs) q.length)))] rfl ⟨TLes.same _, (fun _ => .same _), TLes.same _, TLes.same _, TLes.same _, TLes.same _, TLes.same _, TLes.same _, TLes.same _, TLes.same _, TLes.same _, TLes.same _, trivial⟩ ⟨rfl, trivial⟩ ?_
   refine bindK H fun y'6 h12 H => ?_
   refine AW2_loopO (fun a'3 : Int × Int => (⟨[(0, .p ((fun q : List (List GValue) => AV.lst (q.map (fun q : List GValue => AV.lst (q.flatMap GValue.cs) q.length)) q.length) l0)), (1, .clo 59 []), (5, .c (.own 5 out5_0.length 1)), (6, .i t17_0), (7, .p ((fun q : List GValue => AV.lst (q.flatMap GValue.cs) q.length) (lrd l0 t17_0.toNat))), (8, .i a'3.1), (15, .p ((fun q : List (List GValue) => AV.lst (q.map (fun q : List GValue => AV.lst (q.flatMap GValue.cs) q.length)) q.length) l0)), (16, .i (l0.length : Int)), (17, .i t17_0), (22, .p ((fun q : List (List GValue) => AV.lst (q.map (fun q : List GValue => AV.lst (q.flatMap GValue.cs) q.length)) q.length) l0)), (23, .i (l0.length : Int)), (24, .i a'3.2)], [(5, .pure (out5_0.map (fun q : List GValue => AV.lst (q.flatMap GValue.cs) q.length)))], 53⟩ : TS)) (fun (y'4 : Int) e s' => e = Go.Exit.exit 2 ∧ s' = (⟨[(0, .p ((fun q : List (List GValue) => AV.lst (q.map (fun q : List GValue => AV.lst (q.flatMap GValue.cs) q.length)) q.length) l0)), (1, .clo 59 []), (5, .c (.own 5 out5_0.length 1)), (7, .p ((fun q : List GValue => AV.lst (q.flatMap GValue.cs) q.length) (lrd l0 t17_0.toNat))), (8, .i y'4), (15, .p ((fun q : List (List GValue) => AV.lst (q.map (fun q : List GValue => AV.lst (q.flatMap GValue.cs) q.length)) q.length) l0)), (16, .i (l0.length : Int)), (17, .i t17_0)], [(5, .pure (out5_0.map (fun q : List GValue => AV.lst (q.flatMap GValue.cs) q.length)))], 53⟩ : TS)) h12 rfl (fun a x hx => ?_) (fun e s' hs => ?_)
   ·clear H
    obtain ⟨n8_1, t24_1⟩ := a
    have H := hx
    clear hx
    unfold g_ref_ranked_i0_l1 at H
    refine sg [0] rfl ?_
    refine rp rfl rfl (p_bin rfl rfl rfl rfl) ?_
    refine RunW_st [(0, .p ((fun q : List (List GValue) => AV.lst (q.map (fun q : List GValue => AV.lst (q.flatMap GValue.cs) q.length)) q.length) l0)), (1, .clo 59 []), (5, .c (.own 5 out5_0.length 1)), (6, .i t17_0), (7, .p ((fun q : List GValue => AV.lst (q.flatMap GValue.cs) q.length) (lrd l0 t17_0.toNat))), (8, .i n8_1), (15, .p ((fun q : List (List GValue) => AV.lst (q.map (fun q : List GValue => AV.lst (q.flatMap GValue.cs) q.length)) q.length) l0)), (16, .i (l0.length : Int)), (17, .i t17_0), (22, .p ((fun q : List (List GValue) => AV.lst (q.map (fun q : List GValue => AV.lst (q.flatMap GValue.cs) q.length)) q.length) l0)), (23, .i (l0.length : Int)), (24, .i t24_1), (25, .b (decide (t24_1 < (l0.length : Int))))] [(5, .pure (out5_0.map (fun q : List GValue => AV.lst (q.flatMap GValue.cs) q.length)))] rfl ⟨TLes.same _, (fun _ => .same _), TLes.same _, TLes.same _, TLes.same _, TLes.same _, TLes.same _, TLes.same _, TLes.same _, TLes.same _, TLes.same _, TLes.same _, TLes.same _, trivial⟩ ⟨rfl, trivial⟩ ?_
    refine RunW_nil ?_
    refine AW2_seq ?_
    refine AW2_if (p := t24_1 < (l0.length : Int)) rfl (fun h5 => ?_) (fun h5 => ?_)
    ·replace H := ite_then h5 H
     refine AW2_st [(0, .p ((fun q : List (List GValue) => AV.lst (q.map (fun q : List GValue => AV.lst (q.flatMap GValue.cs) q.length)) q.length) l0)), (1, .clo 59 []), (5, .c (.own 5 out5_0.length 1)), (6, .i t17_0), (7, .p ((fun q : List GValue => AV.lst (q.flatMap GValue.cs) q.length) (lrd l0 t17_0.toNat))), (8, .i n8_1), (15, .p ((fun q : List (List GValue) => AV.lst (q.map (fun q : List GValue => AV.lst (q.flatMap GValue.cs) q.length)) q.length) l0)), (16, .i (l0.length : Int)), (17, .i t17_0), (22, .p ((fun q : List (List GValue) => AV.lst (q.map (fun q : List GValue => AV.lst (q.flatMap GValue.cs) q.length)) q.length) l0)), (23, .i (l0.length : Int)), (24, .i t24_1)] [(5, .pure (out5_0.map (fun q : List GValue => AV.lst (q.flatMap GValue.cs) q.length)))] rfl ⟨TLes.same _, (fun _ => .same _), TLes.same _, TLes.same _, TLes.same _, TLes.same _, TLes.same _, TLes.same _, TLes.same _, TLes.same _, TLes.same _, TLes.same _, trivial⟩ ⟨rfl, trivial⟩ ?_
     refine AW2_skip ?_
     refine AW2_seq ?_
     refine bindK H fun j'1 h6 H => ?_
     refine AW2_mid (⟨[(0, .p ((fun q : List (List GValue) => AV.lst (q.map (fun q : List GValue => AV.lst (q.flatMap GValue.cs) q.length)) q.length) l0)), (1, .clo 59 []), (5, .c (.own 5 out5_0.length 1)), (6, .i t17_0), (7, .p ((fun q : List GValue => AV.lst (q.flatMap GValue.cs) q.length) (lrd l0 t17_0.toNat))), (8, .i j'1), (15, .p ((fun q : List (List GValue) => AV.lst (q.map (fun q : List GValue => AV.lst (q.flatMap GValue.cs) q.length)) q.length) l0)), (16, .i (l0.length : Int)), (17, .i t17_0), (22, .p ((fun q : List (List GValue) => AV.lst (q.map (fun q : List GValue => AV.lst (q.flatMap GValue.cs) q.length)) q.length) l0)), (23, .i (l0.length : Int)), (24, .i t24_1)], [(5, .pure (out5_0.map (fun q : List GValue => AV.lst (q.flatMap GValue.cs) q.length)))], 53⟩ : TS) ?_ ?_
     ·clear H
      have H := h6
      clear h6
      refine AW2_block ?_
      refine sg [0, 1, 2, 3, 4] rfl ?_
      refine rp rfl rfl (p_move rfl rfl) ?_
      refine chkK H fun h7 H => ?_
      refine rp rfl rfl (u_ixl rfl rfl Tryd.underlying50 in_38 rfl rfl (ixe h7) (ixn h7) (lne (ixn h7))) ?_
      refine rp rfl rfl (u_ld rfl rfl Tryd.underlying38 rfl rfl (Sub.map default (ixn h7))) ?_
      refine rp rfl rfl (p_asg rfl rfl) ?_
      refine rp rfl rfl (p_asg rfl rfl) ?_
      refine RunW_st [(0, .p ((fun q : List (List GValue) => AV.lst (q.map (fun q : List GValue => AV.lst (q.flatMap GValue.cs) q.length)) q.length) l0)), (1, .clo 59 []), (5, .c (.own 5 out5_0.length 1)), (6, .i t17_0), (7, .p ((fun q : List GValue => AV.lst (q.flatMap GValue.cs) q.length) (lrd l0 t17_0.toNat))), (8, .i n8_1), (9, .i t24_1), (10, .p ((fun q : List GValue => AV.lst (q.flatMap GValue.cs) q.length) (lrd l0 t24_1.toNat))), (15, .p ((fun q : List (List GValue) => AV.lst (q.map (fun q : List GValue => AV.lst (q.flatMap GValue.cs) q.length)) q.length) l0)), (16, .i (l0.length : Int)), (17, .i t17_0), (22, .p ((fun q : List (List GValue) => AV.lst (q.map (fun q : List GValue => AV.lst (q.flatMap GValue.cs) q.length)) q.length) l0)), (23, .i (l0.length : Int)), (24, .i t24_1)] [(5, .pure (out5_0.map (fun q : List GValue => AV.lst (q.flatMap GValue.cs) q.length)))] rfl ⟨TLes.same _, (fun _ => .same _), TLes.same _, TLes.same _, TLes.same _, TLes.same _, TLes.same _, TLes.same _, TLes.same _, TLes.same _, TLes.same _, TLes.same _, TLes.same _, TLes.same _, trivial⟩ ⟨rfl, trivial⟩ ?_
      refine RunW_nil ?_
      refine sg [0, 1, 2, 3, 4] rfl ?_
      refine rp rfl rfl (p_move rfl rfl) ?_
      refine rp rfl rfl (p_move rfl rfl) ?_
      refine rp rfl rfl (p_move rfl rfl) ?_
      refine bindK H fun r'2 h8 H => ?_
      refine rp rfl rfl (p_callp rfl rfl rfl Tryd.func59 rfl rfl (g_ref_rowsOf_1_ac h8) ⟨rfl, rfl, trivial⟩) ?_
      refine rp rfl rfl (p_asg rfl rfl) ?_
      refine RunW_st [(0, .p ((fun q : List (List GValue) => AV.lst (q.map (fun q : List GValue => AV.lst (q.flatMap GValue.cs) q.length)) q.length) l0)), (1, .clo 59 []), (5, .c (.own 5 out5_0.length 1)), (6, .i t17_0), (7, .p ((fun q : List GValue => AV.lst (q.flatMap GValue.cs) q.length) (lrd l0 t17_0.toNat))), (8, .i n8_1), (9, .i t24_1), (11, .i r'2), (15, .p ((fun q : List (List GValue) => AV.lst (q.map (fun q : List GValue => AV.lst (q.flatMap GValue.cs) q.length)) q.length) l0)), (16, .i (l0.length : Int)), (17, .i t17_0), (22, .p ((fun q : List (List GValue) => AV.lst (q.map (fun q : List GValue => AV.lst (q.flatMap GValue.cs) q.length)) q.length) l0)), (23, .i (l0.length : Int)), (24, .i t24_1)] [(5, .pure (out5_0.map (fun q : List GValue => AV.lst (q.flatMap GValue.cs) q.length)))] rfl ⟨TLes.same _, (fun _ => .same _), TLes.same _, TLes.same _, TLes.same _, TLes.same _, TLes.same _, TLes.same _, TLes.same _, TLes.same _, TLes.same _, TLes.same _, TLes.same _, TLes.same _, trivial⟩ ⟨rfl, trivial⟩ ?_
      refine RunW_nil ?_
      refine AW2_seq ?_
      refine AW2_mid (⟨[(0, .p ((fun q : List (List GValue) => AV.lst (q.map (fun q : List GValue => AV.lst (q.flatMap GValue.cs) q.length)) q.length) l0)), (1, .clo 59 []), (5, .c (.own 5 out5_0.length 1)), (6, .i t17_0), (7, .p ((fun q : List GValue => AV.lst (q.flatMap GValue.cs) q.length) (lrd l0 t17_0.toNat))), (8, .i n8_1), (15, .p ((fun q : List (List GValue) => AV.lst (q.map (fun q : List GValue => AV.lst (q.flatMap GValue.cs) q.length)) q.length) l0)), (16, .i (l0.length : Int)), (17, .i t17_0), (22, .p ((fun q : List (List GValue) => AV.lst (q.map (fun q : List GValue => AV.lst (q.flatMap GValue.cs) q.length)) q.length) l0)), (23, .i (l0.length : Int)), (24, .i t24_1), (43, .b (decide ((r'2 < (0 : Int)) ∨ ((r'2 = (0 : Int)) ∧ (t24_1 < t17_0)))))], [(5, .pure (out5_0.map (fun q : List GValue => AV.lst (q.flatMap GValue.cs) q.length)))], 53⟩ : TS) ?_ ?_
      ·refine AW2_reg [0, 1, 2, 3, 4, 5, 6, 7, 8, 9, 10] rfl ?_
       refine rp rfl rfl (p_move rfl rfl) ?_
       refine rp rfl rfl (p_bin rfl rfl rfl rfl) ?_
       refine rp rfl rfl (p_move rfl rfl) ?_
       refine (Classical.em (r'2 < (0 : Int))).elim (fun h9 => ?_) (fun h9 => ?_)
       ·refine r_off rfl rfl rfl rfl (decide_eq_true h9) rfl rfl ?_
        refine r_off rfl rfl rfl rfl (decide_eq_true h9) rfl rfl ?_
        refine r_off rfl rfl rfl rfl (decide_eq_true h9) rfl rfl ?_
        refine r_off2 rfl rfl rfl rfl rfl rfl ?_
        refine r_off2 rfl rfl rfl rfl rfl rfl ?_
        refine r_off2 rfl rfl rfl rfl rfl rfl ?_
        refine r_off rfl rfl rfl rfl (decide_eq_true h9) rfl rfl ?_
        refine rp rfl rfl (p_pkt rfl rfl (decide_eq_true h9) (tb (decide_eq_true (p := (r'2 < (0 : Int)) ∨ ((r'2 = (0 : Int)) ∧ (t24_1 < t17_0))) (Or.inl h9)).symm)) ?_
        refine RunW_st [(0, .p ((fun q : List (List GValue) => AV.lst (q.map (fun q : List GValue => AV.lst (q.flatMap GValue.cs) q.length)) q.length) l0)), (1, .clo 59 []), (5, .c (.own 5 out5_0.length 1)), (6, .i t17_0), (7, .p ((fun q : List GValue => AV.lst (q.flatMap GValue.cs) q.length) (lrd l0 t17_0.toNat))), (8, .i n8_1), (15, .p ((fun q : List (List GValue) => AV.lst (q.map (fun q : List GValue => AV.lst (q.flatMap GValue.cs) q.length)) q.length) l0)), (16, .i (l0.length : Int)), (17, .i t17_0), (22, .p ((fun q : List (List GValue) => AV.lst (q.map (fun q : List GValue => AV.lst (q.flatMap GValue.cs) q.length)) q.length) l0)), (23, .i (l0.length : Int)), (24, .i t24_1), (43, .b (decide ((r'2 < (0 : Int)) ∨ ((r'2 = (0 : Int)) ∧ (t24_1 < t17_0)))))] [(5, .pure (out5_0.map (fun q : List GValue => AV.lst (q.flatMap GValue.cs) q.length)))] rfl ⟨TLes.same _, (fun _ => .same _), TLes.same _, TLes.same _, TLes.same _, TLes.same _, TLes.same _, TLes.same _, TLes.same _, TLes.same _, TLes.same _, TLes.same _, TLes.same _, trivial⟩ ⟨rfl, trivial⟩ ?_
        exact RunW_nil rfl
       ·refine r_on rfl rfl rfl rfl (decide_eq_false h9) rfl (PureD.opD (p_move rfl rfl)) ?_
        refine r_on rfl rfl rfl rfl (decide_eq_false h9) rfl (PureD.opD (p_ieq rfl rfl rfl)) ?_
        refine r_on rfl rfl rfl rfl (decide_eq_false h9) rfl (PureD.opD (p_move rfl rfl)) ?_
        refine (Classical.em (r'2 = (0 : Int))).elim (fun h10 => ?_) (fun h10 => ?_)
        ·refine r_on rfl rfl rfl rfl (decide_eq_true h10) rfl (PureD.opD (p_move rfl rfl)) ?_
         refine r_on rfl rfl rfl rfl (decide_eq_true h10) rfl (PureD.opD (p_move rfl rfl)) ?_
         refine r_on rfl rfl rfl rfl (decide_eq_true h10) rfl (PureD.opD (p_bin rfl rfl rfl rfl)) ?_
         refine r_on rfl rfl rfl rfl (decide_eq_false h9) rfl (PureD.opD (p_pkt rfl rfl (decide_eq_true h10) (tb ((and_l (p := r'2 = (0 : Int)) (q := t24_1 < t17_0) h10))))) ?_
         refine rp rfl rfl (p_pkf rfl rfl (decide_eq_false h9) (tb ((or_l (p := r'2 < (0 : Int)) (q := (r'2 = (0 : Int)) ∧ (t24_1 < t17_0)) h9)))) ?_
         refine RunW_st [(0, .p ((fun q : List (List GValue) => AV.lst (q.map (fun q : List GValue => AV.lst (q.flatMap GValue.cs) q.length)) q.length) l0)), (1, .clo 59 []), (5, .c (.own 5 out5_0.length 1)), (6, .i t17_0), (7, .p ((fun q : List GValue => AV.lst (q.flatMap GValue.cs) q.length) (lrd l0 t17_0.toNat))), (8, .i n8_1), (15, .p ((fun q : List (List GValue) => AV.lst (q.map (fun q : List GValue => AV.lst (q.flatMap GValue.cs) q.length)) q.length) l0)), (16, .i (l0.length : Int)), (17, .i t17_0), (22, .p ((fun q : List (List GValue) => AV.lst (q.map (fun q : List GValue => AV.lst (q.flatMap GValue.cs) q.length)) q.length) l0)), (23, .i (l0.length : Int)), (24, .i t24_1), (43, .b (decide ((r'2 < (0 : Int)) ∨ ((r'2 = (0 : Int)) ∧ (t24_1 < t17_0)))))] [(5, .pure (out5_0.map (fun q : List GValue => AV.lst (q.flatMap GValue.cs) q.length)))] rfl ⟨TLes.same _, (fun _ => .same _), TLes.same _, TLes.same _, TLes.same _, TLes.same _, TLes.same _, TLes.same _, TLes.same _, TLes.same _, TLes.same _, TLes.same _, TLes.same _, trivial⟩ ⟨rfl, trivial⟩ ?_
         exact RunW_nil rfl
        ·refine r_off rfl rfl rfl rfl (decide_eq_false h10) rfl rfl ?_
         refine r_off rfl rfl rfl rfl (decide_eq_false h10) rfl rfl ?_
         refine r_off rfl rfl rfl rfl (decide_eq_false h10) rfl rfl ?_
         refine r_on rfl rfl rfl rfl (decide_eq_false h9) rfl (PureD.opD (p_pkf rfl rfl (decide_eq_false h10) (tb (decide_eq_false (p := (r'2 = (0 : Int)) ∧ (t24_1 < t17_0)) (fun x => h10 x.1)).symm))) ?_
         refine rp rfl rfl (p_pkf rfl rfl (decide_eq_false h9) (tb ((or_l (p := r'2 < (0 : Int)) (q := (r'2 = (0 : Int)) ∧ (t24_1 < t17_0)) h9)))) ?_
         refine RunW_st [(0, .p ((fun q : List (List GValue) => AV.lst (q.map (fun q : List GValue => AV.lst (q.flatMap GValue.cs) q.length)) q.length) l0)), (1, .clo 59 []), (5, .c (.own 5 out5_0.length 1)), (6, .i t17_0), (7, .p ((fun q : List GValue => AV.lst (q.flatMap GValue.cs) q.length) (lrd l0 t17_0.toNat))), (8, .i n8_1), (15, .p ((fun q : List (List GValue) => AV.lst (q.map (fun q : List GValue => AV.lst (q.flatMap GValue.cs) q.length)) q.length) l0)), (16, .i (l0.length : Int)), (17, .i t17_0), (22, .p ((fun q : List (List GValue) => AV.lst (q.map (fun q : List GValue => AV.lst (q.flatMap GValue.cs) q.length)) q.length) l0)), (23, .i (l0.length : Int)), (24, .i t24_1), (43, .b (decide ((r'2 < (0 : Int)) ∨ ((r'2 = (0 : Int)) ∧ (t24_1 < t17_0)))))] [(5, .pure (out5_0.map (fun q : List GValue => AV.lst (q.flatMap GValue.cs) q.length)))] rfl ⟨TLes.same _, (fun _ => .same _), TLes.same _, TLes.same _, TLes.same _, TLes.same _, TLes.same _, TLes.same _, TLes.same _, TLes.same _, TLes.same _, TLes.same _, TLes.same _, trivial⟩ ⟨rfl, trivial⟩ ?_
         exact RunW_nil rfl
      ·refine AW2_if (p := (r'2 < (0 : Int)) ∨ ((r'2 = (0 : Int)) ∧ (t24_1 < t17_0))) rfl (fun h11 => ?_) (fun h11 => ?_)
       ·replace H := ite_then h11 H
        refine AW2_reg [0, 1, 2] rfl ?_
        refine rp rfl rfl (p_move rfl rfl) ?_
        refine rp rfl rfl (p_bin rfl rfl rfl rfl) ?_
        refine rp rfl rfl (p_asg rfl rfl) ?_
        refine RunW_st [(0, .p ((fun q : List (List GValue) => AV.lst (q.map (fun q : List GValue => AV.lst (q.flatMap GValue.cs) q.length)) q.length) l0)), (1, .clo 59 []), (5, .c (.own 5 out5_0.length 1)), (6, .i t17_0), (7, .p ((fun q : List GValue => AV.lst (q.flatMap GValue.cs) q.length) (lrd l0 t17_0.toNat))), (8, .i (w64 (n8_1 + (1 : Int)))), (15, .p ((fun q : List (List GValue) => AV.lst (q.map (fun q : List GValue => AV.lst (q.flatMap GValue.cs) q.length)) q.length) l0)), (16, .i (l0.length : Int)), (17, .i t17_0), (22, .p ((fun q : List (List GValue) => AV.lst (q.map (fun q : List GValue => AV.lst (q.flatMap GValue.cs) q.length)) q.length) l0)), (23, .i (l0.length : Int)), (24, .i t24_1)] [(5, .pure (out5_0.map (fun q : List GValue => AV.lst (q.flatMap GValue.cs) q.length)))] rfl ⟨TLes.same _, (fun _ => .same _), TLes.same _, TLes.same _, TLes.same _, TLes.same _, TLes.same _, TLes.same _, TLes.same _, TLes.same _, TLes.same _, TLes.same _, trivial⟩ ⟨rfl, trivial⟩ ?_
        refine RunW_nil ?_
        have hz := some_elim H
        subst hz
        exact rfl
       ·replace H := ite_else h11 H
        refine AW2_st [(0, .p ((fun q : List (List GValue) => AV.lst (q.map (fun q : List GValue => AV.lst (q.flatMap GValue.cs) q.length)) q.length) l0)), (1, .clo 59 []), (5, .c (.own 5 out5_0.length 1)), (6, .i t17_0), (7, .p ((fun q : List GValue => AV.lst (q.flatMap GValue.cs) q.length) (lrd l0 t17_0.toNat))), (8, .i n8_1), (15, .p ((fun q : List (List GValue) => AV.lst (q.map (fun q : List GValue => AV.lst (q.flatMap GValue.cs) q.length)) q.length) l0)), (16, .i (l0.length : Int)), (17, .i t17_0), (22, .p ((fun q : List (List GValue) => AV.lst (q.map (fun q : List GValue => AV.lst (q.flatMap GValue.cs) q.length)) q.length) l0)), (23, .i (l0.length : Int)), (24, .i t24_1)] [(5, .pure (out5_0.map (fun q : List GValue => AV.lst (q.flatMap GValue.cs) q.length)))] rfl ⟨TLes.same _, (fun _ => .same _), TLes.same _, TLes.same _, TLes.same _, TLes.same _, TLes.same _, TLes.same _, TLes.same _, TLes.same _, TLes.same _, TLes.same _, trivial⟩ ⟨rfl, trivial⟩ ?_
        refine AW2_skip ?_
        have hz := some_elim H
        subst hz
        exact rfl
     ·refine AW2_reg [0, 1] rfl ?_
      refine rp rfl rfl (p_bin rfl rfl rfl rfl) ?_
      refine rp rfl rfl (p_move rfl rfl) ?_
      refine RunW_st [(0, .p ((fun q : List (List GValue) => AV.lst (q.map (fun q : List GValue => AV.lst (q.flatMap GValue.cs) q.length)) q.length) l0)), (1, .clo 59 []), (5, .c (.own 5 out5_0.length 1)), (6, .i t17_0), (7, .p ((fun q : List GValue => AV.lst (q.flatMap GValue.cs) q.length) (lrd l0 t17_0.toNat))), (8, .i j'1), (15, .p ((fun q : List (List GValue) => AV.lst (q.map (fun q : List GValue => AV.lst (q.flatMap GValue.cs) q.length)) q.length) l0)), (16, .i (l0.length : Int)), (17, .i t17_0), (22, .p ((fun q : List (List GValue) => AV.lst (q.map (fun q : List GValue => AV.lst (q.flatMap GValue.cs) q.length)) q.length) l0)), (23, .i (l0.length : Int)), (24, .i (w64 (t24_1 + (1 : Int))))] [(5, .pure (out5_0.map (fun q : List GValue => AV.lst (q.flatMap GValue.cs) q.length)))] rfl ⟨TLes.same _, (fun _ => .same _), TLes.same _, TLes.same _, TLes.same _, TLes.same _, TLes.same _, TLes.same _, TLes.same _, TLes.same _, TLes.same _, TLes.same _, trivial⟩ ⟨rfl, trivial⟩ ?_
      refine RunW_nil ?_
      have hz := some_elim H
      subst hz
      exact ⟨rfl, rfl⟩
    ·replace H := ite_else h5 H
     refine AW2_st [(0, .p ((fun q : List (List GValue) => AV.lst (q.map (fun q : List GValue => AV.lst (q.flatMap GValue.cs) q.length)) q.length) l0)), (1, .clo 59 []), (5, .c (.own 5 out5_0.length 1)), (7, .p ((fun q : List GValue => AV.lst (q.flatMap GValue.cs) q.length) (lrd l0 t17_0.toNat))), (8, .i n8_1), (15, .p ((fun q : List (List GValue) => AV.lst (q.map (fun q : List GValue => AV.lst (q.flatMap GValue.cs) q.length)) q.length) l0)), (16, .i (l0.length : Int)), (17, .i t17_0)] [(5, .pure (out5_0.map (fun q : List GValue => AV.lst (q.flatMap GValue.cs) q.length)))] rfl ⟨TLes.same _, (fun _ => .same _), TLes.same _, TLes.same _, TLes.same _, TLes.same _, TLes.same _, TLes.same _, trivial⟩ ⟨rfl, trivial⟩ ?_
     refine AW2_exit ?_
     refine thenQ2_exit ?_
     have hz := some_elim H
     subst hz
     exact ⟨rfl, rfl⟩
   ·obtain ⟨rfl, rfl⟩ := hs
    refine ⟨by simp, ?_⟩
    refine blockQ2_exit ?_
    refine AW2_reg [0, 1, 2, 3, 4] rfl ?_
    refine rp rfl rfl (p_move rfl rfl) ?_
    refine rp rfl rfl (p_move rfl rfl) ?_
    refine rp rfl rfl (p_move rfl rfl) ?_
    refine chkK H fun h13 H => ?_
    refine rp rfl rfl (u_ixo rfl rfl Tryd.underlying50 in_38 rfl rfl (lne (ixn h13)) rfl (ixe h13) (ixn h13)) ?_
    refine r_op rfl rfl (u_st rfl rfl rfl rfl rfl in_38 rfl (lne (ixn h13)) (Upd.trans (Sub.refl _) (Upd.map (ixn h13)) (Upd.refl (by simp [bcells_length])))) ?_
    refine RunW_st [(0, .p ((fun q : List (List GValue) => AV.lst (q.map (fun q : List GValue => AV.lst (q.flatMap GValue.cs) q.length)) q.length) l0)), (1, .clo 59 []), (5, .c (.own 5 (out5_0.set y'6.toNat (lrd l0 t17_0.toNat)).length 1)), (15, .p ((fun q : List (List GValue) => AV.lst (q.map (fun q : List GValue => AV.lst (q.flatMap GValue.cs) q.length)) q.length) l0)), (16, .i (l0.length : Int)), (17, .i t17_0)] [(5, .pure ((out5_0.set y'6.toNat (lrd l0 t17_0.toNat)).map (fun q : List GValue => AV.lst (q.flatMap GValue.cs) q.length)))] rfl ⟨TLes.same _, (fun _ => .same _), TLes.own (by simp only [List.length_set]), TLes.same _, TLes.same _, TLes.same _, trivial⟩ ⟨rfl, trivial⟩ ?_
    refine RunW_nil ?_
    refine AW2_reg [0, 1] rfl ?_
    refine rp rfl rfl (p_bin rfl rfl rfl rfl) ?_
    refine rp rfl rfl (p_move rfl rfl) ?_
    refine RunW_st [(0, .p ((fun q : List (List GValue) => AV.lst (q.map (fun q : List GValue => AV.lst (q.flatMap GValue.cs) q.length)) q.length) l0)), (1, .clo 59 []), (5, .c (.own 5 (out5_0.set y'6.toNat (lrd l0 t17_0.toNat)).length 1)), (15, .p ((fun q : List (List GValue) => AV.lst (q.map (fun q : List GValue => AV.lst (q.flatMap GValue.cs) q.length)) q.length) l0)), (16, .i (l0.length : Int)), (17, .i (w64 (t17_0 + (1 : Int))))] [(5, .pure ((out5_0.set y'6.toNat (lrd l0 t17_0.toNat)).map (fun q : List GValue => AV.lst (q.flatMap GValue.cs) q.length)))] rfl ⟨TLes.same _, (fun _ => .same _), TLes.same _, TLes.same _, TLes.same _, TLes.same _, trivial⟩ ⟨rfl, trivial⟩ ?_
    refine RunW_nil ?_
    have hz := some_elim H
    subst hz
    exact ⟨rfl, rfl⟩
  ·replace H := ite_else h3 H
   refine as2 [(5, .c (.own 5 out5_0.length 1))] [(5, .pure (out5_0.map (fun q : List GValue => AV.lst (q.flatMap GValue.cs) q.length)))] rfl rfl rfl ?_
   refine AW2_exit ?_
   refine thenQ2_exit ?_
   have hz := some_elim H
   subst hz
   exact ⟨rfl, rfl⟩
 ·obtain ⟨rfl, rfl⟩ := hs
  refine ⟨by simp, ?_⟩
  refine blockQ2_exit ?_
  refine sg [0, 1] rfl ?_
  refine rp rfl rfl (p_move rfl rfl) ?_
  refine rp rfl rfl (p_asg rfl rfl) ?_
  refine rs [(4, .c (.own 5 y'10.length 1))] [(5, .pure (y'10.map (fun q : List GValue => AV.lst (q.flatMap GValue.cs) q.length)))] rfl rfl rfl ?_
  refine RunW_gho (Gho_ren 5 4 rfl rfl rfl rfl rfl) ?_
  refine rz [(4, .c (.own 4 y'10.length 1))] [(4, .pure (y'10.map (fun q : List GValue => AV.lst (q.flatMap GValue.cs) q.length)))] rfl rfl rfl ?_
  refine as2 [(4, .c (.own 4 y'10.length 1))] [(4, .pure (y'10.map (fun q : List GValue => AV.lst (q.flatMap GValue.cs) q.length)))] rfl rfl rfl ?_
  refine AW2_ret ?_
  have hz := some_elim H
  subst hz
  exact ⟨⟨res_tmp (.same _), trivial⟩, ⟨rfl, trivial⟩⟩
theorem g_ref_ranked_i0_ac {l0 : List (List GValue)} {r : (List (List GValue))} (H : g_ref_ranked_i0 l0 = some r) : ACp Tryd.prog 58 [((fun q : List (List GValue) => AV.lst (q.map (fun q : List GValue => AV.lst (q.flatMap GValue.cs) q.length)) q.length) l0), .clo 59 []] ((fun q : List (List GValue) => AV.lst (q.map (fun q : List GValue => AV.lst (q.flatMap GValue.cs) q.length)) q.length) r) := ACp_pub (g_ref_ranked_i0_ac2 H) (fun _ _ hm => lent_own hm rfl (ml (fun q : List GValue => AV.lst (q.flatMap GValue.cs) q.length) r) (by decide))

/-! chirographref.rowsOf -/
noncomputable def g_ref_rowsOf_l1 (t0 : GTable) (t13_0 : Int) : Int × (List (List GValue)) → Option ((Int × (List (List GValue))) ⊕ (((List (List GValue)))))
  | (t22_1, l8_1) => (if t22_1 < (4 : Int) then (if 0 ≤ t22_1 ∧ t22_1 < (4 : Int) then (if ((vrd (vrd t0.Drawers t13_0.toNat) t22_1.toNat).Full) = true then if room (l8_1.length + ([(vrd (vrd t0.Drawers t13_0.toNat) t22_1.toNat).Row] : List (List GValue)).length) 24 then letO (l8_1 ++ ([(vrd (vrd t0.Drawers t13_0.toNat) t22_1.toNat).Row] : List (List GValue))) fun l8'3 => some l8'3 else none else some l8_1) else none).bind fun j'2 => some (.inl (w64 (t22_1 + (1 : Int)), j'2)) else some (.inr l8_1))
noncomputable def g_ref_rowsOf_l0 (t0 : GTable) (open1 : Vector Bool 2) : Int × (List (List GValue)) → Option ((Int × (List (List GValue))) ⊕ (((List (List GValue)))))
  | (t13_0, out5_0) => (if t13_0 < (2 : Int) then (if 0 ≤ t13_0 ∧ t13_0 < (2 : Int) then if 0 ≤ t13_0 ∧ t13_0 < (2 : Int) then (if (!(vrd open1 t13_0.toNat)) = true then some out5_0 else (loopO (g_ref_rowsOf_l1 t0 t13_0) ((0 : Int), ([] : List (List GValue)))).bind fun y'7 => (g_ref_ranked_i0 y'7).bind fun r'8 => if room (out5_0.length + r'8.length) 24 then some (out5_0 ++ r'8) else none) else none else none).bind fun j'1 => some (.inl (w64 (t13_0 + (1 : Int)), j'1)) else some (.inr out5_0))
noncomputable def g_ref_rowsOf (t0 : GTable) (open1 : Vector Bool 2) : Option ((List (List GValue))) :=
  (loopO (g_ref_rowsOf_l0 t0 open1) ((0 : Int), ([] : List (List GValue)))).bind fun y'12 => some y'12
set_option maxHeartbeats 4000000 in
set_option maxRecDepth 100000 in
theorem g_ref_rowsOf_ac2 {t0 : GTable} {open1 : Vector Bool 2} {r : (List (List GValue))} (H : g_ref_rowsOf t0 open1 = some r) : AC2 Tryd.prog 47 (pureT [(.agg (GTable.cs t0)), (.agg (open1.toList.map AV.bool))]) [] (.c (.own 4 r.length 1)) [(4, .pure (r.map (fun q : List GValue => AV.lst (q.flatMap GValue.cs) q.length)))] := by
 refine AC2_of_body (vs := [.c (.own 4 r.length 1)]) Tryd.func47 rfl rfl (Nat.le_of_ble_eq_true rfl) rfl ?_
 unfold g_ref_rowsOf at H
 refine as2 [(0, .g (GTable.cs t0)), (1, .g (open1.toList.map AV.bool))] [] rfl rfl rfl ?_
 refine sg [0, 1, 2] rfl ?_
 refine r_op rfl rfl (MakeD.opD (n_box 2 rfl rfl) rfl rfl rfl rfl) ?_
 refine r_op rfl rfl (MakeD.opD (n_box 3 rfl rfl) rfl rfl rfl rfl) ?_
 refine rp rfl rfl (p_asgn rfl) ?_
 refine rz [(2, .q 2 (0)), (3, .q 3 (0))] [(2, .pure (GTable.cs t0)), (3, .pure (open1.toList.map AV.bool))] rfl rfl rfl ?_
 refine sg [0] rfl ?_
 refine rp rfl rfl (p_asgn rfl) ?_
 refine rz [(2, .q 2 (0)), (3, .q 3 (0)), (5, .p .nil)] [(2, .pure (GTable.cs t0)), (3, .pure (open1.toList.map AV.bool))] rfl rfl rfl ?_
 refine AW2_seq ?_
 refine sg [0, 1, 2] rfl ?_
 refine rp rfl rfl (u_fa rfl rfl Tryd.underlying46 rfl in_44 (Nat.succ_ne_zero _) rfl rfl (ne_of_lt (n := 0) (Nat.lt_of_lt_of_eq (by decide) (Eq.symm (GTable.len t0))))) ?_
 refine rp rfl rfl (u_lda rfl rfl Tryd.underlying44 rfl in_44 rfl (Nat.succ_pos _) ((Sub.refl _).trans (GTable.sub3 t0)) (vfm_len (fun x => (vfm_len (fun x => (GCell.len x)) x)) t0.Drawers)) ?_
 refine rp rfl rfl (p_move rfl rfl) ?_
 refine rz [(3, .q 3 (0)), (5, .p .nil), (12, .g (t0.Drawers.toList.flatMap (fun v : Vector GCell 4 => v.toList.flatMap GCell.cs))), (13, .i (0 : Int))] [(3, .pure (open1.toList.map AV.bool))] rfl rfl rfl ?_
 refine AW2_block ?_
 refine as2 [(3, .q 3 (0)), (5, .p .nil), (12, .g (t0.Drawers.toList.flatMap (fun v : Vector GCell 4 => v.toList.flatMap GCell.cs))), (13, .i (0 : Int))] [(3, .pure (open1.toList.map AV.bool))] rfl rfl rfl ?_
 refine AW2_gho (Gho_own (d := 5) (b := 5) (z := 1) rfl rfl rfl rfl) ?_
 refine AW2_st [(3, .q 3 (0)), (5, .c (.own 5 ([] : List (List GValue)).length 1)), (12, .g (t0.Drawers.toList.flatMap (fun v : Vector GCell 4 => v.toList.flatMap GCell.cs))), (13, .i (0 : Int))] [(3, .pure (open1.toList.map AV.bool)), (5, .pure (([] : List (List GValue)).map (fun q : List GValue => AV.lst (q.flatMap GValue.cs) q.length)))] rfl ⟨TLes.same _, TLes.own rfl, TLes.same _, TLes.same _, trivial⟩ ⟨rfl, rfl, trivial⟩ ?_
 refine bindK H fun y'12 h14 H => ?_
 refine AW2_loopO (fun a'9 : Int × (List (List GValue)) => (⟨[(3, .q 3 (0)), (5, .c (.own 5 a'9.2.length 1)), (12, .g (t0.Drawers.toList.flatMap (fun v : Vector GCell 4 => v.toList.flatMap GCell.cs))), (13, .i a'9.1)], [(3, .pure (open1.toList.map AV.bool)), (5, .pure (a'9.2.map (fun q : List GValue => AV.lst (q.flatMap GValue.cs) q.length)))], 39⟩ : TS)) (fun (y'10 : ((List (List GValue)))) e s' => e = Go.Exit.exit 0 ∧ s' = (⟨[(5, .c (.own 5 y'10.length 1))], [(5, .pure (y'10.map (fun q : List GValue => AV.lst (q.flatMap GValue.cs) q.length)))], 39⟩ : TS)) h14 rfl (fun a x hx => ?_) (fun e s' hs => ?_)
 ·clear H
  obtain ⟨t13_0, out5_0⟩ := a
  have H := hx
  clear hx
  unfold g_ref_rowsOf_l0 at H
  refine sg [0] rfl ?_
  refine rp rfl rfl (p_bin rfl rfl rfl rfl) ?_
  refine rz [(3, .q 3 (0)), (5, .c (.own 5 out5_0.length 1)), (12, .g (t0.Drawers.toList.flatMap (fun v : Vector GCell 4 => v.toList.flatMap GCell.cs))), (13, .i t13_0), (14, .b (decide (t13_0 < (2 : Int))))] [(3, .pure (open1.toList.map AV.bool)), (5, .pure (out5_0.map (fun q : List GValue => AV.lst (q.flatMap GValue.cs) q.length)))] rfl rfl rfl ?_
  refine AW2_seq ?_
  refine AW2_if (p := t13_0 < (2 : Int)) rfl (fun h1 => ?_) (fun h1 => ?_)
  ·replace H := ite_then h1 H
   refine as2 [(3, .q 3 (0)), (5, .c (.own 5 out5_0.length 1)), (12, .g (t0.Drawers.toList.flatMap (fun v : Vector GCell 4 => v.toList.flatMap GCell.cs))), (13, .i t13_0)] [(3, .pure (open1.toList.map AV.bool)), (5, .pure (out5_0.map (fun q : List GValue => AV.lst (q.flatMap GValue.cs) q.length)))] rfl rfl rfl ?_
   refine AW2_skip ?_
   refine AW2_seq ?_
   refine bindK H fun j'1 h2 H => ?_
   refine AW2_mid (⟨[(3, .q 3 (0)), (5, .c (.own 5 j'1.length 1)), (12, .g (t0.Drawers.toList.flatMap (fun v : Vector GCell 4 => v.toList.flatMap GCell.cs))), (13, .i t13_0)], [(3, .pure (open1.toList.map AV.bool)), (5, .pure (j'1.map (fun q : List GValue => AV.lst (q.flatMap GValue.cs) q.length)))], 39⟩ : TS) ?_ ?_
   ·clear H
    have H := h2
    clear h2
    refine AW2_block ?_
    refine sg [0, 1, 2, 3, 4] rfl ?_
    refine rp rfl rfl (p_move rfl rfl) ?_
    refine chkK H fun h3 H => ?_
    refine rp rfl rfl (u_ixaa rfl rfl Tryd.underlying44 in_43 Tryd.underlying43 rfl rfl rfl (ixe h3) (ixn h3) (Sub.vfm (fun x => (vfm_len (fun x => (GCell.len x)) x)) (ixn h3)) (vfm_len (fun x => (GCell.len x)) (vrd t0.Drawers t13_0.toNat))) ?_
    refine r_op rfl rfl (MakeD.opD (u_alloc 7 rfl in_43 one_43 zc_43) rfl rfl rfl rfl) ?_
    refine rp rfl rfl (p_asg rfl rfl) ?_
    refine r_op rfl rfl (u_st rfl rfl rfl rfl rfl in_43 (vfm_len (fun x => (GCell.len x)) (vrd t0.Drawers t13_0.toNat)) (ne_of_lt (n := 0) (Nat.lt_of_lt_of_eq (by decide) (Eq.symm (vfm_len (fun x => (GCell.len x)) (Vector.replicate 4 GCell.zero))))) (Upd.refl ((vfm_len (fun x => (GCell.len x)) (vrd t0.Drawers t13_0.toNat)).trans (vfm_len (fun x => (GCell.len x)) (Vector.replicate 4 GCell.zero)).symm))) ?_
    refine rz [(3, .q 3 (0)), (5, .c (.own 5 out5_0.length 1)), (6, .i t13_0), (7, .q 7 (0)), (12, .g (t0.Drawers.toList.flatMap (fun v : Vector GCell 4 => v.toList.flatMap GCell.cs))), (13, .i t13_0)] [(3, .pure (open1.toList.map AV.bool)), (5, .pure (out5_0.map (fun q : List GValue => AV.lst (q.flatMap GValue.cs) q.length))), (7, .pure (((vrd t0.Drawers t13_0.toNat).toList).flatMap GCell.cs))] rfl rfl rfl ?_
    refine AW2_seq ?_
    refine sg [0, 1, 2, 3] rfl ?_
    refine rp rfl rfl (p_move rfl rfl) ?_
    refine chkK H fun h4 H => ?_
    refine rp rfl rfl (u_ixp rfl rfl Tryd.underlying49 in_4 rfl rfl (ne_of_lt (n := 0) (Nat.lt_of_lt_of_eq (by decide) (Eq.symm (vmap_len (f := AV.bool) open1)))) rfl (ixe h4) (ixn h4)) ?_
    refine rp rfl rfl (u_ld rfl rfl Tryd.underlying4 rfl rfl ((Sub.refl _).trans (Sub.vmap (ixn h4)))) ?_
    refine rp rfl rfl (p_not rfl rfl) ?_
    refine rz [(3, .q 3 (0)), (5, .c (.own 5 out5_0.length 1)), (7, .q 7 (0)), (12, .g (t0.Drawers.toList.flatMap (fun v : Vector GCell 4 => v.toList.flatMap GCell.cs))), (13, .i t13_0), (20, .b (!(vrd open1 t13_0.toNat)))] [(3, .pure (open1.toList.map AV.bool)), (5, .pure (out5_0.map (fun q : List GValue => AV.lst (q.flatMap GValue.cs) q.length))), (7, .pure (((vrd t0.Drawers t13_0.toNat).toList).flatMap GCell.cs))] rfl rfl rfl ?_
    refine AW2_cond rfl (fun h5 => ?_) (fun h5 => ?_)
    ·replace H := ite_then h5 H
     refine as2 [(3, .q 3 (0)), (5, .c (.own 5 out5_0.length 1)), (12, .g (t0.Drawers.toList.flatMap (fun v : Vector GCell 4 => v.toList.flatMap GCell.cs))), (13, .i t13_0)] [(3, .pure (open1.toList.map AV.bool)), (5, .pure (out5_0.map (fun q : List GValue => AV.lst (q.flatMap GValue.cs) q.length)))] rfl rfl rfl ?_
     refine AW2_exit ?_
     refine thenQ2_exit ?_
     refine blockQ2_exit ?_
     have hz := some_elim H
     subst hz
     exact rfl
    ·replace H := ite_else (ne_true h5) H
     refine as2 [(3, .q 3 (0)), (5, .c (.own 5 out5_0.length 1)), (7, .q 7 (0)), (12, .g (t0.Drawers.toList.flatMap (fun v : Vector GCell 4 => v.toList.flatMap GCell.cs))), (13, .i t13_0)] [(3, .pure (open1.toList.map AV.bool)), (5, .pure (out5_0.map (fun q : List GValue => AV.lst (q.flatMap GValue.cs) q.length))), (7, .pure (((vrd t0.Drawers t13_0.toNat).toList).flatMap GCell.cs))] rfl rfl rfl ?_
     refine AW2_skip ?_
     refine sg [0] rfl ?_
     refine rp rfl rfl (p_asgn rfl) ?_
     refine rz [(3, .q 3 (0)), (5, .c (.own 5 out5_0.length 1)), (7, .q 7 (0)), (8, .p .nil), (12, .g (t0.Drawers.toList.flatMap (fun v : Vector GCell 4 => v.toList.flatMap GCell.cs))), (13, .i t13_0)] [(3, .pure (open1.toList.map AV.bool)), (5, .pure (out5_0.map (fun q : List GValue => AV.lst (q.flatMap GValue.cs) q.length))), (7, .pure (((vrd t0.Drawers t13_0.toNat).toList).flatMap GCell.cs))] rfl rfl rfl ?_
     refine AW2_seq ?_
     refine sg [0, 1] rfl ?_
     refine rp rfl rfl (u_lda rfl rfl Tryd.underlying43 rfl in_43 rfl (Nat.succ_pos _) (Sub.refl _) (vfm_len (fun x => (GCell.len x)) (vrd t0.Drawers t13_0.toNat))) ?_
     refine rp rfl rfl (p_move rfl rfl) ?_
     refine rz [(3, .q 3 (0)), (5, .c (.own 5 out5_0.length 1)), (8, .p .nil), (12, .g (t0.Drawers.toList.flatMap (fun v : Vector GCell 4 => v.toList.flatMap GCell.cs))), (13, .i t13_0), (21, .g (((vrd t0.Drawers t13_0.toNat).toList).flatMap GCell.cs)), (22, .i (0 : Int))] [(3, .pure (open1.toList.map AV.bool)), (5, .pure (out5_0.map (fun q : List GValue => AV.lst (q.flatMap GValue.cs) q.length)))] rfl rfl rfl ?_
     refine AW2_block ?_
     refine as2 [(3, .q 3 (0)), (5, .c (.own 5 out5_0.length 1)), (8, .p .nil), (12, .g (t0.Drawers.toList.flatMap (fun v : Vector GCell 4 => v.toList.flatMap GCell.cs))), (13, .i t13_0), (21, .g (((vrd t0.Drawers t13_0.toNat).toList).flatMap GCell.cs)), (22, .i (0 : Int))] [(3, .pure (open1.toList.map AV.bool)), (5, .pure (out5_0.map (fun q : List GValue => AV.lst (q.flatMap GValue.cs) q.length)))] rfl rfl rfl ?_
     refine AW2_gho (Gho_own (d := 8) (b := 8) (z := 1) rfl rfl rfl rfl) ?_
     refine AW2_st [(3, .q 3 (0)), (5, .c (.own 5 out5_0.length 1)), (8, .c (.own 8 ([] : List (List GValue)).length 1)), (12, .g (t0.Drawers.toList.flatMap (fun v : Vector GCell 4 => v.toList.flatMap GCell.cs))), (13, .i t13_0), (21, .g (((vrd t0.Drawers t13_0.toNat).toList).flatMap GCell.cs)), (22, .i (0 : Int))] [(3, .pure (open1.toList.map AV.bool)), (5, .pure (out5_0.map (fun q : List GValue => AV.lst (q.flatMap GValue.cs) q.length))), (8, .pure (([] : List (List GValue)).map (fun q : List GValue => AV.lst (q.flatMap GValue.cs) q.length)))] rfl ⟨TLes.same _, TLes.same _, TLes.own rfl, TLes.same _, TLes.same _, TLes.same _, TLes.same _, trivial⟩ ⟨rfl, rfl, rfl, trivial⟩ ?_
     refine bindK H fun y'7 h11 H => ?_
     refine AW2_loopO (fun a'4 : Int × (List (List GValue)) => (⟨[(3, .q 3 (0)), (5, .c (.own 5 out5_0.length 1)), (8, .c (.own 8 a'4.2.length 1)), (12, .g (t0.Drawers.toList.flatMap (fun v : Vector GCell 4 => v.toList.flatMap GCell.cs))), (13, .i t13_0), (21, .g (((vrd t0.Drawers t13_0.toNat).toList).flatMap GCell.cs)), (22, .i a'4.1)], [(3, .pure (open1.toList.map AV.bool)), (5, .pure (out5_0.map (fun q : List GValue => AV.lst (q.flatMap GValue.cs) q.length))), (8, .pure (a'4.2.map (fun q : List GValue => AV.lst (q.flatMap GValue.cs) q.length)))], 39⟩ : TS)) (fun (y'5 : ((List (List GValue)))) e s' => e = Go.Exit.exit 2 ∧ s' = (⟨[(3, .q 3 (0)), (5, .c (.own 5 out5_0.length 1)), (8, .c (.own 8 y'5.length 1)), (12, .g (t0.Drawers.toList.flatMap (fun v : Vector GCell 4 => v.toList.flatMap GCell.cs))), (13, .i t13_0)], [(3, .pure (open1.toList.map AV.bool)), (5, .pure (out5_0.map (fun q : List GValue => AV.lst (q.flatMap GValue.cs) q.length))), (8, .pure (y'5.map (fun q : List GValue => AV.lst (q.flatMap GValue.cs) q.length)))], 39⟩ : TS)) h11 rfl (fun a x hx => ?_) (fun e s' hs => ?_)
     ·clear H
      obtain ⟨t22_1, l8_1⟩ := a
      have H := hx
      clear hx
      unfold g_ref_rowsOf_l1 at H
      refine sg [0] rfl ?_
      refine rp rfl rfl (p_bin rfl rfl rfl rfl) ?_
      refine rz [(3, .q 3 (0)), (5, .c (.own 5 out5_0.length 1)), (8, .c (.own 8 l8_1.length 1)), (12, .g (t0.Drawers.toList.flatMap (fun v : Vector GCell 4 => v.toList.flatMap GCell.cs))), (13, .i t13_0), (21, .g (((vrd t0.Drawers t13_0.toNat).toList).flatMap GCell.cs)), (22, .i t22_1), (23, .b (decide (t22_1 < (4 : Int))))] [(3, .pure (open1.toList.map AV.bool)), (5, .pure (out5_0.map (fun q : List GValue => AV.lst (q.flatMap GValue.cs) q.length))), (8, .pure (l8_1.map (fun q : List GValue => AV.lst (q.flatMap GValue.cs) q.length)))] rfl rfl rfl ?_
      refine AW2_seq ?_
      refine AW2_if (p := t22_1 < (4 : Int)) rfl (fun h6 => ?_) (fun h6 => ?_)
      ·replace H := ite_then h6 H
       refine as2 [(3, .q 3 (0)), (5, .c (.own 5 out5_0.length 1)), (8, .c (.own 8 l8_1.length 1)), (12, .g (t0.Drawers.toList.flatMap (fun v : Vector GCell 4 => v.toList.flatMap GCell.cs))), (13, .i t13_0), (21, .g (((vrd t0.Drawers t13_0.toNat).toList).flatMap GCell.cs)), (22, .i t22_1)] [(3, .pure (open1.toList.map AV.bool)), (5, .pure (out5_0.map (fun q : List GValue => AV.lst (q.flatMap GValue.cs) q.length))), (8, .pure (l8_1.map (fun q : List GValue => AV.lst (q.flatMap GValue.cs) q.length)))] rfl rfl rfl ?_
       refine AW2_skip ?_
       refine AW2_seq ?_
       refine bindK H fun j'2 h7 H => ?_
       refine AW2_mid (⟨[(3, .q 3 (0)), (5, .c (.own 5 out5_0.length 1)), (8, .c (.own 8 j'2.length 1)), (12, .g (t0.Drawers.toList.flatMap (fun v : Vector GCell 4 => v.toList.flatMap GCell.cs))), (13, .i t13_0), (21, .g (((vrd t0.Drawers t13_0.toNat).toList).flatMap GCell.cs)), (22, .i t22_1)], [(3, .pure (open1.toList.map AV.bool)), (5, .pure (out5_0.map (fun q : List GValue => AV.lst (q.flatMap GValue.cs) q.length))), (8, .pure (j'2.map (fun q : List GValue => AV.lst (q.flatMap GValue.cs) q.length)))], 39⟩ : TS) ?_ ?_
       ·clear H
        have H := h7
        clear h7
        refine AW2_block ?_
        refine sg [0, 1, 2] rfl ?_
        refine chkK H fun h8 H => ?_
        refine rp rfl rfl (u_ixaa rfl rfl Tryd.underlying43 in_42 Tryd.underlying42 rfl rfl rfl (ixe h8) (ixn h8) (Sub.vfm (fun x => (GCell.len x)) (ixn h8)) (GCell.len (vrd (vrd t0.Drawers t13_0.toNat) t22_1.toNat))) ?_
        refine r_op rfl rfl (MakeD.opD (u_alloc 10 rfl in_42 one_42 zc_42) rfl rfl rfl rfl) ?_
        refine r_op rfl rfl (u_st rfl rfl rfl rfl rfl in_42 (GCell.len (vrd (vrd t0.Drawers t13_0.toNat) t22_1.toNat)) (ne_of_lt (n := 0) (Nat.lt_of_lt_of_eq (by decide) (Eq.symm (GCell.len GCell.zero)))) (Upd.refl ((GCell.len (vrd (vrd t0.Drawers t13_0.toNat) t22_1.toNat)).trans (GCell.len GCell.zero).symm))) ?_
        refine rz [(3, .q 3 (0)), (5, .c (.own 5 out5_0.length 1)), (8, .c (.own 8 l8_1.length 1)), (10, .q 10 (0)), (12, .g (t0.Drawers.toList.flatMap (fun v : Vector GCell 4 => v.toList.flatMap GCell.cs))), (13, .i t13_0), (21, .g (((vrd t0.Drawers t13_0.toNat).toList).flatMap GCell.cs)), (22, .i t22_1)] [(3, .pure (open1.toList.map AV.bool)), (5, .pure (out5_0.map (fun q : List GValue => AV.lst (q.flatMap GValue.cs) q.length))), (8, .pure (l8_1.map (fun q : List GValue => AV.lst (q.flatMap GValue.cs) q.length))), (10, .pure (GCell.cs (vrd (vrd t0.Drawers t13_0.toNat) t22_1.toNat)))] rfl rfl rfl ?_
        refine sg [0, 1] rfl ?_
        refine rp rfl rfl (u_fa rfl rfl Tryd.underlying42 rfl in_4 (Nat.succ_ne_zero _) rfl rfl (ne_of_lt (n := 0) (Nat.lt_of_lt_of_eq (by decide) (Eq.symm (GCell.len (vrd (vrd t0.Drawers t13_0.toNat) t22_1.toNat)))))) ?_
        refine rp rfl rfl (u_ld rfl rfl Tryd.underlying4 rfl rfl ((Sub.refl _).trans (GCell.sub0 (vrd (vrd t0.Drawers t13_0.toNat) t22_1.toNat)))) ?_
        refine rz [(3, .q 3 (0)), (5, .c (.own 5 out5_0.length 1)), (8, .c (.own 8 l8_1.length 1)), (10, .q 10 (0)), (12, .g (t0.Drawers.toList.flatMap (fun v : Vector GCell 4 => v.toList.flatMap GCell.cs))), (13, .i t13_0), (21, .g (((vrd t0.Drawers t13_0.toNat).toList).flatMap GCell.cs)), (22, .i t22_1), (26, .b ((vrd (vrd t0.Drawers t13_0.toNat) t22_1.toNat).Full))] [(3, .pure (open1.toList.map AV.bool)), (5, .pure (out5_0.map (fun q : List GValue => AV.lst (q.flatMap GValue.cs) q.length))), (8, .pure (l8_1.map (fun q : List GValue => AV.lst (q.flatMap GValue.cs) q.length))), (10, .pure (GCell.cs (vrd (vrd t0.Drawers t13_0.toNat) t22_1.toNat)))] rfl rfl rfl ?_
        refine AW2_cond rfl (fun h9 => ?_) (fun h9 => ?_)
        ·replace H := ite_then h9 H
         refine AW2_reg [0, 1, 2, 3, 4, 5] rfl ?_
         refine rp rfl rfl (p_move rfl rfl) ?_
         refine rp rfl rfl (u_fa rfl rfl Tryd.underlying42 rfl in_38 (Nat.succ_ne_zero _) rfl rfl (ne_of_lt (n := 0) (Nat.lt_of_lt_of_eq (by decide) (Eq.symm (GCell.len (vrd (vrd t0.Drawers t13_0.toNat) t22_1.toNat)))))) ?_
         refine rp rfl rfl (u_ld rfl rfl Tryd.underlying38 rfl rfl ((Sub.refl _).trans (GCell.sub1 (vrd (vrd t0.Drawers t13_0.toNat) t22_1.toNat)))) ?_
         refine r_op rfl rfl (MakeD.opD (u_bs 30 rfl Tryd.underlying50 in_38 rfl one_38 (by decide) (by decide) rfl rfl rfl) rfl rfl rfl rfl) ?_
         refine chkK H fun h10 H => ?_
         refine r_op rfl rfl (u_app [8, 27] rfl rfl rfl rfl Tryd.underlying50 Tryd.underlying50 in_38 rfl rfl rfl (ml (fun q : List GValue => AV.lst (q.flatMap GValue.cs) q.length) l8_1) (by decide) (srcT_o rfl rfl (ml (fun q : List GValue => AV.lst (q.flatMap GValue.cs) q.length) ([(vrd (vrd t0.Drawers t13_0.toNat) t22_1.toNat).Row] : List (List GValue))) (by decide)) (ml (fun q : List GValue => AV.lst (q.flatMap GValue.cs) q.length) ([(vrd (vrd t0.Drawers t13_0.toNat) t22_1.toNat).Row] : List (List GValue))) h10 (by decide) rfl rfl (mapp (fun q : List GValue => AV.lst (q.flatMap GValue.cs) q.length) l8_1 ([(vrd (vrd t0.Drawers t13_0.toNat) t22_1.toNat).Row] : List (List GValue))) (lapp l8_1 ([(vrd (vrd t0.Drawers t13_0.toNat) t22_1.toNat).Row] : List (List GValue)))) ?_
         refine rp rfl rfl (p_asg rfl rfl) ?_
         refine rz [(3, .q 3 (0)), (5, .c (.own 5 out5_0.length 1)), (8, .c (.own 8 (l8_1 ++ ([(vrd (vrd t0.Drawers t13_0.toNat) t22_1.toNat).Row] : List (List GValue))).length 1)), (12, .g (t0.Drawers.toList.flatMap (fun v : Vector GCell 4 => v.toList.flatMap GCell.cs))), (13, .i t13_0), (21, .g (((vrd t0.Drawers t13_0.toNat).toList).flatMap GCell.cs)), (22, .i t22_1)] [(3, .pure (open1.toList.map AV.bool)), (5, .pure (out5_0.map (fun q : List GValue => AV.lst (q.flatMap GValue.cs) q.length))), (8, .pure ((l8_1 ++ ([(vrd (vrd t0.Drawers t13_0.toNat) t22_1.toNat).Row] : List (List GValue))).map (fun q : List GValue => AV.lst (q.flatMap GValue.cs) q.length)))] rfl rfl rfl ?_
         refine gen1 (fun l8'3 => (⟨[(3, .q 3 (0)), (5, .c (.own 5 out5_0.length 1)), (8, .c (.own 8 l8'3.length 1)), (12, .g (t0.Drawers.toList.flatMap (fun v : Vector GCell 4 => v.toList.flatMap GCell.cs))), (13, .i t13_0), (21, .g (((vrd t0.Drawers t13_0.toNat).toList).flatMap GCell.cs)), (22, .i t22_1)], [(3, .pure (open1.toList.map AV.bool)), (5, .pure (out5_0.map (fun q : List GValue => AV.lst (q.flatMap GValue.cs) q.length))), (8, .pure (l8'3.map (fun q : List GValue => AV.lst (q.flatMap GValue.cs) q.length)))], 39⟩ : TS)) H ?_
         intro l8'3 H
         have hz := some_elim H
         subst hz
         exact rfl
        ·replace H := ite_else (ne_true h9) H
         refine as2 [(3, .q 3 (0)), (5, .c (.own 5 out5_0.length 1)), (8, .c (.own 8 l8_1.length 1)), (12, .g (t0.Drawers.toList.flatMap (fun v : Vector GCell 4 => v.toList.flatMap GCell.cs))), (13, .i t13_0), (21, .g (((vrd t0.Drawers t13_0.toNat).toList).flatMap GCell.cs)), (22, .i t22_1)] [(3, .pure (open1.toList.map AV.bool)), (5, .pure (out5_0.map (fun q : List GValue => AV.lst (q.flatMap GValue.cs) q.length))), (8, .pure (l8_1.map (fun q : List GValue => AV.lst (q.flatMap GValue.cs) q.length)))] rfl rfl rfl ?_
         refine AW2_skip ?_
         have hz := some_elim H
         subst hz
         exact rfl
       ·refine AW2_reg [0, 1] rfl ?_
        refine rp rfl rfl (p_bin rfl rfl rfl rfl) ?_
        refine rp rfl rfl (p_move rfl rfl) ?_
        refine rz [(3, .q 3 (0)), (5, .c (.own 5 out5_0.length 1)), (8, .c (.own 8 j'2.length 1)), (12, .g (t0.Drawers.toList.flatMap (fun v : Vector GCell 4 => v.toList.flatMap GCell.cs))), (13, .i t13_0), (21, .g (((vrd t0.Drawers t13_0.toNat).toList).flatMap GCell.cs)), (22, .i (w64 (t22_1 + (1 : Int))))] [(3, .pure (open1.toList.map AV.bool)), (5, .pure (out5_0.map (fun q : List GValue => AV.lst (q.flatMap GValue.cs) q.length))), (8, .pure (j'2.map (fun q : List GValue => AV.lst (q.flatMap GValue.cs) q.length)))] rfl rfl rfl ?_
        have hz := some_elim H
        subst hz
        exact ⟨rfl, rfl⟩
      ·replace H := ite_else h6 H
       refine as2 [(3, .q 3 (0)), (5, .c (.own 5 out5_0.length 1)), (8, .c (.own 8 l8_1.length 1)), (12, .g (t0.Drawers.toList.flatMap (fun v : Vector GCell 4 => v.toList.flatMap GCell.cs))), (13, .i t13_0)] [(3, .pure (open1.toList.map AV.bool)), (5, .pure (out5_0.map (fun q : List GValue => AV.lst (q.flatMap GValue.cs) q.length))), (8, .pure (l8_1.map (fun q : List GValue => AV.lst (q.flatMap GValue.cs) q.length)))] rfl rfl rfl ?_
       refine AW2_exit ?_
       refine thenQ2_exit ?_
       have hz := some_elim H
       subst hz
       exact ⟨rfl, rfl⟩
     ·obtain ⟨rfl, rfl⟩ := hs
      refine ⟨by simp, ?_⟩
      refine blockQ2_exit ?_
      refine AW2_reg [0, 1, 2, 3, 4] rfl ?_
      refine rp rfl rfl (p_move rfl rfl) ?_
      refine rp rfl rfl (p_move rfl rfl) ?_
      refine RunW_gho (Gho_pubs [8, 34] ⟨rfl, rfl, trivial⟩ rfl (ml (fun q : List GValue => AV.lst (q.flatMap GValue.cs) q.length) y'7) (by decide)) ?_
      refine bindK H fun r'8 h12 H => ?_
      refine rp rfl rfl (p_callt rfl rfl rfl Tryd.func58 rfl rfl (g_ref_ranked_i0_ac h12) ⟨(fun _ => .same _), (fun _ => .same _), trivial⟩) ?_
      refine chkK H fun h13 H => ?_
      refine r_op rfl rfl (u_app [5, 33] rfl rfl rfl rfl Tryd.underlying50 Tryd.underlying50 in_38 rfl rfl rfl (ml (fun q : List GValue => AV.lst (q.flatMap GValue.cs) q.length) out5_0) (by decide) rfl (ml (fun q : List GValue => AV.lst (q.flatMap GValue.cs) q.length) r'8) h13 (by decide) rfl rfl (mapp (fun q : List GValue => AV.lst (q.flatMap GValue.cs) q.length) out5_0 r'8) (lapp out5_0 r'8)) ?_
      refine rp rfl rfl (p_asg rfl rfl) ?_
      refine rz [(3, .q 3 (0)), (5, .c (.own 5 (out5_0 ++ r'8).length 1)), (12, .g (t0.Drawers.toList.flatMap (fun v : Vector GCell 4 => v.toList.flatMap GCell.cs))), (13, .i t13_0)] [(3, .pure (open1.toList.map AV.bool)), (5, .pure ((out5_0 ++ r'8).map (fun q : List GValue => AV.lst (q.flatMap GValue.cs) q.length)))] rfl rfl rfl ?_
      have hz := some_elim H
      subst hz
      exact rfl
   ·refine AW2_reg [0, 1] rfl ?_
    refine rp rfl rfl (p_bin rfl rfl rfl rfl) ?_
    refine rp rfl rfl (p_move rfl rfl) ?_
    refine rz [(3, .q 3 (0)), (5, .c (.own 5 j'1.length 1)), (12, .g (t0.Drawers.toList.flatMap (fun v : Vector GCell 4 => v.toList.flatMap GCell.cs))), (13, .i (w64 (t13_0 + (1 : Int))))] [(3, .pure (open1.toList.map AV.bool)), (5, .pure (j'1.map (fun q : List GValue => AV.lst (q.flatMap GValue.cs) q.length)))] rfl rfl rfl ?_
    have hz := some_elim H
    subst hz
    exact ⟨rfl, rfl⟩
  ·replace H := ite_else h1 H
   refine as2 [(5, .c (.own 5 out5_0.length 1))] [(5, .pure (out5_0.map (fun q : List GValue => AV.lst (q.flatMap GValue.cs) q.length)))] rfl rfl rfl ?_
   refine AW2_exit ?_
   refine thenQ2_exit ?_
   have hz := some_elim H
   subst hz
   exact ⟨rfl, rfl⟩
 ·obtain ⟨rfl, rfl⟩ := hs
  refine ⟨by simp, ?_⟩
  refine blockQ2_exit ?_
  refine sg [0, 1] rfl ?_
  refine rp rfl rfl (p_move rfl rfl) ?_
  refine rp rfl rfl (p_asg rfl rfl) ?_
  refine rs [(4, .c (.own 5 y'12.length 1))] [(5, .pure (y'12.map (fun q : List GValue => AV.lst (q.flatMap GValue.cs) q.length)))] rfl rfl rfl ?_
  refine RunW_gho (Gho_ren 5 4 rfl rfl rfl rfl rfl) ?_
  refine rz [(4, .c (.own 4 y'12.length 1))] [(4, .pure (y'12.map (fun q : List GValue => AV.lst (q.flatMap GValue.cs) q.length)))] rfl rfl rfl ?_
  refine as2 [(4, .c (.own 4 y'12.length 1))] [(4, .pure (y'12.map (fun q : List GValue => AV.lst (q.flatMap GValue.cs) q.length)))] rfl rfl rfl ?_
  refine AW2_ret ?_
  have hz := some_elim H
  subst hz
  exact ⟨⟨res_tmp (.same _), trivial⟩, ⟨rfl, trivial⟩⟩
theorem g_ref_rowsOf_ac {t0 : GTable} {open1 : Vector Bool 2} {r : (List (List GValue))} (H : g_ref_rowsOf t0 open1 = some r) : ACp Tryd.prog 47 [(.agg (GTable.cs t0)), (.agg (open1.toList.map AV.bool))] ((fun q : List (List GValue) => AV.lst (q.map (fun q : List GValue => AV.lst (q.flatMap GValue.cs) q.length)) q.length) r) := ACp_pub (g_ref_rowsOf_ac2 H) (fun _ _ hm => lent_own hm rfl (ml (fun q : List GValue => AV.lst (q.flatMap GValue.cs) q.length) r) (by decide))

/-! chirographref.RowsOf -/
noncomputable def g_ref_RowsOf (t0 : GTable) (open1 : Vector Bool 2) : Option ((List (List GValue)) × Int) :=
  (g_ref_TableFault t0).bind fun r'1 => (if r'1 ≠ (0 : Int) then some ([], r'1) else (g_ref_rowsOf t0 open1).bind fun r'2 => some (r'2, (0 : Int)))
set_option maxHeartbeats 4000000 in
set_option maxRecDepth 100000 in
theorem g_ref_RowsOf_ac {t0 : GTable} {open1 : Vector Bool 2} {r : (List (List GValue)) × Int} (H : g_ref_RowsOf t0 open1 = some r) : ACp Tryd.prog 21 [(.agg (GTable.cs t0)), (.agg (open1.toList.map AV.bool))] (.tup [((fun q : List (List GValue) => AV.lst (q.map (fun q : List GValue => AV.lst (q.flatMap GValue.cs) q.length)) q.length) r.1), (AV.int r.2)]) := by
 refine ACp_of (AC2_of_body (vs := [.p ((fun q : List (List GValue) => AV.lst (q.map (fun q : List GValue => AV.lst (q.flatMap GValue.cs) q.length)) q.length) r.1), .i r.2]) Tryd.func21 rfl rfl (Nat.le_of_ble_eq_true rfl) rfl ?_) (fun _ => .same _)
 unfold g_ref_RowsOf at H
 refine as2 [(0, .g (GTable.cs t0)), (1, .g (open1.toList.map AV.bool))] [] rfl rfl rfl ?_
 refine sg [0, 1, 2, 3] rfl ?_
 refine r_op rfl rfl (MakeD.opD (n_box 2 rfl rfl) rfl rfl rfl rfl) ?_
 refine r_op rfl rfl (MakeD.opD (n_box 3 rfl rfl) rfl rfl rfl rfl) ?_
 refine rp rfl rfl (p_asgn rfl) ?_
 refine rp rfl rfl (p_asg rfl rfl) ?_
 refine rz [(2, .q 2 (0)), (3, .q 3 (0))] [(2, .pure (GTable.cs t0)), (3, .pure (open1.toList.map AV.bool))] rfl rfl rfl ?_
 refine AW2_seq ?_
 refine sg [0, 1, 2] rfl ?_
 refine rp rfl rfl (u_lda rfl rfl Tryd.underlying46 rfl in_46 rfl (Nat.succ_pos _) (Sub.refl _) (GTable.len t0)) ?_
 refine bindK H fun r'1 h1 H => ?_
 refine rp rfl rfl (p_callp rfl rfl rfl Tryd.func19 rfl rfl (g_ref_TableFault_ac h1) ⟨rfl, trivial⟩) ?_
 refine rp rfl rfl (p_asg rfl rfl) ?_
 refine rz [(2, .q 2 (0)), (3, .q 3 (0)), (6, .i r'1)] [(2, .pure (GTable.cs t0)), (3, .pure (open1.toList.map AV.bool))] rfl rfl rfl ?_
 refine sg [0, 1] rfl ?_
 refine rp rfl rfl (p_move rfl rfl) ?_
 refine rp rfl rfl (p_ine rfl rfl rfl) ?_
 refine rz [(2, .q 2 (0)), (3, .q 3 (0)), (6, .i r'1), (10, .b (decide (r'1 ≠ (0 : Int))))] [(2, .pure (GTable.cs t0)), (3, .pure (open1.toList.map AV.bool))] rfl rfl rfl ?_
 refine AW2_if (p := r'1 ≠ (0 : Int)) rfl (fun h2 => ?_) (fun h2 => ?_)
 ·replace H := ite_then h2 H
  refine sg [0, 1, 2] rfl ?_
  refine rp rfl rfl (p_move rfl rfl) ?_
  refine rp rfl rfl (p_asgn rfl) ?_
  refine rp rfl rfl (p_asg rfl rfl) ?_
  refine rz [(4, .p .nil), (5, .i r'1)] [] rfl rfl rfl ?_
  refine AW2_ret ?_
  have hz := some_elim H
  subst hz
  exact ⟨⟨res_tmp TLes.nil0, res_tmp (.same _), trivial⟩, trivial⟩
 ·replace H := ite_else h2 H
  refine as2 [(2, .q 2 (0)), (3, .q 3 (0))] [(2, .pure (GTable.cs t0)), (3, .pure (open1.toList.map AV.bool))] rfl rfl rfl ?_
  refine AW2_skip ?_
  refine sg [0, 1, 2, 3, 4] rfl ?_
  refine rp rfl rfl (u_lda rfl rfl Tryd.underlying46 rfl in_46 rfl (Nat.succ_pos _) (Sub.refl _) (GTable.len t0)) ?_
  refine rp rfl rfl (u_lda rfl rfl Tryd.underlying49 rfl in_49 rfl (Nat.succ_pos _) (Sub.refl _) (vmap_len (f := AV.bool) open1)) ?_
  refine bindK H fun r'2 h3 H => ?_
  refine rp rfl rfl (p_callp rfl rfl rfl Tryd.func47 rfl rfl (g_ref_rowsOf_ac h3) ⟨rfl, rfl, trivial⟩) ?_
  refine rp rfl rfl (p_asg rfl rfl) ?_
  refine rp rfl rfl (p_asg rfl rfl) ?_
  refine rz [(4, .p ((fun q : List (List GValue) => AV.lst (q.map (fun q : List GValue => AV.lst (q.flatMap GValue.cs) q.length)) q.length) r'2)), (5, .i (0 : Int))] [] rfl rfl rfl ?_
  refine AW2_ret ?_
  have hz := some_elim H
  subst hz
  exact ⟨⟨res_tmp (.same _), res_tmp (.same _), trivial⟩, trivial⟩

/-! chirographlaw.sameRow -/
def g_law_sameRow_r6 : List (List (Nat × Option Nat)) := [[(0, none)], [(5, none)], [(16, some 0), (17, some 1)], [(18, some 2)], [(1, none)], [(5, none)], [(20, some 4), (21, some 5)], [(22, some 6)]]
def g_law_sameRow_r6c : List (List Nat) := [[], [], [0, 1], [0, 1, 2], [], [], [4, 5], [4, 5, 6], [0, 1, 2, 3, 4, 5, 6, 7]]
noncomputable def g_law_sameRow_l0 (a0 : List GValue) (b1 : List GValue) : Int → Option (Int ⊕ (Bool ⊕ Unit))
  | t13_0 => (if t13_0 < (a0.length : Int) then if 0 ≤ t13_0 ∧ t13_0 < (a0.length : Int) then if 0 ≤ t13_0 ∧ t13_0 < (b1.length : Int) then (if (lrd a0 t13_0.toNat) ≠ (lrd b1 t13_0.toNat) then some (.inr (.inl false)) else some (.inl (w64 (t13_0 + (1 : Int))))) else none else none else some (.inr (.inr ())))
noncomputable def g_law_sameRow (a0 : List GValue) (b1 : List GValue) : Option (Bool) :=
  (if (a0.length : Int) ≠ (b1.length : Int) then some false else (loopO (g_law_sameRow_l0 a0 b1) (0 : Int)).bind fun o'4 => match o'4 with | .inl y'5 => some y'5 | .inr (y'6) => some true)
set_option maxHeartbeats 4000000 in
set_option maxRecDepth 100000 in
theorem g_law_sameRow_ac {a0 : List GValue} {b1 : List GValue} {r : Bool} (H : g_law_sameRow a0 b1 = some r) : ACp Tryd.prog 48 [((fun q : List GValue => AV.lst (q.flatMap GValue.cs) q.length) a0), ((fun q : List GValue => AV.lst (q.flatMap GValue.cs) q.length) b1)] (AV.bool r) := by
 refine ACp_of (AC2_of_body (vs := [.b r]) Tryd.func48 rfl rfl (Nat.le_of_ble_eq_true rfl) rfl ?_) (fun _ => .same _)
 unfold g_law_sameRow at H
 refine as2 [(0, .p ((fun q : List GValue => AV.lst (q.flatMap GValue.cs) q.length) a0)), (1, .p ((fun q : List GValue => AV.lst (q.flatMap GValue.cs) q.length) b1))] [] rfl rfl rfl ?_
 refine sg [0] rfl ?_
 refine rp rfl rfl (p_asg rfl rfl) ?_
 refine rz [(0, .p ((fun q : List GValue => AV.lst (q.flatMap GValue.cs) q.length) a0)), (1, .p ((fun q : List GValue => AV.lst (q.flatMap GValue.cs) q.length) b1))] [] rfl rfl rfl ?_
 refine AW2_seq ?_
 refine sg [0, 1, 2, 3, 4] rfl ?_
 refine rp rfl rfl (p_move rfl rfl) ?_
 refine rp rfl rfl (p_lenl rfl Tryd.underlying38 rfl rfl) ?_
 refine rp rfl rfl (p_move rfl rfl) ?_
 refine rp rfl rfl (p_lenl rfl Tryd.underlying38 rfl rfl) ?_
 refine rp rfl rfl (p_ine rfl rfl rfl) ?_
 refine rz [(0, .p ((fun q : List GValue => AV.lst (q.flatMap GValue.cs) q.length) a0)), (1, .p ((fun q : List GValue => AV.lst (q.flatMap GValue.cs) q.length) b1)), (10, .b (decide ((a0.length : Int) ≠ (b1.length : Int))))] [] rfl rfl rfl ?_
 refine AW2_if (p := (a0.length : Int) ≠ (b1.length : Int)) rfl (fun h1 => ?_) (fun h1 => ?_)
 ·replace H := ite_then h1 H
  refine sg [0] rfl ?_
  refine rp rfl rfl (p_asg rfl rfl) ?_
  refine rz [(4, .b false)] [] rfl rfl rfl ?_
  refine AW2_ret ?_
  have hz := some_elim H
  subst hz
  exact ⟨⟨res_tmp (.same _), trivial⟩, trivial⟩
 ·replace H := ite_else h1 H
  refine as2 [(0, .p ((fun q : List GValue => AV.lst (q.flatMap GValue.cs) q.length) a0)), (1, .p ((fun q : List GValue => AV.lst (q.flatMap GValue.cs) q.length) b1))] [] rfl rfl rfl ?_
  refine AW2_skip ?_
  refine AW2_seq ?_
  refine sg [0, 1, 2] rfl ?_
  refine rp rfl rfl (p_move rfl rfl) ?_
  refine rp rfl rfl (p_lenl rfl Tryd.underlying38 rfl rfl) ?_
  refine rp rfl rfl (p_move rfl rfl) ?_
  refine rz [(0, .p ((fun q : List GValue => AV.lst (q.flatMap GValue.cs) q.length) a0)), (1, .p ((fun q : List GValue => AV.lst (q.flatMap GValue.cs) q.length) b1)), (12, .i (a0.length : Int)), (13, .i (0 : Int))] [] rfl rfl rfl ?_
  refine AW2_block ?_
  refine as2 [(0, .p ((fun q : List GValue => AV.lst (q.flatMap GValue.cs) q.length) a0)), (1, .p ((fun q : List GValue => AV.lst (q.flatMap GValue.cs) q.length) b1)), (12, .i (a0.length : Int)), (13, .i (0 : Int))] [] rfl rfl rfl ?_
  refine bindK H fun o'4 h6 H => ?_
  refine AW2_loopO (fun a'1 : Int => (⟨[(0, .p ((fun q : List GValue => AV.lst (q.flatMap GValue.cs) q.length) a0)), (1, .p ((fun q : List GValue => AV.lst (q.flatMap GValue.cs) q.length) b1)), (12, .i (a0.length : Int)), (13, .i a'1)], [], 26⟩ : TS)) (fun (o : Bool ⊕ Unit) e s' => match o with | .inl y'2 => e = Go.Exit.ret ∧ ResAll Tryd.prog s' [ResultVar.tmp 4] [.b y'2] ∧ HFits s' [] | .inr (y'3) => e = Go.Exit.exit 0 ∧ s' = (⟨[], [], 26⟩ : TS)) h6 rfl (fun t13_0 x hx => ?_) (fun e s' hs => ?_)
  ·clear H
   have H := hx
   clear hx
   unfold g_law_sameRow_l0 at H
   refine sg [0] rfl ?_
   refine rp rfl rfl (p_bin rfl rfl rfl rfl) ?_
   refine rz [(0, .p ((fun q : List GValue => AV.lst (q.flatMap GValue.cs) q.length) a0)), (1, .p ((fun q : List GValue => AV.lst (q.flatMap GValue.cs) q.length) b1)), (12, .i (a0.length : Int)), (13, .i t13_0), (14, .b (decide (t13_0 < (a0.length : Int))))] [] rfl rfl rfl ?_
   refine AW2_seq ?_
   refine AW2_if (p := t13_0 < (a0.length : Int)) rfl (fun h2 => ?_) (fun h2 => ?_)
   ·replace H := ite_then h2 H
    refine as2 [(0, .p ((fun q : List GValue => AV.lst (q.flatMap GValue.cs) q.length) a0)), (1, .p ((fun q : List GValue => AV.lst (q.flatMap GValue.cs) q.length) b1)), (12, .i (a0.length : Int)), (13, .i t13_0)] [] rfl rfl rfl ?_
    refine AW2_skip ?_
    refine AW2_seq ?_
    refine AW2_block ?_
    refine sg [0, 1] rfl ?_
    refine rp rfl rfl (p_move rfl rfl) ?_
    refine rp rfl rfl (p_asg rfl rfl) ?_
    refine rz [(0, .p ((fun q : List GValue => AV.lst (q.flatMap GValue.cs) q.length) a0)), (1, .p ((fun q : List GValue => AV.lst (q.flatMap GValue.cs) q.length) b1)), (5, .i t13_0), (12, .i (a0.length : Int)), (13, .i t13_0)] [] rfl rfl rfl ?_
    refine AW2_seq ?_
    refine chkK H fun h3 H => ?_
    refine chkK H fun h4 H => ?_
    refine AW2_ghoQ ?_
    refine AW2_draw 8 [8] (fun k => ([.p ((fun q : List GValue => AV.lst (q.flatMap GValue.cs) q.length) a0), .i t13_0, .p (.rptr (a0.flatMap GValue.cs) (t13_0.toNat * 4)), .g (GValue.cs (lrd a0 t13_0.toNat)), .p ((fun q : List GValue => AV.lst (q.flatMap GValue.cs) q.length) b1), .i t13_0, .p (.rptr (b1.flatMap GValue.cs) (t13_0.toNat * 4)), .g (GValue.cs (lrd b1 t13_0.toNat))] : List TV).getD k TV.any) (fun k => g_law_sameRow_r6.getD k []) [(0, none), (1, none), (12, none), (13, none), (19, some 3), (23, some 7)] [] (fun k => g_law_sameRow_r6c.getD k []) mixed (by kernel_rfl) rfl rfl (a_op (g_x rfl (x_p rfl (p_move rfl rfl) rfl)) (a_op (g_x rfl (x_p rfl (p_move rfl rfl) rfl)) (a_op (g_x rfl (x_p rfl (u_ixl rfl rfl Tryd.underlying38 in_29 rfl rfl (ixe h3) (ixn h3) (fne (fun x => (GValue.len x)) (by decide) (ixn h3))) rfl)) (a_op (g_x rfl (x_p rfl (u_lda rfl rfl Tryd.underlying29 rfl in_29 rfl (Nat.succ_pos _) (Sub.fm default (fun x => (GValue.len x)) (ixn h3)) (GValue.len (lrd a0 t13_0.toNat))) rfl)) (a_op (g_x rfl (x_p rfl (p_move rfl rfl) rfl)) (a_op (g_x rfl (x_p rfl (p_move rfl rfl) rfl)) (a_op (g_x rfl (x_p rfl (u_ixl rfl rfl Tryd.underlying38 in_29 rfl rfl (ixe h4) (ixn h4) (fne (fun x => (GValue.len x)) (by decide) (ixn h4))) rfl)) (a_op (g_x rfl (x_p rfl (u_lda rfl rfl Tryd.underlying29 rfl in_29 rfl (Nat.succ_pos _) (Sub.fm default (fun x => (GValue.len x)) (ixn h4)) (GValue.len (lrd b1 t13_0.toNat))) rfl)) (a_nil))))))))) ?_
    refine t_op rfl rfl (PureD.opD (p_nea (a := (lrd a0 t13_0.toNat)) (b := (lrd b1 t13_0.toNat)) rfl eq_29 rfl (by kernel_rfl) rfl rfl)) ?_
    refine t_gho (Gho_st (L := [(0, .p ((fun q : List GValue => AV.lst (q.flatMap GValue.cs) q.length) a0)), (1, .p ((fun q : List GValue => AV.lst (q.flatMap GValue.cs) q.length) b1)), (12, .i (a0.length : Int)), (13, .i t13_0), (24, .b (decide ((lrd a0 t13_0.toNat) ≠ (lrd b1 t13_0.toNat))))]) (H := []) (N := 26) rfl ⟨TLes.same _, TLes.same _, TLes.same _, TLes.same _, TLes.same _, trivial⟩ trivial) ?_
    refine AW2_if (p := (lrd a0 t13_0.toNat) ≠ (lrd b1 t13_0.toNat)) rfl (fun h5 => ?_) (fun h5 => ?_)
    ·replace H := ite_then h5 H
     refine sg [0] rfl ?_
     refine rp rfl rfl (p_asg rfl rfl) ?_
     refine rz [(4, .b false)] [] rfl rfl rfl ?_
     refine AW2_ret ?_
     have hz := some_elim H
     subst hz
     exact ⟨rfl, ⟨res_tmp (.same _), trivial⟩, trivial⟩
    ·replace H := ite_else h5 H
     refine as2 [(0, .p ((fun q : List GValue => AV.lst (q.flatMap GValue.cs) q.length) a0)), (1, .p ((fun q : List GValue => AV.lst (q.flatMap GValue.cs) q.length) b1)), (12, .i (a0.length : Int)), (13, .i t13_0)] [] rfl rfl rfl ?_
     refine AW2_skip ?_
     refine AW2_reg [0, 1] rfl ?_
     refine rp rfl rfl (p_bin rfl rfl rfl rfl) ?_
     refine rp rfl rfl (p_move rfl rfl) ?_
     refine rz [(0, .p ((fun q : List GValue => AV.lst (q.flatMap GValue.cs) q.length) a0)), (1, .p ((fun q : List GValue => AV.lst (q.flatMap GValue.cs) q.length) b1)), (12, .i (a0.length : Int)), (13, .i (w64 (t13_0 + (1 : Int))))] [] rfl rfl rfl ?_
     have hz := some_elim H
     subst hz
     exact ⟨rfl, rfl⟩
   ·replace H := ite_else h2 H
    refine as2 [] [] rfl rfl rfl ?_
    refine AW2_exit ?_
    refine thenQ2_exit ?_
    have hz := some_elim H
    subst hz
    exact ⟨rfl, rfl⟩
  ·rcases o'4 with y'5 | y'6
   ·obtain ⟨rfl, hs⟩ := hs
    refine ⟨by simp, ?_⟩
    have hz := some_elim H
    subst hz
    exact ⟨hs.1, hs.2⟩
   ·obtain ⟨rfl, rfl⟩ := hs
    refine ⟨by simp, ?_⟩
    refine blockQ2_exit ?_
    refine sg [0] rfl ?_
    refine rp rfl rfl (p_asg rfl rfl) ?_
    refine rz [(4, .b true)] [] rfl rfl rfl ?_
    refine AW2_ret ?_
    have hz := some_elim H
    subst hz
    exact ⟨⟨res_tmp (.same _), trivial⟩, trivial⟩

/-! chirographlaw.sameRows -/
def g_law_sameRows_r6 : List (List (Nat × Option Nat)) := [[(0, none)], [(5, none)], [(16, some 0), (17, some 1)], [(18, some 2)], [(1, none)], [(5, none)], [(20, some 4), (21, some 5)], [(22, some 6)]]
def g_law_sameRows_r6c : List (List Nat) := [[], [], [0, 1], [0, 1, 2], [], [], [4, 5], [4, 5, 6], [0, 1, 2, 3, 4, 5, 6, 7], [0, 1, 2, 3, 4, 5, 6, 7, 8]]
noncomputable def g_law_sameRows_l0 (a0 : List (List GValue)) (b1 : List (List GValue)) : Int → Option (Int ⊕ (Bool ⊕ Unit))
  | t13_0 => (if t13_0 < (a0.length : Int) then if 0 ≤ t13_0 ∧ t13_0 < (a0.length : Int) then if 0 ≤ t13_0 ∧ t13_0 < (b1.length : Int) then (g_law_sameRow (lrd a0 t13_0.toNat) (lrd b1 t13_0.toNat)).bind fun r'1 => (if (!r'1) = true then some (.inr (.inl false)) else some (.inl (w64 (t13_0 + (1 : Int))))) else none else none else some (.inr (.inr ())))
noncomputable def g_law_sameRows (a0 : List (List GValue)) (b1 : List (List GValue)) : Option (Bool) :=
  (if (a0.length : Int) ≠ (b1.length : Int) then some false else (loopO (g_law_sameRows_l0 a0 b1) (0 : Int)).bind fun o'5 => match o'5 with | .inl y'6 => some y'6 | .inr (y'7) => some true)
set_option maxHeartbeats 4000000 in
set_option maxRecDepth 100000 in
theorem g_law_sameRows_ac {a0 : List (List GValue)} {b1 : List (List GValue)} {r : Bool} (H : g_law_sameRows a0 b1 = some r) : ACp Tryd.prog 22 [((fun q : List (List GValue) => AV.lst (q.map (fun q : List GValue => AV.lst (q.flatMap GValue.cs) q.length)) q.length) a0), ((fun q : List (List GValue) => AV.lst (q.map (fun q : List GValue => AV.lst (q.flatMap GValue.cs) q.length)) q.length) b1)] (AV.bool r) := by
 refine ACp_of (AC2_of_body (vs := [.b r]) Tryd.func22 rfl rfl (Nat.le_of_ble_eq_true rfl) rfl ?_) (fun _ => .same _)
 unfold g_law_sameRows at H
 refine as2 [(0, .p ((fun q : List (List GValue) => AV.lst (q.map (fun q : List GValue => AV.lst (q.flatMap GValue.cs) q.length)) q.length) a0)), (1, .p ((fun q : List (List GValue) => AV.lst (q.map (fun q : List GValue => AV.lst (q.flatMap GValue.cs) q.length)) q.length) b1))] [] rfl rfl rfl ?_
 refine sg [0] rfl ?_
 refine rp rfl rfl (p_asg rfl rfl) ?_
 refine rz [(0, .p ((fun q : List (List GValue) => AV.lst (q.map (fun q : List GValue => AV.lst (q.flatMap GValue.cs) q.length)) q.length) a0)), (1, .p ((fun q : List (List GValue) => AV.lst (q.map (fun q : List GValue => AV.lst (q.flatMap GValue.cs) q.length)) q.length) b1))] [] rfl rfl rfl ?_
 refine AW2_seq ?_
 refine sg [0, 1, 2, 3, 4] rfl ?_
 refine rp rfl rfl (p_move rfl rfl) ?_
 refine rp rfl rfl (p_lenl rfl Tryd.underlying50 rfl rfl) ?_
 refine rp rfl rfl (p_move rfl rfl) ?_
 refine rp rfl rfl (p_lenl rfl Tryd.underlying50 rfl rfl) ?_
 refine rp rfl rfl (p_ine rfl rfl rfl) ?_
 refine rz [(0, .p ((fun q : List (List GValue) => AV.lst (q.map (fun q : List GValue => AV.lst (q.flatMap GValue.cs) q.length)) q.length) a0)), (1, .p ((fun q : List (List GValue) => AV.lst (q.map (fun q : List GValue => AV.lst (q.flatMap GValue.cs) q.length)) q.length) b1)), (10, .b (decide ((a0.length : Int) ≠ (b1.length : Int))))] [] rfl rfl rfl ?_
 refine AW2_if (p := (a0.length : Int) ≠ (b1.length : Int)) rfl (fun h1 => ?_) (fun h1 => ?_)
 ·replace H := ite_then h1 H
  refine sg [0] rfl ?_
  refine rp rfl rfl (p_asg rfl rfl) ?_
  refine rz [(4, .b false)] [] rfl rfl rfl ?_
  refine AW2_ret ?_
  have hz := some_elim H
  subst hz
  exact ⟨⟨res_tmp (.same _), trivial⟩, trivial⟩
 ·replace H := ite_else h1 H
  refine as2 [(0, .p ((fun q : List (List GValue) => AV.lst (q.map (fun q : List GValue => AV.lst (q.flatMap GValue.cs) q.length)) q.length) a0)), (1, .p ((fun q : List (List GValue) => AV.lst (q.map (fun q : List GValue => AV.lst (q.flatMap GValue.cs) q.length)) q.length) b1))] [] rfl rfl rfl ?_
  refine AW2_skip ?_
  refine AW2_seq ?_
  refine sg [0, 1, 2] rfl ?_
  refine rp rfl rfl (p_move rfl rfl) ?_
  refine rp rfl rfl (p_lenl rfl Tryd.underlying50 rfl rfl) ?_
  refine rp rfl rfl (p_move rfl rfl) ?_
  refine rz [(0, .p ((fun q : List (List GValue) => AV.lst (q.map (fun q : List GValue => AV.lst (q.flatMap GValue.cs) q.length)) q.length) a0)), (1, .p ((fun q : List (List GValue) => AV.lst (q.map (fun q : List GValue => AV.lst (q.flatMap GValue.cs) q.length)) q.length) b1)), (12, .i (a0.length : Int)), (13, .i (0 : Int))] [] rfl rfl rfl ?_
  refine AW2_block ?_
  refine as2 [(0, .p ((fun q : List (List GValue) => AV.lst (q.map (fun q : List GValue => AV.lst (q.flatMap GValue.cs) q.length)) q.length) a0)), (1, .p ((fun q : List (List GValue) => AV.lst (q.map (fun q : List GValue => AV.lst (q.flatMap GValue.cs) q.length)) q.length) b1)), (12, .i (a0.length : Int)), (13, .i (0 : Int))] [] rfl rfl rfl ?_
  refine bindK H fun o'5 h7 H => ?_
  refine AW2_loopO (fun a'2 : Int => (⟨[(0, .p ((fun q : List (List GValue) => AV.lst (q.map (fun q : List GValue => AV.lst (q.flatMap GValue.cs) q.length)) q.length) a0)), (1, .p ((fun q : List (List GValue) => AV.lst (q.map (fun q : List GValue => AV.lst (q.flatMap GValue.cs) q.length)) q.length) b1)), (12, .i (a0.length : Int)), (13, .i a'2)], [], 27⟩ : TS)) (fun (o : Bool ⊕ Unit) e s' => match o with | .inl y'3 => e = Go.Exit.ret ∧ ResAll Tryd.prog s' [ResultVar.tmp 4] [.b y'3] ∧ HFits s' [] | .inr (y'4) => e = Go.Exit.exit 0 ∧ s' = (⟨[], [], 27⟩ : TS)) h7 rfl (fun t13_0 x hx => ?_) (fun e s' hs => ?_)
  ·clear H
   have H := hx
   clear hx
   unfold g_law_sameRows_l0 at H
   refine sg [0] rfl ?_
   refine rp rfl rfl (p_bin rfl rfl rfl rfl) ?_
   refine rz [(0, .p ((fun q : List (List GValue) => AV.lst (q.map (fun q : List GValue => AV.lst (q.flatMap GValue.cs) q.length)) q.length) a0)), (1, .p ((fun q : List (List GValue) => AV.lst (q.map (fun q : List GValue => AV.lst (q.flatMap GValue.cs) q.length)) q.length) b1)), (12, .i (a0.length : Int)), (13, .i t13_0), (14, .b (decide (t13_0 < (a0.length : Int))))] [] rfl rfl rfl ?_
   refine AW2_seq ?_
   refine AW2_if (p := t13_0 < (a0.length : Int)) rfl (fun h2 => ?_) (fun h2 => ?_)
   ·replace H := ite_then h2 H
    refine as2 [(0, .p ((fun q : List (List GValue) => AV.lst (q.map (fun q : List GValue => AV.lst (q.flatMap GValue.cs) q.length)) q.length) a0)), (1, .p ((fun q : List (List GValue) => AV.lst (q.map (fun q : List GValue => AV.lst (q.flatMap GValue.cs) q.length)) q.length) b1)), (12, .i (a0.length : Int)), (13, .i t13_0)] [] rfl rfl rfl ?_
    refine AW2_skip ?_
    refine AW2_seq ?_
    refine AW2_block ?_
    refine sg [0, 1] rfl ?_
    refine rp rfl rfl (p_move rfl rfl) ?_
    refine rp rfl rfl (p_asg rfl rfl) ?_
    refine rz [(0, .p ((fun q : List (List GValue) => AV.lst (q.map (fun q : List GValue => AV.lst (q.flatMap GValue.cs) q.length)) q.length) a0)), (1, .p ((fun q : List (List GValue) => AV.lst (q.map (fun q : List GValue => AV.lst (q.flatMap GValue.cs) q.length)) q.length) b1)), (5, .i t13_0), (12, .i (a0.length : Int)), (13, .i t13_0)] [] rfl rfl rfl ?_
    refine AW2_seq ?_
    refine chkK H fun h3 H => ?_
    refine chkK H fun h4 H => ?_
    refine bindK H fun r'1 h5 H => ?_
    refine AW2_ghoQ ?_
    refine AW2_draw 8 [8, 9] (fun k => ([.p ((fun q : List (List GValue) => AV.lst (q.map (fun q : List GValue => AV.lst (q.flatMap GValue.cs) q.length)) q.length) a0), .i t13_0, .p (.rptr (a0.map (fun q : List GValue => AV.lst (q.flatMap GValue.cs) q.length)) (t13_0.toNat * 1)), .p ((fun q : List GValue => AV.lst (q.flatMap GValue.cs) q.length) (lrd a0 t13_0.toNat)), .p ((fun q : List (List GValue) => AV.lst (q.map (fun q : List GValue => AV.lst (q.flatMap GValue.cs) q.length)) q.length) b1), .i t13_0, .p (.rptr (b1.map (fun q : List GValue => AV.lst (q.flatMap GValue.cs) q.length)) (t13_0.toNat * 1)), .p ((fun q : List GValue => AV.lst (q.flatMap GValue.cs) q.length) (lrd b1 t13_0.toNat))] : List TV).getD k TV.any) (fun k => g_law_sameRows_r6.getD k []) [(0, none), (1, none), (12, none), (13, none), (19, some 3), (23, some 7)] [] (fun k => g_law_sameRows_r6c.getD k []) mixed (by kernel_rfl) rfl rfl (a_op (g_x rfl (x_p rfl (p_move rfl rfl) rfl)) (a_op (g_x rfl (x_p rfl (p_move rfl rfl) rfl)) (a_op (g_x rfl (x_p rfl (u_ixl rfl rfl Tryd.underlying50 in_38 rfl rfl (ixe h3) (ixn h3) (lne (ixn h3))) rfl)) (a_op (g_x rfl (x_p rfl (u_ld rfl rfl Tryd.underlying38 rfl rfl (Sub.map default (ixn h3))) rfl)) (a_op (g_x rfl (x_p rfl (p_move rfl rfl) rfl)) (a_op (g_x rfl (x_p rfl (p_move rfl rfl) rfl)) (a_op (g_x rfl (x_p rfl (u_ixl rfl rfl Tryd.underlying50 in_38 rfl rfl (ixe h4) (ixn h4) (lne (ixn h4))) rfl)) (a_op (g_x rfl (x_p rfl (u_ld rfl rfl Tryd.underlying38 rfl rfl (Sub.map default (ixn h4))) rfl)) (a_nil))))))))) ?_
    refine t_op rfl rfl (PureD.opD (p_callp rfl rfl rfl Tryd.func48 rfl rfl (g_law_sameRow_ac h5) ⟨rfl, rfl, trivial⟩)) ?_
    refine t_op rfl rfl (PureD.opD (p_not rfl rfl)) ?_
    refine t_gho (Gho_st (L := [(0, .p ((fun q : List (List GValue) => AV.lst (q.map (fun q : List GValue => AV.lst (q.flatMap GValue.cs) q.length)) q.length) a0)), (1, .p ((fun q : List (List GValue) => AV.lst (q.map (fun q : List GValue => AV.lst (q.flatMap GValue.cs) q.length)) q.length) b1)), (12, .i (a0.length : Int)), (13, .i t13_0), (25, .b (!r'1))]) (H := []) (N := 27) rfl ⟨TLes.same _, TLes.same _, TLes.same _, TLes.same _, TLes.same _, trivial⟩ trivial) ?_
    refine AW2_cond rfl (fun h6 => ?_) (fun h6 => ?_)
    ·replace H := ite_then h6 H
     refine sg [0] rfl ?_
     refine rp rfl rfl (p_asg rfl rfl) ?_
     refine rz [(4, .b false)] [] rfl rfl rfl ?_
     refine AW2_ret ?_
     have hz := some_elim H
     subst hz
     exact ⟨rfl, ⟨res_tmp (.same _), trivial⟩, trivial⟩
    ·replace H := ite_else (ne_true h6) H
     refine as2 [(0, .p ((fun q : List (List GValue) => AV.lst (q.map (fun q : List GValue => AV.lst (q.flatMap GValue.cs) q.length)) q.length) a0)), (1, .p ((fun q : List (List GValue) => AV.lst (q.map (fun q : List GValue => AV.lst (q.flatMap GValue.cs) q.length)) q.length) b1)), (12, .i (a0.length : Int)), (13, .i t13_0)] [] rfl rfl rfl ?_
     refine AW2_skip ?_
     refine AW2_reg [0, 1] rfl ?_
     refine rp rfl rfl (p_bin rfl rfl rfl rfl) ?_
     refine rp rfl rfl (p_move rfl rfl) ?_
     refine rz [(0, .p ((fun q : List (List GValue) => AV.lst (q.map (fun q : List GValue => AV.lst (q.flatMap GValue.cs) q.length)) q.length) a0)), (1, .p ((fun q : List (List GValue) => AV.lst (q.map (fun q : List GValue => AV.lst (q.flatMap GValue.cs) q.length)) q.length) b1)), (12, .i (a0.length : Int)), (13, .i (w64 (t13_0 + (1 : Int))))] [] rfl rfl rfl ?_
     have hz := some_elim H
     subst hz
     exact ⟨rfl, rfl⟩
   ·replace H := ite_else h2 H
    refine as2 [] [] rfl rfl rfl ?_
    refine AW2_exit ?_
    refine thenQ2_exit ?_
    have hz := some_elim H
    subst hz
    exact ⟨rfl, rfl⟩
  ·rcases o'5 with y'6 | y'7
   ·obtain ⟨rfl, hs⟩ := hs
    refine ⟨by simp, ?_⟩
    have hz := some_elim H
    subst hz
    exact ⟨hs.1, hs.2⟩
   ·obtain ⟨rfl, rfl⟩ := hs
    refine ⟨by simp, ?_⟩
    refine blockQ2_exit ?_
    refine sg [0] rfl ?_
    refine rp rfl rfl (p_asg rfl rfl) ?_
    refine rz [(4, .b true)] [] rfl rfl rfl ?_
    refine AW2_ret ?_
    have hz := some_elim H
    subst hz
    exact ⟨⟨res_tmp (.same _), trivial⟩, trivial⟩
end Go.Proofs.YtalnmpfjgiecdaaDoor.VM
