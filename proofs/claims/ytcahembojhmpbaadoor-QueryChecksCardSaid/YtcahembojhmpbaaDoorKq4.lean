/- Functions of the program, as they answer, and that their code comes to these answers. -/
import Derived.Test.YtcahembojhmpbaaDoorKq3
namespace Go.Proofs.YtcahembojhmpbaaDoor.VM
open Go Go.RowKit



/-! chirographref.nodeFault -/
def g_ref_nodeFault_r4 : List (List (Nat × Option Nat)) := [[(1, none)], [(19, some 0)], [(20, some 1)], [(3, none)], [(1, none)], [(23, some 4)], [(22, some 3), (24, some 5)], [(25, some 6)]]
def g_ref_nodeFault_r4c : List (List Nat) := [[], [0], [0, 1], [], [], [4], [3, 4, 5], [3, 4, 5, 6], [0, 1, 2, 3, 4, 5, 6, 7], [0, 1, 2, 3, 4, 5, 6, 7, 8]]
noncomputable def g_ref_nodeFault_l0 (e0 : GExpr) (R' : GExpr → Option Int) : Int → Option (Int ⊕ (Int ⊕ Unit))
  | t87_0 => (if t87_0 < (e0.Args.length : Int) then if 0 ≤ t87_0 ∧ t87_0 < (e0.Args.length : Int) then (R' (lrd e0.Args t87_0.toNat)).bind fun r'9 => (if r'9 ≠ (0 : Int) then some (.inr (.inl r'9)) else some (.inl (w64 (t87_0 + (1 : Int))))) else none else some (.inr (.inr ())))
noncomputable def g_ref_nodeFault_b (R' : GExpr → Option Int) (e0 : GExpr) : Option (Int) :=
  letO (([(0 : Int), (0 : Int), (0 : Int), (1 : Int), (1 : Int), (2 : Int), (2 : Int), (2 : Int), (2 : Int), (2 : Int), (2 : Int), (2 : Int), (2 : Int), (2 : Int), (2 : Int), (2 : Int), (2 : Int), (1 : Int), (1 : Int), (2 : Int), (2 : Int)] : List Int)) fun want3'1 => (if (e0.Op < (1 : Int)) ∨ (e0.Op ≥ (want3'1.length : Int)) then some (2 : Int) else if 0 ≤ e0.Op ∧ e0.Op < (want3'1.length : Int) then ((if e0.Op = (1 : Int) then ((if (e0.Args.length : Int) = (lrd want3'1 e0.Op.toNat) then (if e0.Name = [] then (g_ref_ValueFault e0.Value).bind fun r'4 => (if r'4 = (0 : Int) then some (decide (e0.Value.Int_ ≥ (0 : Int))) else some false) else some false) else some false)).bind fun g'5 => some g'5 else (if e0.Op = (2 : Int) then ((if (e0.Args.length : Int) = (lrd want3'1 e0.Op.toNat) then (if e0.Value = GValue.zero then (g_ref_isName e0.Name).bind fun r'7 => (if r'7 = true then some (decide ((e0.Name.length : Int) ≤ (8 : Int))) else some false) else some false) else some false)).bind fun g'8 => some g'8 else some (decide ((((e0.Args.length : Int) = (lrd want3'1 e0.Op.toNat)) ∧ (e0.Name = [])) ∧ (e0.Value = GValue.zero)))))).bind fun j'2 => (if (!j'2) = true then some (3 : Int) else (loopO (g_ref_nodeFault_l0 e0 R') (0 : Int)).bind fun o'13 => match o'13 with | .inl y'14 => some y'14 | .inr (y'15) => some (0 : Int)) else none)
noncomputable def g_ref_nodeFault : Nat → GExpr → Option Int
  | 0, _ => none
  | fu + 1, e0 => g_ref_nodeFault_b (g_ref_nodeFault fu) e0
set_option maxHeartbeats 4000000 in
set_option maxRecDepth 100000 in
theorem g_ref_nodeFault_ac0 {R' : GExpr → Option Int} (hR : ∀ {e0 : GExpr} {r : Int}, R' e0 = some r → ACp Tryd.prog 47 [(.agg (GExpr.cs e0))] (AV.int r)) {e0 : GExpr} {r : Int} (H : g_ref_nodeFault_b R' e0 = some r) : ACp Tryd.prog 47 [(.agg (GExpr.cs e0))] (AV.int r) := by
 refine ACp_of (AC2_of_body (vs := [.i r]) Tryd.func47 rfl rfl (Nat.le_of_ble_eq_true rfl) rfl ?_) (fun _ => .same _)
 unfold g_ref_nodeFault_b at H
 refine as2 [(0, .g (GExpr.cs e0))] [] rfl rfl rfl ?_
 refine sg [0, 1] rfl ?_
 refine r_op rfl rfl (MakeD.opD (n_box 1 rfl rfl) rfl rfl rfl rfl) ?_
 refine rp rfl rfl (p_asg rfl rfl) ?_
 refine rz [(1, .q 1 (0))] [(1, .pure (GExpr.cs e0))] rfl rfl rfl ?_
 refine sg [0, 1] rfl ?_
 refine r_op rfl rfl (MakeD.opD (u_bs 8 rfl Tryd.underlying76 in_3 rfl one_3 (by decide) (by decide) rfl rfl rfl) rfl rfl rfl rfl) ?_
 refine rp rfl rfl (p_asg rfl rfl) ?_
 refine RunW_st [(1, .q 1 (0)), (3, .c (.own 8 ([(0 : Int), (0 : Int), (0 : Int), (1 : Int), (1 : Int), (2 : Int), (2 : Int), (2 : Int), (2 : Int), (2 : Int), (2 : Int), (2 : Int), (2 : Int), (2 : Int), (2 : Int), (2 : Int), (2 : Int), (1 : Int), (1 : Int), (2 : Int), (2 : Int)] : List Int).length 1))] [(1, .pure (GExpr.cs e0)), (8, .pure (([(0 : Int), (0 : Int), (0 : Int), (1 : Int), (1 : Int), (2 : Int), (2 : Int), (2 : Int), (2 : Int), (2 : Int), (2 : Int), (2 : Int), (2 : Int), (2 : Int), (2 : Int), (2 : Int), (2 : Int), (1 : Int), (1 : Int), (2 : Int), (2 : Int)] : List Int).map AV.int))] rfl ⟨TLes.same _, TLes.own rfl, trivial⟩ ⟨rfl, rfl, trivial⟩ ?_
 refine RunW_gho (Gho_ren 8 3 rfl rfl rfl rfl rfl) ?_
 refine rz [(1, .q 1 (0)), (3, .c (.own 3 ([(0 : Int), (0 : Int), (0 : Int), (1 : Int), (1 : Int), (2 : Int), (2 : Int), (2 : Int), (2 : Int), (2 : Int), (2 : Int), (2 : Int), (2 : Int), (2 : Int), (2 : Int), (2 : Int), (2 : Int), (1 : Int), (1 : Int), (2 : Int), (2 : Int)] : List Int).length 1))] [(1, .pure (GExpr.cs e0)), (3, .pure (([(0 : Int), (0 : Int), (0 : Int), (1 : Int), (1 : Int), (2 : Int), (2 : Int), (2 : Int), (2 : Int), (2 : Int), (2 : Int), (2 : Int), (2 : Int), (2 : Int), (2 : Int), (2 : Int), (2 : Int), (1 : Int), (1 : Int), (2 : Int), (2 : Int)] : List Int).map AV.int))] rfl rfl rfl ?_
 refine gen1 (fun want3'1 => (⟨[(1, .q 1 (0)), (3, .c (.own 3 want3'1.length 1))], [(1, .pure (GExpr.cs e0)), (3, .pure (want3'1.map AV.int))], 97⟩ : TS)) H ?_
 intro want3'1 H
 refine AW2_seq ?_
 refine AW2_seq ?_
 refine AW2_mid (⟨[(1, .q 1 (0)), (3, .c (.own 3 want3'1.length 1)), (18, .b (decide ((e0.Op < (1 : Int)) ∨ (e0.Op ≥ (want3'1.length : Int)))))], [(1, .pure (GExpr.cs e0)), (3, .pure (want3'1.map AV.int))], 97⟩ : TS) ?_ ?_
 ·refine AW2_reg [0, 1, 2, 3, 4, 5, 6, 7, 8, 9] rfl ?_
  refine rp rfl rfl (u_fa rfl rfl Tryd.underlying27 rfl in_3 (Nat.succ_ne_zero _) rfl rfl (ne_of_lt (n := 0) (Nat.lt_of_lt_of_eq (by decide) (Eq.symm (GExpr.len e0))))) ?_
  refine rp rfl rfl (u_ld rfl rfl Tryd.underlying3 rfl rfl ((Sub.refl _).trans (GExpr.sub0 e0))) ?_
  refine rp rfl rfl (p_bin rfl rfl rfl rfl) ?_
  refine rp rfl rfl (p_move rfl rfl) ?_
  refine (Classical.em (e0.Op < (1 : Int))).elim (fun h1 => ?_) (fun h1 => ?_)
  ·iterate 5 (refine r_off rfl rfl rfl rfl (decide_eq_true h1) rfl rfl ?_)
   refine rp rfl rfl (p_pkt rfl rfl (decide_eq_true h1) (tb (decide_eq_true (p := (e0.Op < (1 : Int)) ∨ (e0.Op ≥ (want3'1.length : Int))) (Or.inl h1)).symm)) ?_
   refine rs [(1, .q 1 (0)), (3, .c (.own 3 want3'1.length 1)), (18, .b (decide ((e0.Op < (1 : Int)) ∨ (e0.Op ≥ (want3'1.length : Int)))))] [(1, .pure (GExpr.cs e0)), (3, .pure (want3'1.map AV.int))] rfl rfl rfl ?_
   exact RunW_nil rfl
  ·refine r_on rfl rfl rfl rfl (decide_eq_false h1) rfl (PureD.opD (u_fa rfl rfl Tryd.underlying27 rfl in_3 (Nat.succ_ne_zero _) rfl rfl (ne_of_lt (n := 0) (Nat.lt_of_lt_of_eq (by decide) (Eq.symm (GExpr.len e0)))))) ?_
   refine r_on rfl rfl rfl rfl (decide_eq_false h1) rfl (PureD.opD (u_ld rfl rfl Tryd.underlying3 rfl rfl ((Sub.refl _).trans (GExpr.sub0 e0)))) ?_
   refine r_on rfl rfl rfl rfl (decide_eq_false h1) rfl (PureD.opD (p_move rfl rfl)) ?_
   refine r_on rfl rfl rfl rfl (decide_eq_false h1) rfl (PureD.opD (p_leno rfl Tryd.underlying76 rfl rfl rfl (ml AV.int want3'1) (by decide))) ?_
   refine r_on rfl rfl rfl rfl (decide_eq_false h1) rfl (PureD.opD (p_bin rfl rfl rfl rfl)) ?_
   refine rp rfl rfl (p_pkf rfl rfl (decide_eq_false h1) (tb ((or_l (p := e0.Op < (1 : Int)) (q := e0.Op ≥ (want3'1.length : Int)) h1)))) ?_
   refine rs [(1, .q 1 (0)), (3, .c (.own 3 want3'1.length 1)), (18, .b (decide ((e0.Op < (1 : Int)) ∨ (e0.Op ≥ (want3'1.length : Int)))))] [(1, .pure (GExpr.cs e0)), (3, .pure (want3'1.map AV.int))] rfl rfl rfl ?_
   exact RunW_nil rfl
 ·refine AW2_if (p := (e0.Op < (1 : Int)) ∨ (e0.Op ≥ (want3'1.length : Int))) rfl (fun h2 => ?_) (fun h2 => ?_)
  ·replace H := ite_then h2 H
   refine sg [0] rfl ?_
   refine rp rfl rfl (p_asg rfl rfl) ?_
   refine rz [(2, .i (2 : Int))] [] rfl rfl rfl ?_
   refine AW2_ret ?_
   have hz := some_elim H
   subst hz
   exact ⟨⟨res_tmp (.same _), trivial⟩, trivial⟩
  ·replace H := ite_else h2 H
   refine as2 [(1, .q 1 (0)), (3, .c (.own 3 want3'1.length 1))] [(1, .pure (GExpr.cs e0)), (3, .pure (want3'1.map AV.int))] rfl rfl rfl ?_
   refine AW2_skip ?_
   refine AW2_seq ?_
   refine chkK H fun h3 H => ?_
   refine AW2_ghoQ ?_
   refine AW2_draw 8 [8, 9] (fun k => ([.q 1 (0 + 6), .p ((fun q : List GExpr => AV.lst (q.flatMap GExpr.cs) q.length) e0.Args), .i (e0.Args.length : Int), .c (.own 3 want3'1.length 1), .q 1 (0 + 0), .i e0.Op, .q 3 (0 + e0.Op.toNat * 1), .i (lrd want3'1 e0.Op.toNat)] : List TV).getD k TV.any) (fun k => g_ref_nodeFault_r4.getD k []) [(1, none), (21, some 2), (26, some 7)] [] (fun k => g_ref_nodeFault_r4c.getD k []) mixed (by kernel_rfl) rfl rfl (a_op (g_x rfl (x_p rfl (u_fa rfl rfl Tryd.underlying27 rfl in_25 (Nat.succ_ne_zero _) rfl rfl (ne_of_lt (n := 0) (Nat.lt_of_lt_of_eq (by decide) (Eq.symm (GExpr.len e0))))) rfl)) (a_op (g_x rfl (x_p rfl (u_ld rfl rfl Tryd.underlying25 rfl rfl ((Sub.refl _).trans (GExpr.sub3 e0))) rfl)) (a_op (g_x rfl (x_p rfl (p_lenl rfl Tryd.underlying25 rfl rfl) rfl)) (a_op (g_x rfl (x_p rfl (p_move rfl rfl) rfl)) (a_op (g_x rfl (x_p rfl (u_fa rfl rfl Tryd.underlying27 rfl in_3 (Nat.succ_ne_zero _) rfl rfl (ne_of_lt (n := 0) (Nat.lt_of_lt_of_eq (by decide) (Eq.symm (GExpr.len e0))))) rfl)) (a_op (g_x rfl (x_p rfl (u_ld rfl rfl Tryd.underlying3 rfl rfl ((Sub.refl _).trans (GExpr.sub0 e0))) rfl)) (a_op (g_x rfl (x_p rfl (u_ixo rfl rfl Tryd.underlying76 in_3 rfl rfl (lne (ixn h3)) rfl (ixe h3) (ixn h3)) rfl)) (a_op (g_x rfl (x_p rfl (u_ld rfl rfl Tryd.underlying3 rfl rfl ((Sub.refl _).trans (Sub.map default (ixn h3)))) rfl)) (a_nil))))))))) ?_
   refine t_op rfl rfl (PureD.opD (p_ieq rfl rfl rfl)) ?_
   refine t_op rfl rfl (PureD.opD (p_asg rfl rfl)) ?_
   refine t_gho (Gho_st (L := [(1, .q 1 (0)), (4, .b (decide ((e0.Args.length : Int) = (lrd want3'1 e0.Op.toNat))))]) (H := [(1, .pure (GExpr.cs e0))]) (N := 97) rfl ⟨TLes.same _, TLes.same _, trivial⟩ ⟨rfl, trivial⟩) ?_
   refine AW2_seq ?_
   refine bindK H fun j'2 h4 H => ?_
   refine AW2_mid (⟨[(1, .q 1 (0)), (4, .b j'2)], [(1, .pure (GExpr.cs e0))], 97⟩ : TS) ?_ ?_
   ·clear H
    have H := h4
    clear h4
    refine sg [0, 1] rfl ?_
    refine rp rfl rfl (u_fa rfl rfl Tryd.underlying27 rfl in_3 (Nat.succ_ne_zero _) rfl rfl (ne_of_lt (n := 0) (Nat.lt_of_lt_of_eq (by decide) (Eq.symm (GExpr.len e0))))) ?_
    refine rp rfl rfl (u_ld rfl rfl Tryd.underlying3 rfl rfl ((Sub.refl _).trans (GExpr.sub0 e0))) ?_
    refine rz [(1, .q 1 (0)), (4, .b (decide ((e0.Args.length : Int) = (lrd want3'1 e0.Op.toNat)))), (29, .i e0.Op)] [(1, .pure (GExpr.cs e0))] rfl rfl rfl ?_
    refine AW2_block ?_
    refine sg [0, 1] rfl ?_
    refine rp rfl rfl (p_ieq rfl rfl rfl) ?_
    refine rp rfl rfl (p_asg rfl rfl) ?_
    refine rz [(1, .q 1 (0)), (4, .b (decide ((e0.Args.length : Int) = (lrd want3'1 e0.Op.toNat)))), (29, .i e0.Op), (42, .b (decide (e0.Op = (1 : Int))))] [(1, .pure (GExpr.cs e0))] rfl rfl rfl ?_
    refine AW2_if (p := e0.Op = (1 : Int)) rfl (fun h5 => ?_) (fun h5 => ?_)
    ·replace H := ite_then h5 H
     refine bindK H fun g'5 h11 H => ?_
     refine AW2_mid (⟨[(1, .q 1 (0)), (4, .b g'5)], [(1, .pure (GExpr.cs e0))], 97⟩ : TS) ?_ ?_
     ·clear H
      have H := h11
      clear h11
      refine AW2_reg [0, 1, 2, 3, 4, 5, 6, 7, 8, 9, 10, 11, 12, 13, 14, 15, 16, 17, 18] rfl ?_
      refine rp rfl rfl (p_move rfl rfl) ?_
      refine rp rfl rfl (p_move rfl rfl) ?_
      refine (Classical.em ((e0.Args.length : Int) = (lrd want3'1 e0.Op.toNat))).elim (fun h7 => ?_) (fun h7 => ?_)
      ·replace H := ite_then h7 H
       refine r_on rfl rfl rfl rfl (decide_eq_true h7) rfl (PureD.opD (u_fa rfl rfl Tryd.underlying27 rfl in_9 (Nat.succ_ne_zero _) rfl rfl (ne_of_lt (n := 0) (Nat.lt_of_lt_of_eq (by decide) (Eq.symm (GExpr.len e0)))))) ?_
       refine r_on rfl rfl rfl rfl (decide_eq_true h7) rfl (PureD.opD (u_ld rfl rfl Tryd.underlying9 rfl rfl ((Sub.refl _).trans (GExpr.sub2 e0)))) ?_
       refine r_on rfl rfl rfl rfl (decide_eq_true h7) rfl (PureD.opD (p_seq rfl rfl rfl)) ?_
       refine rp rfl rfl (p_pkt rfl rfl (decide_eq_true h7) (.same _)) ?_
       refine rp rfl rfl (p_move rfl rfl) ?_
       refine (Classical.em (e0.Name = [])).elim (fun h8 => ?_) (fun h8 => ?_)
       ·replace H := ite_then h8 H
        refine r_on rfl rfl rfl rfl (decide_eq_true h8) rfl (PureD.opD (u_fa rfl rfl Tryd.underlying27 rfl in_24 (Nat.succ_ne_zero _) rfl rfl (ne_of_lt (n := 0) (Nat.lt_of_lt_of_eq (by decide) (Eq.symm (GExpr.len e0)))))) ?_
        refine r_on rfl rfl rfl rfl (decide_eq_true h8) rfl (PureD.opD (u_lda rfl rfl Tryd.underlying24 rfl in_24 rfl (Nat.succ_pos _) ((Sub.refl _).trans (GExpr.sub1 e0)) (GValue.len e0.Value))) ?_
        refine bindK H fun r'4 h9 H => ?_
        refine r_on rfl rfl rfl rfl (decide_eq_true h8) rfl (PureD.opD (p_callp rfl rfl rfl Tryd.func35 rfl rfl (g_ref_ValueFault_ac h9) ⟨rfl, trivial⟩)) ?_
        refine r_on rfl rfl rfl rfl (decide_eq_true h8) rfl (PureD.opD (p_ieq rfl rfl rfl)) ?_
        refine rp rfl rfl (p_pkt rfl rfl (decide_eq_true h8) (.same _)) ?_
        refine rp rfl rfl (p_move rfl rfl) ?_
        refine (Classical.em (r'4 = (0 : Int))).elim (fun h10 => ?_) (fun h10 => ?_)
        ·replace H := ite_then h10 H
         refine r_on rfl rfl rfl rfl (decide_eq_true h10) rfl (PureD.opD (u_fa rfl rfl Tryd.underlying27 rfl in_24 (Nat.succ_ne_zero _) rfl rfl (ne_of_lt (n := 0) (Nat.lt_of_lt_of_eq (by decide) (Eq.symm (GExpr.len e0)))))) ?_
         refine r_on rfl rfl rfl rfl (decide_eq_true h10) rfl (PureD.opD (u_fa rfl rfl Tryd.underlying24 rfl in_3 (Nat.succ_ne_zero _) rfl rfl (ne_of_lt (n := 0) (Nat.lt_of_lt_of_eq (by decide) (Eq.symm (GExpr.len e0)))))) ?_
         refine r_on rfl rfl rfl rfl (decide_eq_true h10) rfl (PureD.opD (u_ld rfl rfl Tryd.underlying3 rfl rfl (((Sub.refl _).trans (GExpr.sub1 e0)).trans (GValue.sub1 e0.Value)))) ?_
         refine r_on rfl rfl rfl rfl (decide_eq_true h10) rfl (PureD.opD (p_bin rfl rfl rfl rfl)) ?_
         refine rp rfl rfl (p_pkt rfl rfl (decide_eq_true h10) (.same _)) ?_
         refine rp rfl rfl (p_asg rfl rfl) ?_
         refine rs [(1, .q 1 (0)), (4, .b (decide (e0.Value.Int_ ≥ (0 : Int))))] [(1, .pure (GExpr.cs e0))] rfl rfl rfl ?_
         have hz := some_elim H
         subst hz
         exact RunW_nil rfl
        ·replace H := ite_else h10 H
         iterate 4 (refine r_off rfl rfl rfl rfl (decide_eq_false h10) rfl rfl ?_)
         refine rp rfl rfl (p_pkf rfl rfl (decide_eq_false h10) (.same _)) ?_
         refine rp rfl rfl (p_asg rfl rfl) ?_
         refine rs [(1, .q 1 (0)), (4, .b false)] [(1, .pure (GExpr.cs e0))] rfl rfl rfl ?_
         have hz := some_elim H
         subst hz
         exact RunW_nil rfl
       ·replace H := ite_else h8 H
        iterate 4 (refine r_off rfl rfl rfl rfl (decide_eq_false h8) rfl rfl ?_)
        refine rp rfl rfl (p_pkf rfl rfl (decide_eq_false h8) (.same _)) ?_
        refine rp rfl rfl (p_move rfl rfl) ?_
        iterate 4 (refine r_off rfl rfl rfl rfl (bfalse (by decide)) rfl rfl ?_)
        refine rp rfl rfl (p_pkf rfl rfl (bfalse (by decide)) (.same _)) ?_
        refine rp rfl rfl (p_asg rfl rfl) ?_
        refine rs [(1, .q 1 (0)), (4, .b false)] [(1, .pure (GExpr.cs e0))] rfl rfl rfl ?_
        have hz := some_elim H
        subst hz
        exact RunW_nil rfl
      ·replace H := ite_else h7 H
       iterate 3 (refine r_off rfl rfl rfl rfl (decide_eq_false h7) rfl rfl ?_)
       refine rp rfl rfl (p_pkf rfl rfl (decide_eq_false h7) (.same _)) ?_
       refine rp rfl rfl (p_move rfl rfl) ?_
       iterate 4 (refine r_off rfl rfl rfl rfl (bfalse (by decide)) rfl rfl ?_)
       refine rp rfl rfl (p_pkf rfl rfl (bfalse (by decide)) (.same _)) ?_
       refine rp rfl rfl (p_move rfl rfl) ?_
       iterate 4 (refine r_off rfl rfl rfl rfl (bfalse (by decide)) rfl rfl ?_)
       refine rp rfl rfl (p_pkf rfl rfl (bfalse (by decide)) (.same _)) ?_
       refine rp rfl rfl (p_asg rfl rfl) ?_
       refine rs [(1, .q 1 (0)), (4, .b false)] [(1, .pure (GExpr.cs e0))] rfl rfl rfl ?_
       have hz := some_elim H
       subst hz
       exact RunW_nil rfl
     ·have hz := some_elim H
      subst hz
      exact rfl
    ·replace H := ite_else h5 H
     refine sg [0, 1] rfl ?_
     refine rp rfl rfl (p_ieq rfl rfl rfl) ?_
     refine rp rfl rfl (p_asg rfl rfl) ?_
     refine rz [(1, .q 1 (0)), (4, .b (decide ((e0.Args.length : Int) = (lrd want3'1 e0.Op.toNat)))), (62, .b (decide (e0.Op = (2 : Int))))] [(1, .pure (GExpr.cs e0))] rfl rfl rfl ?_
     refine AW2_if (p := e0.Op = (2 : Int)) rfl (fun h13 => ?_) (fun h13 => ?_)
     ·replace H := ite_then h13 H
      refine bindK H fun g'8 h19 H => ?_
      refine AW2_mid (⟨[(1, .q 1 (0)), (4, .b g'8)], [(1, .pure (GExpr.cs e0))], 97⟩ : TS) ?_ ?_
      ·clear H
       have H := h19
       clear h19
       refine AW2_reg [0, 1, 2, 3, 4, 5, 6, 7, 8, 9, 10, 11, 12, 13, 14, 15, 16, 17, 18] rfl ?_
       refine rp rfl rfl (p_move rfl rfl) ?_
       refine rp rfl rfl (p_move rfl rfl) ?_
       refine (Classical.em ((e0.Args.length : Int) = (lrd want3'1 e0.Op.toNat))).elim (fun h15 => ?_) (fun h15 => ?_)
       ·replace H := ite_then h15 H
        refine r_on rfl rfl rfl rfl (decide_eq_true h15) rfl (PureD.opD (u_fa rfl rfl Tryd.underlying27 rfl in_24 (Nat.succ_ne_zero _) rfl rfl (ne_of_lt (n := 0) (Nat.lt_of_lt_of_eq (by decide) (Eq.symm (GExpr.len e0)))))) ?_
        refine r_on rfl rfl rfl rfl (decide_eq_true h15) rfl (PureD.opD (u_lda rfl rfl Tryd.underlying24 rfl in_24 rfl (Nat.succ_pos _) ((Sub.refl _).trans (GExpr.sub1 e0)) (GValue.len e0.Value))) ?_
        refine r_on rfl rfl rfl rfl (decide_eq_true h15) rfl (PureD.opD (u_bld rfl in_24 one_24 zc_24 pl_24 rfl rfl)) ?_
        refine r_on rfl rfl rfl rfl (decide_eq_true h15) rfl (PureD.opD (p_eqa (a := e0.Value) (b := GValue.zero) rfl eq_24 rfl (by kernel_rfl) rfl rfl)) ?_
        refine rp rfl rfl (p_pkt rfl rfl (decide_eq_true h15) (.same _)) ?_
        refine rp rfl rfl (p_move rfl rfl) ?_
        refine (Classical.em (e0.Value = GValue.zero)).elim (fun h16 => ?_) (fun h16 => ?_)
        ·replace H := ite_then h16 H
         refine r_on rfl rfl rfl rfl (decide_eq_true h16) rfl (PureD.opD (u_fa rfl rfl Tryd.underlying27 rfl in_9 (Nat.succ_ne_zero _) rfl rfl (ne_of_lt (n := 0) (Nat.lt_of_lt_of_eq (by decide) (Eq.symm (GExpr.len e0)))))) ?_
         refine r_on rfl rfl rfl rfl (decide_eq_true h16) rfl (PureD.opD (u_ld rfl rfl Tryd.underlying9 rfl rfl ((Sub.refl _).trans (GExpr.sub2 e0)))) ?_
         refine bindK H fun r'7 h17 H => ?_
         refine r_on rfl rfl rfl rfl (decide_eq_true h16) rfl (PureD.opD (p_callp rfl rfl rfl Tryd.func48 rfl rfl (g_ref_isName_ac h17) ⟨rfl, trivial⟩)) ?_
         refine rp rfl rfl (p_pkt rfl rfl (decide_eq_true h16) (.same _)) ?_
         refine rp rfl rfl (p_move rfl rfl) ?_
         refine (Classical.em (r'7 = true)).elim (fun h18 => ?_) (fun h18 => ?_)
         ·replace H := ite_then h18 H
          refine rn rfl rfl rfl rfl h18 rfl (u_fa rfl rfl Tryd.underlying27 rfl in_9 (Nat.succ_ne_zero _) rfl rfl (ne_of_lt (n := 0) (Nat.lt_of_lt_of_eq (by decide) (Eq.symm (GExpr.len e0))))) ?_
          refine rn rfl rfl rfl rfl h18 rfl (u_ld rfl rfl Tryd.underlying9 rfl rfl ((Sub.refl _).trans (GExpr.sub2 e0))) ?_
          refine rn rfl rfl rfl rfl h18 rfl (p_lent rfl Tryd.underlying9 rfl) ?_
          refine rn rfl rfl rfl rfl h18 rfl (p_bin rfl rfl rfl rfl) ?_
          refine rp rfl rfl (p_pkt rfl rfl h18 (.same _)) ?_
          refine rp rfl rfl (p_asg rfl rfl) ?_
          refine rs [(1, .q 1 (0)), (4, .b (decide ((e0.Name.length : Int) ≤ (8 : Int))))] [(1, .pure (GExpr.cs e0))] rfl rfl rfl ?_
          have hz := some_elim H
          subst hz
          exact RunW_nil rfl
         ·replace H := ite_else h18 H
          iterate 4 (refine r_off rfl rfl rfl rfl (bfalse h18) rfl rfl ?_)
          refine rp rfl rfl (p_pkf rfl rfl (bfalse h18) (.same _)) ?_
          refine rp rfl rfl (p_asg rfl rfl) ?_
          refine rs [(1, .q 1 (0)), (4, .b false)] [(1, .pure (GExpr.cs e0))] rfl rfl rfl ?_
          have hz := some_elim H
          subst hz
          exact RunW_nil rfl
        ·replace H := ite_else h16 H
         iterate 3 (refine r_off rfl rfl rfl rfl (decide_eq_false h16) rfl rfl ?_)
         refine rp rfl rfl (p_pkf rfl rfl (decide_eq_false h16) (.same _)) ?_
         refine rp rfl rfl (p_move rfl rfl) ?_
         iterate 4 (refine r_off rfl rfl rfl rfl (bfalse (by decide)) rfl rfl ?_)
         refine rp rfl rfl (p_pkf rfl rfl (bfalse (by decide)) (.same _)) ?_
         refine rp rfl rfl (p_asg rfl rfl) ?_
         refine rs [(1, .q 1 (0)), (4, .b false)] [(1, .pure (GExpr.cs e0))] rfl rfl rfl ?_
         have hz := some_elim H
         subst hz
         exact RunW_nil rfl
       ·replace H := ite_else h15 H
        iterate 4 (refine r_off rfl rfl rfl rfl (decide_eq_false h15) rfl rfl ?_)
        refine rp rfl rfl (p_pkf rfl rfl (decide_eq_false h15) (.same _)) ?_
        refine rp rfl rfl (p_move rfl rfl) ?_
        iterate 3 (refine r_off rfl rfl rfl rfl (bfalse (by decide)) rfl rfl ?_)
        refine rp rfl rfl (p_pkf rfl rfl (bfalse (by decide)) (.same _)) ?_
        refine rp rfl rfl (p_move rfl rfl) ?_
        iterate 4 (refine r_off rfl rfl rfl rfl (bfalse (by decide)) rfl rfl ?_)
        refine rp rfl rfl (p_pkf rfl rfl (bfalse (by decide)) (.same _)) ?_
        refine rp rfl rfl (p_asg rfl rfl) ?_
        refine rs [(1, .q 1 (0)), (4, .b false)] [(1, .pure (GExpr.cs e0))] rfl rfl rfl ?_
        have hz := some_elim H
        subst hz
        exact RunW_nil rfl
      ·have hz := some_elim H
       subst hz
       exact rfl
     ·replace H := ite_else h13 H
      refine AW2_mid (⟨[(1, .q 1 (0)), (4, .b (decide ((((e0.Args.length : Int) = (lrd want3'1 e0.Op.toNat)) ∧ (e0.Name = [])) ∧ (e0.Value = GValue.zero))))], [(1, .pure (GExpr.cs e0))], 97⟩ : TS) ?_ ?_
      ·refine AW2_reg [0, 1, 2, 3, 4, 5, 6, 7, 8, 9, 10, 11, 12] rfl ?_
       refine rp rfl rfl (p_move rfl rfl) ?_
       refine rp rfl rfl (p_move rfl rfl) ?_
       refine (Classical.em ((e0.Args.length : Int) = (lrd want3'1 e0.Op.toNat))).elim (fun h21 => ?_) (fun h21 => ?_)
       ·refine r_on rfl rfl rfl rfl (decide_eq_true h21) rfl (PureD.opD (u_fa rfl rfl Tryd.underlying27 rfl in_9 (Nat.succ_ne_zero _) rfl rfl (ne_of_lt (n := 0) (Nat.lt_of_lt_of_eq (by decide) (Eq.symm (GExpr.len e0)))))) ?_
        refine r_on rfl rfl rfl rfl (decide_eq_true h21) rfl (PureD.opD (u_ld rfl rfl Tryd.underlying9 rfl rfl ((Sub.refl _).trans (GExpr.sub2 e0)))) ?_
        refine r_on rfl rfl rfl rfl (decide_eq_true h21) rfl (PureD.opD (p_seq rfl rfl rfl)) ?_
        refine rp rfl rfl (p_pkt rfl rfl (decide_eq_true h21) (tb ((and_l (p := (e0.Args.length : Int) = (lrd want3'1 e0.Op.toNat)) (q := e0.Name = []) h21)))) ?_
        refine rp rfl rfl (p_move rfl rfl) ?_
        refine (Classical.em (e0.Name = [])).elim (fun h22 => ?_) (fun h22 => ?_)
        ·have qq1 := decide_eq_true (p := ((e0.Args.length : Int) = (lrd want3'1 e0.Op.toNat)) ∧ (e0.Name = [])) ⟨h21, h22⟩
         refine rn rfl rfl rfl rfl qq1 rfl (u_fa rfl rfl Tryd.underlying27 rfl in_24 (Nat.succ_ne_zero _) rfl rfl (ne_of_lt (n := 0) (Nat.lt_of_lt_of_eq (by decide) (Eq.symm (GExpr.len e0))))) ?_
         refine rn rfl rfl rfl rfl qq1 rfl (u_lda rfl rfl Tryd.underlying24 rfl in_24 rfl (Nat.succ_pos _) ((Sub.refl _).trans (GExpr.sub1 e0)) (GValue.len e0.Value)) ?_
         refine rn rfl rfl rfl rfl qq1 rfl (u_bld rfl in_24 one_24 zc_24 pl_24 rfl rfl) ?_
         refine rn rfl rfl rfl rfl qq1 rfl (p_eqa (a := e0.Value) (b := GValue.zero) rfl eq_24 rfl (by kernel_rfl) rfl rfl) ?_
         refine rp rfl rfl (p_pkt rfl rfl qq1 (tb ((and_l (p := ((e0.Args.length : Int) = (lrd want3'1 e0.Op.toNat)) ∧ (e0.Name = [])) (q := e0.Value = GValue.zero) ⟨h21, h22⟩)))) ?_
         refine rp rfl rfl (p_asg rfl rfl) ?_
         refine rs [(1, .q 1 (0)), (4, .b (decide ((((e0.Args.length : Int) = (lrd want3'1 e0.Op.toNat)) ∧ (e0.Name = [])) ∧ (e0.Value = GValue.zero))))] [(1, .pure (GExpr.cs e0))] rfl rfl rfl ?_
         exact RunW_nil rfl
        ·have qq2 := decide_eq_false (p := ((e0.Args.length : Int) = (lrd want3'1 e0.Op.toNat)) ∧ (e0.Name = [])) (fun h => h22 h.2)
         iterate 4 (refine r_off rfl rfl rfl rfl qq2 rfl rfl ?_)
         refine rp rfl rfl (p_pkf rfl rfl qq2 (tb (decide_eq_false (p := (((e0.Args.length : Int) = (lrd want3'1 e0.Op.toNat)) ∧ (e0.Name = [])) ∧ (e0.Value = GValue.zero)) (fun x => (fun h => h22 h.2) x.1)).symm)) ?_
         refine rp rfl rfl (p_asg rfl rfl) ?_
         refine rs [(1, .q 1 (0)), (4, .b (decide ((((e0.Args.length : Int) = (lrd want3'1 e0.Op.toNat)) ∧ (e0.Name = [])) ∧ (e0.Value = GValue.zero))))] [(1, .pure (GExpr.cs e0))] rfl rfl rfl ?_
         exact RunW_nil rfl
       ·iterate 3 (refine r_off rfl rfl rfl rfl (decide_eq_false h21) rfl rfl ?_)
        refine rp rfl rfl (p_pkf rfl rfl (decide_eq_false h21) (tb (decide_eq_false (p := ((e0.Args.length : Int) = (lrd want3'1 e0.Op.toNat)) ∧ (e0.Name = [])) (fun x => h21 x.1)).symm)) ?_
        refine rp rfl rfl (p_move rfl rfl) ?_
        have qq3 := decide_eq_false (p := ((e0.Args.length : Int) = (lrd want3'1 e0.Op.toNat)) ∧ (e0.Name = [])) (fun h => h21 h.1)
        iterate 4 (refine r_off rfl rfl rfl rfl qq3 rfl rfl ?_)
        refine rp rfl rfl (p_pkf rfl rfl qq3 (tb (decide_eq_false (p := (((e0.Args.length : Int) = (lrd want3'1 e0.Op.toNat)) ∧ (e0.Name = [])) ∧ (e0.Value = GValue.zero)) (fun x => (fun h => h21 h.1) x.1)).symm)) ?_
        refine rp rfl rfl (p_asg rfl rfl) ?_
        refine rs [(1, .q 1 (0)), (4, .b (decide ((((e0.Args.length : Int) = (lrd want3'1 e0.Op.toNat)) ∧ (e0.Name = [])) ∧ (e0.Value = GValue.zero))))] [(1, .pure (GExpr.cs e0))] rfl rfl rfl ?_
        exact RunW_nil rfl
      ·have hz := some_elim H
       subst hz
       exact rfl
   ·refine AW2_seq ?_
    refine sg [0, 1] rfl ?_
    refine rp rfl rfl (p_move rfl rfl) ?_
    refine rp rfl rfl (p_not rfl rfl) ?_
    refine rz [(1, .q 1 (0)), (83, .b (!j'2))] [(1, .pure (GExpr.cs e0))] rfl rfl rfl ?_
    refine AW2_cond rfl (fun h23 => ?_) (fun h23 => ?_)
    ·replace H := ite_then h23 H
     refine sg [0] rfl ?_
     refine rp rfl rfl (p_asg rfl rfl) ?_
     refine rz [(2, .i (3 : Int))] [] rfl rfl rfl ?_
     refine AW2_ret ?_
     have hz := some_elim H
     subst hz
     exact ⟨⟨res_tmp (.same _), trivial⟩, trivial⟩
    ·replace H := ite_else (ne_true h23) H
     refine as2 [(1, .q 1 (0))] [(1, .pure (GExpr.cs e0))] rfl rfl rfl ?_
     refine AW2_skip ?_
     refine AW2_seq ?_
     refine sg [0, 1, 2, 3] rfl ?_
     refine rp rfl rfl (u_fa rfl rfl Tryd.underlying27 rfl in_25 (Nat.succ_ne_zero _) rfl rfl (ne_of_lt (n := 0) (Nat.lt_of_lt_of_eq (by decide) (Eq.symm (GExpr.len e0))))) ?_
     refine rp rfl rfl (u_ld rfl rfl Tryd.underlying25 rfl rfl ((Sub.refl _).trans (GExpr.sub3 e0))) ?_
     refine rp rfl rfl (p_lenl rfl Tryd.underlying25 rfl rfl) ?_
     refine rp rfl rfl (p_move rfl rfl) ?_
     refine rz [(85, .p ((fun q : List GExpr => AV.lst (q.flatMap GExpr.cs) q.length) e0.Args)), (86, .i (e0.Args.length : Int)), (87, .i (0 : Int))] [] rfl rfl rfl ?_
     refine AW2_block ?_
     refine as2 [(85, .p ((fun q : List GExpr => AV.lst (q.flatMap GExpr.cs) q.length) e0.Args)), (86, .i (e0.Args.length : Int)), (87, .i (0 : Int))] [] rfl rfl rfl ?_
     refine bindK H fun o'13 h28 H => ?_
     refine AW2_loopO (fun a'10 : Int => (⟨[(85, .p ((fun q : List GExpr => AV.lst (q.flatMap GExpr.cs) q.length) e0.Args)), (86, .i (e0.Args.length : Int)), (87, .i a'10)], [], 97⟩ : TS)) (fun (o : Int ⊕ Unit) e s' => match o with | .inl y'11 => e = Go.Exit.ret ∧ ResAll Tryd.prog s' [ResultVar.tmp 2] [.i y'11] ∧ HFits s' [] | .inr (y'12) => e = Go.Exit.exit 1 ∧ s' = (⟨[], [], 97⟩ : TS)) h28 rfl (fun t87_0 x hx => ?_) (fun e s' hs => ?_)
     ·clear H
      have H := hx
      clear hx
      unfold g_ref_nodeFault_l0 at H
      refine sg [0] rfl ?_
      refine rp rfl rfl (p_bin rfl rfl rfl rfl) ?_
      refine rz [(85, .p ((fun q : List GExpr => AV.lst (q.flatMap GExpr.cs) q.length) e0.Args)), (86, .i (e0.Args.length : Int)), (87, .i t87_0), (88, .b (decide (t87_0 < (e0.Args.length : Int))))] [] rfl rfl rfl ?_
      refine AW2_seq ?_
      refine AW2_if (p := t87_0 < (e0.Args.length : Int)) rfl (fun h24 => ?_) (fun h24 => ?_)
      ·replace H := ite_then h24 H
       refine as2 [(85, .p ((fun q : List GExpr => AV.lst (q.flatMap GExpr.cs) q.length) e0.Args)), (86, .i (e0.Args.length : Int)), (87, .i t87_0)] [] rfl rfl rfl ?_
       refine AW2_skip ?_
       refine AW2_seq ?_
       refine AW2_block ?_
       refine sg [0, 1, 2, 3] rfl ?_
       refine chkK H fun h25 H => ?_
       refine rp rfl rfl (u_ixl rfl rfl Tryd.underlying25 in_27 rfl rfl (ixe h25) (ixn h25) (fne (fun x => (GExpr.len x)) (by decide) (ixn h25))) ?_
       refine rp rfl rfl (u_lda rfl rfl Tryd.underlying27 rfl in_27 rfl (Nat.succ_pos _) (Sub.fm default (fun x => (GExpr.len x)) (ixn h25)) (GExpr.len (lrd e0.Args t87_0.toNat))) ?_
       refine r_op rfl rfl (MakeD.opD (u_alloc 6 rfl in_27 one_27 zc_27) rfl rfl rfl rfl) ?_
       refine r_op rfl rfl (u_st rfl rfl rfl rfl rfl in_27 (GExpr.len (lrd e0.Args t87_0.toNat)) (ne_of_lt (n := 0) (Nat.lt_of_lt_of_eq (by decide) (Eq.symm (GExpr.len GExpr.zero)))) (Upd.refl ((GExpr.len (lrd e0.Args t87_0.toNat)).trans (GExpr.len GExpr.zero).symm))) ?_
       refine rz [(6, .q 6 (0)), (85, .p ((fun q : List GExpr => AV.lst (q.flatMap GExpr.cs) q.length) e0.Args)), (86, .i (e0.Args.length : Int)), (87, .i t87_0)] [(6, .pure (GExpr.cs (lrd e0.Args t87_0.toNat)))] rfl rfl rfl ?_
       refine sg [0, 1, 2] rfl ?_
       refine rp rfl rfl (u_lda rfl rfl Tryd.underlying27 rfl in_27 rfl (Nat.succ_pos _) (Sub.refl _) (GExpr.len (lrd e0.Args t87_0.toNat))) ?_
       refine bindK H fun r'9 h26 H => ?_
       refine rp rfl rfl (p_callp rfl rfl rfl Tryd.func47 rfl rfl (hR h26) ⟨rfl, trivial⟩) ?_
       refine rp rfl rfl (p_asg rfl rfl) ?_
       refine rz [(7, .i r'9), (85, .p ((fun q : List GExpr => AV.lst (q.flatMap GExpr.cs) q.length) e0.Args)), (86, .i (e0.Args.length : Int)), (87, .i t87_0)] [] rfl rfl rfl ?_
       refine sg [0, 1] rfl ?_
       refine rp rfl rfl (p_move rfl rfl) ?_
       refine rp rfl rfl (p_ine rfl rfl rfl) ?_
       refine rz [(7, .i r'9), (85, .p ((fun q : List GExpr => AV.lst (q.flatMap GExpr.cs) q.length) e0.Args)), (86, .i (e0.Args.length : Int)), (87, .i t87_0), (94, .b (decide (r'9 ≠ (0 : Int))))] [] rfl rfl rfl ?_
       refine AW2_if (p := r'9 ≠ (0 : Int)) rfl (fun h27 => ?_) (fun h27 => ?_)
       ·replace H := ite_then h27 H
        refine sg [0, 1] rfl ?_
        refine rp rfl rfl (p_move rfl rfl) ?_
        refine rp rfl rfl (p_asg rfl rfl) ?_
        refine rz [(2, .i r'9)] [] rfl rfl rfl ?_
        refine AW2_ret ?_
        have hz := some_elim H
        subst hz
        exact ⟨rfl, ⟨res_tmp (.same _), trivial⟩, trivial⟩
       ·replace H := ite_else h27 H
        refine as2 [(85, .p ((fun q : List GExpr => AV.lst (q.flatMap GExpr.cs) q.length) e0.Args)), (86, .i (e0.Args.length : Int)), (87, .i t87_0)] [] rfl rfl rfl ?_
        refine AW2_skip ?_
        refine AW2_reg [0, 1] rfl ?_
        refine rp rfl rfl (p_bin rfl rfl rfl rfl) ?_
        refine rp rfl rfl (p_move rfl rfl) ?_
        refine rz [(85, .p ((fun q : List GExpr => AV.lst (q.flatMap GExpr.cs) q.length) e0.Args)), (86, .i (e0.Args.length : Int)), (87, .i (w64 (t87_0 + (1 : Int))))] [] rfl rfl rfl ?_
        have hz := some_elim H
        subst hz
        exact ⟨rfl, rfl⟩
      ·replace H := ite_else h24 H
       refine as2 [] [] rfl rfl rfl ?_
       refine AW2_exit ?_
       refine thenQ2_exit ?_
       have hz := some_elim H
       subst hz
       exact ⟨rfl, rfl⟩
     ·rcases o'13 with y'14 | y'15
      ·obtain ⟨rfl, hs⟩ := hs
       refine ⟨by simp, ?_⟩
       have hz := some_elim H
       subst hz
       exact ⟨hs.1, hs.2⟩
      ·obtain ⟨rfl, rfl⟩ := hs
       refine ⟨by simp, ?_⟩
       refine blockQ2_exit ?_
       refine sg [0] rfl ?_
       refine rp rfl rfl (p_asg rfl rfl) ?_
       refine rz [(2, .i (0 : Int))] [] rfl rfl rfl ?_
       refine AW2_ret ?_
       have hz := some_elim H
       subst hz
       exact ⟨⟨res_tmp (.same _), trivial⟩, trivial⟩
theorem g_ref_nodeFault_acN : ∀ (fu : Nat) {e0 : GExpr} {r : Int}, g_ref_nodeFault fu e0 = some r → ACp Tryd.prog 47 [(.agg (GExpr.cs e0))] (AV.int r)
 | 0, _, _, H => (by cases H)
 | fu + 1, _, _, H => g_ref_nodeFault_ac0 (g_ref_nodeFault_acN fu) H
theorem g_ref_nodeFault_ac {e0 : GExpr} {r : Int} (H : g_ref_nodeFault 100000 e0 = some r) : ACp Tryd.prog 47 [(.agg (GExpr.cs e0))] (AV.int r) := g_ref_nodeFault_acN 100000 H

/-! chirographref.ExprFault -/
noncomputable def g_ref_ExprFault (e0 : GExpr) : Option (Int) :=
  (g_ref_within e0).bind fun r'1 => (if (!r'1) = true then some (1 : Int) else (g_ref_nodeFault 100000 e0).bind fun r'2 => some r'2)
set_option maxHeartbeats 4000000 in
set_option maxRecDepth 100000 in
theorem g_ref_ExprFault_ac {e0 : GExpr} {r : Int} (H : g_ref_ExprFault e0 = some r) : ACp Tryd.prog 21 [(.agg (GExpr.cs e0))] (AV.int r) := by
 refine ACp_of (AC2_of_body (vs := [.i r]) Tryd.func21 rfl rfl (Nat.le_of_ble_eq_true rfl) rfl ?_) (fun _ => .same _)
 unfold g_ref_ExprFault at H
 refine as2 [(0, .g (GExpr.cs e0))] [] rfl rfl rfl ?_
 refine sg [0, 1] rfl ?_
 refine r_op rfl rfl (MakeD.opD (n_box 1 rfl rfl) rfl rfl rfl rfl) ?_
 refine rp rfl rfl (p_asg rfl rfl) ?_
 refine rz [(1, .q 1 (0))] [(1, .pure (GExpr.cs e0))] rfl rfl rfl ?_
 refine AW2_seq ?_
 refine sg [0, 1, 2] rfl ?_
 refine rp rfl rfl (u_lda rfl rfl Tryd.underlying27 rfl in_27 rfl (Nat.succ_pos _) (Sub.refl _) (GExpr.len e0)) ?_
 refine bindK H fun r'1 h1 H => ?_
 refine rp rfl rfl (p_callp rfl rfl rfl Tryd.func33 rfl rfl (g_ref_within_ac h1) ⟨rfl, trivial⟩) ?_
 refine rp rfl rfl (p_not rfl rfl) ?_
 refine rz [(1, .q 1 (0)), (5, .b (!r'1))] [(1, .pure (GExpr.cs e0))] rfl rfl rfl ?_
 refine AW2_cond rfl (fun h2 => ?_) (fun h2 => ?_)
 ·replace H := ite_then h2 H
  refine sg [0] rfl ?_
  refine rp rfl rfl (p_asg rfl rfl) ?_
  refine rz [(2, .i (1 : Int))] [] rfl rfl rfl ?_
  refine AW2_ret ?_
  have hz := some_elim H
  subst hz
  exact ⟨⟨res_tmp (.same _), trivial⟩, trivial⟩
 ·replace H := ite_else (ne_true h2) H
  refine as2 [(1, .q 1 (0))] [(1, .pure (GExpr.cs e0))] rfl rfl rfl ?_
  refine AW2_skip ?_
  refine sg [0, 1, 2] rfl ?_
  refine rp rfl rfl (u_lda rfl rfl Tryd.underlying27 rfl in_27 rfl (Nat.succ_pos _) (Sub.refl _) (GExpr.len e0)) ?_
  refine bindK H fun r'2 h3 H => ?_
  refine rp rfl rfl (p_callp rfl rfl rfl Tryd.func47 rfl rfl (g_ref_nodeFault_ac h3) ⟨rfl, trivial⟩) ?_
  refine rp rfl rfl (p_asg rfl rfl) ?_
  refine rz [(2, .i r'2)] [] rfl rfl rfl ?_
  refine AW2_ret ?_
  have hz := some_elim H
  subst hz
  exact ⟨⟨res_tmp (.same _), trivial⟩, trivial⟩

/-! chirographref.asksFor -/
noncomputable def g_ref_asksFor (op0 : Int) : Option (Int × Int) :=
  ((if op0 = (3 : Int) then some (decide (op0 = (3 : Int))) else (if op0 = (5 : Int) then some (decide (op0 = (5 : Int))) else (if op0 = (6 : Int) then some (decide (op0 = (6 : Int))) else (if op0 = (7 : Int) then some (decide (op0 = (7 : Int))) else some (decide (op0 = (8 : Int)))))))).bind fun j'1 => (if j'1 = true then some ((2 : Int), (2 : Int)) else ((if op0 = (4 : Int) then some (decide (op0 = (4 : Int))) else (if op0 = (15 : Int) then some (decide (op0 = (15 : Int))) else some (decide (op0 = (16 : Int)))))).bind fun j'2 => (if j'2 = true then some ((1 : Int), (1 : Int)) else (if op0 = (18 : Int) then some ((4 : Int), (2 : Int)) else (if op0 = (19 : Int) then some ((4 : Int), (4 : Int)) else (if op0 = (20 : Int) then some ((0 : Int), (0 : Int)) else some ((0 : Int), (1 : Int)))))))
set_option maxHeartbeats 4000000 in
set_option maxRecDepth 100000 in
theorem g_ref_asksFor_ac {op0 : Int} {r : Int × Int} (H : g_ref_asksFor op0 = some r) : ACp Tryd.prog 49 [(AV.int op0)] (.tup [(AV.int r.1), (AV.int r.2)]) := by
 refine ACp_of (AC2_of_body (vs := [.i r.1, .i r.2]) Tryd.func49 rfl rfl (Nat.le_of_ble_eq_true rfl) rfl ?_) (fun _ => .same _)
 unfold g_ref_asksFor at H
 refine as2 [(0, .i op0)] [] rfl rfl rfl ?_
 refine sg [0, 1] rfl ?_
 refine rp rfl rfl (p_asg rfl rfl) ?_
 refine rp rfl rfl (p_asg rfl rfl) ?_
 refine rz [(0, .i op0)] [] rfl rfl rfl ?_
 refine AW2_seq ?_
 refine sg [0] rfl ?_
 refine rp rfl rfl (p_move rfl rfl) ?_
 refine rz [(4, .i op0)] [] rfl rfl rfl ?_
 refine AW2_block ?_
 refine AW2_seq ?_
 refine bindK H fun j'1 h1 H => ?_
 refine AW2_mid (⟨[(4, .i op0), (5, .b j'1)], [], 21⟩ : TS) ?_ ?_
 ·clear H
  have H := h1
  clear h1
  refine sg [0, 1] rfl ?_
  refine rp rfl rfl (p_ieq rfl rfl rfl) ?_
  refine rp rfl rfl (p_asg rfl rfl) ?_
  refine rz [(4, .i op0), (5, .b (decide (op0 = (3 : Int))))] [] rfl rfl rfl ?_
  refine AW2_if (p := op0 = (3 : Int)) rfl (fun h2 => ?_) (fun h2 => ?_)
  ·replace H := ite_then h2 H
   refine AW2_skip ?_
   have hz := some_elim H
   subst hz
   exact rfl
  ·replace H := ite_else h2 H
   refine sg [0, 1] rfl ?_
   refine rp rfl rfl (p_ieq rfl rfl rfl) ?_
   refine rp rfl rfl (p_asg rfl rfl) ?_
   refine rz [(4, .i op0), (5, .b (decide (op0 = (5 : Int))))] [] rfl rfl rfl ?_
   refine AW2_if (p := op0 = (5 : Int)) rfl (fun h3 => ?_) (fun h3 => ?_)
   ·replace H := ite_then h3 H
    refine AW2_skip ?_
    have hz := some_elim H
    subst hz
    exact rfl
   ·replace H := ite_else h3 H
    refine sg [0, 1] rfl ?_
    refine rp rfl rfl (p_ieq rfl rfl rfl) ?_
    refine rp rfl rfl (p_asg rfl rfl) ?_
    refine rz [(4, .i op0), (5, .b (decide (op0 = (6 : Int))))] [] rfl rfl rfl ?_
    refine AW2_if (p := op0 = (6 : Int)) rfl (fun h4 => ?_) (fun h4 => ?_)
    ·replace H := ite_then h4 H
     refine AW2_skip ?_
     have hz := some_elim H
     subst hz
     exact rfl
    ·replace H := ite_else h4 H
     refine sg [0, 1] rfl ?_
     refine rp rfl rfl (p_ieq rfl rfl rfl) ?_
     refine rp rfl rfl (p_asg rfl rfl) ?_
     refine rz [(4, .i op0), (5, .b (decide (op0 = (7 : Int))))] [] rfl rfl rfl ?_
     refine AW2_if (p := op0 = (7 : Int)) rfl (fun h5 => ?_) (fun h5 => ?_)
     ·replace H := ite_then h5 H
      refine AW2_skip ?_
      have hz := some_elim H
      subst hz
      exact rfl
     ·replace H := ite_else h5 H
      refine AW2_reg [0, 1] rfl ?_
      refine rp rfl rfl (p_ieq rfl rfl rfl) ?_
      refine rp rfl rfl (p_asg rfl rfl) ?_
      refine rz [(4, .i op0), (5, .b (decide (op0 = (8 : Int))))] [] rfl rfl rfl ?_
      have hz := some_elim H
      subst hz
      exact rfl
 ·refine AW2_cond rfl (fun h6 => ?_) (fun h6 => ?_)
  ·replace H := ite_then h6 H
   refine sg [0, 1] rfl ?_
   refine rp rfl rfl (p_asg rfl rfl) ?_
   refine rp rfl rfl (p_asg rfl rfl) ?_
   refine rz [(2, .i (2 : Int)), (3, .i (2 : Int))] [] rfl rfl rfl ?_
   refine AW2_ret ?_
   have hz := some_elim H
   subst hz
   exact ⟨⟨res_tmp (.same _), res_tmp (.same _), trivial⟩, trivial⟩
  ·replace H := ite_else (ne_true h6) H
   refine AW2_seq ?_
   refine bindK H fun j'2 h7 H => ?_
   refine AW2_mid (⟨[(4, .i op0), (11, .b j'2)], [], 21⟩ : TS) ?_ ?_
   ·clear H
    have H := h7
    clear h7
    refine sg [0, 1] rfl ?_
    refine rp rfl rfl (p_ieq rfl rfl rfl) ?_
    refine rp rfl rfl (p_asg rfl rfl) ?_
    refine rz [(4, .i op0), (11, .b (decide (op0 = (4 : Int))))] [] rfl rfl rfl ?_
    refine AW2_if (p := op0 = (4 : Int)) rfl (fun h8 => ?_) (fun h8 => ?_)
    ·replace H := ite_then h8 H
     refine AW2_skip ?_
     have hz := some_elim H
     subst hz
     exact rfl
    ·replace H := ite_else h8 H
     refine sg [0, 1] rfl ?_
     refine rp rfl rfl (p_ieq rfl rfl rfl) ?_
     refine rp rfl rfl (p_asg rfl rfl) ?_
     refine rz [(4, .i op0), (11, .b (decide (op0 = (15 : Int))))] [] rfl rfl rfl ?_
     refine AW2_if (p := op0 = (15 : Int)) rfl (fun h9 => ?_) (fun h9 => ?_)
     ·replace H := ite_then h9 H
      refine AW2_skip ?_
      have hz := some_elim H
      subst hz
      exact rfl
     ·replace H := ite_else h9 H
      refine AW2_reg [0, 1] rfl ?_
      refine rp rfl rfl (p_ieq rfl rfl rfl) ?_
      refine rp rfl rfl (p_asg rfl rfl) ?_
      refine rz [(4, .i op0), (11, .b (decide (op0 = (16 : Int))))] [] rfl rfl rfl ?_
      have hz := some_elim H
      subst hz
      exact rfl
   ·refine AW2_cond rfl (fun h10 => ?_) (fun h10 => ?_)
    ·replace H := ite_then h10 H
     refine sg [0, 1] rfl ?_
     refine rp rfl rfl (p_asg rfl rfl) ?_
     refine rp rfl rfl (p_asg rfl rfl) ?_
     refine rz [(2, .i (1 : Int)), (3, .i (1 : Int))] [] rfl rfl rfl ?_
     refine AW2_ret ?_
     have hz := some_elim H
     subst hz
     exact ⟨⟨res_tmp (.same _), res_tmp (.same _), trivial⟩, trivial⟩
    ·replace H := ite_else (ne_true h10) H
     refine sg [0, 1] rfl ?_
     refine rp rfl rfl (p_ieq rfl rfl rfl) ?_
     refine rp rfl rfl (p_asg rfl rfl) ?_
     refine rz [(4, .i op0), (15, .b (decide (op0 = (18 : Int))))] [] rfl rfl rfl ?_
     refine AW2_if (p := op0 = (18 : Int)) rfl (fun h11 => ?_) (fun h11 => ?_)
     ·replace H := ite_then h11 H
      refine sg [0, 1] rfl ?_
      refine rp rfl rfl (p_asg rfl rfl) ?_
      refine rp rfl rfl (p_asg rfl rfl) ?_
      refine rz [(2, .i (4 : Int)), (3, .i (2 : Int))] [] rfl rfl rfl ?_
      refine AW2_ret ?_
      have hz := some_elim H
      subst hz
      exact ⟨⟨res_tmp (.same _), res_tmp (.same _), trivial⟩, trivial⟩
     ·replace H := ite_else h11 H
      refine sg [0, 1] rfl ?_
      refine rp rfl rfl (p_ieq rfl rfl rfl) ?_
      refine rp rfl rfl (p_asg rfl rfl) ?_
      refine rz [(4, .i op0), (17, .b (decide (op0 = (19 : Int))))] [] rfl rfl rfl ?_
      refine AW2_if (p := op0 = (19 : Int)) rfl (fun h12 => ?_) (fun h12 => ?_)
      ·replace H := ite_then h12 H
       refine sg [0, 1] rfl ?_
       refine rp rfl rfl (p_asg rfl rfl) ?_
       refine rp rfl rfl (p_asg rfl rfl) ?_
       refine rz [(2, .i (4 : Int)), (3, .i (4 : Int))] [] rfl rfl rfl ?_
       refine AW2_ret ?_
       have hz := some_elim H
       subst hz
       exact ⟨⟨res_tmp (.same _), res_tmp (.same _), trivial⟩, trivial⟩
      ·replace H := ite_else h12 H
       refine sg [0, 1] rfl ?_
       refine rp rfl rfl (p_ieq rfl rfl rfl) ?_
       refine rp rfl rfl (p_asg rfl rfl) ?_
       refine rz [(19, .b (decide (op0 = (20 : Int))))] [] rfl rfl rfl ?_
       refine AW2_if (p := op0 = (20 : Int)) rfl (fun h13 => ?_) (fun h13 => ?_)
       ·replace H := ite_then h13 H
        refine sg [0, 1] rfl ?_
        refine rp rfl rfl (p_asg rfl rfl) ?_
        refine rp rfl rfl (p_asg rfl rfl) ?_
        refine rz [(2, .i (0 : Int)), (3, .i (0 : Int))] [] rfl rfl rfl ?_
        refine AW2_ret ?_
        have hz := some_elim H
        subst hz
        exact ⟨⟨res_tmp (.same _), res_tmp (.same _), trivial⟩, trivial⟩
       ·replace H := ite_else h13 H
        refine as2 [] [] rfl rfl rfl ?_
        refine AW2_skip ?_
        refine sg [0, 1] rfl ?_
        refine rp rfl rfl (p_asg rfl rfl) ?_
        refine rp rfl rfl (p_asg rfl rfl) ?_
        refine rz [(2, .i (0 : Int)), (3, .i (1 : Int))] [] rfl rfl rfl ?_
        refine AW2_ret ?_
        have hz := some_elim H
        subst hz
        exact ⟨⟨res_tmp (.same _), res_tmp (.same _), trivial⟩, trivial⟩

/-! chirographref.kindOf -/
def g_ref_kindOf_r2 : List (List (Nat × Option Nat)) := [[(2, none)], [(21, some 0)], [(22, some 1)], [(2, none)], [(24, some 3)], [(25, some 4)], [(26, some 5)], [(23, some 2)]]
def g_ref_kindOf_r2c : List (List Nat) := [[], [0], [0, 1], [], [3], [3, 4], [3, 4, 5], [0, 1, 2], [0, 1, 2, 3, 4, 5, 6, 7], [0, 1, 2, 3, 4, 5, 6, 7, 8]]
def g_ref_kindOf_r7 : List (List (Nat × Option Nat)) := [[(1, none)], [(7, none)], [(37, some 0), (38, some 1)], [(39, some 2)], [(40, some 3)], [(1, none)], [(7, none)], [(42, some 5), (43, some 6)], [(44, some 7)], [(45, some 8)], [(41, some 4)]]
def g_ref_kindOf_r7c : List (List Nat) := [[], [], [0, 1], [0, 1, 2], [0, 1, 2, 3], [], [], [5, 6], [5, 6, 7], [5, 6, 7, 8], [0, 1, 2, 3, 4], [0, 1, 2, 3, 4, 5, 6, 7, 8, 9, 10], [0, 1, 2, 3, 4, 5, 6, 7, 8, 9, 10, 11]]
noncomputable def g_ref_kindOf_l0 (e0 : GExpr) (cols1 : List GColumn) (R' : GExpr → (List GColumn) → Option (Int × Bool × Int)) : Bool × Bool × Int × Bool × Int → Option ((Bool × Bool × Int × Bool × Int) ⊕ ((Int × Bool × Int) ⊕ (Bool × Bool × Int × Bool)))
  | (some8_0, all9_0, asks10_0, clash12_0, t56_0) => (if t56_0 < (e0.Args.length : Int) then (show Option ((Int × Bool × Int) ⊕ (Bool × Bool × Int × Bool)) from if 0 ≤ t56_0 ∧ t56_0 < (e0.Args.length : Int) then (R' (lrd e0.Args t56_0.toNat) cols1).bind fun r'4 => (if r'4.2.2 ≠ (0 : Int) then some (.inl ((0 : Int), false, r'4.2.2)) else (if (e0.Op = (17 : Int)) ∨ (r'4.1 = (0 : Int)) then some (.inr ((decide ((some8_0 = true) ∨ (r'4.2.1 = true))), (decide ((all9_0 = true) ∧ (r'4.2.1 = true))), asks10_0, clash12_0)) else ((if asks10_0 = (0 : Int) then some r'4.1 else some asks10_0)).bind fun j'5 => some (.inr ((decide ((some8_0 = true) ∨ (r'4.2.1 = true))), (decide ((all9_0 = true) ∧ (r'4.2.1 = true))), j'5, (decide ((clash12_0 = true) ∨ (r'4.1 ≠ j'5))))))) else none).bind fun o'7 => match o'7 with | .inl y'6 => some (.inr (.inl y'6)) | .inr j'3 => some (.inl (j'3.1, j'3.2.1, j'3.2.2.1, j'3.2.2.2, w64 (t56_0 + (1 : Int)))) else some (.inr (.inr (some8_0, all9_0, asks10_0, clash12_0))))
noncomputable def g_ref_kindOf_b (R' : GExpr → (List GColumn) → Option (Int × Bool × Int)) (e0 : GExpr) (cols1 : List GColumn) : Option (Int × Bool × Int) :=
  (if e0.Op = (1 : Int) then some (e0.Value.Kind, (decide (e0.Value.Kind = (0 : Int))), (0 : Int)) else (if e0.Op = (2 : Int) then (g_ref_columnAt cols1 e0.Name).bind fun r'1 => (if r'1 < (0 : Int) then some ((0 : Int), false, (5 : Int)) else if 0 ≤ r'1 ∧ r'1 < (cols1.length : Int) then if 0 ≤ r'1 ∧ r'1 < (cols1.length : Int) then some ((lrd cols1 r'1.toNat).Kind, (lrd cols1 r'1.toNat).Null, (0 : Int)) else none else none) else (g_ref_asksFor e0.Op).bind fun r'2 => (loopO (g_ref_kindOf_l0 e0 cols1 R') (false, true, r'2.1, false, (0 : Int))).bind fun o'11 => match o'11 with | .inl y'12 => some y'12 | .inr (y'13) => (if y'13.2.2.2 = true then some ((0 : Int), false, (2 : Int)) else (if e0.Op = (17 : Int) then some ((1 : Int), false, (0 : Int)) else (if e0.Op = (20 : Int) then some (y'13.2.2.1, y'13.2.1, (0 : Int)) else some (r'2.2, y'13.1, (0 : Int)))))))
noncomputable def g_ref_kindOf : Nat → GExpr → (List GColumn) → Option (Int × Bool × Int)
  | 0, _, _ => none
  | fu + 1, e0, cols1 => g_ref_kindOf_b (g_ref_kindOf fu) e0 cols1
set_option maxHeartbeats 4000000 in
set_option maxRecDepth 100000 in
theorem g_ref_kindOf_ac0 {R' : GExpr → (List GColumn) → Option (Int × Bool × Int)} (hR : ∀ {e0 : GExpr} {cols1 : List GColumn} {r : Int × Bool × Int}, R' e0 cols1 = some r → ACp Tryd.prog 23 [(.agg (GExpr.cs e0)), ((fun q : List GColumn => AV.lst (q.flatMap GColumn.cs) q.length) cols1)] (.tup [(AV.int r.1), (AV.bool r.2.1), (AV.int r.2.2)])) {e0 : GExpr} {cols1 : List GColumn} {r : Int × Bool × Int} (H : g_ref_kindOf_b R' e0 cols1 = some r) : ACp Tryd.prog 23 [(.agg (GExpr.cs e0)), ((fun q : List GColumn => AV.lst (q.flatMap GColumn.cs) q.length) cols1)] (.tup [(AV.int r.1), (AV.bool r.2.1), (AV.int r.2.2)]) := by
 refine ACp_of (AC2_of_body (vs := [.i r.1, .b r.2.1, .i r.2.2]) Tryd.func23 rfl rfl (Nat.le_of_ble_eq_true rfl) rfl ?_) (fun _ => .same _)
 unfold g_ref_kindOf_b at H
 refine as2 [(0, .g (GExpr.cs e0)), (1, .p ((fun q : List GColumn => AV.lst (q.flatMap GColumn.cs) q.length) cols1))] [] rfl rfl rfl ?_
 refine sg [0, 1, 2, 3] rfl ?_
 refine r_op rfl rfl (MakeD.opD (n_box 2 rfl rfl) rfl rfl rfl rfl) ?_
 refine rp rfl rfl (p_asg rfl rfl) ?_
 refine rp rfl rfl (p_asg rfl rfl) ?_
 refine rp rfl rfl (p_asg rfl rfl) ?_
 refine rz [(1, .p ((fun q : List GColumn => AV.lst (q.flatMap GColumn.cs) q.length) cols1)), (2, .q 2 (0))] [(2, .pure (GExpr.cs e0))] rfl rfl rfl ?_
 refine AW2_seq ?_
 refine sg [0, 1, 2] rfl ?_
 refine rp rfl rfl (u_fa rfl rfl Tryd.underlying27 rfl in_3 (Nat.succ_ne_zero _) rfl rfl (ne_of_lt (n := 0) (Nat.lt_of_lt_of_eq (by decide) (Eq.symm (GExpr.len e0))))) ?_
 refine rp rfl rfl (u_ld rfl rfl Tryd.underlying3 rfl rfl ((Sub.refl _).trans (GExpr.sub0 e0))) ?_
 refine rp rfl rfl (p_ieq rfl rfl rfl) ?_
 refine rz [(1, .p ((fun q : List GColumn => AV.lst (q.flatMap GColumn.cs) q.length) cols1)), (2, .q 2 (0)), (20, .b (decide (e0.Op = (1 : Int))))] [(2, .pure (GExpr.cs e0))] rfl rfl rfl ?_
 refine AW2_if (p := e0.Op = (1 : Int)) rfl (fun h1 => ?_) (fun h1 => ?_)
 ·replace H := ite_then h1 H
  refine AW2_seq ?_
  refine AW2_ghoQ ?_
  refine AW2_draw 8 [8, 9] (fun k => ([.q 2 (0 + 1), .q 2 (0 + 1 + 0), .i e0.Value.Kind, .q 2 (0 + 1), .q 2 (0 + 1 + 0), .i e0.Value.Kind, .b (decide (e0.Value.Kind = (0 : Int))), .i e0.Value.Kind] : List TV).getD k TV.any) (fun k => g_ref_kindOf_r2.getD k []) [(4, some 7), (27, some 6)] [] (fun k => g_ref_kindOf_r2c.getD k []) mixed (by kernel_rfl) rfl rfl (a_op (g_x rfl (x_p rfl (u_fa rfl rfl Tryd.underlying27 rfl in_24 (Nat.succ_ne_zero _) rfl rfl (ne_of_lt (n := 0) (Nat.lt_of_lt_of_eq (by decide) (Eq.symm (GExpr.len e0))))) rfl)) (a_op (g_x rfl (x_p rfl (u_fa rfl rfl Tryd.underlying24 rfl in_3 (Nat.succ_ne_zero _) rfl rfl (ne_of_lt (n := 0) (Nat.lt_of_lt_of_eq (by decide) (Eq.symm (GExpr.len e0))))) rfl)) (a_op (g_x rfl (x_p rfl (u_ld rfl rfl Tryd.underlying3 rfl rfl (((Sub.refl _).trans (GExpr.sub1 e0)).trans (GValue.sub0 e0.Value))) rfl)) (a_op (g_x rfl (x_p rfl (u_fa rfl rfl Tryd.underlying27 rfl in_24 (Nat.succ_ne_zero _) rfl rfl (ne_of_lt (n := 0) (Nat.lt_of_lt_of_eq (by decide) (Eq.symm (GExpr.len e0))))) rfl)) (a_op (g_x rfl (x_p rfl (u_fa rfl rfl Tryd.underlying24 rfl in_3 (Nat.succ_ne_zero _) rfl rfl (ne_of_lt (n := 0) (Nat.lt_of_lt_of_eq (by decide) (Eq.symm (GExpr.len e0))))) rfl)) (a_op (g_x rfl (x_p rfl (u_ld rfl rfl Tryd.underlying3 rfl rfl (((Sub.refl _).trans (GExpr.sub1 e0)).trans (GValue.sub0 e0.Value))) rfl)) (a_op (g_x rfl (x_p rfl (p_ieq rfl rfl rfl) rfl)) (a_op (g_x rfl (x_p rfl (p_asg rfl rfl) rfl)) (a_nil))))))))) ?_
  refine t_op rfl rfl (PureD.opD (p_asg rfl rfl)) ?_
  refine t_op rfl rfl (PureD.opD (p_asg rfl rfl)) ?_
  refine t_gho (Gho_st (L := [(4, .i e0.Value.Kind), (5, .b (decide (e0.Value.Kind = (0 : Int)))), (6, .i (0 : Int))]) (H := []) (N := 109) rfl ⟨TLes.same _, TLes.same _, TLes.same _, trivial⟩ trivial) ?_
  refine AW2_ret ?_
  have hz := some_elim H
  subst hz
  exact ⟨⟨res_tmp (.same _), res_tmp (.same _), res_tmp (.same _), trivial⟩, trivial⟩
 ·replace H := ite_else h1 H
  refine as2 [(1, .p ((fun q : List GColumn => AV.lst (q.flatMap GColumn.cs) q.length) cols1)), (2, .q 2 (0))] [(2, .pure (GExpr.cs e0))] rfl rfl rfl ?_
  refine AW2_skip ?_
  refine AW2_seq ?_
  refine sg [0, 1, 2] rfl ?_
  refine rp rfl rfl (u_fa rfl rfl Tryd.underlying27 rfl in_3 (Nat.succ_ne_zero _) rfl rfl (ne_of_lt (n := 0) (Nat.lt_of_lt_of_eq (by decide) (Eq.symm (GExpr.len e0))))) ?_
  refine rp rfl rfl (u_ld rfl rfl Tryd.underlying3 rfl rfl ((Sub.refl _).trans (GExpr.sub0 e0))) ?_
  refine rp rfl rfl (p_ieq rfl rfl rfl) ?_
  refine rz [(1, .p ((fun q : List GColumn => AV.lst (q.flatMap GColumn.cs) q.length) cols1)), (2, .q 2 (0)), (30, .b (decide (e0.Op = (2 : Int))))] [(2, .pure (GExpr.cs e0))] rfl rfl rfl ?_
  refine AW2_if (p := e0.Op = (2 : Int)) rfl (fun h2 => ?_) (fun h2 => ?_)
  ·replace H := ite_then h2 H
   refine sg [0, 1, 2, 3, 4] rfl ?_
   refine rp rfl rfl (p_move rfl rfl) ?_
   refine rp rfl rfl (u_fa rfl rfl Tryd.underlying27 rfl in_9 (Nat.succ_ne_zero _) rfl rfl (ne_of_lt (n := 0) (Nat.lt_of_lt_of_eq (by decide) (Eq.symm (GExpr.len e0))))) ?_
   refine rp rfl rfl (u_ld rfl rfl Tryd.underlying9 rfl rfl ((Sub.refl _).trans (GExpr.sub2 e0))) ?_
   refine bindK H fun r'1 h3 H => ?_
   refine rp rfl rfl (p_callp rfl rfl rfl Tryd.func27 rfl rfl (g_ref_columnAt_ac h3) ⟨rfl, rfl, trivial⟩) ?_
   refine rp rfl rfl (p_asg rfl rfl) ?_
   refine rz [(1, .p ((fun q : List GColumn => AV.lst (q.flatMap GColumn.cs) q.length) cols1)), (7, .i r'1)] [] rfl rfl rfl ?_
   refine AW2_seq ?_
   refine sg [0, 1] rfl ?_
   refine rp rfl rfl (p_move rfl rfl) ?_
   refine rp rfl rfl (p_bin rfl rfl rfl rfl) ?_
   refine rz [(1, .p ((fun q : List GColumn => AV.lst (q.flatMap GColumn.cs) q.length) cols1)), (7, .i r'1), (36, .b (decide (r'1 < (0 : Int))))] [] rfl rfl rfl ?_
   refine AW2_if (p := r'1 < (0 : Int)) rfl (fun h4 => ?_) (fun h4 => ?_)
   ·replace H := ite_then h4 H
    refine sg [0, 1, 2] rfl ?_
    refine rp rfl rfl (p_asg rfl rfl) ?_
    refine rp rfl rfl (p_asg rfl rfl) ?_
    refine rp rfl rfl (p_asg rfl rfl) ?_
    refine rz [(4, .i (0 : Int)), (5, .b false), (6, .i (5 : Int))] [] rfl rfl rfl ?_
    refine AW2_ret ?_
    have hz := some_elim H
    subst hz
    exact ⟨⟨res_tmp (.same _), res_tmp (.same _), res_tmp (.same _), trivial⟩, trivial⟩
   ·replace H := ite_else h4 H
    refine as2 [(1, .p ((fun q : List GColumn => AV.lst (q.flatMap GColumn.cs) q.length) cols1)), (7, .i r'1)] [] rfl rfl rfl ?_
    refine AW2_skip ?_
    refine AW2_seq ?_
    refine chkK H fun h5 H => ?_
    refine chkK H fun h6 H => ?_
    refine AW2_ghoQ ?_
    refine AW2_draw 11 [11, 12] (fun k => ([.p ((fun q : List GColumn => AV.lst (q.flatMap GColumn.cs) q.length) cols1), .i r'1, .p (.rptr (cols1.flatMap GColumn.cs) (r'1.toNat * 3)), .p (.rptr (cols1.flatMap GColumn.cs) (r'1.toNat * 3 + 1)), .i ((lrd cols1 r'1.toNat).Kind), .p ((fun q : List GColumn => AV.lst (q.flatMap GColumn.cs) q.length) cols1), .i r'1, .p (.rptr (cols1.flatMap GColumn.cs) (r'1.toNat * 3)), .p (.rptr (cols1.flatMap GColumn.cs) (r'1.toNat * 3 + 2)), .b ((lrd cols1 r'1.toNat).Null), .i ((lrd cols1 r'1.toNat).Kind)] : List TV).getD k TV.any) (fun k => g_ref_kindOf_r7.getD k []) [(4, some 10), (46, some 9)] [] (fun k => g_ref_kindOf_r7c.getD k []) mixed (by kernel_rfl) rfl rfl (a_op (g_x rfl (x_p rfl (p_move rfl rfl) rfl)) (a_op (g_x rfl (x_p rfl (p_move rfl rfl) rfl)) (a_op (g_x rfl (x_p rfl (u_ixl rfl rfl Tryd.underlying28 in_59 rfl rfl (ixe h5) (ixn h5) (fne (fun x => (GColumn.len x)) (by decide) (ixn h5))) rfl)) (a_op (g_x rfl (x_p rfl (u_far rfl rfl Tryd.underlying59 rfl in_3 (Nat.succ_ne_zero _) rfl) rfl)) (a_op (g_x rfl (x_p rfl (u_ld rfl rfl Tryd.underlying3 rfl rfl ((Sub.fm default (fun x => (GColumn.len x)) (ixn h5)).trans (GColumn.sub1 (lrd cols1 r'1.toNat)))) rfl)) (a_op (g_x rfl (x_p rfl (p_move rfl rfl) rfl)) (a_op (g_x rfl (x_p rfl (p_move rfl rfl) rfl)) (a_op (g_x rfl (x_p rfl (u_ixl rfl rfl Tryd.underlying28 in_59 rfl rfl (ixe h6) (ixn h6) (fne (fun x => (GColumn.len x)) (by decide) (ixn h6))) rfl)) (a_op (g_x rfl (x_p rfl (u_far rfl rfl Tryd.underlying59 rfl in_4 (Nat.succ_ne_zero _) rfl) rfl)) (a_op (g_x rfl (x_p rfl (u_ld rfl rfl Tryd.underlying4 rfl rfl ((Sub.fm default (fun x => (GColumn.len x)) (ixn h6)).trans (GColumn.sub2 (lrd cols1 r'1.toNat)))) rfl)) (a_op (g_x rfl (x_p rfl (p_asg rfl rfl) rfl)) (a_nil)))))))))))) ?_
    refine t_op rfl rfl (PureD.opD (p_asg rfl rfl)) ?_
    refine t_op rfl rfl (PureD.opD (p_asg rfl rfl)) ?_
    refine t_gho (Gho_st (L := [(4, .i ((lrd cols1 r'1.toNat).Kind)), (5, .b ((lrd cols1 r'1.toNat).Null)), (6, .i (0 : Int))]) (H := []) (N := 109) rfl ⟨TLes.same _, TLes.same _, TLes.same _, trivial⟩ trivial) ?_
    refine AW2_ret ?_
    have hz := some_elim H
    subst hz
    exact ⟨⟨res_tmp (.same _), res_tmp (.same _), res_tmp (.same _), trivial⟩, trivial⟩
  ·replace H := ite_else h2 H
   refine as2 [(1, .p ((fun q : List GColumn => AV.lst (q.flatMap GColumn.cs) q.length) cols1)), (2, .q 2 (0))] [(2, .pure (GExpr.cs e0))] rfl rfl rfl ?_
   refine AW2_skip ?_
   refine sg [0, 1] rfl ?_
   refine rp rfl rfl (p_asg rfl rfl) ?_
   refine rp rfl rfl (p_asg rfl rfl) ?_
   refine rz [(1, .p ((fun q : List GColumn => AV.lst (q.flatMap GColumn.cs) q.length) cols1)), (2, .q 2 (0)), (8, .b false), (9, .b true)] [(2, .pure (GExpr.cs e0))] rfl rfl rfl ?_
   refine sg [0, 1, 2, 3, 4, 5, 6, 7] rfl ?_
   refine rp rfl rfl (u_fa rfl rfl Tryd.underlying27 rfl in_3 (Nat.succ_ne_zero _) rfl rfl (ne_of_lt (n := 0) (Nat.lt_of_lt_of_eq (by decide) (Eq.symm (GExpr.len e0))))) ?_
   refine rp rfl rfl (u_ld rfl rfl Tryd.underlying3 rfl rfl ((Sub.refl _).trans (GExpr.sub0 e0))) ?_
   refine bindK H fun r'2 h7 H => ?_
   refine rp rfl rfl (p_callp rfl rfl rfl Tryd.func49 rfl rfl (g_ref_asksFor_ac h7) ⟨rfl, trivial⟩) ?_
   refine rp rfl rfl (p_move rfl rfl) ?_
   refine rp rfl rfl (p_ext rfl rfl rfl rfl) ?_
   refine rp rfl rfl (p_ext rfl rfl rfl rfl) ?_
   refine rp rfl rfl (p_asg rfl rfl) ?_
   refine rp rfl rfl (p_asg rfl rfl) ?_
   refine rz [(1, .p ((fun q : List GColumn => AV.lst (q.flatMap GColumn.cs) q.length) cols1)), (2, .q 2 (0)), (8, .b false), (9, .b true), (10, .i r'2.1), (11, .i r'2.2)] [(2, .pure (GExpr.cs e0))] rfl rfl rfl ?_
   refine sg [0] rfl ?_
   refine rp rfl rfl (p_asg rfl rfl) ?_
   refine rz [(1, .p ((fun q : List GColumn => AV.lst (q.flatMap GColumn.cs) q.length) cols1)), (2, .q 2 (0)), (8, .b false), (9, .b true), (10, .i r'2.1), (11, .i r'2.2), (12, .b false)] [(2, .pure (GExpr.cs e0))] rfl rfl rfl ?_
   refine AW2_seq ?_
   refine sg [0, 1, 2, 3] rfl ?_
   refine rp rfl rfl (u_fa rfl rfl Tryd.underlying27 rfl in_25 (Nat.succ_ne_zero _) rfl rfl (ne_of_lt (n := 0) (Nat.lt_of_lt_of_eq (by decide) (Eq.symm (GExpr.len e0))))) ?_
   refine rp rfl rfl (u_ld rfl rfl Tryd.underlying25 rfl rfl ((Sub.refl _).trans (GExpr.sub3 e0))) ?_
   refine rp rfl rfl (p_lenl rfl Tryd.underlying25 rfl rfl) ?_
   refine rp rfl rfl (p_move rfl rfl) ?_
   refine rz [(1, .p ((fun q : List GColumn => AV.lst (q.flatMap GColumn.cs) q.length) cols1)), (2, .q 2 (0)), (8, .b false), (9, .b true), (10, .i r'2.1), (11, .i r'2.2), (12, .b false), (54, .p ((fun q : List GExpr => AV.lst (q.flatMap GExpr.cs) q.length) e0.Args)), (55, .i (e0.Args.length : Int)), (56, .i (0 : Int))] [(2, .pure (GExpr.cs e0))] rfl rfl rfl ?_
   refine AW2_block ?_
   refine as2 [(1, .p ((fun q : List GColumn => AV.lst (q.flatMap GColumn.cs) q.length) cols1)), (2, .q 2 (0)), (8, .b false), (9, .b true), (10, .i r'2.1), (11, .i r'2.2), (12, .b false), (54, .p ((fun q : List GExpr => AV.lst (q.flatMap GExpr.cs) q.length) e0.Args)), (55, .i (e0.Args.length : Int)), (56, .i (0 : Int))] [(2, .pure (GExpr.cs e0))] rfl rfl rfl ?_
   refine bindK H fun o'11 h21 H => ?_
   refine AW2_loopO (fun a'8 : Bool × Bool × Int × Bool × Int => (⟨[(1, .p ((fun q : List GColumn => AV.lst (q.flatMap GColumn.cs) q.length) cols1)), (2, .q 2 (0)), (8, .b a'8.1), (9, .b a'8.2.1), (10, .i a'8.2.2.1), (11, .i r'2.2), (12, .b a'8.2.2.2.1), (54, .p ((fun q : List GExpr => AV.lst (q.flatMap GExpr.cs) q.length) e0.Args)), (55, .i (e0.Args.length : Int)), (56, .i a'8.2.2.2.2)], [(2, .pure (GExpr.cs e0))], 109⟩ : TS)) (fun (o : (Int × Bool × Int) ⊕ (Bool × Bool × Int × Bool)) e s' => match o with | .inl y'9 => e = Go.Exit.ret ∧ ResAll Tryd.prog s' [ResultVar.tmp 4, ResultVar.tmp 5, ResultVar.tmp 6] [.i y'9.1, .b y'9.2.1, .i y'9.2.2] ∧ HFits s' [] | .inr (y'10) => e = Go.Exit.exit 0 ∧ s' = (⟨[(2, .q 2 (0)), (8, .b y'10.1), (9, .b y'10.2.1), (10, .i y'10.2.2.1), (11, .i r'2.2), (12, .b y'10.2.2.2)], [(2, .pure (GExpr.cs e0))], 109⟩ : TS)) h21 rfl (fun a x hx => ?_) (fun e s' hs => ?_)
   ·clear H
    obtain ⟨some8_0, all9_0, asks10_0, clash12_0, t56_0⟩ := a
    have H := hx
    clear hx
    unfold g_ref_kindOf_l0 at H
    refine sg [0] rfl ?_
    refine rp rfl rfl (p_bin rfl rfl rfl rfl) ?_
    refine rz [(1, .p ((fun q : List GColumn => AV.lst (q.flatMap GColumn.cs) q.length) cols1)), (2, .q 2 (0)), (8, .b some8_0), (9, .b all9_0), (10, .i asks10_0), (11, .i r'2.2), (12, .b clash12_0), (54, .p ((fun q : List GExpr => AV.lst (q.flatMap GExpr.cs) q.length) e0.Args)), (55, .i (e0.Args.length : Int)), (56, .i t56_0), (57, .b (decide (t56_0 < (e0.Args.length : Int))))] [(2, .pure (GExpr.cs e0))] rfl rfl rfl ?_
    refine AW2_seq ?_
    refine AW2_if (p := t56_0 < (e0.Args.length : Int)) rfl (fun h8 => ?_) (fun h8 => ?_)
    ·replace H := ite_then h8 H
     refine as2 [(1, .p ((fun q : List GColumn => AV.lst (q.flatMap GColumn.cs) q.length) cols1)), (2, .q 2 (0)), (8, .b some8_0), (9, .b all9_0), (10, .i asks10_0), (11, .i r'2.2), (12, .b clash12_0), (54, .p ((fun q : List GExpr => AV.lst (q.flatMap GExpr.cs) q.length) e0.Args)), (55, .i (e0.Args.length : Int)), (56, .i t56_0)] [(2, .pure (GExpr.cs e0))] rfl rfl rfl ?_
     refine AW2_skip ?_
     refine AW2_seq ?_
     refine bindK H fun o'7 h9 H => ?_
     refine AW2_join (fun j'3 : Bool × Bool × Int × Bool => (⟨[(1, .p ((fun q : List GColumn => AV.lst (q.flatMap GColumn.cs) q.length) cols1)), (2, .q 2 (0)), (8, .b j'3.1), (9, .b j'3.2.1), (10, .i j'3.2.2.1), (11, .i r'2.2), (12, .b j'3.2.2.2), (54, .p ((fun q : List GExpr => AV.lst (q.flatMap GExpr.cs) q.length) e0.Args)), (55, .i (e0.Args.length : Int)), (56, .i t56_0)], [(2, .pure (GExpr.cs e0))], 109⟩ : TS)) (fun r e s' => e = Go.Exit.ret ∧ ResAll Tryd.prog s' [ResultVar.tmp 4, ResultVar.tmp 5, ResultVar.tmp 6] [.i r.1, .b r.2.1, .i r.2.2] ∧ HFits s' []) (x := o'7) ?_ (fun j'3 hy => ?_) (fun y'6 e s' hy hs => ?_)
     ·clear H
      have H := h9
      clear h9
      refine AW2_block ?_
      refine sg [0, 1, 2, 3] rfl ?_
      refine chkK H fun h10 H => ?_
      refine rp rfl rfl (u_ixl rfl rfl Tryd.underlying25 in_27 rfl rfl (ixe h10) (ixn h10) (fne (fun x => (GExpr.len x)) (by decide) (ixn h10))) ?_
      refine rp rfl rfl (u_lda rfl rfl Tryd.underlying27 rfl in_27 rfl (Nat.succ_pos _) (Sub.fm default (fun x => (GExpr.len x)) (ixn h10)) (GExpr.len (lrd e0.Args t56_0.toNat))) ?_
      refine r_op rfl rfl (MakeD.opD (u_alloc 14 rfl in_27 one_27 zc_27) rfl rfl rfl rfl) ?_
      refine r_op rfl rfl (u_st rfl rfl rfl rfl rfl in_27 (GExpr.len (lrd e0.Args t56_0.toNat)) (ne_of_lt (n := 0) (Nat.lt_of_lt_of_eq (by decide) (Eq.symm (GExpr.len GExpr.zero)))) (Upd.refl ((GExpr.len (lrd e0.Args t56_0.toNat)).trans (GExpr.len GExpr.zero).symm))) ?_
      refine rz [(1, .p ((fun q : List GColumn => AV.lst (q.flatMap GColumn.cs) q.length) cols1)), (2, .q 2 (0)), (8, .b some8_0), (9, .b all9_0), (10, .i asks10_0), (11, .i r'2.2), (12, .b clash12_0), (14, .q 14 (0)), (54, .p ((fun q : List GExpr => AV.lst (q.flatMap GExpr.cs) q.length) e0.Args)), (55, .i (e0.Args.length : Int)), (56, .i t56_0)] [(2, .pure (GExpr.cs e0)), (14, .pure (GExpr.cs (lrd e0.Args t56_0.toNat)))] rfl rfl rfl ?_
      refine sg [0, 1, 2, 3, 4, 5, 6, 7, 8, 9] rfl ?_
      refine rp rfl rfl (u_lda rfl rfl Tryd.underlying27 rfl in_27 rfl (Nat.succ_pos _) (Sub.refl _) (GExpr.len (lrd e0.Args t56_0.toNat))) ?_
      refine rp rfl rfl (p_move rfl rfl) ?_
      refine bindK H fun r'4 h11 H => ?_
      refine rp rfl rfl (p_callp rfl rfl rfl Tryd.func23 rfl rfl (hR h11) ⟨rfl, rfl, trivial⟩) ?_
      refine rp rfl rfl (p_move rfl rfl) ?_
      refine rp rfl rfl (p_ext rfl rfl rfl rfl) ?_
      refine rp rfl rfl (p_ext rfl rfl rfl rfl) ?_
      refine rp rfl rfl (p_ext rfl rfl rfl rfl) ?_
      refine rp rfl rfl (p_asg rfl rfl) ?_
      refine rp rfl rfl (p_asg rfl rfl) ?_
      refine rp rfl rfl (p_asg rfl rfl) ?_
      refine rz [(1, .p ((fun q : List GColumn => AV.lst (q.flatMap GColumn.cs) q.length) cols1)), (2, .q 2 (0)), (8, .b some8_0), (9, .b all9_0), (10, .i asks10_0), (11, .i r'2.2), (12, .b clash12_0), (15, .i r'4.1), (16, .b r'4.2.1), (17, .i r'4.2.2), (54, .p ((fun q : List GExpr => AV.lst (q.flatMap GExpr.cs) q.length) e0.Args)), (55, .i (e0.Args.length : Int)), (56, .i t56_0)] [(2, .pure (GExpr.cs e0))] rfl rfl rfl ?_
      refine AW2_seq ?_
      refine sg [0, 1] rfl ?_
      refine rp rfl rfl (p_move rfl rfl) ?_
      refine rp rfl rfl (p_ine rfl rfl rfl) ?_
      refine rz [(1, .p ((fun q : List GColumn => AV.lst (q.flatMap GColumn.cs) q.length) cols1)), (2, .q 2 (0)), (8, .b some8_0), (9, .b all9_0), (10, .i asks10_0), (11, .i r'2.2), (12, .b clash12_0), (15, .i r'4.1), (16, .b r'4.2.1), (17, .i r'4.2.2), (54, .p ((fun q : List GExpr => AV.lst (q.flatMap GExpr.cs) q.length) e0.Args)), (55, .i (e0.Args.length : Int)), (56, .i t56_0), (68, .b (decide (r'4.2.2 ≠ (0 : Int))))] [(2, .pure (GExpr.cs e0))] rfl rfl rfl ?_
      refine AW2_if (p := r'4.2.2 ≠ (0 : Int)) rfl (fun h12 => ?_) (fun h12 => ?_)
      ·replace H := ite_then h12 H
       refine sg [0, 1, 2, 3] rfl ?_
       refine rp rfl rfl (p_move rfl rfl) ?_
       refine rp rfl rfl (p_asg rfl rfl) ?_
       refine rp rfl rfl (p_asg rfl rfl) ?_
       refine rp rfl rfl (p_asg rfl rfl) ?_
       refine rz [(4, .i (0 : Int)), (5, .b false), (6, .i r'4.2.2)] [] rfl rfl rfl ?_
       refine AW2_ret ?_
       have hz := some_elim H
       subst hz
       exact ⟨rfl, ⟨res_tmp (.same _), res_tmp (.same _), res_tmp (.same _), trivial⟩, trivial⟩
      ·replace H := ite_else h12 H
       refine as2 [(1, .p ((fun q : List GColumn => AV.lst (q.flatMap GColumn.cs) q.length) cols1)), (2, .q 2 (0)), (8, .b some8_0), (9, .b all9_0), (10, .i asks10_0), (11, .i r'2.2), (12, .b clash12_0), (15, .i r'4.1), (16, .b r'4.2.1), (54, .p ((fun q : List GExpr => AV.lst (q.flatMap GExpr.cs) q.length) e0.Args)), (55, .i (e0.Args.length : Int)), (56, .i t56_0)] [(2, .pure (GExpr.cs e0))] rfl rfl rfl ?_
       refine AW2_skip ?_
       refine AW2_seq ?_
       refine AW2_mid (⟨[(1, .p ((fun q : List GColumn => AV.lst (q.flatMap GColumn.cs) q.length) cols1)), (2, .q 2 (0)), (8, .b (decide ((some8_0 = true) ∨ (r'4.2.1 = true)))), (9, .b (decide ((all9_0 = true) ∧ (r'4.2.1 = true)))), (10, .i asks10_0), (11, .i r'2.2), (12, .b clash12_0), (15, .i r'4.1), (54, .p ((fun q : List GExpr => AV.lst (q.flatMap GExpr.cs) q.length) e0.Args)), (55, .i (e0.Args.length : Int)), (56, .i t56_0)], [(2, .pure (GExpr.cs e0))], 109⟩ : TS) ?_ ?_
       ·refine AW2_reg [0, 1, 2, 3, 4, 5, 6, 7, 8, 9] rfl ?_
        refine rp rfl rfl (p_move rfl rfl) ?_
        refine rp rfl rfl (p_move rfl rfl) ?_
        refine (Classical.em (some8_0 = true)).elim (fun h13 => ?_) (fun h13 => ?_)
        ·refine r_off rfl rfl rfl rfl h13 rfl rfl ?_
         refine rp rfl rfl (p_pkt rfl rfl h13 (tb (decide_eq_true (p := (some8_0 = true) ∨ (r'4.2.1 = true)) (Or.inl h13)).symm)) ?_
         refine rp rfl rfl (p_move rfl rfl) ?_
         refine rp rfl rfl (p_move rfl rfl) ?_
         refine (Classical.em (all9_0 = true)).elim (fun h14 => ?_) (fun h14 => ?_)
         ·refine rn rfl rfl rfl rfl h14 rfl (p_move rfl rfl) ?_
          refine rp rfl rfl (p_pkt rfl rfl h14 (tb ((bdec _).trans (and_l (p := all9_0 = true) (q := r'4.2.1 = true) h14)))) ?_
          refine rp rfl rfl (p_asg rfl rfl) ?_
          refine rp rfl rfl (p_asg rfl rfl) ?_
          refine rs [(1, .p ((fun q : List GColumn => AV.lst (q.flatMap GColumn.cs) q.length) cols1)), (2, .q 2 (0)), (8, .b (decide ((some8_0 = true) ∨ (r'4.2.1 = true)))), (9, .b (decide ((all9_0 = true) ∧ (r'4.2.1 = true)))), (10, .i asks10_0), (11, .i r'2.2), (12, .b clash12_0), (15, .i r'4.1), (54, .p ((fun q : List GExpr => AV.lst (q.flatMap GExpr.cs) q.length) e0.Args)), (55, .i (e0.Args.length : Int)), (56, .i t56_0)] [(2, .pure (GExpr.cs e0))] rfl rfl rfl ?_
          exact RunW_nil rfl
         ·refine r_off rfl rfl rfl rfl (bfalse h14) rfl rfl ?_
          refine rp rfl rfl (p_pkf rfl rfl (bfalse h14) (tb (decide_eq_false (p := (all9_0 = true) ∧ (r'4.2.1 = true)) (fun x => h14 x.1)).symm)) ?_
          refine rp rfl rfl (p_asg rfl rfl) ?_
          refine rp rfl rfl (p_asg rfl rfl) ?_
          refine rs [(1, .p ((fun q : List GColumn => AV.lst (q.flatMap GColumn.cs) q.length) cols1)), (2, .q 2 (0)), (8, .b (decide ((some8_0 = true) ∨ (r'4.2.1 = true)))), (9, .b (decide ((all9_0 = true) ∧ (r'4.2.1 = true)))), (10, .i asks10_0), (11, .i r'2.2), (12, .b clash12_0), (15, .i r'4.1), (54, .p ((fun q : List GExpr => AV.lst (q.flatMap GExpr.cs) q.length) e0.Args)), (55, .i (e0.Args.length : Int)), (56, .i t56_0)] [(2, .pure (GExpr.cs e0))] rfl rfl rfl ?_
          exact RunW_nil rfl
        ·refine r_on rfl rfl rfl rfl (bfalse h13) rfl (PureD.opD (p_move rfl rfl)) ?_
         refine rp rfl rfl (p_pkf rfl rfl (bfalse h13) (tb ((bdec _).trans (or_l (p := some8_0 = true) (q := r'4.2.1 = true) h13)))) ?_
         refine rp rfl rfl (p_move rfl rfl) ?_
         refine rp rfl rfl (p_move rfl rfl) ?_
         refine (Classical.em (all9_0 = true)).elim (fun h15 => ?_) (fun h15 => ?_)
         ·refine rn rfl rfl rfl rfl h15 rfl (p_move rfl rfl) ?_
          refine rp rfl rfl (p_pkt rfl rfl h15 (tb ((bdec _).trans (and_l (p := all9_0 = true) (q := r'4.2.1 = true) h15)))) ?_
          refine rp rfl rfl (p_asg rfl rfl) ?_
          refine rp rfl rfl (p_asg rfl rfl) ?_
          refine rs [(1, .p ((fun q : List GColumn => AV.lst (q.flatMap GColumn.cs) q.length) cols1)), (2, .q 2 (0)), (8, .b (decide ((some8_0 = true) ∨ (r'4.2.1 = true)))), (9, .b (decide ((all9_0 = true) ∧ (r'4.2.1 = true)))), (10, .i asks10_0), (11, .i r'2.2), (12, .b clash12_0), (15, .i r'4.1), (54, .p ((fun q : List GExpr => AV.lst (q.flatMap GExpr.cs) q.length) e0.Args)), (55, .i (e0.Args.length : Int)), (56, .i t56_0)] [(2, .pure (GExpr.cs e0))] rfl rfl rfl ?_
          exact RunW_nil rfl
         ·refine r_off rfl rfl rfl rfl (bfalse h15) rfl rfl ?_
          refine rp rfl rfl (p_pkf rfl rfl (bfalse h15) (tb (decide_eq_false (p := (all9_0 = true) ∧ (r'4.2.1 = true)) (fun x => h15 x.1)).symm)) ?_
          refine rp rfl rfl (p_asg rfl rfl) ?_
          refine rp rfl rfl (p_asg rfl rfl) ?_
          refine rs [(1, .p ((fun q : List GColumn => AV.lst (q.flatMap GColumn.cs) q.length) cols1)), (2, .q 2 (0)), (8, .b (decide ((some8_0 = true) ∨ (r'4.2.1 = true)))), (9, .b (decide ((all9_0 = true) ∧ (r'4.2.1 = true)))), (10, .i asks10_0), (11, .i r'2.2), (12, .b clash12_0), (15, .i r'4.1), (54, .p ((fun q : List GExpr => AV.lst (q.flatMap GExpr.cs) q.length) e0.Args)), (55, .i (e0.Args.length : Int)), (56, .i t56_0)] [(2, .pure (GExpr.cs e0))] rfl rfl rfl ?_
          exact RunW_nil rfl
       ·refine AW2_seq ?_
        refine AW2_seq ?_
        refine AW2_mid (⟨[(1, .p ((fun q : List GColumn => AV.lst (q.flatMap GColumn.cs) q.length) cols1)), (2, .q 2 (0)), (8, .b (decide ((some8_0 = true) ∨ (r'4.2.1 = true)))), (9, .b (decide ((all9_0 = true) ∧ (r'4.2.1 = true)))), (10, .i asks10_0), (11, .i r'2.2), (12, .b clash12_0), (15, .i r'4.1), (54, .p ((fun q : List GExpr => AV.lst (q.flatMap GExpr.cs) q.length) e0.Args)), (55, .i (e0.Args.length : Int)), (56, .i t56_0), (84, .b (decide ((e0.Op = (17 : Int)) ∨ (r'4.1 = (0 : Int)))))], [(2, .pure (GExpr.cs e0))], 109⟩ : TS) ?_ ?_
        ·refine AW2_reg [0, 1, 2, 3, 4, 5, 6] rfl ?_
         refine rp rfl rfl (u_fa rfl rfl Tryd.underlying27 rfl in_3 (Nat.succ_ne_zero _) rfl rfl (ne_of_lt (n := 0) (Nat.lt_of_lt_of_eq (by decide) (Eq.symm (GExpr.len e0))))) ?_
         refine rp rfl rfl (u_ld rfl rfl Tryd.underlying3 rfl rfl ((Sub.refl _).trans (GExpr.sub0 e0))) ?_
         refine rp rfl rfl (p_ieq rfl rfl rfl) ?_
         refine rp rfl rfl (p_move rfl rfl) ?_
         refine (Classical.em (e0.Op = (17 : Int))).elim (fun h16 => ?_) (fun h16 => ?_)
         ·iterate 2 (refine r_off rfl rfl rfl rfl (decide_eq_true h16) rfl rfl ?_)
          refine rp rfl rfl (p_pkt rfl rfl (decide_eq_true h16) (tb (decide_eq_true (p := (e0.Op = (17 : Int)) ∨ (r'4.1 = (0 : Int))) (Or.inl h16)).symm)) ?_
          refine rs [(1, .p ((fun q : List GColumn => AV.lst (q.flatMap GColumn.cs) q.length) cols1)), (2, .q 2 (0)), (8, .b (decide ((some8_0 = true) ∨ (r'4.2.1 = true)))), (9, .b (decide ((all9_0 = true) ∧ (r'4.2.1 = true)))), (10, .i asks10_0), (11, .i r'2.2), (12, .b clash12_0), (15, .i r'4.1), (54, .p ((fun q : List GExpr => AV.lst (q.flatMap GExpr.cs) q.length) e0.Args)), (55, .i (e0.Args.length : Int)), (56, .i t56_0), (84, .b (decide ((e0.Op = (17 : Int)) ∨ (r'4.1 = (0 : Int)))))] [(2, .pure (GExpr.cs e0))] rfl rfl rfl ?_
          exact RunW_nil rfl
         ·refine r_on rfl rfl rfl rfl (decide_eq_false h16) rfl (PureD.opD (p_move rfl rfl)) ?_
          refine r_on rfl rfl rfl rfl (decide_eq_false h16) rfl (PureD.opD (p_ieq rfl rfl rfl)) ?_
          refine rp rfl rfl (p_pkf rfl rfl (decide_eq_false h16) (tb ((or_l (p := e0.Op = (17 : Int)) (q := r'4.1 = (0 : Int)) h16)))) ?_
          refine rs [(1, .p ((fun q : List GColumn => AV.lst (q.flatMap GColumn.cs) q.length) cols1)), (2, .q 2 (0)), (8, .b (decide ((some8_0 = true) ∨ (r'4.2.1 = true)))), (9, .b (decide ((all9_0 = true) ∧ (r'4.2.1 = true)))), (10, .i asks10_0), (11, .i r'2.2), (12, .b clash12_0), (15, .i r'4.1), (54, .p ((fun q : List GExpr => AV.lst (q.flatMap GExpr.cs) q.length) e0.Args)), (55, .i (e0.Args.length : Int)), (56, .i t56_0), (84, .b (decide ((e0.Op = (17 : Int)) ∨ (r'4.1 = (0 : Int)))))] [(2, .pure (GExpr.cs e0))] rfl rfl rfl ?_
          exact RunW_nil rfl
        ·refine AW2_if (p := (e0.Op = (17 : Int)) ∨ (r'4.1 = (0 : Int))) rfl (fun h17 => ?_) (fun h17 => ?_)
         ·replace H := ite_then h17 H
          refine as2 [(1, .p ((fun q : List GColumn => AV.lst (q.flatMap GColumn.cs) q.length) cols1)), (2, .q 2 (0)), (8, .b (decide ((some8_0 = true) ∨ (r'4.2.1 = true)))), (9, .b (decide ((all9_0 = true) ∧ (r'4.2.1 = true)))), (10, .i asks10_0), (11, .i r'2.2), (12, .b clash12_0), (54, .p ((fun q : List GExpr => AV.lst (q.flatMap GExpr.cs) q.length) e0.Args)), (55, .i (e0.Args.length : Int)), (56, .i t56_0)] [(2, .pure (GExpr.cs e0))] rfl rfl rfl ?_
          refine AW2_exit ?_
          refine thenQ2_exit ?_
          refine blockQ2_exit ?_
          have hz := some_elim H
          subst hz
          exact ⟨rfl, rfl⟩
         ·replace H := ite_else h17 H
          refine as2 [(1, .p ((fun q : List GColumn => AV.lst (q.flatMap GColumn.cs) q.length) cols1)), (2, .q 2 (0)), (8, .b (decide ((some8_0 = true) ∨ (r'4.2.1 = true)))), (9, .b (decide ((all9_0 = true) ∧ (r'4.2.1 = true)))), (10, .i asks10_0), (11, .i r'2.2), (12, .b clash12_0), (15, .i r'4.1), (54, .p ((fun q : List GExpr => AV.lst (q.flatMap GExpr.cs) q.length) e0.Args)), (55, .i (e0.Args.length : Int)), (56, .i t56_0)] [(2, .pure (GExpr.cs e0))] rfl rfl rfl ?_
          refine AW2_skip ?_
          refine AW2_seq ?_
          refine bindK H fun j'5 h18 H => ?_
          refine AW2_mid (⟨[(1, .p ((fun q : List GColumn => AV.lst (q.flatMap GColumn.cs) q.length) cols1)), (2, .q 2 (0)), (8, .b (decide ((some8_0 = true) ∨ (r'4.2.1 = true)))), (9, .b (decide ((all9_0 = true) ∧ (r'4.2.1 = true)))), (10, .i j'5), (11, .i r'2.2), (12, .b clash12_0), (15, .i r'4.1), (54, .p ((fun q : List GExpr => AV.lst (q.flatMap GExpr.cs) q.length) e0.Args)), (55, .i (e0.Args.length : Int)), (56, .i t56_0)], [(2, .pure (GExpr.cs e0))], 109⟩ : TS) ?_ ?_
          ·clear H
           have H := h18
           clear h18
           refine sg [0, 1] rfl ?_
           refine rp rfl rfl (p_move rfl rfl) ?_
           refine rp rfl rfl (p_ieq rfl rfl rfl) ?_
           refine rz [(1, .p ((fun q : List GColumn => AV.lst (q.flatMap GColumn.cs) q.length) cols1)), (2, .q 2 (0)), (8, .b (decide ((some8_0 = true) ∨ (r'4.2.1 = true)))), (9, .b (decide ((all9_0 = true) ∧ (r'4.2.1 = true)))), (10, .i asks10_0), (11, .i r'2.2), (12, .b clash12_0), (15, .i r'4.1), (54, .p ((fun q : List GExpr => AV.lst (q.flatMap GExpr.cs) q.length) e0.Args)), (55, .i (e0.Args.length : Int)), (56, .i t56_0), (86, .b (decide (asks10_0 = (0 : Int))))] [(2, .pure (GExpr.cs e0))] rfl rfl rfl ?_
           refine AW2_if (p := asks10_0 = (0 : Int)) rfl (fun h19 => ?_) (fun h19 => ?_)
           ·replace H := ite_then h19 H
            refine AW2_reg [0, 1] rfl ?_
            refine rp rfl rfl (p_move rfl rfl) ?_
            refine rp rfl rfl (p_asg rfl rfl) ?_
            refine rz [(1, .p ((fun q : List GColumn => AV.lst (q.flatMap GColumn.cs) q.length) cols1)), (2, .q 2 (0)), (8, .b (decide ((some8_0 = true) ∨ (r'4.2.1 = true)))), (9, .b (decide ((all9_0 = true) ∧ (r'4.2.1 = true)))), (10, .i r'4.1), (11, .i r'2.2), (12, .b clash12_0), (15, .i r'4.1), (54, .p ((fun q : List GExpr => AV.lst (q.flatMap GExpr.cs) q.length) e0.Args)), (55, .i (e0.Args.length : Int)), (56, .i t56_0)] [(2, .pure (GExpr.cs e0))] rfl rfl rfl ?_
            have hz := some_elim H
            subst hz
            exact rfl
           ·replace H := ite_else h19 H
            refine as2 [(1, .p ((fun q : List GColumn => AV.lst (q.flatMap GColumn.cs) q.length) cols1)), (2, .q 2 (0)), (8, .b (decide ((some8_0 = true) ∨ (r'4.2.1 = true)))), (9, .b (decide ((all9_0 = true) ∧ (r'4.2.1 = true)))), (10, .i asks10_0), (11, .i r'2.2), (12, .b clash12_0), (15, .i r'4.1), (54, .p ((fun q : List GExpr => AV.lst (q.flatMap GExpr.cs) q.length) e0.Args)), (55, .i (e0.Args.length : Int)), (56, .i t56_0)] [(2, .pure (GExpr.cs e0))] rfl rfl rfl ?_
            refine AW2_skip ?_
            have hz := some_elim H
            subst hz
            exact rfl
          ·refine AW2_mid (⟨[(1, .p ((fun q : List GColumn => AV.lst (q.flatMap GColumn.cs) q.length) cols1)), (2, .q 2 (0)), (8, .b (decide ((some8_0 = true) ∨ (r'4.2.1 = true)))), (9, .b (decide ((all9_0 = true) ∧ (r'4.2.1 = true)))), (10, .i j'5), (11, .i r'2.2), (12, .b (decide ((clash12_0 = true) ∨ (r'4.1 ≠ j'5)))), (54, .p ((fun q : List GExpr => AV.lst (q.flatMap GExpr.cs) q.length) e0.Args)), (55, .i (e0.Args.length : Int)), (56, .i t56_0)], [(2, .pure (GExpr.cs e0))], 109⟩ : TS) ?_ ?_
           ·refine AW2_reg [0, 1, 2, 3, 4, 5, 6] rfl ?_
            refine rp rfl rfl (p_move rfl rfl) ?_
            refine rp rfl rfl (p_move rfl rfl) ?_
            refine (Classical.em (clash12_0 = true)).elim (fun h20 => ?_) (fun h20 => ?_)
            ·iterate 3 (refine r_off rfl rfl rfl rfl h20 rfl rfl ?_)
             refine rp rfl rfl (p_pkt rfl rfl h20 (tb (decide_eq_true (p := (clash12_0 = true) ∨ (r'4.1 ≠ j'5)) (Or.inl h20)).symm)) ?_
             refine rp rfl rfl (p_asg rfl rfl) ?_
             refine rs [(1, .p ((fun q : List GColumn => AV.lst (q.flatMap GColumn.cs) q.length) cols1)), (2, .q 2 (0)), (8, .b (decide ((some8_0 = true) ∨ (r'4.2.1 = true)))), (9, .b (decide ((all9_0 = true) ∧ (r'4.2.1 = true)))), (10, .i j'5), (11, .i r'2.2), (12, .b (decide ((clash12_0 = true) ∨ (r'4.1 ≠ j'5)))), (54, .p ((fun q : List GExpr => AV.lst (q.flatMap GExpr.cs) q.length) e0.Args)), (55, .i (e0.Args.length : Int)), (56, .i t56_0)] [(2, .pure (GExpr.cs e0))] rfl rfl rfl ?_
             exact RunW_nil rfl
            ·refine r_on rfl rfl rfl rfl (bfalse h20) rfl (PureD.opD (p_move rfl rfl)) ?_
             refine r_on rfl rfl rfl rfl (bfalse h20) rfl (PureD.opD (p_move rfl rfl)) ?_
             refine r_on rfl rfl rfl rfl (bfalse h20) rfl (PureD.opD (p_ine rfl rfl rfl)) ?_
             refine rp rfl rfl (p_pkf rfl rfl (bfalse h20) (tb ((or_l (p := clash12_0 = true) (q := r'4.1 ≠ j'5) h20)))) ?_
             refine rp rfl rfl (p_asg rfl rfl) ?_
             refine rs [(1, .p ((fun q : List GColumn => AV.lst (q.flatMap GColumn.cs) q.length) cols1)), (2, .q 2 (0)), (8, .b (decide ((some8_0 = true) ∨ (r'4.2.1 = true)))), (9, .b (decide ((all9_0 = true) ∧ (r'4.2.1 = true)))), (10, .i j'5), (11, .i r'2.2), (12, .b (decide ((clash12_0 = true) ∨ (r'4.1 ≠ j'5)))), (54, .p ((fun q : List GExpr => AV.lst (q.flatMap GExpr.cs) q.length) e0.Args)), (55, .i (e0.Args.length : Int)), (56, .i t56_0)] [(2, .pure (GExpr.cs e0))] rfl rfl rfl ?_
             exact RunW_nil rfl
           ·have hz := some_elim H
            subst hz
            exact ⟨rfl, rfl⟩
     ·subst hy
      refine AW2_reg [0, 1] rfl ?_
      refine rp rfl rfl (p_bin rfl rfl rfl rfl) ?_
      refine rp rfl rfl (p_move rfl rfl) ?_
      refine rz [(1, .p ((fun q : List GColumn => AV.lst (q.flatMap GColumn.cs) q.length) cols1)), (2, .q 2 (0)), (8, .b j'3.1), (9, .b j'3.2.1), (10, .i j'3.2.2.1), (11, .i r'2.2), (12, .b j'3.2.2.2), (54, .p ((fun q : List GExpr => AV.lst (q.flatMap GExpr.cs) q.length) e0.Args)), (55, .i (e0.Args.length : Int)), (56, .i (w64 (t56_0 + (1 : Int))))] [(2, .pure (GExpr.cs e0))] rfl rfl rfl ?_
      have hz := some_elim H
      subst hz
      exact ⟨rfl, rfl⟩
     ·subst hy
      obtain ⟨rfl, hs⟩ := hs
      have hz := some_elim H
      subst hz
      exact ⟨rfl, hs.1, hs.2⟩
    ·replace H := ite_else h8 H
     refine as2 [(2, .q 2 (0)), (8, .b some8_0), (9, .b all9_0), (10, .i asks10_0), (11, .i r'2.2), (12, .b clash12_0)] [(2, .pure (GExpr.cs e0))] rfl rfl rfl ?_
     refine AW2_exit ?_
     refine thenQ2_exit ?_
     have hz := some_elim H
     subst hz
     exact ⟨rfl, rfl⟩
   ·rcases o'11 with y'12 | y'13
    ·obtain ⟨rfl, hs⟩ := hs
     refine ⟨by simp, ?_⟩
     have hz := some_elim H
     subst hz
     exact ⟨hs.1, hs.2⟩
    ·obtain ⟨rfl, rfl⟩ := hs
     refine ⟨by simp, ?_⟩
     refine blockQ2_exit ?_
     refine AW2_seq ?_
     refine AW2_block ?_
     refine sg [0, 1] rfl ?_
     refine rp rfl rfl (p_move rfl rfl) ?_
     refine rp rfl rfl (p_asg rfl rfl) ?_
     refine rz [(2, .q 2 (0)), (8, .b y'13.1), (9, .b y'13.2.1), (10, .i y'13.2.2.1), (11, .i r'2.2), (95, .b y'13.2.2.2)] [(2, .pure (GExpr.cs e0))] rfl rfl rfl ?_
     refine AW2_cond rfl (fun h22 => ?_) (fun h22 => ?_)
     ·replace H := ite_then h22 H
      refine sg [0, 1, 2] rfl ?_
      refine rp rfl rfl (p_asg rfl rfl) ?_
      refine rp rfl rfl (p_asg rfl rfl) ?_
      refine rp rfl rfl (p_asg rfl rfl) ?_
      refine rz [(4, .i (0 : Int)), (5, .b false), (6, .i (2 : Int))] [] rfl rfl rfl ?_
      refine AW2_ret ?_
      have hz := some_elim H
      subst hz
      exact ⟨⟨res_tmp (.same _), res_tmp (.same _), res_tmp (.same _), trivial⟩, trivial⟩
     ·replace H := ite_else (ne_true h22) H
      refine sg [0, 1, 2, 3] rfl ?_
      refine rp rfl rfl (u_fa rfl rfl Tryd.underlying27 rfl in_3 (Nat.succ_ne_zero _) rfl rfl (ne_of_lt (n := 0) (Nat.lt_of_lt_of_eq (by decide) (Eq.symm (GExpr.len e0))))) ?_
      refine rp rfl rfl (u_ld rfl rfl Tryd.underlying3 rfl rfl ((Sub.refl _).trans (GExpr.sub0 e0))) ?_
      refine rp rfl rfl (p_ieq rfl rfl rfl) ?_
      refine rp rfl rfl (p_asg rfl rfl) ?_
      refine rz [(2, .q 2 (0)), (8, .b y'13.1), (9, .b y'13.2.1), (10, .i y'13.2.2.1), (11, .i r'2.2), (97, .b (decide (e0.Op = (17 : Int))))] [(2, .pure (GExpr.cs e0))] rfl rfl rfl ?_
      refine AW2_if (p := e0.Op = (17 : Int)) rfl (fun h23 => ?_) (fun h23 => ?_)
      ·replace H := ite_then h23 H
       refine sg [0, 1, 2] rfl ?_
       refine rp rfl rfl (p_asg rfl rfl) ?_
       refine rp rfl rfl (p_asg rfl rfl) ?_
       refine rp rfl rfl (p_asg rfl rfl) ?_
       refine rz [(4, .i (1 : Int)), (5, .b false), (6, .i (0 : Int))] [] rfl rfl rfl ?_
       refine AW2_ret ?_
       have hz := some_elim H
       subst hz
       exact ⟨⟨res_tmp (.same _), res_tmp (.same _), res_tmp (.same _), trivial⟩, trivial⟩
      ·replace H := ite_else h23 H
       refine sg [0, 1, 2, 3] rfl ?_
       refine rp rfl rfl (u_fa rfl rfl Tryd.underlying27 rfl in_3 (Nat.succ_ne_zero _) rfl rfl (ne_of_lt (n := 0) (Nat.lt_of_lt_of_eq (by decide) (Eq.symm (GExpr.len e0))))) ?_
       refine rp rfl rfl (u_ld rfl rfl Tryd.underlying3 rfl rfl ((Sub.refl _).trans (GExpr.sub0 e0))) ?_
       refine rp rfl rfl (p_ieq rfl rfl rfl) ?_
       refine rp rfl rfl (p_asg rfl rfl) ?_
       refine rz [(8, .b y'13.1), (9, .b y'13.2.1), (10, .i y'13.2.2.1), (11, .i r'2.2), (101, .b (decide (e0.Op = (20 : Int))))] [] rfl rfl rfl ?_
       refine AW2_if (p := e0.Op = (20 : Int)) rfl (fun h24 => ?_) (fun h24 => ?_)
       ·replace H := ite_then h24 H
        refine sg [0, 1, 2, 3, 4] rfl ?_
        refine rp rfl rfl (p_move rfl rfl) ?_
        refine rp rfl rfl (p_move rfl rfl) ?_
        refine rp rfl rfl (p_asg rfl rfl) ?_
        refine rp rfl rfl (p_asg rfl rfl) ?_
        refine rp rfl rfl (p_asg rfl rfl) ?_
        refine rz [(4, .i y'13.2.2.1), (5, .b y'13.2.1), (6, .i (0 : Int))] [] rfl rfl rfl ?_
        refine AW2_ret ?_
        have hz := some_elim H
        subst hz
        exact ⟨⟨res_tmp (.same _), res_tmp (.same _), res_tmp (.same _), trivial⟩, trivial⟩
       ·replace H := ite_else h24 H
        refine as2 [(8, .b y'13.1), (11, .i r'2.2)] [] rfl rfl rfl ?_
        refine AW2_skip ?_
        refine sg [0, 1, 2, 3, 4] rfl ?_
        refine rp rfl rfl (p_move rfl rfl) ?_
        refine rp rfl rfl (p_move rfl rfl) ?_
        refine rp rfl rfl (p_asg rfl rfl) ?_
        refine rp rfl rfl (p_asg rfl rfl) ?_
        refine rp rfl rfl (p_asg rfl rfl) ?_
        refine rz [(4, .i r'2.2), (5, .b y'13.1), (6, .i (0 : Int))] [] rfl rfl rfl ?_
        refine AW2_ret ?_
        have hz := some_elim H
        subst hz
        exact ⟨⟨res_tmp (.same _), res_tmp (.same _), res_tmp (.same _), trivial⟩, trivial⟩
theorem g_ref_kindOf_acN : ∀ (fu : Nat) {e0 : GExpr} {cols1 : List GColumn} {r : Int × Bool × Int}, g_ref_kindOf fu e0 cols1 = some r → ACp Tryd.prog 23 [(.agg (GExpr.cs e0)), ((fun q : List GColumn => AV.lst (q.flatMap GColumn.cs) q.length) cols1)] (.tup [(AV.int r.1), (AV.bool r.2.1), (AV.int r.2.2)])
 | 0, _, _, _, H => (by cases H)
 | fu + 1, _, _, _, H => g_ref_kindOf_ac0 (g_ref_kindOf_acN fu) H
theorem g_ref_kindOf_ac {e0 : GExpr} {cols1 : List GColumn} {r : Int × Bool × Int} (H : g_ref_kindOf 100000 e0 cols1 = some r) : ACp Tryd.prog 23 [(.agg (GExpr.cs e0)), ((fun q : List GColumn => AV.lst (q.flatMap GColumn.cs) q.length) cols1)] (.tup [(AV.int r.1), (AV.bool r.2.1), (AV.int r.2.2)]) := g_ref_kindOf_acN 100000 H

/-! chirographref.KindOf -/
noncomputable def g_ref_KindOf (e0 : GExpr) (cols1 : List GColumn) : Option (Int × Bool × Int) :=
  (g_ref_ExprFault e0).bind fun r'1 => (if r'1 ≠ (0 : Int) then some ((0 : Int), false, r'1) else (g_ref_ColumnsFault cols1).bind fun r'2 => (if r'2 ≠ (0 : Int) then some ((0 : Int), false, r'2) else (g_ref_kindOf 100000 e0 cols1).bind fun r'3 => some (r'3.1, r'3.2.1, r'3.2.2)))
set_option maxHeartbeats 4000000 in
set_option maxRecDepth 100000 in
theorem g_ref_KindOf_ac {e0 : GExpr} {cols1 : List GColumn} {r : Int × Bool × Int} (H : g_ref_KindOf e0 cols1 = some r) : ACp Tryd.prog 9 [(.agg (GExpr.cs e0)), ((fun q : List GColumn => AV.lst (q.flatMap GColumn.cs) q.length) cols1)] (.tup [(AV.int r.1), (AV.bool r.2.1), (AV.int r.2.2)]) := by
 refine ACp_of (AC2_of_body (vs := [.i r.1, .b r.2.1, .i r.2.2]) Tryd.func9 rfl rfl (Nat.le_of_ble_eq_true rfl) rfl ?_) (fun _ => .same _)
 unfold g_ref_KindOf at H
 refine as2 [(0, .g (GExpr.cs e0)), (1, .p ((fun q : List GColumn => AV.lst (q.flatMap GColumn.cs) q.length) cols1))] [] rfl rfl rfl ?_
 refine sg [0, 1, 2, 3] rfl ?_
 refine r_op rfl rfl (MakeD.opD (n_box 2 rfl rfl) rfl rfl rfl rfl) ?_
 refine rp rfl rfl (p_asg rfl rfl) ?_
 refine rp rfl rfl (p_asg rfl rfl) ?_
 refine rp rfl rfl (p_asg rfl rfl) ?_
 refine rz [(1, .p ((fun q : List GColumn => AV.lst (q.flatMap GColumn.cs) q.length) cols1)), (2, .q 2 (0))] [(2, .pure (GExpr.cs e0))] rfl rfl rfl ?_
 refine AW2_seq ?_
 refine sg [0, 1, 2] rfl ?_
 refine rp rfl rfl (u_lda rfl rfl Tryd.underlying27 rfl in_27 rfl (Nat.succ_pos _) (Sub.refl _) (GExpr.len e0)) ?_
 refine bindK H fun r'1 h1 H => ?_
 refine rp rfl rfl (p_callp rfl rfl rfl Tryd.func21 rfl rfl (g_ref_ExprFault_ac h1) ⟨rfl, trivial⟩) ?_
 refine rp rfl rfl (p_asg rfl rfl) ?_
 refine rz [(1, .p ((fun q : List GColumn => AV.lst (q.flatMap GColumn.cs) q.length) cols1)), (2, .q 2 (0)), (7, .i r'1)] [(2, .pure (GExpr.cs e0))] rfl rfl rfl ?_
 refine sg [0, 1] rfl ?_
 refine rp rfl rfl (p_move rfl rfl) ?_
 refine rp rfl rfl (p_ine rfl rfl rfl) ?_
 refine rz [(1, .p ((fun q : List GColumn => AV.lst (q.flatMap GColumn.cs) q.length) cols1)), (2, .q 2 (0)), (7, .i r'1), (12, .b (decide (r'1 ≠ (0 : Int))))] [(2, .pure (GExpr.cs e0))] rfl rfl rfl ?_
 refine AW2_if (p := r'1 ≠ (0 : Int)) rfl (fun h2 => ?_) (fun h2 => ?_)
 ·replace H := ite_then h2 H
  refine sg [0, 1, 2, 3] rfl ?_
  refine rp rfl rfl (p_move rfl rfl) ?_
  refine rp rfl rfl (p_asg rfl rfl) ?_
  refine rp rfl rfl (p_asg rfl rfl) ?_
  refine rp rfl rfl (p_asg rfl rfl) ?_
  refine rz [(4, .i (0 : Int)), (5, .b false), (6, .i r'1)] [] rfl rfl rfl ?_
  refine AW2_ret ?_
  have hz := some_elim H
  subst hz
  exact ⟨⟨res_tmp (.same _), res_tmp (.same _), res_tmp (.same _), trivial⟩, trivial⟩
 ·replace H := ite_else h2 H
  refine as2 [(1, .p ((fun q : List GColumn => AV.lst (q.flatMap GColumn.cs) q.length) cols1)), (2, .q 2 (0))] [(2, .pure (GExpr.cs e0))] rfl rfl rfl ?_
  refine AW2_skip ?_
  refine AW2_seq ?_
  refine sg [0, 1, 2] rfl ?_
  refine rp rfl rfl (p_move rfl rfl) ?_
  refine bindK H fun r'2 h3 H => ?_
  refine rp rfl rfl (p_callp rfl rfl rfl Tryd.func22 rfl rfl (g_ref_ColumnsFault_ac h3) ⟨rfl, trivial⟩) ?_
  refine rp rfl rfl (p_asg rfl rfl) ?_
  refine rz [(1, .p ((fun q : List GColumn => AV.lst (q.flatMap GColumn.cs) q.length) cols1)), (2, .q 2 (0)), (8, .i r'2)] [(2, .pure (GExpr.cs e0))] rfl rfl rfl ?_
  refine sg [0, 1] rfl ?_
  refine rp rfl rfl (p_move rfl rfl) ?_
  refine rp rfl rfl (p_ine rfl rfl rfl) ?_
  refine rz [(1, .p ((fun q : List GColumn => AV.lst (q.flatMap GColumn.cs) q.length) cols1)), (2, .q 2 (0)), (8, .i r'2), (17, .b (decide (r'2 ≠ (0 : Int))))] [(2, .pure (GExpr.cs e0))] rfl rfl rfl ?_
  refine AW2_if (p := r'2 ≠ (0 : Int)) rfl (fun h4 => ?_) (fun h4 => ?_)
  ·replace H := ite_then h4 H
   refine sg [0, 1, 2, 3] rfl ?_
   refine rp rfl rfl (p_move rfl rfl) ?_
   refine rp rfl rfl (p_asg rfl rfl) ?_
   refine rp rfl rfl (p_asg rfl rfl) ?_
   refine rp rfl rfl (p_asg rfl rfl) ?_
   refine rz [(4, .i (0 : Int)), (5, .b false), (6, .i r'2)] [] rfl rfl rfl ?_
   refine AW2_ret ?_
   have hz := some_elim H
   subst hz
   exact ⟨⟨res_tmp (.same _), res_tmp (.same _), res_tmp (.same _), trivial⟩, trivial⟩
  ·replace H := ite_else h4 H
   refine as2 [(1, .p ((fun q : List GColumn => AV.lst (q.flatMap GColumn.cs) q.length) cols1)), (2, .q 2 (0))] [(2, .pure (GExpr.cs e0))] rfl rfl rfl ?_
   refine AW2_skip ?_
   refine sg [0, 1, 2, 3, 4, 5, 6, 7, 8] rfl ?_
   refine rp rfl rfl (u_lda rfl rfl Tryd.underlying27 rfl in_27 rfl (Nat.succ_pos _) (Sub.refl _) (GExpr.len e0)) ?_
   refine rp rfl rfl (p_move rfl rfl) ?_
   refine bindK H fun r'3 h5 H => ?_
   refine rp rfl rfl (p_callp rfl rfl rfl Tryd.func23 rfl rfl (g_ref_kindOf_ac h5) ⟨rfl, rfl, trivial⟩) ?_
   refine rp rfl rfl (p_ext rfl rfl rfl rfl) ?_
   refine rp rfl rfl (p_ext rfl rfl rfl rfl) ?_
   refine rp rfl rfl (p_ext rfl rfl rfl rfl) ?_
   refine rp rfl rfl (p_asg rfl rfl) ?_
   refine rp rfl rfl (p_asg rfl rfl) ?_
   refine rp rfl rfl (p_asg rfl rfl) ?_
   refine rz [(4, .i r'3.1), (5, .b r'3.2.1), (6, .i r'3.2.2)] [] rfl rfl rfl ?_
   refine AW2_ret ?_
   have hz := some_elim H
   subst hz
   exact ⟨⟨res_tmp (.same _), res_tmp (.same _), res_tmp (.same _), trivial⟩, trivial⟩

/-! chirographref.ConditionFault -/
noncomputable def g_ref_ConditionFault (e0 : GExpr) (cols1 : List GColumn) : Option (Int) :=
  (g_ref_noExpr e0).bind fun r'1 => (if r'1 = true then (g_ref_ColumnsFault cols1).bind fun r'2 => some r'2 else (g_ref_KindOf e0 cols1).bind fun r'3 => (if r'3.2.2 ≠ (0 : Int) then some r'3.2.2 else (if r'3.1 > (1 : Int) then some (2 : Int) else some (0 : Int))))
set_option maxHeartbeats 4000000 in
set_option maxRecDepth 100000 in
theorem g_ref_ConditionFault_ac {e0 : GExpr} {cols1 : List GColumn} {r : Int} (H : g_ref_ConditionFault e0 cols1 = some r) : ACp Tryd.prog 11 [(.agg (GExpr.cs e0)), ((fun q : List GColumn => AV.lst (q.flatMap GColumn.cs) q.length) cols1)] (AV.int r) := by
 refine ACp_of (AC2_of_body (vs := [.i r]) Tryd.func11 rfl rfl (Nat.le_of_ble_eq_true rfl) rfl ?_) (fun _ => .same _)
 unfold g_ref_ConditionFault at H
 refine as2 [(0, .g (GExpr.cs e0)), (1, .p ((fun q : List GColumn => AV.lst (q.flatMap GColumn.cs) q.length) cols1))] [] rfl rfl rfl ?_
 refine sg [0, 1] rfl ?_
 refine r_op rfl rfl (MakeD.opD (n_box 2 rfl rfl) rfl rfl rfl rfl) ?_
 refine rp rfl rfl (p_asg rfl rfl) ?_
 refine rz [(1, .p ((fun q : List GColumn => AV.lst (q.flatMap GColumn.cs) q.length) cols1)), (2, .q 2 (0))] [(2, .pure (GExpr.cs e0))] rfl rfl rfl ?_
 refine AW2_seq ?_
 refine sg [0, 1] rfl ?_
 refine rp rfl rfl (u_lda rfl rfl Tryd.underlying27 rfl in_27 rfl (Nat.succ_pos _) (Sub.refl _) (GExpr.len e0)) ?_
 refine bindK H fun r'1 h1 H => ?_
 refine rp rfl rfl (p_callp rfl rfl rfl Tryd.func25 rfl rfl (g_ref_noExpr_ac h1) ⟨rfl, trivial⟩) ?_
 refine rz [(1, .p ((fun q : List GColumn => AV.lst (q.flatMap GColumn.cs) q.length) cols1)), (2, .q 2 (0)), (9, .b r'1)] [(2, .pure (GExpr.cs e0))] rfl rfl rfl ?_
 refine AW2_cond rfl (fun h2 => ?_) (fun h2 => ?_)
 ·replace H := ite_then h2 H
  refine sg [0, 1, 2] rfl ?_
  refine rp rfl rfl (p_move rfl rfl) ?_
  refine bindK H fun r'2 h3 H => ?_
  refine rp rfl rfl (p_callp rfl rfl rfl Tryd.func22 rfl rfl (g_ref_ColumnsFault_ac h3) ⟨rfl, trivial⟩) ?_
  refine rp rfl rfl (p_asg rfl rfl) ?_
  refine rz [(4, .i r'2)] [] rfl rfl rfl ?_
  refine AW2_ret ?_
  have hz := some_elim H
  subst hz
  exact ⟨⟨res_tmp (.same _), trivial⟩, trivial⟩
 ·replace H := ite_else (ne_true h2) H
  refine as2 [(1, .p ((fun q : List GColumn => AV.lst (q.flatMap GColumn.cs) q.length) cols1)), (2, .q 2 (0))] [(2, .pure (GExpr.cs e0))] rfl rfl rfl ?_
  refine AW2_skip ?_
  refine sg [0, 1, 2, 3, 4, 5, 6, 7, 8, 9] rfl ?_
  refine rp rfl rfl (u_lda rfl rfl Tryd.underlying27 rfl in_27 rfl (Nat.succ_pos _) (Sub.refl _) (GExpr.len e0)) ?_
  refine rp rfl rfl (p_move rfl rfl) ?_
  refine bindK H fun r'3 h4 H => ?_
  refine rp rfl rfl (p_callp rfl rfl rfl Tryd.func9 rfl rfl (g_ref_KindOf_ac h4) ⟨rfl, rfl, trivial⟩) ?_
  refine rp rfl rfl (p_move rfl rfl) ?_
  refine rp rfl rfl (p_ext rfl rfl rfl rfl) ?_
  refine rp rfl rfl (p_ext rfl rfl rfl rfl) ?_
  refine rp rfl rfl (p_ext rfl rfl rfl rfl) ?_
  refine rp rfl rfl (p_asg rfl rfl) ?_
  refine rp rfl rfl (p_asg rfl rfl) ?_
  refine rp rfl rfl (p_asg rfl rfl) ?_
  refine rz [(5, .i r'3.1), (7, .i r'3.2.2)] [] rfl rfl rfl ?_
  refine AW2_seq ?_
  refine sg [0, 1] rfl ?_
  refine rp rfl rfl (p_move rfl rfl) ?_
  refine rp rfl rfl (p_ine rfl rfl rfl) ?_
  refine rz [(5, .i r'3.1), (7, .i r'3.2.2), (20, .b (decide (r'3.2.2 ≠ (0 : Int))))] [] rfl rfl rfl ?_
  refine AW2_if (p := r'3.2.2 ≠ (0 : Int)) rfl (fun h5 => ?_) (fun h5 => ?_)
  ·replace H := ite_then h5 H
   refine sg [0, 1] rfl ?_
   refine rp rfl rfl (p_move rfl rfl) ?_
   refine rp rfl rfl (p_asg rfl rfl) ?_
   refine rz [(4, .i r'3.2.2)] [] rfl rfl rfl ?_
   refine AW2_ret ?_
   have hz := some_elim H
   subst hz
   exact ⟨⟨res_tmp (.same _), trivial⟩, trivial⟩
  ·replace H := ite_else h5 H
   refine as2 [(5, .i r'3.1)] [] rfl rfl rfl ?_
   refine AW2_skip ?_
   refine AW2_seq ?_
   refine sg [0, 1] rfl ?_
   refine rp rfl rfl (p_move rfl rfl) ?_
   refine rp rfl rfl (p_bin rfl rfl rfl rfl) ?_
   refine rz [(23, .b (decide (r'3.1 > (1 : Int))))] [] rfl rfl rfl ?_
   refine AW2_if (p := r'3.1 > (1 : Int)) rfl (fun h6 => ?_) (fun h6 => ?_)
   ·replace H := ite_then h6 H
    refine sg [0] rfl ?_
    refine rp rfl rfl (p_asg rfl rfl) ?_
    refine rz [(4, .i (2 : Int))] [] rfl rfl rfl ?_
    refine AW2_ret ?_
    have hz := some_elim H
    subst hz
    exact ⟨⟨res_tmp (.same _), trivial⟩, trivial⟩
   ·replace H := ite_else h6 H
    refine as2 [] [] rfl rfl rfl ?_
    refine AW2_skip ?_
    refine sg [0] rfl ?_
    refine rp rfl rfl (p_asg rfl rfl) ?_
    refine rz [(4, .i (0 : Int))] [] rfl rfl rfl ?_
    refine AW2_ret ?_
    have hz := some_elim H
    subst hz
    exact ⟨⟨res_tmp (.same _), trivial⟩, trivial⟩

/-! chirographref.itemFault -/
noncomputable def g_ref_itemFault (it0 : GItem) (cols1 : List GColumn) (group2 : List UInt8) : Option (Int) :=
  (if it0.Agg = (1 : Int) then (g_ref_noExpr it0.Expr).bind fun r'1 => (if r'1 = true then some (0 : Int) else some (3 : Int)) else ((if it0.Agg = (0 : Int) then some (decide (it0.Agg = (0 : Int))) else (if it0.Agg = (2 : Int) then some (decide (it0.Agg = (2 : Int))) else (if it0.Agg = (3 : Int) then some (decide (it0.Agg = (3 : Int))) else some (decide (it0.Agg = (4 : Int))))))).bind fun j'2 => (if j'2 = true then (g_ref_KindOf it0.Expr cols1).bind fun r'3 => (if r'3.2.2 ≠ (0 : Int) then some r'3.2.2 else (if ((it0.Agg = (2 : Int)) ∧ (r'3.1 ≠ (2 : Int))) ∧ (r'3.1 ≠ (0 : Int)) then some (2 : Int) else (if ((it0.Agg = (0 : Int)) ∧ (group2 ≠ [])) ∧ ((it0.Expr.Op ≠ (2 : Int)) ∨ (it0.Expr.Name ≠ group2)) then some (3 : Int) else some (0 : Int)))) else some (2 : Int)))
set_option maxHeartbeats 4000000 in
set_option maxRecDepth 100000 in
theorem g_ref_itemFault_ac {it0 : GItem} {cols1 : List GColumn} {group2 : List UInt8} {r : Int} (H : g_ref_itemFault it0 cols1 group2 = some r) : ACp Tryd.prog 28 [(.agg (GItem.cs it0)), ((fun q : List GColumn => AV.lst (q.flatMap GColumn.cs) q.length) cols1), (AV.txt group2)] (AV.int r) := by
 refine ACp_of (AC2_of_body (vs := [.i r]) Tryd.func28 rfl rfl (Nat.le_of_ble_eq_true rfl) rfl ?_) (fun _ => .same _)
 unfold g_ref_itemFault at H
 refine as2 [(0, .g (GItem.cs it0)), (1, .p ((fun q : List GColumn => AV.lst (q.flatMap GColumn.cs) q.length) cols1)), (2, .t group2)] [] rfl rfl rfl ?_
 refine sg [0, 1] rfl ?_
 refine r_op rfl rfl (MakeD.opD (n_box 3 rfl rfl) rfl rfl rfl rfl) ?_
 refine rp rfl rfl (p_asg rfl rfl) ?_
 refine rz [(1, .p ((fun q : List GColumn => AV.lst (q.flatMap GColumn.cs) q.length) cols1)), (2, .t group2), (3, .q 3 (0))] [(3, .pure (GItem.cs it0))] rfl rfl rfl ?_
 refine AW2_seq ?_
 refine sg [0, 1] rfl ?_
 refine rp rfl rfl (u_fa rfl rfl Tryd.underlying61 rfl in_3 (Nat.succ_ne_zero _) rfl rfl (ne_of_lt (n := 0) (Nat.lt_of_lt_of_eq (by decide) (Eq.symm (GItem.len it0))))) ?_
 refine rp rfl rfl (u_ld rfl rfl Tryd.underlying3 rfl rfl ((Sub.refl _).trans (GItem.sub0 it0))) ?_
 refine rz [(1, .p ((fun q : List GColumn => AV.lst (q.flatMap GColumn.cs) q.length) cols1)), (2, .t group2), (3, .q 3 (0)), (11, .i it0.Agg)] [(3, .pure (GItem.cs it0))] rfl rfl rfl ?_
 refine AW2_block ?_
 refine sg [0, 1] rfl ?_
 refine rp rfl rfl (p_ieq rfl rfl rfl) ?_
 refine rp rfl rfl (p_asg rfl rfl) ?_
 refine rz [(1, .p ((fun q : List GColumn => AV.lst (q.flatMap GColumn.cs) q.length) cols1)), (2, .t group2), (3, .q 3 (0)), (11, .i it0.Agg), (12, .b (decide (it0.Agg = (1 : Int))))] [(3, .pure (GItem.cs it0))] rfl rfl rfl ?_
 refine AW2_if (p := it0.Agg = (1 : Int)) rfl (fun h1 => ?_) (fun h1 => ?_)
 ·replace H := ite_then h1 H
  refine AW2_seq ?_
  refine sg [0, 1, 2] rfl ?_
  refine rp rfl rfl (u_fa rfl rfl Tryd.underlying61 rfl in_27 (Nat.succ_ne_zero _) rfl rfl (ne_of_lt (n := 0) (Nat.lt_of_lt_of_eq (by decide) (Eq.symm (GItem.len it0))))) ?_
  refine rp rfl rfl (u_lda rfl rfl Tryd.underlying27 rfl in_27 rfl (Nat.succ_pos _) ((Sub.refl _).trans (GItem.sub1 it0)) (GExpr.len it0.Expr)) ?_
  refine bindK H fun r'1 h2 H => ?_
  refine rp rfl rfl (p_callp rfl rfl rfl Tryd.func25 rfl rfl (g_ref_noExpr_ac h2) ⟨rfl, trivial⟩) ?_
  refine rz [(16, .b r'1)] [] rfl rfl rfl ?_
  refine AW2_cond rfl (fun h3 => ?_) (fun h3 => ?_)
  ·replace H := ite_then h3 H
   refine sg [0] rfl ?_
   refine rp rfl rfl (p_asg rfl rfl) ?_
   refine rz [(6, .i (0 : Int))] [] rfl rfl rfl ?_
   refine AW2_ret ?_
   have hz := some_elim H
   subst hz
   exact ⟨⟨res_tmp (.same _), trivial⟩, trivial⟩
  ·replace H := ite_else (ne_true h3) H
   refine as2 [] [] rfl rfl rfl ?_
   refine AW2_skip ?_
   refine sg [0] rfl ?_
   refine rp rfl rfl (p_asg rfl rfl) ?_
   refine rz [(6, .i (3 : Int))] [] rfl rfl rfl ?_
   refine AW2_ret ?_
   have hz := some_elim H
   subst hz
   exact ⟨⟨res_tmp (.same _), trivial⟩, trivial⟩
 ·replace H := ite_else h1 H
  refine AW2_seq ?_
  refine bindK H fun j'2 h4 H => ?_
  refine AW2_mid (⟨[(1, .p ((fun q : List GColumn => AV.lst (q.flatMap GColumn.cs) q.length) cols1)), (2, .t group2), (3, .q 3 (0)), (17, .b j'2)], [(3, .pure (GItem.cs it0))], 67⟩ : TS) ?_ ?_
  ·clear H
   have H := h4
   clear h4
   refine sg [0, 1] rfl ?_
   refine rp rfl rfl (p_ieq rfl rfl rfl) ?_
   refine rp rfl rfl (p_asg rfl rfl) ?_
   refine rz [(1, .p ((fun q : List GColumn => AV.lst (q.flatMap GColumn.cs) q.length) cols1)), (2, .t group2), (3, .q 3 (0)), (11, .i it0.Agg), (17, .b (decide (it0.Agg = (0 : Int))))] [(3, .pure (GItem.cs it0))] rfl rfl rfl ?_
   refine AW2_if (p := it0.Agg = (0 : Int)) rfl (fun h5 => ?_) (fun h5 => ?_)
   ·replace H := ite_then h5 H
    refine as2 [(1, .p ((fun q : List GColumn => AV.lst (q.flatMap GColumn.cs) q.length) cols1)), (2, .t group2), (3, .q 3 (0)), (17, .b (decide (it0.Agg = (0 : Int))))] [(3, .pure (GItem.cs it0))] rfl rfl rfl ?_
    refine AW2_skip ?_
    have hz := some_elim H
    subst hz
    exact rfl
   ·replace H := ite_else h5 H
    refine sg [0, 1] rfl ?_
    refine rp rfl rfl (p_ieq rfl rfl rfl) ?_
    refine rp rfl rfl (p_asg rfl rfl) ?_
    refine rz [(1, .p ((fun q : List GColumn => AV.lst (q.flatMap GColumn.cs) q.length) cols1)), (2, .t group2), (3, .q 3 (0)), (11, .i it0.Agg), (17, .b (decide (it0.Agg = (2 : Int))))] [(3, .pure (GItem.cs it0))] rfl rfl rfl ?_
    refine AW2_if (p := it0.Agg = (2 : Int)) rfl (fun h6 => ?_) (fun h6 => ?_)
    ·replace H := ite_then h6 H
     refine as2 [(1, .p ((fun q : List GColumn => AV.lst (q.flatMap GColumn.cs) q.length) cols1)), (2, .t group2), (3, .q 3 (0)), (17, .b (decide (it0.Agg = (2 : Int))))] [(3, .pure (GItem.cs it0))] rfl rfl rfl ?_
     refine AW2_skip ?_
     have hz := some_elim H
     subst hz
     exact rfl
    ·replace H := ite_else h6 H
     refine sg [0, 1] rfl ?_
     refine rp rfl rfl (p_ieq rfl rfl rfl) ?_
     refine rp rfl rfl (p_asg rfl rfl) ?_
     refine rz [(1, .p ((fun q : List GColumn => AV.lst (q.flatMap GColumn.cs) q.length) cols1)), (2, .t group2), (3, .q 3 (0)), (11, .i it0.Agg), (17, .b (decide (it0.Agg = (3 : Int))))] [(3, .pure (GItem.cs it0))] rfl rfl rfl ?_
     refine AW2_if (p := it0.Agg = (3 : Int)) rfl (fun h7 => ?_) (fun h7 => ?_)
     ·replace H := ite_then h7 H
      refine as2 [(1, .p ((fun q : List GColumn => AV.lst (q.flatMap GColumn.cs) q.length) cols1)), (2, .t group2), (3, .q 3 (0)), (17, .b (decide (it0.Agg = (3 : Int))))] [(3, .pure (GItem.cs it0))] rfl rfl rfl ?_
      refine AW2_skip ?_
      have hz := some_elim H
      subst hz
      exact rfl
     ·replace H := ite_else h7 H
      refine AW2_reg [0, 1] rfl ?_
      refine rp rfl rfl (p_ieq rfl rfl rfl) ?_
      refine rp rfl rfl (p_asg rfl rfl) ?_
      refine rz [(1, .p ((fun q : List GColumn => AV.lst (q.flatMap GColumn.cs) q.length) cols1)), (2, .t group2), (3, .q 3 (0)), (17, .b (decide (it0.Agg = (4 : Int))))] [(3, .pure (GItem.cs it0))] rfl rfl rfl ?_
      have hz := some_elim H
      subst hz
      exact rfl
  ·refine AW2_cond rfl (fun h8 => ?_) (fun h8 => ?_)
   ·replace H := ite_then h8 H
    refine as2 [(1, .p ((fun q : List GColumn => AV.lst (q.flatMap GColumn.cs) q.length) cols1)), (2, .t group2), (3, .q 3 (0))] [(3, .pure (GItem.cs it0))] rfl rfl rfl ?_
    refine AW2_skip ?_
    refine sg [0, 1, 2, 3, 4, 5, 6, 7, 8, 9, 10] rfl ?_
    refine rp rfl rfl (u_fa rfl rfl Tryd.underlying61 rfl in_27 (Nat.succ_ne_zero _) rfl rfl (ne_of_lt (n := 0) (Nat.lt_of_lt_of_eq (by decide) (Eq.symm (GItem.len it0))))) ?_
    refine rp rfl rfl (u_lda rfl rfl Tryd.underlying27 rfl in_27 rfl (Nat.succ_pos _) ((Sub.refl _).trans (GItem.sub1 it0)) (GExpr.len it0.Expr)) ?_
    refine rp rfl rfl (p_move rfl rfl) ?_
    refine bindK H fun r'3 h9 H => ?_
    refine rp rfl rfl (p_callp rfl rfl rfl Tryd.func9 rfl rfl (g_ref_KindOf_ac h9) ⟨rfl, rfl, trivial⟩) ?_
    refine rp rfl rfl (p_move rfl rfl) ?_
    refine rp rfl rfl (p_ext rfl rfl rfl rfl) ?_
    refine rp rfl rfl (p_ext rfl rfl rfl rfl) ?_
    refine rp rfl rfl (p_ext rfl rfl rfl rfl) ?_
    refine rp rfl rfl (p_asg rfl rfl) ?_
    refine rp rfl rfl (p_asg rfl rfl) ?_
    refine rp rfl rfl (p_asg rfl rfl) ?_
    refine rz [(2, .t group2), (3, .q 3 (0)), (7, .i r'3.1), (9, .i r'3.2.2)] [(3, .pure (GItem.cs it0))] rfl rfl rfl ?_
    refine AW2_seq ?_
    refine AW2_block ?_
    refine sg [0, 1, 2] rfl ?_
    refine rp rfl rfl (p_move rfl rfl) ?_
    refine rp rfl rfl (p_ine rfl rfl rfl) ?_
    refine rp rfl rfl (p_asg rfl rfl) ?_
    refine rz [(2, .t group2), (3, .q 3 (0)), (7, .i r'3.1), (9, .i r'3.2.2), (30, .b (decide (r'3.2.2 ≠ (0 : Int))))] [(3, .pure (GItem.cs it0))] rfl rfl rfl ?_
    refine AW2_if (p := r'3.2.2 ≠ (0 : Int)) rfl (fun h10 => ?_) (fun h10 => ?_)
    ·replace H := ite_then h10 H
     refine sg [0, 1] rfl ?_
     refine rp rfl rfl (p_move rfl rfl) ?_
     refine rp rfl rfl (p_asg rfl rfl) ?_
     refine rz [(6, .i r'3.2.2)] [] rfl rfl rfl ?_
     refine AW2_ret ?_
     have hz := some_elim H
     subst hz
     exact ⟨⟨res_tmp (.same _), trivial⟩, trivial⟩
    ·replace H := ite_else h10 H
     refine AW2_seq ?_
     refine AW2_mid (⟨[(2, .t group2), (3, .q 3 (0)), (34, .b (decide (((it0.Agg = (2 : Int)) ∧ (r'3.1 ≠ (2 : Int))) ∧ (r'3.1 ≠ (0 : Int)))))], [(3, .pure (GItem.cs it0))], 67⟩ : TS) ?_ ?_
     ·refine AW2_reg [0, 1, 2, 3, 4, 5, 6, 7, 8, 9, 10, 11] rfl ?_
      refine rp rfl rfl (u_fa rfl rfl Tryd.underlying61 rfl in_3 (Nat.succ_ne_zero _) rfl rfl (ne_of_lt (n := 0) (Nat.lt_of_lt_of_eq (by decide) (Eq.symm (GItem.len it0))))) ?_
      refine rp rfl rfl (u_ld rfl rfl Tryd.underlying3 rfl rfl ((Sub.refl _).trans (GItem.sub0 it0))) ?_
      refine rp rfl rfl (p_ieq rfl rfl rfl) ?_
      refine rp rfl rfl (p_move rfl rfl) ?_
      refine (Classical.em (it0.Agg = (2 : Int))).elim (fun h11 => ?_) (fun h11 => ?_)
      ·refine r_on rfl rfl rfl rfl (decide_eq_true h11) rfl (PureD.opD (p_move rfl rfl)) ?_
       refine r_on rfl rfl rfl rfl (decide_eq_true h11) rfl (PureD.opD (p_ine rfl rfl rfl)) ?_
       refine rp rfl rfl (p_pkt rfl rfl (decide_eq_true h11) (tb ((and_l (p := it0.Agg = (2 : Int)) (q := r'3.1 ≠ (2 : Int)) h11)))) ?_
       refine rp rfl rfl (p_move rfl rfl) ?_
       refine (Classical.em (r'3.1 ≠ (2 : Int))).elim (fun h12 => ?_) (fun h12 => ?_)
       ·refine r_on rfl rfl rfl rfl (decide_eq_true (p := (it0.Agg = (2 : Int)) ∧ (r'3.1 ≠ (2 : Int))) ⟨h11, h12⟩) rfl (PureD.opD (p_move rfl rfl)) ?_
        refine r_on rfl rfl rfl rfl (decide_eq_true (p := (it0.Agg = (2 : Int)) ∧ (r'3.1 ≠ (2 : Int))) ⟨h11, h12⟩) rfl (PureD.opD (p_ine rfl rfl rfl)) ?_
        refine rp rfl rfl (p_pkt rfl rfl (decide_eq_true (p := (it0.Agg = (2 : Int)) ∧ (r'3.1 ≠ (2 : Int))) ⟨h11, h12⟩) (tb ((and_l (p := (it0.Agg = (2 : Int)) ∧ (r'3.1 ≠ (2 : Int))) (q := r'3.1 ≠ (0 : Int)) ⟨h11, h12⟩)))) ?_
        refine rp rfl rfl (p_asg rfl rfl) ?_
        refine rs [(2, .t group2), (3, .q 3 (0)), (34, .b (decide (((it0.Agg = (2 : Int)) ∧ (r'3.1 ≠ (2 : Int))) ∧ (r'3.1 ≠ (0 : Int)))))] [(3, .pure (GItem.cs it0))] rfl rfl rfl ?_
        exact RunW_nil rfl
       ·refine r_off rfl rfl rfl rfl (decide_eq_false (p := (it0.Agg = (2 : Int)) ∧ (r'3.1 ≠ (2 : Int))) (fun h => h12 h.2)) rfl rfl ?_
        refine r_off rfl rfl rfl rfl (decide_eq_false (p := (it0.Agg = (2 : Int)) ∧ (r'3.1 ≠ (2 : Int))) (fun h => h12 h.2)) rfl rfl ?_
        refine rp rfl rfl (p_pkf rfl rfl (decide_eq_false (p := (it0.Agg = (2 : Int)) ∧ (r'3.1 ≠ (2 : Int))) (fun h => h12 h.2)) (tb (decide_eq_false (p := ((it0.Agg = (2 : Int)) ∧ (r'3.1 ≠ (2 : Int))) ∧ (r'3.1 ≠ (0 : Int))) (fun x => (fun h => h12 h.2) x.1)).symm)) ?_
        refine rp rfl rfl (p_asg rfl rfl) ?_
        refine rs [(2, .t group2), (3, .q 3 (0)), (34, .b (decide (((it0.Agg = (2 : Int)) ∧ (r'3.1 ≠ (2 : Int))) ∧ (r'3.1 ≠ (0 : Int)))))] [(3, .pure (GItem.cs it0))] rfl rfl rfl ?_
        exact RunW_nil rfl
      ·refine r_off rfl rfl rfl rfl (decide_eq_false h11) rfl rfl ?_
       refine r_off rfl rfl rfl rfl (decide_eq_false h11) rfl rfl ?_
       refine rp rfl rfl (p_pkf rfl rfl (decide_eq_false h11) (tb (decide_eq_false (p := (it0.Agg = (2 : Int)) ∧ (r'3.1 ≠ (2 : Int))) (fun x => h11 x.1)).symm)) ?_
       refine rp rfl rfl (p_move rfl rfl) ?_
       refine r_off rfl rfl rfl rfl (decide_eq_false (p := (it0.Agg = (2 : Int)) ∧ (r'3.1 ≠ (2 : Int))) (fun h => h11 h.1)) rfl rfl ?_
       refine r_off rfl rfl rfl rfl (decide_eq_false (p := (it0.Agg = (2 : Int)) ∧ (r'3.1 ≠ (2 : Int))) (fun h => h11 h.1)) rfl rfl ?_
       refine rp rfl rfl (p_pkf rfl rfl (decide_eq_false (p := (it0.Agg = (2 : Int)) ∧ (r'3.1 ≠ (2 : Int))) (fun h => h11 h.1)) (tb (decide_eq_false (p := ((it0.Agg = (2 : Int)) ∧ (r'3.1 ≠ (2 : Int))) ∧ (r'3.1 ≠ (0 : Int))) (fun x => (fun h => h11 h.1) x.1)).symm)) ?_
       refine rp rfl rfl (p_asg rfl rfl) ?_
       refine rs [(2, .t group2), (3, .q 3 (0)), (34, .b (decide (((it0.Agg = (2 : Int)) ∧ (r'3.1 ≠ (2 : Int))) ∧ (r'3.1 ≠ (0 : Int)))))] [(3, .pure (GItem.cs it0))] rfl rfl rfl ?_
       exact RunW_nil rfl
     ·refine AW2_if (p := ((it0.Agg = (2 : Int)) ∧ (r'3.1 ≠ (2 : Int))) ∧ (r'3.1 ≠ (0 : Int))) rfl (fun h13 => ?_) (fun h13 => ?_)
      ·replace H := ite_then h13 H
       refine sg [0] rfl ?_
       refine rp rfl rfl (p_asg rfl rfl) ?_
       refine rz [(6, .i (2 : Int))] [] rfl rfl rfl ?_
       refine AW2_ret ?_
       have hz := some_elim H
       subst hz
       exact ⟨⟨res_tmp (.same _), trivial⟩, trivial⟩
      ·replace H := ite_else h13 H
       refine AW2_seq ?_
       refine AW2_mid (⟨[(46, .b (decide (((it0.Agg = (0 : Int)) ∧ (group2 ≠ [])) ∧ ((it0.Expr.Op ≠ (2 : Int)) ∨ (it0.Expr.Name ≠ group2)))))], [], 67⟩ : TS) ?_ ?_
       ·refine AW2_reg [0, 1, 2, 3, 4, 5, 6, 7, 8, 9, 10, 11, 12, 13, 14, 15, 16, 17, 18, 19, 20] rfl ?_
        refine rp rfl rfl (u_fa rfl rfl Tryd.underlying61 rfl in_3 (Nat.succ_ne_zero _) rfl rfl (ne_of_lt (n := 0) (Nat.lt_of_lt_of_eq (by decide) (Eq.symm (GItem.len it0))))) ?_
        refine rp rfl rfl (u_ld rfl rfl Tryd.underlying3 rfl rfl ((Sub.refl _).trans (GItem.sub0 it0))) ?_
        refine rp rfl rfl (p_ieq rfl rfl rfl) ?_
        refine rp rfl rfl (p_move rfl rfl) ?_
        refine (Classical.em (it0.Agg = (0 : Int))).elim (fun h14 => ?_) (fun h14 => ?_)
        ·refine r_on rfl rfl rfl rfl (decide_eq_true h14) rfl (PureD.opD (p_move rfl rfl)) ?_
         refine r_on rfl rfl rfl rfl (decide_eq_true h14) rfl (PureD.opD (p_sne rfl rfl rfl)) ?_
         refine rp rfl rfl (p_pkt rfl rfl (decide_eq_true h14) (tb ((and_l (p := it0.Agg = (0 : Int)) (q := group2 ≠ []) h14)))) ?_
         refine rp rfl rfl (p_move rfl rfl) ?_
         refine (Classical.em (group2 ≠ [])).elim (fun h15 => ?_) (fun h15 => ?_)
         ·refine r_on rfl rfl rfl rfl (decide_eq_true (p := (it0.Agg = (0 : Int)) ∧ (group2 ≠ [])) ⟨h14, h15⟩) rfl (PureD.opD (u_fa rfl rfl Tryd.underlying61 rfl in_27 (Nat.succ_ne_zero _) rfl rfl (ne_of_lt (n := 0) (Nat.lt_of_lt_of_eq (by decide) (Eq.symm (GItem.len it0)))))) ?_
          refine r_on rfl rfl rfl rfl (decide_eq_true (p := (it0.Agg = (0 : Int)) ∧ (group2 ≠ [])) ⟨h14, h15⟩) rfl (PureD.opD (u_fa rfl rfl Tryd.underlying27 rfl in_3 (Nat.succ_ne_zero _) rfl rfl (ne_of_lt (n := 0) (Nat.lt_of_lt_of_eq (by decide) (Eq.symm (GItem.len it0)))))) ?_
          refine r_on rfl rfl rfl rfl (decide_eq_true (p := (it0.Agg = (0 : Int)) ∧ (group2 ≠ [])) ⟨h14, h15⟩) rfl (PureD.opD (u_ld rfl rfl Tryd.underlying3 rfl rfl (((Sub.refl _).trans (GItem.sub1 it0)).trans (GExpr.sub0 it0.Expr)))) ?_
          refine r_on rfl rfl rfl rfl (decide_eq_true (p := (it0.Agg = (0 : Int)) ∧ (group2 ≠ [])) ⟨h14, h15⟩) rfl (PureD.opD (p_ine rfl rfl rfl)) ?_
          refine r_on rfl rfl rfl rfl (decide_eq_true (p := (it0.Agg = (0 : Int)) ∧ (group2 ≠ [])) ⟨h14, h15⟩) rfl (PureD.opD (p_move rfl rfl)) ?_
          refine (Classical.em (it0.Expr.Op ≠ (2 : Int))).elim (fun h16 => ?_) (fun h16 => ?_)
          ·refine r_off rfl rfl rfl rfl (decide_eq_true h16) rfl rfl ?_
           refine r_off rfl rfl rfl rfl (decide_eq_true h16) rfl rfl ?_
           refine r_off rfl rfl rfl rfl (decide_eq_true h16) rfl rfl ?_
           refine r_off rfl rfl rfl rfl (decide_eq_true h16) rfl rfl ?_
           refine r_off rfl rfl rfl rfl (decide_eq_true h16) rfl rfl ?_
           refine r_on rfl rfl rfl rfl (decide_eq_true (p := (it0.Agg = (0 : Int)) ∧ (group2 ≠ [])) ⟨h14, h15⟩) rfl (PureD.opD (p_pkt rfl rfl (decide_eq_true h16) (tb (decide_eq_true (p := (it0.Expr.Op ≠ (2 : Int)) ∨ (it0.Expr.Name ≠ group2)) (Or.inl h16)).symm))) ?_
           refine rp rfl rfl (p_pkt rfl rfl (decide_eq_true (p := (it0.Agg = (0 : Int)) ∧ (group2 ≠ [])) ⟨h14, h15⟩) (tb ((and_l (p := (it0.Agg = (0 : Int)) ∧ (group2 ≠ [])) (q := (it0.Expr.Op ≠ (2 : Int)) ∨ (it0.Expr.Name ≠ group2)) ⟨h14, h15⟩)))) ?_
           refine rp rfl rfl (p_asg rfl rfl) ?_
           refine rs [(46, .b (decide (((it0.Agg = (0 : Int)) ∧ (group2 ≠ [])) ∧ ((it0.Expr.Op ≠ (2 : Int)) ∨ (it0.Expr.Name ≠ group2)))))] [] rfl rfl rfl ?_
           exact RunW_nil rfl
          ·refine r_on rfl rfl rfl rfl (decide_eq_false h16) rfl (PureD.opD (u_fa rfl rfl Tryd.underlying61 rfl in_27 (Nat.succ_ne_zero _) rfl rfl (ne_of_lt (n := 0) (Nat.lt_of_lt_of_eq (by decide) (Eq.symm (GItem.len it0)))))) ?_
           refine r_on rfl rfl rfl rfl (decide_eq_false h16) rfl (PureD.opD (u_fa rfl rfl Tryd.underlying27 rfl in_9 (Nat.succ_ne_zero _) rfl rfl (ne_of_lt (n := 0) (Nat.lt_of_lt_of_eq (by decide) (Eq.symm (GItem.len it0)))))) ?_
           refine r_on rfl rfl rfl rfl (decide_eq_false h16) rfl (PureD.opD (u_ld rfl rfl Tryd.underlying9 rfl rfl (((Sub.refl _).trans (GItem.sub1 it0)).trans (GExpr.sub2 it0.Expr)))) ?_
           refine r_on rfl rfl rfl rfl (decide_eq_false h16) rfl (PureD.opD (p_move rfl rfl)) ?_
           refine r_on rfl rfl rfl rfl (decide_eq_false h16) rfl (PureD.opD (p_sne rfl rfl rfl)) ?_
           refine r_on rfl rfl rfl rfl (decide_eq_true (p := (it0.Agg = (0 : Int)) ∧ (group2 ≠ [])) ⟨h14, h15⟩) rfl (PureD.opD (p_pkf rfl rfl (decide_eq_false h16) (tb ((or_l (p := it0.Expr.Op ≠ (2 : Int)) (q := it0.Expr.Name ≠ group2) h16))))) ?_
           refine rp rfl rfl (p_pkt rfl rfl (decide_eq_true (p := (it0.Agg = (0 : Int)) ∧ (group2 ≠ [])) ⟨h14, h15⟩) (tb ((and_l (p := (it0.Agg = (0 : Int)) ∧ (group2 ≠ [])) (q := (it0.Expr.Op ≠ (2 : Int)) ∨ (it0.Expr.Name ≠ group2)) ⟨h14, h15⟩)))) ?_
           refine rp rfl rfl (p_asg rfl rfl) ?_
           refine rs [(46, .b (decide (((it0.Agg = (0 : Int)) ∧ (group2 ≠ [])) ∧ ((it0.Expr.Op ≠ (2 : Int)) ∨ (it0.Expr.Name ≠ group2)))))] [] rfl rfl rfl ?_
           exact RunW_nil rfl
         ·refine r_off rfl rfl rfl rfl (decide_eq_false (p := (it0.Agg = (0 : Int)) ∧ (group2 ≠ [])) (fun h => h15 h.2)) rfl rfl ?_
          refine r_off rfl rfl rfl rfl (decide_eq_false (p := (it0.Agg = (0 : Int)) ∧ (group2 ≠ [])) (fun h => h15 h.2)) rfl rfl ?_
          refine r_off rfl rfl rfl rfl (decide_eq_false (p := (it0.Agg = (0 : Int)) ∧ (group2 ≠ [])) (fun h => h15 h.2)) rfl rfl ?_
          refine r_off rfl rfl rfl rfl (decide_eq_false (p := (it0.Agg = (0 : Int)) ∧ (group2 ≠ [])) (fun h => h15 h.2)) rfl rfl ?_
          refine r_off rfl rfl rfl rfl (decide_eq_false (p := (it0.Agg = (0 : Int)) ∧ (group2 ≠ [])) (fun h => h15 h.2)) rfl rfl ?_
          refine r_off2 rfl rfl rfl rfl rfl rfl ?_
          refine r_off2 rfl rfl rfl rfl rfl rfl ?_
          refine r_off2 rfl rfl rfl rfl rfl rfl ?_
          refine r_off2 rfl rfl rfl rfl rfl rfl ?_
          refine r_off2 rfl rfl rfl rfl rfl rfl ?_
          refine r_off rfl rfl rfl rfl (decide_eq_false (p := (it0.Agg = (0 : Int)) ∧ (group2 ≠ [])) (fun h => h15 h.2)) rfl rfl ?_
          refine rp rfl rfl (p_pkf rfl rfl (decide_eq_false (p := (it0.Agg = (0 : Int)) ∧ (group2 ≠ [])) (fun h => h15 h.2)) (tb (decide_eq_false (p := ((it0.Agg = (0 : Int)) ∧ (group2 ≠ [])) ∧ ((it0.Expr.Op ≠ (2 : Int)) ∨ (it0.Expr.Name ≠ group2))) (fun x => (fun h => h15 h.2) x.1)).symm)) ?_
          refine rp rfl rfl (p_asg rfl rfl) ?_
          refine rs [(46, .b (decide (((it0.Agg = (0 : Int)) ∧ (group2 ≠ [])) ∧ ((it0.Expr.Op ≠ (2 : Int)) ∨ (it0.Expr.Name ≠ group2)))))] [] rfl rfl rfl ?_
          exact RunW_nil rfl
        ·refine r_off rfl rfl rfl rfl (decide_eq_false h14) rfl rfl ?_
         refine r_off rfl rfl rfl rfl (decide_eq_false h14) rfl rfl ?_
         refine rp rfl rfl (p_pkf rfl rfl (decide_eq_false h14) (tb (decide_eq_false (p := (it0.Agg = (0 : Int)) ∧ (group2 ≠ [])) (fun x => h14 x.1)).symm)) ?_
         refine rp rfl rfl (p_move rfl rfl) ?_
         refine r_off rfl rfl rfl rfl (decide_eq_false (p := (it0.Agg = (0 : Int)) ∧ (group2 ≠ [])) (fun h => h14 h.1)) rfl rfl ?_
         refine r_off rfl rfl rfl rfl (decide_eq_false (p := (it0.Agg = (0 : Int)) ∧ (group2 ≠ [])) (fun h => h14 h.1)) rfl rfl ?_
         refine r_off rfl rfl rfl rfl (decide_eq_false (p := (it0.Agg = (0 : Int)) ∧ (group2 ≠ [])) (fun h => h14 h.1)) rfl rfl ?_
         refine r_off rfl rfl rfl rfl (decide_eq_false (p := (it0.Agg = (0 : Int)) ∧ (group2 ≠ [])) (fun h => h14 h.1)) rfl rfl ?_
         refine r_off rfl rfl rfl rfl (decide_eq_false (p := (it0.Agg = (0 : Int)) ∧ (group2 ≠ [])) (fun h => h14 h.1)) rfl rfl ?_
         refine r_off2 rfl rfl rfl rfl rfl rfl ?_
         refine r_off2 rfl rfl rfl rfl rfl rfl ?_
         refine r_off2 rfl rfl rfl rfl rfl rfl ?_
         refine r_off2 rfl rfl rfl rfl rfl rfl ?_
         refine r_off2 rfl rfl rfl rfl rfl rfl ?_
         refine r_off rfl rfl rfl rfl (decide_eq_false (p := (it0.Agg = (0 : Int)) ∧ (group2 ≠ [])) (fun h => h14 h.1)) rfl rfl ?_
         refine rp rfl rfl (p_pkf rfl rfl (decide_eq_false (p := (it0.Agg = (0 : Int)) ∧ (group2 ≠ [])) (fun h => h14 h.1)) (tb (decide_eq_false (p := ((it0.Agg = (0 : Int)) ∧ (group2 ≠ [])) ∧ ((it0.Expr.Op ≠ (2 : Int)) ∨ (it0.Expr.Name ≠ group2))) (fun x => (fun h => h14 h.1) x.1)).symm)) ?_
         refine rp rfl rfl (p_asg rfl rfl) ?_
         refine rs [(46, .b (decide (((it0.Agg = (0 : Int)) ∧ (group2 ≠ [])) ∧ ((it0.Expr.Op ≠ (2 : Int)) ∨ (it0.Expr.Name ≠ group2)))))] [] rfl rfl rfl ?_
         exact RunW_nil rfl
       ·refine AW2_if (p := ((it0.Agg = (0 : Int)) ∧ (group2 ≠ [])) ∧ ((it0.Expr.Op ≠ (2 : Int)) ∨ (it0.Expr.Name ≠ group2))) rfl (fun h17 => ?_) (fun h17 => ?_)
        ·replace H := ite_then h17 H
         refine sg [0] rfl ?_
         refine rp rfl rfl (p_asg rfl rfl) ?_
         refine rz [(6, .i (3 : Int))] [] rfl rfl rfl ?_
         refine AW2_ret ?_
         have hz := some_elim H
         subst hz
         exact ⟨⟨res_tmp (.same _), trivial⟩, trivial⟩
        ·replace H := ite_else h17 H
         refine as2 [] [] rfl rfl rfl ?_
         refine AW2_skip ?_
         refine sg [0] rfl ?_
         refine rp rfl rfl (p_asg rfl rfl) ?_
         refine rz [(6, .i (0 : Int))] [] rfl rfl rfl ?_
         refine AW2_ret ?_
         have hz := some_elim H
         subst hz
         exact ⟨⟨res_tmp (.same _), trivial⟩, trivial⟩
   ·replace H := ite_else (ne_true h8) H
    refine sg [0] rfl ?_
    refine rp rfl rfl (p_asg rfl rfl) ?_
    refine rz [(6, .i (2 : Int))] [] rfl rfl rfl ?_
    refine AW2_ret ?_
    have hz := some_elim H
    subst hz
    exact ⟨⟨res_tmp (.same _), trivial⟩, trivial⟩

/-! chirographref.QueryFault -/
noncomputable def g_ref_QueryFault_l0 (cols0 : List GColumn) (q1 : GQuery) : Int × Int → Option ((Int × Int) ⊕ (Int ⊕ Int))
  | (plain7_0, t54_0) => (if t54_0 < (q1.Items.length : Int) then (show Option (Int ⊕ Int) from if 0 ≤ t54_0 ∧ t54_0 < (q1.Items.length : Int) then (g_ref_itemFault (lrd q1.Items t54_0.toNat) cols0 q1.Group).bind fun r'7 => (if r'7 ≠ (0 : Int) then some (.inl r'7) else (if (lrd q1.Items t54_0.toNat).Agg = (0 : Int) then some (.inr (w64 (plain7_0 + (1 : Int)))) else some (.inr plain7_0))) else none).bind fun o'9 => match o'9 with | .inl y'8 => some (.inr (.inl y'8)) | .inr j'6 => some (.inl (j'6, w64 (t54_0 + (1 : Int)))) else some (.inr (.inr plain7_0)))
noncomputable def g_ref_QueryFault_l1 (q1 : GQuery) : Int → Option (Int ⊕ (Int ⊕ Unit))
  | t89_1 => (if t89_1 < (q1.Sorts.length : Int) then if 0 ≤ t89_1 ∧ t89_1 < (q1.Sorts.length : Int) then (if ((lrd q1.Sorts t89_1.toNat).Item ≤ (0 : Int)) ∨ ((lrd q1.Sorts t89_1.toNat).Item > (q1.Items.length : Int)) then some (.inr (.inl (6 : Int))) else some (.inl (w64 (t89_1 + (1 : Int))))) else none else some (.inr (.inr ())))
noncomputable def g_ref_QueryFault (cols0 : List GColumn) (q1 : GQuery) : Option (Int) :=
  (g_ref_ColumnsFault cols0).bind fun r'1 => (if r'1 ≠ (0 : Int) then some r'1 else (if (((q1.Items.length : Int) = (0 : Int)) ∨ ((q1.Items.length : Int) > (4 : Int))) ∨ ((q1.Sorts.length : Int) > (4 : Int)) then some (1 : Int) else (g_ref_ConditionFault q1.Where cols0).bind fun r'2 => (if r'2 ≠ (0 : Int) then some r'2 else ((if q1.Group ≠ [] then (g_ref_columnAt cols0 q1.Group).bind fun r'4 => some (decide (r'4 < (0 : Int))) else some false)).bind fun g'5 => (if g'5 = true then some (5 : Int) else (loopO (g_ref_QueryFault_l0 cols0 q1) ((0 : Int), (0 : Int))).bind fun o'13 => match o'13 with | .inl y'14 => some y'14 | .inr (y'15) => (if ((q1.Group = []) ∧ (y'15 > (0 : Int))) ∧ (y'15 < (q1.Items.length : Int)) then some (3 : Int) else (loopO (g_ref_QueryFault_l1 q1) (0 : Int)).bind fun o'19 => match o'19 with | .inl y'20 => some y'20 | .inr (y'21) => (if (q1.Most < (0 : Int)) ∨ ((q1.Most > (0 : Int)) ∧ ((!q1.Cut) = true)) then some (6 : Int) else some (0 : Int)))))))
set_option maxHeartbeats 4000000 in
set_option maxRecDepth 100000 in
theorem g_ref_QueryFault_ac {cols0 : List GColumn} {q1 : GQuery} {r : Int} (H : g_ref_QueryFault cols0 q1 = some r) : ACp Tryd.prog 13 [((fun q : List GColumn => AV.lst (q.flatMap GColumn.cs) q.length) cols0), (.agg (GQuery.cs q1))] (AV.int r) := by
 refine ACp_of (AC2_of_body (vs := [.i r]) Tryd.func13 rfl rfl (Nat.le_of_ble_eq_true rfl) rfl ?_) (fun _ => .same _)
 unfold g_ref_QueryFault at H
 refine as2 [(0, .p ((fun q : List GColumn => AV.lst (q.flatMap GColumn.cs) q.length) cols0)), (1, .g (GQuery.cs q1))] [] rfl rfl rfl ?_
 refine sg [0, 1] rfl ?_
 refine r_op rfl rfl (MakeD.opD (n_box 3 rfl rfl) rfl rfl rfl rfl) ?_
 refine rp rfl rfl (p_asg rfl rfl) ?_
 refine rz [(0, .p ((fun q : List GColumn => AV.lst (q.flatMap GColumn.cs) q.length) cols0)), (3, .q 3 (0))] [(3, .pure (GQuery.cs q1))] rfl rfl rfl ?_
 refine AW2_seq ?_
 refine sg [0, 1, 2] rfl ?_
 refine rp rfl rfl (p_move rfl rfl) ?_
 refine bindK H fun r'1 h1 H => ?_
 refine rp rfl rfl (p_callp rfl rfl rfl Tryd.func22 rfl rfl (g_ref_ColumnsFault_ac h1) ⟨rfl, trivial⟩) ?_
 refine rp rfl rfl (p_asg rfl rfl) ?_
 refine rz [(0, .p ((fun q : List GColumn => AV.lst (q.flatMap GColumn.cs) q.length) cols0)), (3, .q 3 (0)), (5, .i r'1)] [(3, .pure (GQuery.cs q1))] rfl rfl rfl ?_
 refine sg [0, 1] rfl ?_
 refine rp rfl rfl (p_move rfl rfl) ?_
 refine rp rfl rfl (p_ine rfl rfl rfl) ?_
 refine rz [(0, .p ((fun q : List GColumn => AV.lst (q.flatMap GColumn.cs) q.length) cols0)), (3, .q 3 (0)), (5, .i r'1), (16, .b (decide (r'1 ≠ (0 : Int))))] [(3, .pure (GQuery.cs q1))] rfl rfl rfl ?_
 refine AW2_if (p := r'1 ≠ (0 : Int)) rfl (fun h2 => ?_) (fun h2 => ?_)
 ·replace H := ite_then h2 H
  refine sg [0, 1] rfl ?_
  refine rp rfl rfl (p_move rfl rfl) ?_
  refine rp rfl rfl (p_asg rfl rfl) ?_
  refine rz [(4, .i r'1)] [] rfl rfl rfl ?_
  refine AW2_ret ?_
  have hz := some_elim H
  subst hz
  exact ⟨⟨res_tmp (.same _), trivial⟩, trivial⟩
 ·replace H := ite_else h2 H
  refine as2 [(0, .p ((fun q : List GColumn => AV.lst (q.flatMap GColumn.cs) q.length) cols0)), (3, .q 3 (0))] [(3, .pure (GQuery.cs q1))] rfl rfl rfl ?_
  refine AW2_skip ?_
  refine AW2_seq ?_
  refine AW2_seq ?_
  refine AW2_mid (⟨[(0, .p ((fun q : List GColumn => AV.lst (q.flatMap GColumn.cs) q.length) cols0)), (3, .q 3 (0)), (33, .b (decide ((((q1.Items.length : Int) = (0 : Int)) ∨ ((q1.Items.length : Int) > (4 : Int))) ∨ ((q1.Sorts.length : Int) > (4 : Int)))))], [(3, .pure (GQuery.cs q1))], 118⟩ : TS) ?_ ?_
  ·refine AW2_reg [0, 1, 2, 3, 4, 5, 6, 7, 8, 9, 10, 11, 12, 13, 14, 15] rfl ?_
   refine rp rfl rfl (u_fa rfl rfl Tryd.underlying37 rfl in_34 (Nat.succ_ne_zero _) rfl rfl (ne_of_lt (n := 0) (Nat.lt_of_lt_of_eq (by decide) (Eq.symm (GQuery.len q1))))) ?_
   refine rp rfl rfl (u_ld rfl rfl Tryd.underlying34 rfl rfl ((Sub.refl _).trans (GQuery.sub0 q1))) ?_
   refine rp rfl rfl (p_lenl rfl Tryd.underlying34 rfl rfl) ?_
   refine rp rfl rfl (p_ieq rfl rfl rfl) ?_
   refine rp rfl rfl (p_move rfl rfl) ?_
   refine (Classical.em ((q1.Items.length : Int) = (0 : Int))).elim (fun h3 => ?_) (fun h3 => ?_)
   ·iterate 4 (refine r_off rfl rfl rfl rfl (decide_eq_true h3) rfl rfl ?_)
    have qq1 := decide_eq_true (p := ((q1.Items.length : Int) = (0 : Int)) ∨ ((q1.Items.length : Int) > (4 : Int))) (Or.inl h3)
    refine rp rfl rfl (p_pkt rfl rfl (decide_eq_true h3) (tb qq1.symm)) ?_
    refine rp rfl rfl (p_move rfl rfl) ?_
    iterate 4 (refine r_off rfl rfl rfl rfl qq1 rfl rfl ?_)
    refine rp rfl rfl (p_pkt rfl rfl qq1 (tb (decide_eq_true (p := (((q1.Items.length : Int) = (0 : Int)) ∨ ((q1.Items.length : Int) > (4 : Int))) ∨ ((q1.Sorts.length : Int) > (4 : Int))) (Or.inl (Or.inl h3))).symm)) ?_
    refine rs [(0, .p ((fun q : List GColumn => AV.lst (q.flatMap GColumn.cs) q.length) cols0)), (3, .q 3 (0)), (33, .b (decide ((((q1.Items.length : Int) = (0 : Int)) ∨ ((q1.Items.length : Int) > (4 : Int))) ∨ ((q1.Sorts.length : Int) > (4 : Int)))))] [(3, .pure (GQuery.cs q1))] rfl rfl rfl ?_
    exact RunW_nil rfl
   ·refine r_on rfl rfl rfl rfl (decide_eq_false h3) rfl (PureD.opD (u_fa rfl rfl Tryd.underlying37 rfl in_34 (Nat.succ_ne_zero _) rfl rfl (ne_of_lt (n := 0) (Nat.lt_of_lt_of_eq (by decide) (Eq.symm (GQuery.len q1)))))) ?_
    refine r_on rfl rfl rfl rfl (decide_eq_false h3) rfl (PureD.opD (u_ld rfl rfl Tryd.underlying34 rfl rfl ((Sub.refl _).trans (GQuery.sub0 q1)))) ?_
    refine r_on rfl rfl rfl rfl (decide_eq_false h3) rfl (PureD.opD (p_lenl rfl Tryd.underlying34 rfl rfl)) ?_
    refine r_on rfl rfl rfl rfl (decide_eq_false h3) rfl (PureD.opD (p_bin rfl rfl rfl rfl)) ?_
    refine rp rfl rfl (p_pkf rfl rfl (decide_eq_false h3) (tb ((or_l (p := (q1.Items.length : Int) = (0 : Int)) (q := (q1.Items.length : Int) > (4 : Int)) h3)))) ?_
    refine rp rfl rfl (p_move rfl rfl) ?_
    refine (Classical.em ((q1.Items.length : Int) > (4 : Int))).elim (fun h4 => ?_) (fun h4 => ?_)
    ·have qq2 := decide_eq_true (p := ((q1.Items.length : Int) = (0 : Int)) ∨ ((q1.Items.length : Int) > (4 : Int))) (Or.inr h4)
     iterate 4 (refine r_off rfl rfl rfl rfl qq2 rfl rfl ?_)
     refine rp rfl rfl (p_pkt rfl rfl qq2 (tb (decide_eq_true (p := (((q1.Items.length : Int) = (0 : Int)) ∨ ((q1.Items.length : Int) > (4 : Int))) ∨ ((q1.Sorts.length : Int) > (4 : Int))) (Or.inl (Or.inr h4))).symm)) ?_
     refine rs [(0, .p ((fun q : List GColumn => AV.lst (q.flatMap GColumn.cs) q.length) cols0)), (3, .q 3 (0)), (33, .b (decide ((((q1.Items.length : Int) = (0 : Int)) ∨ ((q1.Items.length : Int) > (4 : Int))) ∨ ((q1.Sorts.length : Int) > (4 : Int)))))] [(3, .pure (GQuery.cs q1))] rfl rfl rfl ?_
     exact RunW_nil rfl
    ·have qq3 := decide_eq_false (p := ((q1.Items.length : Int) = (0 : Int)) ∨ ((q1.Items.length : Int) > (4 : Int))) (not_or.2 ⟨h3, h4⟩)
     refine rn rfl rfl rfl rfl qq3 rfl (u_fa rfl rfl Tryd.underlying37 rfl in_35 (Nat.succ_ne_zero _) rfl rfl (ne_of_lt (n := 0) (Nat.lt_of_lt_of_eq (by decide) (Eq.symm (GQuery.len q1))))) ?_
     refine rn rfl rfl rfl rfl qq3 rfl (u_ld rfl rfl Tryd.underlying35 rfl rfl ((Sub.refl _).trans (GQuery.sub3 q1))) ?_
     refine rn rfl rfl rfl rfl qq3 rfl (p_lenl rfl Tryd.underlying35 rfl rfl) ?_
     refine rn rfl rfl rfl rfl qq3 rfl (p_bin rfl rfl rfl rfl) ?_
     refine rp rfl rfl (p_pkf rfl rfl qq3 (tb ((or_l (p := ((q1.Items.length : Int) = (0 : Int)) ∨ ((q1.Items.length : Int) > (4 : Int))) (q := (q1.Sorts.length : Int) > (4 : Int)) (not_or.2 ⟨h3, h4⟩))))) ?_
     refine rs [(0, .p ((fun q : List GColumn => AV.lst (q.flatMap GColumn.cs) q.length) cols0)), (3, .q 3 (0)), (33, .b (decide ((((q1.Items.length : Int) = (0 : Int)) ∨ ((q1.Items.length : Int) > (4 : Int))) ∨ ((q1.Sorts.length : Int) > (4 : Int)))))] [(3, .pure (GQuery.cs q1))] rfl rfl rfl ?_
     exact RunW_nil rfl
  ·refine AW2_if (p := (((q1.Items.length : Int) = (0 : Int)) ∨ ((q1.Items.length : Int) > (4 : Int))) ∨ ((q1.Sorts.length : Int) > (4 : Int))) rfl (fun h5 => ?_) (fun h5 => ?_)
   ·replace H := ite_then h5 H
    refine sg [0] rfl ?_
    refine rp rfl rfl (p_asg rfl rfl) ?_
    refine rz [(4, .i (1 : Int))] [] rfl rfl rfl ?_
    refine AW2_ret ?_
    have hz := some_elim H
    subst hz
    exact ⟨⟨res_tmp (.same _), trivial⟩, trivial⟩
   ·replace H := ite_else h5 H
    refine as2 [(0, .p ((fun q : List GColumn => AV.lst (q.flatMap GColumn.cs) q.length) cols0)), (3, .q 3 (0))] [(3, .pure (GQuery.cs q1))] rfl rfl rfl ?_
    refine AW2_skip ?_
    refine AW2_seq ?_
    refine sg [0, 1, 2, 3, 4] rfl ?_
    refine rp rfl rfl (u_fa rfl rfl Tryd.underlying37 rfl in_27 (Nat.succ_ne_zero _) rfl rfl (ne_of_lt (n := 0) (Nat.lt_of_lt_of_eq (by decide) (Eq.symm (GQuery.len q1))))) ?_
    refine rp rfl rfl (u_lda rfl rfl Tryd.underlying27 rfl in_27 rfl (Nat.succ_pos _) ((Sub.refl _).trans (GQuery.sub1 q1)) (GExpr.len q1.Where)) ?_
    refine rp rfl rfl (p_move rfl rfl) ?_
    refine bindK H fun r'2 h6 H => ?_
    refine rp rfl rfl (p_callp rfl rfl rfl Tryd.func11 rfl rfl (g_ref_ConditionFault_ac h6) ⟨rfl, rfl, trivial⟩) ?_
    refine rp rfl rfl (p_asg rfl rfl) ?_
    refine rz [(0, .p ((fun q : List GColumn => AV.lst (q.flatMap GColumn.cs) q.length) cols0)), (3, .q 3 (0)), (6, .i r'2)] [(3, .pure (GQuery.cs q1))] rfl rfl rfl ?_
    refine sg [0, 1] rfl ?_
    refine rp rfl rfl (p_move rfl rfl) ?_
    refine rp rfl rfl (p_ine rfl rfl rfl) ?_
    refine rz [(0, .p ((fun q : List GColumn => AV.lst (q.flatMap GColumn.cs) q.length) cols0)), (3, .q 3 (0)), (6, .i r'2), (39, .b (decide (r'2 ≠ (0 : Int))))] [(3, .pure (GQuery.cs q1))] rfl rfl rfl ?_
    refine AW2_if (p := r'2 ≠ (0 : Int)) rfl (fun h7 => ?_) (fun h7 => ?_)
    ·replace H := ite_then h7 H
     refine sg [0, 1] rfl ?_
     refine rp rfl rfl (p_move rfl rfl) ?_
     refine rp rfl rfl (p_asg rfl rfl) ?_
     refine rz [(4, .i r'2)] [] rfl rfl rfl ?_
     refine AW2_ret ?_
     have hz := some_elim H
     subst hz
     exact ⟨⟨res_tmp (.same _), trivial⟩, trivial⟩
    ·replace H := ite_else h7 H
     refine as2 [(0, .p ((fun q : List GColumn => AV.lst (q.flatMap GColumn.cs) q.length) cols0)), (3, .q 3 (0))] [(3, .pure (GQuery.cs q1))] rfl rfl rfl ?_
     refine AW2_skip ?_
     refine AW2_seq ?_
     refine AW2_seq ?_
     refine bindK H fun g'5 h11 H => ?_
     refine AW2_mid (⟨[(0, .p ((fun q : List GColumn => AV.lst (q.flatMap GColumn.cs) q.length) cols0)), (3, .q 3 (0)), (50, .b g'5)], [(3, .pure (GQuery.cs q1))], 118⟩ : TS) ?_ ?_
     ·clear H
      have H := h11
      clear h11
      refine AW2_reg [0, 1, 2, 3, 4, 5, 6, 7, 8, 9] rfl ?_
      refine rp rfl rfl (u_fa rfl rfl Tryd.underlying37 rfl in_9 (Nat.succ_ne_zero _) rfl rfl (ne_of_lt (n := 0) (Nat.lt_of_lt_of_eq (by decide) (Eq.symm (GQuery.len q1))))) ?_
      refine rp rfl rfl (u_ld rfl rfl Tryd.underlying9 rfl rfl ((Sub.refl _).trans (GQuery.sub2 q1))) ?_
      refine rp rfl rfl (p_sne rfl rfl rfl) ?_
      refine rp rfl rfl (p_move rfl rfl) ?_
      refine (Classical.em (q1.Group ≠ [])).elim (fun h9 => ?_) (fun h9 => ?_)
      ·replace H := ite_then h9 H
       refine r_on rfl rfl rfl rfl (decide_eq_true h9) rfl (PureD.opD (p_move rfl rfl)) ?_
       refine r_on rfl rfl rfl rfl (decide_eq_true h9) rfl (PureD.opD (u_fa rfl rfl Tryd.underlying37 rfl in_9 (Nat.succ_ne_zero _) rfl rfl (ne_of_lt (n := 0) (Nat.lt_of_lt_of_eq (by decide) (Eq.symm (GQuery.len q1)))))) ?_
       refine r_on rfl rfl rfl rfl (decide_eq_true h9) rfl (PureD.opD (u_ld rfl rfl Tryd.underlying9 rfl rfl ((Sub.refl _).trans (GQuery.sub2 q1)))) ?_
       refine bindK H fun r'4 h10 H => ?_
       refine r_on rfl rfl rfl rfl (decide_eq_true h9) rfl (PureD.opD (p_callp rfl rfl rfl Tryd.func27 rfl rfl (g_ref_columnAt_ac h10) ⟨rfl, rfl, trivial⟩)) ?_
       refine r_on rfl rfl rfl rfl (decide_eq_true h9) rfl (PureD.opD (p_bin rfl rfl rfl rfl)) ?_
       refine rp rfl rfl (p_pkt rfl rfl (decide_eq_true h9) (.same _)) ?_
       refine rs [(0, .p ((fun q : List GColumn => AV.lst (q.flatMap GColumn.cs) q.length) cols0)), (3, .q 3 (0)), (50, .b (decide (r'4 < (0 : Int))))] [(3, .pure (GQuery.cs q1))] rfl rfl rfl ?_
       have hz := some_elim H
       subst hz
       exact RunW_nil rfl
      ·replace H := ite_else h9 H
       iterate 5 (refine r_off rfl rfl rfl rfl (decide_eq_false h9) rfl rfl ?_)
       refine rp rfl rfl (p_pkf rfl rfl (decide_eq_false h9) (.same _)) ?_
       refine rs [(0, .p ((fun q : List GColumn => AV.lst (q.flatMap GColumn.cs) q.length) cols0)), (3, .q 3 (0)), (50, .b false)] [(3, .pure (GQuery.cs q1))] rfl rfl rfl ?_
       have hz := some_elim H
       subst hz
       exact RunW_nil rfl
     ·refine AW2_cond rfl (fun h12 => ?_) (fun h12 => ?_)
      ·replace H := ite_then h12 H
       refine sg [0] rfl ?_
       refine rp rfl rfl (p_asg rfl rfl) ?_
       refine rz [(4, .i (5 : Int))] [] rfl rfl rfl ?_
       refine AW2_ret ?_
       have hz := some_elim H
       subst hz
       exact ⟨⟨res_tmp (.same _), trivial⟩, trivial⟩
      ·replace H := ite_else (ne_true h12) H
       refine as2 [(0, .p ((fun q : List GColumn => AV.lst (q.flatMap GColumn.cs) q.length) cols0)), (3, .q 3 (0))] [(3, .pure (GQuery.cs q1))] rfl rfl rfl ?_
       refine AW2_skip ?_
       refine sg [0] rfl ?_
       refine rp rfl rfl (p_asg rfl rfl) ?_
       refine rz [(0, .p ((fun q : List GColumn => AV.lst (q.flatMap GColumn.cs) q.length) cols0)), (3, .q 3 (0)), (7, .i (0 : Int))] [(3, .pure (GQuery.cs q1))] rfl rfl rfl ?_
       refine AW2_seq ?_
       refine sg [0, 1, 2, 3] rfl ?_
       refine rp rfl rfl (u_fa rfl rfl Tryd.underlying37 rfl in_34 (Nat.succ_ne_zero _) rfl rfl (ne_of_lt (n := 0) (Nat.lt_of_lt_of_eq (by decide) (Eq.symm (GQuery.len q1))))) ?_
       refine rp rfl rfl (u_ld rfl rfl Tryd.underlying34 rfl rfl ((Sub.refl _).trans (GQuery.sub0 q1))) ?_
       refine rp rfl rfl (p_lenl rfl Tryd.underlying34 rfl rfl) ?_
       refine rp rfl rfl (p_move rfl rfl) ?_
       refine rz [(0, .p ((fun q : List GColumn => AV.lst (q.flatMap GColumn.cs) q.length) cols0)), (3, .q 3 (0)), (7, .i (0 : Int)), (52, .p ((fun q : List GItem => AV.lst (q.flatMap GItem.cs) q.length) q1.Items)), (53, .i (q1.Items.length : Int)), (54, .i (0 : Int))] [(3, .pure (GQuery.cs q1))] rfl rfl rfl ?_
       refine AW2_block ?_
       refine as2 [(0, .p ((fun q : List GColumn => AV.lst (q.flatMap GColumn.cs) q.length) cols0)), (3, .q 3 (0)), (7, .i (0 : Int)), (52, .p ((fun q : List GItem => AV.lst (q.flatMap GItem.cs) q.length) q1.Items)), (53, .i (q1.Items.length : Int)), (54, .i (0 : Int))] [(3, .pure (GQuery.cs q1))] rfl rfl rfl ?_
       refine bindK H fun o'13 h19 H => ?_
       refine AW2_loopO (fun a'10 : Int × Int => (⟨[(0, .p ((fun q : List GColumn => AV.lst (q.flatMap GColumn.cs) q.length) cols0)), (3, .q 3 (0)), (7, .i a'10.1), (52, .p ((fun q : List GItem => AV.lst (q.flatMap GItem.cs) q.length) q1.Items)), (53, .i (q1.Items.length : Int)), (54, .i a'10.2)], [(3, .pure (GQuery.cs q1))], 118⟩ : TS)) (fun (o : Int ⊕ Int) e s' => match o with | .inl y'11 => e = Go.Exit.ret ∧ ResAll Tryd.prog s' [ResultVar.tmp 4] [.i y'11] ∧ HFits s' [] | .inr (y'12) => e = Go.Exit.exit 0 ∧ s' = (⟨[(3, .q 3 (0)), (7, .i y'12)], [(3, .pure (GQuery.cs q1))], 118⟩ : TS)) h19 rfl (fun a x hx => ?_) (fun e s' hs => ?_)
       ·clear H
        obtain ⟨plain7_0, t54_0⟩ := a
        have H := hx
        clear hx
        unfold g_ref_QueryFault_l0 at H
        refine sg [0] rfl ?_
        refine rp rfl rfl (p_bin rfl rfl rfl rfl) ?_
        refine rz [(0, .p ((fun q : List GColumn => AV.lst (q.flatMap GColumn.cs) q.length) cols0)), (3, .q 3 (0)), (7, .i plain7_0), (52, .p ((fun q : List GItem => AV.lst (q.flatMap GItem.cs) q.length) q1.Items)), (53, .i (q1.Items.length : Int)), (54, .i t54_0), (55, .b (decide (t54_0 < (q1.Items.length : Int))))] [(3, .pure (GQuery.cs q1))] rfl rfl rfl ?_
        refine AW2_seq ?_
        refine AW2_if (p := t54_0 < (q1.Items.length : Int)) rfl (fun h13 => ?_) (fun h13 => ?_)
        ·replace H := ite_then h13 H
         refine as2 [(0, .p ((fun q : List GColumn => AV.lst (q.flatMap GColumn.cs) q.length) cols0)), (3, .q 3 (0)), (7, .i plain7_0), (52, .p ((fun q : List GItem => AV.lst (q.flatMap GItem.cs) q.length) q1.Items)), (53, .i (q1.Items.length : Int)), (54, .i t54_0)] [(3, .pure (GQuery.cs q1))] rfl rfl rfl ?_
         refine AW2_skip ?_
         refine AW2_seq ?_
         refine bindK H fun o'9 h14 H => ?_
         refine AW2_join (fun j'6 : Int => (⟨[(0, .p ((fun q : List GColumn => AV.lst (q.flatMap GColumn.cs) q.length) cols0)), (3, .q 3 (0)), (7, .i j'6), (52, .p ((fun q : List GItem => AV.lst (q.flatMap GItem.cs) q.length) q1.Items)), (53, .i (q1.Items.length : Int)), (54, .i t54_0)], [(3, .pure (GQuery.cs q1))], 118⟩ : TS)) (fun r e s' => e = Go.Exit.ret ∧ ResAll Tryd.prog s' [ResultVar.tmp 4] [.i r] ∧ HFits s' []) (x := o'9) ?_ (fun j'6 hy => ?_) (fun y'8 e s' hy hs => ?_)
         ·clear H
          have H := h14
          clear h14
          refine AW2_block ?_
          refine sg [0, 1, 2, 3] rfl ?_
          refine chkK H fun h15 H => ?_
          refine rp rfl rfl (u_ixl rfl rfl Tryd.underlying34 in_61 rfl rfl (ixe h15) (ixn h15) (fne (fun x => (GItem.len x)) (by decide) (ixn h15))) ?_
          refine rp rfl rfl (u_lda rfl rfl Tryd.underlying61 rfl in_61 rfl (Nat.succ_pos _) (Sub.fm default (fun x => (GItem.len x)) (ixn h15)) (GItem.len (lrd q1.Items t54_0.toNat))) ?_
          refine r_op rfl rfl (MakeD.opD (u_alloc 9 rfl in_61 one_61 zc_61) rfl rfl rfl rfl) ?_
          refine r_op rfl rfl (u_st rfl rfl rfl rfl rfl in_61 (GItem.len (lrd q1.Items t54_0.toNat)) (ne_of_lt (n := 0) (Nat.lt_of_lt_of_eq (by decide) (Eq.symm (GItem.len GItem.zero)))) (Upd.refl ((GItem.len (lrd q1.Items t54_0.toNat)).trans (GItem.len GItem.zero).symm))) ?_
          refine rz [(0, .p ((fun q : List GColumn => AV.lst (q.flatMap GColumn.cs) q.length) cols0)), (3, .q 3 (0)), (7, .i plain7_0), (9, .q 9 (0)), (52, .p ((fun q : List GItem => AV.lst (q.flatMap GItem.cs) q.length) q1.Items)), (53, .i (q1.Items.length : Int)), (54, .i t54_0)] [(3, .pure (GQuery.cs q1)), (9, .pure (GItem.cs (lrd q1.Items t54_0.toNat)))] rfl rfl rfl ?_
          refine AW2_seq ?_
          refine sg [0, 1, 2, 3, 4, 5] rfl ?_
          refine rp rfl rfl (u_lda rfl rfl Tryd.underlying61 rfl in_61 rfl (Nat.succ_pos _) (Sub.refl _) (GItem.len (lrd q1.Items t54_0.toNat))) ?_
          refine rp rfl rfl (p_move rfl rfl) ?_
          refine rp rfl rfl (u_fa rfl rfl Tryd.underlying37 rfl in_9 (Nat.succ_ne_zero _) rfl rfl (ne_of_lt (n := 0) (Nat.lt_of_lt_of_eq (by decide) (Eq.symm (GQuery.len q1))))) ?_
          refine rp rfl rfl (u_ld rfl rfl Tryd.underlying9 rfl rfl ((Sub.refl _).trans (GQuery.sub2 q1))) ?_
          refine bindK H fun r'7 h16 H => ?_
          refine rp rfl rfl (p_callp rfl rfl rfl Tryd.func28 rfl rfl (g_ref_itemFault_ac h16) ⟨rfl, rfl, rfl, trivial⟩) ?_
          refine rp rfl rfl (p_asg rfl rfl) ?_
          refine rz [(0, .p ((fun q : List GColumn => AV.lst (q.flatMap GColumn.cs) q.length) cols0)), (3, .q 3 (0)), (7, .i plain7_0), (9, .q 9 (0)), (10, .i r'7), (52, .p ((fun q : List GItem => AV.lst (q.flatMap GItem.cs) q.length) q1.Items)), (53, .i (q1.Items.length : Int)), (54, .i t54_0)] [(3, .pure (GQuery.cs q1)), (9, .pure (GItem.cs (lrd q1.Items t54_0.toNat)))] rfl rfl rfl ?_
          refine sg [0, 1] rfl ?_
          refine rp rfl rfl (p_move rfl rfl) ?_
          refine rp rfl rfl (p_ine rfl rfl rfl) ?_
          refine rz [(0, .p ((fun q : List GColumn => AV.lst (q.flatMap GColumn.cs) q.length) cols0)), (3, .q 3 (0)), (7, .i plain7_0), (9, .q 9 (0)), (10, .i r'7), (52, .p ((fun q : List GItem => AV.lst (q.flatMap GItem.cs) q.length) q1.Items)), (53, .i (q1.Items.length : Int)), (54, .i t54_0), (64, .b (decide (r'7 ≠ (0 : Int))))] [(3, .pure (GQuery.cs q1)), (9, .pure (GItem.cs (lrd q1.Items t54_0.toNat)))] rfl rfl rfl ?_
          refine AW2_if (p := r'7 ≠ (0 : Int)) rfl (fun h17 => ?_) (fun h17 => ?_)
          ·replace H := ite_then h17 H
           refine sg [0, 1] rfl ?_
           refine rp rfl rfl (p_move rfl rfl) ?_
           refine rp rfl rfl (p_asg rfl rfl) ?_
           refine rz [(4, .i r'7)] [] rfl rfl rfl ?_
           refine AW2_ret ?_
           have hz := some_elim H
           subst hz
           exact ⟨rfl, ⟨res_tmp (.same _), trivial⟩, trivial⟩
          ·replace H := ite_else h17 H
           refine as2 [(0, .p ((fun q : List GColumn => AV.lst (q.flatMap GColumn.cs) q.length) cols0)), (3, .q 3 (0)), (7, .i plain7_0), (9, .q 9 (0)), (52, .p ((fun q : List GItem => AV.lst (q.flatMap GItem.cs) q.length) q1.Items)), (53, .i (q1.Items.length : Int)), (54, .i t54_0)] [(3, .pure (GQuery.cs q1)), (9, .pure (GItem.cs (lrd q1.Items t54_0.toNat)))] rfl rfl rfl ?_
           refine AW2_skip ?_
           refine sg [0, 1, 2] rfl ?_
           refine rp rfl rfl (u_fa rfl rfl Tryd.underlying61 rfl in_3 (Nat.succ_ne_zero _) rfl rfl (ne_of_lt (n := 0) (Nat.lt_of_lt_of_eq (by decide) (Eq.symm (GItem.len (lrd q1.Items t54_0.toNat)))))) ?_
           refine rp rfl rfl (u_ld rfl rfl Tryd.underlying3 rfl rfl ((Sub.refl _).trans (GItem.sub0 (lrd q1.Items t54_0.toNat)))) ?_
           refine rp rfl rfl (p_ieq rfl rfl rfl) ?_
           refine rz [(0, .p ((fun q : List GColumn => AV.lst (q.flatMap GColumn.cs) q.length) cols0)), (3, .q 3 (0)), (7, .i plain7_0), (52, .p ((fun q : List GItem => AV.lst (q.flatMap GItem.cs) q.length) q1.Items)), (53, .i (q1.Items.length : Int)), (54, .i t54_0), (68, .b (decide ((lrd q1.Items t54_0.toNat).Agg = (0 : Int))))] [(3, .pure (GQuery.cs q1))] rfl rfl rfl ?_
           refine AW2_if (p := (lrd q1.Items t54_0.toNat).Agg = (0 : Int)) rfl (fun h18 => ?_) (fun h18 => ?_)
           ·replace H := ite_then h18 H
            refine AW2_reg [0, 1, 2] rfl ?_
            refine rp rfl rfl (p_move rfl rfl) ?_
            refine rp rfl rfl (p_bin rfl rfl rfl rfl) ?_
            refine rp rfl rfl (p_asg rfl rfl) ?_
            refine rz [(0, .p ((fun q : List GColumn => AV.lst (q.flatMap GColumn.cs) q.length) cols0)), (3, .q 3 (0)), (7, .i (w64 (plain7_0 + (1 : Int)))), (52, .p ((fun q : List GItem => AV.lst (q.flatMap GItem.cs) q.length) q1.Items)), (53, .i (q1.Items.length : Int)), (54, .i t54_0)] [(3, .pure (GQuery.cs q1))] rfl rfl rfl ?_
            have hz := some_elim H
            subst hz
            exact ⟨rfl, rfl⟩
           ·replace H := ite_else h18 H
            refine as2 [(0, .p ((fun q : List GColumn => AV.lst (q.flatMap GColumn.cs) q.length) cols0)), (3, .q 3 (0)), (7, .i plain7_0), (52, .p ((fun q : List GItem => AV.lst (q.flatMap GItem.cs) q.length) q1.Items)), (53, .i (q1.Items.length : Int)), (54, .i t54_0)] [(3, .pure (GQuery.cs q1))] rfl rfl rfl ?_
            refine AW2_skip ?_
            have hz := some_elim H
            subst hz
            exact ⟨rfl, rfl⟩
         ·subst hy
          refine AW2_reg [0, 1] rfl ?_
          refine rp rfl rfl (p_bin rfl rfl rfl rfl) ?_
          refine rp rfl rfl (p_move rfl rfl) ?_
          refine rz [(0, .p ((fun q : List GColumn => AV.lst (q.flatMap GColumn.cs) q.length) cols0)), (3, .q 3 (0)), (7, .i j'6), (52, .p ((fun q : List GItem => AV.lst (q.flatMap GItem.cs) q.length) q1.Items)), (53, .i (q1.Items.length : Int)), (54, .i (w64 (t54_0 + (1 : Int))))] [(3, .pure (GQuery.cs q1))] rfl rfl rfl ?_
          have hz := some_elim H
          subst hz
          exact ⟨rfl, rfl⟩
         ·subst hy
          obtain ⟨rfl, hs⟩ := hs
          have hz := some_elim H
          subst hz
          exact ⟨rfl, hs.1, hs.2⟩
        ·replace H := ite_else h13 H
         refine as2 [(3, .q 3 (0)), (7, .i plain7_0)] [(3, .pure (GQuery.cs q1))] rfl rfl rfl ?_
         refine AW2_exit ?_
         refine thenQ2_exit ?_
         have hz := some_elim H
         subst hz
         exact ⟨rfl, rfl⟩
       ·rcases o'13 with y'14 | y'15
        ·obtain ⟨rfl, hs⟩ := hs
         refine ⟨by simp, ?_⟩
         have hz := some_elim H
         subst hz
         exact ⟨hs.1, hs.2⟩
        ·obtain ⟨rfl, rfl⟩ := hs
         refine ⟨by simp, ?_⟩
         refine blockQ2_exit ?_
         refine AW2_seq ?_
         refine AW2_seq ?_
         refine AW2_mid (⟨[(3, .q 3 (0)), (85, .b (decide (((q1.Group = []) ∧ (y'15 > (0 : Int))) ∧ (y'15 < (q1.Items.length : Int)))))], [(3, .pure (GQuery.cs q1))], 118⟩ : TS) ?_ ?_
         ·refine AW2_reg [0, 1, 2, 3, 4, 5, 6, 7, 8, 9, 10, 11, 12, 13] rfl ?_
          refine rp rfl rfl (u_fa rfl rfl Tryd.underlying37 rfl in_9 (Nat.succ_ne_zero _) rfl rfl (ne_of_lt (n := 0) (Nat.lt_of_lt_of_eq (by decide) (Eq.symm (GQuery.len q1))))) ?_
          refine rp rfl rfl (u_ld rfl rfl Tryd.underlying9 rfl rfl ((Sub.refl _).trans (GQuery.sub2 q1))) ?_
          refine rp rfl rfl (p_seq rfl rfl rfl) ?_
          refine rp rfl rfl (p_move rfl rfl) ?_
          refine (Classical.em (q1.Group = [])).elim (fun h20 => ?_) (fun h20 => ?_)
          ·refine r_on rfl rfl rfl rfl (decide_eq_true h20) rfl (PureD.opD (p_move rfl rfl)) ?_
           refine r_on rfl rfl rfl rfl (decide_eq_true h20) rfl (PureD.opD (p_bin rfl rfl rfl rfl)) ?_
           refine rp rfl rfl (p_pkt rfl rfl (decide_eq_true h20) (tb ((and_l (p := q1.Group = []) (q := y'15 > (0 : Int)) h20)))) ?_
           refine rp rfl rfl (p_move rfl rfl) ?_
           refine (Classical.em (y'15 > (0 : Int))).elim (fun h21 => ?_) (fun h21 => ?_)
           ·have qq4 := decide_eq_true (p := (q1.Group = []) ∧ (y'15 > (0 : Int))) ⟨h20, h21⟩
            refine rn rfl rfl rfl rfl qq4 rfl (p_move rfl rfl) ?_
            refine rn rfl rfl rfl rfl qq4 rfl (u_fa rfl rfl Tryd.underlying37 rfl in_34 (Nat.succ_ne_zero _) rfl rfl (ne_of_lt (n := 0) (Nat.lt_of_lt_of_eq (by decide) (Eq.symm (GQuery.len q1))))) ?_
            refine rn rfl rfl rfl rfl qq4 rfl (u_ld rfl rfl Tryd.underlying34 rfl rfl ((Sub.refl _).trans (GQuery.sub0 q1))) ?_
            refine rn rfl rfl rfl rfl qq4 rfl (p_lenl rfl Tryd.underlying34 rfl rfl) ?_
            refine rn rfl rfl rfl rfl qq4 rfl (p_bin rfl rfl rfl rfl) ?_
            refine rp rfl rfl (p_pkt rfl rfl qq4 (tb ((and_l (p := (q1.Group = []) ∧ (y'15 > (0 : Int))) (q := y'15 < (q1.Items.length : Int)) ⟨h20, h21⟩)))) ?_
            refine rs [(3, .q 3 (0)), (85, .b (decide (((q1.Group = []) ∧ (y'15 > (0 : Int))) ∧ (y'15 < (q1.Items.length : Int)))))] [(3, .pure (GQuery.cs q1))] rfl rfl rfl ?_
            exact RunW_nil rfl
           ·have qq5 := decide_eq_false (p := (q1.Group = []) ∧ (y'15 > (0 : Int))) (fun h => h21 h.2)
            iterate 5 (refine r_off rfl rfl rfl rfl qq5 rfl rfl ?_)
            refine rp rfl rfl (p_pkf rfl rfl qq5 (tb (decide_eq_false (p := ((q1.Group = []) ∧ (y'15 > (0 : Int))) ∧ (y'15 < (q1.Items.length : Int))) (fun x => (fun h => h21 h.2) x.1)).symm)) ?_
            refine rs [(3, .q 3 (0)), (85, .b (decide (((q1.Group = []) ∧ (y'15 > (0 : Int))) ∧ (y'15 < (q1.Items.length : Int)))))] [(3, .pure (GQuery.cs q1))] rfl rfl rfl ?_
            exact RunW_nil rfl
          ·iterate 2 (refine r_off rfl rfl rfl rfl (decide_eq_false h20) rfl rfl ?_)
           refine rp rfl rfl (p_pkf rfl rfl (decide_eq_false h20) (tb (decide_eq_false (p := (q1.Group = []) ∧ (y'15 > (0 : Int))) (fun x => h20 x.1)).symm)) ?_
           refine rp rfl rfl (p_move rfl rfl) ?_
           have qq6 := decide_eq_false (p := (q1.Group = []) ∧ (y'15 > (0 : Int))) (fun h => h20 h.1)
           iterate 5 (refine r_off rfl rfl rfl rfl qq6 rfl rfl ?_)
           refine rp rfl rfl (p_pkf rfl rfl qq6 (tb (decide_eq_false (p := ((q1.Group = []) ∧ (y'15 > (0 : Int))) ∧ (y'15 < (q1.Items.length : Int))) (fun x => (fun h => h20 h.1) x.1)).symm)) ?_
           refine rs [(3, .q 3 (0)), (85, .b (decide (((q1.Group = []) ∧ (y'15 > (0 : Int))) ∧ (y'15 < (q1.Items.length : Int)))))] [(3, .pure (GQuery.cs q1))] rfl rfl rfl ?_
           exact RunW_nil rfl
         ·refine AW2_if (p := ((q1.Group = []) ∧ (y'15 > (0 : Int))) ∧ (y'15 < (q1.Items.length : Int))) rfl (fun h22 => ?_) (fun h22 => ?_)
          ·replace H := ite_then h22 H
           refine sg [0] rfl ?_
           refine rp rfl rfl (p_asg rfl rfl) ?_
           refine rz [(4, .i (3 : Int))] [] rfl rfl rfl ?_
           refine AW2_ret ?_
           have hz := some_elim H
           subst hz
           exact ⟨⟨res_tmp (.same _), trivial⟩, trivial⟩
          ·replace H := ite_else h22 H
           refine as2 [(3, .q 3 (0))] [(3, .pure (GQuery.cs q1))] rfl rfl rfl ?_
           refine AW2_skip ?_
           refine AW2_seq ?_
           refine sg [0, 1, 2, 3] rfl ?_
           refine rp rfl rfl (u_fa rfl rfl Tryd.underlying37 rfl in_35 (Nat.succ_ne_zero _) rfl rfl (ne_of_lt (n := 0) (Nat.lt_of_lt_of_eq (by decide) (Eq.symm (GQuery.len q1))))) ?_
           refine rp rfl rfl (u_ld rfl rfl Tryd.underlying35 rfl rfl ((Sub.refl _).trans (GQuery.sub3 q1))) ?_
           refine rp rfl rfl (p_lenl rfl Tryd.underlying35 rfl rfl) ?_
           refine rp rfl rfl (p_move rfl rfl) ?_
           refine rz [(3, .q 3 (0)), (87, .p ((fun q : List GSort => AV.lst (q.flatMap GSort.cs) q.length) q1.Sorts)), (88, .i (q1.Sorts.length : Int)), (89, .i (0 : Int))] [(3, .pure (GQuery.cs q1))] rfl rfl rfl ?_
           refine AW2_block ?_
           refine as2 [(3, .q 3 (0)), (87, .p ((fun q : List GSort => AV.lst (q.flatMap GSort.cs) q.length) q1.Sorts)), (88, .i (q1.Sorts.length : Int)), (89, .i (0 : Int))] [(3, .pure (GQuery.cs q1))] rfl rfl rfl ?_
           refine bindK H fun o'19 h27 H => ?_
           refine AW2_loopO (fun a'16 : Int => (⟨[(3, .q 3 (0)), (87, .p ((fun q : List GSort => AV.lst (q.flatMap GSort.cs) q.length) q1.Sorts)), (88, .i (q1.Sorts.length : Int)), (89, .i a'16)], [(3, .pure (GQuery.cs q1))], 118⟩ : TS)) (fun (o : Int ⊕ Unit) e s' => match o with | .inl y'17 => e = Go.Exit.ret ∧ ResAll Tryd.prog s' [ResultVar.tmp 4] [.i y'17] ∧ HFits s' [] | .inr (y'18) => e = Go.Exit.exit 2 ∧ s' = (⟨[(3, .q 3 (0))], [(3, .pure (GQuery.cs q1))], 118⟩ : TS)) h27 rfl (fun t89_1 x hx => ?_) (fun e s' hs => ?_)
           ·clear H
            have H := hx
            clear hx
            unfold g_ref_QueryFault_l1 at H
            refine sg [0] rfl ?_
            refine rp rfl rfl (p_bin rfl rfl rfl rfl) ?_
            refine rz [(3, .q 3 (0)), (87, .p ((fun q : List GSort => AV.lst (q.flatMap GSort.cs) q.length) q1.Sorts)), (88, .i (q1.Sorts.length : Int)), (89, .i t89_1), (90, .b (decide (t89_1 < (q1.Sorts.length : Int))))] [(3, .pure (GQuery.cs q1))] rfl rfl rfl ?_
            refine AW2_seq ?_
            refine AW2_if (p := t89_1 < (q1.Sorts.length : Int)) rfl (fun h23 => ?_) (fun h23 => ?_)
            ·replace H := ite_then h23 H
             refine as2 [(3, .q 3 (0)), (87, .p ((fun q : List GSort => AV.lst (q.flatMap GSort.cs) q.length) q1.Sorts)), (88, .i (q1.Sorts.length : Int)), (89, .i t89_1)] [(3, .pure (GQuery.cs q1))] rfl rfl rfl ?_
             refine AW2_skip ?_
             refine AW2_seq ?_
             refine AW2_block ?_
             refine sg [0, 1, 2, 3] rfl ?_
             refine chkK H fun h24 H => ?_
             refine rp rfl rfl (u_ixl rfl rfl Tryd.underlying35 in_64 rfl rfl (ixe h24) (ixn h24) (fne (fun x => (GSort.len x)) (by decide) (ixn h24))) ?_
             refine rp rfl rfl (u_lda rfl rfl Tryd.underlying64 rfl in_64 rfl (Nat.succ_pos _) (Sub.fm default (fun x => (GSort.len x)) (ixn h24)) (GSort.len (lrd q1.Sorts t89_1.toNat))) ?_
             refine r_op rfl rfl (MakeD.opD (u_alloc 12 rfl in_64 one_64 zc_64) rfl rfl rfl rfl) ?_
             refine r_op rfl rfl (u_st rfl rfl rfl rfl rfl in_64 (GSort.len (lrd q1.Sorts t89_1.toNat)) (ne_of_lt (n := 0) (Nat.lt_of_lt_of_eq (by decide) (Eq.symm (GSort.len GSort.zero)))) (Upd.refl ((GSort.len (lrd q1.Sorts t89_1.toNat)).trans (GSort.len GSort.zero).symm))) ?_
             refine rz [(3, .q 3 (0)), (12, .q 12 (0)), (87, .p ((fun q : List GSort => AV.lst (q.flatMap GSort.cs) q.length) q1.Sorts)), (88, .i (q1.Sorts.length : Int)), (89, .i t89_1)] [(3, .pure (GQuery.cs q1)), (12, .pure (GSort.cs (lrd q1.Sorts t89_1.toNat)))] rfl rfl rfl ?_
             refine AW2_seq ?_
             refine AW2_mid (⟨[(3, .q 3 (0)), (87, .p ((fun q : List GSort => AV.lst (q.flatMap GSort.cs) q.length) q1.Sorts)), (88, .i (q1.Sorts.length : Int)), (89, .i t89_1), (103, .b (decide (((lrd q1.Sorts t89_1.toNat).Item ≤ (0 : Int)) ∨ ((lrd q1.Sorts t89_1.toNat).Item > (q1.Items.length : Int)))))], [(3, .pure (GQuery.cs q1))], 118⟩ : TS) ?_ ?_
             ·refine AW2_reg [0, 1, 2, 3, 4, 5, 6, 7, 8, 9, 10] rfl ?_
              refine rp rfl rfl (u_fa rfl rfl Tryd.underlying64 rfl in_3 (Nat.succ_ne_zero _) rfl rfl (ne_of_lt (n := 0) (Nat.lt_of_lt_of_eq (by decide) (Eq.symm (GSort.len (lrd q1.Sorts t89_1.toNat)))))) ?_
              refine rp rfl rfl (u_ld rfl rfl Tryd.underlying3 rfl rfl ((Sub.refl _).trans (GSort.sub0 (lrd q1.Sorts t89_1.toNat)))) ?_
              refine rp rfl rfl (p_bin rfl rfl rfl rfl) ?_
              refine rp rfl rfl (p_move rfl rfl) ?_
              refine (Classical.em ((lrd q1.Sorts t89_1.toNat).Item ≤ (0 : Int))).elim (fun h25 => ?_) (fun h25 => ?_)
              ·iterate 6 (refine r_off rfl rfl rfl rfl (decide_eq_true h25) rfl rfl ?_)
               refine rp rfl rfl (p_pkt rfl rfl (decide_eq_true h25) (tb (decide_eq_true (p := ((lrd q1.Sorts t89_1.toNat).Item ≤ (0 : Int)) ∨ ((lrd q1.Sorts t89_1.toNat).Item > (q1.Items.length : Int))) (Or.inl h25)).symm)) ?_
               refine rs [(3, .q 3 (0)), (87, .p ((fun q : List GSort => AV.lst (q.flatMap GSort.cs) q.length) q1.Sorts)), (88, .i (q1.Sorts.length : Int)), (89, .i t89_1), (103, .b (decide (((lrd q1.Sorts t89_1.toNat).Item ≤ (0 : Int)) ∨ ((lrd q1.Sorts t89_1.toNat).Item > (q1.Items.length : Int)))))] [(3, .pure (GQuery.cs q1))] rfl rfl rfl ?_
               exact RunW_nil rfl
              ·refine r_on rfl rfl rfl rfl (decide_eq_false h25) rfl (PureD.opD (u_fa rfl rfl Tryd.underlying64 rfl in_3 (Nat.succ_ne_zero _) rfl rfl (ne_of_lt (n := 0) (Nat.lt_of_lt_of_eq (by decide) (Eq.symm (GSort.len (lrd q1.Sorts t89_1.toNat))))))) ?_
               refine r_on rfl rfl rfl rfl (decide_eq_false h25) rfl (PureD.opD (u_ld rfl rfl Tryd.underlying3 rfl rfl ((Sub.refl _).trans (GSort.sub0 (lrd q1.Sorts t89_1.toNat))))) ?_
               refine r_on rfl rfl rfl rfl (decide_eq_false h25) rfl (PureD.opD (u_fa rfl rfl Tryd.underlying37 rfl in_34 (Nat.succ_ne_zero _) rfl rfl (ne_of_lt (n := 0) (Nat.lt_of_lt_of_eq (by decide) (Eq.symm (GQuery.len q1)))))) ?_
               refine r_on rfl rfl rfl rfl (decide_eq_false h25) rfl (PureD.opD (u_ld rfl rfl Tryd.underlying34 rfl rfl ((Sub.refl _).trans (GQuery.sub0 q1)))) ?_
               refine r_on rfl rfl rfl rfl (decide_eq_false h25) rfl (PureD.opD (p_lenl rfl Tryd.underlying34 rfl rfl)) ?_
               refine r_on rfl rfl rfl rfl (decide_eq_false h25) rfl (PureD.opD (p_bin rfl rfl rfl rfl)) ?_
               refine rp rfl rfl (p_pkf rfl rfl (decide_eq_false h25) (tb ((or_l (p := (lrd q1.Sorts t89_1.toNat).Item ≤ (0 : Int)) (q := (lrd q1.Sorts t89_1.toNat).Item > (q1.Items.length : Int)) h25)))) ?_
               refine rs [(3, .q 3 (0)), (87, .p ((fun q : List GSort => AV.lst (q.flatMap GSort.cs) q.length) q1.Sorts)), (88, .i (q1.Sorts.length : Int)), (89, .i t89_1), (103, .b (decide (((lrd q1.Sorts t89_1.toNat).Item ≤ (0 : Int)) ∨ ((lrd q1.Sorts t89_1.toNat).Item > (q1.Items.length : Int)))))] [(3, .pure (GQuery.cs q1))] rfl rfl rfl ?_
               exact RunW_nil rfl
             ·refine AW2_if (p := ((lrd q1.Sorts t89_1.toNat).Item ≤ (0 : Int)) ∨ ((lrd q1.Sorts t89_1.toNat).Item > (q1.Items.length : Int))) rfl (fun h26 => ?_) (fun h26 => ?_)
              ·replace H := ite_then h26 H
               refine sg [0] rfl ?_
               refine rp rfl rfl (p_asg rfl rfl) ?_
               refine rz [(4, .i (6 : Int))] [] rfl rfl rfl ?_
               refine AW2_ret ?_
               have hz := some_elim H
               subst hz
               exact ⟨rfl, ⟨res_tmp (.same _), trivial⟩, trivial⟩
              ·replace H := ite_else h26 H
               refine as2 [(3, .q 3 (0)), (87, .p ((fun q : List GSort => AV.lst (q.flatMap GSort.cs) q.length) q1.Sorts)), (88, .i (q1.Sorts.length : Int)), (89, .i t89_1)] [(3, .pure (GQuery.cs q1))] rfl rfl rfl ?_
               refine AW2_skip ?_
               refine AW2_reg [0, 1] rfl ?_
               refine rp rfl rfl (p_bin rfl rfl rfl rfl) ?_
               refine rp rfl rfl (p_move rfl rfl) ?_
               refine rz [(3, .q 3 (0)), (87, .p ((fun q : List GSort => AV.lst (q.flatMap GSort.cs) q.length) q1.Sorts)), (88, .i (q1.Sorts.length : Int)), (89, .i (w64 (t89_1 + (1 : Int))))] [(3, .pure (GQuery.cs q1))] rfl rfl rfl ?_
               have hz := some_elim H
               subst hz
               exact ⟨rfl, rfl⟩
            ·replace H := ite_else h23 H
             refine as2 [(3, .q 3 (0))] [(3, .pure (GQuery.cs q1))] rfl rfl rfl ?_
             refine AW2_exit ?_
             refine thenQ2_exit ?_
             have hz := some_elim H
             subst hz
             exact ⟨rfl, rfl⟩
           ·rcases o'19 with y'20 | y'21
            ·obtain ⟨rfl, hs⟩ := hs
             refine ⟨by simp, ?_⟩
             have hz := some_elim H
             subst hz
             exact ⟨hs.1, hs.2⟩
            ·obtain ⟨rfl, rfl⟩ := hs
             refine ⟨by simp, ?_⟩
             refine blockQ2_exit ?_
             refine AW2_seq ?_
             refine AW2_seq ?_
             refine AW2_mid (⟨[(117, .b (decide ((q1.Most < (0 : Int)) ∨ ((q1.Most > (0 : Int)) ∧ ((!q1.Cut) = true)))))], [], 118⟩ : TS) ?_ ?_
             ·refine AW2_reg [0, 1, 2, 3, 4, 5, 6, 7, 8, 9, 10, 11, 12] rfl ?_
              refine rp rfl rfl (u_fa rfl rfl Tryd.underlying37 rfl in_3 (Nat.succ_ne_zero _) rfl rfl (ne_of_lt (n := 0) (Nat.lt_of_lt_of_eq (by decide) (Eq.symm (GQuery.len q1))))) ?_
              refine rp rfl rfl (u_ld rfl rfl Tryd.underlying3 rfl rfl ((Sub.refl _).trans (GQuery.sub5 q1))) ?_
              refine rp rfl rfl (p_bin rfl rfl rfl rfl) ?_
              refine rp rfl rfl (p_move rfl rfl) ?_
              refine (Classical.em (q1.Most < (0 : Int))).elim (fun h28 => ?_) (fun h28 => ?_)
              ·iterate 4 (refine r_off rfl rfl rfl rfl (decide_eq_true h28) rfl rfl ?_)
               iterate 3 (refine r_off2 rfl rfl rfl rfl rfl rfl ?_)
               refine r_off rfl rfl rfl rfl (decide_eq_true h28) rfl rfl ?_
               refine rp rfl rfl (p_pkt rfl rfl (decide_eq_true h28) (tb (decide_eq_true (p := (q1.Most < (0 : Int)) ∨ ((q1.Most > (0 : Int)) ∧ ((!q1.Cut) = true))) (Or.inl h28)).symm)) ?_
               refine rs [(117, .b (decide ((q1.Most < (0 : Int)) ∨ ((q1.Most > (0 : Int)) ∧ ((!q1.Cut) = true)))))] [] rfl rfl rfl ?_
               exact RunW_nil rfl
              ·refine r_on rfl rfl rfl rfl (decide_eq_false h28) rfl (PureD.opD (u_fa rfl rfl Tryd.underlying37 rfl in_3 (Nat.succ_ne_zero _) rfl rfl (ne_of_lt (n := 0) (Nat.lt_of_lt_of_eq (by decide) (Eq.symm (GQuery.len q1)))))) ?_
               refine r_on rfl rfl rfl rfl (decide_eq_false h28) rfl (PureD.opD (u_ld rfl rfl Tryd.underlying3 rfl rfl ((Sub.refl _).trans (GQuery.sub5 q1)))) ?_
               refine r_on rfl rfl rfl rfl (decide_eq_false h28) rfl (PureD.opD (p_bin rfl rfl rfl rfl)) ?_
               refine r_on rfl rfl rfl rfl (decide_eq_false h28) rfl (PureD.opD (p_move rfl rfl)) ?_
               refine (Classical.em (q1.Most > (0 : Int))).elim (fun h29 => ?_) (fun h29 => ?_)
               ·refine r_on rfl rfl rfl rfl (decide_eq_true h29) rfl (PureD.opD (u_fa rfl rfl Tryd.underlying37 rfl in_4 (Nat.succ_ne_zero _) rfl rfl (ne_of_lt (n := 0) (Nat.lt_of_lt_of_eq (by decide) (Eq.symm (GQuery.len q1)))))) ?_
                refine r_on rfl rfl rfl rfl (decide_eq_true h29) rfl (PureD.opD (u_ld rfl rfl Tryd.underlying4 rfl rfl ((Sub.refl _).trans (GQuery.sub4 q1)))) ?_
                refine r_on rfl rfl rfl rfl (decide_eq_true h29) rfl (PureD.opD (p_not rfl rfl)) ?_
                refine r_on rfl rfl rfl rfl (decide_eq_false h28) rfl (PureD.opD (p_pkt rfl rfl (decide_eq_true h29) (tb ((bdec _).trans (and_l (p := q1.Most > (0 : Int)) (q := (!q1.Cut) = true) h29))))) ?_
                refine rp rfl rfl (p_pkf rfl rfl (decide_eq_false h28) (tb ((or_l (p := q1.Most < (0 : Int)) (q := (q1.Most > (0 : Int)) ∧ ((!q1.Cut) = true)) h28)))) ?_
                refine rs [(117, .b (decide ((q1.Most < (0 : Int)) ∨ ((q1.Most > (0 : Int)) ∧ ((!q1.Cut) = true)))))] [] rfl rfl rfl ?_
                exact RunW_nil rfl
               ·iterate 3 (refine r_off rfl rfl rfl rfl (decide_eq_false h29) rfl rfl ?_)
                refine r_on rfl rfl rfl rfl (decide_eq_false h28) rfl (PureD.opD (p_pkf rfl rfl (decide_eq_false h29) (tb (decide_eq_false (p := (q1.Most > (0 : Int)) ∧ ((!q1.Cut) = true)) (fun x => h29 x.1)).symm))) ?_
                refine rp rfl rfl (p_pkf rfl rfl (decide_eq_false h28) (tb ((or_l (p := q1.Most < (0 : Int)) (q := (q1.Most > (0 : Int)) ∧ ((!q1.Cut) = true)) h28)))) ?_
                refine rs [(117, .b (decide ((q1.Most < (0 : Int)) ∨ ((q1.Most > (0 : Int)) ∧ ((!q1.Cut) = true)))))] [] rfl rfl rfl ?_
                exact RunW_nil rfl
             ·refine AW2_if (p := (q1.Most < (0 : Int)) ∨ ((q1.Most > (0 : Int)) ∧ ((!q1.Cut) = true))) rfl (fun h30 => ?_) (fun h30 => ?_)
              ·replace H := ite_then h30 H
               refine sg [0] rfl ?_
               refine rp rfl rfl (p_asg rfl rfl) ?_
               refine rz [(4, .i (6 : Int))] [] rfl rfl rfl ?_
               refine AW2_ret ?_
               have hz := some_elim H
               subst hz
               exact ⟨⟨res_tmp (.same _), trivial⟩, trivial⟩
              ·replace H := ite_else h30 H
               refine as2 [] [] rfl rfl rfl ?_
               refine AW2_skip ?_
               refine sg [0] rfl ?_
               refine rp rfl rfl (p_asg rfl rfl) ?_
               refine rz [(4, .i (0 : Int))] [] rfl rfl rfl ?_
               refine AW2_ret ?_
               have hz := some_elim H
               subst hz
               exact ⟨⟨res_tmp (.same _), trivial⟩, trivial⟩
end Go.Proofs.YtcahembojhmpbaaDoor.VM
