/- Functions of the program, as they answer, and that their code comes to these answers. -/
import Derived.Test.YtglgdaeimfdpfaaDf2
namespace Go.Proofs.Ytglgdaeimfdpfaa.VM
open Go Go.RowKit

theorem in_5 : Info Try.prog 5 1 1 (.int .u8 0) := by unfold Info; kernel_rfl
theorem one_5 : (.int .u8 0 : Value).cells.all (·.oneCell') = true := by kernel_rfl
theorem zc_5 : ((.int .u8 0 : Value).cells.toList.map zcell) = [(AV.b8 (0 : UInt8))] := by rfl
theorem eq_32 : EqT Try.prog 32 2 (fun x : Vector UInt8 32 => .agg (bcells x.toList)) := eqt_arr1 Try.underlying32 in_5 (by kernel_rfl) Try.underlying5 rfl (eqt_b8 Try.underlying5)
theorem eq_70 : EqT Try.prog 70 3 (fun x : GPut => .agg (GPut.cs x)) :=
  eqt_struct [fun a b => a.At = b.At, fun a b => a.Data = b.Data] Try.underlying70 (by kernel_rfl) ⟨(FieldEq.more (fe_one (by decide) Try.underlying3 rfl (eqt_int Try.underlying3) (fun a => GPut.sub0 a)) (by decide : 1 ≤ 2)), (FieldEq.more (fe_agg (g := fun y : Vector UInt8 32 => bcells y.toList) (by decide) Try.underlying32 rfl in_32 eq_32 (fun a => GPut.sub1 a) (fun x => ((bcells_length _).trans (vlen x)))) (by decide : 2 ≤ 2)), trivial⟩ (fun a b => by
    cases a; cases b
    simp)

/-! chirographlaw.sameDisk -/
def g_law_sameDisk_r6 : List (List (Nat × Option Nat)) := [[(2, none)], [(29, some 0)], [(5, none)], [(30, some 1), (31, some 2)], [(32, some 3)], [(3, none)], [(34, some 5)], [(5, none)], [(35, some 6), (36, some 7)], [(37, some 8)]]
def g_law_sameDisk_r6c : List (List Nat) := [[], [0], [], [0, 1, 2], [0, 1, 2, 3], [], [5], [], [5, 6, 7], [5, 6, 7, 8], [0, 1, 2, 3, 4, 5, 6, 7, 8, 9]]
def g_law_sameDisk_r12 : List (List (Nat × Option Nat)) := [[(2, none)], [(47, some 0)], [(6, none)], [(48, some 1), (49, some 2)], [(50, some 3)], [(3, none)], [(52, some 5)], [(6, none)], [(53, some 6), (54, some 7)], [(55, some 8)]]
def g_law_sameDisk_r12c : List (List Nat) := [[], [0], [], [0, 1, 2], [0, 1, 2, 3], [], [5], [], [5, 6, 7], [5, 6, 7, 8], [0, 1, 2, 3, 4, 5, 6, 7, 8, 9]]
noncomputable def g_law_sameDisk_l0 (a0 : GDisk) (b1 : GDisk) : Int → Option (Int ⊕ (Bool ⊕ Unit))
  | t26_0 => (if t26_0 < (a0.Lasts.length : Int) then if 0 ≤ t26_0 ∧ t26_0 < (a0.Lasts.length : Int) then if 0 ≤ t26_0 ∧ t26_0 < (b1.Lasts.length : Int) then (if (lrd a0.Lasts t26_0.toNat) ≠ (lrd b1.Lasts t26_0.toNat) then some (.inr (.inl false)) else some (.inl (w64 (t26_0 + (1 : Int))))) else none else none else some (.inr (.inr ())))
noncomputable def g_law_sameDisk_l1 (a0 : GDisk) (b1 : GDisk) : Int → Option (Int ⊕ (Bool ⊕ Unit))
  | t44_1 => (if t44_1 < (a0.Writes.length : Int) then if 0 ≤ t44_1 ∧ t44_1 < (a0.Writes.length : Int) then if 0 ≤ t44_1 ∧ t44_1 < (b1.Writes.length : Int) then (if (lrd a0.Writes t44_1.toNat) ≠ (lrd b1.Writes t44_1.toNat) then some (.inr (.inl false)) else some (.inl (w64 (t44_1 + (1 : Int))))) else none else none else some (.inr (.inr ())))
noncomputable def g_law_sameDisk (a0 : GDisk) (b1 : GDisk) : Option (Bool) :=
  (if ((a0.Lasts.length : Int) ≠ (b1.Lasts.length : Int)) ∨ ((a0.Writes.length : Int) ≠ (b1.Writes.length : Int)) then some false else (loopO (g_law_sameDisk_l0 a0 b1) (0 : Int)).bind fun o'4 => match o'4 with | .inl y'5 => some y'5 | .inr (y'6) => (loopO (g_law_sameDisk_l1 a0 b1) (0 : Int)).bind fun o'10 => match o'10 with | .inl y'11 => some y'11 | .inr (y'12) => some true)
set_option maxHeartbeats 4000000 in
set_option maxRecDepth 100000 in
theorem g_law_sameDisk_ac {a0 : GDisk} {b1 : GDisk} {r : Bool} (H : g_law_sameDisk a0 b1 = some r) : ACp Try.prog 13 [(.agg (GDisk.cs a0)), (.agg (GDisk.cs b1))] (AV.bool r) := by
 refine ACp_of (AC2_of_body (vs := [.b r]) Try.func13 rfl rfl (Nat.le_of_ble_eq_true rfl) rfl ?_) (fun _ => .same _)
 unfold g_law_sameDisk at H
 refine as2 [(0, .g (GDisk.cs a0)), (1, .g (GDisk.cs b1))] [] rfl rfl rfl ?_
 refine sg [0, 1, 2] rfl ?_
 refine r_op rfl rfl (MakeD.opD (n_box 2 rfl rfl) rfl rfl rfl rfl) ?_
 refine r_op rfl rfl (MakeD.opD (n_box 3 rfl rfl) rfl rfl rfl rfl) ?_
 refine rp rfl rfl (p_asg rfl rfl) ?_
 refine rz [(2, .q 2 (0)), (3, .q 3 (0))] [(2, .pure (GDisk.cs a0)), (3, .pure (GDisk.cs b1))] rfl rfl rfl ?_
 refine AW2_seq ?_
 refine AW2_seq ?_
 refine AW2_mid (⟨[(2, .q 2 (0)), (3, .q 3 (0)), (22, .b (decide (((a0.Lasts.length : Int) ≠ (b1.Lasts.length : Int)) ∨ ((a0.Writes.length : Int) ≠ (b1.Writes.length : Int)))))], [(2, .pure (GDisk.cs a0)), (3, .pure (GDisk.cs b1))], 59⟩ : TS) ?_ ?_
 ·refine AW2_reg [0, 1, 2, 3, 4, 5, 6, 7, 8, 9, 10, 11, 12, 13, 14, 15] rfl ?_
  refine rp rfl rfl (u_fa rfl rfl Try.underlying25 rfl in_22 (Nat.succ_ne_zero _) rfl rfl (ne_of_lt (n := 0) (Nat.lt_of_lt_of_eq (by decide) (Eq.symm (GDisk.len a0))))) ?_
  refine rp rfl rfl (u_ld rfl rfl Try.underlying22 rfl rfl ((Sub.refl _).trans (GDisk.sub0 a0))) ?_
  refine rp rfl rfl (p_lenl rfl Try.underlying22 rfl rfl) ?_
  refine rp rfl rfl (u_fa rfl rfl Try.underlying25 rfl in_22 (Nat.succ_ne_zero _) rfl rfl (ne_of_lt (n := 0) (Nat.lt_of_lt_of_eq (by decide) (Eq.symm (GDisk.len b1))))) ?_
  refine rp rfl rfl (u_ld rfl rfl Try.underlying22 rfl rfl ((Sub.refl _).trans (GDisk.sub0 b1))) ?_
  refine rp rfl rfl (p_lenl rfl Try.underlying22 rfl rfl) ?_
  refine rp rfl rfl (p_ine rfl rfl rfl) ?_
  refine rp rfl rfl (p_move rfl rfl) ?_
  refine (Classical.em ((a0.Lasts.length : Int) ≠ (b1.Lasts.length : Int))).elim (fun h1 => ?_) (fun h1 => ?_)
  ·refine r_off rfl rfl rfl rfl (decide_eq_true h1) rfl rfl ?_
   refine r_off rfl rfl rfl rfl (decide_eq_true h1) rfl rfl ?_
   refine r_off rfl rfl rfl rfl (decide_eq_true h1) rfl rfl ?_
   refine r_off rfl rfl rfl rfl (decide_eq_true h1) rfl rfl ?_
   refine r_off rfl rfl rfl rfl (decide_eq_true h1) rfl rfl ?_
   refine r_off rfl rfl rfl rfl (decide_eq_true h1) rfl rfl ?_
   refine r_off rfl rfl rfl rfl (decide_eq_true h1) rfl rfl ?_
   refine rp rfl rfl (p_pkt rfl rfl (decide_eq_true h1) (tb (decide_eq_true (p := ((a0.Lasts.length : Int) ≠ (b1.Lasts.length : Int)) ∨ ((a0.Writes.length : Int) ≠ (b1.Writes.length : Int))) (Or.inl h1)).symm)) ?_
   refine rs [(2, .q 2 (0)), (3, .q 3 (0)), (22, .b (decide (((a0.Lasts.length : Int) ≠ (b1.Lasts.length : Int)) ∨ ((a0.Writes.length : Int) ≠ (b1.Writes.length : Int)))))] [(2, .pure (GDisk.cs a0)), (3, .pure (GDisk.cs b1))] rfl rfl rfl ?_
   exact RunW_nil rfl
  ·refine r_on rfl rfl rfl rfl (decide_eq_false h1) rfl (PureD.opD (u_fa rfl rfl Try.underlying25 rfl in_23 (Nat.succ_ne_zero _) rfl rfl (ne_of_lt (n := 0) (Nat.lt_of_lt_of_eq (by decide) (Eq.symm (GDisk.len a0)))))) ?_
   refine r_on rfl rfl rfl rfl (decide_eq_false h1) rfl (PureD.opD (u_ld rfl rfl Try.underlying23 rfl rfl ((Sub.refl _).trans (GDisk.sub1 a0)))) ?_
   refine r_on rfl rfl rfl rfl (decide_eq_false h1) rfl (PureD.opD (p_lenl rfl Try.underlying23 rfl rfl)) ?_
   refine r_on rfl rfl rfl rfl (decide_eq_false h1) rfl (PureD.opD (u_fa rfl rfl Try.underlying25 rfl in_23 (Nat.succ_ne_zero _) rfl rfl (ne_of_lt (n := 0) (Nat.lt_of_lt_of_eq (by decide) (Eq.symm (GDisk.len b1)))))) ?_
   refine r_on rfl rfl rfl rfl (decide_eq_false h1) rfl (PureD.opD (u_ld rfl rfl Try.underlying23 rfl rfl ((Sub.refl _).trans (GDisk.sub1 b1)))) ?_
   refine r_on rfl rfl rfl rfl (decide_eq_false h1) rfl (PureD.opD (p_lenl rfl Try.underlying23 rfl rfl)) ?_
   refine r_on rfl rfl rfl rfl (decide_eq_false h1) rfl (PureD.opD (p_ine rfl rfl rfl)) ?_
   refine rp rfl rfl (p_pkf rfl rfl (decide_eq_false h1) (tb ((or_l (p := (a0.Lasts.length : Int) ≠ (b1.Lasts.length : Int)) (q := (a0.Writes.length : Int) ≠ (b1.Writes.length : Int)) h1)))) ?_
   refine rs [(2, .q 2 (0)), (3, .q 3 (0)), (22, .b (decide (((a0.Lasts.length : Int) ≠ (b1.Lasts.length : Int)) ∨ ((a0.Writes.length : Int) ≠ (b1.Writes.length : Int)))))] [(2, .pure (GDisk.cs a0)), (3, .pure (GDisk.cs b1))] rfl rfl rfl ?_
   exact RunW_nil rfl
 ·refine AW2_if (p := ((a0.Lasts.length : Int) ≠ (b1.Lasts.length : Int)) ∨ ((a0.Writes.length : Int) ≠ (b1.Writes.length : Int))) rfl (fun h2 => ?_) (fun h2 => ?_)
  ·replace H := ite_then h2 H
   refine sg [0] rfl ?_
   refine rp rfl rfl (p_asg rfl rfl) ?_
   refine rz [(4, .b false)] [] rfl rfl rfl ?_
   refine AW2_ret ?_
   have hz := some_elim H
   subst hz
   exact ⟨⟨res_tmp (.same _), trivial⟩, trivial⟩
  ·replace H := ite_else h2 H
   refine as2 [(2, .q 2 (0)), (3, .q 3 (0))] [(2, .pure (GDisk.cs a0)), (3, .pure (GDisk.cs b1))] rfl rfl rfl ?_
   refine AW2_skip ?_
   refine AW2_seq ?_
   refine sg [0, 1, 2, 3] rfl ?_
   refine rp rfl rfl (u_fa rfl rfl Try.underlying25 rfl in_22 (Nat.succ_ne_zero _) rfl rfl (ne_of_lt (n := 0) (Nat.lt_of_lt_of_eq (by decide) (Eq.symm (GDisk.len a0))))) ?_
   refine rp rfl rfl (u_ld rfl rfl Try.underlying22 rfl rfl ((Sub.refl _).trans (GDisk.sub0 a0))) ?_
   refine rp rfl rfl (p_lenl rfl Try.underlying22 rfl rfl) ?_
   refine rp rfl rfl (p_move rfl rfl) ?_
   refine rz [(2, .q 2 (0)), (3, .q 3 (0)), (25, .i (a0.Lasts.length : Int)), (26, .i (0 : Int))] [(2, .pure (GDisk.cs a0)), (3, .pure (GDisk.cs b1))] rfl rfl rfl ?_
   refine AW2_block ?_
   refine as2 [(2, .q 2 (0)), (3, .q 3 (0)), (25, .i (a0.Lasts.length : Int)), (26, .i (0 : Int))] [(2, .pure (GDisk.cs a0)), (3, .pure (GDisk.cs b1))] rfl rfl rfl ?_
   refine bindK H fun o'4 h7 H => ?_
   refine AW2_loopO (fun a'1 : Int => (⟨[(2, .q 2 (0)), (3, .q 3 (0)), (25, .i (a0.Lasts.length : Int)), (26, .i a'1)], [(2, .pure (GDisk.cs a0)), (3, .pure (GDisk.cs b1))], 59⟩ : TS)) (fun (o : Bool ⊕ Unit) e s' => match o with | .inl y'2 => e = Go.Exit.ret ∧ ResAll Try.prog s' [ResultVar.tmp 4] [.b y'2] ∧ HFits s' [] | .inr (y'3) => e = Go.Exit.exit 0 ∧ s' = (⟨[(2, .q 2 (0)), (3, .q 3 (0))], [(2, .pure (GDisk.cs a0)), (3, .pure (GDisk.cs b1))], 59⟩ : TS)) h7 rfl (fun t26_0 x hx => ?_) (fun e s' hs => ?_)
   ·clear H
    have H := hx
    clear hx
    unfold g_law_sameDisk_l0 at H
    refine sg [0] rfl ?_
    refine rp rfl rfl (p_bin rfl rfl rfl rfl) ?_
    refine rz [(2, .q 2 (0)), (3, .q 3 (0)), (25, .i (a0.Lasts.length : Int)), (26, .i t26_0), (27, .b (decide (t26_0 < (a0.Lasts.length : Int))))] [(2, .pure (GDisk.cs a0)), (3, .pure (GDisk.cs b1))] rfl rfl rfl ?_
    refine AW2_seq ?_
    refine AW2_if (p := t26_0 < (a0.Lasts.length : Int)) rfl (fun h3 => ?_) (fun h3 => ?_)
    ·replace H := ite_then h3 H
     refine as2 [(2, .q 2 (0)), (3, .q 3 (0)), (25, .i (a0.Lasts.length : Int)), (26, .i t26_0)] [(2, .pure (GDisk.cs a0)), (3, .pure (GDisk.cs b1))] rfl rfl rfl ?_
     refine AW2_skip ?_
     refine AW2_seq ?_
     refine AW2_block ?_
     refine sg [0, 1] rfl ?_
     refine rp rfl rfl (p_move rfl rfl) ?_
     refine rp rfl rfl (p_asg rfl rfl) ?_
     refine rz [(2, .q 2 (0)), (3, .q 3 (0)), (5, .i t26_0), (25, .i (a0.Lasts.length : Int)), (26, .i t26_0)] [(2, .pure (GDisk.cs a0)), (3, .pure (GDisk.cs b1))] rfl rfl rfl ?_
     refine AW2_seq ?_
     refine chkK H fun h4 H => ?_
     refine chkK H fun h5 H => ?_
     refine AW2_ghoQ ?_
     refine AW2_draw 10 [10] (fun k => ([.q 2 (0 + 0), .p ((fun q : List (Vector UInt8 32) => AV.lst (q.flatMap (fun v : Vector UInt8 32 => bcells v.toList)) q.length) a0.Lasts), .i t26_0, .p (.rptr (a0.Lasts.flatMap (fun v : Vector UInt8 32 => bcells v.toList)) (t26_0.toNat * 32)), .g (bcells ((lrd a0.Lasts t26_0.toNat).toList)), .q 3 (0 + 0), .p ((fun q : List (Vector UInt8 32) => AV.lst (q.flatMap (fun v : Vector UInt8 32 => bcells v.toList)) q.length) b1.Lasts), .i t26_0, .p (.rptr (b1.Lasts.flatMap (fun v : Vector UInt8 32 => bcells v.toList)) (t26_0.toNat * 32)), .g (bcells ((lrd b1.Lasts t26_0.toNat).toList))] : List TV).getD k TV.any) (fun k => g_law_sameDisk_r6.getD k []) [(2, none), (3, none), (25, none), (26, none), (33, some 4), (38, some 9)] [] (fun k => g_law_sameDisk_r6c.getD k []) mixed (by kernel_rfl) rfl rfl (a_op (g_x rfl (x_p rfl (u_fa rfl rfl Try.underlying25 rfl in_22 (Nat.succ_ne_zero _) rfl rfl (ne_of_lt (n := 0) (Nat.lt_of_lt_of_eq (by decide) (Eq.symm (GDisk.len a0))))) rfl)) (a_op (g_x rfl (x_p rfl (u_ld rfl rfl Try.underlying22 rfl rfl ((Sub.refl _).trans (GDisk.sub0 a0))) rfl)) (a_op (g_x rfl (x_p rfl (p_move rfl rfl) rfl)) (a_op (g_x rfl (x_p rfl (u_ixl rfl rfl Try.underlying22 in_32 rfl rfl (ixe h4) (ixn h4) (fne (fun x => ((bcells_length _).trans (vlen x))) (by decide) (ixn h4))) rfl)) (a_op (g_x rfl (x_p rfl (u_lda rfl rfl Try.underlying32 rfl in_32 rfl (Nat.succ_pos _) (Sub.fm default (fun x => ((bcells_length _).trans (vlen x))) (ixn h4)) ((bcells_length _).trans (vlen (lrd a0.Lasts t26_0.toNat)))) rfl)) (a_op (g_x rfl (x_p rfl (u_fa rfl rfl Try.underlying25 rfl in_22 (Nat.succ_ne_zero _) rfl rfl (ne_of_lt (n := 0) (Nat.lt_of_lt_of_eq (by decide) (Eq.symm (GDisk.len b1))))) rfl)) (a_op (g_x rfl (x_p rfl (u_ld rfl rfl Try.underlying22 rfl rfl ((Sub.refl _).trans (GDisk.sub0 b1))) rfl)) (a_op (g_x rfl (x_p rfl (p_move rfl rfl) rfl)) (a_op (g_x rfl (x_p rfl (u_ixl rfl rfl Try.underlying22 in_32 rfl rfl (ixe h5) (ixn h5) (fne (fun x => ((bcells_length _).trans (vlen x))) (by decide) (ixn h5))) rfl)) (a_op (g_x rfl (x_p rfl (u_lda rfl rfl Try.underlying32 rfl in_32 rfl (Nat.succ_pos _) (Sub.fm default (fun x => ((bcells_length _).trans (vlen x))) (ixn h5)) ((bcells_length _).trans (vlen (lrd b1.Lasts t26_0.toNat)))) rfl)) (a_nil))))))))))) ?_
     refine t_op rfl rfl (PureD.opD (p_nea (a := (lrd a0.Lasts t26_0.toNat)) (b := (lrd b1.Lasts t26_0.toNat)) rfl eq_32 rfl (by kernel_rfl) rfl rfl)) ?_
     refine t_gho (Gho_st (L := [(2, .q 2 (0)), (3, .q 3 (0)), (25, .i (a0.Lasts.length : Int)), (26, .i t26_0), (39, .b (decide ((lrd a0.Lasts t26_0.toNat) ≠ (lrd b1.Lasts t26_0.toNat))))]) (H := [(2, .pure (GDisk.cs a0)), (3, .pure (GDisk.cs b1))]) (N := 59) rfl ⟨TLes.same _, TLes.same _, TLes.same _, TLes.same _, TLes.same _, trivial⟩ ⟨rfl, rfl, trivial⟩) ?_
     refine AW2_if (p := (lrd a0.Lasts t26_0.toNat) ≠ (lrd b1.Lasts t26_0.toNat)) rfl (fun h6 => ?_) (fun h6 => ?_)
     ·replace H := ite_then h6 H
      refine sg [0] rfl ?_
      refine rp rfl rfl (p_asg rfl rfl) ?_
      refine rz [(4, .b false)] [] rfl rfl rfl ?_
      refine AW2_ret ?_
      have hz := some_elim H
      subst hz
      exact ⟨rfl, ⟨res_tmp (.same _), trivial⟩, trivial⟩
     ·replace H := ite_else h6 H
      refine as2 [(2, .q 2 (0)), (3, .q 3 (0)), (25, .i (a0.Lasts.length : Int)), (26, .i t26_0)] [(2, .pure (GDisk.cs a0)), (3, .pure (GDisk.cs b1))] rfl rfl rfl ?_
      refine AW2_skip ?_
      refine AW2_reg [0, 1] rfl ?_
      refine rp rfl rfl (p_bin rfl rfl rfl rfl) ?_
      refine rp rfl rfl (p_move rfl rfl) ?_
      refine rz [(2, .q 2 (0)), (3, .q 3 (0)), (25, .i (a0.Lasts.length : Int)), (26, .i (w64 (t26_0 + (1 : Int))))] [(2, .pure (GDisk.cs a0)), (3, .pure (GDisk.cs b1))] rfl rfl rfl ?_
      have hz := some_elim H
      subst hz
      exact ⟨rfl, rfl⟩
    ·replace H := ite_else h3 H
     refine as2 [(2, .q 2 (0)), (3, .q 3 (0))] [(2, .pure (GDisk.cs a0)), (3, .pure (GDisk.cs b1))] rfl rfl rfl ?_
     refine AW2_exit ?_
     refine thenQ2_exit ?_
     have hz := some_elim H
     subst hz
     exact ⟨rfl, rfl⟩
   ·rcases o'4 with y'5 | y'6
    ·obtain ⟨rfl, hs⟩ := hs
     refine ⟨by simp, ?_⟩
     have hz := some_elim H
     subst hz
     exact ⟨hs.1, hs.2⟩
    ·obtain ⟨rfl, rfl⟩ := hs
     refine ⟨by simp, ?_⟩
     refine blockQ2_exit ?_
     refine AW2_seq ?_
     refine sg [0, 1, 2, 3] rfl ?_
     refine rp rfl rfl (u_fa rfl rfl Try.underlying25 rfl in_23 (Nat.succ_ne_zero _) rfl rfl (ne_of_lt (n := 0) (Nat.lt_of_lt_of_eq (by decide) (Eq.symm (GDisk.len a0))))) ?_
     refine rp rfl rfl (u_ld rfl rfl Try.underlying23 rfl rfl ((Sub.refl _).trans (GDisk.sub1 a0))) ?_
     refine rp rfl rfl (p_lenl rfl Try.underlying23 rfl rfl) ?_
     refine rp rfl rfl (p_move rfl rfl) ?_
     refine rz [(2, .q 2 (0)), (3, .q 3 (0)), (43, .i (a0.Writes.length : Int)), (44, .i (0 : Int))] [(2, .pure (GDisk.cs a0)), (3, .pure (GDisk.cs b1))] rfl rfl rfl ?_
     refine AW2_block ?_
     refine as2 [(2, .q 2 (0)), (3, .q 3 (0)), (43, .i (a0.Writes.length : Int)), (44, .i (0 : Int))] [(2, .pure (GDisk.cs a0)), (3, .pure (GDisk.cs b1))] rfl rfl rfl ?_
     refine bindK H fun o'10 h12 H => ?_
     refine AW2_loopO (fun a'7 : Int => (⟨[(2, .q 2 (0)), (3, .q 3 (0)), (43, .i (a0.Writes.length : Int)), (44, .i a'7)], [(2, .pure (GDisk.cs a0)), (3, .pure (GDisk.cs b1))], 59⟩ : TS)) (fun (o : Bool ⊕ Unit) e s' => match o with | .inl y'8 => e = Go.Exit.ret ∧ ResAll Try.prog s' [ResultVar.tmp 4] [.b y'8] ∧ HFits s' [] | .inr (y'9) => e = Go.Exit.exit 2 ∧ s' = (⟨[], [], 59⟩ : TS)) h12 rfl (fun t44_1 x hx => ?_) (fun e s' hs => ?_)
     ·clear H
      have H := hx
      clear hx
      unfold g_law_sameDisk_l1 at H
      refine sg [0] rfl ?_
      refine rp rfl rfl (p_bin rfl rfl rfl rfl) ?_
      refine rz [(2, .q 2 (0)), (3, .q 3 (0)), (43, .i (a0.Writes.length : Int)), (44, .i t44_1), (45, .b (decide (t44_1 < (a0.Writes.length : Int))))] [(2, .pure (GDisk.cs a0)), (3, .pure (GDisk.cs b1))] rfl rfl rfl ?_
      refine AW2_seq ?_
      refine AW2_if (p := t44_1 < (a0.Writes.length : Int)) rfl (fun h8 => ?_) (fun h8 => ?_)
      ·replace H := ite_then h8 H
       refine as2 [(2, .q 2 (0)), (3, .q 3 (0)), (43, .i (a0.Writes.length : Int)), (44, .i t44_1)] [(2, .pure (GDisk.cs a0)), (3, .pure (GDisk.cs b1))] rfl rfl rfl ?_
       refine AW2_skip ?_
       refine AW2_seq ?_
       refine AW2_block ?_
       refine sg [0, 1] rfl ?_
       refine rp rfl rfl (p_move rfl rfl) ?_
       refine rp rfl rfl (p_asg rfl rfl) ?_
       refine rz [(2, .q 2 (0)), (3, .q 3 (0)), (6, .i t44_1), (43, .i (a0.Writes.length : Int)), (44, .i t44_1)] [(2, .pure (GDisk.cs a0)), (3, .pure (GDisk.cs b1))] rfl rfl rfl ?_
       refine AW2_seq ?_
       refine chkK H fun h9 H => ?_
       refine chkK H fun h10 H => ?_
       refine AW2_ghoQ ?_
       refine AW2_draw 10 [10] (fun k => ([.q 2 (0 + 1), .p ((fun q : List GPut => AV.lst (q.flatMap GPut.cs) q.length) a0.Writes), .i t44_1, .p (.rptr (a0.Writes.flatMap GPut.cs) (t44_1.toNat * 33)), .g (GPut.cs (lrd a0.Writes t44_1.toNat)), .q 3 (0 + 1), .p ((fun q : List GPut => AV.lst (q.flatMap GPut.cs) q.length) b1.Writes), .i t44_1, .p (.rptr (b1.Writes.flatMap GPut.cs) (t44_1.toNat * 33)), .g (GPut.cs (lrd b1.Writes t44_1.toNat))] : List TV).getD k TV.any) (fun k => g_law_sameDisk_r12.getD k []) [(2, none), (3, none), (43, none), (44, none), (51, some 4), (56, some 9)] [] (fun k => g_law_sameDisk_r12c.getD k []) mixed (by kernel_rfl) rfl rfl (a_op (g_x rfl (x_p rfl (u_fa rfl rfl Try.underlying25 rfl in_23 (Nat.succ_ne_zero _) rfl rfl (ne_of_lt (n := 0) (Nat.lt_of_lt_of_eq (by decide) (Eq.symm (GDisk.len a0))))) rfl)) (a_op (g_x rfl (x_p rfl (u_ld rfl rfl Try.underlying23 rfl rfl ((Sub.refl _).trans (GDisk.sub1 a0))) rfl)) (a_op (g_x rfl (x_p rfl (p_move rfl rfl) rfl)) (a_op (g_x rfl (x_p rfl (u_ixl rfl rfl Try.underlying23 in_70 rfl rfl (ixe h9) (ixn h9) (fne (fun x => (GPut.len x)) (by decide) (ixn h9))) rfl)) (a_op (g_x rfl (x_p rfl (u_lda rfl rfl Try.underlying70 rfl in_70 rfl (Nat.succ_pos _) (Sub.fm default (fun x => (GPut.len x)) (ixn h9)) (GPut.len (lrd a0.Writes t44_1.toNat))) rfl)) (a_op (g_x rfl (x_p rfl (u_fa rfl rfl Try.underlying25 rfl in_23 (Nat.succ_ne_zero _) rfl rfl (ne_of_lt (n := 0) (Nat.lt_of_lt_of_eq (by decide) (Eq.symm (GDisk.len b1))))) rfl)) (a_op (g_x rfl (x_p rfl (u_ld rfl rfl Try.underlying23 rfl rfl ((Sub.refl _).trans (GDisk.sub1 b1))) rfl)) (a_op (g_x rfl (x_p rfl (p_move rfl rfl) rfl)) (a_op (g_x rfl (x_p rfl (u_ixl rfl rfl Try.underlying23 in_70 rfl rfl (ixe h10) (ixn h10) (fne (fun x => (GPut.len x)) (by decide) (ixn h10))) rfl)) (a_op (g_x rfl (x_p rfl (u_lda rfl rfl Try.underlying70 rfl in_70 rfl (Nat.succ_pos _) (Sub.fm default (fun x => (GPut.len x)) (ixn h10)) (GPut.len (lrd b1.Writes t44_1.toNat))) rfl)) (a_nil))))))))))) ?_
       refine t_op rfl rfl (PureD.opD (p_nea (a := (lrd a0.Writes t44_1.toNat)) (b := (lrd b1.Writes t44_1.toNat)) rfl eq_70 rfl (by kernel_rfl) rfl rfl)) ?_
       refine t_gho (Gho_st (L := [(2, .q 2 (0)), (3, .q 3 (0)), (43, .i (a0.Writes.length : Int)), (44, .i t44_1), (57, .b (decide ((lrd a0.Writes t44_1.toNat) ≠ (lrd b1.Writes t44_1.toNat))))]) (H := [(2, .pure (GDisk.cs a0)), (3, .pure (GDisk.cs b1))]) (N := 59) rfl ⟨TLes.same _, TLes.same _, TLes.same _, TLes.same _, TLes.same _, trivial⟩ ⟨rfl, rfl, trivial⟩) ?_
       refine AW2_if (p := (lrd a0.Writes t44_1.toNat) ≠ (lrd b1.Writes t44_1.toNat)) rfl (fun h11 => ?_) (fun h11 => ?_)
       ·replace H := ite_then h11 H
        refine sg [0] rfl ?_
        refine rp rfl rfl (p_asg rfl rfl) ?_
        refine rz [(4, .b false)] [] rfl rfl rfl ?_
        refine AW2_ret ?_
        have hz := some_elim H
        subst hz
        exact ⟨rfl, ⟨res_tmp (.same _), trivial⟩, trivial⟩
       ·replace H := ite_else h11 H
        refine as2 [(2, .q 2 (0)), (3, .q 3 (0)), (43, .i (a0.Writes.length : Int)), (44, .i t44_1)] [(2, .pure (GDisk.cs a0)), (3, .pure (GDisk.cs b1))] rfl rfl rfl ?_
        refine AW2_skip ?_
        refine AW2_reg [0, 1] rfl ?_
        refine rp rfl rfl (p_bin rfl rfl rfl rfl) ?_
        refine rp rfl rfl (p_move rfl rfl) ?_
        refine rz [(2, .q 2 (0)), (3, .q 3 (0)), (43, .i (a0.Writes.length : Int)), (44, .i (w64 (t44_1 + (1 : Int))))] [(2, .pure (GDisk.cs a0)), (3, .pure (GDisk.cs b1))] rfl rfl rfl ?_
        have hz := some_elim H
        subst hz
        exact ⟨rfl, rfl⟩
      ·replace H := ite_else h8 H
       refine as2 [] [] rfl rfl rfl ?_
       refine AW2_exit ?_
       refine thenQ2_exit ?_
       have hz := some_elim H
       subst hz
       exact ⟨rfl, rfl⟩
     ·rcases o'10 with y'11 | y'12
      ·obtain ⟨rfl, hs⟩ := hs
       refine ⟨by simp, ?_⟩
       have hz := some_elim H
       subst hz
       exact ⟨hs.1, hs.2⟩
      ·obtain ⟨rfl, rfl⟩ := hs
       refine ⟨by simp, ?_⟩
       refine blockQ2_exit ?_
       refine sg [0] rfl ?_
       refine rp rfl rfl (p_asg rfl rfl) ?_
       refine rz [(4, .b true)] [] rfl rfl rfl ?_
       refine AW2_ret ?_
       have hz := some_elim H
       subst hz
       exact ⟨⟨res_tmp (.same _), trivial⟩, trivial⟩

/-! chirographlaw.DiskFalls -/
noncomputable def g_law_DiskFalls (d0 : GDisk) (keep1 : Int) : Option (Bool) :=
  (g_disk_Sync d0).bind fun r'1 => (g_disk_Crash d0 keep1).bind fun r'2 => (g_ref_Fallen d0 (0 : Int) true).bind fun r'3 => (g_ref_Fallen d0 keep1 false).bind fun r'4 => ((if r'1.2 = r'3.2 then (if r'2.2 = r'4.2 then (g_law_sameDisk r'1.1 r'3.1).bind fun r'6 => (if r'6 = true then (g_law_sameDisk r'2.1 r'4.1).bind fun r'7 => some r'7 else some false) else some false) else some false)).bind fun g'8 => some g'8
set_option maxHeartbeats 4000000 in
set_option maxRecDepth 100000 in
theorem g_law_DiskFalls_ac {d0 : GDisk} {keep1 : Int} {r : Bool} (H : g_law_DiskFalls d0 keep1 = some r) : ACp Try.prog 5 [(.agg (GDisk.cs d0)), (AV.int keep1)] (AV.bool r) := by
 refine ACp_of (AC2_of_body (vs := [.b r]) Try.func5 rfl rfl (Nat.le_of_ble_eq_true rfl) rfl ?_) (fun _ => .same _)
 unfold g_law_DiskFalls at H
 refine as2 [(0, .g (GDisk.cs d0)), (1, .i keep1)] [] rfl rfl rfl ?_
 refine sg [0, 1] rfl ?_
 refine r_op rfl rfl (MakeD.opD (n_box 2 rfl rfl) rfl rfl rfl rfl) ?_
 refine rp rfl rfl (p_asg rfl rfl) ?_
 refine rz [(1, .i keep1), (2, .q 2 (0))] [(2, .pure (GDisk.cs d0))] rfl rfl rfl ?_
 refine sg [0, 1, 2, 3, 4, 5, 6, 7] rfl ?_
 refine rp rfl rfl (u_lda rfl rfl Try.underlying25 rfl in_25 rfl (Nat.succ_pos _) (Sub.refl _) (GDisk.len d0)) ?_
 refine bindK H fun r'1 h1 H => ?_
 refine rp rfl rfl (p_callp rfl rfl rfl Try.func16 rfl rfl (g_disk_Sync_ac h1) ⟨rfl, trivial⟩) ?_
 refine rp rfl rfl (p_move rfl rfl) ?_
 refine rp rfl rfl (p_ext rfl rfl rfl rfl) ?_
 refine rp rfl rfl (p_ext rfl rfl rfl rfl) ?_
 refine r_op rfl rfl (MakeD.opD (u_alloc 5 rfl in_25 one_25 zc_25) rfl rfl rfl rfl) ?_
 refine r_op rfl rfl (u_st rfl rfl rfl rfl rfl in_25 (GDisk.len r'1.1) (ne_of_lt (n := 0) (Nat.lt_of_lt_of_eq (by decide) (Eq.symm (GDisk.len GDisk.zero)))) (Upd.refl ((GDisk.len r'1.1).trans (GDisk.len GDisk.zero).symm))) ?_
 refine rp rfl rfl (p_asg rfl rfl) ?_
 refine rz [(1, .i keep1), (2, .q 2 (0)), (5, .q 5 (0)), (6, .i r'1.2)] [(2, .pure (GDisk.cs d0)), (5, .pure (GDisk.cs r'1.1))] rfl rfl rfl ?_
 refine sg [0, 1, 2, 3, 4, 5, 6, 7, 8] rfl ?_
 refine rp rfl rfl (u_lda rfl rfl Try.underlying25 rfl in_25 rfl (Nat.succ_pos _) (Sub.refl _) (GDisk.len d0)) ?_
 refine rp rfl rfl (p_move rfl rfl) ?_
 refine bindK H fun r'2 h2 H => ?_
 refine rp rfl rfl (p_callp rfl rfl rfl Try.func17 rfl rfl (g_disk_Crash_ac h2) ⟨rfl, rfl, trivial⟩) ?_
 refine rp rfl rfl (p_move rfl rfl) ?_
 refine rp rfl rfl (p_ext rfl rfl rfl rfl) ?_
 refine rp rfl rfl (p_ext rfl rfl rfl rfl) ?_
 refine r_op rfl rfl (MakeD.opD (u_alloc 7 rfl in_25 one_25 zc_25) rfl rfl rfl rfl) ?_
 refine r_op rfl rfl (u_st rfl rfl rfl rfl rfl in_25 (GDisk.len r'2.1) (ne_of_lt (n := 0) (Nat.lt_of_lt_of_eq (by decide) (Eq.symm (GDisk.len GDisk.zero)))) (Upd.refl ((GDisk.len r'2.1).trans (GDisk.len GDisk.zero).symm))) ?_
 refine rp rfl rfl (p_asg rfl rfl) ?_
 refine rz [(1, .i keep1), (2, .q 2 (0)), (5, .q 5 (0)), (6, .i r'1.2), (7, .q 7 (0)), (8, .i r'2.2)] [(2, .pure (GDisk.cs d0)), (5, .pure (GDisk.cs r'1.1)), (7, .pure (GDisk.cs r'2.1))] rfl rfl rfl ?_
 refine sg [0, 1, 2, 3, 4, 5, 6, 7] rfl ?_
 refine rp rfl rfl (u_lda rfl rfl Try.underlying25 rfl in_25 rfl (Nat.succ_pos _) (Sub.refl _) (GDisk.len d0)) ?_
 refine bindK H fun r'3 h3 H => ?_
 refine rp rfl rfl (p_callp rfl rfl rfl Try.func18 rfl rfl (g_ref_Fallen_ac h3) ⟨rfl, rfl, rfl, trivial⟩) ?_
 refine rp rfl rfl (p_move rfl rfl) ?_
 refine rp rfl rfl (p_ext rfl rfl rfl rfl) ?_
 refine rp rfl rfl (p_ext rfl rfl rfl rfl) ?_
 refine r_op rfl rfl (MakeD.opD (u_alloc 9 rfl in_25 one_25 zc_25) rfl rfl rfl rfl) ?_
 refine r_op rfl rfl (u_st rfl rfl rfl rfl rfl in_25 (GDisk.len r'3.1) (ne_of_lt (n := 0) (Nat.lt_of_lt_of_eq (by decide) (Eq.symm (GDisk.len GDisk.zero)))) (Upd.refl ((GDisk.len r'3.1).trans (GDisk.len GDisk.zero).symm))) ?_
 refine rp rfl rfl (p_asg rfl rfl) ?_
 refine rz [(1, .i keep1), (2, .q 2 (0)), (5, .q 5 (0)), (6, .i r'1.2), (7, .q 7 (0)), (8, .i r'2.2), (9, .q 9 (0)), (10, .i r'3.2)] [(2, .pure (GDisk.cs d0)), (5, .pure (GDisk.cs r'1.1)), (7, .pure (GDisk.cs r'2.1)), (9, .pure (GDisk.cs r'3.1))] rfl rfl rfl ?_
 refine sg [0, 1, 2, 3, 4, 5, 6, 7, 8] rfl ?_
 refine rp rfl rfl (u_lda rfl rfl Try.underlying25 rfl in_25 rfl (Nat.succ_pos _) (Sub.refl _) (GDisk.len d0)) ?_
 refine rp rfl rfl (p_move rfl rfl) ?_
 refine bindK H fun r'4 h4 H => ?_
 refine rp rfl rfl (p_callp rfl rfl rfl Try.func18 rfl rfl (g_ref_Fallen_ac h4) ⟨rfl, rfl, rfl, trivial⟩) ?_
 refine rp rfl rfl (p_move rfl rfl) ?_
 refine rp rfl rfl (p_ext rfl rfl rfl rfl) ?_
 refine rp rfl rfl (p_ext rfl rfl rfl rfl) ?_
 refine r_op rfl rfl (MakeD.opD (u_alloc 11 rfl in_25 one_25 zc_25) rfl rfl rfl rfl) ?_
 refine r_op rfl rfl (u_st rfl rfl rfl rfl rfl in_25 (GDisk.len r'4.1) (ne_of_lt (n := 0) (Nat.lt_of_lt_of_eq (by decide) (Eq.symm (GDisk.len GDisk.zero)))) (Upd.refl ((GDisk.len r'4.1).trans (GDisk.len GDisk.zero).symm))) ?_
 refine rp rfl rfl (p_asg rfl rfl) ?_
 refine rz [(5, .q 5 (0)), (6, .i r'1.2), (7, .q 7 (0)), (8, .i r'2.2), (9, .q 9 (0)), (10, .i r'3.2), (11, .q 11 (0)), (12, .i r'4.2)] [(5, .pure (GDisk.cs r'1.1)), (7, .pure (GDisk.cs r'2.1)), (9, .pure (GDisk.cs r'3.1)), (11, .pure (GDisk.cs r'4.1))] rfl rfl rfl ?_
 refine AW2_seq ?_
 refine bindK H fun g'8 h11 H => ?_
 refine AW2_mid (⟨[(4, .b g'8)], [], 53⟩ : TS) ?_ ?_
 ·clear H
  have H := h11
  clear h11
  refine AW2_reg [0, 1, 2, 3, 4, 5, 6, 7, 8, 9, 10, 11, 12, 13, 14, 15, 16, 17, 18] rfl ?_
  refine rp rfl rfl (p_move rfl rfl) ?_
  refine rp rfl rfl (p_move rfl rfl) ?_
  refine rp rfl rfl (p_ieq rfl rfl rfl) ?_
  refine rp rfl rfl (p_move rfl rfl) ?_
  refine (Classical.em (r'1.2 = r'3.2)).elim (fun h6 => ?_) (fun h6 => ?_)
  ·replace H := ite_then h6 H
   refine r_on rfl rfl rfl rfl (decide_eq_true h6) rfl (PureD.opD (p_move rfl rfl)) ?_
   refine r_on rfl rfl rfl rfl (decide_eq_true h6) rfl (PureD.opD (p_move rfl rfl)) ?_
   refine r_on rfl rfl rfl rfl (decide_eq_true h6) rfl (PureD.opD (p_ieq rfl rfl rfl)) ?_
   refine rp rfl rfl (p_pkt rfl rfl (decide_eq_true h6) (.same _)) ?_
   refine rp rfl rfl (p_move rfl rfl) ?_
   refine (Classical.em (r'2.2 = r'4.2)).elim (fun h7 => ?_) (fun h7 => ?_)
   ·replace H := ite_then h7 H
    refine r_on rfl rfl rfl rfl (decide_eq_true h7) rfl (PureD.opD (u_lda rfl rfl Try.underlying25 rfl in_25 rfl (Nat.succ_pos _) (Sub.refl _) (GDisk.len r'1.1))) ?_
    refine r_on rfl rfl rfl rfl (decide_eq_true h7) rfl (PureD.opD (u_lda rfl rfl Try.underlying25 rfl in_25 rfl (Nat.succ_pos _) (Sub.refl _) (GDisk.len r'3.1))) ?_
    refine bindK H fun r'6 h8 H => ?_
    refine r_on rfl rfl rfl rfl (decide_eq_true h7) rfl (PureD.opD (p_callp rfl rfl rfl Try.func13 rfl rfl (g_law_sameDisk_ac h8) ⟨rfl, rfl, trivial⟩)) ?_
    refine rp rfl rfl (p_pkt rfl rfl (decide_eq_true h7) (.same _)) ?_
    refine rp rfl rfl (p_move rfl rfl) ?_
    refine (Classical.em (r'6 = true)).elim (fun h9 => ?_) (fun h9 => ?_)
    ·replace H := ite_then h9 H
     refine rn rfl rfl rfl rfl h9 rfl (u_lda rfl rfl Try.underlying25 rfl in_25 rfl (Nat.succ_pos _) (Sub.refl _) (GDisk.len r'2.1)) ?_
     refine rn rfl rfl rfl rfl h9 rfl (u_lda rfl rfl Try.underlying25 rfl in_25 rfl (Nat.succ_pos _) (Sub.refl _) (GDisk.len r'4.1)) ?_
     refine bindK H fun r'7 h10 H => ?_
     refine rn rfl rfl rfl rfl h9 rfl (p_callp rfl rfl rfl Try.func13 rfl rfl (g_law_sameDisk_ac h10) ⟨rfl, rfl, trivial⟩) ?_
     refine rp rfl rfl (p_pkt rfl rfl h9 (.same _)) ?_
     refine rp rfl rfl (p_asg rfl rfl) ?_
     refine rs [(4, .b r'7)] [] rfl rfl rfl ?_
     have hz := some_elim H
     subst hz
     exact RunW_nil rfl
    ·replace H := ite_else h9 H
     refine r_off rfl rfl rfl rfl (bfalse h9) rfl rfl ?_
     refine r_off rfl rfl rfl rfl (bfalse h9) rfl rfl ?_
     refine r_off rfl rfl rfl rfl (bfalse h9) rfl rfl ?_
     refine rp rfl rfl (p_pkf rfl rfl (bfalse h9) (.same _)) ?_
     refine rp rfl rfl (p_asg rfl rfl) ?_
     refine rs [(4, .b false)] [] rfl rfl rfl ?_
     have hz := some_elim H
     subst hz
     exact RunW_nil rfl
   ·replace H := ite_else h7 H
    refine r_off rfl rfl rfl rfl (decide_eq_false h7) rfl rfl ?_
    refine r_off rfl rfl rfl rfl (decide_eq_false h7) rfl rfl ?_
    refine r_off rfl rfl rfl rfl (decide_eq_false h7) rfl rfl ?_
    refine rp rfl rfl (p_pkf rfl rfl (decide_eq_false h7) (.same _)) ?_
    refine rp rfl rfl (p_move rfl rfl) ?_
    refine r_off rfl rfl rfl rfl (bfalse (by decide)) rfl rfl ?_
    refine r_off rfl rfl rfl rfl (bfalse (by decide)) rfl rfl ?_
    refine r_off rfl rfl rfl rfl (bfalse (by decide)) rfl rfl ?_
    refine rp rfl rfl (p_pkf rfl rfl (bfalse (by decide)) (.same _)) ?_
    refine rp rfl rfl (p_asg rfl rfl) ?_
    refine rs [(4, .b false)] [] rfl rfl rfl ?_
    have hz := some_elim H
    subst hz
    exact RunW_nil rfl
  ·replace H := ite_else h6 H
   refine r_off rfl rfl rfl rfl (decide_eq_false h6) rfl rfl ?_
   refine r_off rfl rfl rfl rfl (decide_eq_false h6) rfl rfl ?_
   refine r_off rfl rfl rfl rfl (decide_eq_false h6) rfl rfl ?_
   refine rp rfl rfl (p_pkf rfl rfl (decide_eq_false h6) (.same _)) ?_
   refine rp rfl rfl (p_move rfl rfl) ?_
   refine r_off rfl rfl rfl rfl (bfalse (by decide)) rfl rfl ?_
   refine r_off rfl rfl rfl rfl (bfalse (by decide)) rfl rfl ?_
   refine r_off rfl rfl rfl rfl (bfalse (by decide)) rfl rfl ?_
   refine rp rfl rfl (p_pkf rfl rfl (bfalse (by decide)) (.same _)) ?_
   refine rp rfl rfl (p_move rfl rfl) ?_
   refine r_off rfl rfl rfl rfl (bfalse (by decide)) rfl rfl ?_
   refine r_off rfl rfl rfl rfl (bfalse (by decide)) rfl rfl ?_
   refine r_off rfl rfl rfl rfl (bfalse (by decide)) rfl rfl ?_
   refine rp rfl rfl (p_pkf rfl rfl (bfalse (by decide)) (.same _)) ?_
   refine rp rfl rfl (p_asg rfl rfl) ?_
   refine rs [(4, .b false)] [] rfl rfl rfl ?_
   have hz := some_elim H
   subst hz
   exact RunW_nil rfl
 ·refine AW2_ret ?_
  have hz := some_elim H
  subst hz
  exact ⟨⟨res_tmp (.same _), trivial⟩, trivial⟩
end Go.Proofs.Ytglgdaeimfdpfaa.VM
