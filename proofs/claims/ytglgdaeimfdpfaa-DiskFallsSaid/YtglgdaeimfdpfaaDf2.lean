/- Functions of the program, as they answer, and that their code comes to these answers. -/
import Derived.Test.YtglgdaeimfdpfaaDf1
namespace Go.Proofs.Ytglgdaeimfdpfaa.VM
open Go Go.RowKit



/-! disk.Crash -/
noncomputable def g_disk_Crash (d0 : GDisk) (keep1 : Int) : Option (GDisk × Int) :=
  (g_disk_fall_i1 d0 keep1).bind fun r'1 => some (r'1.1, r'1.2)
set_option maxHeartbeats 4000000 in
set_option maxRecDepth 100000 in
theorem g_disk_Crash_ac {d0 : GDisk} {keep1 : Int} {r : GDisk × Int} (H : g_disk_Crash d0 keep1 = some r) : ACp Try.prog 17 [(.agg (GDisk.cs d0)), (AV.int keep1)] (.tup [(.agg (GDisk.cs r.1)), (AV.int r.2)]) := by
 refine ACp_of (AC2_of_body (vs := [.g (GDisk.cs r.1), .i r.2]) Try.func17 rfl rfl (Nat.le_of_ble_eq_true rfl) rfl ?_) (fun _ => .same _)
 unfold g_disk_Crash at H
 refine as2 [(0, .g (GDisk.cs d0)), (1, .i keep1)] [] rfl rfl rfl ?_
 refine sg [0, 1, 2, 3] rfl ?_
 refine r_op rfl rfl (MakeD.opD (n_box 2 rfl rfl) rfl rfl rfl rfl) ?_
 refine r_op rfl rfl (MakeD.opD (n_box 3 rfl rfl) rfl rfl rfl rfl) ?_
 refine r_op rfl rfl (MakeD.opD (u_alloc 4 rfl in_25 one_25 zc_25) rfl rfl rfl rfl) ?_
 refine rp rfl rfl (p_asg rfl rfl) ?_
 refine rz [(2, .q 2 (0)), (3, .q 3 (0)), (4, .q 4 (0))] [(2, .pure (GDisk.cs d0)), (3, .pure ([(AV.int keep1)])), (4, .pure (GDisk.cs GDisk.zero))] rfl rfl rfl ?_
 refine sg [0, 1, 2, 3, 4, 5, 6] rfl ?_
 refine rp rfl rfl (u_lda rfl rfl Try.underlying25 rfl in_25 rfl (Nat.succ_pos _) (Sub.refl _) (GDisk.len d0)) ?_
 refine rp rfl rfl (p_mkfn (caps := [(.ptr 3 (0))]) rfl ⟨⟨rfl, rfl⟩, trivial⟩) ?_
 refine RunW_gho (Gho_puba (b := 3) [(3, .p (.rptr ([(AV.int keep1)]) (0))), (7, .clo 32 [(.p (.rptr ([(AV.int keep1)]) (0)))])] ⟨(.inr (.inr ⟨_, rfl, rfl, (List.cons_ne_nil _ _)⟩)), ⟨rfl, (.inr (.inr ⟨_, rfl, rfl, (List.cons_ne_nil _ _)⟩)), trivial⟩, trivial⟩ rfl (Nat.mul_one _).symm (by decide)) ?_
 refine RunW_st [(2, .q 2 (0)), (3, .p (.rptr ([(AV.int keep1)]) (0))), (4, .q 4 (0)), (6, .g (GDisk.cs d0)), (7, .clo 32 [(.p (.rptr ([(AV.int keep1)]) (0)))])] [(2, .pure (GDisk.cs d0)), (4, .pure (GDisk.cs GDisk.zero))] rfl ⟨TLes.same _, TLes.same _, TLes.same _, TLes.same _, (fun _ => .same _), trivial⟩ ⟨rfl, rfl, trivial⟩ ?_
 refine bindK H fun r'1 h1 H => ?_
 refine rp rfl rfl (p_callt rfl rfl rfl Try.func30 rfl rfl (g_disk_fall_i1_ac h1) ⟨(fun _ => .same _), (fun _ => .same _), trivial⟩) ?_
 refine rp rfl rfl (p_ext rfl rfl rfl rfl) ?_
 refine rp rfl rfl (p_ext rfl rfl rfl rfl) ?_
 refine r_op rfl rfl (u_st rfl rfl rfl rfl rfl in_25 (GDisk.len r'1.1) (ne_of_lt (n := 0) (Nat.lt_of_lt_of_eq (by decide) (Eq.symm (GDisk.len GDisk.zero)))) (Upd.refl ((GDisk.len r'1.1).trans (GDisk.len GDisk.zero).symm))) ?_
 refine rp rfl rfl (p_asg rfl rfl) ?_
 refine rz [(4, .q 4 (0)), (5, .i r'1.2)] [(4, .pure (GDisk.cs r'1.1))] rfl rfl rfl ?_
 refine AW2_ret ?_
 have hz := some_elim H
 subst hz
 exact ⟨⟨res_cella Try.underlying25 rfl in_25.sz rfl (Sub.le (Sub.refl _) (GDisk.len r'1.1)) (by decide) (Sub.take (Sub.refl _) (GDisk.len r'1.1)), res_tmp (.same _), trivial⟩, trivial⟩

/-! chirographref.DiskFault -/
noncomputable def g_ref_DiskFault_l0 (d0 : GDisk) : Int → Option (Int ⊕ (Int ⊕ Unit))
  | t24_0 => (if t24_0 < (d0.Writes.length : Int) then if 0 ≤ t24_0 ∧ t24_0 < (d0.Writes.length : Int) then (if ((lrd d0.Writes t24_0.toNat).At < (0 : Int)) ∨ ((lrd d0.Writes t24_0.toNat).At ≥ (d0.Lasts.length : Int)) then some (.inr (.inl (6 : Int))) else some (.inl (w64 (t24_0 + (1 : Int))))) else none else some (.inr (.inr ())))
noncomputable def g_ref_DiskFault (d0 : GDisk) : Option (Int) :=
  (if (((d0.Lasts.length : Int) = (0 : Int)) ∨ ((d0.Lasts.length : Int) > (400 : Int))) ∨ ((d0.Writes.length : Int) > (60 : Int)) then some (1 : Int) else (loopO (g_ref_DiskFault_l0 d0) (0 : Int)).bind fun o'4 => match o'4 with | .inl y'5 => some y'5 | .inr (y'6) => some (0 : Int))
set_option maxHeartbeats 4000000 in
set_option maxRecDepth 100000 in
theorem g_ref_DiskFault_ac {d0 : GDisk} {r : Int} (H : g_ref_DiskFault d0 = some r) : ACp Try.prog 12 [(.agg (GDisk.cs d0))] (AV.int r) := by
 refine ACp_of (AC2_of_body (vs := [.i r]) Try.func12 rfl rfl (Nat.le_of_ble_eq_true rfl) rfl ?_) (fun _ => .same _)
 unfold g_ref_DiskFault at H
 refine as2 [(0, .g (GDisk.cs d0))] [] rfl rfl rfl ?_
 refine sg [0, 1] rfl ?_
 refine r_op rfl rfl (MakeD.opD (n_box 1 rfl rfl) rfl rfl rfl rfl) ?_
 refine rp rfl rfl (p_asg rfl rfl) ?_
 refine rz [(1, .q 1 (0))] [(1, .pure (GDisk.cs d0))] rfl rfl rfl ?_
 refine sg [0, 1, 2, 3] rfl ?_
 refine rp rfl rfl (u_fa rfl rfl Try.underlying25 rfl in_22 (Nat.succ_ne_zero _) rfl rfl (ne_of_lt (n := 0) (Nat.lt_of_lt_of_eq (by decide) (Eq.symm (GDisk.len d0))))) ?_
 refine rp rfl rfl (u_ld rfl rfl Try.underlying22 rfl rfl ((Sub.refl _).trans (GDisk.sub0 d0))) ?_
 refine rp rfl rfl (p_lenl rfl Try.underlying22 rfl rfl) ?_
 refine rp rfl rfl (p_asg rfl rfl) ?_
 refine rz [(1, .q 1 (0)), (3, .i (d0.Lasts.length : Int))] [(1, .pure (GDisk.cs d0))] rfl rfl rfl ?_
 refine AW2_seq ?_
 refine AW2_seq ?_
 refine AW2_mid (⟨[(1, .q 1 (0)), (3, .i (d0.Lasts.length : Int)), (20, .b (decide ((((d0.Lasts.length : Int) = (0 : Int)) ∨ ((d0.Lasts.length : Int) > (400 : Int))) ∨ ((d0.Writes.length : Int) > (60 : Int)))))], [(1, .pure (GDisk.cs d0))], 38⟩ : TS) ?_ ?_
 ·refine AW2_reg [0, 1, 2, 3, 4, 5, 6, 7, 8, 9, 10, 11] rfl ?_
  refine rp rfl rfl (p_move rfl rfl) ?_
  refine rp rfl rfl (p_ieq rfl rfl rfl) ?_
  refine rp rfl rfl (p_move rfl rfl) ?_
  refine (Classical.em ((d0.Lasts.length : Int) = (0 : Int))).elim (fun h1 => ?_) (fun h1 => ?_)
  ·refine r_off rfl rfl rfl rfl (decide_eq_true h1) rfl rfl ?_
   refine r_off rfl rfl rfl rfl (decide_eq_true h1) rfl rfl ?_
   refine rp rfl rfl (p_pkt rfl rfl (decide_eq_true h1) (tb (decide_eq_true (p := ((d0.Lasts.length : Int) = (0 : Int)) ∨ ((d0.Lasts.length : Int) > (400 : Int))) (Or.inl h1)).symm)) ?_
   refine rp rfl rfl (p_move rfl rfl) ?_
   refine r_off rfl rfl rfl rfl (decide_eq_true (p := ((d0.Lasts.length : Int) = (0 : Int)) ∨ ((d0.Lasts.length : Int) > (400 : Int))) (Or.inl h1)) rfl rfl ?_
   refine r_off rfl rfl rfl rfl (decide_eq_true (p := ((d0.Lasts.length : Int) = (0 : Int)) ∨ ((d0.Lasts.length : Int) > (400 : Int))) (Or.inl h1)) rfl rfl ?_
   refine r_off rfl rfl rfl rfl (decide_eq_true (p := ((d0.Lasts.length : Int) = (0 : Int)) ∨ ((d0.Lasts.length : Int) > (400 : Int))) (Or.inl h1)) rfl rfl ?_
   refine r_off rfl rfl rfl rfl (decide_eq_true (p := ((d0.Lasts.length : Int) = (0 : Int)) ∨ ((d0.Lasts.length : Int) > (400 : Int))) (Or.inl h1)) rfl rfl ?_
   refine rp rfl rfl (p_pkt rfl rfl (decide_eq_true (p := ((d0.Lasts.length : Int) = (0 : Int)) ∨ ((d0.Lasts.length : Int) > (400 : Int))) (Or.inl h1)) (tb (decide_eq_true (p := (((d0.Lasts.length : Int) = (0 : Int)) ∨ ((d0.Lasts.length : Int) > (400 : Int))) ∨ ((d0.Writes.length : Int) > (60 : Int))) (Or.inl (Or.inl h1))).symm)) ?_
   refine rs [(1, .q 1 (0)), (3, .i (d0.Lasts.length : Int)), (20, .b (decide ((((d0.Lasts.length : Int) = (0 : Int)) ∨ ((d0.Lasts.length : Int) > (400 : Int))) ∨ ((d0.Writes.length : Int) > (60 : Int)))))] [(1, .pure (GDisk.cs d0))] rfl rfl rfl ?_
   exact RunW_nil rfl
  ·refine r_on rfl rfl rfl rfl (decide_eq_false h1) rfl (PureD.opD (p_move rfl rfl)) ?_
   refine r_on rfl rfl rfl rfl (decide_eq_false h1) rfl (PureD.opD (p_bin rfl rfl rfl rfl)) ?_
   refine rp rfl rfl (p_pkf rfl rfl (decide_eq_false h1) (tb ((or_l (p := (d0.Lasts.length : Int) = (0 : Int)) (q := (d0.Lasts.length : Int) > (400 : Int)) h1)))) ?_
   refine rp rfl rfl (p_move rfl rfl) ?_
   refine (Classical.em ((d0.Lasts.length : Int) > (400 : Int))).elim (fun h2 => ?_) (fun h2 => ?_)
   ·refine r_off rfl rfl rfl rfl (decide_eq_true (p := ((d0.Lasts.length : Int) = (0 : Int)) ∨ ((d0.Lasts.length : Int) > (400 : Int))) (Or.inr h2)) rfl rfl ?_
    refine r_off rfl rfl rfl rfl (decide_eq_true (p := ((d0.Lasts.length : Int) = (0 : Int)) ∨ ((d0.Lasts.length : Int) > (400 : Int))) (Or.inr h2)) rfl rfl ?_
    refine r_off rfl rfl rfl rfl (decide_eq_true (p := ((d0.Lasts.length : Int) = (0 : Int)) ∨ ((d0.Lasts.length : Int) > (400 : Int))) (Or.inr h2)) rfl rfl ?_
    refine r_off rfl rfl rfl rfl (decide_eq_true (p := ((d0.Lasts.length : Int) = (0 : Int)) ∨ ((d0.Lasts.length : Int) > (400 : Int))) (Or.inr h2)) rfl rfl ?_
    refine rp rfl rfl (p_pkt rfl rfl (decide_eq_true (p := ((d0.Lasts.length : Int) = (0 : Int)) ∨ ((d0.Lasts.length : Int) > (400 : Int))) (Or.inr h2)) (tb (decide_eq_true (p := (((d0.Lasts.length : Int) = (0 : Int)) ∨ ((d0.Lasts.length : Int) > (400 : Int))) ∨ ((d0.Writes.length : Int) > (60 : Int))) (Or.inl (Or.inr h2))).symm)) ?_
    refine rs [(1, .q 1 (0)), (3, .i (d0.Lasts.length : Int)), (20, .b (decide ((((d0.Lasts.length : Int) = (0 : Int)) ∨ ((d0.Lasts.length : Int) > (400 : Int))) ∨ ((d0.Writes.length : Int) > (60 : Int)))))] [(1, .pure (GDisk.cs d0))] rfl rfl rfl ?_
    exact RunW_nil rfl
   ·refine r_on rfl rfl rfl rfl (decide_eq_false (p := ((d0.Lasts.length : Int) = (0 : Int)) ∨ ((d0.Lasts.length : Int) > (400 : Int))) (not_or.2 ⟨h1, h2⟩)) rfl (PureD.opD (u_fa rfl rfl Try.underlying25 rfl in_23 (Nat.succ_ne_zero _) rfl rfl (ne_of_lt (n := 0) (Nat.lt_of_lt_of_eq (by decide) (Eq.symm (GDisk.len d0)))))) ?_
    refine r_on rfl rfl rfl rfl (decide_eq_false (p := ((d0.Lasts.length : Int) = (0 : Int)) ∨ ((d0.Lasts.length : Int) > (400 : Int))) (not_or.2 ⟨h1, h2⟩)) rfl (PureD.opD (u_ld rfl rfl Try.underlying23 rfl rfl ((Sub.refl _).trans (GDisk.sub1 d0)))) ?_
    refine r_on rfl rfl rfl rfl (decide_eq_false (p := ((d0.Lasts.length : Int) = (0 : Int)) ∨ ((d0.Lasts.length : Int) > (400 : Int))) (not_or.2 ⟨h1, h2⟩)) rfl (PureD.opD (p_lenl rfl Try.underlying23 rfl rfl)) ?_
    refine r_on rfl rfl rfl rfl (decide_eq_false (p := ((d0.Lasts.length : Int) = (0 : Int)) ∨ ((d0.Lasts.length : Int) > (400 : Int))) (not_or.2 ⟨h1, h2⟩)) rfl (PureD.opD (p_bin rfl rfl rfl rfl)) ?_
    refine rp rfl rfl (p_pkf rfl rfl (decide_eq_false (p := ((d0.Lasts.length : Int) = (0 : Int)) ∨ ((d0.Lasts.length : Int) > (400 : Int))) (not_or.2 ⟨h1, h2⟩)) (tb ((or_l (p := ((d0.Lasts.length : Int) = (0 : Int)) ∨ ((d0.Lasts.length : Int) > (400 : Int))) (q := (d0.Writes.length : Int) > (60 : Int)) (not_or.2 ⟨h1, h2⟩))))) ?_
    refine rs [(1, .q 1 (0)), (3, .i (d0.Lasts.length : Int)), (20, .b (decide ((((d0.Lasts.length : Int) = (0 : Int)) ∨ ((d0.Lasts.length : Int) > (400 : Int))) ∨ ((d0.Writes.length : Int) > (60 : Int)))))] [(1, .pure (GDisk.cs d0))] rfl rfl rfl ?_
    exact RunW_nil rfl
 ·refine AW2_if (p := (((d0.Lasts.length : Int) = (0 : Int)) ∨ ((d0.Lasts.length : Int) > (400 : Int))) ∨ ((d0.Writes.length : Int) > (60 : Int))) rfl (fun h3 => ?_) (fun h3 => ?_)
  ·replace H := ite_then h3 H
   refine sg [0] rfl ?_
   refine rp rfl rfl (p_asg rfl rfl) ?_
   refine rz [(2, .i (1 : Int))] [] rfl rfl rfl ?_
   refine AW2_ret ?_
   have hz := some_elim H
   subst hz
   exact ⟨⟨res_tmp (.same _), trivial⟩, trivial⟩
  ·replace H := ite_else h3 H
   refine as2 [(1, .q 1 (0)), (3, .i (d0.Lasts.length : Int))] [(1, .pure (GDisk.cs d0))] rfl rfl rfl ?_
   refine AW2_skip ?_
   refine AW2_seq ?_
   refine sg [0, 1, 2, 3] rfl ?_
   refine rp rfl rfl (u_fa rfl rfl Try.underlying25 rfl in_23 (Nat.succ_ne_zero _) rfl rfl (ne_of_lt (n := 0) (Nat.lt_of_lt_of_eq (by decide) (Eq.symm (GDisk.len d0))))) ?_
   refine rp rfl rfl (u_ld rfl rfl Try.underlying23 rfl rfl ((Sub.refl _).trans (GDisk.sub1 d0))) ?_
   refine rp rfl rfl (p_lenl rfl Try.underlying23 rfl rfl) ?_
   refine rp rfl rfl (p_move rfl rfl) ?_
   refine rz [(3, .i (d0.Lasts.length : Int)), (22, .p ((fun q : List GPut => AV.lst (q.flatMap GPut.cs) q.length) d0.Writes)), (23, .i (d0.Writes.length : Int)), (24, .i (0 : Int))] [] rfl rfl rfl ?_
   refine AW2_block ?_
   refine as2 [(3, .i (d0.Lasts.length : Int)), (22, .p ((fun q : List GPut => AV.lst (q.flatMap GPut.cs) q.length) d0.Writes)), (23, .i (d0.Writes.length : Int)), (24, .i (0 : Int))] [] rfl rfl rfl ?_
   refine bindK H fun o'4 h8 H => ?_
   refine AW2_loopO (fun a'1 : Int => (⟨[(3, .i (d0.Lasts.length : Int)), (22, .p ((fun q : List GPut => AV.lst (q.flatMap GPut.cs) q.length) d0.Writes)), (23, .i (d0.Writes.length : Int)), (24, .i a'1)], [], 38⟩ : TS)) (fun (o : Int ⊕ Unit) e s' => match o with | .inl y'2 => e = Go.Exit.ret ∧ ResAll Try.prog s' [ResultVar.tmp 2] [.i y'2] ∧ HFits s' [] | .inr (y'3) => e = Go.Exit.exit 0 ∧ s' = (⟨[], [], 38⟩ : TS)) h8 rfl (fun t24_0 x hx => ?_) (fun e s' hs => ?_)
   ·clear H
    have H := hx
    clear hx
    unfold g_ref_DiskFault_l0 at H
    refine sg [0] rfl ?_
    refine rp rfl rfl (p_bin rfl rfl rfl rfl) ?_
    refine rz [(3, .i (d0.Lasts.length : Int)), (22, .p ((fun q : List GPut => AV.lst (q.flatMap GPut.cs) q.length) d0.Writes)), (23, .i (d0.Writes.length : Int)), (24, .i t24_0), (25, .b (decide (t24_0 < (d0.Writes.length : Int))))] [] rfl rfl rfl ?_
    refine AW2_seq ?_
    refine AW2_if (p := t24_0 < (d0.Writes.length : Int)) rfl (fun h4 => ?_) (fun h4 => ?_)
    ·replace H := ite_then h4 H
     refine as2 [(3, .i (d0.Lasts.length : Int)), (22, .p ((fun q : List GPut => AV.lst (q.flatMap GPut.cs) q.length) d0.Writes)), (23, .i (d0.Writes.length : Int)), (24, .i t24_0)] [] rfl rfl rfl ?_
     refine AW2_skip ?_
     refine AW2_seq ?_
     refine AW2_block ?_
     refine sg [0, 1, 2, 3] rfl ?_
     refine chkK H fun h5 H => ?_
     refine rp rfl rfl (u_ixl rfl rfl Try.underlying23 in_70 rfl rfl (ixe h5) (ixn h5) (fne (fun x => (GPut.len x)) (by decide) (ixn h5))) ?_
     refine rp rfl rfl (u_lda rfl rfl Try.underlying70 rfl in_70 rfl (Nat.succ_pos _) (Sub.fm default (fun x => (GPut.len x)) (ixn h5)) (GPut.len (lrd d0.Writes t24_0.toNat))) ?_
     refine r_op rfl rfl (MakeD.opD (u_alloc 5 rfl in_70 one_70 zc_70) rfl rfl rfl rfl) ?_
     refine r_op rfl rfl (u_st rfl rfl rfl rfl rfl in_70 (GPut.len (lrd d0.Writes t24_0.toNat)) (ne_of_lt (n := 0) (Nat.lt_of_lt_of_eq (by decide) (Eq.symm (GPut.len GPut.zero)))) (Upd.refl ((GPut.len (lrd d0.Writes t24_0.toNat)).trans (GPut.len GPut.zero).symm))) ?_
     refine rz [(3, .i (d0.Lasts.length : Int)), (5, .q 5 (0)), (22, .p ((fun q : List GPut => AV.lst (q.flatMap GPut.cs) q.length) d0.Writes)), (23, .i (d0.Writes.length : Int)), (24, .i t24_0)] [(5, .pure (GPut.cs (lrd d0.Writes t24_0.toNat)))] rfl rfl rfl ?_
     refine AW2_seq ?_
     refine AW2_mid (⟨[(3, .i (d0.Lasts.length : Int)), (22, .p ((fun q : List GPut => AV.lst (q.flatMap GPut.cs) q.length) d0.Writes)), (23, .i (d0.Writes.length : Int)), (24, .i t24_0), (36, .b (decide (((lrd d0.Writes t24_0.toNat).At < (0 : Int)) ∨ ((lrd d0.Writes t24_0.toNat).At ≥ (d0.Lasts.length : Int)))))], [], 38⟩ : TS) ?_ ?_
     ·refine AW2_reg [0, 1, 2, 3, 4, 5, 6, 7, 8] rfl ?_
      refine rp rfl rfl (u_fa rfl rfl Try.underlying70 rfl in_3 (Nat.succ_ne_zero _) rfl rfl (ne_of_lt (n := 0) (Nat.lt_of_lt_of_eq (by decide) (Eq.symm (GPut.len (lrd d0.Writes t24_0.toNat)))))) ?_
      refine rp rfl rfl (u_ld rfl rfl Try.underlying3 rfl rfl ((Sub.refl _).trans (GPut.sub0 (lrd d0.Writes t24_0.toNat)))) ?_
      refine rp rfl rfl (p_bin rfl rfl rfl rfl) ?_
      refine rp rfl rfl (p_move rfl rfl) ?_
      refine (Classical.em ((lrd d0.Writes t24_0.toNat).At < (0 : Int))).elim (fun h6 => ?_) (fun h6 => ?_)
      ·refine r_off rfl rfl rfl rfl (decide_eq_true h6) rfl rfl ?_
       refine r_off rfl rfl rfl rfl (decide_eq_true h6) rfl rfl ?_
       refine r_off rfl rfl rfl rfl (decide_eq_true h6) rfl rfl ?_
       refine r_off rfl rfl rfl rfl (decide_eq_true h6) rfl rfl ?_
       refine rp rfl rfl (p_pkt rfl rfl (decide_eq_true h6) (tb (decide_eq_true (p := ((lrd d0.Writes t24_0.toNat).At < (0 : Int)) ∨ ((lrd d0.Writes t24_0.toNat).At ≥ (d0.Lasts.length : Int))) (Or.inl h6)).symm)) ?_
       refine rs [(3, .i (d0.Lasts.length : Int)), (22, .p ((fun q : List GPut => AV.lst (q.flatMap GPut.cs) q.length) d0.Writes)), (23, .i (d0.Writes.length : Int)), (24, .i t24_0), (36, .b (decide (((lrd d0.Writes t24_0.toNat).At < (0 : Int)) ∨ ((lrd d0.Writes t24_0.toNat).At ≥ (d0.Lasts.length : Int)))))] [] rfl rfl rfl ?_
       exact RunW_nil rfl
      ·refine r_on rfl rfl rfl rfl (decide_eq_false h6) rfl (PureD.opD (u_fa rfl rfl Try.underlying70 rfl in_3 (Nat.succ_ne_zero _) rfl rfl (ne_of_lt (n := 0) (Nat.lt_of_lt_of_eq (by decide) (Eq.symm (GPut.len (lrd d0.Writes t24_0.toNat))))))) ?_
       refine r_on rfl rfl rfl rfl (decide_eq_false h6) rfl (PureD.opD (u_ld rfl rfl Try.underlying3 rfl rfl ((Sub.refl _).trans (GPut.sub0 (lrd d0.Writes t24_0.toNat))))) ?_
       refine r_on rfl rfl rfl rfl (decide_eq_false h6) rfl (PureD.opD (p_move rfl rfl)) ?_
       refine r_on rfl rfl rfl rfl (decide_eq_false h6) rfl (PureD.opD (p_bin rfl rfl rfl rfl)) ?_
       refine rp rfl rfl (p_pkf rfl rfl (decide_eq_false h6) (tb ((or_l (p := (lrd d0.Writes t24_0.toNat).At < (0 : Int)) (q := (lrd d0.Writes t24_0.toNat).At ≥ (d0.Lasts.length : Int)) h6)))) ?_
       refine rs [(3, .i (d0.Lasts.length : Int)), (22, .p ((fun q : List GPut => AV.lst (q.flatMap GPut.cs) q.length) d0.Writes)), (23, .i (d0.Writes.length : Int)), (24, .i t24_0), (36, .b (decide (((lrd d0.Writes t24_0.toNat).At < (0 : Int)) ∨ ((lrd d0.Writes t24_0.toNat).At ≥ (d0.Lasts.length : Int)))))] [] rfl rfl rfl ?_
       exact RunW_nil rfl
     ·refine AW2_if (p := ((lrd d0.Writes t24_0.toNat).At < (0 : Int)) ∨ ((lrd d0.Writes t24_0.toNat).At ≥ (d0.Lasts.length : Int))) rfl (fun h7 => ?_) (fun h7 => ?_)
      ·replace H := ite_then h7 H
       refine sg [0] rfl ?_
       refine rp rfl rfl (p_asg rfl rfl) ?_
       refine rz [(2, .i (6 : Int))] [] rfl rfl rfl ?_
       refine AW2_ret ?_
       have hz := some_elim H
       subst hz
       exact ⟨rfl, ⟨res_tmp (.same _), trivial⟩, trivial⟩
      ·replace H := ite_else h7 H
       refine as2 [(3, .i (d0.Lasts.length : Int)), (22, .p ((fun q : List GPut => AV.lst (q.flatMap GPut.cs) q.length) d0.Writes)), (23, .i (d0.Writes.length : Int)), (24, .i t24_0)] [] rfl rfl rfl ?_
       refine AW2_skip ?_
       refine AW2_reg [0, 1] rfl ?_
       refine rp rfl rfl (p_bin rfl rfl rfl rfl) ?_
       refine rp rfl rfl (p_move rfl rfl) ?_
       refine rz [(3, .i (d0.Lasts.length : Int)), (22, .p ((fun q : List GPut => AV.lst (q.flatMap GPut.cs) q.length) d0.Writes)), (23, .i (d0.Writes.length : Int)), (24, .i (w64 (t24_0 + (1 : Int))))] [] rfl rfl rfl ?_
       have hz := some_elim H
       subst hz
       exact ⟨rfl, rfl⟩
    ·replace H := ite_else h4 H
     refine as2 [] [] rfl rfl rfl ?_
     refine AW2_exit ?_
     refine thenQ2_exit ?_
     have hz := some_elim H
     subst hz
     exact ⟨rfl, rfl⟩
   ·rcases o'4 with y'5 | y'6
    ·obtain ⟨rfl, hs⟩ := hs
     refine ⟨by simp, ?_⟩
     have hz := some_elim H
     subst hz
     exact ⟨hs.1, hs.2⟩
    ·obtain ⟨rfl, rfl⟩ := hs
     refine ⟨by simp, ?_⟩
     refine blockQ2_exit ?_
     refine sg [0] rfl ?_
     refine rp rfl rfl (p_asg rfl rfl) ?_
     refine rz [(2, .i (0 : Int))] [] rfl rfl rfl ?_
     refine AW2_ret ?_
     have hz := some_elim H
     subst hz
     exact ⟨⟨res_tmp (.same _), trivial⟩, trivial⟩

/-! chirographref.Fallen -/
noncomputable def g_ref_Fallen_l1 (d0 : GDisk) (keep1 : Int) (all2 : Bool) (t24_0 : Int) : Int × (Vector UInt8 32) → Option ((Int × (Vector UInt8 32)) ⊕ (((Vector UInt8 32))))
  | (t32_1, b11_1) => (if t32_1 < (d0.Writes.length : Int) then (if 0 ≤ t32_1 ∧ t32_1 < (d0.Writes.length : Int) then ((if (lrd d0.Writes t32_1.toNat).At = t24_0 then (if all2 = true then some true else (if t32_1 < (63 : Int) then if 0 ≤ t32_1 then some (decide (iand keep1 (ishl (1 : Int) t32_1.toNat) ≠ (0 : Int))) else none else some false)) else some false)).bind fun g'3 => (if g'3 = true then some ((lrd d0.Writes t32_1.toNat).Data) else some b11_1) else none).bind fun j'2 => some (.inl (w64 (t32_1 + (1 : Int)), j'2)) else some (.inr b11_1))
noncomputable def g_ref_Fallen_l0 (d0 : GDisk) (keep1 : Int) (all2 : Bool) : Int × (List (Vector UInt8 32)) → Option ((Int × (List (Vector UInt8 32))) ⊕ (((List (Vector UInt8 32)))))
  | (t24_0, t1000_0) => (if t24_0 < (d0.Lasts.length : Int) then if 0 ≤ t24_0 ∧ t24_0 < (d0.Lasts.length : Int) then (loopO (g_ref_Fallen_l1 d0 keep1 all2 t24_0) ((0 : Int), (lrd d0.Lasts t24_0.toNat))).bind fun y'7 => if room (t1000_0.length + ([y'7] : List (Vector UInt8 32)).length) 32 then some (.inl (w64 (t24_0 + (1 : Int)), t1000_0 ++ ([y'7] : List (Vector UInt8 32)))) else none else none else some (.inr t1000_0))
noncomputable def g_ref_Fallen (d0 : GDisk) (keep1 : Int) (all2 : Bool) : Option (GDisk × Int) :=
  (g_ref_DiskFault d0).bind fun r'1 => (if r'1 ≠ (0 : Int) then some (GDisk.zero, r'1) else (loopO (g_ref_Fallen_l0 d0 keep1 all2) ((0 : Int), ([] : List (Vector UInt8 32)))).bind fun y'11 => some (({ Lasts := y'11, Writes := ([] : List GPut) } : GDisk), (0 : Int)))
set_option maxHeartbeats 4000000 in
set_option maxRecDepth 100000 in
theorem g_ref_Fallen_ac {d0 : GDisk} {keep1 : Int} {all2 : Bool} {r : GDisk × Int} (H : g_ref_Fallen d0 keep1 all2 = some r) : ACp Try.prog 18 [(.agg (GDisk.cs d0)), (AV.int keep1), (AV.bool all2)] (.tup [(.agg (GDisk.cs r.1)), (AV.int r.2)]) := by
 refine ACp_of (AC2_of_body (vs := [.g (GDisk.cs r.1), .i r.2]) Try.func18 rfl rfl (Nat.le_of_ble_eq_true rfl) rfl ?_) (fun _ => .same _)
 unfold g_ref_Fallen at H
 refine as2 [(0, .g (GDisk.cs d0)), (1, .i keep1), (2, .b all2)] [] rfl rfl rfl ?_
 refine sg [0, 1, 2] rfl ?_
 refine r_op rfl rfl (MakeD.opD (n_box 3 rfl rfl) rfl rfl rfl rfl) ?_
 refine r_op rfl rfl (MakeD.opD (u_alloc 6 rfl in_25 one_25 zc_25) rfl rfl rfl rfl) ?_
 refine rp rfl rfl (p_asg rfl rfl) ?_
 refine rz [(1, .i keep1), (2, .b all2), (3, .q 3 (0)), (6, .q 6 (0))] [(3, .pure (GDisk.cs d0)), (6, .pure (GDisk.cs GDisk.zero))] rfl rfl rfl ?_
 refine AW2_seq ?_
 refine sg [0, 1, 2] rfl ?_
 refine rp rfl rfl (u_lda rfl rfl Try.underlying25 rfl in_25 rfl (Nat.succ_pos _) (Sub.refl _) (GDisk.len d0)) ?_
 refine bindK H fun r'1 h1 H => ?_
 refine rp rfl rfl (p_callp rfl rfl rfl Try.func12 rfl rfl (g_ref_DiskFault_ac h1) ⟨rfl, trivial⟩) ?_
 refine rp rfl rfl (p_asg rfl rfl) ?_
 refine rz [(1, .i keep1), (2, .b all2), (3, .q 3 (0)), (6, .q 6 (0)), (8, .i r'1)] [(3, .pure (GDisk.cs d0)), (6, .pure (GDisk.cs GDisk.zero))] rfl rfl rfl ?_
 refine sg [0, 1] rfl ?_
 refine rp rfl rfl (p_move rfl rfl) ?_
 refine rp rfl rfl (p_ine rfl rfl rfl) ?_
 refine rz [(1, .i keep1), (2, .b all2), (3, .q 3 (0)), (6, .q 6 (0)), (8, .i r'1), (17, .b (decide (r'1 ≠ (0 : Int))))] [(3, .pure (GDisk.cs d0)), (6, .pure (GDisk.cs GDisk.zero))] rfl rfl rfl ?_
 refine AW2_if (p := r'1 ≠ (0 : Int)) rfl (fun h2 => ?_) (fun h2 => ?_)
 ·replace H := ite_then h2 H
  refine sg [0, 1, 2, 3] rfl ?_
  refine rp rfl rfl (u_bld rfl in_25 one_25 zc_25 pl_25 rfl rfl) ?_
  refine rp rfl rfl (p_move rfl rfl) ?_
  refine r_op rfl rfl (u_st rfl rfl rfl rfl rfl in_25 (GDisk.len GDisk.zero) (ne_of_lt (n := 0) (Nat.lt_of_lt_of_eq (by decide) (Eq.symm (GDisk.len GDisk.zero)))) (Upd.refl ((GDisk.len GDisk.zero).trans (GDisk.len GDisk.zero).symm))) ?_
  refine rp rfl rfl (p_asg rfl rfl) ?_
  refine rz [(6, .q 6 (0)), (7, .i r'1)] [(6, .pure (GDisk.cs GDisk.zero))] rfl rfl rfl ?_
  refine AW2_ret ?_
  have hz := some_elim H
  subst hz
  exact ⟨⟨res_cella Try.underlying25 rfl in_25.sz rfl (Sub.le (Sub.refl _) (GDisk.len GDisk.zero)) (by decide) (Sub.take (Sub.refl _) (GDisk.len GDisk.zero)), res_tmp (.same _), trivial⟩, trivial⟩
 ·replace H := ite_else h2 H
  refine as2 [(1, .i keep1), (2, .b all2), (3, .q 3 (0)), (6, .q 6 (0))] [(3, .pure (GDisk.cs d0)), (6, .pure (GDisk.cs GDisk.zero))] rfl rfl rfl ?_
  refine AW2_skip ?_
  refine sg [0, 1, 2] rfl ?_
  refine rp rfl rfl (u_bldn (cs := [.nil, .nil]) rfl in_25 one_25 pl_25 rfl) ?_
  refine r_op rfl rfl (MakeD.opD (u_alloc 9 rfl in_25 one_25 zc_25) rfl rfl rfl rfl) ?_
  refine RunW_gho (Gho_owna (d := 20) (b := 1000) (z := 32) (i := 0) rfl rfl rfl rfl rfl rfl) ?_
  refine rs [(1, .i keep1), (2, .b all2), (3, .q 3 (0)), (6, .q 6 (0)), (9, .q 9 (0)), (20, .agg [.own 1000 0 32, .p .nil])] [(3, .pure (GDisk.cs d0)), (6, .pure (GDisk.cs GDisk.zero)), (9, .pure (GDisk.cs GDisk.zero)), (1000, .pure (([] : List (Vector UInt8 32)).flatMap (fun v : Vector UInt8 32 => bcells v.toList)))] rfl rfl rfl ?_
  refine RunW_gho (Gho_owna (d := 20) (b := 1001) (z := 33) (i := 1) rfl rfl rfl rfl rfl rfl) ?_
  refine rs [(1, .i keep1), (2, .b all2), (3, .q 3 (0)), (6, .q 6 (0)), (9, .q 9 (0)), (20, .agg [.own 1000 0 32, .own 1001 0 33])] [(3, .pure (GDisk.cs d0)), (6, .pure (GDisk.cs GDisk.zero)), (9, .pure (GDisk.cs GDisk.zero)), (1000, .pure (([] : List (Vector UInt8 32)).flatMap (fun v : Vector UInt8 32 => bcells v.toList))), (1001, .pure (([] : List GPut).flatMap GPut.cs))] rfl rfl rfl ?_
  refine r_op rfl rfl (d_stm (o := [.p (((fun q : List (Vector UInt8 32) => AV.lst (q.flatMap (fun v : Vector UInt8 32 => bcells v.toList)) q.length) GDisk.zero.Lasts)), .p (((fun q : List GPut => AV.lst (q.flatMap GPut.cs) q.length) GDisk.zero.Writes))]) (xs := [.own 1000 0 32, .own 1001 0 33]) (o' := [.own 1000 0 32, .own 1001 0 33]) rfl rfl rfl rfl (fun _ => rfl) rfl (in_25).sz (Nat.le_of_ble_eq_true rfl) (List.cons_ne_nil _ _) (fun _ => rfl)) ?_
  refine RunW_st [(1, .i keep1), (2, .b all2), (3, .q 3 (0)), (6, .q 6 (0)), (9, .q 9 (0))] [(3, .pure (GDisk.cs d0)), (6, .pure (GDisk.cs GDisk.zero)), (9, .mix [.own 1000 ([] : List (Vector UInt8 32)).length 32, .own 1001 ([] : List GPut).length 33]), (1000, .pure (([] : List (Vector UInt8 32)).flatMap (fun v : Vector UInt8 32 => bcells v.toList))), (1001, .pure (([] : List GPut).flatMap GPut.cs))] rfl ⟨TLes.same _, TLes.same _, TLes.same _, TLes.same _, TLes.same _, trivial⟩ ⟨rfl, rfl, ((congrArg (fun n'' => some (Blk.mix [.own 1000 n'' 32, .own 1001 0 33])) rfl).trans (congrArg (fun n'' => some (Blk.mix [.own 1000 ([] : List (Vector UInt8 32)).length 32, .own 1001 n'' 33])) rfl)), rfl, rfl, trivial⟩ ?_
  refine RunW_nil ?_
  refine AW2_seq ?_
  refine sg [0, 1, 2, 3] rfl ?_
  refine rp rfl rfl (u_fa rfl rfl Try.underlying25 rfl in_22 (Nat.succ_ne_zero _) rfl rfl (ne_of_lt (n := 0) (Nat.lt_of_lt_of_eq (by decide) (Eq.symm (GDisk.len d0))))) ?_
  refine rp rfl rfl (u_ld rfl rfl Try.underlying22 rfl rfl ((Sub.refl _).trans (GDisk.sub0 d0))) ?_
  refine rp rfl rfl (p_lenl rfl Try.underlying22 rfl rfl) ?_
  refine rp rfl rfl (p_move rfl rfl) ?_
  refine rz [(1, .i keep1), (2, .b all2), (3, .q 3 (0)), (6, .q 6 (0)), (9, .q 9 (0)), (22, .p ((fun q : List (Vector UInt8 32) => AV.lst (q.flatMap (fun v : Vector UInt8 32 => bcells v.toList)) q.length) d0.Lasts)), (23, .i (d0.Lasts.length : Int)), (24, .i (0 : Int))] [(3, .pure (GDisk.cs d0)), (6, .pure (GDisk.cs GDisk.zero)), (9, .mix [.own 1000 ([] : List (Vector UInt8 32)).length 32, .own 1001 ([] : List GPut).length 33]), (1000, .pure (([] : List (Vector UInt8 32)).flatMap (fun v : Vector UInt8 32 => bcells v.toList))), (1001, .pure (([] : List GPut).flatMap GPut.cs))] rfl rfl rfl ?_
  refine AW2_block ?_
  refine as2 [(1, .i keep1), (2, .b all2), (3, .q 3 (0)), (6, .q 6 (0)), (9, .q 9 (0)), (22, .p ((fun q : List (Vector UInt8 32) => AV.lst (q.flatMap (fun v : Vector UInt8 32 => bcells v.toList)) q.length) d0.Lasts)), (23, .i (d0.Lasts.length : Int)), (24, .i (0 : Int))] [(3, .pure (GDisk.cs d0)), (6, .pure (GDisk.cs GDisk.zero)), (9, .mix [.own 1000 ([] : List (Vector UInt8 32)).length 32, .own 1001 ([] : List GPut).length 33]), (1000, .pure (([] : List (Vector UInt8 32)).flatMap (fun v : Vector UInt8 32 => bcells v.toList))), (1001, .pure (([] : List GPut).flatMap GPut.cs))] rfl rfl rfl ?_
  refine bindK H fun y'11 h18 H => ?_
  refine AW2_loopO (fun a'8 : Int × (List (Vector UInt8 32)) => (⟨[(1, .i keep1), (2, .b all2), (3, .q 3 (0)), (6, .q 6 (0)), (9, .q 9 (0)), (22, .p ((fun q : List (Vector UInt8 32) => AV.lst (q.flatMap (fun v : Vector UInt8 32 => bcells v.toList)) q.length) d0.Lasts)), (23, .i (d0.Lasts.length : Int)), (24, .i a'8.1)], [(3, .pure (GDisk.cs d0)), (6, .pure (GDisk.cs GDisk.zero)), (9, .mix [.own 1000 a'8.2.length 32, .own 1001 ([] : List GPut).length 33]), (1000, .pure (a'8.2.flatMap (fun v : Vector UInt8 32 => bcells v.toList))), (1001, .pure (([] : List GPut).flatMap GPut.cs))], 66⟩ : TS)) (fun (y'9 : ((List (Vector UInt8 32)))) e s' => e = Go.Exit.exit 0 ∧ s' = (⟨[(6, .q 6 (0)), (9, .q 9 (0))], [(6, .pure (GDisk.cs GDisk.zero)), (9, .mix [.own 1000 y'9.length 32, .own 1001 ([] : List GPut).length 33]), (1000, .pure (y'9.flatMap (fun v : Vector UInt8 32 => bcells v.toList))), (1001, .pure (([] : List GPut).flatMap GPut.cs))], 66⟩ : TS)) h18 rfl (fun a x hx => ?_) (fun e s' hs => ?_)
  ·clear H
   obtain ⟨t24_0, t1000_0⟩ := a
   have H := hx
   clear hx
   unfold g_ref_Fallen_l0 at H
   refine sg [0] rfl ?_
   refine rp rfl rfl (p_bin rfl rfl rfl rfl) ?_
   refine rz [(1, .i keep1), (2, .b all2), (3, .q 3 (0)), (6, .q 6 (0)), (9, .q 9 (0)), (22, .p ((fun q : List (Vector UInt8 32) => AV.lst (q.flatMap (fun v : Vector UInt8 32 => bcells v.toList)) q.length) d0.Lasts)), (23, .i (d0.Lasts.length : Int)), (24, .i t24_0), (25, .b (decide (t24_0 < (d0.Lasts.length : Int))))] [(3, .pure (GDisk.cs d0)), (6, .pure (GDisk.cs GDisk.zero)), (9, .mix [.own 1000 t1000_0.length 32, .own 1001 ([] : List GPut).length 33]), (1000, .pure (t1000_0.flatMap (fun v : Vector UInt8 32 => bcells v.toList))), (1001, .pure (([] : List GPut).flatMap GPut.cs))] rfl rfl rfl ?_
   refine AW2_seq ?_
   refine AW2_if (p := t24_0 < (d0.Lasts.length : Int)) rfl (fun h3 => ?_) (fun h3 => ?_)
   ·replace H := ite_then h3 H
    refine as2 [(1, .i keep1), (2, .b all2), (3, .q 3 (0)), (6, .q 6 (0)), (9, .q 9 (0)), (22, .p ((fun q : List (Vector UInt8 32) => AV.lst (q.flatMap (fun v : Vector UInt8 32 => bcells v.toList)) q.length) d0.Lasts)), (23, .i (d0.Lasts.length : Int)), (24, .i t24_0)] [(3, .pure (GDisk.cs d0)), (6, .pure (GDisk.cs GDisk.zero)), (9, .mix [.own 1000 t1000_0.length 32, .own 1001 ([] : List GPut).length 33]), (1000, .pure (t1000_0.flatMap (fun v : Vector UInt8 32 => bcells v.toList))), (1001, .pure (([] : List GPut).flatMap GPut.cs))] rfl rfl rfl ?_
    refine AW2_skip ?_
    refine AW2_seq ?_
    refine AW2_block ?_
    refine sg [0, 1, 2, 3, 4, 5] rfl ?_
    refine rp rfl rfl (p_move rfl rfl) ?_
    refine chkK H fun h4 H => ?_
    refine rp rfl rfl (u_ixl rfl rfl Try.underlying22 in_32 rfl rfl (ixe h4) (ixn h4) (fne (fun x => ((bcells_length _).trans (vlen x))) (by decide) (ixn h4))) ?_
    refine rp rfl rfl (u_lda rfl rfl Try.underlying32 rfl in_32 rfl (Nat.succ_pos _) (Sub.fm default (fun x => ((bcells_length _).trans (vlen x))) (ixn h4)) ((bcells_length _).trans (vlen (lrd d0.Lasts t24_0.toNat)))) ?_
    refine r_op rfl rfl (MakeD.opD (u_alloc 11 rfl in_32 one_32 zc_32) rfl rfl rfl rfl) ?_
    refine rp rfl rfl (p_asg rfl rfl) ?_
    refine r_op rfl rfl (u_st rfl rfl rfl rfl rfl in_32 ((bcells_length _).trans (vlen (lrd d0.Lasts t24_0.toNat))) (ne_of_lt (n := 0) (Nat.lt_of_lt_of_eq (by decide) (Eq.symm ((bcells_length _).trans (vlen (Vector.replicate 32 (0 : UInt8))))))) (Upd.refl (((bcells_length _).trans (vlen (lrd d0.Lasts t24_0.toNat))).trans ((bcells_length _).trans (vlen (Vector.replicate 32 (0 : UInt8)))).symm))) ?_
    refine rz [(1, .i keep1), (2, .b all2), (3, .q 3 (0)), (6, .q 6 (0)), (9, .q 9 (0)), (10, .i t24_0), (11, .q 11 (0)), (22, .p ((fun q : List (Vector UInt8 32) => AV.lst (q.flatMap (fun v : Vector UInt8 32 => bcells v.toList)) q.length) d0.Lasts)), (23, .i (d0.Lasts.length : Int)), (24, .i t24_0)] [(3, .pure (GDisk.cs d0)), (6, .pure (GDisk.cs GDisk.zero)), (9, .mix [.own 1000 t1000_0.length 32, .own 1001 ([] : List GPut).length 33]), (11, .pure (bcells ((lrd d0.Lasts t24_0.toNat).toList))), (1000, .pure (t1000_0.flatMap (fun v : Vector UInt8 32 => bcells v.toList))), (1001, .pure (([] : List GPut).flatMap GPut.cs))] rfl rfl rfl ?_
    refine AW2_seq ?_
    refine sg [0, 1, 2, 3] rfl ?_
    refine rp rfl rfl (u_fa rfl rfl Try.underlying25 rfl in_23 (Nat.succ_ne_zero _) rfl rfl (ne_of_lt (n := 0) (Nat.lt_of_lt_of_eq (by decide) (Eq.symm (GDisk.len d0))))) ?_
    refine rp rfl rfl (u_ld rfl rfl Try.underlying23 rfl rfl ((Sub.refl _).trans (GDisk.sub1 d0))) ?_
    refine rp rfl rfl (p_lenl rfl Try.underlying23 rfl rfl) ?_
    refine rp rfl rfl (p_move rfl rfl) ?_
    refine rz [(1, .i keep1), (2, .b all2), (3, .q 3 (0)), (6, .q 6 (0)), (9, .q 9 (0)), (10, .i t24_0), (11, .q 11 (0)), (22, .p ((fun q : List (Vector UInt8 32) => AV.lst (q.flatMap (fun v : Vector UInt8 32 => bcells v.toList)) q.length) d0.Lasts)), (23, .i (d0.Lasts.length : Int)), (24, .i t24_0), (30, .p ((fun q : List GPut => AV.lst (q.flatMap GPut.cs) q.length) d0.Writes)), (31, .i (d0.Writes.length : Int)), (32, .i (0 : Int))] [(3, .pure (GDisk.cs d0)), (6, .pure (GDisk.cs GDisk.zero)), (9, .mix [.own 1000 t1000_0.length 32, .own 1001 ([] : List GPut).length 33]), (11, .pure (bcells ((lrd d0.Lasts t24_0.toNat).toList))), (1000, .pure (t1000_0.flatMap (fun v : Vector UInt8 32 => bcells v.toList))), (1001, .pure (([] : List GPut).flatMap GPut.cs))] rfl rfl rfl ?_
    refine AW2_block ?_
    refine as2 [(1, .i keep1), (2, .b all2), (3, .q 3 (0)), (6, .q 6 (0)), (9, .q 9 (0)), (10, .i t24_0), (11, .q 11 (0)), (22, .p ((fun q : List (Vector UInt8 32) => AV.lst (q.flatMap (fun v : Vector UInt8 32 => bcells v.toList)) q.length) d0.Lasts)), (23, .i (d0.Lasts.length : Int)), (24, .i t24_0), (30, .p ((fun q : List GPut => AV.lst (q.flatMap GPut.cs) q.length) d0.Writes)), (31, .i (d0.Writes.length : Int)), (32, .i (0 : Int))] [(3, .pure (GDisk.cs d0)), (6, .pure (GDisk.cs GDisk.zero)), (9, .mix [.own 1000 t1000_0.length 32, .own 1001 ([] : List GPut).length 33]), (11, .pure (bcells ((lrd d0.Lasts t24_0.toNat).toList))), (1000, .pure (t1000_0.flatMap (fun v : Vector UInt8 32 => bcells v.toList))), (1001, .pure (([] : List GPut).flatMap GPut.cs))] rfl rfl rfl ?_
    refine bindK H fun y'7 h16 H => ?_
    refine AW2_loopO (fun a'4 : Int × (Vector UInt8 32) => (⟨[(1, .i keep1), (2, .b all2), (3, .q 3 (0)), (6, .q 6 (0)), (9, .q 9 (0)), (10, .i t24_0), (11, .q 11 (0)), (22, .p ((fun q : List (Vector UInt8 32) => AV.lst (q.flatMap (fun v : Vector UInt8 32 => bcells v.toList)) q.length) d0.Lasts)), (23, .i (d0.Lasts.length : Int)), (24, .i t24_0), (30, .p ((fun q : List GPut => AV.lst (q.flatMap GPut.cs) q.length) d0.Writes)), (31, .i (d0.Writes.length : Int)), (32, .i a'4.1)], [(3, .pure (GDisk.cs d0)), (6, .pure (GDisk.cs GDisk.zero)), (9, .mix [.own 1000 t1000_0.length 32, .own 1001 ([] : List GPut).length 33]), (11, .pure (bcells a'4.2.toList)), (1000, .pure (t1000_0.flatMap (fun v : Vector UInt8 32 => bcells v.toList))), (1001, .pure (([] : List GPut).flatMap GPut.cs))], 66⟩ : TS)) (fun (y'5 : ((Vector UInt8 32))) e s' => e = Go.Exit.exit 2 ∧ s' = (⟨[(1, .i keep1), (2, .b all2), (3, .q 3 (0)), (6, .q 6 (0)), (9, .q 9 (0)), (11, .q 11 (0)), (22, .p ((fun q : List (Vector UInt8 32) => AV.lst (q.flatMap (fun v : Vector UInt8 32 => bcells v.toList)) q.length) d0.Lasts)), (23, .i (d0.Lasts.length : Int)), (24, .i t24_0)], [(3, .pure (GDisk.cs d0)), (6, .pure (GDisk.cs GDisk.zero)), (9, .mix [.own 1000 t1000_0.length 32, .own 1001 ([] : List GPut).length 33]), (11, .pure (bcells y'5.toList)), (1000, .pure (t1000_0.flatMap (fun v : Vector UInt8 32 => bcells v.toList))), (1001, .pure (([] : List GPut).flatMap GPut.cs))], 66⟩ : TS)) h16 rfl (fun a x hx => ?_) (fun e s' hs => ?_)
    ·clear H
     obtain ⟨t32_1, b11_1⟩ := a
     have H := hx
     clear hx
     unfold g_ref_Fallen_l1 at H
     refine sg [0] rfl ?_
     refine rp rfl rfl (p_bin rfl rfl rfl rfl) ?_
     refine rz [(1, .i keep1), (2, .b all2), (3, .q 3 (0)), (6, .q 6 (0)), (9, .q 9 (0)), (10, .i t24_0), (11, .q 11 (0)), (22, .p ((fun q : List (Vector UInt8 32) => AV.lst (q.flatMap (fun v : Vector UInt8 32 => bcells v.toList)) q.length) d0.Lasts)), (23, .i (d0.Lasts.length : Int)), (24, .i t24_0), (30, .p ((fun q : List GPut => AV.lst (q.flatMap GPut.cs) q.length) d0.Writes)), (31, .i (d0.Writes.length : Int)), (32, .i t32_1), (33, .b (decide (t32_1 < (d0.Writes.length : Int))))] [(3, .pure (GDisk.cs d0)), (6, .pure (GDisk.cs GDisk.zero)), (9, .mix [.own 1000 t1000_0.length 32, .own 1001 ([] : List GPut).length 33]), (11, .pure (bcells b11_1.toList)), (1000, .pure (t1000_0.flatMap (fun v : Vector UInt8 32 => bcells v.toList))), (1001, .pure (([] : List GPut).flatMap GPut.cs))] rfl rfl rfl ?_
     refine AW2_seq ?_
     refine AW2_if (p := t32_1 < (d0.Writes.length : Int)) rfl (fun h5 => ?_) (fun h5 => ?_)
     ·replace H := ite_then h5 H
      refine as2 [(1, .i keep1), (2, .b all2), (3, .q 3 (0)), (6, .q 6 (0)), (9, .q 9 (0)), (10, .i t24_0), (11, .q 11 (0)), (22, .p ((fun q : List (Vector UInt8 32) => AV.lst (q.flatMap (fun v : Vector UInt8 32 => bcells v.toList)) q.length) d0.Lasts)), (23, .i (d0.Lasts.length : Int)), (24, .i t24_0), (30, .p ((fun q : List GPut => AV.lst (q.flatMap GPut.cs) q.length) d0.Writes)), (31, .i (d0.Writes.length : Int)), (32, .i t32_1)] [(3, .pure (GDisk.cs d0)), (6, .pure (GDisk.cs GDisk.zero)), (9, .mix [.own 1000 t1000_0.length 32, .own 1001 ([] : List GPut).length 33]), (11, .pure (bcells b11_1.toList)), (1000, .pure (t1000_0.flatMap (fun v : Vector UInt8 32 => bcells v.toList))), (1001, .pure (([] : List GPut).flatMap GPut.cs))] rfl rfl rfl ?_
      refine AW2_skip ?_
      refine AW2_seq ?_
      refine bindK H fun j'2 h6 H => ?_
      refine AW2_mid (⟨[(1, .i keep1), (2, .b all2), (3, .q 3 (0)), (6, .q 6 (0)), (9, .q 9 (0)), (10, .i t24_0), (11, .q 11 (0)), (22, .p ((fun q : List (Vector UInt8 32) => AV.lst (q.flatMap (fun v : Vector UInt8 32 => bcells v.toList)) q.length) d0.Lasts)), (23, .i (d0.Lasts.length : Int)), (24, .i t24_0), (30, .p ((fun q : List GPut => AV.lst (q.flatMap GPut.cs) q.length) d0.Writes)), (31, .i (d0.Writes.length : Int)), (32, .i t32_1)], [(3, .pure (GDisk.cs d0)), (6, .pure (GDisk.cs GDisk.zero)), (9, .mix [.own 1000 t1000_0.length 32, .own 1001 ([] : List GPut).length 33]), (11, .pure (bcells j'2.toList)), (1000, .pure (t1000_0.flatMap (fun v : Vector UInt8 32 => bcells v.toList))), (1001, .pure (([] : List GPut).flatMap GPut.cs))], 66⟩ : TS) ?_ ?_
      ·clear H
       have H := h6
       clear h6
       refine AW2_block ?_
       refine sg [0, 1, 2, 3, 4, 5] rfl ?_
       refine rp rfl rfl (p_move rfl rfl) ?_
       refine chkK H fun h7 H => ?_
       refine rp rfl rfl (u_ixl rfl rfl Try.underlying23 in_70 rfl rfl (ixe h7) (ixn h7) (fne (fun x => (GPut.len x)) (by decide) (ixn h7))) ?_
       refine rp rfl rfl (u_lda rfl rfl Try.underlying70 rfl in_70 rfl (Nat.succ_pos _) (Sub.fm default (fun x => (GPut.len x)) (ixn h7)) (GPut.len (lrd d0.Writes t32_1.toNat))) ?_
       refine r_op rfl rfl (MakeD.opD (u_alloc 13 rfl in_70 one_70 zc_70) rfl rfl rfl rfl) ?_
       refine rp rfl rfl (p_asg rfl rfl) ?_
       refine r_op rfl rfl (u_st rfl rfl rfl rfl rfl in_70 (GPut.len (lrd d0.Writes t32_1.toNat)) (ne_of_lt (n := 0) (Nat.lt_of_lt_of_eq (by decide) (Eq.symm (GPut.len GPut.zero)))) (Upd.refl ((GPut.len (lrd d0.Writes t32_1.toNat)).trans (GPut.len GPut.zero).symm))) ?_
       refine rz [(1, .i keep1), (2, .b all2), (3, .q 3 (0)), (6, .q 6 (0)), (9, .q 9 (0)), (10, .i t24_0), (11, .q 11 (0)), (12, .i t32_1), (13, .q 13 (0)), (22, .p ((fun q : List (Vector UInt8 32) => AV.lst (q.flatMap (fun v : Vector UInt8 32 => bcells v.toList)) q.length) d0.Lasts)), (23, .i (d0.Lasts.length : Int)), (24, .i t24_0), (30, .p ((fun q : List GPut => AV.lst (q.flatMap GPut.cs) q.length) d0.Writes)), (31, .i (d0.Writes.length : Int)), (32, .i t32_1)] [(3, .pure (GDisk.cs d0)), (6, .pure (GDisk.cs GDisk.zero)), (9, .mix [.own 1000 t1000_0.length 32, .own 1001 ([] : List GPut).length 33]), (11, .pure (bcells b11_1.toList)), (13, .pure (GPut.cs (lrd d0.Writes t32_1.toNat))), (1000, .pure (t1000_0.flatMap (fun v : Vector UInt8 32 => bcells v.toList))), (1001, .pure (([] : List GPut).flatMap GPut.cs))] rfl rfl rfl ?_
       refine AW2_seq ?_
       refine bindK H fun g'3 h13 H => ?_
       refine AW2_mid (⟨[(1, .i keep1), (2, .b all2), (3, .q 3 (0)), (6, .q 6 (0)), (9, .q 9 (0)), (10, .i t24_0), (11, .q 11 (0)), (13, .q 13 (0)), (22, .p ((fun q : List (Vector UInt8 32) => AV.lst (q.flatMap (fun v : Vector UInt8 32 => bcells v.toList)) q.length) d0.Lasts)), (23, .i (d0.Lasts.length : Int)), (24, .i t24_0), (30, .p ((fun q : List GPut => AV.lst (q.flatMap GPut.cs) q.length) d0.Writes)), (31, .i (d0.Writes.length : Int)), (32, .i t32_1), (54, .b g'3)], [(3, .pure (GDisk.cs d0)), (6, .pure (GDisk.cs GDisk.zero)), (9, .mix [.own 1000 t1000_0.length 32, .own 1001 ([] : List GPut).length 33]), (11, .pure (bcells b11_1.toList)), (13, .pure (GPut.cs (lrd d0.Writes t32_1.toNat))), (1000, .pure (t1000_0.flatMap (fun v : Vector UInt8 32 => bcells v.toList))), (1001, .pure (([] : List GPut).flatMap GPut.cs))], 66⟩ : TS) ?_ ?_
       ·clear H
        have H := h13
        clear h13
        refine AW2_reg [0, 1, 2, 3, 4, 5, 6, 7, 8, 9, 10, 11, 12, 13, 14, 15, 16, 17] rfl ?_
        refine rp rfl rfl (u_fa rfl rfl Try.underlying70 rfl in_3 (Nat.succ_ne_zero _) rfl rfl (ne_of_lt (n := 0) (Nat.lt_of_lt_of_eq (by decide) (Eq.symm (GPut.len (lrd d0.Writes t32_1.toNat)))))) ?_
        refine rp rfl rfl (u_ld rfl rfl Try.underlying3 rfl rfl ((Sub.refl _).trans (GPut.sub0 (lrd d0.Writes t32_1.toNat)))) ?_
        refine rp rfl rfl (p_move rfl rfl) ?_
        refine rp rfl rfl (p_ieq rfl rfl rfl) ?_
        refine rp rfl rfl (p_move rfl rfl) ?_
        refine (Classical.em ((lrd d0.Writes t32_1.toNat).At = t24_0)).elim (fun h9 => ?_) (fun h9 => ?_)
        ·replace H := ite_then h9 H
         refine r_on rfl rfl rfl rfl (decide_eq_true h9) rfl (PureD.opD (p_move rfl rfl)) ?_
         refine r_on rfl rfl rfl rfl (decide_eq_true h9) rfl (PureD.opD (p_move rfl rfl)) ?_
         refine (Classical.em (all2 = true)).elim (fun h10 => ?_) (fun h10 => ?_)
         ·replace H := ite_then h10 H
          iterate 3 (refine r_off rfl rfl rfl rfl h10 rfl rfl ?_)
          iterate 5 (refine r_off2 rfl rfl rfl rfl rfl rfl ?_)
          refine r_off rfl rfl rfl rfl h10 rfl rfl ?_
          refine r_on rfl rfl rfl rfl (decide_eq_true h9) rfl (PureD.opD (p_pkt rfl rfl h10 (.same _))) ?_
          refine rp rfl rfl (p_pkt rfl rfl (decide_eq_true h9) (.same _)) ?_
          refine rs [(1, .i keep1), (2, .b all2), (3, .q 3 (0)), (6, .q 6 (0)), (9, .q 9 (0)), (10, .i t24_0), (11, .q 11 (0)), (13, .q 13 (0)), (22, .p ((fun q : List (Vector UInt8 32) => AV.lst (q.flatMap (fun v : Vector UInt8 32 => bcells v.toList)) q.length) d0.Lasts)), (23, .i (d0.Lasts.length : Int)), (24, .i t24_0), (30, .p ((fun q : List GPut => AV.lst (q.flatMap GPut.cs) q.length) d0.Writes)), (31, .i (d0.Writes.length : Int)), (32, .i t32_1), (54, .b true)] [(3, .pure (GDisk.cs d0)), (6, .pure (GDisk.cs GDisk.zero)), (9, .mix [.own 1000 t1000_0.length 32, .own 1001 ([] : List GPut).length 33]), (11, .pure (bcells b11_1.toList)), (13, .pure (GPut.cs (lrd d0.Writes t32_1.toNat))), (1000, .pure (t1000_0.flatMap (fun v : Vector UInt8 32 => bcells v.toList))), (1001, .pure (([] : List GPut).flatMap GPut.cs))] rfl rfl rfl ?_
          have hz := some_elim H
          subst hz
          exact RunW_nil rfl
         ·replace H := ite_else h10 H
          refine r_on rfl rfl rfl rfl (bfalse h10) rfl (PureD.opD (p_move rfl rfl)) ?_
          refine r_on rfl rfl rfl rfl (bfalse h10) rfl (PureD.opD (p_bin rfl rfl rfl rfl)) ?_
          refine r_on rfl rfl rfl rfl (bfalse h10) rfl (PureD.opD (p_move rfl rfl)) ?_
          refine (Classical.em (t32_1 < (63 : Int))).elim (fun h11 => ?_) (fun h11 => ?_)
          ·replace H := ite_then h11 H
           refine r_on rfl rfl rfl rfl (decide_eq_true h11) rfl (PureD.opD (p_move rfl rfl)) ?_
           refine r_on rfl rfl rfl rfl (decide_eq_true h11) rfl (PureD.opD (p_move rfl rfl)) ?_
           refine chkK H fun h12 H => ?_
           refine r_on rfl rfl rfl rfl (decide_eq_true h11) rfl (PureD.opD (p_ishl (n := t32_1.toNat) rfl rfl rfl (Int.toNat_of_nonneg h12).symm)) ?_
           refine r_on rfl rfl rfl rfl (decide_eq_true h11) rfl (PureD.opD (p_bin rfl rfl rfl rfl)) ?_
           refine r_on rfl rfl rfl rfl (decide_eq_true h11) rfl (PureD.opD (p_ine rfl rfl rfl)) ?_
           refine r_on rfl rfl rfl rfl (bfalse h10) rfl (PureD.opD (p_pkt rfl rfl (decide_eq_true h11) (.same _))) ?_
           refine r_on rfl rfl rfl rfl (decide_eq_true h9) rfl (PureD.opD (p_pkf rfl rfl (bfalse h10) (.same _))) ?_
           refine rp rfl rfl (p_pkt rfl rfl (decide_eq_true h9) (.same _)) ?_
           refine rs [(1, .i keep1), (2, .b all2), (3, .q 3 (0)), (6, .q 6 (0)), (9, .q 9 (0)), (10, .i t24_0), (11, .q 11 (0)), (13, .q 13 (0)), (22, .p ((fun q : List (Vector UInt8 32) => AV.lst (q.flatMap (fun v : Vector UInt8 32 => bcells v.toList)) q.length) d0.Lasts)), (23, .i (d0.Lasts.length : Int)), (24, .i t24_0), (30, .p ((fun q : List GPut => AV.lst (q.flatMap GPut.cs) q.length) d0.Writes)), (31, .i (d0.Writes.length : Int)), (32, .i t32_1), (54, .b (decide (iand keep1 (ishl (1 : Int) t32_1.toNat) ≠ (0 : Int))))] [(3, .pure (GDisk.cs d0)), (6, .pure (GDisk.cs GDisk.zero)), (9, .mix [.own 1000 t1000_0.length 32, .own 1001 ([] : List GPut).length 33]), (11, .pure (bcells b11_1.toList)), (13, .pure (GPut.cs (lrd d0.Writes t32_1.toNat))), (1000, .pure (t1000_0.flatMap (fun v : Vector UInt8 32 => bcells v.toList))), (1001, .pure (([] : List GPut).flatMap GPut.cs))] rfl rfl rfl ?_
           have hz := some_elim H
           subst hz
           exact RunW_nil rfl
          ·replace H := ite_else h11 H
           iterate 5 (refine r_off rfl rfl rfl rfl (decide_eq_false h11) rfl rfl ?_)
           refine r_on rfl rfl rfl rfl (bfalse h10) rfl (PureD.opD (p_pkf rfl rfl (decide_eq_false h11) (.same _))) ?_
           refine r_on rfl rfl rfl rfl (decide_eq_true h9) rfl (PureD.opD (p_pkf rfl rfl (bfalse h10) (.same _))) ?_
           refine rp rfl rfl (p_pkt rfl rfl (decide_eq_true h9) (.same _)) ?_
           refine rs [(1, .i keep1), (2, .b all2), (3, .q 3 (0)), (6, .q 6 (0)), (9, .q 9 (0)), (10, .i t24_0), (11, .q 11 (0)), (13, .q 13 (0)), (22, .p ((fun q : List (Vector UInt8 32) => AV.lst (q.flatMap (fun v : Vector UInt8 32 => bcells v.toList)) q.length) d0.Lasts)), (23, .i (d0.Lasts.length : Int)), (24, .i t24_0), (30, .p ((fun q : List GPut => AV.lst (q.flatMap GPut.cs) q.length) d0.Writes)), (31, .i (d0.Writes.length : Int)), (32, .i t32_1), (54, .b false)] [(3, .pure (GDisk.cs d0)), (6, .pure (GDisk.cs GDisk.zero)), (9, .mix [.own 1000 t1000_0.length 32, .own 1001 ([] : List GPut).length 33]), (11, .pure (bcells b11_1.toList)), (13, .pure (GPut.cs (lrd d0.Writes t32_1.toNat))), (1000, .pure (t1000_0.flatMap (fun v : Vector UInt8 32 => bcells v.toList))), (1001, .pure (([] : List GPut).flatMap GPut.cs))] rfl rfl rfl ?_
           have hz := some_elim H
           subst hz
           exact RunW_nil rfl
        ·replace H := ite_else h9 H
         iterate 2 (refine r_off rfl rfl rfl rfl (decide_eq_false h9) rfl rfl ?_)
         iterate 9 (refine r_off2 rfl rfl rfl rfl rfl rfl ?_)
         refine r_off rfl rfl rfl rfl (decide_eq_false h9) rfl rfl ?_
         refine rp rfl rfl (p_pkf rfl rfl (decide_eq_false h9) (.same _)) ?_
         refine rs [(1, .i keep1), (2, .b all2), (3, .q 3 (0)), (6, .q 6 (0)), (9, .q 9 (0)), (10, .i t24_0), (11, .q 11 (0)), (13, .q 13 (0)), (22, .p ((fun q : List (Vector UInt8 32) => AV.lst (q.flatMap (fun v : Vector UInt8 32 => bcells v.toList)) q.length) d0.Lasts)), (23, .i (d0.Lasts.length : Int)), (24, .i t24_0), (30, .p ((fun q : List GPut => AV.lst (q.flatMap GPut.cs) q.length) d0.Writes)), (31, .i (d0.Writes.length : Int)), (32, .i t32_1), (54, .b false)] [(3, .pure (GDisk.cs d0)), (6, .pure (GDisk.cs GDisk.zero)), (9, .mix [.own 1000 t1000_0.length 32, .own 1001 ([] : List GPut).length 33]), (11, .pure (bcells b11_1.toList)), (13, .pure (GPut.cs (lrd d0.Writes t32_1.toNat))), (1000, .pure (t1000_0.flatMap (fun v : Vector UInt8 32 => bcells v.toList))), (1001, .pure (([] : List GPut).flatMap GPut.cs))] rfl rfl rfl ?_
         have hz := some_elim H
         subst hz
         exact RunW_nil rfl
       ·refine AW2_cond rfl (fun h14 => ?_) (fun h14 => ?_)
        ·replace H := ite_then h14 H
         refine AW2_reg [0, 1, 2] rfl ?_
         refine rp rfl rfl (u_fa rfl rfl Try.underlying70 rfl in_32 (Nat.succ_ne_zero _) rfl rfl (ne_of_lt (n := 0) (Nat.lt_of_lt_of_eq (by decide) (Eq.symm (GPut.len (lrd d0.Writes t32_1.toNat)))))) ?_
         refine rp rfl rfl (u_lda rfl rfl Try.underlying32 rfl in_32 rfl (Nat.succ_pos _) ((Sub.refl _).trans (GPut.sub1 (lrd d0.Writes t32_1.toNat))) ((bcells_length _).trans (vlen ((lrd d0.Writes t32_1.toNat).Data)))) ?_
         refine r_op rfl rfl (u_st rfl rfl rfl rfl rfl in_32 ((bcells_length _).trans (vlen ((lrd d0.Writes t32_1.toNat).Data))) (ne_of_lt (n := 0) (Nat.lt_of_lt_of_eq (by decide) (Eq.symm ((bcells_length _).trans (vlen b11_1))))) (Upd.refl (((bcells_length _).trans (vlen ((lrd d0.Writes t32_1.toNat).Data))).trans ((bcells_length _).trans (vlen b11_1)).symm))) ?_
         refine rz [(1, .i keep1), (2, .b all2), (3, .q 3 (0)), (6, .q 6 (0)), (9, .q 9 (0)), (10, .i t24_0), (11, .q 11 (0)), (22, .p ((fun q : List (Vector UInt8 32) => AV.lst (q.flatMap (fun v : Vector UInt8 32 => bcells v.toList)) q.length) d0.Lasts)), (23, .i (d0.Lasts.length : Int)), (24, .i t24_0), (30, .p ((fun q : List GPut => AV.lst (q.flatMap GPut.cs) q.length) d0.Writes)), (31, .i (d0.Writes.length : Int)), (32, .i t32_1)] [(3, .pure (GDisk.cs d0)), (6, .pure (GDisk.cs GDisk.zero)), (9, .mix [.own 1000 t1000_0.length 32, .own 1001 ([] : List GPut).length 33]), (11, .pure (bcells (((lrd d0.Writes t32_1.toNat).Data).toList))), (1000, .pure (t1000_0.flatMap (fun v : Vector UInt8 32 => bcells v.toList))), (1001, .pure (([] : List GPut).flatMap GPut.cs))] rfl rfl rfl ?_
         have hz := some_elim H
         subst hz
         exact rfl
        ·replace H := ite_else (ne_true h14) H
         refine as2 [(1, .i keep1), (2, .b all2), (3, .q 3 (0)), (6, .q 6 (0)), (9, .q 9 (0)), (10, .i t24_0), (11, .q 11 (0)), (22, .p ((fun q : List (Vector UInt8 32) => AV.lst (q.flatMap (fun v : Vector UInt8 32 => bcells v.toList)) q.length) d0.Lasts)), (23, .i (d0.Lasts.length : Int)), (24, .i t24_0), (30, .p ((fun q : List GPut => AV.lst (q.flatMap GPut.cs) q.length) d0.Writes)), (31, .i (d0.Writes.length : Int)), (32, .i t32_1)] [(3, .pure (GDisk.cs d0)), (6, .pure (GDisk.cs GDisk.zero)), (9, .mix [.own 1000 t1000_0.length 32, .own 1001 ([] : List GPut).length 33]), (11, .pure (bcells b11_1.toList)), (1000, .pure (t1000_0.flatMap (fun v : Vector UInt8 32 => bcells v.toList))), (1001, .pure (([] : List GPut).flatMap GPut.cs))] rfl rfl rfl ?_
         refine AW2_skip ?_
         have hz := some_elim H
         subst hz
         exact rfl
      ·refine AW2_reg [0, 1] rfl ?_
       refine rp rfl rfl (p_bin rfl rfl rfl rfl) ?_
       refine rp rfl rfl (p_move rfl rfl) ?_
       refine rz [(1, .i keep1), (2, .b all2), (3, .q 3 (0)), (6, .q 6 (0)), (9, .q 9 (0)), (10, .i t24_0), (11, .q 11 (0)), (22, .p ((fun q : List (Vector UInt8 32) => AV.lst (q.flatMap (fun v : Vector UInt8 32 => bcells v.toList)) q.length) d0.Lasts)), (23, .i (d0.Lasts.length : Int)), (24, .i t24_0), (30, .p ((fun q : List GPut => AV.lst (q.flatMap GPut.cs) q.length) d0.Writes)), (31, .i (d0.Writes.length : Int)), (32, .i (w64 (t32_1 + (1 : Int))))] [(3, .pure (GDisk.cs d0)), (6, .pure (GDisk.cs GDisk.zero)), (9, .mix [.own 1000 t1000_0.length 32, .own 1001 ([] : List GPut).length 33]), (11, .pure (bcells j'2.toList)), (1000, .pure (t1000_0.flatMap (fun v : Vector UInt8 32 => bcells v.toList))), (1001, .pure (([] : List GPut).flatMap GPut.cs))] rfl rfl rfl ?_
       have hz := some_elim H
       subst hz
       exact ⟨rfl, rfl⟩
     ·replace H := ite_else h5 H
      refine as2 [(1, .i keep1), (2, .b all2), (3, .q 3 (0)), (6, .q 6 (0)), (9, .q 9 (0)), (11, .q 11 (0)), (22, .p ((fun q : List (Vector UInt8 32) => AV.lst (q.flatMap (fun v : Vector UInt8 32 => bcells v.toList)) q.length) d0.Lasts)), (23, .i (d0.Lasts.length : Int)), (24, .i t24_0)] [(3, .pure (GDisk.cs d0)), (6, .pure (GDisk.cs GDisk.zero)), (9, .mix [.own 1000 t1000_0.length 32, .own 1001 ([] : List GPut).length 33]), (11, .pure (bcells b11_1.toList)), (1000, .pure (t1000_0.flatMap (fun v : Vector UInt8 32 => bcells v.toList))), (1001, .pure (([] : List GPut).flatMap GPut.cs))] rfl rfl rfl ?_
      refine AW2_exit ?_
      refine thenQ2_exit ?_
      have hz := some_elim H
      subst hz
      exact ⟨rfl, rfl⟩
    ·obtain ⟨rfl, rfl⟩ := hs
     refine ⟨by simp, ?_⟩
     refine blockQ2_exit ?_
     refine AW2_reg [0, 1, 2, 3, 4, 5, 6] rfl ?_
     refine rp rfl rfl (p_fa rfl rfl Try.underlying25 rfl (in_22).sz (Nat.succ_ne_zero _) rfl rfl (fun _ => List.cons_ne_nil _ _)) ?_
     refine rp rfl rfl (p_ldm rfl rfl Try.underlying22 rfl rfl rfl rfl) ?_
     refine rp rfl rfl (u_lda rfl rfl Try.underlying32 rfl in_32 rfl (Nat.succ_pos _) (Sub.refl _) ((bcells_length _).trans (vlen y'7))) ?_
     refine r_op rfl rfl (MakeD.opD (u_bs 61 rfl Try.underlying22 in_32 rfl one_32 (by decide) (by decide) zc_32 rfl (af_lit (g := (fun v : Vector UInt8 32 => bcells v.toList)) (fun x => ((bcells_length _).trans (vlen x))) ((bcells_length _).trans (vlen (Vector.replicate 32 (0 : UInt8)))) [y'7])) rfl rfl rfl rfl) ?_
     refine RunW_st [(1, .i keep1), (2, .b all2), (3, .q 3 (0)), (6, .q 6 (0)), (9, .q 9 (0)), (11, .q 11 (0)), (22, .p ((fun q : List (Vector UInt8 32) => AV.lst (q.flatMap (fun v : Vector UInt8 32 => bcells v.toList)) q.length) d0.Lasts)), (23, .i (d0.Lasts.length : Int)), (24, .i t24_0), (58, .q 9 (0 + 0)), (59, .c (.own 1000 t1000_0.length 32)), (60, .g (bcells y'7.toList)), (61, .c (.own 61 ([y'7] : List (Vector UInt8 32)).length 32))] [(3, .pure (GDisk.cs d0)), (6, .pure (GDisk.cs GDisk.zero)), (9, .mix [.own 1000 t1000_0.length 32, .own 1001 ([] : List GPut).length 33]), (11, .pure (bcells y'7.toList)), (61, .pure (([y'7] : List (Vector UInt8 32)).flatMap (fun v : Vector UInt8 32 => bcells v.toList))), (1000, .pure (t1000_0.flatMap (fun v : Vector UInt8 32 => bcells v.toList))), (1001, .pure (([] : List GPut).flatMap GPut.cs))] rfl ⟨TLes.same _, TLes.same _, TLes.same _, TLes.same _, TLes.same _, TLes.same _, TLes.same _, TLes.same _, TLes.same _, TLes.same _, TLes.same _, TLes.same _, TLes.own rfl, trivial⟩ ⟨rfl, rfl, rfl, rfl, rfl, rfl, rfl, trivial⟩ ?_
     refine RunW_gho (Gho_blk (b := 9) (k := .mix [.own 1000 t1000_0.length 32, .own 1001 ([] : List GPut).length 33]) (k' := .mix [.p .any, .own 1001 ([] : List GPut).length 33]) rfl (AnyL.cles ⟨(.inr rfl), (.inl rfl), trivial⟩)) ?_
     refine rs [(1, .i keep1), (2, .b all2), (3, .q 3 (0)), (6, .q 6 (0)), (9, .q 9 (0)), (11, .q 11 (0)), (22, .p ((fun q : List (Vector UInt8 32) => AV.lst (q.flatMap (fun v : Vector UInt8 32 => bcells v.toList)) q.length) d0.Lasts)), (23, .i (d0.Lasts.length : Int)), (24, .i t24_0), (58, .q 9 (0 + 0)), (59, .c (.own 1000 t1000_0.length 32)), (60, .g (bcells y'7.toList)), (61, .c (.own 61 ([y'7] : List (Vector UInt8 32)).length 32))] [(3, .pure (GDisk.cs d0)), (6, .pure (GDisk.cs GDisk.zero)), (9, .mix [.p .any, .own 1001 ([] : List GPut).length 33]), (11, .pure (bcells y'7.toList)), (61, .pure (([y'7] : List (Vector UInt8 32)).flatMap (fun v : Vector UInt8 32 => bcells v.toList))), (1000, .pure (t1000_0.flatMap (fun v : Vector UInt8 32 => bcells v.toList))), (1001, .pure (([] : List GPut).flatMap GPut.cs))] rfl rfl rfl ?_
     refine chkK H fun h17 H => ?_
     refine r_op rfl rfl (u_app [59] rfl rfl rfl rfl Try.underlying22 Try.underlying22 in_32 rfl rfl rfl (fm_length (fun x => ((bcells_length _).trans (vlen x))) t1000_0) (by decide) (srcT_o rfl rfl (fm_length (fun x => ((bcells_length _).trans (vlen x))) ([y'7] : List (Vector UInt8 32))) (by decide)) (fm_length (fun x => ((bcells_length _).trans (vlen x))) ([y'7] : List (Vector UInt8 32))) h17 (by decide) rfl rfl (fapp (fun v : Vector UInt8 32 => bcells v.toList) t1000_0 ([y'7] : List (Vector UInt8 32))) (lapp t1000_0 ([y'7] : List (Vector UInt8 32)))) ?_
     refine rp rfl rfl (p_fa rfl rfl Try.underlying25 rfl (in_22).sz (Nat.succ_ne_zero _) rfl rfl (fun _ => List.cons_ne_nil _ _)) ?_
     refine r_op rfl rfl (d_stm (o := [.p .any, .own 1001 ([] : List GPut).length 33]) (xs := [.own 1000 (t1000_0 ++ ([y'7] : List (Vector UInt8 32))).length 32]) (o' := [.own 1000 (t1000_0 ++ ([y'7] : List (Vector UInt8 32))).length 32, .own 1001 ([] : List GPut).length 33]) rfl rfl rfl rfl (fun _ => rfl) rfl (in_22).sz (Nat.le_of_ble_eq_true rfl) (List.cons_ne_nil _ _) (fun _ => rfl)) ?_
     refine rz [(1, .i keep1), (2, .b all2), (3, .q 3 (0)), (6, .q 6 (0)), (9, .q 9 (0)), (22, .p ((fun q : List (Vector UInt8 32) => AV.lst (q.flatMap (fun v : Vector UInt8 32 => bcells v.toList)) q.length) d0.Lasts)), (23, .i (d0.Lasts.length : Int)), (24, .i t24_0)] [(3, .pure (GDisk.cs d0)), (6, .pure (GDisk.cs GDisk.zero)), (9, .mix [.own 1000 (t1000_0 ++ ([y'7] : List (Vector UInt8 32))).length 32, .own 1001 ([] : List GPut).length 33]), (1000, .pure ((t1000_0 ++ ([y'7] : List (Vector UInt8 32))).flatMap (fun v : Vector UInt8 32 => bcells v.toList))), (1001, .pure (([] : List GPut).flatMap GPut.cs))] rfl rfl rfl ?_
     refine AW2_reg [0, 1] rfl ?_
     refine rp rfl rfl (p_bin rfl rfl rfl rfl) ?_
     refine rp rfl rfl (p_move rfl rfl) ?_
     refine rz [(1, .i keep1), (2, .b all2), (3, .q 3 (0)), (6, .q 6 (0)), (9, .q 9 (0)), (22, .p ((fun q : List (Vector UInt8 32) => AV.lst (q.flatMap (fun v : Vector UInt8 32 => bcells v.toList)) q.length) d0.Lasts)), (23, .i (d0.Lasts.length : Int)), (24, .i (w64 (t24_0 + (1 : Int))))] [(3, .pure (GDisk.cs d0)), (6, .pure (GDisk.cs GDisk.zero)), (9, .mix [.own 1000 (t1000_0 ++ ([y'7] : List (Vector UInt8 32))).length 32, .own 1001 ([] : List GPut).length 33]), (1000, .pure ((t1000_0 ++ ([y'7] : List (Vector UInt8 32))).flatMap (fun v : Vector UInt8 32 => bcells v.toList))), (1001, .pure (([] : List GPut).flatMap GPut.cs))] rfl rfl rfl ?_
     have hz := some_elim H
     subst hz
     exact ⟨rfl, rfl⟩
   ·replace H := ite_else h3 H
    refine as2 [(6, .q 6 (0)), (9, .q 9 (0))] [(6, .pure (GDisk.cs GDisk.zero)), (9, .mix [.own 1000 t1000_0.length 32, .own 1001 ([] : List GPut).length 33]), (1000, .pure (t1000_0.flatMap (fun v : Vector UInt8 32 => bcells v.toList))), (1001, .pure (([] : List GPut).flatMap GPut.cs))] rfl rfl rfl ?_
    refine AW2_exit ?_
    refine thenQ2_exit ?_
    have hz := some_elim H
    subst hz
    exact ⟨rfl, rfl⟩
  ·obtain ⟨rfl, rfl⟩ := hs
   refine ⟨by simp, ?_⟩
   refine blockQ2_exit ?_
   refine sg [0, 1, 2] rfl ?_
   refine rp rfl rfl (p_ldam rfl rfl Try.underlying25 rfl (in_25).sz rfl rfl (Nat.le_of_ble_eq_true rfl) (Nat.succ_pos _) rfl) ?_
   refine rs [(6, .q 6 (0)), (65, .agg [.own 1000 y'11.length 32, .own 1001 ([] : List GPut).length 33])] [(6, .pure (GDisk.cs GDisk.zero)), (1000, .pure (y'11.flatMap (fun v : Vector UInt8 32 => bcells v.toList))), (1001, .pure (([] : List GPut).flatMap GPut.cs))] rfl rfl rfl ?_
   refine RunW_gho (Gho_puba (b := 1000) [(65, .agg [.p (((fun q : List (Vector UInt8 32) => AV.lst (q.flatMap (fun v : Vector UInt8 32 => bcells v.toList)) q.length) y'11)), .own 1001 ([] : List GPut).length 33])] ⟨⟨(.inr (.inl ⟨rfl, rfl⟩)), (.inl rfl), trivial⟩, trivial⟩ rfl (fm_length (fun x => ((bcells_length _).trans (vlen x))) y'11) (by decide)) ?_
   refine RunW_gho (Gho_puba (b := 1001) [(65, .agg [.p (((fun q : List (Vector UInt8 32) => AV.lst (q.flatMap (fun v : Vector UInt8 32 => bcells v.toList)) q.length) y'11)), .p (((fun q : List GPut => AV.lst (q.flatMap GPut.cs) q.length) ([] : List GPut)))])] ⟨⟨(.inl rfl), (.inr (.inl ⟨rfl, rfl⟩)), trivial⟩, trivial⟩ rfl (fm_length (fun x => (GPut.len x)) ([] : List GPut)) (by decide)) ?_
   refine RunW_st [(6, .q 6 (0)), (65, .g (GDisk.cs ({ Lasts := y'11, Writes := ([] : List GPut) } : GDisk)))] [(6, .pure (GDisk.cs GDisk.zero))] rfl ⟨TLes.same _, (fun _ => .same _), trivial⟩ ⟨rfl, trivial⟩ ?_
   refine r_op rfl rfl (u_st rfl rfl rfl rfl rfl in_25 (GDisk.len ({ Lasts := y'11, Writes := ([] : List GPut) } : GDisk)) (ne_of_lt (n := 0) (Nat.lt_of_lt_of_eq (by decide) (Eq.symm (GDisk.len GDisk.zero)))) (Upd.refl ((GDisk.len ({ Lasts := y'11, Writes := ([] : List GPut) } : GDisk)).trans (GDisk.len GDisk.zero).symm))) ?_
   refine rp rfl rfl (p_asg rfl rfl) ?_
   refine rz [(6, .q 6 (0)), (7, .i (0 : Int))] [(6, .pure (GDisk.cs ({ Lasts := y'11, Writes := ([] : List GPut) } : GDisk)))] rfl rfl rfl ?_
   refine AW2_ret ?_
   have hz := some_elim H
   subst hz
   exact ⟨⟨res_cella Try.underlying25 rfl in_25.sz rfl (Sub.le (Sub.refl _) (GDisk.len ({ Lasts := y'11, Writes := ([] : List GPut) } : GDisk))) (by decide) (Sub.take (Sub.refl _) (GDisk.len ({ Lasts := y'11, Writes := ([] : List GPut) } : GDisk))), res_tmp (.same _), trivial⟩, trivial⟩
end Go.Proofs.Ytglgdaeimfdpfaa.VM
