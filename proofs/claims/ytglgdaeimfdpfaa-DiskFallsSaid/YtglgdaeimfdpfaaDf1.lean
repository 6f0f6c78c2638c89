/- Functions of the program, as they answer, and that their code comes to these answers. -/
import Derived.Test.YtglgdaeimfdpfaaDf0
namespace Go.Proofs.Ytglgdaeimfdpfaa.VM
open Go Go.RowKit



/-! disk.Sync -/
noncomputable def g_disk_Sync (d0 : GDisk) : Option (GDisk × Int) :=
  (g_disk_fall_i0 d0).bind fun r'1 => some (r'1.1, r'1.2)
set_option maxHeartbeats 4000000 in
set_option maxRecDepth 100000 in
theorem g_disk_Sync_ac {d0 : GDisk} {r : GDisk × Int} (H : g_disk_Sync d0 = some r) : ACp Try.prog 16 [(.agg (GDisk.cs d0))] (.tup [(.agg (GDisk.cs r.1)), (AV.int r.2)]) := by
 refine ACp_of (AC2_of_body (vs := [.g (GDisk.cs r.1), .i r.2]) Try.func16 rfl rfl (Nat.le_of_ble_eq_true rfl) rfl ?_) (fun _ => .same _)
 unfold g_disk_Sync at H
 refine as2 [(0, .g (GDisk.cs d0))] [] rfl rfl rfl ?_
 refine sg [0, 1, 2] rfl ?_
 refine r_op rfl rfl (MakeD.opD (n_box 1 rfl rfl) rfl rfl rfl rfl) ?_
 refine r_op rfl rfl (MakeD.opD (u_alloc 2 rfl in_25 one_25 zc_25) rfl rfl rfl rfl) ?_
 refine rp rfl rfl (p_asg rfl rfl) ?_
 refine rz [(1, .q 1 (0)), (2, .q 2 (0))] [(1, .pure (GDisk.cs d0)), (2, .pure (GDisk.cs GDisk.zero))] rfl rfl rfl ?_
 refine sg [0, 1, 2, 3, 4, 5] rfl ?_
 refine rp rfl rfl (u_lda rfl rfl Try.underlying25 rfl in_25 rfl (Nat.succ_pos _) (Sub.refl _) (GDisk.len d0)) ?_
 refine bindK H fun r'1 h1 H => ?_
 refine rp rfl rfl (p_callt rfl rfl rfl Try.func30 rfl rfl (g_disk_fall_i0_ac h1) ⟨(fun _ => .same _), (fun _ => .same _), trivial⟩) ?_
 refine rp rfl rfl (p_ext rfl rfl rfl rfl) ?_
 refine rp rfl rfl (p_ext rfl rfl rfl rfl) ?_
 refine r_op rfl rfl (u_st rfl rfl rfl rfl rfl in_25 (GDisk.len r'1.1) (ne_of_lt (n := 0) (Nat.lt_of_lt_of_eq (by decide) (Eq.symm (GDisk.len GDisk.zero)))) (Upd.refl ((GDisk.len r'1.1).trans (GDisk.len GDisk.zero).symm))) ?_
 refine rp rfl rfl (p_asg rfl rfl) ?_
 refine rz [(2, .q 2 (0)), (3, .i r'1.2)] [(2, .pure (GDisk.cs r'1.1))] rfl rfl rfl ?_
 refine AW2_ret ?_
 have hz := some_elim H
 subst hz
 exact ⟨⟨res_cella Try.underlying25 rfl in_25.sz rfl (Sub.le (Sub.refl _) (GDisk.len r'1.1)) (by decide) (Sub.take (Sub.refl _) (GDisk.len r'1.1)), res_tmp (.same _), trivial⟩, trivial⟩

/-! disk.Crash$1 -/
noncomputable def g_disk_Crash_1_i0 (i0 : Int) (t1 : Int) : Option (Bool) :=
  ((if i0 < (63 : Int) then if 0 ≤ i0 then some (decide (iand (ishr t1 i0.toNat) (1 : Int) = (1 : Int))) else none else some false)).bind fun g'1 => some g'1
set_option maxHeartbeats 4000000 in
set_option maxRecDepth 100000 in
theorem g_disk_Crash_1_i0_ac {i0 : Int} {t1 : Int} {r : Bool} (H : g_disk_Crash_1_i0 i0 t1 = some r) : ACp Try.prog 32 [(AV.int i0), .rptr ([(AV.int t1)]) 0] (AV.bool r) := by
 refine ACp_of (AC2_of_body (vs := [.b r]) Try.func32 rfl rfl (Nat.le_of_ble_eq_true rfl) rfl ?_) (fun _ => .same _)
 unfold g_disk_Crash_1_i0 at H
 refine as2 [(0, .i i0), (1, .p (.rptr ([(AV.int t1)]) (0)))] [] rfl rfl rfl ?_
 refine sg [0] rfl ?_
 refine rp rfl rfl (p_asg rfl rfl) ?_
 refine rz [(0, .i i0), (1, .p (.rptr ([(AV.int t1)]) (0)))] [] rfl rfl rfl ?_
 refine AW2_seq ?_
 refine bindK H fun g'1 h4 H => ?_
 refine AW2_mid (⟨[(3, .b g'1)], [], 13⟩ : TS) ?_ ?_
 ·clear H
  have H := h4
  clear h4
  refine AW2_reg [0, 1, 2, 3, 4, 5, 6, 7, 8, 9] rfl ?_
  refine rp rfl rfl (p_move rfl rfl) ?_
  refine rp rfl rfl (p_bin rfl rfl rfl rfl) ?_
  refine rp rfl rfl (p_move rfl rfl) ?_
  refine (Classical.em (i0 < (63 : Int))).elim (fun h2 => ?_) (fun h2 => ?_)
  ·replace H := ite_then h2 H
   refine r_on rfl rfl rfl rfl (decide_eq_true h2) rfl (PureD.opD (u_ld rfl rfl Try.underlying3 rfl rfl (Sub.refl _))) ?_
   refine r_on rfl rfl rfl rfl (decide_eq_true h2) rfl (PureD.opD (p_move rfl rfl)) ?_
   refine chkK H fun h3 H => ?_
   refine r_on rfl rfl rfl rfl (decide_eq_true h2) rfl (PureD.opD (p_ishr (n := i0.toNat) rfl rfl rfl (Int.toNat_of_nonneg h3).symm)) ?_
   refine r_on rfl rfl rfl rfl (decide_eq_true h2) rfl (PureD.opD (p_bin rfl rfl rfl rfl)) ?_
   refine r_on rfl rfl rfl rfl (decide_eq_true h2) rfl (PureD.opD (p_ieq rfl rfl rfl)) ?_
   refine rp rfl rfl (p_pkt rfl rfl (decide_eq_true h2) (.same _)) ?_
   refine rp rfl rfl (p_asg rfl rfl) ?_
   refine rs [(3, .b (decide (iand (ishr t1 i0.toNat) (1 : Int) = (1 : Int))))] [] rfl rfl rfl ?_
   have hz := some_elim H
   subst hz
   exact RunW_nil rfl
  ·replace H := ite_else h2 H
   refine r_off rfl rfl rfl rfl (decide_eq_false h2) rfl rfl ?_
   refine r_off rfl rfl rfl rfl (decide_eq_false h2) rfl rfl ?_
   refine r_off rfl rfl rfl rfl (decide_eq_false h2) rfl rfl ?_
   refine r_off rfl rfl rfl rfl (decide_eq_false h2) rfl rfl ?_
   refine r_off rfl rfl rfl rfl (decide_eq_false h2) rfl rfl ?_
   refine rp rfl rfl (p_pkf rfl rfl (decide_eq_false h2) (.same _)) ?_
   refine rp rfl rfl (p_asg rfl rfl) ?_
   refine rs [(3, .b false)] [] rfl rfl rfl ?_
   have hz := some_elim H
   subst hz
   exact RunW_nil rfl
 ·refine AW2_ret ?_
  have hz := some_elim H
  subst hz
  exact ⟨⟨res_tmp (.same _), trivial⟩, trivial⟩

/-! disk.fall -/
noncomputable def g_disk_fall_i1_l0 (d0 : GDisk) (lasts1c0 : Int) : Int × (List (Vector UInt8 32)) → Option ((Int × (List (Vector UInt8 32))) ⊕ (((List (Vector UInt8 32)))))
  | (t24_0, t16_0) => (if t24_0 < (d0.Writes.length : Int) then (if 0 ≤ t24_0 ∧ t24_0 < (d0.Writes.length : Int) then (g_disk_Crash_1_i0 t24_0 lasts1c0).bind fun r'3 => (if r'3 = true then if 0 ≤ (lrd d0.Writes t24_0.toNat).At ∧ (lrd d0.Writes t24_0.toNat).At < (t16_0.length : Int) then letO ((t16_0.set (((lrd d0.Writes t24_0.toNat).At).toNat) ((lrd d0.Writes t24_0.toNat).Data))) fun t16'4 => some t16'4 else none else some t16_0) else none).bind fun j'2 => some (.inl (w64 (t24_0 + (1 : Int)), j'2)) else some (.inr t16_0))
noncomputable def g_disk_fall_i1 (d0 : GDisk) (lasts1c0 : Int) : Option (GDisk × Int) :=
  (g_disk_Check d0).bind fun r'1 => (if r'1 ≠ (0 : Int) then some (GDisk.zero, r'1) else if room (([] : List (Vector UInt8 32)).length + d0.Lasts.length) 32 then (loopO (g_disk_fall_i1_l0 d0 lasts1c0) ((0 : Int), ([] : List (Vector UInt8 32)) ++ d0.Lasts)).bind fun y'8 => some (({ Lasts := y'8, Writes := GDisk.zero.Writes } : GDisk), (0 : Int)) else none)
set_option maxHeartbeats 4000000 in
set_option maxRecDepth 100000 in
theorem g_disk_fall_i1_ac {d0 : GDisk} {lasts1c0 : Int} {r : GDisk × Int} (H : g_disk_fall_i1 d0 lasts1c0 = some r) : ACp Try.prog 30 [(.agg (GDisk.cs d0)), .clo 32 [.rptr ([(AV.int lasts1c0)]) 0]] (.tup [(.agg (GDisk.cs r.1)), (AV.int r.2)]) := by
 refine ACp_of (AC2_of_body (vs := [.g (GDisk.cs r.1), .i r.2]) Try.func30 rfl rfl (Nat.le_of_ble_eq_true rfl) rfl ?_) (fun _ => .same _)
 unfold g_disk_fall_i1 at H
 refine AW2_st [(0, .g (GDisk.cs d0)), (1, .clo 32 [(.p (.rptr ([(AV.int lasts1c0)]) (0)))])] [] rfl ⟨TLes.same _, (fun _ => .same _), trivial⟩ trivial ?_
 refine sg [0, 1, 2] rfl ?_
 refine r_op rfl rfl (MakeD.opD (n_box 2 rfl rfl) rfl rfl rfl rfl) ?_
 refine r_op rfl rfl (MakeD.opD (u_alloc 4 rfl in_25 one_25 zc_25) rfl rfl rfl rfl) ?_
 refine rp rfl rfl (p_asg rfl rfl) ?_
 refine RunW_st [(1, .clo 32 [(.p (.rptr ([(AV.int lasts1c0)]) (0)))]), (2, .q 2 (0)), (4, .q 4 (0))] [(2, .pure (GDisk.cs d0)), (4, .pure (GDisk.cs GDisk.zero))] rfl ⟨(fun _ => .same _), TLes.same _, TLes.same _, trivial⟩ ⟨rfl, rfl, trivial⟩ ?_
 refine RunW_nil ?_
 refine AW2_seq ?_
 refine sg [0, 1, 2] rfl ?_
 refine rp rfl rfl (u_lda rfl rfl Try.underlying25 rfl in_25 rfl (Nat.succ_pos _) (Sub.refl _) (GDisk.len d0)) ?_
 refine bindK H fun r'1 h1 H => ?_
 refine rp rfl rfl (p_callp rfl rfl rfl Try.func10 rfl rfl (g_disk_Check_ac h1) ⟨rfl, trivial⟩) ?_
 refine rp rfl rfl (p_asg rfl rfl) ?_
 refine RunW_st [(1, .clo 32 [(.p (.rptr ([(AV.int lasts1c0)]) (0)))]), (2, .q 2 (0)), (4, .q 4 (0)), (6, .i r'1)] [(2, .pure (GDisk.cs d0)), (4, .pure (GDisk.cs GDisk.zero))] rfl ⟨(fun _ => .same _), TLes.same _, TLes.same _, TLes.same _, trivial⟩ ⟨rfl, rfl, trivial⟩ ?_
 refine RunW_nil ?_
 refine sg [0, 1] rfl ?_
 refine rp rfl rfl (p_move rfl rfl) ?_
 refine rp rfl rfl (p_ine rfl rfl rfl) ?_
 refine RunW_st [(1, .clo 32 [(.p (.rptr ([(AV.int lasts1c0)]) (0)))]), (2, .q 2 (0)), (4, .q 4 (0)), (6, .i r'1), (13, .b (decide (r'1 ≠ (0 : Int))))] [(2, .pure (GDisk.cs d0)), (4, .pure (GDisk.cs GDisk.zero))] rfl ⟨(fun _ => .same _), TLes.same _, TLes.same _, TLes.same _, TLes.same _, trivial⟩ ⟨rfl, rfl, trivial⟩ ?_
 refine RunW_nil ?_
 refine AW2_if (p := r'1 ≠ (0 : Int)) rfl (fun h2 => ?_) (fun h2 => ?_)
 ·replace H := ite_then h2 H
  refine sg [0, 1, 2, 3] rfl ?_
  refine rp rfl rfl (u_bld rfl in_25 one_25 zc_25 pl_25 rfl rfl) ?_
  refine rp rfl rfl (p_move rfl rfl) ?_
  refine r_op rfl rfl (u_st rfl rfl rfl rfl rfl in_25 (GDisk.len GDisk.zero) (ne_of_lt (n := 0) (Nat.lt_of_lt_of_eq (by decide) (Eq.symm (GDisk.len GDisk.zero)))) (Upd.refl ((GDisk.len GDisk.zero).trans (GDisk.len GDisk.zero).symm))) ?_
  refine rp rfl rfl (p_asg rfl rfl) ?_
  refine rz [(4, .q 4 (0)), (5, .i r'1)] [(4, .pure (GDisk.cs GDisk.zero))] rfl rfl rfl ?_
  refine AW2_ret ?_
  have hz := some_elim H
  subst hz
  exact ⟨⟨res_cella Try.underlying25 rfl in_25.sz rfl (Sub.le (Sub.refl _) (GDisk.len GDisk.zero)) (by decide) (Sub.take (Sub.refl _) (GDisk.len GDisk.zero)), res_tmp (.same _), trivial⟩, trivial⟩
 ·replace H := ite_else h2 H
  refine AW2_st [(1, .clo 32 [(.p (.rptr ([(AV.int lasts1c0)]) (0)))]), (2, .q 2 (0)), (4, .q 4 (0))] [(2, .pure (GDisk.cs d0)), (4, .pure (GDisk.cs GDisk.zero))] rfl ⟨(fun _ => .same _), TLes.same _, TLes.same _, trivial⟩ ⟨rfl, rfl, trivial⟩ ?_
  refine AW2_skip ?_
  refine sg [0, 1, 2, 3, 4, 5, 6] rfl ?_
  refine r_op rfl rfl (MakeD.opD (n_bs0 16 rfl Try.underlying22 in_32) rfl rfl rfl rfl) ?_
  refine RunW_st [(1, .clo 32 [(.p (.rptr ([(AV.int lasts1c0)]) (0)))]), (2, .q 2 (0)), (4, .q 4 (0)), (16, .c (.own 16 ([] : List (Vector UInt8 32)).length 32))] [(2, .pure (GDisk.cs d0)), (4, .pure (GDisk.cs GDisk.zero)), (16, .pure (([] : List (Vector UInt8 32)).flatMap (fun v : Vector UInt8 32 => bcells v.toList)))] rfl ⟨(fun _ => .same _), TLes.same _, TLes.same _, TLes.own rfl, trivial⟩ ⟨rfl, rfl, rfl, trivial⟩ ?_
  refine rp rfl rfl (u_fa rfl rfl Try.underlying25 rfl in_22 (Nat.succ_ne_zero _) rfl rfl (ne_of_lt (n := 0) (Nat.lt_of_lt_of_eq (by decide) (Eq.symm (GDisk.len d0))))) ?_
  refine rp rfl rfl (u_ld rfl rfl Try.underlying22 rfl rfl ((Sub.refl _).trans (GDisk.sub0 d0))) ?_
  refine chkK H fun h3 H => ?_
  refine r_op rfl rfl (u_app [16] rfl rfl rfl rfl Try.underlying22 Try.underlying22 in_32 rfl rfl rfl (fm_length (fun x => ((bcells_length _).trans (vlen x))) ([] : List (Vector UInt8 32))) (by decide) rfl (fm_length (fun x => ((bcells_length _).trans (vlen x))) d0.Lasts) h3 (by decide) rfl rfl (fapp (fun v : Vector UInt8 32 => bcells v.toList) ([] : List (Vector UInt8 32)) d0.Lasts) (lapp ([] : List (Vector UInt8 32)) d0.Lasts)) ?_
  refine rp rfl rfl (u_bldm (ps := [(0, [.own 16 (([] : List (Vector UInt8 32)) ++ d0.Lasts).length 32])]) (cs := [.own 16 (([] : List (Vector UInt8 32)) ++ d0.Lasts).length 32, .p (((fun q : List GPut => AV.lst (q.flatMap GPut.cs) q.length) GDisk.zero.Writes))]) rfl in_25 one_25 zc_25 pl_25 rfl (fun _ => rfl)) ?_
  refine r_op rfl rfl (MakeD.opD (u_alloc 7 rfl in_25 one_25 zc_25) rfl rfl rfl rfl) ?_
  refine r_op rfl rfl (d_stm (o := [.p (((fun q : List (Vector UInt8 32) => AV.lst (q.flatMap (fun v : Vector UInt8 32 => bcells v.toList)) q.length) GDisk.zero.Lasts)), .p (((fun q : List GPut => AV.lst (q.flatMap GPut.cs) q.length) GDisk.zero.Writes))]) (xs := [.own 16 (([] : List (Vector UInt8 32)) ++ d0.Lasts).length 32, .p (((fun q : List GPut => AV.lst (q.flatMap GPut.cs) q.length) GDisk.zero.Writes))]) (o' := [.own 16 (([] : List (Vector UInt8 32)) ++ d0.Lasts).length 32, .p (((fun q : List GPut => AV.lst (q.flatMap GPut.cs) q.length) GDisk.zero.Writes))]) rfl rfl rfl rfl (fun _ => rfl) rfl (in_25).sz (Nat.le_of_ble_eq_true rfl) (List.cons_ne_nil _ _) (fun _ => rfl)) ?_
  refine RunW_st [(1, .clo 32 [(.p (.rptr ([(AV.int lasts1c0)]) (0)))]), (2, .q 2 (0)), (4, .q 4 (0)), (7, .q 7 (0))] [(2, .pure (GDisk.cs d0)), (4, .pure (GDisk.cs GDisk.zero)), (7, .mix [.own 16 (([] : List (Vector UInt8 32)) ++ d0.Lasts).length 32, .p (((fun q : List GPut => AV.lst (q.flatMap GPut.cs) q.length) GDisk.zero.Writes))]), (16, .pure ((([] : List (Vector UInt8 32)) ++ d0.Lasts).flatMap (fun v : Vector UInt8 32 => bcells v.toList)))] rfl ⟨(fun _ => .same _), TLes.same _, TLes.same _, TLes.same _, trivial⟩ ⟨rfl, rfl, rfl, rfl, trivial⟩ ?_
  refine RunW_nil ?_
  refine AW2_seq ?_
  refine sg [0, 1, 2, 3] rfl ?_
  refine rp rfl rfl (u_fa rfl rfl Try.underlying25 rfl in_23 (Nat.succ_ne_zero _) rfl rfl (ne_of_lt (n := 0) (Nat.lt_of_lt_of_eq (by decide) (Eq.symm (GDisk.len d0))))) ?_
  refine rp rfl rfl (u_ld rfl rfl Try.underlying23 rfl rfl ((Sub.refl _).trans (GDisk.sub1 d0))) ?_
  refine rp rfl rfl (p_lenl rfl Try.underlying23 rfl rfl) ?_
  refine rp rfl rfl (p_move rfl rfl) ?_
  refine RunW_st [(1, .clo 32 [(.p (.rptr ([(AV.int lasts1c0)]) (0)))]), (4, .q 4 (0)), (7, .q 7 (0)), (22, .p ((fun q : List GPut => AV.lst (q.flatMap GPut.cs) q.length) d0.Writes)), (23, .i (d0.Writes.length : Int)), (24, .i (0 : Int))] [(4, .pure (GDisk.cs GDisk.zero)), (7, .mix [.own 16 (([] : List (Vector UInt8 32)) ++ d0.Lasts).length 32, .p (((fun q : List GPut => AV.lst (q.flatMap GPut.cs) q.length) GDisk.zero.Writes))]), (16, .pure ((([] : List (Vector UInt8 32)) ++ d0.Lasts).flatMap (fun v : Vector UInt8 32 => bcells v.toList)))] rfl ⟨(fun _ => .same _), TLes.same _, TLes.same _, TLes.same _, TLes.same _, TLes.same _, trivial⟩ ⟨rfl, rfl, rfl, trivial⟩ ?_
  refine RunW_nil ?_
  refine AW2_block ?_
  refine AW2_st [(1, .clo 32 [(.p (.rptr ([(AV.int lasts1c0)]) (0)))]), (4, .q 4 (0)), (7, .q 7 (0)), (22, .p ((fun q : List GPut => AV.lst (q.flatMap GPut.cs) q.length) d0.Writes)), (23, .i (d0.Writes.length : Int)), (24, .i (0 : Int))] [(4, .pure (GDisk.cs GDisk.zero)), (7, .mix [.own 16 (([] : List (Vector UInt8 32)) ++ d0.Lasts).length 32, .p (((fun q : List GPut => AV.lst (q.flatMap GPut.cs) q.length) GDisk.zero.Writes))]), (16, .pure ((([] : List (Vector UInt8 32)) ++ d0.Lasts).flatMap (fun v : Vector UInt8 32 => bcells v.toList)))] rfl ⟨(fun _ => .same _), TLes.same _, TLes.same _, TLes.same _, TLes.same _, TLes.same _, trivial⟩ ⟨rfl, rfl, rfl, trivial⟩ ?_
  refine bindK H fun y'8 h10 H => ?_
  refine AW2_loopO (fun a'5 : Int × (List (Vector UInt8 32)) => (⟨[(1, .clo 32 [(.p (.rptr ([(AV.int lasts1c0)]) (0)))]), (4, .q 4 (0)), (7, .q 7 (0)), (22, .p ((fun q : List GPut => AV.lst (q.flatMap GPut.cs) q.length) d0.Writes)), (23, .i (d0.Writes.length : Int)), (24, .i a'5.1)], [(4, .pure (GDisk.cs GDisk.zero)), (7, .mix [.own 16 a'5.2.length 32, .p (((fun q : List GPut => AV.lst (q.flatMap GPut.cs) q.length) GDisk.zero.Writes))]), (16, .pure (a'5.2.flatMap (fun v : Vector UInt8 32 => bcells v.toList)))], 41⟩ : TS)) (fun (y'6 : ((List (Vector UInt8 32)))) e s' => e = Go.Exit.exit 0 ∧ s' = (⟨[(4, .q 4 (0)), (7, .q 7 (0))], [(4, .pure (GDisk.cs GDisk.zero)), (7, .mix [.own 16 y'6.length 32, .p (((fun q : List GPut => AV.lst (q.flatMap GPut.cs) q.length) GDisk.zero.Writes))]), (16, .pure (y'6.flatMap (fun v : Vector UInt8 32 => bcells v.toList)))], 41⟩ : TS)) h10 rfl (fun a x hx => ?_) (fun e s' hs => ?_)
  ·clear H
   obtain ⟨t24_0, t16_0⟩ := a
   have H := hx
   clear hx
   unfold g_disk_fall_i1_l0 at H
   refine sg [0] rfl ?_
   refine rp rfl rfl (p_bin rfl rfl rfl rfl) ?_
   refine RunW_st [(1, .clo 32 [(.p (.rptr ([(AV.int lasts1c0)]) (0)))]), (4, .q 4 (0)), (7, .q 7 (0)), (22, .p ((fun q : List GPut => AV.lst (q.flatMap GPut.cs) q.length) d0.Writes)), (23, .i (d0.Writes.length : Int)), (24, .i t24_0), (25, .b (decide (t24_0 < (d0.Writes.length : Int))))] [(4, .pure (GDisk.cs GDisk.zero)), (7, .mix [.own 16 t16_0.length 32, .p (((fun q : List GPut => AV.lst (q.flatMap GPut.cs) q.length) GDisk.zero.Writes))]), (16, .pure (t16_0.flatMap (fun v : Vector UInt8 32 => bcells v.toList)))] rfl ⟨(fun _ => .same _), TLes.same _, TLes.same _, TLes.same _, TLes.same _, TLes.same _, TLes.same _, trivial⟩ ⟨rfl, rfl, rfl, trivial⟩ ?_
   refine RunW_nil ?_
   refine AW2_seq ?_
   refine AW2_if (p := t24_0 < (d0.Writes.length : Int)) rfl (fun h4 => ?_) (fun h4 => ?_)
   ·replace H := ite_then h4 H
    refine AW2_st [(1, .clo 32 [(.p (.rptr ([(AV.int lasts1c0)]) (0)))]), (4, .q 4 (0)), (7, .q 7 (0)), (22, .p ((fun q : List GPut => AV.lst (q.flatMap GPut.cs) q.length) d0.Writes)), (23, .i (d0.Writes.length : Int)), (24, .i t24_0)] [(4, .pure (GDisk.cs GDisk.zero)), (7, .mix [.own 16 t16_0.length 32, .p (((fun q : List GPut => AV.lst (q.flatMap GPut.cs) q.length) GDisk.zero.Writes))]), (16, .pure (t16_0.flatMap (fun v : Vector UInt8 32 => bcells v.toList)))] rfl ⟨(fun _ => .same _), TLes.same _, TLes.same _, TLes.same _, TLes.same _, TLes.same _, trivial⟩ ⟨rfl, rfl, rfl, trivial⟩ ?_
    refine AW2_skip ?_
    refine AW2_seq ?_
    refine bindK H fun j'2 h5 H => ?_
    refine AW2_mid (⟨[(1, .clo 32 [(.p (.rptr ([(AV.int lasts1c0)]) (0)))]), (4, .q 4 (0)), (7, .q 7 (0)), (22, .p ((fun q : List GPut => AV.lst (q.flatMap GPut.cs) q.length) d0.Writes)), (23, .i (d0.Writes.length : Int)), (24, .i t24_0)], [(4, .pure (GDisk.cs GDisk.zero)), (7, .mix [.own 16 j'2.length 32, .p (((fun q : List GPut => AV.lst (q.flatMap GPut.cs) q.length) GDisk.zero.Writes))]), (16, .pure (j'2.flatMap (fun v : Vector UInt8 32 => bcells v.toList)))], 41⟩ : TS) ?_ ?_
    ·clear H
     have H := h5
     clear h5
     refine AW2_block ?_
     refine sg [0, 1, 2, 3, 4, 5] rfl ?_
     refine rp rfl rfl (p_move rfl rfl) ?_
     refine chkK H fun h6 H => ?_
     refine rp rfl rfl (u_ixl rfl rfl Try.underlying23 in_70 rfl rfl (ixe h6) (ixn h6) (fne (fun x => (GPut.len x)) (by decide) (ixn h6))) ?_
     refine rp rfl rfl (u_lda rfl rfl Try.underlying70 rfl in_70 rfl (Nat.succ_pos _) (Sub.fm default (fun x => (GPut.len x)) (ixn h6)) (GPut.len (lrd d0.Writes t24_0.toNat))) ?_
     refine r_op rfl rfl (MakeD.opD (u_alloc 9 rfl in_70 one_70 zc_70) rfl rfl rfl rfl) ?_
     refine rp rfl rfl (p_asg rfl rfl) ?_
     refine r_op rfl rfl (u_st rfl rfl rfl rfl rfl in_70 (GPut.len (lrd d0.Writes t24_0.toNat)) (ne_of_lt (n := 0) (Nat.lt_of_lt_of_eq (by decide) (Eq.symm (GPut.len GPut.zero)))) (Upd.refl ((GPut.len (lrd d0.Writes t24_0.toNat)).trans (GPut.len GPut.zero).symm))) ?_
     refine RunW_st [(1, .clo 32 [(.p (.rptr ([(AV.int lasts1c0)]) (0)))]), (4, .q 4 (0)), (7, .q 7 (0)), (8, .i t24_0), (9, .q 9 (0)), (22, .p ((fun q : List GPut => AV.lst (q.flatMap GPut.cs) q.length) d0.Writes)), (23, .i (d0.Writes.length : Int)), (24, .i t24_0)] [(4, .pure (GDisk.cs GDisk.zero)), (7, .mix [.own 16 t16_0.length 32, .p (((fun q : List GPut => AV.lst (q.flatMap GPut.cs) q.length) GDisk.zero.Writes))]), (9, .pure (GPut.cs (lrd d0.Writes t24_0.toNat))), (16, .pure (t16_0.flatMap (fun v : Vector UInt8 32 => bcells v.toList)))] rfl ⟨(fun _ => .same _), TLes.same _, TLes.same _, TLes.same _, TLes.same _, TLes.same _, TLes.same _, TLes.same _, trivial⟩ ⟨rfl, rfl, rfl, rfl, trivial⟩ ?_
     refine RunW_nil ?_
     refine sg [0, 1, 2] rfl ?_
     refine rp rfl rfl (p_move rfl rfl) ?_
     refine rp rfl rfl (p_move rfl rfl) ?_
     refine bindK H fun r'3 h7 H => ?_
     refine rp rfl rfl (p_callc rfl rfl rfl Try.func32 rfl rfl (g_disk_Crash_1_i0_ac h7) rfl ⟨lend_p rfl, lendc_p, trivial⟩) ?_
     refine RunW_st [(1, .clo 32 [(.p (.rptr ([(AV.int lasts1c0)]) (0)))]), (4, .q 4 (0)), (7, .q 7 (0)), (9, .q 9 (0)), (22, .p ((fun q : List GPut => AV.lst (q.flatMap GPut.cs) q.length) d0.Writes)), (23, .i (d0.Writes.length : Int)), (24, .i t24_0), (31, .b r'3)] [(4, .pure (GDisk.cs GDisk.zero)), (7, .mix [.own 16 t16_0.length 32, .p (((fun q : List GPut => AV.lst (q.flatMap GPut.cs) q.length) GDisk.zero.Writes))]), (9, .pure (GPut.cs (lrd d0.Writes t24_0.toNat))), (16, .pure (t16_0.flatMap (fun v : Vector UInt8 32 => bcells v.toList)))] rfl ⟨(fun _ => .same _), TLes.same _, TLes.same _, TLes.same _, TLes.same _, TLes.same _, TLes.same _, TLes.same _, trivial⟩ ⟨rfl, rfl, rfl, rfl, trivial⟩ ?_
     refine RunW_nil ?_
     refine AW2_cond rfl (fun h8 => ?_) (fun h8 => ?_)
     ·replace H := ite_then h8 H
      refine AW2_reg [0, 1, 2, 3, 4, 5, 6, 7] rfl ?_
      refine rp rfl rfl (p_fa rfl rfl Try.underlying25 rfl (in_22).sz (Nat.succ_ne_zero _) rfl rfl (fun _ => List.cons_ne_nil _ _)) ?_
      refine rp rfl rfl (p_ldm rfl rfl Try.underlying22 rfl rfl rfl rfl) ?_
      refine rp rfl rfl (u_fa rfl rfl Try.underlying70 rfl in_3 (Nat.succ_ne_zero _) rfl rfl (ne_of_lt (n := 0) (Nat.lt_of_lt_of_eq (by decide) (Eq.symm (GPut.len (lrd d0.Writes t24_0.toNat)))))) ?_
      refine rp rfl rfl (u_ld rfl rfl Try.underlying3 rfl rfl ((Sub.refl _).trans (GPut.sub0 (lrd d0.Writes t24_0.toNat)))) ?_
      refine rp rfl rfl (u_fa rfl rfl Try.underlying70 rfl in_32 (Nat.succ_ne_zero _) rfl rfl (ne_of_lt (n := 0) (Nat.lt_of_lt_of_eq (by decide) (Eq.symm (GPut.len (lrd d0.Writes t24_0.toNat)))))) ?_
      refine rp rfl rfl (u_lda rfl rfl Try.underlying32 rfl in_32 rfl (Nat.succ_pos _) ((Sub.refl _).trans (GPut.sub1 (lrd d0.Writes t24_0.toNat))) ((bcells_length _).trans (vlen ((lrd d0.Writes t24_0.toNat).Data)))) ?_
      refine chkK H fun h9 H => ?_
      refine rp rfl rfl (u_ixo rfl rfl Try.underlying22 in_32 rfl rfl (fne (fun x => ((bcells_length _).trans (vlen x))) (by decide) (ixn h9)) rfl (ixe h9) (ixn h9)) ?_
      refine r_op rfl rfl (u_st rfl rfl rfl rfl rfl in_32 ((bcells_length _).trans (vlen ((lrd d0.Writes t24_0.toNat).Data))) (fne (fun x => ((bcells_length _).trans (vlen x))) (by decide) (ixn h9)) (Upd.trans (Sub.refl _) (Upd.fm (fun x => ((bcells_length _).trans (vlen x))) (ixn h9)) (Upd.refl ((fm_length (fun x => ((bcells_length _).trans (vlen x))) (t16_0.set (((lrd d0.Writes t24_0.toNat).At).toNat) ((lrd d0.Writes t24_0.toNat).Data))).trans ((congrArg (fun n => n * 32) List.length_set).trans (fm_length (fun x => ((bcells_length _).trans (vlen x))) t16_0).symm))))) ?_
      refine RunW_st [(1, .clo 32 [(.p (.rptr ([(AV.int lasts1c0)]) (0)))]), (4, .q 4 (0)), (7, .q 7 (0)), (22, .p ((fun q : List GPut => AV.lst (q.flatMap GPut.cs) q.length) d0.Writes)), (23, .i (d0.Writes.length : Int)), (24, .i t24_0)] [(4, .pure (GDisk.cs GDisk.zero)), (7, .mix [.own 16 (t16_0.set (((lrd d0.Writes t24_0.toNat).At).toNat) ((lrd d0.Writes t24_0.toNat).Data)).length 32, .p (((fun q : List GPut => AV.lst (q.flatMap GPut.cs) q.length) GDisk.zero.Writes))]), (16, .pure ((t16_0.set (((lrd d0.Writes t24_0.toNat).At).toNat) ((lrd d0.Writes t24_0.toNat).Data)).flatMap (fun v : Vector UInt8 32 => bcells v.toList)))] rfl ⟨(fun _ => .same _), TLes.same _, TLes.same _, TLes.same _, TLes.same _, TLes.same _, trivial⟩ ⟨rfl, (congrArg (fun n'' => some (Blk.mix [.own 16 n'' 32, .p (((fun q : List GPut => AV.lst (q.flatMap GPut.cs) q.length) GDisk.zero.Writes))])) (by simp only [List.length_set])), rfl, trivial⟩ ?_
      refine RunW_nil ?_
      refine gen1 (fun t16'4 => (⟨[(1, .clo 32 [(.p (.rptr ([(AV.int lasts1c0)]) (0)))]), (4, .q 4 (0)), (7, .q 7 (0)), (22, .p ((fun q : List GPut => AV.lst (q.flatMap GPut.cs) q.length) d0.Writes)), (23, .i (d0.Writes.length : Int)), (24, .i t24_0)], [(4, .pure (GDisk.cs GDisk.zero)), (7, .mix [.own 16 t16'4.length 32, .p (((fun q : List GPut => AV.lst (q.flatMap GPut.cs) q.length) GDisk.zero.Writes))]), (16, .pure (t16'4.flatMap (fun v : Vector UInt8 32 => bcells v.toList)))], 41⟩ : TS)) H ?_
      intro t16'4 H
      have hz := some_elim H
      subst hz
      exact rfl
     ·replace H := ite_else (ne_true h8) H
      refine AW2_st [(1, .clo 32 [(.p (.rptr ([(AV.int lasts1c0)]) (0)))]), (4, .q 4 (0)), (7, .q 7 (0)), (22, .p ((fun q : List GPut => AV.lst (q.flatMap GPut.cs) q.length) d0.Writes)), (23, .i (d0.Writes.length : Int)), (24, .i t24_0)] [(4, .pure (GDisk.cs GDisk.zero)), (7, .mix [.own 16 t16_0.length 32, .p (((fun q : List GPut => AV.lst (q.flatMap GPut.cs) q.length) GDisk.zero.Writes))]), (16, .pure (t16_0.flatMap (fun v : Vector UInt8 32 => bcells v.toList)))] rfl ⟨(fun _ => .same _), TLes.same _, TLes.same _, TLes.same _, TLes.same _, TLes.same _, trivial⟩ ⟨rfl, rfl, rfl, trivial⟩ ?_
      refine AW2_skip ?_
      have hz := some_elim H
      subst hz
      exact rfl
    ·refine AW2_reg [0, 1] rfl ?_
     refine rp rfl rfl (p_bin rfl rfl rfl rfl) ?_
     refine rp rfl rfl (p_move rfl rfl) ?_
     refine RunW_st [(1, .clo 32 [(.p (.rptr ([(AV.int lasts1c0)]) (0)))]), (4, .q 4 (0)), (7, .q 7 (0)), (22, .p ((fun q : List GPut => AV.lst (q.flatMap GPut.cs) q.length) d0.Writes)), (23, .i (d0.Writes.length : Int)), (24, .i (w64 (t24_0 + (1 : Int))))] [(4, .pure (GDisk.cs GDisk.zero)), (7, .mix [.own 16 j'2.length 32, .p (((fun q : List GPut => AV.lst (q.flatMap GPut.cs) q.length) GDisk.zero.Writes))]), (16, .pure (j'2.flatMap (fun v : Vector UInt8 32 => bcells v.toList)))] rfl ⟨(fun _ => .same _), TLes.same _, TLes.same _, TLes.same _, TLes.same _, TLes.same _, trivial⟩ ⟨rfl, rfl, rfl, trivial⟩ ?_
     refine RunW_nil ?_
     have hz := some_elim H
     subst hz
     exact ⟨rfl, rfl⟩
   ·replace H := ite_else h4 H
    refine as2 [(4, .q 4 (0)), (7, .q 7 (0))] [(4, .pure (GDisk.cs GDisk.zero)), (7, .mix [.own 16 t16_0.length 32, .p (((fun q : List GPut => AV.lst (q.flatMap GPut.cs) q.length) GDisk.zero.Writes))]), (16, .pure (t16_0.flatMap (fun v : Vector UInt8 32 => bcells v.toList)))] rfl rfl rfl ?_
    refine AW2_exit ?_
    refine thenQ2_exit ?_
    have hz := some_elim H
    subst hz
    exact ⟨rfl, rfl⟩
  ·obtain ⟨rfl, rfl⟩ := hs
   refine ⟨by simp, ?_⟩
   refine blockQ2_exit ?_
   refine sg [0, 1, 2] rfl ?_
   refine rp rfl rfl (p_ldam rfl rfl Try.underlying25 rfl (in_25).sz rfl rfl (Nat.le_of_ble_eq_true rfl) (Nat.succ_pos _) rfl) ?_
   refine rs [(4, .q 4 (0)), (40, .agg [.own 16 y'8.length 32, .p (((fun q : List GPut => AV.lst (q.flatMap GPut.cs) q.length) GDisk.zero.Writes))])] [(4, .pure (GDisk.cs GDisk.zero)), (16, .pure (y'8.flatMap (fun v : Vector UInt8 32 => bcells v.toList)))] rfl rfl rfl ?_
   refine RunW_gho (Gho_puba (b := 16) [(40, .agg [.p (((fun q : List (Vector UInt8 32) => AV.lst (q.flatMap (fun v : Vector UInt8 32 => bcells v.toList)) q.length) y'8)), .p (((fun q : List GPut => AV.lst (q.flatMap GPut.cs) q.length) GDisk.zero.Writes))])] ⟨⟨(.inr (.inl ⟨rfl, rfl⟩)), (.inl rfl), trivial⟩, trivial⟩ rfl (fm_length (fun x => ((bcells_length _).trans (vlen x))) y'8) (by decide)) ?_
   refine RunW_st [(4, .q 4 (0)), (40, .g (GDisk.cs ({ Lasts := y'8, Writes := GDisk.zero.Writes } : GDisk)))] [(4, .pure (GDisk.cs GDisk.zero))] rfl ⟨TLes.same _, (fun _ => .same _), trivial⟩ ⟨rfl, trivial⟩ ?_
   refine r_op rfl rfl (u_st rfl rfl rfl rfl rfl in_25 (GDisk.len ({ Lasts := y'8, Writes := GDisk.zero.Writes } : GDisk)) (ne_of_lt (n := 0) (Nat.lt_of_lt_of_eq (by decide) (Eq.symm (GDisk.len GDisk.zero)))) (Upd.refl ((GDisk.len ({ Lasts := y'8, Writes := GDisk.zero.Writes } : GDisk)).trans (GDisk.len GDisk.zero).symm))) ?_
   refine rp rfl rfl (p_asg rfl rfl) ?_
   refine rz [(4, .q 4 (0)), (5, .i (0 : Int))] [(4, .pure (GDisk.cs ({ Lasts := y'8, Writes := GDisk.zero.Writes } : GDisk)))] rfl rfl rfl ?_
   refine AW2_ret ?_
   have hz := some_elim H
   subst hz
   exact ⟨⟨res_cella Try.underlying25 rfl in_25.sz rfl (Sub.le (Sub.refl _) (GDisk.len ({ Lasts := y'8, Writes := GDisk.zero.Writes } : GDisk))) (by decide) (Sub.take (Sub.refl _) (GDisk.len ({ Lasts := y'8, Writes := GDisk.zero.Writes } : GDisk))), res_tmp (.same _), trivial⟩, trivial⟩
end Go.Proofs.Ytglgdaeimfdpfaa.VM
