/- Functions of the program, as they answer, and that their code comes to these answers. -/
import Derived.Test.YtgbfmldbbnhefaaGr7
namespace Go.Proofs.Ytgbfmldbbnhefaa.VM
open Go Go.RowKit



/-! chirographref.has -/
noncomputable def g_ref_has_l0 (l0 : List GGrant) (user1 : Int) (object2 : Int) (right3 : Int) : Int × Int → Option ((Int × Int) ⊕ (Int))
  | (n9_0, t14_0) => (if t14_0 < (l0.length : Int) then (if 0 ≤ t14_0 ∧ t14_0 < (l0.length : Int) then (if (((lrd l0 t14_0.toNat).To = user1) ∧ ((lrd l0 t14_0.toNat).Object = object2)) ∧ ((lrd l0 t14_0.toNat).Right = right3) then some (w64 (n9_0 + (1 : Int))) else some n9_0) else none).bind fun j'1 => some (.inl (j'1, w64 (t14_0 + (1 : Int)))) else some (.inr n9_0))
noncomputable def g_ref_has (l0 : List GGrant) (user1 : Int) (object2 : Int) (right3 : Int) : Option (Bool) :=
  (loopO (g_ref_has_l0 l0 user1 object2 right3) ((0 : Int), (0 : Int))).bind fun y'5 => ((if y'5 > (0 : Int) then some true else (g_ref_Owner object2).bind fun r'7 => some (decide (r'7 = user1)))).bind fun g'8 => some g'8
set_option maxHeartbeats 4000000 in
set_option maxRecDepth 100000 in
theorem g_ref_has_ac {l0 : List GGrant} {user1 : Int} {object2 : Int} {right3 : Int} {r : Bool} (H : g_ref_has l0 user1 object2 right3 = some r) : ACp Try.prog 29 [((fun q : List GGrant => AV.lst (q.flatMap GGrant.cs) q.length) l0), (AV.int user1), (AV.int object2), (AV.int right3)] (AV.bool r) := by
  refine ACp_of (AC2_of_body (vs := [.c (.p (AV.bool r))]) Try.func29 rfl rfl (Nat.le_of_ble_eq_true rfl) rfl ?_) (fun _ => .same _)
  unfold g_ref_has at H
  refine AW2_st [(0, .c (.p ((fun q : List GGrant => AV.lst (q.flatMap GGrant.cs) q.length) l0))), (1, .c (.p (AV.int user1))), (2, .c (.p (AV.int object2))), (3, .c (.p (AV.int right3)))] [] rfl ⟨TLes.same _, TLes.same _, TLes.same _, TLes.same _, trivial⟩ trivial ?_
  refine AW2_seq ?_
  refine AW2_reg [0] rfl ?_
  refine r_op rfl rfl (PureD.opD (p_asg rfl rfl)) ?_
  refine RunW_st [(0, .c (.p ((fun q : List GGrant => AV.lst (q.flatMap GGrant.cs) q.length) l0))), (1, .c (.p (AV.int user1))), (2, .c (.p (AV.int object2))), (3, .c (.p (AV.int right3)))] [] rfl ⟨TLes.same _, TLes.same _, TLes.same _, TLes.same _, trivial⟩ trivial ?_
  refine RunW_nil ?_
  refine AW2_seq ?_
  refine AW2_reg [0] rfl ?_
  refine r_op rfl rfl (PureD.opD (p_asg rfl rfl)) ?_
  refine RunW_st [(0, .c (.p ((fun q : List GGrant => AV.lst (q.flatMap GGrant.cs) q.length) l0))), (1, .c (.p (AV.int user1))), (2, .c (.p (AV.int object2))), (3, .c (.p (AV.int right3))), (9, .c (.p (AV.int (0 : Int))))] [] rfl ⟨TLes.same _, TLes.same _, TLes.same _, TLes.same _, TLes.same _, trivial⟩ trivial ?_
  refine RunW_nil ?_
  refine AW2_seq ?_
  refine AW2_seq ?_
  refine AW2_reg [0, 1, 2] rfl ?_
  refine r_op rfl rfl (PureD.opD (p_move rfl rfl)) ?_
  refine r_op rfl rfl (PureD.opD (p_lenl rfl Try.underlying22 rfl rfl)) ?_
  refine r_op rfl rfl (PureD.opD (p_move rfl rfl)) ?_
  refine RunW_st [(1, .c (.p (AV.int user1))), (2, .c (.p (AV.int object2))), (3, .c (.p (AV.int right3))), (9, .c (.p (AV.int (0 : Int)))), (12, .c (.p ((fun q : List GGrant => AV.lst (q.flatMap GGrant.cs) q.length) l0))), (13, .c (.p (AV.int (l0.length : Int)))), (14, .c (.p (AV.int (0 : Int))))] [] rfl ⟨TLes.same _, TLes.same _, TLes.same _, TLes.same _, TLes.same _, TLes.same _, TLes.same _, trivial⟩ trivial ?_
  refine RunW_nil ?_
  refine AW2_block ?_
  refine AW2_st [(1, .c (.p (AV.int user1))), (2, .c (.p (AV.int object2))), (3, .c (.p (AV.int right3))), (9, .c (.p (AV.int (0 : Int)))), (12, .c (.p ((fun q : List GGrant => AV.lst (q.flatMap GGrant.cs) q.length) l0))), (13, .c (.p (AV.int (l0.length : Int)))), (14, .c (.p (AV.int (0 : Int))))] [] rfl ⟨TLes.same _, TLes.same _, TLes.same _, TLes.same _, TLes.same _, TLes.same _, TLes.same _, trivial⟩ trivial ?_
  refine bindK H fun y'5 h7 H => ?_
  refine AW2_loopO (fun a'2 : Int × Int => (⟨[(1, .c (.p (AV.int user1))), (2, .c (.p (AV.int object2))), (3, .c (.p (AV.int right3))), (9, .c (.p (AV.int a'2.1))), (12, .c (.p ((fun q : List GGrant => AV.lst (q.flatMap GGrant.cs) q.length) l0))), (13, .c (.p (AV.int (l0.length : Int)))), (14, .c (.p (AV.int a'2.2)))], [], 45⟩ : TS)) (fun (y'3 : Int) e s' => e = Go.Exit.exit 0 ∧ s' = (⟨[(1, .c (.p (AV.int user1))), (2, .c (.p (AV.int object2))), (9, .c (.p (AV.int y'3)))], [], 45⟩ : TS)) h7 rfl (fun a x hx => ?_) (fun e s' hs => ?_)
  · clear H
    obtain ⟨n9_0, t14_0⟩ := a
    have H := hx
    clear hx
    unfold g_ref_has_l0 at H
    refine AW2_seq ?_
    refine AW2_reg [0] rfl ?_
    refine r_op rfl rfl (PureD.opD (p_bin rfl rfl rfl rfl)) ?_
    refine RunW_st [(1, .c (.p (AV.int user1))), (2, .c (.p (AV.int object2))), (3, .c (.p (AV.int right3))), (9, .c (.p (AV.int n9_0))), (12, .c (.p ((fun q : List GGrant => AV.lst (q.flatMap GGrant.cs) q.length) l0))), (13, .c (.p (AV.int (l0.length : Int)))), (14, .c (.p (AV.int t14_0))), (15, .c (.p (.bool (decide (t14_0 < (l0.length : Int))))))] [] rfl ⟨TLes.same _, TLes.same _, TLes.same _, TLes.same _, TLes.same _, TLes.same _, TLes.same _, TLes.same _, trivial⟩ trivial ?_
    refine RunW_nil ?_
    refine AW2_seq ?_
    refine AW2_if (p := t14_0 < (l0.length : Int)) rfl (fun h1 => ?_) (fun h1 => ?_)
    · replace H := ite_then h1 H
      refine AW2_st [(1, .c (.p (AV.int user1))), (2, .c (.p (AV.int object2))), (3, .c (.p (AV.int right3))), (9, .c (.p (AV.int n9_0))), (12, .c (.p ((fun q : List GGrant => AV.lst (q.flatMap GGrant.cs) q.length) l0))), (13, .c (.p (AV.int (l0.length : Int)))), (14, .c (.p (AV.int t14_0)))] [] rfl ⟨TLes.same _, TLes.same _, TLes.same _, TLes.same _, TLes.same _, TLes.same _, TLes.same _, trivial⟩ trivial ?_
      refine AW2_skip ?_
      refine AW2_seq ?_
      refine bindK H fun j'1 h2 H => ?_
      refine AW2_mid (⟨[(1, .c (.p (AV.int user1))), (2, .c (.p (AV.int object2))), (3, .c (.p (AV.int right3))), (9, .c (.p (AV.int j'1))), (12, .c (.p ((fun q : List GGrant => AV.lst (q.flatMap GGrant.cs) q.length) l0))), (13, .c (.p (AV.int (l0.length : Int)))), (14, .c (.p (AV.int t14_0)))], [], 45⟩ : TS) ?_ ?_
      · clear H
        have H := h2
        clear h2
        refine AW2_block ?_
        refine AW2_seq ?_
        refine AW2_reg [0, 1, 2, 3] rfl ?_
        refine chkK H fun h3 H => ?_
        refine r_op rfl rfl (PureD.opD (u_ixl rfl rfl Try.underlying22 in_27 rfl rfl (ixe h3) (ixn h3) (fne (fun x => (GGrant.len x)) (by decide) (ixn h3)))) ?_
        refine r_op rfl rfl (PureD.opD (u_lda rfl rfl Try.underlying27 rfl in_27 rfl (Nat.succ_pos _) (Sub.fm default (fun x => (GGrant.len x)) (ixn h3)) (GGrant.len (lrd l0 t14_0.toNat)))) ?_
        refine r_op rfl rfl (MakeD.opD (u_alloc 11 rfl in_27 one_27 zc_27) rfl rfl rfl rfl) ?_
        refine r_op rfl rfl (u_st rfl rfl rfl rfl rfl in_27 (GGrant.len (lrd l0 t14_0.toNat)) (ne_of_lt (n := 0) (Nat.lt_of_lt_of_eq (by decide) (Eq.symm (GGrant.len GGrant.zero)))) (Upd.refl ((GGrant.len (lrd l0 t14_0.toNat)).trans (GGrant.len GGrant.zero).symm))) ?_
        refine RunW_st [(1, .c (.p (AV.int user1))), (2, .c (.p (AV.int object2))), (3, .c (.p (AV.int right3))), (9, .c (.p (AV.int n9_0))), (11, .c (.ptr 11 (0))), (12, .c (.p ((fun q : List GGrant => AV.lst (q.flatMap GGrant.cs) q.length) l0))), (13, .c (.p (AV.int (l0.length : Int)))), (14, .c (.p (AV.int t14_0)))] [(11, .pure (GGrant.cs (lrd l0 t14_0.toNat)))] rfl ⟨TLes.same _, TLes.same _, TLes.same _, TLes.same _, TLes.same _, TLes.same _, TLes.same _, TLes.same _, trivial⟩ ⟨rfl, trivial⟩ ?_
        refine RunW_nil ?_
        refine AW2_seq ?_
        refine AW2_mid (⟨[(1, .c (.p (AV.int user1))), (2, .c (.p (AV.int object2))), (3, .c (.p (AV.int right3))), (9, .c (.p (AV.int n9_0))), (12, .c (.p ((fun q : List GGrant => AV.lst (q.flatMap GGrant.cs) q.length) l0))), (13, .c (.p (AV.int (l0.length : Int)))), (14, .c (.p (AV.int t14_0))), (33, .c (.p (.bool (decide ((((lrd l0 t14_0.toNat).To = user1) ∧ ((lrd l0 t14_0.toNat).Object = object2)) ∧ ((lrd l0 t14_0.toNat).Right = right3))))))], [], 45⟩ : TS) ?_ ?_
        · refine AW2_reg [0, 1, 2, 3, 4, 5, 6, 7, 8, 9, 10, 11, 12, 13, 14, 15] rfl ?_
          refine r_op rfl rfl (PureD.opD (u_fa rfl rfl Try.underlying27 rfl in_3 (Nat.succ_ne_zero _) rfl rfl (ne_of_lt (n := 0) (Nat.lt_of_lt_of_eq (by decide) (Eq.symm (GGrant.len (lrd l0 t14_0.toNat))))))) ?_
          refine r_op rfl rfl (PureD.opD (u_ld rfl rfl Try.underlying3 rfl rfl ((Sub.refl _).trans (GGrant.sub1 (lrd l0 t14_0.toNat))))) ?_
          refine r_op rfl rfl (PureD.opD (p_move rfl rfl)) ?_
          refine r_op rfl rfl (PureD.opD (p_ieq rfl rfl rfl)) ?_
          refine r_op rfl rfl (PureD.opD (p_move rfl rfl)) ?_
          refine (Classical.em ((lrd l0 t14_0.toNat).To = user1)).elim (fun h4 => ?_) (fun h4 => ?_)
          · refine r_on rfl rfl rfl rfl (decide_eq_true (p := (lrd l0 t14_0.toNat).To = user1) h4) rfl (PureD.opD (u_fa rfl rfl Try.underlying27 rfl in_3 (Nat.succ_ne_zero _) rfl rfl (ne_of_lt (n := 0) (Nat.lt_of_lt_of_eq (by decide) (Eq.symm (GGrant.len (lrd l0 t14_0.toNat))))))) ?_
            refine r_on rfl rfl rfl rfl (decide_eq_true (p := (lrd l0 t14_0.toNat).To = user1) h4) rfl (PureD.opD (u_ld rfl rfl Try.underlying3 rfl rfl ((Sub.refl _).trans (GGrant.sub2 (lrd l0 t14_0.toNat))))) ?_
            refine r_on rfl rfl rfl rfl (decide_eq_true (p := (lrd l0 t14_0.toNat).To = user1) h4) rfl (PureD.opD (p_move rfl rfl)) ?_
            refine r_on rfl rfl rfl rfl (decide_eq_true (p := (lrd l0 t14_0.toNat).To = user1) h4) rfl (PureD.opD (p_ieq rfl rfl rfl)) ?_
            refine r_op rfl rfl (PureD.opD (p_pkt rfl rfl (decide_eq_true (p := (lrd l0 t14_0.toNat).To = user1) h4) (tb ((and_l (p := (lrd l0 t14_0.toNat).To = user1) (q := (lrd l0 t14_0.toNat).Object = object2) h4))))) ?_
            refine r_op rfl rfl (PureD.opD (p_move rfl rfl)) ?_
            refine (Classical.em ((lrd l0 t14_0.toNat).Object = object2)).elim (fun h5 => ?_) (fun h5 => ?_)
            · refine r_on rfl rfl rfl rfl (decide_eq_true (p := ((lrd l0 t14_0.toNat).To = user1) ∧ ((lrd l0 t14_0.toNat).Object = object2)) ⟨h4, h5⟩) rfl (PureD.opD (u_fa rfl rfl Try.underlying27 rfl in_3 (Nat.succ_ne_zero _) rfl rfl (ne_of_lt (n := 0) (Nat.lt_of_lt_of_eq (by decide) (Eq.symm (GGrant.len (lrd l0 t14_0.toNat))))))) ?_
              refine r_on rfl rfl rfl rfl (decide_eq_true (p := ((lrd l0 t14_0.toNat).To = user1) ∧ ((lrd l0 t14_0.toNat).Object = object2)) ⟨h4, h5⟩) rfl (PureD.opD (u_ld rfl rfl Try.underlying3 rfl rfl ((Sub.refl _).trans (GGrant.sub3 (lrd l0 t14_0.toNat))))) ?_
              refine r_on rfl rfl rfl rfl (decide_eq_true (p := ((lrd l0 t14_0.toNat).To = user1) ∧ ((lrd l0 t14_0.toNat).Object = object2)) ⟨h4, h5⟩) rfl (PureD.opD (p_move rfl rfl)) ?_
              refine r_on rfl rfl rfl rfl (decide_eq_true (p := ((lrd l0 t14_0.toNat).To = user1) ∧ ((lrd l0 t14_0.toNat).Object = object2)) ⟨h4, h5⟩) rfl (PureD.opD (p_ieq rfl rfl rfl)) ?_
              refine r_op rfl rfl (PureD.opD (p_pkt rfl rfl (decide_eq_true (p := ((lrd l0 t14_0.toNat).To = user1) ∧ ((lrd l0 t14_0.toNat).Object = object2)) ⟨h4, h5⟩) (tb ((and_l (p := ((lrd l0 t14_0.toNat).To = user1) ∧ ((lrd l0 t14_0.toNat).Object = object2)) (q := (lrd l0 t14_0.toNat).Right = right3) ⟨h4, h5⟩))))) ?_
              refine RunW_st [(1, .c (.p (AV.int user1))), (2, .c (.p (AV.int object2))), (3, .c (.p (AV.int right3))), (9, .c (.p (AV.int n9_0))), (12, .c (.p ((fun q : List GGrant => AV.lst (q.flatMap GGrant.cs) q.length) l0))), (13, .c (.p (AV.int (l0.length : Int)))), (14, .c (.p (AV.int t14_0))), (33, .c (.p (.bool (decide ((((lrd l0 t14_0.toNat).To = user1) ∧ ((lrd l0 t14_0.toNat).Object = object2)) ∧ ((lrd l0 t14_0.toNat).Right = right3))))))] [] rfl ⟨TLes.same _, TLes.same _, TLes.same _, TLes.same _, TLes.same _, TLes.same _, TLes.same _, TLes.same _, trivial⟩ trivial ?_
              exact RunW_nil rfl
            · refine r_off rfl rfl rfl rfl (decide_eq_false (p := ((lrd l0 t14_0.toNat).To = user1) ∧ ((lrd l0 t14_0.toNat).Object = object2)) (fun h => h5 h.2)) rfl rfl ?_
              refine r_off rfl rfl rfl rfl (decide_eq_false (p := ((lrd l0 t14_0.toNat).To = user1) ∧ ((lrd l0 t14_0.toNat).Object = object2)) (fun h => h5 h.2)) rfl rfl ?_
              refine r_off rfl rfl rfl rfl (decide_eq_false (p := ((lrd l0 t14_0.toNat).To = user1) ∧ ((lrd l0 t14_0.toNat).Object = object2)) (fun h => h5 h.2)) rfl rfl ?_
              refine r_off rfl rfl rfl rfl (decide_eq_false (p := ((lrd l0 t14_0.toNat).To = user1) ∧ ((lrd l0 t14_0.toNat).Object = object2)) (fun h => h5 h.2)) rfl rfl ?_
              refine r_op rfl rfl (PureD.opD (p_pkf rfl rfl (decide_eq_false (p := ((lrd l0 t14_0.toNat).To = user1) ∧ ((lrd l0 t14_0.toNat).Object = object2)) (fun h => h5 h.2)) (tb (decide_eq_false (p := (((lrd l0 t14_0.toNat).To = user1) ∧ ((lrd l0 t14_0.toNat).Object = object2)) ∧ ((lrd l0 t14_0.toNat).Right = right3)) (fun x => (fun h => h5 h.2) x.1)).symm))) ?_
              refine RunW_st [(1, .c (.p (AV.int user1))), (2, .c (.p (AV.int object2))), (3, .c (.p (AV.int right3))), (9, .c (.p (AV.int n9_0))), (12, .c (.p ((fun q : List GGrant => AV.lst (q.flatMap GGrant.cs) q.length) l0))), (13, .c (.p (AV.int (l0.length : Int)))), (14, .c (.p (AV.int t14_0))), (33, .c (.p (.bool (decide ((((lrd l0 t14_0.toNat).To = user1) ∧ ((lrd l0 t14_0.toNat).Object = object2)) ∧ ((lrd l0 t14_0.toNat).Right = right3))))))] [] rfl ⟨TLes.same _, TLes.same _, TLes.same _, TLes.same _, TLes.same _, TLes.same _, TLes.same _, TLes.same _, trivial⟩ trivial ?_
              exact RunW_nil rfl
          · refine r_off rfl rfl rfl rfl (decide_eq_false (p := (lrd l0 t14_0.toNat).To = user1) h4) rfl rfl ?_
            refine r_off rfl rfl rfl rfl (decide_eq_false (p := (lrd l0 t14_0.toNat).To = user1) h4) rfl rfl ?_
            refine r_off rfl rfl rfl rfl (decide_eq_false (p := (lrd l0 t14_0.toNat).To = user1) h4) rfl rfl ?_
            refine r_off rfl rfl rfl rfl (decide_eq_false (p := (lrd l0 t14_0.toNat).To = user1) h4) rfl rfl ?_
            refine r_op rfl rfl (PureD.opD (p_pkf rfl rfl (decide_eq_false (p := (lrd l0 t14_0.toNat).To = user1) h4) (tb (decide_eq_false (p := ((lrd l0 t14_0.toNat).To = user1) ∧ ((lrd l0 t14_0.toNat).Object = object2)) (fun x => h4 x.1)).symm))) ?_
            refine r_op rfl rfl (PureD.opD (p_move rfl rfl)) ?_
            refine r_off rfl rfl rfl rfl (decide_eq_false (p := ((lrd l0 t14_0.toNat).To = user1) ∧ ((lrd l0 t14_0.toNat).Object = object2)) (fun h => h4 h.1)) rfl rfl ?_
            refine r_off rfl rfl rfl rfl (decide_eq_false (p := ((lrd l0 t14_0.toNat).To = user1) ∧ ((lrd l0 t14_0.toNat).Object = object2)) (fun h => h4 h.1)) rfl rfl ?_
            refine r_off rfl rfl rfl rfl (decide_eq_false (p := ((lrd l0 t14_0.toNat).To = user1) ∧ ((lrd l0 t14_0.toNat).Object = object2)) (fun h => h4 h.1)) rfl rfl ?_
            refine r_off rfl rfl rfl rfl (decide_eq_false (p := ((lrd l0 t14_0.toNat).To = user1) ∧ ((lrd l0 t14_0.toNat).Object = object2)) (fun h => h4 h.1)) rfl rfl ?_
            refine r_op rfl rfl (PureD.opD (p_pkf rfl rfl (decide_eq_false (p := ((lrd l0 t14_0.toNat).To = user1) ∧ ((lrd l0 t14_0.toNat).Object = object2)) (fun h => h4 h.1)) (tb (decide_eq_false (p := (((lrd l0 t14_0.toNat).To = user1) ∧ ((lrd l0 t14_0.toNat).Object = object2)) ∧ ((lrd l0 t14_0.toNat).Right = right3)) (fun x => (fun h => h4 h.1) x.1)).symm))) ?_
            refine RunW_st [(1, .c (.p (AV.int user1))), (2, .c (.p (AV.int object2))), (3, .c (.p (AV.int right3))), (9, .c (.p (AV.int n9_0))), (12, .c (.p ((fun q : List GGrant => AV.lst (q.flatMap GGrant.cs) q.length) l0))), (13, .c (.p (AV.int (l0.length : Int)))), (14, .c (.p (AV.int t14_0))), (33, .c (.p (.bool (decide ((((lrd l0 t14_0.toNat).To = user1) ∧ ((lrd l0 t14_0.toNat).Object = object2)) ∧ ((lrd l0 t14_0.toNat).Right = right3))))))] [] rfl ⟨TLes.same _, TLes.same _, TLes.same _, TLes.same _, TLes.same _, TLes.same _, TLes.same _, TLes.same _, trivial⟩ trivial ?_
            exact RunW_nil rfl
        · refine AW2_if (p := (((lrd l0 t14_0.toNat).To = user1) ∧ ((lrd l0 t14_0.toNat).Object = object2)) ∧ ((lrd l0 t14_0.toNat).Right = right3)) rfl (fun h6 => ?_) (fun h6 => ?_)
          · replace H := ite_then h6 H
            refine AW2_reg [0, 1, 2] rfl ?_
            refine r_op rfl rfl (PureD.opD (p_move rfl rfl)) ?_
            refine r_op rfl rfl (PureD.opD (p_bin rfl rfl rfl rfl)) ?_
            refine r_op rfl rfl (PureD.opD (p_asg rfl rfl)) ?_
            refine RunW_st [(1, .c (.p (AV.int user1))), (2, .c (.p (AV.int object2))), (3, .c (.p (AV.int right3))), (9, .c (.p (AV.int (w64 (n9_0 + (1 : Int)))))), (12, .c (.p ((fun q : List GGrant => AV.lst (q.flatMap GGrant.cs) q.length) l0))), (13, .c (.p (AV.int (l0.length : Int)))), (14, .c (.p (AV.int t14_0)))] [] rfl ⟨TLes.same _, TLes.same _, TLes.same _, TLes.same _, TLes.same _, TLes.same _, TLes.same _, trivial⟩ trivial ?_
            refine RunW_nil ?_
            have hz := some_elim H
            subst hz
            exact rfl
          · replace H := ite_else h6 H
            refine AW2_st [(1, .c (.p (AV.int user1))), (2, .c (.p (AV.int object2))), (3, .c (.p (AV.int right3))), (9, .c (.p (AV.int n9_0))), (12, .c (.p ((fun q : List GGrant => AV.lst (q.flatMap GGrant.cs) q.length) l0))), (13, .c (.p (AV.int (l0.length : Int)))), (14, .c (.p (AV.int t14_0)))] [] rfl ⟨TLes.same _, TLes.same _, TLes.same _, TLes.same _, TLes.same _, TLes.same _, TLes.same _, trivial⟩ trivial ?_
            refine AW2_skip ?_
            have hz := some_elim H
            subst hz
            exact rfl
      · refine AW2_reg [0, 1] rfl ?_
        refine r_op rfl rfl (PureD.opD (p_bin rfl rfl rfl rfl)) ?_
        refine r_op rfl rfl (PureD.opD (p_move rfl rfl)) ?_
        refine RunW_st [(1, .c (.p (AV.int user1))), (2, .c (.p (AV.int object2))), (3, .c (.p (AV.int right3))), (9, .c (.p (AV.int j'1))), (12, .c (.p ((fun q : List GGrant => AV.lst (q.flatMap GGrant.cs) q.length) l0))), (13, .c (.p (AV.int (l0.length : Int)))), (14, .c (.p (AV.int (w64 (t14_0 + (1 : Int))))))] [] rfl ⟨TLes.same _, TLes.same _, TLes.same _, TLes.same _, TLes.same _, TLes.same _, TLes.same _, trivial⟩ trivial ?_
        refine RunW_nil ?_
        have hz := some_elim H
        subst hz
        exact ⟨rfl, rfl⟩
    · replace H := ite_else h1 H
      refine AW2_st [(1, .c (.p (AV.int user1))), (2, .c (.p (AV.int object2))), (9, .c (.p (AV.int n9_0)))] [] rfl ⟨TLes.same _, TLes.same _, TLes.same _, trivial⟩ trivial ?_
      refine AW2_exit ?_
      refine thenQ2_exit ?_
      have hz := some_elim H
      subst hz
      exact ⟨rfl, rfl⟩
  · obtain ⟨rfl, rfl⟩ := hs
    refine ⟨by simp, ?_⟩
    refine blockQ2_exit ?_
    refine AW2_seq ?_
    refine bindK H fun g'8 h11 H => ?_
    refine AW2_mid (⟨[(8, .c (.p (AV.bool g'8)))], [], 45⟩ : TS) ?_ ?_
    · clear H
      have H := h11
      clear h11
      refine AW2_reg [0, 1, 2, 3, 4, 5, 6, 7, 8] rfl ?_
      refine r_op rfl rfl (PureD.opD (p_move rfl rfl)) ?_
      refine r_op rfl rfl (PureD.opD (p_bin rfl rfl rfl rfl)) ?_
      refine r_op rfl rfl (PureD.opD (p_move rfl rfl)) ?_
      refine (Classical.em (y'5 > (0 : Int))).elim (fun h9 => ?_) (fun h9 => ?_)
      · replace H := ite_then h9 H
        refine r_off rfl rfl rfl rfl (decide_eq_true (p := y'5 > (0 : Int)) h9) rfl rfl ?_
        refine r_off rfl rfl rfl rfl (decide_eq_true (p := y'5 > (0 : Int)) h9) rfl rfl ?_
        refine r_off rfl rfl rfl rfl (decide_eq_true (p := y'5 > (0 : Int)) h9) rfl rfl ?_
        refine r_off rfl rfl rfl rfl (decide_eq_true (p := y'5 > (0 : Int)) h9) rfl rfl ?_
        refine r_op rfl rfl (PureD.opD (p_pkt rfl rfl (decide_eq_true (p := y'5 > (0 : Int)) h9) (.same _))) ?_
        refine r_op rfl rfl (PureD.opD (p_asg rfl rfl)) ?_
        refine RunW_st [(8, .c (.p (AV.bool true)))] [] rfl ⟨TLes.same _, trivial⟩ trivial ?_
        have hz := some_elim H
        subst hz
        exact RunW_nil rfl
      · replace H := ite_else h9 H
        refine r_on rfl rfl rfl rfl (decide_eq_false (p := y'5 > (0 : Int)) h9) rfl (PureD.opD (p_move rfl rfl)) ?_
        refine bindK H fun r'7 h10 H => ?_
        refine r_on rfl rfl rfl rfl (decide_eq_false (p := y'5 > (0 : Int)) h9) rfl (PureD.opD (p_callp rfl rfl rfl Try.func33 rfl rfl (g_ref_Owner_ac h10) ⟨rfl, trivial⟩)) ?_
        refine r_on rfl rfl rfl rfl (decide_eq_false (p := y'5 > (0 : Int)) h9) rfl (PureD.opD (p_move rfl rfl)) ?_
        refine r_on rfl rfl rfl rfl (decide_eq_false (p := y'5 > (0 : Int)) h9) rfl (PureD.opD (p_ieq rfl rfl rfl)) ?_
        refine r_op rfl rfl (PureD.opD (p_pkf rfl rfl (decide_eq_false (p := y'5 > (0 : Int)) h9) (.same _))) ?_
        refine r_op rfl rfl (PureD.opD (p_asg rfl rfl)) ?_
        refine RunW_st [(8, .c (.p (.bool (decide (r'7 = user1)))))] [] rfl ⟨TLes.same _, trivial⟩ trivial ?_
        have hz := some_elim H
        subst hz
        exact RunW_nil rfl
    · refine AW2_ret ?_
      have hz := some_elim H
      subst hz
      exact ⟨⟨res_tmp (.same _), trivial⟩, trivial⟩

/-! chirographref.HasOf -/
noncomputable def g_ref_HasOf (l0 : List GGrant) (user1 : Int) (object2 : Int) (right3 : Int) : Option (Bool × Int) :=
  (g_ref_rightFault l0 user1 object2 right3).bind fun r'1 => (if r'1 ≠ (0 : Int) then some (false, r'1) else (g_ref_has l0 user1 object2 right3).bind fun r'2 => some (r'2, (0 : Int)))
set_option maxHeartbeats 4000000 in
set_option maxRecDepth 100000 in
theorem g_ref_HasOf_ac {l0 : List GGrant} {user1 : Int} {object2 : Int} {right3 : Int} {r : Bool × Int} (H : g_ref_HasOf l0 user1 object2 right3 = some r) : ACp Try.prog 14 [((fun q : List GGrant => AV.lst (q.flatMap GGrant.cs) q.length) l0), (AV.int user1), (AV.int object2), (AV.int right3)] (.tup [(AV.bool r.1), (AV.int r.2)]) := by
  refine ACp_of (AC2_of_body (vs := [.c (.p (AV.bool r.1)), .c (.p (AV.int r.2))]) Try.func14 rfl rfl (Nat.le_of_ble_eq_true rfl) rfl ?_) (fun _ => .same _)
  unfold g_ref_HasOf at H
  refine AW2_st [(0, .c (.p ((fun q : List GGrant => AV.lst (q.flatMap GGrant.cs) q.length) l0))), (1, .c (.p (AV.int user1))), (2, .c (.p (AV.int object2))), (3, .c (.p (AV.int right3)))] [] rfl ⟨TLes.same _, TLes.same _, TLes.same _, TLes.same _, trivial⟩ trivial ?_
  refine AW2_seq ?_
  refine AW2_reg [0, 1] rfl ?_
  refine r_op rfl rfl (PureD.opD (p_asg rfl rfl)) ?_
  refine r_op rfl rfl (PureD.opD (p_asg rfl rfl)) ?_
  refine RunW_st [(0, .c (.p ((fun q : List GGrant => AV.lst (q.flatMap GGrant.cs) q.length) l0))), (1, .c (.p (AV.int user1))), (2, .c (.p (AV.int object2))), (3, .c (.p (AV.int right3)))] [] rfl ⟨TLes.same _, TLes.same _, TLes.same _, TLes.same _, trivial⟩ trivial ?_
  refine RunW_nil ?_
  refine AW2_seq ?_
  refine AW2_seq ?_
  refine AW2_reg [0, 1, 2, 3, 4, 5] rfl ?_
  refine r_op rfl rfl (PureD.opD (p_move rfl rfl)) ?_
  refine r_op rfl rfl (PureD.opD (p_move rfl rfl)) ?_
  refine r_op rfl rfl (PureD.opD (p_move rfl rfl)) ?_
  refine r_op rfl rfl (PureD.opD (p_move rfl rfl)) ?_
  refine bindK H fun r'1 h1 H => ?_
  refine r_op rfl rfl (PureD.opD (p_callp rfl rfl rfl Try.func28 rfl rfl (g_ref_rightFault_ac h1) ⟨rfl, rfl, rfl, rfl, trivial⟩)) ?_
  refine r_op rfl rfl (PureD.opD (p_asg rfl rfl)) ?_
  refine RunW_st [(0, .c (.p ((fun q : List GGrant => AV.lst (q.flatMap GGrant.cs) q.length) l0))), (1, .c (.p (AV.int user1))), (2, .c (.p (AV.int object2))), (3, .c (.p (AV.int right3))), (10, .c (.p (AV.int r'1)))] [] rfl ⟨TLes.same _, TLes.same _, TLes.same _, TLes.same _, TLes.same _, trivial⟩ trivial ?_
  refine RunW_nil ?_
  refine AW2_seq ?_
  refine AW2_reg [0, 1] rfl ?_
  refine r_op rfl rfl (PureD.opD (p_move rfl rfl)) ?_
  refine r_op rfl rfl (PureD.opD (p_ine rfl rfl rfl)) ?_
  refine RunW_st [(0, .c (.p ((fun q : List GGrant => AV.lst (q.flatMap GGrant.cs) q.length) l0))), (1, .c (.p (AV.int user1))), (2, .c (.p (AV.int object2))), (3, .c (.p (AV.int right3))), (10, .c (.p (AV.int r'1))), (17, .c (.p (.bool (decide (r'1 ≠ (0 : Int))))))] [] rfl ⟨TLes.same _, TLes.same _, TLes.same _, TLes.same _, TLes.same _, TLes.same _, trivial⟩ trivial ?_
  refine RunW_nil ?_
  refine AW2_if (p := r'1 ≠ (0 : Int)) rfl (fun h2 => ?_) (fun h2 => ?_)
  · replace H := ite_then h2 H
    refine AW2_seq ?_
    refine AW2_reg [0, 1, 2] rfl ?_
    refine r_op rfl rfl (PureD.opD (p_move rfl rfl)) ?_
    refine r_op rfl rfl (PureD.opD (p_asg rfl rfl)) ?_
    refine r_op rfl rfl (PureD.opD (p_asg rfl rfl)) ?_
    refine RunW_st [(8, .c (.p (AV.bool false))), (9, .c (.p (AV.int r'1)))] [] rfl ⟨TLes.same _, TLes.same _, trivial⟩ trivial ?_
    refine RunW_nil ?_
    refine AW2_ret ?_
    have hz := some_elim H
    subst hz
    exact ⟨⟨res_tmp (.same _), res_tmp (.same _), trivial⟩, trivial⟩
  · replace H := ite_else h2 H
    refine AW2_st [(0, .c (.p ((fun q : List GGrant => AV.lst (q.flatMap GGrant.cs) q.length) l0))), (1, .c (.p (AV.int user1))), (2, .c (.p (AV.int object2))), (3, .c (.p (AV.int right3)))] [] rfl ⟨TLes.same _, TLes.same _, TLes.same _, TLes.same _, trivial⟩ trivial ?_
    refine AW2_skip ?_
    refine AW2_seq ?_
    refine AW2_reg [0, 1, 2, 3, 4, 5, 6] rfl ?_
    refine r_op rfl rfl (PureD.opD (p_move rfl rfl)) ?_
    refine r_op rfl rfl (PureD.opD (p_move rfl rfl)) ?_
    refine r_op rfl rfl (PureD.opD (p_move rfl rfl)) ?_
    refine r_op rfl rfl (PureD.opD (p_move rfl rfl)) ?_
    refine bindK H fun r'2 h3 H => ?_
    refine r_op rfl rfl (PureD.opD (p_callp rfl rfl rfl Try.func29 rfl rfl (g_ref_has_ac h3) ⟨rfl, rfl, rfl, rfl, trivial⟩)) ?_
    refine r_op rfl rfl (PureD.opD (p_asg rfl rfl)) ?_
    refine r_op rfl rfl (PureD.opD (p_asg rfl rfl)) ?_
    refine RunW_st [(8, .c (.p (AV.bool r'2))), (9, .c (.p (AV.int (0 : Int))))] [] rfl ⟨TLes.same _, TLes.same _, trivial⟩ trivial ?_
    refine RunW_nil ?_
    refine AW2_ret ?_
    have hz := some_elim H
    subst hz
    exact ⟨⟨res_tmp (.same _), res_tmp (.same _), trivial⟩, trivial⟩
end Go.Proofs.Ytgbfmldbbnhefaa.VM
