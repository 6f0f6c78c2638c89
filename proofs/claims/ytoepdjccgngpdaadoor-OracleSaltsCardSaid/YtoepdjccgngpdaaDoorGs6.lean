/- Functions of the program, as they answer, and that their code comes to these answers. -/
import Derived.Test.YtoepdjccgngpdaaDoorGs5
namespace Go.Proofs.YtoepdjccgngpdaaDoor.VM
open Go Go.RowKit



/-! chirographref.SaltOf -/
noncomputable def g_ref_SaltOf (mode0 : Int) (secret1 : List UInt8) (step2 : Int) (place3 : Int) : Option ((List UInt8) × Int) :=
  (g_ref_badMode mode0).bind fun r'1 => (if r'1 = true then some (([] : List UInt8), (2 : Int)) else (if (secret1.length : Int) > (16 : Int) then some (([] : List UInt8), (1 : Int)) else (g_ref_big (UInt64.ofInt step2) (8 : Int)).bind fun r'2 => (g_ref_big (UInt64.ofInt place3) (8 : Int)).bind fun r'3 => (if mode0 = (2 : Int) then (g_ref_framed (3 : Int) ([secret1, r'2, r'3] : List (List UInt8))).bind fun r'4 => some (r'4, (0 : Int)) else (g_ref_framed (3 : Int) ([r'2, r'3] : List (List UInt8))).bind fun r'5 => (g_ref_Maced secret1 r'5).bind fun r'6 => some (r'6.toList, (0 : Int)))))
set_option maxHeartbeats 4000000 in
set_option maxRecDepth 100000 in
theorem g_ref_SaltOf_ac2 {mode0 : Int} {secret1 : List UInt8} {step2 : Int} {place3 : Int} {r : (List UInt8) × Int} (H : g_ref_SaltOf mode0 secret1 step2 place3 = some r) : AC2 Tryd.prog 23 (pureT [(AV.int mode0), (AV.bytes secret1), (AV.int step2), (AV.int place3)]) [] (retV [.c (.own 8 r.1.length 1), .c (.p (AV.int r.2))]) [(8, .pure (bcells r.1))] := by
  refine AC2_of_body (vs := [.c (.own 8 r.1.length 1), .c (.p (AV.int r.2))]) Tryd.func23 rfl rfl (Nat.le_of_ble_eq_true rfl) rfl ?_
  unfold g_ref_SaltOf at H
  refine AW2_st [(0, .c (.p (AV.int mode0))), (1, .c (.p (AV.bytes secret1))), (2, .c (.p (AV.int step2))), (3, .c (.p (AV.int place3)))] [] rfl ⟨TLes.same _, TLes.same _, TLes.same _, TLes.same _, trivial⟩ trivial ?_
  refine AW2_seq ?_
  refine AW2_reg [0, 1] rfl ?_
  refine r_op rfl rfl (PureD.opD (p_asgn rfl)) ?_
  refine r_op rfl rfl (PureD.opD (p_asg rfl rfl)) ?_
  refine RunW_st [(0, .c (.p (AV.int mode0))), (1, .c (.p (AV.bytes secret1))), (2, .c (.p (AV.int step2))), (3, .c (.p (AV.int place3)))] [] rfl ⟨TLes.same _, TLes.same _, TLes.same _, TLes.same _, trivial⟩ trivial ?_
  refine RunW_nil ?_
  refine AW2_seq ?_
  refine AW2_seq ?_
  refine AW2_reg [0, 1] rfl ?_
  refine r_op rfl rfl (PureD.opD (p_move rfl rfl)) ?_
  refine bindK H fun r'1 h1 H => ?_
  refine r_op rfl rfl (PureD.opD (p_callp rfl rfl rfl Tryd.func44 rfl rfl (g_ref_badMode_ac h1) ⟨rfl, trivial⟩)) ?_
  refine RunW_st [(0, .c (.p (AV.int mode0))), (1, .c (.p (AV.bytes secret1))), (2, .c (.p (AV.int step2))), (3, .c (.p (AV.int place3))), (14, .c (.p (AV.bool r'1)))] [] rfl ⟨TLes.same _, TLes.same _, TLes.same _, TLes.same _, TLes.same _, trivial⟩ trivial ?_
  refine RunW_nil ?_
  refine AW2_cond rfl (fun h2 => ?_) (fun h2 => ?_)
  · replace H := ite_then h2 H
    refine AW2_seq ?_
    refine AW2_reg [0, 1] rfl ?_
    refine r_op rfl rfl (PureD.opD (p_asgn rfl)) ?_
    refine r_op rfl rfl (PureD.opD (p_asg rfl rfl)) ?_
    refine RunW_st [(8, .c (.p .nil)), (9, .c (.p (AV.int (2 : Int))))] [] rfl ⟨TLes.same _, TLes.same _, trivial⟩ trivial ?_
    refine RunW_nil ?_
    refine AW2_st [(8, .c (.p .nil)), (9, .c (.p (AV.int (2 : Int))))] [] rfl ⟨TLes.same _, TLes.same _, trivial⟩ trivial ?_
    refine AW2_gho (Gho_own (d := 8) (b := 8) (z := 1) rfl rfl rfl rfl) ?_
    refine AW2_st [(8, .c (.own 8 ([] : List UInt8).length 1)), (9, .c (.p (AV.int (2 : Int))))] [(8, .pure (bcells ([] : List UInt8)))] rfl ⟨TLes.own rfl, TLes.same _, trivial⟩ ⟨rfl, trivial⟩ ?_
    refine AW2_ret ?_
    have hz := some_elim H
    subst hz
    exact ⟨⟨res_tmp (.same _), res_tmp (.same _), trivial⟩, ⟨rfl, trivial⟩⟩
  · replace H := ite_else (ne_true h2) H
    refine AW2_st [(0, .c (.p (AV.int mode0))), (1, .c (.p (AV.bytes secret1))), (2, .c (.p (AV.int step2))), (3, .c (.p (AV.int place3)))] [] rfl ⟨TLes.same _, TLes.same _, TLes.same _, TLes.same _, trivial⟩ trivial ?_
    refine AW2_skip ?_
    refine AW2_seq ?_
    refine AW2_seq ?_
    refine AW2_reg [0, 1, 2] rfl ?_
    refine r_op rfl rfl (PureD.opD (p_move rfl rfl)) ?_
    refine r_op rfl rfl (PureD.opD (p_lenl rfl Tryd.underlying22 rfl rfl)) ?_
    refine r_op rfl rfl (PureD.opD (p_bin rfl rfl rfl rfl)) ?_
    refine RunW_st [(0, .c (.p (AV.int mode0))), (1, .c (.p (AV.bytes secret1))), (2, .c (.p (AV.int step2))), (3, .c (.p (AV.int place3))), (17, .c (.p (.bool (decide ((secret1.length : Int) > (16 : Int))))))] [] rfl ⟨TLes.same _, TLes.same _, TLes.same _, TLes.same _, TLes.same _, trivial⟩ trivial ?_
    refine RunW_nil ?_
    refine AW2_if (p := (secret1.length : Int) > (16 : Int)) rfl (fun h3 => ?_) (fun h3 => ?_)
    · replace H := ite_then h3 H
      refine AW2_seq ?_
      refine AW2_reg [0, 1] rfl ?_
      refine r_op rfl rfl (PureD.opD (p_asgn rfl)) ?_
      refine r_op rfl rfl (PureD.opD (p_asg rfl rfl)) ?_
      refine RunW_st [(8, .c (.p .nil)), (9, .c (.p (AV.int (1 : Int))))] [] rfl ⟨TLes.same _, TLes.same _, trivial⟩ trivial ?_
      refine RunW_nil ?_
      refine AW2_st [(8, .c (.p .nil)), (9, .c (.p (AV.int (1 : Int))))] [] rfl ⟨TLes.same _, TLes.same _, trivial⟩ trivial ?_
      refine AW2_gho (Gho_own (d := 8) (b := 8) (z := 1) rfl rfl rfl rfl) ?_
      refine AW2_st [(8, .c (.own 8 ([] : List UInt8).length 1)), (9, .c (.p (AV.int (1 : Int))))] [(8, .pure (bcells ([] : List UInt8)))] rfl ⟨TLes.own rfl, TLes.same _, trivial⟩ ⟨rfl, trivial⟩ ?_
      refine AW2_ret ?_
      have hz := some_elim H
      subst hz
      exact ⟨⟨res_tmp (.same _), res_tmp (.same _), trivial⟩, ⟨rfl, trivial⟩⟩
    · replace H := ite_else h3 H
      refine AW2_st [(0, .c (.p (AV.int mode0))), (1, .c (.p (AV.bytes secret1))), (2, .c (.p (AV.int step2))), (3, .c (.p (AV.int place3)))] [] rfl ⟨TLes.same _, TLes.same _, TLes.same _, TLes.same _, trivial⟩ trivial ?_
      refine AW2_skip ?_
      refine AW2_seq ?_
      refine AW2_reg [0, 1, 2, 3, 4, 5, 6, 7, 8, 9] rfl ?_
      refine r_op rfl rfl (PureD.opD (p_move rfl rfl)) ?_
      refine r_op rfl rfl (PureD.opD (p_i_u64 rfl Tryd.underlying3 Tryd.underlying66 rfl)) ?_
      refine bindK H fun r'2 h4 H => ?_
      refine r_op rfl rfl (PureD.opD (p_callp rfl rfl rfl Tryd.func45 rfl rfl (g_ref_big_ac h4) ⟨rfl, rfl, trivial⟩)) ?_
      refine r_op rfl rfl (MakeD.opD (n_sb 21 rfl Tryd.underlying9 Tryd.underlying22 Tryd.underlying5 rfl) rfl rfl rfl rfl) ?_
      refine r_op rfl rfl (PureD.opD (p_move rfl rfl)) ?_
      refine r_op rfl rfl (PureD.opD (p_i_u64 rfl Tryd.underlying3 Tryd.underlying66 rfl)) ?_
      refine bindK H fun r'3 h5 H => ?_
      refine r_op rfl rfl (PureD.opD (p_callp rfl rfl rfl Tryd.func45 rfl rfl (g_ref_big_ac h5) ⟨rfl, rfl, trivial⟩)) ?_
      refine r_op rfl rfl (MakeD.opD (n_sb 25 rfl Tryd.underlying9 Tryd.underlying22 Tryd.underlying5 rfl) rfl rfl rfl rfl) ?_
      refine r_op rfl rfl (PureD.opD (p_asg rfl rfl)) ?_
      refine r_op rfl rfl (PureD.opD (p_asg rfl rfl)) ?_
      refine RunW_st [(0, .c (.p (AV.int mode0))), (1, .c (.p (AV.bytes secret1))), (10, .c (.own 21 r'2.length 1)), (11, .c (.own 25 r'3.length 1))] [(21, .pure (bcells r'2)), (25, .pure (bcells r'3))] rfl ⟨TLes.same _, TLes.same _, TLes.same _, TLes.same _, trivial⟩ ⟨rfl, rfl, trivial⟩ ?_
      refine RunW_gho (Gho_ren 21 10 rfl rfl rfl rfl rfl) ?_
      refine RunW_gho (Gho_ren 25 11 rfl rfl rfl rfl rfl) ?_
      refine RunW_st [(0, .c (.p (AV.int mode0))), (1, .c (.p (AV.bytes secret1))), (10, .c (.own 10 r'2.length 1)), (11, .c (.own 11 r'3.length 1))] [(10, .pure (bcells r'2)), (11, .pure (bcells r'3))] rfl ⟨TLes.same _, TLes.same _, TLes.same _, TLes.same _, trivial⟩ ⟨rfl, rfl, trivial⟩ ?_
      refine RunW_nil ?_
      refine AW2_seq ?_
      refine AW2_seq ?_
      refine AW2_reg [0, 1] rfl ?_
      refine r_op rfl rfl (PureD.opD (p_move rfl rfl)) ?_
      refine r_op rfl rfl (PureD.opD (p_ieq rfl rfl rfl)) ?_
      refine RunW_st [(1, .c (.p (AV.bytes secret1))), (10, .c (.own 10 r'2.length 1)), (11, .c (.own 11 r'3.length 1)), (27, .c (.p (.bool (decide (mode0 = (2 : Int))))))] [(10, .pure (bcells r'2)), (11, .pure (bcells r'3))] rfl ⟨TLes.same _, TLes.same _, TLes.same _, TLes.same _, trivial⟩ ⟨rfl, rfl, trivial⟩ ?_
      refine RunW_nil ?_
      refine AW2_if (p := mode0 = (2 : Int)) rfl (fun h6 => ?_) (fun h6 => ?_)
      · replace H := ite_then h6 H
        refine AW2_seq ?_
        refine AW2_reg [0, 1, 2, 3, 4, 5, 6, 7] rfl ?_
        refine r_op rfl rfl (PureD.opD (p_move rfl rfl)) ?_
        refine r_op rfl rfl (PureD.opD (p_move rfl rfl)) ?_
        refine r_op rfl rfl (PureD.opD (p_move rfl rfl)) ?_
        refine RunW_gho (Gho_pubs [10, 29] ⟨rfl, rfl, trivial⟩ rfl (bl r'2) (by decide)) ?_
        refine RunW_gho (Gho_pubs [11, 30] ⟨rfl, rfl, trivial⟩ rfl (bl r'3) (by decide)) ?_
        refine r_op rfl rfl (MakeD.opD (u_bs 31 rfl Tryd.underlying44 in_22 rfl one_22 (by decide) (by decide) rfl rfl rfl) rfl rfl rfl rfl) ?_
        refine bindK H fun r'4 h7 H => ?_
        refine r_op rfl rfl (PureD.opD (p_calll rfl rfl rfl Tryd.func46 rfl rfl (g_ref_framed_ac h7) rfl ⟨lend_p rfl, lend_o rfl rfl rfl (ml AV.bytes ([secret1, r'2, r'3] : List (List UInt8))) (by decide), trivial⟩)) ?_
        refine r_op rfl rfl (MakeD.opD (n_sb 33 rfl Tryd.underlying9 Tryd.underlying22 Tryd.underlying5 rfl) rfl rfl rfl rfl) ?_
        refine r_op rfl rfl (PureD.opD (p_asg rfl rfl)) ?_
        refine r_op rfl rfl (PureD.opD (p_asg rfl rfl)) ?_
        refine RunW_st [(8, .c (.own 33 r'4.length 1)), (9, .c (.p (AV.int (0 : Int))))] [(33, .pure (bcells r'4))] rfl ⟨TLes.same _, TLes.same _, trivial⟩ ⟨rfl, trivial⟩ ?_
        refine RunW_gho (Gho_ren 33 8 rfl rfl rfl rfl rfl) ?_
        refine RunW_st [(8, .c (.own 8 r'4.length 1)), (9, .c (.p (AV.int (0 : Int))))] [(8, .pure (bcells r'4))] rfl ⟨TLes.same _, TLes.same _, trivial⟩ ⟨rfl, trivial⟩ ?_
        refine RunW_nil ?_
        refine AW2_st [(8, .c (.own 8 r'4.length 1)), (9, .c (.p (AV.int (0 : Int))))] [(8, .pure (bcells r'4))] rfl ⟨TLes.same _, TLes.same _, trivial⟩ ⟨rfl, trivial⟩ ?_
        refine AW2_ret ?_
        have hz := some_elim H
        subst hz
        exact ⟨⟨res_tmp (.same _), res_tmp (.same _), trivial⟩, ⟨rfl, trivial⟩⟩
      · replace H := ite_else h6 H
        refine AW2_st [(1, .c (.p (AV.bytes secret1))), (10, .c (.own 10 r'2.length 1)), (11, .c (.own 11 r'3.length 1))] [(10, .pure (bcells r'2)), (11, .pure (bcells r'3))] rfl ⟨TLes.same _, TLes.same _, TLes.same _, trivial⟩ ⟨rfl, rfl, trivial⟩ ?_
        refine AW2_skip ?_
        refine AW2_seq ?_
        refine AW2_reg [0, 1, 2, 3, 4, 5, 6, 7, 8] rfl ?_
        refine r_op rfl rfl (PureD.opD (p_move rfl rfl)) ?_
        refine r_op rfl rfl (PureD.opD (p_move rfl rfl)) ?_
        refine r_op rfl rfl (PureD.opD (p_move rfl rfl)) ?_
        refine RunW_gho (Gho_pubs [10, 35] ⟨rfl, rfl, trivial⟩ rfl (bl r'2) (by decide)) ?_
        refine RunW_gho (Gho_pubs [11, 36] ⟨rfl, rfl, trivial⟩ rfl (bl r'3) (by decide)) ?_
        refine r_op rfl rfl (MakeD.opD (u_bs 37 rfl Tryd.underlying44 in_22 rfl one_22 (by decide) (by decide) rfl rfl rfl) rfl rfl rfl rfl) ?_
        refine bindK H fun r'5 h8 H => ?_
        refine r_op rfl rfl (PureD.opD (p_calll rfl rfl rfl Tryd.func46 rfl rfl (g_ref_framed_ac h8) rfl ⟨lend_p rfl, lend_o rfl rfl rfl (ml AV.bytes ([r'2, r'3] : List (List UInt8))) (by decide), trivial⟩)) ?_
        refine r_op rfl rfl (MakeD.opD (n_sb 39 rfl Tryd.underlying9 Tryd.underlying22 Tryd.underlying5 rfl) rfl rfl rfl rfl) ?_
        refine bindK H fun r'6 h9 H => ?_
        refine r_op rfl rfl (PureD.opD (p_calll rfl rfl rfl Tryd.func21 rfl rfl (g_ref_Maced_ac h9) (nlB _) ⟨lend_p rfl, lend_o rfl rfl rfl (bl r'5) (by decide), trivial⟩)) ?_
        refine r_op rfl rfl (MakeD.opD (u_alloc 12 rfl in_23 one_23 zc_23) rfl rfl rfl rfl) ?_
        refine r_op rfl rfl (u_st rfl rfl rfl rfl rfl in_23 ((bcells_length _).trans (vlen r'6)) (ne_of_lt (n := 0) (Nat.lt_of_lt_of_eq (by decide) (Eq.symm ((bcells_length _).trans (vlen (Vector.replicate 32 (0 : UInt8))))))) (Upd.refl (((bcells_length _).trans (vlen r'6)).trans ((bcells_length _).trans (vlen (Vector.replicate 32 (0 : UInt8)))).symm))) ?_
        refine RunW_st [(12, .c (.ptr 12 (0)))] [(12, .pure (bcells r'6.toList))] rfl ⟨TLes.same _, trivial⟩ ⟨rfl, trivial⟩ ?_
        refine RunW_nil ?_
        refine AW2_seq ?_
        refine AW2_reg [0, 1, 2, 3, 4] rfl ?_
        refine r_op rfl rfl (PureD.opD (u_cuta rfl rfl Tryd.underlying23 in_5 rfl rfl (ne_of_lt (n := 0) (Nat.lt_of_lt_of_eq (by decide) (Eq.symm ((bcells_length _).trans (vlen r'6))))) (Sub.refl _) (((bcells_length _).trans (vlen r'6)).trans (by decide)))) ?_
        refine r_op rfl rfl (PureD.opD (u_cbl rfl rfl Tryd.underlying22 Tryd.underlying5 Tryd.underlying9 (bs := r'6.toList) (vlen _) rfl rfl (ne_of_lt (n := 0) (Nat.lt_of_lt_of_eq (by decide) (Eq.symm ((bcells_length _).trans (vlen r'6))))) (Sub.refl _))) ?_
        refine r_op rfl rfl (MakeD.opD (n_sb 43 rfl Tryd.underlying9 Tryd.underlying22 Tryd.underlying5 rfl) rfl rfl rfl rfl) ?_
        refine r_op rfl rfl (PureD.opD (p_asg rfl rfl)) ?_
        refine r_op rfl rfl (PureD.opD (p_asg rfl rfl)) ?_
        refine RunW_st [(8, .c (.own 43 r'6.toList.length 1)), (9, .c (.p (AV.int (0 : Int))))] [(43, .pure (bcells r'6.toList))] rfl ⟨TLes.same _, TLes.same _, trivial⟩ ⟨rfl, trivial⟩ ?_
        refine RunW_gho (Gho_ren 43 8 rfl rfl rfl rfl rfl) ?_
        refine RunW_st [(8, .c (.own 8 r'6.toList.length 1)), (9, .c (.p (AV.int (0 : Int))))] [(8, .pure (bcells r'6.toList))] rfl ⟨TLes.same _, TLes.same _, trivial⟩ ⟨rfl, trivial⟩ ?_
        refine RunW_nil ?_
        refine AW2_st [(8, .c (.own 8 r'6.toList.length 1)), (9, .c (.p (AV.int (0 : Int))))] [(8, .pure (bcells r'6.toList))] rfl ⟨TLes.same _, TLes.same _, trivial⟩ ⟨rfl, trivial⟩ ?_
        refine AW2_ret ?_
        have hz := some_elim H
        subst hz
        exact ⟨⟨res_tmp (.same _), res_tmp (.same _), trivial⟩, ⟨rfl, trivial⟩⟩
theorem g_ref_SaltOf_ac {mode0 : Int} {secret1 : List UInt8} {step2 : Int} {place3 : Int} {r : (List UInt8) × Int} (H : g_ref_SaltOf mode0 secret1 step2 place3 = some r) : ACp Tryd.prog 23 [(AV.int mode0), (AV.bytes secret1), (AV.int step2), (AV.int place3)] (.tup [(AV.bytes r.1), (AV.int r.2)]) := ACp_pub (g_ref_SaltOf_ac2 H) (fun _ _ hm => lent_tup ⟨lent_own hm rfl (bl r.1) (by decide), .same _, trivial⟩)

/-! chirographlaw.sameBytes -/
noncomputable def g_law_sameBytes (a0 : List UInt8) (b1 : List UInt8) : Option (Bool) :=
  some (decide (a0 = b1))
set_option maxHeartbeats 4000000 in
set_option maxRecDepth 100000 in
theorem g_law_sameBytes_ac {a0 : List UInt8} {b1 : List UInt8} {r : Bool} (H : g_law_sameBytes a0 b1 = some r) : ACp Tryd.prog 24 [(AV.bytes a0), (AV.bytes b1)] (AV.bool r) := by
  refine ACp_of (AC2_of_body (vs := [.c (.p (AV.bool r))]) Tryd.func24 rfl rfl (Nat.le_of_ble_eq_true rfl) rfl ?_) (fun _ => .same _)
  unfold g_law_sameBytes at H
  refine AW2_st [(0, .c (.p (AV.bytes a0))), (1, .c (.p (AV.bytes b1)))] [] rfl ⟨TLes.same _, TLes.same _, trivial⟩ trivial ?_
  refine AW2_seq ?_
  refine AW2_reg [0] rfl ?_
  refine r_op rfl rfl (PureD.opD (p_asg rfl rfl)) ?_
  refine RunW_st [(0, .c (.p (AV.bytes a0))), (1, .c (.p (AV.bytes b1)))] [] rfl ⟨TLes.same _, TLes.same _, trivial⟩ trivial ?_
  refine RunW_nil ?_
  refine AW2_seq ?_
  refine AW2_reg [0, 1, 2, 3, 4, 5] rfl ?_
  refine r_op rfl rfl (PureD.opD (p_move rfl rfl)) ?_
  refine r_op rfl rfl (PureD.opD (p_cb rfl rfl Tryd.underlying22 Tryd.underlying5 Tryd.underlying9 rfl)) ?_
  refine r_op rfl rfl (PureD.opD (p_move rfl rfl)) ?_
  refine r_op rfl rfl (PureD.opD (p_cb rfl rfl Tryd.underlying22 Tryd.underlying5 Tryd.underlying9 rfl)) ?_
  refine r_op rfl rfl (PureD.opD (p_seq rfl rfl rfl)) ?_
  refine r_op rfl rfl (PureD.opD (p_asg rfl rfl)) ?_
  refine RunW_st [(4, .c (.p (.bool (decide (a0 = b1)))))] [] rfl ⟨TLes.same _, trivial⟩ trivial ?_
  refine RunW_nil ?_
  refine AW2_ret ?_
  have hz := some_elim H
  subst hz
  exact ⟨⟨res_tmp (.same _), trivial⟩, trivial⟩

/-! chirographlaw.OracleSalts -/
noncomputable def g_law_OracleSalts (mode0 : Int) (secret1 : List UInt8) (step2 : Int) (place3 : Int) : Option (Bool) :=
  (g_oracle_Salt mode0 secret1 step2 place3).bind fun r'1 => (g_ref_SaltOf mode0 secret1 step2 place3).bind fun r'2 => ((if r'1.2 = r'2.2 then (g_law_sameBytes r'1.1 r'2.1).bind fun r'4 => some r'4 else some false)).bind fun g'5 => some g'5
set_option maxHeartbeats 4000000 in
set_option maxRecDepth 100000 in
theorem g_law_OracleSalts_ac {mode0 : Int} {secret1 : List UInt8} {step2 : Int} {place3 : Int} {r : Bool} (H : g_law_OracleSalts mode0 secret1 step2 place3 = some r) : ACp Tryd.prog 7 [(AV.int mode0), (AV.bytes secret1), (AV.int step2), (AV.int place3)] (AV.bool r) := by
  refine ACp_of (AC2_of_body (vs := [.c (.p (AV.bool r))]) Tryd.func7 rfl rfl (Nat.le_of_ble_eq_true rfl) rfl ?_) (fun _ => .same _)
  unfold g_law_OracleSalts at H
  refine AW2_st [(0, .c (.p (AV.int mode0))), (1, .c (.p (AV.bytes secret1))), (2, .c (.p (AV.int step2))), (3, .c (.p (AV.int place3)))] [] rfl ⟨TLes.same _, TLes.same _, TLes.same _, TLes.same _, trivial⟩ trivial ?_
  refine AW2_seq ?_
  refine AW2_reg [0] rfl ?_
  refine r_op rfl rfl (PureD.opD (p_asg rfl rfl)) ?_
  refine RunW_st [(0, .c (.p (AV.int mode0))), (1, .c (.p (AV.bytes secret1))), (2, .c (.p (AV.int step2))), (3, .c (.p (AV.int place3)))] [] rfl ⟨TLes.same _, TLes.same _, TLes.same _, TLes.same _, trivial⟩ trivial ?_
  refine RunW_nil ?_
  refine AW2_seq ?_
  refine AW2_reg [0, 1, 2, 3, 4, 5, 6, 7, 8, 9] rfl ?_
  refine r_op rfl rfl (PureD.opD (p_move rfl rfl)) ?_
  refine r_op rfl rfl (PureD.opD (p_move rfl rfl)) ?_
  refine r_op rfl rfl (PureD.opD (p_move rfl rfl)) ?_
  refine r_op rfl rfl (PureD.opD (p_move rfl rfl)) ?_
  refine bindK H fun r'1 h1 H => ?_
  refine r_op rfl rfl (PureD.opD (p_callp rfl rfl rfl Tryd.func22 rfl rfl (g_oracle_Salt_ac h1) ⟨rfl, rfl, rfl, rfl, trivial⟩)) ?_
  refine r_op rfl rfl (PureD.opD (p_move rfl rfl)) ?_
  refine r_op rfl rfl (PureD.opD (p_ext rfl rfl rfl rfl)) ?_
  refine r_op rfl rfl (PureD.opD (p_ext rfl rfl rfl rfl)) ?_
  refine r_op rfl rfl (PureD.opD (p_asg rfl rfl)) ?_
  refine r_op rfl rfl (PureD.opD (p_asg rfl rfl)) ?_
  refine RunW_st [(0, .c (.p (AV.int mode0))), (1, .c (.p (AV.bytes secret1))), (2, .c (.p (AV.int step2))), (3, .c (.p (AV.int place3))), (9, .c (.p (AV.bytes r'1.1))), (10, .c (.p (AV.int r'1.2)))] [] rfl ⟨TLes.same _, TLes.same _, TLes.same _, TLes.same _, TLes.same _, TLes.same _, trivial⟩ trivial ?_
  refine RunW_nil ?_
  refine AW2_seq ?_
  refine AW2_reg [0, 1, 2, 3, 4, 5, 6, 7, 8, 9] rfl ?_
  refine r_op rfl rfl (PureD.opD (p_move rfl rfl)) ?_
  refine r_op rfl rfl (PureD.opD (p_move rfl rfl)) ?_
  refine r_op rfl rfl (PureD.opD (p_move rfl rfl)) ?_
  refine r_op rfl rfl (PureD.opD (p_move rfl rfl)) ?_
  refine bindK H fun r'2 h2 H => ?_
  refine r_op rfl rfl (PureD.opD (p_callp rfl rfl rfl Tryd.func23 rfl rfl (g_ref_SaltOf_ac h2) ⟨rfl, rfl, rfl, rfl, trivial⟩)) ?_
  refine r_op rfl rfl (PureD.opD (p_move rfl rfl)) ?_
  refine r_op rfl rfl (PureD.opD (p_ext rfl rfl rfl rfl)) ?_
  refine r_op rfl rfl (PureD.opD (p_ext rfl rfl rfl rfl)) ?_
  refine r_op rfl rfl (PureD.opD (p_asg rfl rfl)) ?_
  refine r_op rfl rfl (PureD.opD (p_asg rfl rfl)) ?_
  refine RunW_st [(9, .c (.p (AV.bytes r'1.1))), (10, .c (.p (AV.int r'1.2))), (11, .c (.p (AV.bytes r'2.1))), (12, .c (.p (AV.int r'2.2)))] [] rfl ⟨TLes.same _, TLes.same _, TLes.same _, TLes.same _, trivial⟩ trivial ?_
  refine RunW_nil ?_
  refine AW2_seq ?_
  refine bindK H fun g'5 h6 H => ?_
  refine AW2_mid (⟨[(8, .c (.p (AV.bool g'5)))], [], 37⟩ : TS) ?_ ?_
  · clear H
    have H := h6
    clear h6
    refine AW2_reg [0, 1, 2, 3, 4, 5, 6, 7, 8] rfl ?_
    refine r_op rfl rfl (PureD.opD (p_move rfl rfl)) ?_
    refine r_op rfl rfl (PureD.opD (p_move rfl rfl)) ?_
    refine r_op rfl rfl (PureD.opD (p_ieq rfl rfl rfl)) ?_
    refine r_op rfl rfl (PureD.opD (p_move rfl rfl)) ?_
    refine (Classical.em (r'1.2 = r'2.2)).elim (fun h4 => ?_) (fun h4 => ?_)
    · replace H := ite_then h4 H
      refine r_on rfl rfl rfl rfl (decide_eq_true (p := r'1.2 = r'2.2) h4) rfl (PureD.opD (p_move rfl rfl)) ?_
      refine r_on rfl rfl rfl rfl (decide_eq_true (p := r'1.2 = r'2.2) h4) rfl (PureD.opD (p_move rfl rfl)) ?_
      refine bindK H fun r'4 h5 H => ?_
      refine r_on rfl rfl rfl rfl (decide_eq_true (p := r'1.2 = r'2.2) h4) rfl (PureD.opD (p_callp rfl rfl rfl Tryd.func24 rfl rfl (g_law_sameBytes_ac h5) ⟨rfl, rfl, trivial⟩)) ?_
      refine r_op rfl rfl (PureD.opD (p_pkt rfl rfl (decide_eq_true (p := r'1.2 = r'2.2) h4) (.same _))) ?_
      refine r_op rfl rfl (PureD.opD (p_asg rfl rfl)) ?_
      refine RunW_st [(8, .c (.p (AV.bool r'4)))] [] rfl ⟨TLes.same _, trivial⟩ trivial ?_
      have hz := some_elim H
      subst hz
      exact RunW_nil rfl
    · replace H := ite_else h4 H
      refine r_off rfl rfl rfl rfl (decide_eq_false (p := r'1.2 = r'2.2) h4) rfl rfl ?_
      refine r_off rfl rfl rfl rfl (decide_eq_false (p := r'1.2 = r'2.2) h4) rfl rfl ?_
      refine r_off rfl rfl rfl rfl (decide_eq_false (p := r'1.2 = r'2.2) h4) rfl rfl ?_
      refine r_op rfl rfl (PureD.opD (p_pkf rfl rfl (decide_eq_false (p := r'1.2 = r'2.2) h4) (.same _))) ?_
      refine r_op rfl rfl (PureD.opD (p_asg rfl rfl)) ?_
      refine RunW_st [(8, .c (.p (AV.bool false)))] [] rfl ⟨TLes.same _, trivial⟩ trivial ?_
      have hz := some_elim H
      subst hz
      exact RunW_nil rfl
  · refine AW2_ret ?_
    have hz := some_elim H
    subst hz
    exact ⟨⟨res_tmp (.same _), trivial⟩, trivial⟩

/-! oracle.Frame -/
noncomputable def g_oracle_Frame_l0 (parts1 : List (List UInt8)) : Int × Int → Option ((Int × Int) ⊕ (((List UInt8) × Int) ⊕ Int))
  | (all6_0, t20_0) => (if t20_0 < (parts1.length : Int) then if 0 ≤ t20_0 ∧ t20_0 < (parts1.length : Int) then (if ((lrd parts1 t20_0.toNat).length : Int) > (16777216 : Int) then some (.inr (.inl ([], (1 : Int)))) else letO (w64 (all6_0 + (w64 ((4 : Int) + ((lrd parts1 t20_0.toNat).length : Int))))) fun all6'1 => some (.inl (all6'1, w64 (t20_0 + (1 : Int))))) else none else some (.inr (.inr all6_0)))
noncomputable def g_oracle_Frame (tag0 : Int) (parts1 : List (List UInt8)) : Option ((List UInt8) × Int) :=
  (if (tag0 < (1 : Int)) ∨ (tag0 > (9 : Int)) then some ([], (6 : Int)) else (if (parts1.length : Int) > (8 : Int) then some ([], (1 : Int)) else (loopO (g_oracle_Frame_l0 parts1) ((2 : Int), (0 : Int))).bind fun o'5 => match o'5 with | .inl y'6 => some y'6 | .inr (y'7) => (if y'7 > (16777216 : Int) then some ([], (1 : Int)) else (g_oracle_frame tag0 parts1).bind fun r'8 => some (r'8, (0 : Int)))))
set_option maxHeartbeats 4000000 in
set_option maxRecDepth 100000 in
theorem g_oracle_Frame_ac {tag0 : Int} {parts1 : List (List UInt8)} {r : (List UInt8) × Int} (H : g_oracle_Frame tag0 parts1 = some r) : ACp Tryd.prog 47 [(AV.int tag0), (AV.lists parts1)] (.tup [(AV.bytes r.1), (AV.int r.2)]) := by
  refine ACp_of (AC2_of_body (vs := [.c (.p (AV.bytes r.1)), .c (.p (AV.int r.2))]) Tryd.func47 rfl rfl (Nat.le_of_ble_eq_true rfl) rfl ?_) (fun _ => .same _)
  unfold g_oracle_Frame at H
  refine AW2_st [(0, .c (.p (AV.int tag0))), (1, .c (.p (AV.lists parts1)))] [] rfl ⟨TLes.same _, TLes.same _, trivial⟩ trivial ?_
  refine AW2_seq ?_
  refine AW2_reg [0, 1] rfl ?_
  refine r_op rfl rfl (PureD.opD (p_asgn rfl)) ?_
  refine r_op rfl rfl (PureD.opD (p_asg rfl rfl)) ?_
  refine RunW_st [(0, .c (.p (AV.int tag0))), (1, .c (.p (AV.lists parts1)))] [] rfl ⟨TLes.same _, TLes.same _, trivial⟩ trivial ?_
  refine RunW_nil ?_
  refine AW2_seq ?_
  refine AW2_seq ?_
  refine AW2_mid (⟨[(0, .c (.p (AV.int tag0))), (1, .c (.p (AV.lists parts1))), (14, .c (.p (.bool (decide ((tag0 < (1 : Int)) ∨ (tag0 > (9 : Int)))))))], [], 38⟩ : TS) ?_ ?_
  · refine AW2_reg [0, 1, 2, 3, 4, 5] rfl ?_
    refine r_op rfl rfl (PureD.opD (p_move rfl rfl)) ?_
    refine r_op rfl rfl (PureD.opD (p_bin rfl rfl rfl rfl)) ?_
    refine r_op rfl rfl (PureD.opD (p_move rfl rfl)) ?_
    refine (Classical.em (tag0 < (1 : Int))).elim (fun h1 => ?_) (fun h1 => ?_)
    · refine r_off rfl rfl rfl rfl (decide_eq_true (p := tag0 < (1 : Int)) h1) rfl rfl ?_
      refine r_off rfl rfl rfl rfl (decide_eq_true (p := tag0 < (1 : Int)) h1) rfl rfl ?_
      refine r_op rfl rfl (PureD.opD (p_pkt rfl rfl (decide_eq_true (p := tag0 < (1 : Int)) h1) (tb (decide_eq_true (p := (tag0 < (1 : Int)) ∨ (tag0 > (9 : Int))) (Or.inl h1)).symm))) ?_
      refine RunW_st [(0, .c (.p (AV.int tag0))), (1, .c (.p (AV.lists parts1))), (14, .c (.p (.bool (decide ((tag0 < (1 : Int)) ∨ (tag0 > (9 : Int)))))))] [] rfl ⟨TLes.same _, TLes.same _, TLes.same _, trivial⟩ trivial ?_
      exact RunW_nil rfl
    · refine r_on rfl rfl rfl rfl (decide_eq_false (p := tag0 < (1 : Int)) h1) rfl (PureD.opD (p_move rfl rfl)) ?_
      refine r_on rfl rfl rfl rfl (decide_eq_false (p := tag0 < (1 : Int)) h1) rfl (PureD.opD (p_bin rfl rfl rfl rfl)) ?_
      refine r_op rfl rfl (PureD.opD (p_pkf rfl rfl (decide_eq_false (p := tag0 < (1 : Int)) h1) (tb ((or_l (p := tag0 < (1 : Int)) (q := tag0 > (9 : Int)) h1))))) ?_
      refine RunW_st [(0, .c (.p (AV.int tag0))), (1, .c (.p (AV.lists parts1))), (14, .c (.p (.bool (decide ((tag0 < (1 : Int)) ∨ (tag0 > (9 : Int)))))))] [] rfl ⟨TLes.same _, TLes.same _, TLes.same _, trivial⟩ trivial ?_
      exact RunW_nil rfl
  · refine AW2_if (p := (tag0 < (1 : Int)) ∨ (tag0 > (9 : Int))) rfl (fun h2 => ?_) (fun h2 => ?_)
    · replace H := ite_then h2 H
      refine AW2_seq ?_
      refine AW2_reg [0, 1] rfl ?_
      refine r_op rfl rfl (PureD.opD (p_asgn rfl)) ?_
      refine r_op rfl rfl (PureD.opD (p_asg rfl rfl)) ?_
      refine RunW_st [(4, .c (.p .nil)), (5, .c (.p (AV.int (6 : Int))))] [] rfl ⟨TLes.same _, TLes.same _, trivial⟩ trivial ?_
      refine RunW_nil ?_
      refine AW2_ret ?_
      have hz := some_elim H
      subst hz
      exact ⟨⟨res_tmp TLes.nil0, res_tmp (.same _), trivial⟩, trivial⟩
    · replace H := ite_else h2 H
      refine AW2_st [(0, .c (.p (AV.int tag0))), (1, .c (.p (AV.lists parts1)))] [] rfl ⟨TLes.same _, TLes.same _, trivial⟩ trivial ?_
      refine AW2_skip ?_
      refine AW2_seq ?_
      refine AW2_seq ?_
      refine AW2_reg [0, 1, 2] rfl ?_
      refine r_op rfl rfl (PureD.opD (p_move rfl rfl)) ?_
      refine r_op rfl rfl (PureD.opD (p_lenl rfl Tryd.underlying44 rfl rfl)) ?_
      refine r_op rfl rfl (PureD.opD (p_bin rfl rfl rfl rfl)) ?_
      refine RunW_st [(0, .c (.p (AV.int tag0))), (1, .c (.p (AV.lists parts1))), (17, .c (.p (.bool (decide ((parts1.length : Int) > (8 : Int))))))] [] rfl ⟨TLes.same _, TLes.same _, TLes.same _, trivial⟩ trivial ?_
      refine RunW_nil ?_
      refine AW2_if (p := (parts1.length : Int) > (8 : Int)) rfl (fun h3 => ?_) (fun h3 => ?_)
      · replace H := ite_then h3 H
        refine AW2_seq ?_
        refine AW2_reg [0, 1] rfl ?_
        refine r_op rfl rfl (PureD.opD (p_asgn rfl)) ?_
        refine r_op rfl rfl (PureD.opD (p_asg rfl rfl)) ?_
        refine RunW_st [(4, .c (.p .nil)), (5, .c (.p (AV.int (1 : Int))))] [] rfl ⟨TLes.same _, TLes.same _, trivial⟩ trivial ?_
        refine RunW_nil ?_
        refine AW2_ret ?_
        have hz := some_elim H
        subst hz
        exact ⟨⟨res_tmp TLes.nil0, res_tmp (.same _), trivial⟩, trivial⟩
      · replace H := ite_else h3 H
        refine AW2_st [(0, .c (.p (AV.int tag0))), (1, .c (.p (AV.lists parts1)))] [] rfl ⟨TLes.same _, TLes.same _, trivial⟩ trivial ?_
        refine AW2_skip ?_
        refine AW2_seq ?_
        refine AW2_reg [0] rfl ?_
        refine r_op rfl rfl (PureD.opD (p_asg rfl rfl)) ?_
        refine RunW_st [(0, .c (.p (AV.int tag0))), (1, .c (.p (AV.lists parts1))), (6, .c (.p (AV.int (2 : Int))))] [] rfl ⟨TLes.same _, TLes.same _, TLes.same _, trivial⟩ trivial ?_
        refine RunW_nil ?_
        refine AW2_seq ?_
        refine AW2_seq ?_
        refine AW2_reg [0, 1, 2] rfl ?_
        refine r_op rfl rfl (PureD.opD (p_move rfl rfl)) ?_
        refine r_op rfl rfl (PureD.opD (p_lenl rfl Tryd.underlying44 rfl rfl)) ?_
        refine r_op rfl rfl (PureD.opD (p_move rfl rfl)) ?_
        refine RunW_st [(0, .c (.p (AV.int tag0))), (1, .c (.p (AV.lists parts1))), (6, .c (.p (AV.int (2 : Int)))), (18, .c (.p (AV.lists parts1))), (19, .c (.p (AV.int (parts1.length : Int)))), (20, .c (.p (AV.int (0 : Int))))] [] rfl ⟨TLes.same _, TLes.same _, TLes.same _, TLes.same _, TLes.same _, TLes.same _, trivial⟩ trivial ?_
        refine RunW_nil ?_
        refine AW2_block ?_
        refine AW2_st [(0, .c (.p (AV.int tag0))), (1, .c (.p (AV.lists parts1))), (6, .c (.p (AV.int (2 : Int)))), (18, .c (.p (AV.lists parts1))), (19, .c (.p (AV.int (parts1.length : Int)))), (20, .c (.p (AV.int (0 : Int))))] [] rfl ⟨TLes.same _, TLes.same _, TLes.same _, TLes.same _, TLes.same _, TLes.same _, trivial⟩ trivial ?_
        refine bindK H fun o'5 h7 H => ?_
        refine AW2_loopO (fun a'2 : Int × Int => (⟨[(0, .c (.p (AV.int tag0))), (1, .c (.p (AV.lists parts1))), (6, .c (.p (AV.int a'2.1))), (18, .c (.p (AV.lists parts1))), (19, .c (.p (AV.int (parts1.length : Int)))), (20, .c (.p (AV.int a'2.2)))], [], 38⟩ : TS)) (fun (o : ((List UInt8) × Int) ⊕ Int) e s' => match o with | .inl y'3 => e = Go.Exit.ret ∧ ResAll Tryd.prog s' [ResultVar.tmp 4, ResultVar.tmp 5] [.c (.p (AV.bytes y'3.1)), .c (.p (AV.int y'3.2))] ∧ HFits s' [] | .inr (y'4) => e = Go.Exit.exit 0 ∧ s' = (⟨[(0, .c (.p (AV.int tag0))), (1, .c (.p (AV.lists parts1))), (6, .c (.p (AV.int y'4)))], [], 38⟩ : TS)) h7 rfl (fun a x hx => ?_) (fun e s' hs => ?_)
        · clear H
          obtain ⟨all6_0, t20_0⟩ := a
          have H := hx
          clear hx
          unfold g_oracle_Frame_l0 at H
          refine AW2_seq ?_
          refine AW2_reg [0] rfl ?_
          refine r_op rfl rfl (PureD.opD (p_bin rfl rfl rfl rfl)) ?_
          refine RunW_st [(0, .c (.p (AV.int tag0))), (1, .c (.p (AV.lists parts1))), (6, .c (.p (AV.int all6_0))), (18, .c (.p (AV.lists parts1))), (19, .c (.p (AV.int (parts1.length : Int)))), (20, .c (.p (AV.int t20_0))), (21, .c (.p (.bool (decide (t20_0 < (parts1.length : Int))))))] [] rfl ⟨TLes.same _, TLes.same _, TLes.same _, TLes.same _, TLes.same _, TLes.same _, TLes.same _, trivial⟩ trivial ?_
          refine RunW_nil ?_
          refine AW2_seq ?_
          refine AW2_if (p := t20_0 < (parts1.length : Int)) rfl (fun h4 => ?_) (fun h4 => ?_)
          · replace H := ite_then h4 H
            refine AW2_st [(0, .c (.p (AV.int tag0))), (1, .c (.p (AV.lists parts1))), (6, .c (.p (AV.int all6_0))), (18, .c (.p (AV.lists parts1))), (19, .c (.p (AV.int (parts1.length : Int)))), (20, .c (.p (AV.int t20_0)))] [] rfl ⟨TLes.same _, TLes.same _, TLes.same _, TLes.same _, TLes.same _, TLes.same _, trivial⟩ trivial ?_
            refine AW2_skip ?_
            refine AW2_seq ?_
            refine AW2_block ?_
            refine AW2_seq ?_
            refine AW2_reg [0, 1, 2] rfl ?_
            refine chkK H fun h5 H => ?_
            refine r_op rfl rfl (PureD.opD (u_ixl rfl rfl Tryd.underlying44 in_22 rfl rfl (ixe h5) (ixn h5) (lne (ixn h5)))) ?_
            refine r_op rfl rfl (PureD.opD (u_ld rfl rfl Tryd.underlying22 rfl rfl (Sub.map default (ixn h5)))) ?_
            refine r_op rfl rfl (PureD.opD (p_asg rfl rfl)) ?_
            refine RunW_st [(0, .c (.p (AV.int tag0))), (1, .c (.p (AV.lists parts1))), (6, .c (.p (AV.int all6_0))), (8, .c (.p (AV.bytes (lrd parts1 t20_0.toNat)))), (18, .c (.p (AV.lists parts1))), (19, .c (.p (AV.int (parts1.length : Int)))), (20, .c (.p (AV.int t20_0)))] [] rfl ⟨TLes.same _, TLes.same _, TLes.same _, TLes.same _, TLes.same _, TLes.same _, TLes.same _, trivial⟩ trivial ?_
            refine RunW_nil ?_
            refine AW2_seq ?_
            refine AW2_seq ?_
            refine AW2_reg [0, 1, 2] rfl ?_
            refine r_op rfl rfl (PureD.opD (p_move rfl rfl)) ?_
            refine r_op rfl rfl (PureD.opD (p_lenl rfl Tryd.underlying22 rfl rfl)) ?_
            refine r_op rfl rfl (PureD.opD (p_bin rfl rfl rfl rfl)) ?_
            refine RunW_st [(0, .c (.p (AV.int tag0))), (1, .c (.p (AV.lists parts1))), (6, .c (.p (AV.int all6_0))), (8, .c (.p (AV.bytes (lrd parts1 t20_0.toNat)))), (18, .c (.p (AV.lists parts1))), (19, .c (.p (AV.int (parts1.length : Int)))), (20, .c (.p (AV.int t20_0))), (26, .c (.p (.bool (decide (((lrd parts1 t20_0.toNat).length : Int) > (16777216 : Int))))))] [] rfl ⟨TLes.same _, TLes.same _, TLes.same _, TLes.same _, TLes.same _, TLes.same _, TLes.same _, TLes.same _, trivial⟩ trivial ?_
            refine RunW_nil ?_
            refine AW2_if (p := ((lrd parts1 t20_0.toNat).length : Int) > (16777216 : Int)) rfl (fun h6 => ?_) (fun h6 => ?_)
            · replace H := ite_then h6 H
              refine AW2_seq ?_
              refine AW2_reg [0, 1] rfl ?_
              refine r_op rfl rfl (PureD.opD (p_asgn rfl)) ?_
              refine r_op rfl rfl (PureD.opD (p_asg rfl rfl)) ?_
              refine RunW_st [(4, .c (.p .nil)), (5, .c (.p (AV.int (1 : Int))))] [] rfl ⟨TLes.same _, TLes.same _, trivial⟩ trivial ?_
              refine RunW_nil ?_
              refine AW2_ret ?_
              have hz := some_elim H
              subst hz
              exact ⟨rfl, ⟨res_tmp TLes.nil0, res_tmp (.same _), trivial⟩, trivial⟩
            · replace H := ite_else h6 H
              refine AW2_st [(0, .c (.p (AV.int tag0))), (1, .c (.p (AV.lists parts1))), (6, .c (.p (AV.int all6_0))), (8, .c (.p (AV.bytes (lrd parts1 t20_0.toNat)))), (18, .c (.p (AV.lists parts1))), (19, .c (.p (AV.int (parts1.length : Int)))), (20, .c (.p (AV.int t20_0)))] [] rfl ⟨TLes.same _, TLes.same _, TLes.same _, TLes.same _, TLes.same _, TLes.same _, TLes.same _, trivial⟩ trivial ?_
              refine AW2_skip ?_
              refine AW2_reg [0, 1, 2, 3, 4, 5] rfl ?_
              refine r_op rfl rfl (PureD.opD (p_move rfl rfl)) ?_
              refine r_op rfl rfl (PureD.opD (p_move rfl rfl)) ?_
              refine r_op rfl rfl (PureD.opD (p_lenl rfl Tryd.underlying22 rfl rfl)) ?_
              refine r_op rfl rfl (PureD.opD (p_bin rfl rfl rfl rfl)) ?_
              refine r_op rfl rfl (PureD.opD (p_bin rfl rfl rfl rfl)) ?_
              refine r_op rfl rfl (PureD.opD (p_asg rfl rfl)) ?_
              refine RunW_st [(0, .c (.p (AV.int tag0))), (1, .c (.p (AV.lists parts1))), (6, .c (.p (AV.int (w64 (all6_0 + (w64 ((4 : Int) + ((lrd parts1 t20_0.toNat).length : Int)))))))), (18, .c (.p (AV.lists parts1))), (19, .c (.p (AV.int (parts1.length : Int)))), (20, .c (.p (AV.int t20_0)))] [] rfl ⟨TLes.same _, TLes.same _, TLes.same _, TLes.same _, TLes.same _, TLes.same _, trivial⟩ trivial ?_
              refine RunW_nil ?_
              refine gen1 (fun all6'1 => (⟨[(0, .c (.p (AV.int tag0))), (1, .c (.p (AV.lists parts1))), (6, .c (.p (AV.int all6'1))), (18, .c (.p (AV.lists parts1))), (19, .c (.p (AV.int (parts1.length : Int)))), (20, .c (.p (AV.int t20_0)))], [], 38⟩ : TS)) H ?_
              intro all6'1 H
              refine AW2_reg [0, 1] rfl ?_
              refine r_op rfl rfl (PureD.opD (p_bin rfl rfl rfl rfl)) ?_
              refine r_op rfl rfl (PureD.opD (p_move rfl rfl)) ?_
              refine RunW_st [(0, .c (.p (AV.int tag0))), (1, .c (.p (AV.lists parts1))), (6, .c (.p (AV.int all6'1))), (18, .c (.p (AV.lists parts1))), (19, .c (.p (AV.int (parts1.length : Int)))), (20, .c (.p (AV.int (w64 (t20_0 + (1 : Int))))))] [] rfl ⟨TLes.same _, TLes.same _, TLes.same _, TLes.same _, TLes.same _, TLes.same _, trivial⟩ trivial ?_
              refine RunW_nil ?_
              have hz := some_elim H
              subst hz
              exact ⟨rfl, rfl⟩
          · replace H := ite_else h4 H
            refine AW2_st [(0, .c (.p (AV.int tag0))), (1, .c (.p (AV.lists parts1))), (6, .c (.p (AV.int all6_0)))] [] rfl ⟨TLes.same _, TLes.same _, TLes.same _, trivial⟩ trivial ?_
            refine AW2_exit ?_
            refine thenQ2_exit ?_
            have hz := some_elim H
            subst hz
            exact ⟨rfl, rfl⟩
        · rcases o'5 with y'6 | y'7
          · obtain ⟨rfl, hs⟩ := hs
            refine ⟨by simp, ?_⟩
            have hz := some_elim H
            subst hz
            exact ⟨hs.1, hs.2⟩
          · obtain ⟨rfl, rfl⟩ := hs
            refine ⟨by simp, ?_⟩
            refine blockQ2_exit ?_
            refine AW2_seq ?_
            refine AW2_seq ?_
            refine AW2_reg [0, 1] rfl ?_
            refine r_op rfl rfl (PureD.opD (p_move rfl rfl)) ?_
            refine r_op rfl rfl (PureD.opD (p_bin rfl rfl rfl rfl)) ?_
            refine RunW_st [(0, .c (.p (AV.int tag0))), (1, .c (.p (AV.lists parts1))), (34, .c (.p (.bool (decide (y'7 > (16777216 : Int))))))] [] rfl ⟨TLes.same _, TLes.same _, TLes.same _, trivial⟩ trivial ?_
            refine RunW_nil ?_
            refine AW2_if (p := y'7 > (16777216 : Int)) rfl (fun h8 => ?_) (fun h8 => ?_)
            · replace H := ite_then h8 H
              refine AW2_seq ?_
              refine AW2_reg [0, 1] rfl ?_
              refine r_op rfl rfl (PureD.opD (p_asgn rfl)) ?_
              refine r_op rfl rfl (PureD.opD (p_asg rfl rfl)) ?_
              refine RunW_st [(4, .c (.p .nil)), (5, .c (.p (AV.int (1 : Int))))] [] rfl ⟨TLes.same _, TLes.same _, trivial⟩ trivial ?_
              refine RunW_nil ?_
              refine AW2_ret ?_
              have hz := some_elim H
              subst hz
              exact ⟨⟨res_tmp TLes.nil0, res_tmp (.same _), trivial⟩, trivial⟩
            · replace H := ite_else h8 H
              refine AW2_st [(0, .c (.p (AV.int tag0))), (1, .c (.p (AV.lists parts1)))] [] rfl ⟨TLes.same _, TLes.same _, trivial⟩ trivial ?_
              refine AW2_skip ?_
              refine AW2_seq ?_
              refine AW2_reg [0, 1, 2, 3, 4] rfl ?_
              refine r_op rfl rfl (PureD.opD (p_move rfl rfl)) ?_
              refine r_op rfl rfl (PureD.opD (p_move rfl rfl)) ?_
              refine bindK H fun r'8 h9 H => ?_
              refine r_op rfl rfl (PureD.opD (p_callp rfl rfl rfl Tryd.func42 rfl rfl (g_oracle_frame_ac h9) ⟨rfl, rfl, trivial⟩)) ?_
              refine r_op rfl rfl (PureD.opD (p_asg rfl rfl)) ?_
              refine r_op rfl rfl (PureD.opD (p_asg rfl rfl)) ?_
              refine RunW_st [(4, .c (.p (AV.bytes r'8))), (5, .c (.p (AV.int (0 : Int))))] [] rfl ⟨TLes.same _, TLes.same _, trivial⟩ trivial ?_
              refine RunW_nil ?_
              refine AW2_ret ?_
              have hz := some_elim H
              subst hz
              exact ⟨⟨res_tmp (.same _), res_tmp (.same _), trivial⟩, trivial⟩

/-! oracle.Digest -/
noncomputable def g_oracle_Digest (mode0 : Int) (tag1 : Int) (parts2 : List (List UInt8)) : Option ((List UInt8) × Int) :=
  (if (mode0 ≠ (1 : Int)) ∧ (mode0 ≠ (2 : Int)) then some ([], (2 : Int)) else (g_oracle_Frame tag1 parts2).bind fun r'1 => (if (r'1.2 ≠ (0 : Int)) ∨ (mode0 = (2 : Int)) then some (r'1.1, r'1.2) else (g_sum_Sum r'1.1).bind fun r'2 => if room (([] : List UInt8).length + r'2.toList.length) 1 then some (([] : List UInt8) ++ r'2.toList, (0 : Int)) else none))
set_option maxHeartbeats 4000000 in
set_option maxRecDepth 100000 in
theorem g_oracle_Digest_ac {mode0 : Int} {tag1 : Int} {parts2 : List (List UInt8)} {r : (List UInt8) × Int} (H : g_oracle_Digest mode0 tag1 parts2 = some r) : ACp Tryd.prog 25 [(AV.int mode0), (AV.int tag1), (AV.lists parts2)] (.tup [(AV.bytes r.1), (AV.int r.2)]) := by
  refine ACp_of (AC2_of_body (vs := [.c (.p (AV.bytes r.1)), .c (.p (AV.int r.2))]) Tryd.func25 rfl rfl (Nat.le_of_ble_eq_true rfl) rfl ?_) (fun _ => .same _)
  unfold g_oracle_Digest at H
  refine AW2_st [(0, .c (.p (AV.int mode0))), (1, .c (.p (AV.int tag1))), (2, .c (.p (AV.lists parts2)))] [] rfl ⟨TLes.same _, TLes.same _, TLes.same _, trivial⟩ trivial ?_
  refine AW2_seq ?_
  refine AW2_reg [0, 1] rfl ?_
  refine r_op rfl rfl (PureD.opD (p_asgn rfl)) ?_
  refine r_op rfl rfl (PureD.opD (p_asg rfl rfl)) ?_
  refine RunW_st [(0, .c (.p (AV.int mode0))), (1, .c (.p (AV.int tag1))), (2, .c (.p (AV.lists parts2)))] [] rfl ⟨TLes.same _, TLes.same _, TLes.same _, trivial⟩ trivial ?_
  refine RunW_nil ?_
  refine AW2_seq ?_
  refine AW2_seq ?_
  refine AW2_mid (⟨[(0, .c (.p (AV.int mode0))), (1, .c (.p (AV.int tag1))), (2, .c (.p (AV.lists parts2))), (16, .c (.p (.bool (decide ((mode0 ≠ (1 : Int)) ∧ (mode0 ≠ (2 : Int)))))))], [], 36⟩ : TS) ?_ ?_
  · refine AW2_reg [0, 1, 2, 3, 4, 5] rfl ?_
    refine r_op rfl rfl (PureD.opD (p_move rfl rfl)) ?_
    refine r_op rfl rfl (PureD.opD (p_ine rfl rfl rfl)) ?_
    refine r_op rfl rfl (PureD.opD (p_move rfl rfl)) ?_
    refine (Classical.em (mode0 ≠ (1 : Int))).elim (fun h1 => ?_) (fun h1 => ?_)
    · refine r_on rfl rfl rfl rfl (decide_eq_true (p := mode0 ≠ (1 : Int)) h1) rfl (PureD.opD (p_move rfl rfl)) ?_
      refine r_on rfl rfl rfl rfl (decide_eq_true (p := mode0 ≠ (1 : Int)) h1) rfl (PureD.opD (p_ine rfl rfl rfl)) ?_
      refine r_op rfl rfl (PureD.opD (p_pkt rfl rfl (decide_eq_true (p := mode0 ≠ (1 : Int)) h1) (tb ((and_l (p := mode0 ≠ (1 : Int)) (q := mode0 ≠ (2 : Int)) h1))))) ?_
      refine RunW_st [(0, .c (.p (AV.int mode0))), (1, .c (.p (AV.int tag1))), (2, .c (.p (AV.lists parts2))), (16, .c (.p (.bool (decide ((mode0 ≠ (1 : Int)) ∧ (mode0 ≠ (2 : Int)))))))] [] rfl ⟨TLes.same _, TLes.same _, TLes.same _, TLes.same _, trivial⟩ trivial ?_
      exact RunW_nil rfl
    · refine r_off rfl rfl rfl rfl (decide_eq_false (p := mode0 ≠ (1 : Int)) h1) rfl rfl ?_
      refine r_off rfl rfl rfl rfl (decide_eq_false (p := mode0 ≠ (1 : Int)) h1) rfl rfl ?_
      refine r_op rfl rfl (PureD.opD (p_pkf rfl rfl (decide_eq_false (p := mode0 ≠ (1 : Int)) h1) (tb (decide_eq_false (p := (mode0 ≠ (1 : Int)) ∧ (mode0 ≠ (2 : Int))) (fun x => h1 x.1)).symm))) ?_
      refine RunW_st [(0, .c (.p (AV.int mode0))), (1, .c (.p (AV.int tag1))), (2, .c (.p (AV.lists parts2))), (16, .c (.p (.bool (decide ((mode0 ≠ (1 : Int)) ∧ (mode0 ≠ (2 : Int)))))))] [] rfl ⟨TLes.same _, TLes.same _, TLes.same _, TLes.same _, trivial⟩ trivial ?_
      exact RunW_nil rfl
  · refine AW2_if (p := (mode0 ≠ (1 : Int)) ∧ (mode0 ≠ (2 : Int))) rfl (fun h2 => ?_) (fun h2 => ?_)
    · replace H := ite_then h2 H
      refine AW2_seq ?_
      refine AW2_reg [0, 1] rfl ?_
      refine r_op rfl rfl (PureD.opD (p_asgn rfl)) ?_
      refine r_op rfl rfl (PureD.opD (p_asg rfl rfl)) ?_
      refine RunW_st [(6, .c (.p .nil)), (7, .c (.p (AV.int (2 : Int))))] [] rfl ⟨TLes.same _, TLes.same _, trivial⟩ trivial ?_
      refine RunW_nil ?_
      refine AW2_ret ?_
      have hz := some_elim H
      subst hz
      exact ⟨⟨res_tmp TLes.nil0, res_tmp (.same _), trivial⟩, trivial⟩
    · replace H := ite_else h2 H
      refine AW2_st [(0, .c (.p (AV.int mode0))), (1, .c (.p (AV.int tag1))), (2, .c (.p (AV.lists parts2)))] [] rfl ⟨TLes.same _, TLes.same _, TLes.same _, trivial⟩ trivial ?_
      refine AW2_skip ?_
      refine AW2_seq ?_
      refine AW2_reg [0, 1, 2, 3, 4, 5, 6, 7] rfl ?_
      refine r_op rfl rfl (PureD.opD (p_move rfl rfl)) ?_
      refine r_op rfl rfl (PureD.opD (p_move rfl rfl)) ?_
      refine bindK H fun r'1 h3 H => ?_
      refine r_op rfl rfl (PureD.opD (p_callp rfl rfl rfl Tryd.func47 rfl rfl (g_oracle_Frame_ac h3) ⟨rfl, rfl, trivial⟩)) ?_
      refine r_op rfl rfl (PureD.opD (p_move rfl rfl)) ?_
      refine r_op rfl rfl (PureD.opD (p_ext rfl rfl rfl rfl)) ?_
      refine r_op rfl rfl (PureD.opD (p_ext rfl rfl rfl rfl)) ?_
      refine r_op rfl rfl (PureD.opD (p_asg rfl rfl)) ?_
      refine r_op rfl rfl (PureD.opD (p_asg rfl rfl)) ?_
      refine RunW_st [(0, .c (.p (AV.int mode0))), (8, .c (.p (AV.bytes r'1.1))), (9, .c (.p (AV.int r'1.2)))] [] rfl ⟨TLes.same _, TLes.same _, TLes.same _, trivial⟩ trivial ?_
      refine RunW_nil ?_
      refine AW2_seq ?_
      refine AW2_seq ?_
      refine AW2_mid (⟨[(8, .c (.p (AV.bytes r'1.1))), (9, .c (.p (AV.int r'1.2))), (28, .c (.p (.bool (decide ((r'1.2 ≠ (0 : Int)) ∨ (mode0 = (2 : Int)))))))], [], 36⟩ : TS) ?_ ?_
      · refine AW2_reg [0, 1, 2, 3, 4, 5] rfl ?_
        refine r_op rfl rfl (PureD.opD (p_move rfl rfl)) ?_
        refine r_op rfl rfl (PureD.opD (p_ine rfl rfl rfl)) ?_
        refine r_op rfl rfl (PureD.opD (p_move rfl rfl)) ?_
        refine (Classical.em (r'1.2 ≠ (0 : Int))).elim (fun h4 => ?_) (fun h4 => ?_)
        · refine r_off rfl rfl rfl rfl (decide_eq_true (p := r'1.2 ≠ (0 : Int)) h4) rfl rfl ?_
          refine r_off rfl rfl rfl rfl (decide_eq_true (p := r'1.2 ≠ (0 : Int)) h4) rfl rfl ?_
          refine r_op rfl rfl (PureD.opD (p_pkt rfl rfl (decide_eq_true (p := r'1.2 ≠ (0 : Int)) h4) (tb (decide_eq_true (p := (r'1.2 ≠ (0 : Int)) ∨ (mode0 = (2 : Int))) (Or.inl h4)).symm))) ?_
          refine RunW_st [(8, .c (.p (AV.bytes r'1.1))), (9, .c (.p (AV.int r'1.2))), (28, .c (.p (.bool (decide ((r'1.2 ≠ (0 : Int)) ∨ (mode0 = (2 : Int)))))))] [] rfl ⟨TLes.same _, TLes.same _, TLes.same _, trivial⟩ trivial ?_
          exact RunW_nil rfl
        · refine r_on rfl rfl rfl rfl (decide_eq_false (p := r'1.2 ≠ (0 : Int)) h4) rfl (PureD.opD (p_move rfl rfl)) ?_
          refine r_on rfl rfl rfl rfl (decide_eq_false (p := r'1.2 ≠ (0 : Int)) h4) rfl (PureD.opD (p_ieq rfl rfl rfl)) ?_
          refine r_op rfl rfl (PureD.opD (p_pkf rfl rfl (decide_eq_false (p := r'1.2 ≠ (0 : Int)) h4) (tb ((or_l (p := r'1.2 ≠ (0 : Int)) (q := mode0 = (2 : Int)) h4))))) ?_
          refine RunW_st [(8, .c (.p (AV.bytes r'1.1))), (9, .c (.p (AV.int r'1.2))), (28, .c (.p (.bool (decide ((r'1.2 ≠ (0 : Int)) ∨ (mode0 = (2 : Int)))))))] [] rfl ⟨TLes.same _, TLes.same _, TLes.same _, trivial⟩ trivial ?_
          exact RunW_nil rfl
      · refine AW2_if (p := (r'1.2 ≠ (0 : Int)) ∨ (mode0 = (2 : Int))) rfl (fun h5 => ?_) (fun h5 => ?_)
        · replace H := ite_then h5 H
          refine AW2_seq ?_
          refine AW2_reg [0, 1, 2, 3] rfl ?_
          refine r_op rfl rfl (PureD.opD (p_move rfl rfl)) ?_
          refine r_op rfl rfl (PureD.opD (p_move rfl rfl)) ?_
          refine r_op rfl rfl (PureD.opD (p_asg rfl rfl)) ?_
          refine r_op rfl rfl (PureD.opD (p_asg rfl rfl)) ?_
          refine RunW_st [(6, .c (.p (AV.bytes r'1.1))), (7, .c (.p (AV.int r'1.2)))] [] rfl ⟨TLes.same _, TLes.same _, trivial⟩ trivial ?_
          refine RunW_nil ?_
          refine AW2_ret ?_
          have hz := some_elim H
          subst hz
          exact ⟨⟨res_tmp (.same _), res_tmp (.same _), trivial⟩, trivial⟩
        · replace H := ite_else h5 H
          refine AW2_st [(8, .c (.p (AV.bytes r'1.1)))] [] rfl ⟨TLes.same _, trivial⟩ trivial ?_
          refine AW2_skip ?_
          refine AW2_seq ?_
          refine AW2_reg [0, 1, 2, 3] rfl ?_
          refine r_op rfl rfl (PureD.opD (p_move rfl rfl)) ?_
          refine bindK H fun r'2 h6 H => ?_
          refine r_op rfl rfl (PureD.opD (p_callp rfl rfl rfl Tryd.func12 rfl rfl (g_sum_Sum_ac h6) ⟨rfl, trivial⟩)) ?_
          refine r_op rfl rfl (MakeD.opD (u_alloc 10 rfl in_23 one_23 zc_23) rfl rfl rfl rfl) ?_
          refine r_op rfl rfl (u_st rfl rfl rfl rfl rfl in_23 ((bcells_length _).trans (vlen r'2)) (ne_of_lt (n := 0) (Nat.lt_of_lt_of_eq (by decide) (Eq.symm ((bcells_length _).trans (vlen (Vector.replicate 32 (0 : UInt8))))))) (Upd.refl (((bcells_length _).trans (vlen r'2)).trans ((bcells_length _).trans (vlen (Vector.replicate 32 (0 : UInt8)))).symm))) ?_
          refine RunW_st [(10, .c (.ptr 10 (0)))] [(10, .pure (bcells r'2.toList))] rfl ⟨TLes.same _, trivial⟩ ⟨rfl, trivial⟩ ?_
          refine RunW_nil ?_
          refine AW2_seq ?_
          refine AW2_reg [0, 1, 2, 3, 4] rfl ?_
          refine r_op rfl rfl (MakeD.opD (n_bs0 33 rfl Tryd.underlying22 in_5) rfl rfl rfl rfl) ?_
          refine r_op rfl rfl (PureD.opD (u_cuta rfl rfl Tryd.underlying23 in_5 rfl rfl (ne_of_lt (n := 0) (Nat.lt_of_lt_of_eq (by decide) (Eq.symm ((bcells_length _).trans (vlen r'2))))) (Sub.refl _) (((bcells_length _).trans (vlen r'2)).trans (by decide)))) ?_
          refine chkK H fun h7 H => ?_
          refine r_op rfl rfl (u_app [33] rfl rfl rfl rfl Tryd.underlying22 Tryd.underlying22 in_5 rfl rfl rfl (bl ([] : List UInt8)) (by decide) (src_sll rfl rfl (ne_of_lt (n := 0) (Nat.lt_of_lt_of_eq (by decide) (Eq.symm ((bcells_length _).trans (vlen r'2))))) (Sub.refl _) (((bcells_length _).trans (vlen r'2)).trans (by decide)) (vlen _)) (bl r'2.toList) h7 (by decide) rfl rfl (bapp ([] : List UInt8) r'2.toList) (lapp ([] : List UInt8) r'2.toList)) ?_
          refine r_op rfl rfl (PureD.opD (p_asg rfl rfl)) ?_
          refine r_op rfl rfl (PureD.opD (p_asg rfl rfl)) ?_
          refine RunW_st [(6, .c (.own 33 (([] : List UInt8) ++ r'2.toList).length 1)), (7, .c (.p (AV.int (0 : Int))))] [(33, .pure (bcells (([] : List UInt8) ++ r'2.toList)))] rfl ⟨TLes.same _, TLes.same _, trivial⟩ ⟨rfl, trivial⟩ ?_
          refine RunW_gho (Gho_ren 33 6 rfl rfl rfl rfl rfl) ?_
          refine RunW_st [(6, .c (.own 6 (([] : List UInt8) ++ r'2.toList).length 1)), (7, .c (.p (AV.int (0 : Int))))] [(6, .pure (bcells (([] : List UInt8) ++ r'2.toList)))] rfl ⟨TLes.same _, TLes.same _, trivial⟩ ⟨rfl, trivial⟩ ?_
          refine RunW_nil ?_
          refine AW2_gho (Gho_pubs [6] ⟨rfl, trivial⟩ rfl (bl (([] : List UInt8) ++ r'2.toList)) (by decide)) ?_
          refine AW2_ret ?_
          have hz := some_elim H
          subst hz
          exact ⟨⟨res_tmp (.same _), res_tmp (.same _), trivial⟩, trivial⟩

/-! chirographref.FrameOf -/
noncomputable def g_ref_FrameOf_l0 (parts1 : List (List UInt8)) : Int × Int → Option ((Int × Int) ⊕ (((List UInt8) × Int) ⊕ Unit))
  | (room6_0, t24_0) => (if t24_0 < (parts1.length : Int) then if 0 ≤ t24_0 ∧ t24_0 < (parts1.length : Int) then (if ((lrd parts1 t24_0.toNat).length : Int) > room6_0 then some (.inr (.inl (([] : List UInt8), (1 : Int)))) else some (.inl (w64 (room6_0 - ((lrd parts1 t24_0.toNat).length : Int)), w64 (t24_0 + (1 : Int))))) else none else some (.inr (.inr ())))
noncomputable def g_ref_FrameOf (tag0 : Int) (parts1 : List (List UInt8)) : Option ((List UInt8) × Int) :=
  (if (tag0 < (1 : Int)) ∨ (tag0 > (9 : Int)) then some (([] : List UInt8), (6 : Int)) else (if (parts1.length : Int) > (8 : Int) then some (([] : List UInt8), (1 : Int)) else (loopO (g_ref_FrameOf_l0 parts1) (w64 ((16777214 : Int) - (w64 ((4 : Int) * (parts1.length : Int)))), (0 : Int))).bind fun o'4 => match o'4 with | .inl y'5 => some y'5 | .inr (y'6) => (g_ref_framed tag0 parts1).bind fun r'7 => some (r'7, (0 : Int))))
set_option maxHeartbeats 4000000 in
set_option maxRecDepth 100000 in
theorem g_ref_FrameOf_ac2 {tag0 : Int} {parts1 : List (List UInt8)} {r : (List UInt8) × Int} (H : g_ref_FrameOf tag0 parts1 = some r) : AC2 Tryd.prog 48 (pureT [(AV.int tag0), (AV.lists parts1)]) [] (retV [.c (.own 4 r.1.length 1), .c (.p (AV.int r.2))]) [(4, .pure (bcells r.1))] := by
  refine AC2_of_body (vs := [.c (.own 4 r.1.length 1), .c (.p (AV.int r.2))]) Tryd.func48 rfl rfl (Nat.le_of_ble_eq_true rfl) rfl ?_
  unfold g_ref_FrameOf at H
  refine AW2_st [(0, .c (.p (AV.int tag0))), (1, .c (.p (AV.lists parts1)))] [] rfl ⟨TLes.same _, TLes.same _, trivial⟩ trivial ?_
  refine AW2_seq ?_
  refine AW2_reg [0, 1] rfl ?_
  refine r_op rfl rfl (PureD.opD (p_asgn rfl)) ?_
  refine r_op rfl rfl (PureD.opD (p_asg rfl rfl)) ?_
  refine RunW_st [(0, .c (.p (AV.int tag0))), (1, .c (.p (AV.lists parts1)))] [] rfl ⟨TLes.same _, TLes.same _, trivial⟩ trivial ?_
  refine RunW_nil ?_
  refine AW2_seq ?_
  refine AW2_seq ?_
  refine AW2_mid (⟨[(0, .c (.p (AV.int tag0))), (1, .c (.p (AV.lists parts1))), (14, .c (.p (.bool (decide ((tag0 < (1 : Int)) ∨ (tag0 > (9 : Int)))))))], [], 41⟩ : TS) ?_ ?_
  · refine AW2_reg [0, 1, 2, 3, 4, 5] rfl ?_
    refine r_op rfl rfl (PureD.opD (p_move rfl rfl)) ?_
    refine r_op rfl rfl (PureD.opD (p_bin rfl rfl rfl rfl)) ?_
    refine r_op rfl rfl (PureD.opD (p_move rfl rfl)) ?_
    refine (Classical.em (tag0 < (1 : Int))).elim (fun h1 => ?_) (fun h1 => ?_)
    · refine r_off rfl rfl rfl rfl (decide_eq_true (p := tag0 < (1 : Int)) h1) rfl rfl ?_
      refine r_off rfl rfl rfl rfl (decide_eq_true (p := tag0 < (1 : Int)) h1) rfl rfl ?_
      refine r_op rfl rfl (PureD.opD (p_pkt rfl rfl (decide_eq_true (p := tag0 < (1 : Int)) h1) (tb (decide_eq_true (p := (tag0 < (1 : Int)) ∨ (tag0 > (9 : Int))) (Or.inl h1)).symm))) ?_
      refine RunW_st [(0, .c (.p (AV.int tag0))), (1, .c (.p (AV.lists parts1))), (14, .c (.p (.bool (decide ((tag0 < (1 : Int)) ∨ (tag0 > (9 : Int)))))))] [] rfl ⟨TLes.same _, TLes.same _, TLes.same _, trivial⟩ trivial ?_
      exact RunW_nil rfl
    · refine r_on rfl rfl rfl rfl (decide_eq_false (p := tag0 < (1 : Int)) h1) rfl (PureD.opD (p_move rfl rfl)) ?_
      refine r_on rfl rfl rfl rfl (decide_eq_false (p := tag0 < (1 : Int)) h1) rfl (PureD.opD (p_bin rfl rfl rfl rfl)) ?_
      refine r_op rfl rfl (PureD.opD (p_pkf rfl rfl (decide_eq_false (p := tag0 < (1 : Int)) h1) (tb ((or_l (p := tag0 < (1 : Int)) (q := tag0 > (9 : Int)) h1))))) ?_
      refine RunW_st [(0, .c (.p (AV.int tag0))), (1, .c (.p (AV.lists parts1))), (14, .c (.p (.bool (decide ((tag0 < (1 : Int)) ∨ (tag0 > (9 : Int)))))))] [] rfl ⟨TLes.same _, TLes.same _, TLes.same _, trivial⟩ trivial ?_
      exact RunW_nil rfl
  · refine AW2_if (p := (tag0 < (1 : Int)) ∨ (tag0 > (9 : Int))) rfl (fun h2 => ?_) (fun h2 => ?_)
    · replace H := ite_then h2 H
      refine AW2_seq ?_
      refine AW2_reg [0, 1] rfl ?_
      refine r_op rfl rfl (PureD.opD (p_asgn rfl)) ?_
      refine r_op rfl rfl (PureD.opD (p_asg rfl rfl)) ?_
      refine RunW_st [(4, .c (.p .nil)), (5, .c (.p (AV.int (6 : Int))))] [] rfl ⟨TLes.same _, TLes.same _, trivial⟩ trivial ?_
      refine RunW_nil ?_
      refine AW2_st [(4, .c (.p .nil)), (5, .c (.p (AV.int (6 : Int))))] [] rfl ⟨TLes.same _, TLes.same _, trivial⟩ trivial ?_
      refine AW2_gho (Gho_own (d := 4) (b := 4) (z := 1) rfl rfl rfl rfl) ?_
      refine AW2_st [(4, .c (.own 4 ([] : List UInt8).length 1)), (5, .c (.p (AV.int (6 : Int))))] [(4, .pure (bcells ([] : List UInt8)))] rfl ⟨TLes.own rfl, TLes.same _, trivial⟩ ⟨rfl, trivial⟩ ?_
      refine AW2_ret ?_
      have hz := some_elim H
      subst hz
      exact ⟨⟨res_tmp (.same _), res_tmp (.same _), trivial⟩, ⟨rfl, trivial⟩⟩
    · replace H := ite_else h2 H
      refine AW2_st [(0, .c (.p (AV.int tag0))), (1, .c (.p (AV.lists parts1)))] [] rfl ⟨TLes.same _, TLes.same _, trivial⟩ trivial ?_
      refine AW2_skip ?_
      refine AW2_seq ?_
      refine AW2_seq ?_
      refine AW2_reg [0, 1, 2] rfl ?_
      refine r_op rfl rfl (PureD.opD (p_move rfl rfl)) ?_
      refine r_op rfl rfl (PureD.opD (p_lenl rfl Tryd.underlying44 rfl rfl)) ?_
      refine r_op rfl rfl (PureD.opD (p_bin rfl rfl rfl rfl)) ?_
      refine RunW_st [(0, .c (.p (AV.int tag0))), (1, .c (.p (AV.lists parts1))), (17, .c (.p (.bool (decide ((parts1.length : Int) > (8 : Int))))))] [] rfl ⟨TLes.same _, TLes.same _, TLes.same _, trivial⟩ trivial ?_
      refine RunW_nil ?_
      refine AW2_if (p := (parts1.length : Int) > (8 : Int)) rfl (fun h3 => ?_) (fun h3 => ?_)
      · replace H := ite_then h3 H
        refine AW2_seq ?_
        refine AW2_reg [0, 1] rfl ?_
        refine r_op rfl rfl (PureD.opD (p_asgn rfl)) ?_
        refine r_op rfl rfl (PureD.opD (p_asg rfl rfl)) ?_
        refine RunW_st [(4, .c (.p .nil)), (5, .c (.p (AV.int (1 : Int))))] [] rfl ⟨TLes.same _, TLes.same _, trivial⟩ trivial ?_
        refine RunW_nil ?_
        refine AW2_st [(4, .c (.p .nil)), (5, .c (.p (AV.int (1 : Int))))] [] rfl ⟨TLes.same _, TLes.same _, trivial⟩ trivial ?_
        refine AW2_gho (Gho_own (d := 4) (b := 4) (z := 1) rfl rfl rfl rfl) ?_
        refine AW2_st [(4, .c (.own 4 ([] : List UInt8).length 1)), (5, .c (.p (AV.int (1 : Int))))] [(4, .pure (bcells ([] : List UInt8)))] rfl ⟨TLes.own rfl, TLes.same _, trivial⟩ ⟨rfl, trivial⟩ ?_
        refine AW2_ret ?_
        have hz := some_elim H
        subst hz
        exact ⟨⟨res_tmp (.same _), res_tmp (.same _), trivial⟩, ⟨rfl, trivial⟩⟩
      · replace H := ite_else h3 H
        refine AW2_st [(0, .c (.p (AV.int tag0))), (1, .c (.p (AV.lists parts1)))] [] rfl ⟨TLes.same _, TLes.same _, trivial⟩ trivial ?_
        refine AW2_skip ?_
        refine AW2_seq ?_
        refine AW2_reg [0, 1, 2, 3, 4] rfl ?_
        refine r_op rfl rfl (PureD.opD (p_move rfl rfl)) ?_
        refine r_op rfl rfl (PureD.opD (p_lenl rfl Tryd.underlying44 rfl rfl)) ?_
        refine r_op rfl rfl (PureD.opD (p_bin rfl rfl rfl rfl)) ?_
        refine r_op rfl rfl (PureD.opD (p_bin rfl rfl rfl rfl)) ?_
        refine r_op rfl rfl (PureD.opD (p_asg rfl rfl)) ?_
        refine RunW_st [(0, .c (.p (AV.int tag0))), (1, .c (.p (AV.lists parts1))), (6, .c (.p (AV.int (w64 ((16777214 : Int) - (w64 ((4 : Int) * (parts1.length : Int))))))))] [] rfl ⟨TLes.same _, TLes.same _, TLes.same _, trivial⟩ trivial ?_
        refine RunW_nil ?_
        refine AW2_seq ?_
        refine AW2_seq ?_
        refine AW2_reg [0, 1, 2] rfl ?_
        refine r_op rfl rfl (PureD.opD (p_move rfl rfl)) ?_
        refine r_op rfl rfl (PureD.opD (p_lenl rfl Tryd.underlying44 rfl rfl)) ?_
        refine r_op rfl rfl (PureD.opD (p_move rfl rfl)) ?_
        refine RunW_st [(0, .c (.p (AV.int tag0))), (1, .c (.p (AV.lists parts1))), (6, .c (.p (AV.int (w64 ((16777214 : Int) - (w64 ((4 : Int) * (parts1.length : Int)))))))), (22, .c (.p (AV.lists parts1))), (23, .c (.p (AV.int (parts1.length : Int)))), (24, .c (.p (AV.int (0 : Int))))] [] rfl ⟨TLes.same _, TLes.same _, TLes.same _, TLes.same _, TLes.same _, TLes.same _, trivial⟩ trivial ?_
        refine RunW_nil ?_
        refine AW2_block ?_
        refine AW2_st [(0, .c (.p (AV.int tag0))), (1, .c (.p (AV.lists parts1))), (6, .c (.p (AV.int (w64 ((16777214 : Int) - (w64 ((4 : Int) * (parts1.length : Int)))))))), (22, .c (.p (AV.lists parts1))), (23, .c (.p (AV.int (parts1.length : Int)))), (24, .c (.p (AV.int (0 : Int))))] [] rfl ⟨TLes.same _, TLes.same _, TLes.same _, TLes.same _, TLes.same _, TLes.same _, trivial⟩ trivial ?_
        refine bindK H fun o'4 h7 H => ?_
        refine AW2_loopO (fun a'1 : Int × Int => (⟨[(0, .c (.p (AV.int tag0))), (1, .c (.p (AV.lists parts1))), (6, .c (.p (AV.int a'1.1))), (22, .c (.p (AV.lists parts1))), (23, .c (.p (AV.int (parts1.length : Int)))), (24, .c (.p (AV.int a'1.2)))], [], 41⟩ : TS)) (fun (o : ((List UInt8) × Int) ⊕ Unit) e s' => match o with | .inl y'2 => e = Go.Exit.ret ∧ ResAll Tryd.prog s' [ResultVar.tmp 4, ResultVar.tmp 5] [.c (.own 4 y'2.1.length 1), .c (.p (AV.int y'2.2))] ∧ HFits s' [(4, .pure (bcells y'2.1))] | .inr (y'3) => e = Go.Exit.exit 0 ∧ s' = (⟨[(0, .c (.p (AV.int tag0))), (1, .c (.p (AV.lists parts1)))], [], 41⟩ : TS)) h7 rfl (fun a x hx => ?_) (fun e s' hs => ?_)
        · clear H
          obtain ⟨room6_0, t24_0⟩ := a
          have H := hx
          clear hx
          unfold g_ref_FrameOf_l0 at H
          refine AW2_seq ?_
          refine AW2_reg [0] rfl ?_
          refine r_op rfl rfl (PureD.opD (p_bin rfl rfl rfl rfl)) ?_
          refine RunW_st [(0, .c (.p (AV.int tag0))), (1, .c (.p (AV.lists parts1))), (6, .c (.p (AV.int room6_0))), (22, .c (.p (AV.lists parts1))), (23, .c (.p (AV.int (parts1.length : Int)))), (24, .c (.p (AV.int t24_0))), (25, .c (.p (.bool (decide (t24_0 < (parts1.length : Int))))))] [] rfl ⟨TLes.same _, TLes.same _, TLes.same _, TLes.same _, TLes.same _, TLes.same _, TLes.same _, trivial⟩ trivial ?_
          refine RunW_nil ?_
          refine AW2_seq ?_
          refine AW2_if (p := t24_0 < (parts1.length : Int)) rfl (fun h4 => ?_) (fun h4 => ?_)
          · replace H := ite_then h4 H
            refine AW2_st [(0, .c (.p (AV.int tag0))), (1, .c (.p (AV.lists parts1))), (6, .c (.p (AV.int room6_0))), (22, .c (.p (AV.lists parts1))), (23, .c (.p (AV.int (parts1.length : Int)))), (24, .c (.p (AV.int t24_0)))] [] rfl ⟨TLes.same _, TLes.same _, TLes.same _, TLes.same _, TLes.same _, TLes.same _, trivial⟩ trivial ?_
            refine AW2_skip ?_
            refine AW2_seq ?_
            refine AW2_block ?_
            refine AW2_seq ?_
            refine AW2_reg [0, 1, 2] rfl ?_
            refine chkK H fun h5 H => ?_
            refine r_op rfl rfl (PureD.opD (u_ixl rfl rfl Tryd.underlying44 in_22 rfl rfl (ixe h5) (ixn h5) (lne (ixn h5)))) ?_
            refine r_op rfl rfl (PureD.opD (u_ld rfl rfl Tryd.underlying22 rfl rfl (Sub.map default (ixn h5)))) ?_
            refine r_op rfl rfl (PureD.opD (p_asg rfl rfl)) ?_
            refine RunW_st [(0, .c (.p (AV.int tag0))), (1, .c (.p (AV.lists parts1))), (6, .c (.p (AV.int room6_0))), (8, .c (.p (AV.bytes (lrd parts1 t24_0.toNat)))), (22, .c (.p (AV.lists parts1))), (23, .c (.p (AV.int (parts1.length : Int)))), (24, .c (.p (AV.int t24_0)))] [] rfl ⟨TLes.same _, TLes.same _, TLes.same _, TLes.same _, TLes.same _, TLes.same _, TLes.same _, trivial⟩ trivial ?_
            refine RunW_nil ?_
            refine AW2_seq ?_
            refine AW2_seq ?_
            refine AW2_reg [0, 1, 2, 3] rfl ?_
            refine r_op rfl rfl (PureD.opD (p_move rfl rfl)) ?_
            refine r_op rfl rfl (PureD.opD (p_lenl rfl Tryd.underlying22 rfl rfl)) ?_
            refine r_op rfl rfl (PureD.opD (p_move rfl rfl)) ?_
            refine r_op rfl rfl (PureD.opD (p_bin rfl rfl rfl rfl)) ?_
            refine RunW_st [(0, .c (.p (AV.int tag0))), (1, .c (.p (AV.lists parts1))), (6, .c (.p (AV.int room6_0))), (8, .c (.p (AV.bytes (lrd parts1 t24_0.toNat)))), (22, .c (.p (AV.lists parts1))), (23, .c (.p (AV.int (parts1.length : Int)))), (24, .c (.p (AV.int t24_0))), (31, .c (.p (.bool (decide (((lrd parts1 t24_0.toNat).length : Int) > room6_0)))))] [] rfl ⟨TLes.same _, TLes.same _, TLes.same _, TLes.same _, TLes.same _, TLes.same _, TLes.same _, TLes.same _, trivial⟩ trivial ?_
            refine RunW_nil ?_
            refine AW2_if (p := ((lrd parts1 t24_0.toNat).length : Int) > room6_0) rfl (fun h6 => ?_) (fun h6 => ?_)
            · replace H := ite_then h6 H
              refine AW2_seq ?_
              refine AW2_reg [0, 1] rfl ?_
              refine r_op rfl rfl (PureD.opD (p_asgn rfl)) ?_
              refine r_op rfl rfl (PureD.opD (p_asg rfl rfl)) ?_
              refine RunW_st [(4, .c (.p .nil)), (5, .c (.p (AV.int (1 : Int))))] [] rfl ⟨TLes.same _, TLes.same _, trivial⟩ trivial ?_
              refine RunW_nil ?_
              refine AW2_st [(4, .c (.p .nil)), (5, .c (.p (AV.int (1 : Int))))] [] rfl ⟨TLes.same _, TLes.same _, trivial⟩ trivial ?_
              refine AW2_gho (Gho_own (d := 4) (b := 4) (z := 1) rfl rfl rfl rfl) ?_
              refine AW2_st [(4, .c (.own 4 ([] : List UInt8).length 1)), (5, .c (.p (AV.int (1 : Int))))] [(4, .pure (bcells ([] : List UInt8)))] rfl ⟨TLes.own rfl, TLes.same _, trivial⟩ ⟨rfl, trivial⟩ ?_
              refine AW2_ret ?_
              have hz := some_elim H
              subst hz
              exact ⟨rfl, ⟨res_tmp (.same _), res_tmp (.same _), trivial⟩, ⟨rfl, trivial⟩⟩
            · replace H := ite_else h6 H
              refine AW2_st [(0, .c (.p (AV.int tag0))), (1, .c (.p (AV.lists parts1))), (6, .c (.p (AV.int room6_0))), (8, .c (.p (AV.bytes (lrd parts1 t24_0.toNat)))), (22, .c (.p (AV.lists parts1))), (23, .c (.p (AV.int (parts1.length : Int)))), (24, .c (.p (AV.int t24_0)))] [] rfl ⟨TLes.same _, TLes.same _, TLes.same _, TLes.same _, TLes.same _, TLes.same _, TLes.same _, trivial⟩ trivial ?_
              refine AW2_skip ?_
              refine AW2_reg [0, 1, 2, 3, 4] rfl ?_
              refine r_op rfl rfl (PureD.opD (p_move rfl rfl)) ?_
              refine r_op rfl rfl (PureD.opD (p_move rfl rfl)) ?_
              refine r_op rfl rfl (PureD.opD (p_lenl rfl Tryd.underlying22 rfl rfl)) ?_
              refine r_op rfl rfl (PureD.opD (p_bin rfl rfl rfl rfl)) ?_
              refine r_op rfl rfl (PureD.opD (p_asg rfl rfl)) ?_
              refine RunW_st [(0, .c (.p (AV.int tag0))), (1, .c (.p (AV.lists parts1))), (6, .c (.p (AV.int (w64 (room6_0 - ((lrd parts1 t24_0.toNat).length : Int)))))), (22, .c (.p (AV.lists parts1))), (23, .c (.p (AV.int (parts1.length : Int)))), (24, .c (.p (AV.int t24_0)))] [] rfl ⟨TLes.same _, TLes.same _, TLes.same _, TLes.same _, TLes.same _, TLes.same _, trivial⟩ trivial ?_
              refine RunW_nil ?_
              refine AW2_reg [0, 1] rfl ?_
              refine r_op rfl rfl (PureD.opD (p_bin rfl rfl rfl rfl)) ?_
              refine r_op rfl rfl (PureD.opD (p_move rfl rfl)) ?_
              refine RunW_st [(0, .c (.p (AV.int tag0))), (1, .c (.p (AV.lists parts1))), (6, .c (.p (AV.int (w64 (room6_0 - ((lrd parts1 t24_0.toNat).length : Int)))))), (22, .c (.p (AV.lists parts1))), (23, .c (.p (AV.int (parts1.length : Int)))), (24, .c (.p (AV.int (w64 (t24_0 + (1 : Int))))))] [] rfl ⟨TLes.same _, TLes.same _, TLes.same _, TLes.same _, TLes.same _, TLes.same _, trivial⟩ trivial ?_
              refine RunW_nil ?_
              have hz := some_elim H
              subst hz
              exact ⟨rfl, rfl⟩
          · replace H := ite_else h4 H
            refine AW2_st [(0, .c (.p (AV.int tag0))), (1, .c (.p (AV.lists parts1)))] [] rfl ⟨TLes.same _, TLes.same _, trivial⟩ trivial ?_
            refine AW2_exit ?_
            refine thenQ2_exit ?_
            have hz := some_elim H
            subst hz
            exact ⟨rfl, rfl⟩
        · rcases o'4 with y'5 | y'6
          · obtain ⟨rfl, hs⟩ := hs
            refine ⟨by simp, ?_⟩
            have hz := some_elim H
            subst hz
            exact ⟨hs.1, hs.2⟩
          · obtain ⟨rfl, rfl⟩ := hs
            refine ⟨by simp, ?_⟩
            refine blockQ2_exit ?_
            refine AW2_seq ?_
            refine AW2_reg [0, 1, 2, 3, 4, 5] rfl ?_
            refine r_op rfl rfl (PureD.opD (p_move rfl rfl)) ?_
            refine r_op rfl rfl (PureD.opD (p_move rfl rfl)) ?_
            refine bindK H fun r'7 h8 H => ?_
            refine r_op rfl rfl (PureD.opD (p_callp rfl rfl rfl Tryd.func46 rfl rfl (g_ref_framed_ac h8) ⟨rfl, rfl, trivial⟩)) ?_
            refine r_op rfl rfl (MakeD.opD (n_sb 40 rfl Tryd.underlying9 Tryd.underlying22 Tryd.underlying5 rfl) rfl rfl rfl rfl) ?_
            refine r_op rfl rfl (PureD.opD (p_asg rfl rfl)) ?_
            refine r_op rfl rfl (PureD.opD (p_asg rfl rfl)) ?_
            refine RunW_st [(4, .c (.own 40 r'7.length 1)), (5, .c (.p (AV.int (0 : Int))))] [(40, .pure (bcells r'7))] rfl ⟨TLes.same _, TLes.same _, trivial⟩ ⟨rfl, trivial⟩ ?_
            refine RunW_gho (Gho_ren 40 4 rfl rfl rfl rfl rfl) ?_
            refine RunW_st [(4, .c (.own 4 r'7.length 1)), (5, .c (.p (AV.int (0 : Int))))] [(4, .pure (bcells r'7))] rfl ⟨TLes.same _, TLes.same _, trivial⟩ ⟨rfl, trivial⟩ ?_
            refine RunW_nil ?_
            refine AW2_st [(4, .c (.own 4 r'7.length 1)), (5, .c (.p (AV.int (0 : Int))))] [(4, .pure (bcells r'7))] rfl ⟨TLes.same _, TLes.same _, trivial⟩ ⟨rfl, trivial⟩ ?_
            refine AW2_ret ?_
            have hz := some_elim H
            subst hz
            exact ⟨⟨res_tmp (.same _), res_tmp (.same _), trivial⟩, ⟨rfl, trivial⟩⟩
theorem g_ref_FrameOf_ac {tag0 : Int} {parts1 : List (List UInt8)} {r : (List UInt8) × Int} (H : g_ref_FrameOf tag0 parts1 = some r) : ACp Tryd.prog 48 [(AV.int tag0), (AV.lists parts1)] (.tup [(AV.bytes r.1), (AV.int r.2)]) := ACp_pub (g_ref_FrameOf_ac2 H) (fun _ _ hm => lent_tup ⟨lent_own hm rfl (bl r.1) (by decide), .same _, trivial⟩)
end Go.Proofs.YtoepdjccgngpdaaDoor.VM
