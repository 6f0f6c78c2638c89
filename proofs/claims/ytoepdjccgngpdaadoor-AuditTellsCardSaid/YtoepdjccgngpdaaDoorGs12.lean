/- Functions of the program, as they answer, and that their code comes to these answers. -/
import Derived.Test.YtoepdjccgngpdaaDoorGs11
namespace Go.Proofs.YtoepdjccgngpdaaDoor.VM
open Go Go.RowKit

theorem in_48 : Info Tryd.prog 48 3 56 (.agg #[.bool false, .slice none 0 0, .slice none 0 0]) := by unfold Info; kernel_rfl
theorem one_48 : (.agg #[.bool false, .slice none 0 0, .slice none 0 0] : Value).cells.all (·.oneCell') = true := by kernel_rfl
theorem zc_48 : ((.agg #[.bool false, .slice none 0 0, .slice none 0 0] : Value).cells.toList.map zcell) = GSlot.cs GSlot.zero := by rfl
theorem pl_48 : placesOf Tryd.prog 48 = some [(0, 1), (1, 1), (2, 1)] := by kernel_rfl
set_option maxRecDepth 100000 in
theorem ty_4 {d : Nat} {cs : List AV} (h : Typed Tryd.prog (d + 1) 4 cs) : ∃ x : Bool, cs = [(AV.bool x)] ∧ okA x := ty_bool Tryd.underlying4 h
def GSlot.ok (x : GSlot) : Prop := okA x.Full ∧ (okL 1 okA) x.Salt ∧ (okL 1 okA) x.Data
set_option maxRecDepth 100000 in
theorem ty_48 {d : Nat} {cs : List AV} (h : Typed Tryd.prog (d + 3) 48 cs) : ∃ x : GSlot, cs = GSlot.cs x ∧ GSlot.ok x := by
  obtain ⟨es, rfl, hl, hf⟩ := ty_struct Tryd.underlying48 h
  match es, hl, hf with
  | [e0, e1, e2], _, hf =>
    obtain ⟨x0, h0, q0⟩ := ty_4 (hf 0 _ e0 rfl rfl)
    obtain ⟨x1, h1, q1⟩ := ty_22 (hf 1 _ e1 rfl rfl)
    obtain ⟨x2, h2, q2⟩ := ty_22 (hf 2 _ e2 rfl rfl)
    refine ⟨⟨x0, x1, x2⟩, ?_, ⟨q0, q1, q2⟩⟩
    rw [h0, h1, h2]
    simp only [List.flatten_cons, List.flatten_nil, List.append_nil, GSlot.cs]

/-! chirographref.LeafOf -/
noncomputable def g_ref_LeafOf (mode0 : Int) (s1 : GSlot) : Option ((List UInt8) × Int) :=
  (g_ref_badMode mode0).bind fun r'1 => (if r'1 = true then some ([], (2 : Int)) else (if ((!s1.Full) = true) ∧ ((s1.Data.length : Int) > (0 : Int)) then some ([], (3 : Int)) else (if ((s1.Salt.length : Int) > (80 : Int)) ∨ ((s1.Data.length : Int) > (400 : Int)) then some ([], (1 : Int)) else ((if s1.Full = true then if [1].length + s1.Data.length ≤ 9223372036854775807 then some ([1] ++ s1.Data) else none else some [0])).bind fun j'2 => (g_ref_DigestOf mode0 (1 : Int) ([s1.Salt, j'2] : List (List UInt8))).bind fun r'3 => some (r'3.1, r'3.2))))
set_option maxHeartbeats 4000000 in
set_option maxRecDepth 100000 in
theorem g_ref_LeafOf_ac {mode0 : Int} {s1 : GSlot} {r : (List UInt8) × Int} (H : g_ref_LeafOf mode0 s1 = some r) : ACp Tryd.prog 28 [(AV.int mode0), (.agg (GSlot.cs s1))] (.tup [(AV.bytes r.1), (AV.int r.2)]) := by
  refine ACp_of (AC2_of_body (vs := [.c (.p (AV.bytes r.1)), .c (.p (AV.int r.2))]) Tryd.func28 rfl rfl (Nat.le_of_ble_eq_true rfl) rfl ?_) (fun _ => .same _)
  unfold g_ref_LeafOf at H
  refine AW2_st [(0, .c (.p (AV.int mode0))), (1, .c (.p (.agg (GSlot.cs s1))))] [] rfl ⟨TLes.same _, TLes.same _, trivial⟩ trivial ?_
  refine AW2_seq ?_
  refine AW2_reg [0, 1, 2] rfl ?_
  refine r_op rfl rfl (MakeD.opD (n_box 3 rfl rfl) rfl rfl rfl rfl) ?_
  refine r_op rfl rfl (PureD.opD (p_asgn rfl)) ?_
  refine r_op rfl rfl (PureD.opD (p_asg rfl rfl)) ?_
  refine RunW_st [(0, .c (.p (AV.int mode0))), (3, .c (.ptr 3 (0)))] [(3, .pure (GSlot.cs s1))] rfl ⟨TLes.same _, TLes.same _, trivial⟩ ⟨rfl, trivial⟩ ?_
  refine RunW_nil ?_
  refine AW2_seq ?_
  refine AW2_block ?_
  refine AW2_seq ?_
  refine AW2_reg [0, 1, 2] rfl ?_
  refine r_op rfl rfl (PureD.opD (p_move rfl rfl)) ?_
  refine bindK H fun r'1 h1 H => ?_
  refine r_op rfl rfl (PureD.opD (p_callp rfl rfl rfl Tryd.func44 rfl rfl (g_ref_badMode_ac h1) ⟨rfl, trivial⟩)) ?_
  refine r_op rfl rfl (PureD.opD (p_asg rfl rfl)) ?_
  refine RunW_st [(0, .c (.p (AV.int mode0))), (3, .c (.ptr 3 (0))), (7, .c (.p (AV.bool r'1)))] [(3, .pure (GSlot.cs s1))] rfl ⟨TLes.same _, TLes.same _, TLes.same _, trivial⟩ ⟨rfl, trivial⟩ ?_
  refine RunW_nil ?_
  refine AW2_cond rfl (fun h2 => ?_) (fun h2 => ?_)
  · replace H := ite_then h2 H
    refine AW2_seq ?_
    refine AW2_reg [0, 1] rfl ?_
    refine r_op rfl rfl (PureD.opD (p_asgn rfl)) ?_
    refine r_op rfl rfl (PureD.opD (p_asg rfl rfl)) ?_
    refine RunW_st [(4, .c (.p .nil)), (5, .c (.p (AV.int (2 : Int))))] [] rfl ⟨TLes.same _, TLes.same _, trivial⟩ trivial ?_
    refine RunW_nil ?_
    refine AW2_ret ?_
    have hz := some_elim H
    subst hz
    exact ⟨⟨res_tmp TLes.nil0, res_tmp (.same _), trivial⟩, trivial⟩
  · replace H := ite_else (ne_true h2) H
    refine AW2_seq ?_
    refine AW2_mid (⟨[(0, .c (.p (AV.int mode0))), (3, .c (.ptr 3 (0))), (10, .c (.p (.bool (decide (((!s1.Full) = true) ∧ ((s1.Data.length : Int) > (0 : Int)))))))], [(3, .pure (GSlot.cs s1))], 46⟩ : TS) ?_ ?_
    · refine AW2_reg [0, 1, 2, 3, 4, 5, 6, 7, 8, 9] rfl ?_
      refine r_op rfl rfl (PureD.opD (u_fa rfl rfl Tryd.underlying48 rfl in_4 (Nat.succ_ne_zero _) rfl rfl (ne_of_lt (n := 0) (Nat.lt_of_lt_of_eq (by decide) (Eq.symm (GSlot.len s1)))))) ?_
      refine r_op rfl rfl (PureD.opD (u_ld rfl rfl Tryd.underlying4 rfl rfl ((Sub.refl _).trans (GSlot.sub0 s1)))) ?_
      refine r_op rfl rfl (PureD.opD (p_not rfl rfl)) ?_
      refine r_op rfl rfl (PureD.opD (p_move rfl rfl)) ?_
      refine (Classical.em ((!s1.Full) = true)).elim (fun h3 => ?_) (fun h3 => ?_)
      · refine r_on rfl rfl rfl rfl h3 rfl (PureD.opD (u_fa rfl rfl Tryd.underlying48 rfl in_22 (Nat.succ_ne_zero _) rfl rfl (ne_of_lt (n := 0) (Nat.lt_of_lt_of_eq (by decide) (Eq.symm (GSlot.len s1)))))) ?_
        refine r_on rfl rfl rfl rfl h3 rfl (PureD.opD (u_ld rfl rfl Tryd.underlying22 rfl rfl ((Sub.refl _).trans (GSlot.sub2 s1)))) ?_
        refine r_on rfl rfl rfl rfl h3 rfl (PureD.opD (p_lenl rfl Tryd.underlying22 rfl rfl)) ?_
        refine r_on rfl rfl rfl rfl h3 rfl (PureD.opD (p_bin rfl rfl rfl rfl)) ?_
        refine r_op rfl rfl (PureD.opD (p_pkt rfl rfl h3 (tb ((and_l (p := (!s1.Full) = true) (q := (s1.Data.length : Int) > (0 : Int)) h3))))) ?_
        refine r_op rfl rfl (PureD.opD (p_asg rfl rfl)) ?_
        refine RunW_st [(0, .c (.p (AV.int mode0))), (3, .c (.ptr 3 (0))), (10, .c (.p (.bool (decide (((!s1.Full) = true) ∧ ((s1.Data.length : Int) > (0 : Int)))))))] [(3, .pure (GSlot.cs s1))] rfl ⟨TLes.same _, TLes.same _, TLes.same _, trivial⟩ ⟨rfl, trivial⟩ ?_
        exact RunW_nil rfl
      · refine r_off rfl rfl rfl rfl (bfalse h3) rfl rfl ?_
        refine r_off rfl rfl rfl rfl (bfalse h3) rfl rfl ?_
        refine r_off rfl rfl rfl rfl (bfalse h3) rfl rfl ?_
        refine r_off rfl rfl rfl rfl (bfalse h3) rfl rfl ?_
        refine r_op rfl rfl (PureD.opD (p_pkf rfl rfl (bfalse h3) (tb (decide_eq_false (p := ((!s1.Full) = true) ∧ ((s1.Data.length : Int) > (0 : Int))) (fun x => h3 x.1)).symm))) ?_
        refine r_op rfl rfl (PureD.opD (p_asg rfl rfl)) ?_
        refine RunW_st [(0, .c (.p (AV.int mode0))), (3, .c (.ptr 3 (0))), (10, .c (.p (.bool (decide (((!s1.Full) = true) ∧ ((s1.Data.length : Int) > (0 : Int)))))))] [(3, .pure (GSlot.cs s1))] rfl ⟨TLes.same _, TLes.same _, TLes.same _, trivial⟩ ⟨rfl, trivial⟩ ?_
        exact RunW_nil rfl
    · refine AW2_if (p := ((!s1.Full) = true) ∧ ((s1.Data.length : Int) > (0 : Int))) rfl (fun h4 => ?_) (fun h4 => ?_)
      · replace H := ite_then h4 H
        refine AW2_seq ?_
        refine AW2_reg [0, 1] rfl ?_
        refine r_op rfl rfl (PureD.opD (p_asgn rfl)) ?_
        refine r_op rfl rfl (PureD.opD (p_asg rfl rfl)) ?_
        refine RunW_st [(4, .c (.p .nil)), (5, .c (.p (AV.int (3 : Int))))] [] rfl ⟨TLes.same _, TLes.same _, trivial⟩ trivial ?_
        refine RunW_nil ?_
        refine AW2_ret ?_
        have hz := some_elim H
        subst hz
        exact ⟨⟨res_tmp TLes.nil0, res_tmp (.same _), trivial⟩, trivial⟩
      · replace H := ite_else h4 H
        refine AW2_seq ?_
        refine AW2_mid (⟨[(0, .c (.p (AV.int mode0))), (3, .c (.ptr 3 (0))), (20, .c (.p (.bool (decide (((s1.Salt.length : Int) > (80 : Int)) ∨ ((s1.Data.length : Int) > (400 : Int)))))))], [(3, .pure (GSlot.cs s1))], 46⟩ : TS) ?_ ?_
        · refine AW2_reg [0, 1, 2, 3, 4, 5, 6, 7, 8, 9, 10] rfl ?_
          refine r_op rfl rfl (PureD.opD (u_fa rfl rfl Tryd.underlying48 rfl in_22 (Nat.succ_ne_zero _) rfl rfl (ne_of_lt (n := 0) (Nat.lt_of_lt_of_eq (by decide) (Eq.symm (GSlot.len s1)))))) ?_
          refine r_op rfl rfl (PureD.opD (u_ld rfl rfl Tryd.underlying22 rfl rfl ((Sub.refl _).trans (GSlot.sub1 s1)))) ?_
          refine r_op rfl rfl (PureD.opD (p_lenl rfl Tryd.underlying22 rfl rfl)) ?_
          refine r_op rfl rfl (PureD.opD (p_bin rfl rfl rfl rfl)) ?_
          refine r_op rfl rfl (PureD.opD (p_move rfl rfl)) ?_
          refine (Classical.em ((s1.Salt.length : Int) > (80 : Int))).elim (fun h5 => ?_) (fun h5 => ?_)
          · refine r_off rfl rfl rfl rfl (decide_eq_true (p := (s1.Salt.length : Int) > (80 : Int)) h5) rfl rfl ?_
            refine r_off rfl rfl rfl rfl (decide_eq_true (p := (s1.Salt.length : Int) > (80 : Int)) h5) rfl rfl ?_
            refine r_off rfl rfl rfl rfl (decide_eq_true (p := (s1.Salt.length : Int) > (80 : Int)) h5) rfl rfl ?_
            refine r_off rfl rfl rfl rfl (decide_eq_true (p := (s1.Salt.length : Int) > (80 : Int)) h5) rfl rfl ?_
            refine r_op rfl rfl (PureD.opD (p_pkt rfl rfl (decide_eq_true (p := (s1.Salt.length : Int) > (80 : Int)) h5) (tb (decide_eq_true (p := ((s1.Salt.length : Int) > (80 : Int)) ∨ ((s1.Data.length : Int) > (400 : Int))) (Or.inl h5)).symm))) ?_
            refine r_op rfl rfl (PureD.opD (p_asg rfl rfl)) ?_
            refine RunW_st [(0, .c (.p (AV.int mode0))), (3, .c (.ptr 3 (0))), (20, .c (.p (.bool (decide (((s1.Salt.length : Int) > (80 : Int)) ∨ ((s1.Data.length : Int) > (400 : Int)))))))] [(3, .pure (GSlot.cs s1))] rfl ⟨TLes.same _, TLes.same _, TLes.same _, trivial⟩ ⟨rfl, trivial⟩ ?_
            exact RunW_nil rfl
          · refine r_on rfl rfl rfl rfl (decide_eq_false (p := (s1.Salt.length : Int) > (80 : Int)) h5) rfl (PureD.opD (u_fa rfl rfl Tryd.underlying48 rfl in_22 (Nat.succ_ne_zero _) rfl rfl (ne_of_lt (n := 0) (Nat.lt_of_lt_of_eq (by decide) (Eq.symm (GSlot.len s1)))))) ?_
            refine r_on rfl rfl rfl rfl (decide_eq_false (p := (s1.Salt.length : Int) > (80 : Int)) h5) rfl (PureD.opD (u_ld rfl rfl Tryd.underlying22 rfl rfl ((Sub.refl _).trans (GSlot.sub2 s1)))) ?_
            refine r_on rfl rfl rfl rfl (decide_eq_false (p := (s1.Salt.length : Int) > (80 : Int)) h5) rfl (PureD.opD (p_lenl rfl Tryd.underlying22 rfl rfl)) ?_
            refine r_on rfl rfl rfl rfl (decide_eq_false (p := (s1.Salt.length : Int) > (80 : Int)) h5) rfl (PureD.opD (p_bin rfl rfl rfl rfl)) ?_
            refine r_op rfl rfl (PureD.opD (p_pkf rfl rfl (decide_eq_false (p := (s1.Salt.length : Int) > (80 : Int)) h5) (tb ((or_l (p := (s1.Salt.length : Int) > (80 : Int)) (q := (s1.Data.length : Int) > (400 : Int)) h5))))) ?_
            refine r_op rfl rfl (PureD.opD (p_asg rfl rfl)) ?_
            refine RunW_st [(0, .c (.p (AV.int mode0))), (3, .c (.ptr 3 (0))), (20, .c (.p (.bool (decide (((s1.Salt.length : Int) > (80 : Int)) ∨ ((s1.Data.length : Int) > (400 : Int)))))))] [(3, .pure (GSlot.cs s1))] rfl ⟨TLes.same _, TLes.same _, TLes.same _, trivial⟩ ⟨rfl, trivial⟩ ?_
            exact RunW_nil rfl
        · refine AW2_if (p := ((s1.Salt.length : Int) > (80 : Int)) ∨ ((s1.Data.length : Int) > (400 : Int))) rfl (fun h6 => ?_) (fun h6 => ?_)
          · replace H := ite_then h6 H
            refine AW2_seq ?_
            refine AW2_reg [0, 1] rfl ?_
            refine r_op rfl rfl (PureD.opD (p_asgn rfl)) ?_
            refine r_op rfl rfl (PureD.opD (p_asg rfl rfl)) ?_
            refine RunW_st [(4, .c (.p .nil)), (5, .c (.p (AV.int (1 : Int))))] [] rfl ⟨TLes.same _, TLes.same _, trivial⟩ trivial ?_
            refine RunW_nil ?_
            refine AW2_ret ?_
            have hz := some_elim H
            subst hz
            exact ⟨⟨res_tmp TLes.nil0, res_tmp (.same _), trivial⟩, trivial⟩
          · replace H := ite_else h6 H
            refine AW2_st [(0, .c (.p (AV.int mode0))), (3, .c (.ptr 3 (0)))] [(3, .pure (GSlot.cs s1))] rfl ⟨TLes.same _, TLes.same _, trivial⟩ ⟨rfl, trivial⟩ ?_
            refine AW2_skip ?_
            refine AW2_seq ?_
            refine AW2_reg [0] rfl ?_
            refine r_op rfl rfl (PureD.opD (p_asg rfl rfl)) ?_
            refine RunW_st [(0, .c (.p (AV.int mode0))), (3, .c (.ptr 3 (0))), (6, .c (.p (AV.txt [0])))] [(3, .pure (GSlot.cs s1))] rfl ⟨TLes.same _, TLes.same _, TLes.same _, trivial⟩ ⟨rfl, trivial⟩ ?_
            refine RunW_nil ?_
            refine AW2_seq ?_
            refine bindK H fun j'2 h7 H => ?_
            refine AW2_mid (⟨[(0, .c (.p (AV.int mode0))), (3, .c (.ptr 3 (0))), (6, .c (.p (AV.txt j'2)))], [(3, .pure (GSlot.cs s1))], 46⟩ : TS) ?_ ?_
            · clear H
              have H := h7
              clear h7
              refine AW2_seq ?_
              refine AW2_reg [0, 1] rfl ?_
              refine r_op rfl rfl (PureD.opD (u_fa rfl rfl Tryd.underlying48 rfl in_4 (Nat.succ_ne_zero _) rfl rfl (ne_of_lt (n := 0) (Nat.lt_of_lt_of_eq (by decide) (Eq.symm (GSlot.len s1)))))) ?_
              refine r_op rfl rfl (PureD.opD (u_ld rfl rfl Tryd.underlying4 rfl rfl ((Sub.refl _).trans (GSlot.sub0 s1)))) ?_
              refine RunW_st [(0, .c (.p (AV.int mode0))), (3, .c (.ptr 3 (0))), (6, .c (.p (AV.txt [0]))), (32, .c (.p (AV.bool s1.Full)))] [(3, .pure (GSlot.cs s1))] rfl ⟨TLes.same _, TLes.same _, TLes.same _, TLes.same _, trivial⟩ ⟨rfl, trivial⟩ ?_
              refine RunW_nil ?_
              refine AW2_cond rfl (fun h8 => ?_) (fun h8 => ?_)
              · replace H := ite_then h8 H
                refine AW2_reg [0, 1, 2, 3, 4] rfl ?_
                refine r_op rfl rfl (PureD.opD (u_fa rfl rfl Tryd.underlying48 rfl in_22 (Nat.succ_ne_zero _) rfl rfl (ne_of_lt (n := 0) (Nat.lt_of_lt_of_eq (by decide) (Eq.symm (GSlot.len s1)))))) ?_
                refine r_op rfl rfl (PureD.opD (u_ld rfl rfl Tryd.underlying22 rfl rfl ((Sub.refl _).trans (GSlot.sub2 s1)))) ?_
                refine r_op rfl rfl (PureD.opD (p_cb rfl rfl Tryd.underlying22 Tryd.underlying5 Tryd.underlying9 rfl)) ?_
                refine chkK H fun h9 H => ?_
                refine r_op rfl rfl (PureD.opD (p_cat rfl rfl rfl h9)) ?_
                refine r_op rfl rfl (PureD.opD (p_asg rfl rfl)) ?_
                refine RunW_st [(0, .c (.p (AV.int mode0))), (3, .c (.ptr 3 (0))), (6, .c (.p (AV.txt ([1] ++ s1.Data))))] [(3, .pure (GSlot.cs s1))] rfl ⟨TLes.same _, TLes.same _, TLes.same _, trivial⟩ ⟨rfl, trivial⟩ ?_
                refine RunW_nil ?_
                have hz := some_elim H
                subst hz
                exact rfl
              · replace H := ite_else (ne_true h8) H
                refine AW2_st [(0, .c (.p (AV.int mode0))), (3, .c (.ptr 3 (0))), (6, .c (.p (AV.txt [0])))] [(3, .pure (GSlot.cs s1))] rfl ⟨TLes.same _, TLes.same _, TLes.same _, trivial⟩ ⟨rfl, trivial⟩ ?_
                refine AW2_skip ?_
                have hz := some_elim H
                subst hz
                exact rfl
            · refine AW2_seq ?_
              refine AW2_reg [0, 1, 2, 3, 4, 5, 6, 7, 8, 9, 10] rfl ?_
              refine r_op rfl rfl (PureD.opD (p_move rfl rfl)) ?_
              refine r_op rfl rfl (PureD.opD (u_fa rfl rfl Tryd.underlying48 rfl in_22 (Nat.succ_ne_zero _) rfl rfl (ne_of_lt (n := 0) (Nat.lt_of_lt_of_eq (by decide) (Eq.symm (GSlot.len s1)))))) ?_
              refine r_op rfl rfl (PureD.opD (u_ld rfl rfl Tryd.underlying22 rfl rfl ((Sub.refl _).trans (GSlot.sub1 s1)))) ?_
              refine r_op rfl rfl (PureD.opD (p_move rfl rfl)) ?_
              refine r_op rfl rfl (MakeD.opD (n_sb 41 rfl Tryd.underlying9 Tryd.underlying22 Tryd.underlying5 rfl) rfl rfl rfl rfl) ?_
              refine RunW_gho (Gho_pubs [41] ⟨rfl, trivial⟩ rfl (bl j'2) (by decide)) ?_
              refine r_op rfl rfl (MakeD.opD (u_bs 42 rfl Tryd.underlying44 in_22 rfl one_22 (by decide) (by decide) rfl rfl rfl) rfl rfl rfl rfl) ?_
              refine RunW_st [(0, .c (.p (AV.int mode0))), (3, .c (.ptr 3 (0))), (6, .c (.p (AV.txt j'2))), (37, .c (.p (AV.int mode0))), (38, .c (.ptr 3 (0 + 1))), (39, .c (.p (AV.bytes s1.Salt))), (40, .c (.p (AV.txt j'2))), (41, .c (.p (AV.bytes j'2))), (42, .c (.own 42 ([s1.Salt, j'2] : List (List UInt8)).length 1))] [(3, .pure (GSlot.cs s1)), (42, .pure (([s1.Salt, j'2] : List (List UInt8)).map AV.bytes))] rfl ⟨TLes.same _, TLes.same _, TLes.same _, TLes.same _, TLes.same _, TLes.same _, TLes.same _, TLes.same _, TLes.own rfl, trivial⟩ ⟨rfl, rfl, trivial⟩ ?_
              refine RunW_gho (Gho_pubs [42] ⟨rfl, trivial⟩ rfl (ml AV.bytes ([s1.Salt, j'2] : List (List UInt8))) (by decide)) ?_
              refine bindK H fun r'3 h10 H => ?_
              refine r_op rfl rfl (PureD.opD (p_callp rfl rfl rfl Tryd.func26 rfl rfl (g_ref_DigestOf_ac h10) ⟨rfl, rfl, rfl, trivial⟩)) ?_
              refine r_op rfl rfl (PureD.opD (p_ext rfl rfl rfl rfl)) ?_
              refine r_op rfl rfl (PureD.opD (p_ext rfl rfl rfl rfl)) ?_
              refine r_op rfl rfl (PureD.opD (p_asg rfl rfl)) ?_
              refine r_op rfl rfl (PureD.opD (p_asg rfl rfl)) ?_
              refine RunW_st [(4, .c (.p (AV.bytes r'3.1))), (5, .c (.p (AV.int r'3.2)))] [] rfl ⟨TLes.same _, TLes.same _, trivial⟩ trivial ?_
              refine RunW_nil ?_
              refine AW2_ret ?_
              have hz := some_elim H
              subst hz
              exact ⟨⟨res_tmp (.same _), res_tmp (.same _), trivial⟩, trivial⟩

/-! chirographlaw.SlotsLeaves -/
noncomputable def g_law_SlotsLeaves (mode0 : Int) (s1 : GSlot) : Option (Bool) :=
  (g_slots_Leaf mode0 s1).bind fun r'1 => (g_ref_LeafOf mode0 s1).bind fun r'2 => ((if r'1.2 = r'2.2 then (g_law_sameBytes r'1.1 r'2.1).bind fun r'4 => some r'4 else some false)).bind fun g'5 => some g'5
set_option maxHeartbeats 4000000 in
set_option maxRecDepth 100000 in
theorem g_law_SlotsLeaves_ac {mode0 : Int} {s1 : GSlot} {r : Bool} (H : g_law_SlotsLeaves mode0 s1 = some r) : ACp Tryd.prog 9 [(AV.int mode0), (.agg (GSlot.cs s1))] (AV.bool r) := by
  refine ACp_of (AC2_of_body (vs := [.c (.p (AV.bool r))]) Tryd.func9 rfl rfl (Nat.le_of_ble_eq_true rfl) rfl ?_) (fun _ => .same _)
  unfold g_law_SlotsLeaves at H
  refine AW2_st [(0, .c (.p (AV.int mode0))), (1, .c (.p (.agg (GSlot.cs s1))))] [] rfl ⟨TLes.same _, TLes.same _, trivial⟩ trivial ?_
  refine AW2_seq ?_
  refine AW2_reg [0, 1] rfl ?_
  refine r_op rfl rfl (MakeD.opD (n_box 3 rfl rfl) rfl rfl rfl rfl) ?_
  refine r_op rfl rfl (PureD.opD (p_asg rfl rfl)) ?_
  refine RunW_st [(0, .c (.p (AV.int mode0))), (3, .c (.ptr 3 (0)))] [(3, .pure (GSlot.cs s1))] rfl ⟨TLes.same _, TLes.same _, trivial⟩ ⟨rfl, trivial⟩ ?_
  refine RunW_nil ?_
  refine AW2_seq ?_
  refine AW2_reg [0, 1, 2, 3, 4, 5, 6, 7] rfl ?_
  refine r_op rfl rfl (PureD.opD (p_move rfl rfl)) ?_
  refine r_op rfl rfl (PureD.opD (u_lda rfl rfl Tryd.underlying48 rfl in_48 rfl (Nat.succ_pos _) (Sub.refl _) (GSlot.len s1))) ?_
  refine bindK H fun r'1 h1 H => ?_
  refine r_op rfl rfl (PureD.opD (p_callp rfl rfl rfl Tryd.func27 rfl rfl (g_slots_Leaf_ac h1) ⟨rfl, rfl, trivial⟩)) ?_
  refine r_op rfl rfl (PureD.opD (p_move rfl rfl)) ?_
  refine r_op rfl rfl (PureD.opD (p_ext rfl rfl rfl rfl)) ?_
  refine r_op rfl rfl (PureD.opD (p_ext rfl rfl rfl rfl)) ?_
  refine r_op rfl rfl (PureD.opD (p_asg rfl rfl)) ?_
  refine r_op rfl rfl (PureD.opD (p_asg rfl rfl)) ?_
  refine RunW_st [(0, .c (.p (AV.int mode0))), (3, .c (.ptr 3 (0))), (5, .c (.p (AV.bytes r'1.1))), (6, .c (.p (AV.int r'1.2)))] [(3, .pure (GSlot.cs s1))] rfl ⟨TLes.same _, TLes.same _, TLes.same _, TLes.same _, trivial⟩ ⟨rfl, trivial⟩ ?_
  refine RunW_nil ?_
  refine AW2_seq ?_
  refine AW2_reg [0, 1, 2, 3, 4, 5, 6, 7] rfl ?_
  refine r_op rfl rfl (PureD.opD (p_move rfl rfl)) ?_
  refine r_op rfl rfl (PureD.opD (u_lda rfl rfl Tryd.underlying48 rfl in_48 rfl (Nat.succ_pos _) (Sub.refl _) (GSlot.len s1))) ?_
  refine bindK H fun r'2 h2 H => ?_
  refine r_op rfl rfl (PureD.opD (p_callp rfl rfl rfl Tryd.func28 rfl rfl (g_ref_LeafOf_ac h2) ⟨rfl, rfl, trivial⟩)) ?_
  refine r_op rfl rfl (PureD.opD (p_move rfl rfl)) ?_
  refine r_op rfl rfl (PureD.opD (p_ext rfl rfl rfl rfl)) ?_
  refine r_op rfl rfl (PureD.opD (p_ext rfl rfl rfl rfl)) ?_
  refine r_op rfl rfl (PureD.opD (p_asg rfl rfl)) ?_
  refine r_op rfl rfl (PureD.opD (p_asg rfl rfl)) ?_
  refine RunW_st [(5, .c (.p (AV.bytes r'1.1))), (6, .c (.p (AV.int r'1.2))), (7, .c (.p (AV.bytes r'2.1))), (8, .c (.p (AV.int r'2.2)))] [] rfl ⟨TLes.same _, TLes.same _, TLes.same _, TLes.same _, trivial⟩ trivial ?_
  refine RunW_nil ?_
  refine AW2_seq ?_
  refine bindK H fun g'5 h6 H => ?_
  refine AW2_mid (⟨[(4, .c (.p (AV.bool g'5)))], [], 29⟩ : TS) ?_ ?_
  · clear H
    have H := h6
    clear h6
    refine AW2_reg [0, 1, 2, 3, 4, 5, 6, 7, 8] rfl ?_
    refine r_op rfl rfl (PureD.opD (p_move rfl rfl)) ?_
    refine r_op rfl rfl (PureD.opD (p_move rfl rfl)) ?_
    refine r_op rfl rfl (PureD.opD (p_ieq rfl rfl rfl)) ?_
    refine r_op rfl rfl (PureD.opD (p_move rfl rfl)) ?_
    refine (Classical.em (r'1.2 = r'2.2)).elim (fun h4 => ?_) (fun h4 => ?_)
    · replace H := ite_then h4 H
      refine r_on rfl rfl rfl rfl (decide_eq_true (p := r'1.2 = r'2.2) h4) rfl (PureD.opD (p_move rfl rfl)) ?_
      refine r_on rfl rfl rfl rfl (decide_eq_true (p := r'1.2 = r'2.2) h4) rfl (PureD.opD (p_move rfl rfl)) ?_
      refine bindK H fun r'4 h5 H => ?_
      refine r_on rfl rfl rfl rfl (decide_eq_true (p := r'1.2 = r'2.2) h4) rfl (PureD.opD (p_callp rfl rfl rfl Tryd.func24 rfl rfl (g_law_sameBytes_ac h5) ⟨rfl, rfl, trivial⟩)) ?_
      refine r_op rfl rfl (PureD.opD (p_pkt rfl rfl (decide_eq_true (p := r'1.2 = r'2.2) h4) (.same _))) ?_
      refine r_op rfl rfl (PureD.opD (p_asg rfl rfl)) ?_
      refine RunW_st [(4, .c (.p (AV.bool r'4)))] [] rfl ⟨TLes.same _, trivial⟩ trivial ?_
      have hz := some_elim H
      subst hz
      exact RunW_nil rfl
    · replace H := ite_else h4 H
      refine r_off rfl rfl rfl rfl (decide_eq_false (p := r'1.2 = r'2.2) h4) rfl rfl ?_
      refine r_off rfl rfl rfl rfl (decide_eq_false (p := r'1.2 = r'2.2) h4) rfl rfl ?_
      refine r_off rfl rfl rfl rfl (decide_eq_false (p := r'1.2 = r'2.2) h4) rfl rfl ?_
      refine r_op rfl rfl (PureD.opD (p_pkf rfl rfl (decide_eq_false (p := r'1.2 = r'2.2) h4) (.same _))) ?_
      refine r_op rfl rfl (PureD.opD (p_asg rfl rfl)) ?_
      refine RunW_st [(4, .c (.p (AV.bool false)))] [] rfl ⟨TLes.same _, trivial⟩ trivial ?_
      have hz := some_elim H
      subst hz
      exact RunW_nil rfl
  · refine AW2_ret ?_
    have hz := some_elim H
    subst hz
    exact ⟨⟨res_tmp (.same _), trivial⟩, trivial⟩

/-! audit.Data -/
noncomputable def g_audit_Data (mode0 : Int) (user1 : Int) (e2 : Int) (text3 : List UInt8) : Option ((List UInt8) × Int) :=
  (if (((user1 < (0 : Int)) ∨ (user1 ≥ (3 : Int))) ∨ (e2 < (0 : Int))) ∨ (e2 > (12 : Int)) then some ([], (6 : Int)) else (if (text3.length : Int) > (300 : Int) then some ([], (1 : Int)) else (g_oracle_Digest mode0 (9 : Int) ([text3] : List (List UInt8))).bind fun r'1 => (if r'1.2 ≠ (0 : Int) then some ([], r'1.2) else if room (([UInt8.ofInt user1, UInt8.ofInt e2] : List UInt8).length + r'1.1.length) 1 then some (([UInt8.ofInt user1, UInt8.ofInt e2] : List UInt8) ++ r'1.1, (0 : Int)) else none)))
set_option maxHeartbeats 4000000 in
set_option maxRecDepth 100000 in
theorem g_audit_Data_ac {mode0 : Int} {user1 : Int} {e2 : Int} {text3 : List UInt8} {r : (List UInt8) × Int} (H : g_audit_Data mode0 user1 e2 text3 = some r) : ACp Tryd.prog 29 [(AV.int mode0), (AV.int user1), (AV.int e2), (AV.txt text3)] (.tup [(AV.bytes r.1), (AV.int r.2)]) := by
  refine ACp_of (AC2_of_body (vs := [.c (.p (AV.bytes r.1)), .c (.p (AV.int r.2))]) Tryd.func29 rfl rfl (Nat.le_of_ble_eq_true rfl) rfl ?_) (fun _ => .same _)
  unfold g_audit_Data at H
  refine AW2_st [(0, .c (.p (AV.int mode0))), (1, .c (.p (AV.int user1))), (2, .c (.p (AV.int e2))), (3, .c (.p (AV.txt text3)))] [] rfl ⟨TLes.same _, TLes.same _, TLes.same _, TLes.same _, trivial⟩ trivial ?_
  refine AW2_seq ?_
  refine AW2_reg [0, 1] rfl ?_
  refine r_op rfl rfl (PureD.opD (p_asgn rfl)) ?_
  refine r_op rfl rfl (PureD.opD (p_asg rfl rfl)) ?_
  refine RunW_st [(0, .c (.p (AV.int mode0))), (1, .c (.p (AV.int user1))), (2, .c (.p (AV.int e2))), (3, .c (.p (AV.txt text3)))] [] rfl ⟨TLes.same _, TLes.same _, TLes.same _, TLes.same _, trivial⟩ trivial ?_
  refine RunW_nil ?_
  refine AW2_seq ?_
  refine AW2_seq ?_
  refine AW2_mid (⟨[(0, .c (.p (AV.int mode0))), (1, .c (.p (AV.int user1))), (2, .c (.p (AV.int e2))), (3, .c (.p (AV.txt text3))), (25, .c (.p (.bool (decide ((((user1 < (0 : Int)) ∨ (user1 ≥ (3 : Int))) ∨ (e2 < (0 : Int))) ∨ (e2 > (12 : Int)))))))], [], 47⟩ : TS) ?_ ?_
  · refine AW2_reg [0, 1, 2, 3, 4, 5, 6, 7, 8, 9, 10, 11, 12, 13] rfl ?_
    refine r_op rfl rfl (PureD.opD (p_move rfl rfl)) ?_
    refine r_op rfl rfl (PureD.opD (p_bin rfl rfl rfl rfl)) ?_
    refine r_op rfl rfl (PureD.opD (p_move rfl rfl)) ?_
    refine (Classical.em (user1 < (0 : Int))).elim (fun h1 => ?_) (fun h1 => ?_)
    · refine r_off rfl rfl rfl rfl (decide_eq_true (p := user1 < (0 : Int)) h1) rfl rfl ?_
      refine r_off rfl rfl rfl rfl (decide_eq_true (p := user1 < (0 : Int)) h1) rfl rfl ?_
      refine r_op rfl rfl (PureD.opD (p_pkt rfl rfl (decide_eq_true (p := user1 < (0 : Int)) h1) (tb (decide_eq_true (p := (user1 < (0 : Int)) ∨ (user1 ≥ (3 : Int))) (Or.inl h1)).symm))) ?_
      refine r_op rfl rfl (PureD.opD (p_move rfl rfl)) ?_
      refine r_off rfl rfl rfl rfl (decide_eq_true (p := (user1 < (0 : Int)) ∨ (user1 ≥ (3 : Int))) (Or.inl h1)) rfl rfl ?_
      refine r_off rfl rfl rfl rfl (decide_eq_true (p := (user1 < (0 : Int)) ∨ (user1 ≥ (3 : Int))) (Or.inl h1)) rfl rfl ?_
      refine r_op rfl rfl (PureD.opD (p_pkt rfl rfl (decide_eq_true (p := (user1 < (0 : Int)) ∨ (user1 ≥ (3 : Int))) (Or.inl h1)) (tb (decide_eq_true (p := ((user1 < (0 : Int)) ∨ (user1 ≥ (3 : Int))) ∨ (e2 < (0 : Int))) (Or.inl (Or.inl h1))).symm))) ?_
      refine r_op rfl rfl (PureD.opD (p_move rfl rfl)) ?_
      refine r_off rfl rfl rfl rfl (decide_eq_true (p := ((user1 < (0 : Int)) ∨ (user1 ≥ (3 : Int))) ∨ (e2 < (0 : Int))) (Or.inl (Or.inl h1))) rfl rfl ?_
      refine r_off rfl rfl rfl rfl (decide_eq_true (p := ((user1 < (0 : Int)) ∨ (user1 ≥ (3 : Int))) ∨ (e2 < (0 : Int))) (Or.inl (Or.inl h1))) rfl rfl ?_
      refine r_op rfl rfl (PureD.opD (p_pkt rfl rfl (decide_eq_true (p := ((user1 < (0 : Int)) ∨ (user1 ≥ (3 : Int))) ∨ (e2 < (0 : Int))) (Or.inl (Or.inl h1))) (tb (decide_eq_true (p := (((user1 < (0 : Int)) ∨ (user1 ≥ (3 : Int))) ∨ (e2 < (0 : Int))) ∨ (e2 > (12 : Int))) (Or.inl (Or.inl (Or.inl h1)))).symm))) ?_
      refine RunW_st [(0, .c (.p (AV.int mode0))), (1, .c (.p (AV.int user1))), (2, .c (.p (AV.int e2))), (3, .c (.p (AV.txt text3))), (25, .c (.p (.bool (decide ((((user1 < (0 : Int)) ∨ (user1 ≥ (3 : Int))) ∨ (e2 < (0 : Int))) ∨ (e2 > (12 : Int)))))))] [] rfl ⟨TLes.same _, TLes.same _, TLes.same _, TLes.same _, TLes.same _, trivial⟩ trivial ?_
      exact RunW_nil rfl
    · refine r_on rfl rfl rfl rfl (decide_eq_false (p := user1 < (0 : Int)) h1) rfl (PureD.opD (p_move rfl rfl)) ?_
      refine r_on rfl rfl rfl rfl (decide_eq_false (p := user1 < (0 : Int)) h1) rfl (PureD.opD (p_bin rfl rfl rfl rfl)) ?_
      refine r_op rfl rfl (PureD.opD (p_pkf rfl rfl (decide_eq_false (p := user1 < (0 : Int)) h1) (tb ((or_l (p := user1 < (0 : Int)) (q := user1 ≥ (3 : Int)) h1))))) ?_
      refine r_op rfl rfl (PureD.opD (p_move rfl rfl)) ?_
      refine (Classical.em (user1 ≥ (3 : Int))).elim (fun h2 => ?_) (fun h2 => ?_)
      · refine r_off rfl rfl rfl rfl (decide_eq_true (p := (user1 < (0 : Int)) ∨ (user1 ≥ (3 : Int))) (Or.inr h2)) rfl rfl ?_
        refine r_off rfl rfl rfl rfl (decide_eq_true (p := (user1 < (0 : Int)) ∨ (user1 ≥ (3 : Int))) (Or.inr h2)) rfl rfl ?_
        refine r_op rfl rfl (PureD.opD (p_pkt rfl rfl (decide_eq_true (p := (user1 < (0 : Int)) ∨ (user1 ≥ (3 : Int))) (Or.inr h2)) (tb (decide_eq_true (p := ((user1 < (0 : Int)) ∨ (user1 ≥ (3 : Int))) ∨ (e2 < (0 : Int))) (Or.inl (Or.inr h2))).symm))) ?_
        refine r_op rfl rfl (PureD.opD (p_move rfl rfl)) ?_
        refine r_off rfl rfl rfl rfl (decide_eq_true (p := ((user1 < (0 : Int)) ∨ (user1 ≥ (3 : Int))) ∨ (e2 < (0 : Int))) (Or.inl (Or.inr h2))) rfl rfl ?_
        refine r_off rfl rfl rfl rfl (decide_eq_true (p := ((user1 < (0 : Int)) ∨ (user1 ≥ (3 : Int))) ∨ (e2 < (0 : Int))) (Or.inl (Or.inr h2))) rfl rfl ?_
        refine r_op rfl rfl (PureD.opD (p_pkt rfl rfl (decide_eq_true (p := ((user1 < (0 : Int)) ∨ (user1 ≥ (3 : Int))) ∨ (e2 < (0 : Int))) (Or.inl (Or.inr h2))) (tb (decide_eq_true (p := (((user1 < (0 : Int)) ∨ (user1 ≥ (3 : Int))) ∨ (e2 < (0 : Int))) ∨ (e2 > (12 : Int))) (Or.inl (Or.inl (Or.inr h2)))).symm))) ?_
        refine RunW_st [(0, .c (.p (AV.int mode0))), (1, .c (.p (AV.int user1))), (2, .c (.p (AV.int e2))), (3, .c (.p (AV.txt text3))), (25, .c (.p (.bool (decide ((((user1 < (0 : Int)) ∨ (user1 ≥ (3 : Int))) ∨ (e2 < (0 : Int))) ∨ (e2 > (12 : Int)))))))] [] rfl ⟨TLes.same _, TLes.same _, TLes.same _, TLes.same _, TLes.same _, trivial⟩ trivial ?_
        exact RunW_nil rfl
      · refine r_on rfl rfl rfl rfl (decide_eq_false (p := (user1 < (0 : Int)) ∨ (user1 ≥ (3 : Int))) (not_or.2 ⟨h1, h2⟩)) rfl (PureD.opD (p_move rfl rfl)) ?_
        refine r_on rfl rfl rfl rfl (decide_eq_false (p := (user1 < (0 : Int)) ∨ (user1 ≥ (3 : Int))) (not_or.2 ⟨h1, h2⟩)) rfl (PureD.opD (p_bin rfl rfl rfl rfl)) ?_
        refine r_op rfl rfl (PureD.opD (p_pkf rfl rfl (decide_eq_false (p := (user1 < (0 : Int)) ∨ (user1 ≥ (3 : Int))) (not_or.2 ⟨h1, h2⟩)) (tb ((or_l (p := (user1 < (0 : Int)) ∨ (user1 ≥ (3 : Int))) (q := e2 < (0 : Int)) (not_or.2 ⟨h1, h2⟩)))))) ?_
        refine r_op rfl rfl (PureD.opD (p_move rfl rfl)) ?_
        refine (Classical.em (e2 < (0 : Int))).elim (fun h3 => ?_) (fun h3 => ?_)
        · refine r_off rfl rfl rfl rfl (decide_eq_true (p := ((user1 < (0 : Int)) ∨ (user1 ≥ (3 : Int))) ∨ (e2 < (0 : Int))) (Or.inr h3)) rfl rfl ?_
          refine r_off rfl rfl rfl rfl (decide_eq_true (p := ((user1 < (0 : Int)) ∨ (user1 ≥ (3 : Int))) ∨ (e2 < (0 : Int))) (Or.inr h3)) rfl rfl ?_
          refine r_op rfl rfl (PureD.opD (p_pkt rfl rfl (decide_eq_true (p := ((user1 < (0 : Int)) ∨ (user1 ≥ (3 : Int))) ∨ (e2 < (0 : Int))) (Or.inr h3)) (tb (decide_eq_true (p := (((user1 < (0 : Int)) ∨ (user1 ≥ (3 : Int))) ∨ (e2 < (0 : Int))) ∨ (e2 > (12 : Int))) (Or.inl (Or.inr h3))).symm))) ?_
          refine RunW_st [(0, .c (.p (AV.int mode0))), (1, .c (.p (AV.int user1))), (2, .c (.p (AV.int e2))), (3, .c (.p (AV.txt text3))), (25, .c (.p (.bool (decide ((((user1 < (0 : Int)) ∨ (user1 ≥ (3 : Int))) ∨ (e2 < (0 : Int))) ∨ (e2 > (12 : Int)))))))] [] rfl ⟨TLes.same _, TLes.same _, TLes.same _, TLes.same _, TLes.same _, trivial⟩ trivial ?_
          exact RunW_nil rfl
        · refine r_on rfl rfl rfl rfl (decide_eq_false (p := ((user1 < (0 : Int)) ∨ (user1 ≥ (3 : Int))) ∨ (e2 < (0 : Int))) (not_or.2 ⟨(not_or.2 ⟨h1, h2⟩), h3⟩)) rfl (PureD.opD (p_move rfl rfl)) ?_
          refine r_on rfl rfl rfl rfl (decide_eq_false (p := ((user1 < (0 : Int)) ∨ (user1 ≥ (3 : Int))) ∨ (e2 < (0 : Int))) (not_or.2 ⟨(not_or.2 ⟨h1, h2⟩), h3⟩)) rfl (PureD.opD (p_bin rfl rfl rfl rfl)) ?_
          refine r_op rfl rfl (PureD.opD (p_pkf rfl rfl (decide_eq_false (p := ((user1 < (0 : Int)) ∨ (user1 ≥ (3 : Int))) ∨ (e2 < (0 : Int))) (not_or.2 ⟨(not_or.2 ⟨h1, h2⟩), h3⟩)) (tb ((or_l (p := ((user1 < (0 : Int)) ∨ (user1 ≥ (3 : Int))) ∨ (e2 < (0 : Int))) (q := e2 > (12 : Int)) (not_or.2 ⟨(not_or.2 ⟨h1, h2⟩), h3⟩)))))) ?_
          refine RunW_st [(0, .c (.p (AV.int mode0))), (1, .c (.p (AV.int user1))), (2, .c (.p (AV.int e2))), (3, .c (.p (AV.txt text3))), (25, .c (.p (.bool (decide ((((user1 < (0 : Int)) ∨ (user1 ≥ (3 : Int))) ∨ (e2 < (0 : Int))) ∨ (e2 > (12 : Int)))))))] [] rfl ⟨TLes.same _, TLes.same _, TLes.same _, TLes.same _, TLes.same _, trivial⟩ trivial ?_
          exact RunW_nil rfl
  · refine AW2_if (p := (((user1 < (0 : Int)) ∨ (user1 ≥ (3 : Int))) ∨ (e2 < (0 : Int))) ∨ (e2 > (12 : Int))) rfl (fun h4 => ?_) (fun h4 => ?_)
    · replace H := ite_then h4 H
      refine AW2_seq ?_
      refine AW2_reg [0, 1] rfl ?_
      refine r_op rfl rfl (PureD.opD (p_asgn rfl)) ?_
      refine r_op rfl rfl (PureD.opD (p_asg rfl rfl)) ?_
      refine RunW_st [(8, .c (.p .nil)), (9, .c (.p (AV.int (6 : Int))))] [] rfl ⟨TLes.same _, TLes.same _, trivial⟩ trivial ?_
      refine RunW_nil ?_
      refine AW2_ret ?_
      have hz := some_elim H
      subst hz
      exact ⟨⟨res_tmp TLes.nil0, res_tmp (.same _), trivial⟩, trivial⟩
    · replace H := ite_else h4 H
      refine AW2_st [(0, .c (.p (AV.int mode0))), (1, .c (.p (AV.int user1))), (2, .c (.p (AV.int e2))), (3, .c (.p (AV.txt text3)))] [] rfl ⟨TLes.same _, TLes.same _, TLes.same _, TLes.same _, trivial⟩ trivial ?_
      refine AW2_skip ?_
      refine AW2_seq ?_
      refine AW2_seq ?_
      refine AW2_reg [0, 1, 2] rfl ?_
      refine r_op rfl rfl (PureD.opD (p_move rfl rfl)) ?_
      refine r_op rfl rfl (PureD.opD (p_lent rfl Tryd.underlying9 rfl)) ?_
      refine r_op rfl rfl (PureD.opD (p_bin rfl rfl rfl rfl)) ?_
      refine RunW_st [(0, .c (.p (AV.int mode0))), (1, .c (.p (AV.int user1))), (2, .c (.p (AV.int e2))), (3, .c (.p (AV.txt text3))), (28, .c (.p (.bool (decide ((text3.length : Int) > (300 : Int))))))] [] rfl ⟨TLes.same _, TLes.same _, TLes.same _, TLes.same _, TLes.same _, trivial⟩ trivial ?_
      refine RunW_nil ?_
      refine AW2_if (p := (text3.length : Int) > (300 : Int)) rfl (fun h5 => ?_) (fun h5 => ?_)
      · replace H := ite_then h5 H
        refine AW2_seq ?_
        refine AW2_reg [0, 1] rfl ?_
        refine r_op rfl rfl (PureD.opD (p_asgn rfl)) ?_
        refine r_op rfl rfl (PureD.opD (p_asg rfl rfl)) ?_
        refine RunW_st [(8, .c (.p .nil)), (9, .c (.p (AV.int (1 : Int))))] [] rfl ⟨TLes.same _, TLes.same _, trivial⟩ trivial ?_
        refine RunW_nil ?_
        refine AW2_ret ?_
        have hz := some_elim H
        subst hz
        exact ⟨⟨res_tmp TLes.nil0, res_tmp (.same _), trivial⟩, trivial⟩
      · replace H := ite_else h5 H
        refine AW2_st [(0, .c (.p (AV.int mode0))), (1, .c (.p (AV.int user1))), (2, .c (.p (AV.int e2))), (3, .c (.p (AV.txt text3)))] [] rfl ⟨TLes.same _, TLes.same _, TLes.same _, TLes.same _, trivial⟩ trivial ?_
        refine AW2_skip ?_
        refine AW2_seq ?_
        refine AW2_reg [0, 1, 2, 3, 4, 5, 6, 7, 8, 9] rfl ?_
        refine r_op rfl rfl (PureD.opD (p_move rfl rfl)) ?_
        refine r_op rfl rfl (PureD.opD (p_move rfl rfl)) ?_
        refine r_op rfl rfl (MakeD.opD (n_sb 32 rfl Tryd.underlying9 Tryd.underlying22 Tryd.underlying5 rfl) rfl rfl rfl rfl) ?_
        refine RunW_gho (Gho_pubs [32] ⟨rfl, trivial⟩ rfl (bl text3) (by decide)) ?_
        refine r_op rfl rfl (MakeD.opD (u_bs 33 rfl Tryd.underlying44 in_22 rfl one_22 (by decide) (by decide) rfl rfl rfl) rfl rfl rfl rfl) ?_
        refine RunW_st [(0, .c (.p (AV.int mode0))), (1, .c (.p (AV.int user1))), (2, .c (.p (AV.int e2))), (3, .c (.p (AV.txt text3))), (30, .c (.p (AV.int mode0))), (31, .c (.p (AV.txt text3))), (32, .c (.p (AV.bytes text3))), (33, .c (.own 33 ([text3] : List (List UInt8)).length 1))] [(33, .pure (([text3] : List (List UInt8)).map AV.bytes))] rfl ⟨TLes.same _, TLes.same _, TLes.same _, TLes.same _, TLes.same _, TLes.same _, TLes.same _, TLes.own rfl, trivial⟩ ⟨rfl, trivial⟩ ?_
        refine RunW_gho (Gho_pubs [33] ⟨rfl, trivial⟩ rfl (ml AV.bytes ([text3] : List (List UInt8))) (by decide)) ?_
        refine bindK H fun r'1 h6 H => ?_
        refine r_op rfl rfl (PureD.opD (p_callp rfl rfl rfl Tryd.func25 rfl rfl (g_oracle_Digest_ac h6) ⟨rfl, rfl, rfl, trivial⟩)) ?_
        refine r_op rfl rfl (PureD.opD (p_move rfl rfl)) ?_
        refine r_op rfl rfl (PureD.opD (p_ext rfl rfl rfl rfl)) ?_
        refine r_op rfl rfl (PureD.opD (p_ext rfl rfl rfl rfl)) ?_
        refine r_op rfl rfl (PureD.opD (p_asg rfl rfl)) ?_
        refine r_op rfl rfl (PureD.opD (p_asg rfl rfl)) ?_
        refine RunW_st [(1, .c (.p (AV.int user1))), (2, .c (.p (AV.int e2))), (10, .c (.p (AV.bytes r'1.1))), (11, .c (.p (AV.int r'1.2)))] [] rfl ⟨TLes.same _, TLes.same _, TLes.same _, TLes.same _, trivial⟩ trivial ?_
        refine RunW_nil ?_
        refine AW2_seq ?_
        refine AW2_seq ?_
        refine AW2_reg [0, 1] rfl ?_
        refine r_op rfl rfl (PureD.opD (p_move rfl rfl)) ?_
        refine r_op rfl rfl (PureD.opD (p_ine rfl rfl rfl)) ?_
        refine RunW_st [(1, .c (.p (AV.int user1))), (2, .c (.p (AV.int e2))), (10, .c (.p (AV.bytes r'1.1))), (11, .c (.p (AV.int r'1.2))), (38, .c (.p (.bool (decide (r'1.2 ≠ (0 : Int))))))] [] rfl ⟨TLes.same _, TLes.same _, TLes.same _, TLes.same _, TLes.same _, trivial⟩ trivial ?_
        refine RunW_nil ?_
        refine AW2_if (p := r'1.2 ≠ (0 : Int)) rfl (fun h7 => ?_) (fun h7 => ?_)
        · replace H := ite_then h7 H
          refine AW2_seq ?_
          refine AW2_reg [0, 1, 2] rfl ?_
          refine r_op rfl rfl (PureD.opD (p_move rfl rfl)) ?_
          refine r_op rfl rfl (PureD.opD (p_asgn rfl)) ?_
          refine r_op rfl rfl (PureD.opD (p_asg rfl rfl)) ?_
          refine RunW_st [(8, .c (.p .nil)), (9, .c (.p (AV.int r'1.2)))] [] rfl ⟨TLes.same _, TLes.same _, trivial⟩ trivial ?_
          refine RunW_nil ?_
          refine AW2_ret ?_
          have hz := some_elim H
          subst hz
          exact ⟨⟨res_tmp TLes.nil0, res_tmp (.same _), trivial⟩, trivial⟩
        · replace H := ite_else h7 H
          refine AW2_st [(1, .c (.p (AV.int user1))), (2, .c (.p (AV.int e2))), (10, .c (.p (AV.bytes r'1.1)))] [] rfl ⟨TLes.same _, TLes.same _, TLes.same _, trivial⟩ trivial ?_
          refine AW2_skip ?_
          refine AW2_seq ?_
          refine AW2_reg [0, 1, 2, 3, 4, 5, 6, 7, 8] rfl ?_
          refine r_op rfl rfl (PureD.opD (p_move rfl rfl)) ?_
          refine r_op rfl rfl (PureD.opD (p_i_u8 rfl Tryd.underlying3 Tryd.underlying5 rfl)) ?_
          refine r_op rfl rfl (PureD.opD (p_move rfl rfl)) ?_
          refine r_op rfl rfl (PureD.opD (p_i_u8 rfl Tryd.underlying31 Tryd.underlying5 rfl)) ?_
          refine r_op rfl rfl (MakeD.opD (u_bs 44 rfl Tryd.underlying22 in_5 rfl one_5 (by decide) (by decide) rfl rfl rfl) rfl rfl rfl rfl) ?_
          refine r_op rfl rfl (PureD.opD (p_move rfl rfl)) ?_
          refine chkK H fun h8 H => ?_
          refine r_op rfl rfl (u_app [44] rfl rfl rfl rfl Tryd.underlying22 Tryd.underlying22 in_5 rfl rfl rfl (bl ([UInt8.ofInt user1, UInt8.ofInt e2] : List UInt8)) (by decide) rfl (bl r'1.1) h8 (by decide) rfl rfl (bapp ([UInt8.ofInt user1, UInt8.ofInt e2] : List UInt8) r'1.1) (lapp ([UInt8.ofInt user1, UInt8.ofInt e2] : List UInt8) r'1.1)) ?_
          refine r_op rfl rfl (PureD.opD (p_asg rfl rfl)) ?_
          refine r_op rfl rfl (PureD.opD (p_asg rfl rfl)) ?_
          refine RunW_st [(8, .c (.own 44 (([UInt8.ofInt user1, UInt8.ofInt e2] : List UInt8) ++ r'1.1).length 1)), (9, .c (.p (AV.int (0 : Int))))] [(44, .pure (bcells (([UInt8.ofInt user1, UInt8.ofInt e2] : List UInt8) ++ r'1.1)))] rfl ⟨TLes.same _, TLes.same _, trivial⟩ ⟨rfl, trivial⟩ ?_
          refine RunW_gho (Gho_ren 44 8 rfl rfl rfl rfl rfl) ?_
          refine RunW_st [(8, .c (.own 8 (([UInt8.ofInt user1, UInt8.ofInt e2] : List UInt8) ++ r'1.1).length 1)), (9, .c (.p (AV.int (0 : Int))))] [(8, .pure (bcells (([UInt8.ofInt user1, UInt8.ofInt e2] : List UInt8) ++ r'1.1)))] rfl ⟨TLes.same _, TLes.same _, trivial⟩ ⟨rfl, trivial⟩ ?_
          refine RunW_nil ?_
          refine AW2_gho (Gho_pubs [8] ⟨rfl, trivial⟩ rfl (bl (([UInt8.ofInt user1, UInt8.ofInt e2] : List UInt8) ++ r'1.1)) (by decide)) ?_
          refine AW2_ret ?_
          have hz := some_elim H
          subst hz
          exact ⟨⟨res_tmp (.same _), res_tmp (.same _), trivial⟩, trivial⟩
end Go.Proofs.YtoepdjccgngpdaaDoor.VM
