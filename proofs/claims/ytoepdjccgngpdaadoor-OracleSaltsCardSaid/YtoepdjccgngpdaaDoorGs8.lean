/- Functions of the program, as they answer, and that their code comes to these answers. -/
import Derived.Test.YtoepdjccgngpdaaDoorGs7
namespace Go.Proofs.YtoepdjccgngpdaaDoor.VM
open Go Go.RowKit

set_option maxRecDepth 100000 in
theorem ty_31 {d : Nat} {cs : List AV} (h : Typed Tryd.prog (d + 1) 31 cs) : ∃ x : Int, cs = [(AV.int x)] ∧ okI x := ty_int Tryd.underlying31 h
set_option maxRecDepth 100000 in
theorem ty_9 {d : Nat} {cs : List AV} (h : Typed Tryd.prog (d + 1) 9 cs) : ∃ x : List UInt8, cs = [(AV.txt x)] ∧ okT x := ty_text Tryd.underlying9 h

/-! chirographref.AuditData -/
noncomputable def g_ref_AuditData (mode0 : Int) (user1 : Int) (e2 : Int) (text3 : List UInt8) : Option ((List UInt8) × Int) :=
  (if (((user1 < (0 : Int)) ∨ (user1 ≥ (3 : Int))) ∨ (e2 < (0 : Int))) ∨ (e2 > (12 : Int)) then some (([] : List UInt8), (6 : Int)) else (if (text3.length : Int) > (300 : Int) then some (([] : List UInt8), (1 : Int)) else (g_ref_DigestOf mode0 (9 : Int) ([text3] : List (List UInt8))).bind fun r'1 => (if r'1.2 ≠ (0 : Int) then some (([] : List UInt8), r'1.2) else (g_ref_big (UInt64.ofInt user1) (1 : Int)).bind fun r'2 => (g_ref_big (UInt64.ofInt e2) (1 : Int)).bind fun r'3 => if r'2.length + r'3.length ≤ 9223372036854775807 then if (r'2 ++ r'3).length + r'1.1.length ≤ 9223372036854775807 then some ((r'2 ++ r'3) ++ r'1.1, (0 : Int)) else none else none)))
set_option maxHeartbeats 4000000 in
set_option maxRecDepth 100000 in
theorem g_ref_AuditData_ac2 {mode0 : Int} {user1 : Int} {e2 : Int} {text3 : List UInt8} {r : (List UInt8) × Int} (H : g_ref_AuditData mode0 user1 e2 text3 = some r) : AC2 Tryd.prog 30 (pureT [(AV.int mode0), (AV.int user1), (AV.int e2), (AV.txt text3)]) [] (retV [.c (.own 8 r.1.length 1), .c (.p (AV.int r.2))]) [(8, .pure (bcells r.1))] := by
  refine AC2_of_body (vs := [.c (.own 8 r.1.length 1), .c (.p (AV.int r.2))]) Tryd.func30 rfl rfl (Nat.le_of_ble_eq_true rfl) rfl ?_
  unfold g_ref_AuditData at H
  refine AW2_st [(0, .c (.p (AV.int mode0))), (1, .c (.p (AV.int user1))), (2, .c (.p (AV.int e2))), (3, .c (.p (AV.txt text3)))] [] rfl ⟨TLes.same _, TLes.same _, TLes.same _, TLes.same _, trivial⟩ trivial ?_
  refine AW2_seq ?_
  refine AW2_reg [0, 1] rfl ?_
  refine r_op rfl rfl (PureD.opD (p_asgn rfl)) ?_
  refine r_op rfl rfl (PureD.opD (p_asg rfl rfl)) ?_
  refine RunW_st [(0, .c (.p (AV.int mode0))), (1, .c (.p (AV.int user1))), (2, .c (.p (AV.int e2))), (3, .c (.p (AV.txt text3)))] [] rfl ⟨TLes.same _, TLes.same _, TLes.same _, TLes.same _, trivial⟩ trivial ?_
  refine RunW_nil ?_
  refine AW2_seq ?_
  refine AW2_seq ?_
  refine AW2_mid (⟨[(0, .c (.p (AV.int mode0))), (1, .c (.p (AV.int user1))), (2, .c (.p (AV.int e2))), (3, .c (.p (AV.txt text3))), (25, .c (.p (.bool (decide ((((user1 < (0 : Int)) ∨ (user1 ≥ (3 : Int))) ∨ (e2 < (0 : Int))) ∨ (e2 > (12 : Int)))))))], [], 51⟩ : TS) ?_ ?_
  · refine AW2_reg [0, 1, 2, 3, 4, 5, 6, 7, 8, 9, 10, 11, 12, 13] rfl ?_
    refine r_op rfl rfl (PureD.opD (p_move rfl rfl)) ?_
    refine r_op rfl rfl (PureD.opD (p_bin rfl rfl rfl rfl)) ?_
    refine r_op rfl rfl (PureD.opD (p_move rfl rfl)) ?_
    refine (Classical.em (user1 < (0 : Int))).elim (fun h1 => ?_) (fun h1 => ?_)
    · refine r_off rfl rfl rfl rfl (decide_eq_true (p := user1 < (0 : Int)) h1) rfl rfl ?_
      refine r_off rfl rfl rfl rfl (decide_eq_true (p := user1 < (0 : Int)) h1) rfl rfl ?_
      refine r_op rfl rfl (PureD.opD (p_pkt rfl rfl (decide_eq_true (p := user1 < (0 : Int)) h1) (tb (decide_eq_true (p := (user1 < (0 : Int)) ∨ (user1 ≥ (3 : Int))) (Or.inl h1)).symm))) ?_
      refine r_op rfl rfl (PureD.opD (p_move rfl rfl)) ?_
      refine r_off rfl rfl rfl rfl (decide_eq_true (p := (user1 < (0 : Int)) ∨ (user1 ≥ (3 : Int))) (Or.inl h1)) rfl rfl ?_
      refine r_off rfl rfl rfl rfl (decide_eq_true (p := (user1 < (0 : Int)) ∨ (user1 ≥ (3 : Int))) (Or.inl h1)) rfl rfl ?_
      refine r_op rfl rfl (PureD.opD (p_pkt rfl rfl (decide_eq_true (p := (user1 < (0 : Int)) ∨ (user1 ≥ (3 : Int))) (Or.inl h1)) (tb (decide_eq_true (p := ((user1 < (0 : Int)) ∨ (user1 ≥ (3 : Int))) ∨ (e2 < (0 : Int))) (Or.inl (Or.inl h1))).symm))) ?_
      refine r_op rfl rfl (PureD.opD (p_move rfl rfl)) ?_
      refine r_off rfl rfl rfl rfl (decide_eq_true (p := ((user1 < (0 : Int)) ∨ (user1 ≥ (3 : Int))) ∨ (e2 < (0 : Int))) (Or.inl (Or.inl h1))) rfl rfl ?_
      refine r_off rfl rfl rfl rfl (decide_eq_true (p := ((user1 < (0 : Int)) ∨ (user1 ≥ (3 : Int))) ∨ (e2 < (0 : Int))) (Or.inl (Or.inl h1))) rfl rfl ?_
      refine r_op rfl rfl (PureD.opD (p_pkt rfl rfl (decide_eq_true (p := ((user1 < (0 : Int)) ∨ (user1 ≥ (3 : Int))) ∨ (e2 < (0 : Int))) (Or.inl (Or.inl h1))) (tb (decide_eq_true (p := (((user1 < (0 : Int)) ∨ (user1 ≥ (3 : Int))) ∨ (e2 < (0 : Int))) ∨ (e2 > (12 : Int))) (Or.inl (Or.inl (Or.inl h1)))).symm))) ?_
      refine RunW_st [(0, .c (.p (AV.int mode0))), (1, .c (.p (AV.int user1))), (2, .c (.p (AV.int e2))), (3, .c (.p (AV.txt text3))), (25, .c (.p (.bool (decide ((((user1 < (0 : Int)) ∨ (user1 ≥ (3 : Int))) ∨ (e2 < (0 : Int))) ∨ (e2 > (12 : Int)))))))] [] rfl ⟨TLes.same _, TLes.same _, TLes.same _, TLes.same _, TLes.same _, trivial⟩ trivial ?_
      exact RunW_nil rfl
    · refine r_on rfl rfl rfl rfl (decide_eq_false (p := user1 < (0 : Int)) h1) rfl (PureD.opD (p_move rfl rfl)) ?_
      refine r_on rfl rfl rfl rfl (decide_eq_false (p := user1 < (0 : Int)) h1) rfl (PureD.opD (p_bin rfl rfl rfl rfl)) ?_
      refine r_op rfl rfl (PureD.opD (p_pkf rfl rfl (decide_eq_false (p := user1 < (0 : Int)) h1) (tb ((or_l (p := user1 < (0 : Int)) (q := user1 ≥ (3 : Int)) h1))))) ?_
      refine r_op rfl rfl (PureD.opD (p_move rfl rfl)) ?_
      refine (Classical.em (user1 ≥ (3 : Int))).elim (fun h2 => ?_) (fun h2 => ?_)
      · refine r_off rfl rfl rfl rfl (decide_eq_true (p := (user1 < (0 : Int)) ∨ (user1 ≥ (3 : Int))) (Or.inr h2)) rfl rfl ?_
        refine r_off rfl rfl rfl rfl (decide_eq_true (p := (user1 < (0 : Int)) ∨ (user1 ≥ (3 : Int))) (Or.inr h2)) rfl rfl ?_
        refine r_op rfl rfl (PureD.opD (p_pkt rfl rfl (decide_eq_true (p := (user1 < (0 : Int)) ∨ (user1 ≥ (3 : Int))) (Or.inr h2)) (tb (decide_eq_true (p := ((user1 < (0 : Int)) ∨ (user1 ≥ (3 : Int))) ∨ (e2 < (0 : Int))) (Or.inl (Or.inr h2))).symm))) ?_
        refine r_op rfl rfl (PureD.opD (p_move rfl rfl)) ?_
        refine r_off rfl rfl rfl rfl (decide_eq_true (p := ((user1 < (0 : Int)) ∨ (user1 ≥ (3 : Int))) ∨ (e2 < (0 : Int))) (Or.inl (Or.inr h2))) rfl rfl ?_
        refine r_off rfl rfl rfl rfl (decide_eq_true (p := ((user1 < (0 : Int)) ∨ (user1 ≥ (3 : Int))) ∨ (e2 < (0 : Int))) (Or.inl (Or.inr h2))) rfl rfl ?_
        refine r_op rfl rfl (PureD.opD (p_pkt rfl rfl (decide_eq_true (p := ((user1 < (0 : Int)) ∨ (user1 ≥ (3 : Int))) ∨ (e2 < (0 : Int))) (Or.inl (Or.inr h2))) (tb (decide_eq_true (p := (((user1 < (0 : Int)) ∨ (user1 ≥ (3 : Int))) ∨ (e2 < (0 : Int))) ∨ (e2 > (12 : Int))) (Or.inl (Or.inl (Or.inr h2)))).symm))) ?_
        refine RunW_st [(0, .c (.p (AV.int mode0))), (1, .c (.p (AV.int user1))), (2, .c (.p (AV.int e2))), (3, .c (.p (AV.txt text3))), (25, .c (.p (.bool (decide ((((user1 < (0 : Int)) ∨ (user1 ≥ (3 : Int))) ∨ (e2 < (0 : Int))) ∨ (e2 > (12 : Int)))))))] [] rfl ⟨TLes.same _, TLes.same _, TLes.same _, TLes.same _, TLes.same _, trivial⟩ trivial ?_
        exact RunW_nil rfl
      · refine r_on rfl rfl rfl rfl (decide_eq_false (p := (user1 < (0 : Int)) ∨ (user1 ≥ (3 : Int))) (not_or.2 ⟨h1, h2⟩)) rfl (PureD.opD (p_move rfl rfl)) ?_
        refine r_on rfl rfl rfl rfl (decide_eq_false (p := (user1 < (0 : Int)) ∨ (user1 ≥ (3 : Int))) (not_or.2 ⟨h1, h2⟩)) rfl (PureD.opD (p_bin rfl rfl rfl rfl)) ?_
        refine r_op rfl rfl (PureD.opD (p_pkf rfl rfl (decide_eq_false (p := (user1 < (0 : Int)) ∨ (user1 ≥ (3 : Int))) (not_or.2 ⟨h1, h2⟩)) (tb ((or_l (p := (user1 < (0 : Int)) ∨ (user1 ≥ (3 : Int))) (q := e2 < (0 : Int)) (not_or.2 ⟨h1, h2⟩)))))) ?_
        refine r_op rfl rfl (PureD.opD (p_move rfl rfl)) ?_
        refine (Classical.em (e2 < (0 : Int))).elim (fun h3 => ?_) (fun h3 => ?_)
        · refine r_off rfl rfl rfl rfl (decide_eq_true (p := ((user1 < (0 : Int)) ∨ (user1 ≥ (3 : Int))) ∨ (e2 < (0 : Int))) (Or.inr h3)) rfl rfl ?_
          refine r_off rfl rfl rfl rfl (decide_eq_true (p := ((user1 < (0 : Int)) ∨ (user1 ≥ (3 : Int))) ∨ (e2 < (0 : Int))) (Or.inr h3)) rfl rfl ?_
          refine r_op rfl rfl (PureD.opD (p_pkt rfl rfl (decide_eq_true (p := ((user1 < (0 : Int)) ∨ (user1 ≥ (3 : Int))) ∨ (e2 < (0 : Int))) (Or.inr h3)) (tb (decide_eq_true (p := (((user1 < (0 : Int)) ∨ (user1 ≥ (3 : Int))) ∨ (e2 < (0 : Int))) ∨ (e2 > (12 : Int))) (Or.inl (Or.inr h3))).symm))) ?_
          refine RunW_st [(0, .c (.p (AV.int mode0))), (1, .c (.p (AV.int user1))), (2, .c (.p (AV.int e2))), (3, .c (.p (AV.txt text3))), (25, .c (.p (.bool (decide ((((user1 < (0 : Int)) ∨ (user1 ≥ (3 : Int))) ∨ (e2 < (0 : Int))) ∨ (e2 > (12 : Int)))))))] [] rfl ⟨TLes.same _, TLes.same _, TLes.same _, TLes.same _, TLes.same _, trivial⟩ trivial ?_
          exact RunW_nil rfl
        · refine r_on rfl rfl rfl rfl (decide_eq_false (p := ((user1 < (0 : Int)) ∨ (user1 ≥ (3 : Int))) ∨ (e2 < (0 : Int))) (not_or.2 ⟨(not_or.2 ⟨h1, h2⟩), h3⟩)) rfl (PureD.opD (p_move rfl rfl)) ?_
          refine r_on rfl rfl rfl rfl (decide_eq_false (p := ((user1 < (0 : Int)) ∨ (user1 ≥ (3 : Int))) ∨ (e2 < (0 : Int))) (not_or.2 ⟨(not_or.2 ⟨h1, h2⟩), h3⟩)) rfl (PureD.opD (p_bin rfl rfl rfl rfl)) ?_
          refine r_op rfl rfl (PureD.opD (p_pkf rfl rfl (decide_eq_false (p := ((user1 < (0 : Int)) ∨ (user1 ≥ (3 : Int))) ∨ (e2 < (0 : Int))) (not_or.2 ⟨(not_or.2 ⟨h1, h2⟩), h3⟩)) (tb ((or_l (p := ((user1 < (0 : Int)) ∨ (user1 ≥ (3 : Int))) ∨ (e2 < (0 : Int))) (q := e2 > (12 : Int)) (not_or.2 ⟨(not_or.2 ⟨h1, h2⟩), h3⟩)))))) ?_
          refine RunW_st [(0, .c (.p (AV.int mode0))), (1, .c (.p (AV.int user1))), (2, .c (.p (AV.int e2))), (3, .c (.p (AV.txt text3))), (25, .c (.p (.bool (decide ((((user1 < (0 : Int)) ∨ (user1 ≥ (3 : Int))) ∨ (e2 < (0 : Int))) ∨ (e2 > (12 : Int)))))))] [] rfl ⟨TLes.same _, TLes.same _, TLes.same _, TLes.same _, TLes.same _, trivial⟩ trivial ?_
          exact RunW_nil rfl
  · refine AW2_if (p := (((user1 < (0 : Int)) ∨ (user1 ≥ (3 : Int))) ∨ (e2 < (0 : Int))) ∨ (e2 > (12 : Int))) rfl (fun h4 => ?_) (fun h4 => ?_)
    · replace H := ite_then h4 H
      refine AW2_seq ?_
      refine AW2_reg [0, 1] rfl ?_
      refine r_op rfl rfl (PureD.opD (p_asgn rfl)) ?_
      refine r_op rfl rfl (PureD.opD (p_asg rfl rfl)) ?_
      refine RunW_st [(8, .c (.p .nil)), (9, .c (.p (AV.int (6 : Int))))] [] rfl ⟨TLes.same _, TLes.same _, trivial⟩ trivial ?_
      refine RunW_nil ?_
      refine AW2_st [(8, .c (.p .nil)), (9, .c (.p (AV.int (6 : Int))))] [] rfl ⟨TLes.same _, TLes.same _, trivial⟩ trivial ?_
      refine AW2_gho (Gho_own (d := 8) (b := 8) (z := 1) rfl rfl rfl rfl) ?_
      refine AW2_st [(8, .c (.own 8 ([] : List UInt8).length 1)), (9, .c (.p (AV.int (6 : Int))))] [(8, .pure (bcells ([] : List UInt8)))] rfl ⟨TLes.own rfl, TLes.same _, trivial⟩ ⟨rfl, trivial⟩ ?_
      refine AW2_ret ?_
      have hz := some_elim H
      subst hz
      exact ⟨⟨res_tmp (.same _), res_tmp (.same _), trivial⟩, ⟨rfl, trivial⟩⟩
    · replace H := ite_else h4 H
      refine AW2_st [(0, .c (.p (AV.int mode0))), (1, .c (.p (AV.int user1))), (2, .c (.p (AV.int e2))), (3, .c (.p (AV.txt text3)))] [] rfl ⟨TLes.same _, TLes.same _, TLes.same _, TLes.same _, trivial⟩ trivial ?_
      refine AW2_skip ?_
      refine AW2_seq ?_
      refine AW2_seq ?_
      refine AW2_reg [0, 1, 2] rfl ?_
      refine r_op rfl rfl (PureD.opD (p_move rfl rfl)) ?_
      refine r_op rfl rfl (PureD.opD (p_lent rfl Tryd.underlying9 rfl)) ?_
      refine r_op rfl rfl (PureD.opD (p_bin rfl rfl rfl rfl)) ?_
      refine RunW_st [(0, .c (.p (AV.int mode0))), (1, .c (.p (AV.int user1))), (2, .c (.p (AV.int e2))), (3, .c (.p (AV.txt text3))), (28, .c (.p (.bool (decide ((text3.length : Int) > (300 : Int))))))] [] rfl ⟨TLes.same _, TLes.same _, TLes.same _, TLes.same _, TLes.same _, trivial⟩ trivial ?_
      refine RunW_nil ?_
      refine AW2_if (p := (text3.length : Int) > (300 : Int)) rfl (fun h5 => ?_) (fun h5 => ?_)
      · replace H := ite_then h5 H
        refine AW2_seq ?_
        refine AW2_reg [0, 1] rfl ?_
        refine r_op rfl rfl (PureD.opD (p_asgn rfl)) ?_
        refine r_op rfl rfl (PureD.opD (p_asg rfl rfl)) ?_
        refine RunW_st [(8, .c (.p .nil)), (9, .c (.p (AV.int (1 : Int))))] [] rfl ⟨TLes.same _, TLes.same _, trivial⟩ trivial ?_
        refine RunW_nil ?_
        refine AW2_st [(8, .c (.p .nil)), (9, .c (.p (AV.int (1 : Int))))] [] rfl ⟨TLes.same _, TLes.same _, trivial⟩ trivial ?_
        refine AW2_gho (Gho_own (d := 8) (b := 8) (z := 1) rfl rfl rfl rfl) ?_
        refine AW2_st [(8, .c (.own 8 ([] : List UInt8).length 1)), (9, .c (.p (AV.int (1 : Int))))] [(8, .pure (bcells ([] : List UInt8)))] rfl ⟨TLes.own rfl, TLes.same _, trivial⟩ ⟨rfl, trivial⟩ ?_
        refine AW2_ret ?_
        have hz := some_elim H
        subst hz
        exact ⟨⟨res_tmp (.same _), res_tmp (.same _), trivial⟩, ⟨rfl, trivial⟩⟩
      · replace H := ite_else h5 H
        refine AW2_st [(0, .c (.p (AV.int mode0))), (1, .c (.p (AV.int user1))), (2, .c (.p (AV.int e2))), (3, .c (.p (AV.txt text3)))] [] rfl ⟨TLes.same _, TLes.same _, TLes.same _, TLes.same _, trivial⟩ trivial ?_
        refine AW2_skip ?_
        refine AW2_seq ?_
        refine AW2_reg [0, 1, 2, 3, 4, 5, 6, 7, 8, 9] rfl ?_
        refine r_op rfl rfl (PureD.opD (p_move rfl rfl)) ?_
        refine r_op rfl rfl (PureD.opD (p_move rfl rfl)) ?_
        refine r_op rfl rfl (MakeD.opD (n_sb 32 rfl Tryd.underlying9 Tryd.underlying22 Tryd.underlying5 rfl) rfl rfl rfl rfl) ?_
        refine RunW_gho (Gho_pubs [32] ⟨rfl, trivial⟩ rfl (bl text3) (by decide)) ?_
        refine r_op rfl rfl (MakeD.opD (u_bs 33 rfl Tryd.underlying44 in_22 rfl one_22 (by decide) (by decide) rfl rfl rfl) rfl rfl rfl rfl) ?_
        refine RunW_st [(0, .c (.p (AV.int mode0))), (1, .c (.p (AV.int user1))), (2, .c (.p (AV.int e2))), (3, .c (.p (AV.txt text3))), (30, .c (.p (AV.int mode0))), (31, .c (.p (AV.txt text3))), (32, .c (.p (AV.bytes text3))), (33, .c (.own 33 ([text3] : List (List UInt8)).length 1))] [(33, .pure (([text3] : List (List UInt8)).map AV.bytes))] rfl ⟨TLes.same _, TLes.same _, TLes.same _, TLes.same _, TLes.same _, TLes.same _, TLes.same _, TLes.own rfl, trivial⟩ ⟨rfl, trivial⟩ ?_
        refine RunW_gho (Gho_pubs [33] ⟨rfl, trivial⟩ rfl (ml AV.bytes ([text3] : List (List UInt8))) (by decide)) ?_
        refine bindK H fun r'1 h6 H => ?_
        refine r_op rfl rfl (PureD.opD (p_callp rfl rfl rfl Tryd.func26 rfl rfl (g_ref_DigestOf_ac h6) ⟨rfl, rfl, rfl, trivial⟩)) ?_
        refine r_op rfl rfl (PureD.opD (p_move rfl rfl)) ?_
        refine r_op rfl rfl (PureD.opD (p_ext rfl rfl rfl rfl)) ?_
        refine r_op rfl rfl (PureD.opD (p_ext rfl rfl rfl rfl)) ?_
        refine r_op rfl rfl (PureD.opD (p_asg rfl rfl)) ?_
        refine r_op rfl rfl (PureD.opD (p_asg rfl rfl)) ?_
        refine RunW_st [(1, .c (.p (AV.int user1))), (2, .c (.p (AV.int e2))), (10, .c (.p (AV.bytes r'1.1))), (11, .c (.p (AV.int r'1.2)))] [] rfl ⟨TLes.same _, TLes.same _, TLes.same _, TLes.same _, trivial⟩ trivial ?_
        refine RunW_nil ?_
        refine AW2_seq ?_
        refine AW2_seq ?_
        refine AW2_reg [0, 1] rfl ?_
        refine r_op rfl rfl (PureD.opD (p_move rfl rfl)) ?_
        refine r_op rfl rfl (PureD.opD (p_ine rfl rfl rfl)) ?_
        refine RunW_st [(1, .c (.p (AV.int user1))), (2, .c (.p (AV.int e2))), (10, .c (.p (AV.bytes r'1.1))), (11, .c (.p (AV.int r'1.2))), (38, .c (.p (.bool (decide (r'1.2 ≠ (0 : Int))))))] [] rfl ⟨TLes.same _, TLes.same _, TLes.same _, TLes.same _, TLes.same _, trivial⟩ trivial ?_
        refine RunW_nil ?_
        refine AW2_if (p := r'1.2 ≠ (0 : Int)) rfl (fun h7 => ?_) (fun h7 => ?_)
        · replace H := ite_then h7 H
          refine AW2_seq ?_
          refine AW2_reg [0, 1, 2] rfl ?_
          refine r_op rfl rfl (PureD.opD (p_move rfl rfl)) ?_
          refine r_op rfl rfl (PureD.opD (p_asgn rfl)) ?_
          refine r_op rfl rfl (PureD.opD (p_asg rfl rfl)) ?_
          refine RunW_st [(8, .c (.p .nil)), (9, .c (.p (AV.int r'1.2)))] [] rfl ⟨TLes.same _, TLes.same _, trivial⟩ trivial ?_
          refine RunW_nil ?_
          refine AW2_st [(8, .c (.p .nil)), (9, .c (.p (AV.int r'1.2)))] [] rfl ⟨TLes.same _, TLes.same _, trivial⟩ trivial ?_
          refine AW2_gho (Gho_own (d := 8) (b := 8) (z := 1) rfl rfl rfl rfl) ?_
          refine AW2_st [(8, .c (.own 8 ([] : List UInt8).length 1)), (9, .c (.p (AV.int r'1.2)))] [(8, .pure (bcells ([] : List UInt8)))] rfl ⟨TLes.own rfl, TLes.same _, trivial⟩ ⟨rfl, trivial⟩ ?_
          refine AW2_ret ?_
          have hz := some_elim H
          subst hz
          exact ⟨⟨res_tmp (.same _), res_tmp (.same _), trivial⟩, ⟨rfl, trivial⟩⟩
        · replace H := ite_else h7 H
          refine AW2_st [(1, .c (.p (AV.int user1))), (2, .c (.p (AV.int e2))), (10, .c (.p (AV.bytes r'1.1)))] [] rfl ⟨TLes.same _, TLes.same _, TLes.same _, trivial⟩ trivial ?_
          refine AW2_skip ?_
          refine AW2_seq ?_
          refine bindK H fun r'2 h8 H => ?_
          refine bindK H fun r'3 h9 H => ?_
          refine chkK H fun h10 H => ?_
          refine chkK H fun h11 H => ?_
          refine AW2_ghoQ ?_
          refine AW2_draw 9 [9, 10, 11, 12] (fun k => ([.c (.p (AV.int user1)), .c (.p (AV.u64 (UInt64.ofInt user1))), .c (.p (AV.txt r'2)), .c (.p (AV.int e2)), .c (.p (AV.u64 (UInt64.ofInt e2))), .c (.p (AV.txt r'3)), .c (.p (AV.txt (r'2 ++ r'3))), .c (.p (AV.bytes r'1.1)), .c (.p (AV.txt r'1.1))] : List TV).getD k TV.any) (fun k => ([[(1, none)], [(40, some 0)], [(41, some 1)], [(2, none)], [(43, some 3)], [(44, some 4)], [(42, some 2), (45, some 5)], [(10, none)], [(47, some 7)]] : List (List (Nat × Option Nat))).getD k []) [(46, some 6), (48, some 8)] [] (fun k => ([[], [0], [0, 1], [], [3], [0, 1, 2, 3, 4], [0, 1, 2, 3, 4, 5], [], [7], [0, 1, 2, 3, 4, 5, 6, 7, 8], [0, 1, 2, 3, 4, 5, 6, 7, 8, 9], [0, 1, 2, 3, 4, 5, 6, 7, 8, 9, 10], [0, 1, 2, 3, 4, 5, 6, 7, 8, 9, 10, 11]] : List (List Nat)).getD k []) mixed (by kernel_rfl) rfl rfl (a_op (g_x rfl (x_p rfl (p_move rfl rfl) rfl)) (a_op (g_x rfl (x_p rfl (p_i_u64 rfl Tryd.underlying3 Tryd.underlying66 rfl) rfl)) (a_op (g_x rfl (x_p rfl (p_callp rfl rfl rfl Tryd.func45 rfl rfl (g_ref_big_ac h8) ⟨rfl, rfl, trivial⟩) rfl)) (a_op (g_x rfl (x_p rfl (p_move rfl rfl) rfl)) (a_op (g_x rfl (x_p rfl (p_i_u64 rfl Tryd.underlying31 Tryd.underlying66 rfl) rfl)) (a_op (g_x rfl (x_p rfl (p_callp rfl rfl rfl Tryd.func45 rfl rfl (g_ref_big_ac h9) ⟨rfl, rfl, trivial⟩) rfl)) (a_op (g_x rfl (x_p rfl (p_cat rfl rfl rfl h10) rfl)) (a_op (g_x rfl (x_p rfl (p_move rfl rfl) rfl)) (a_op (g_x rfl (x_p rfl (p_cb rfl rfl Tryd.underlying22 Tryd.underlying5 Tryd.underlying9 rfl) rfl)) (a_nil)))))))))) ?_
          refine t_op rfl rfl (PureD.opD (p_cat rfl rfl rfl h11)) ?_
          refine t_op rfl rfl (MakeD.opD (n_sb 50 rfl Tryd.underlying9 Tryd.underlying22 Tryd.underlying5 rfl) rfl rfl rfl rfl) ?_
          refine t_op rfl rfl (PureD.opD (p_asg rfl rfl)) ?_
          refine t_op rfl rfl (PureD.opD (p_asg rfl rfl)) ?_
          refine t_gho ((Gho_st (L := [(8, .c (.own 50 ((r'2 ++ r'3) ++ r'1.1).length 1)), (9, .c (.p (AV.int (0 : Int))))]) (H := [(50, .pure (bcells ((r'2 ++ r'3) ++ r'1.1)))]) rfl ⟨TLes.same _, TLes.same _, trivial⟩ ⟨rfl, trivial⟩).trans ((Gho_ren 50 8 rfl rfl rfl rfl rfl).trans (Gho_st (L := [(8, .c (.own 8 ((r'2 ++ r'3) ++ r'1.1).length 1)), (9, .c (.p (AV.int (0 : Int))))]) (H := [(8, .pure (bcells ((r'2 ++ r'3) ++ r'1.1)))]) rfl ⟨TLes.same _, TLes.same _, trivial⟩ ⟨rfl, trivial⟩))) ?_
          refine AW2_st [(8, .c (.own 8 ((r'2 ++ r'3) ++ r'1.1).length 1)), (9, .c (.p (AV.int (0 : Int))))] [(8, .pure (bcells ((r'2 ++ r'3) ++ r'1.1)))] rfl ⟨TLes.same _, TLes.same _, trivial⟩ ⟨rfl, trivial⟩ ?_
          refine AW2_ret ?_
          have hz := some_elim H
          subst hz
          exact ⟨⟨res_tmp (.same _), res_tmp (.same _), trivial⟩, ⟨rfl, trivial⟩⟩
theorem g_ref_AuditData_ac {mode0 : Int} {user1 : Int} {e2 : Int} {text3 : List UInt8} {r : (List UInt8) × Int} (H : g_ref_AuditData mode0 user1 e2 text3 = some r) : ACp Tryd.prog 30 [(AV.int mode0), (AV.int user1), (AV.int e2), (AV.txt text3)] (.tup [(AV.bytes r.1), (AV.int r.2)]) := ACp_pub (g_ref_AuditData_ac2 H) (fun _ _ hm => lent_tup ⟨lent_own hm rfl (bl r.1) (by decide), .same _, trivial⟩)

/-! chirographlaw.AuditTells -/
noncomputable def g_law_AuditTells (mode0 : Int) (user1 : Int) (f2 : Int) (text3 : List UInt8) : Option (Bool) :=
  (g_audit_Data mode0 user1 f2 text3).bind fun r'1 => (g_ref_AuditData mode0 user1 f2 text3).bind fun r'2 => ((if r'1.2 = r'2.2 then (g_law_sameBytes r'1.1 r'2.1).bind fun r'4 => some r'4 else some false)).bind fun g'5 => some g'5
set_option maxHeartbeats 4000000 in
set_option maxRecDepth 100000 in
theorem g_law_AuditTells_ac {mode0 : Int} {user1 : Int} {f2 : Int} {text3 : List UInt8} {r : Bool} (H : g_law_AuditTells mode0 user1 f2 text3 = some r) : ACp Tryd.prog 10 [(AV.int mode0), (AV.int user1), (AV.int f2), (AV.txt text3)] (AV.bool r) := by
  refine ACp_of (AC2_of_body (vs := [.c (.p (AV.bool r))]) Tryd.func10 rfl rfl (Nat.le_of_ble_eq_true rfl) rfl ?_) (fun _ => .same _)
  unfold g_law_AuditTells at H
  refine AW2_st [(0, .c (.p (AV.int mode0))), (1, .c (.p (AV.int user1))), (2, .c (.p (AV.int f2))), (3, .c (.p (AV.txt text3)))] [] rfl ⟨TLes.same _, TLes.same _, TLes.same _, TLes.same _, trivial⟩ trivial ?_
  refine AW2_seq ?_
  refine AW2_reg [0] rfl ?_
  refine r_op rfl rfl (PureD.opD (p_asg rfl rfl)) ?_
  refine RunW_st [(0, .c (.p (AV.int mode0))), (1, .c (.p (AV.int user1))), (2, .c (.p (AV.int f2))), (3, .c (.p (AV.txt text3)))] [] rfl ⟨TLes.same _, TLes.same _, TLes.same _, TLes.same _, trivial⟩ trivial ?_
  refine RunW_nil ?_
  refine AW2_seq ?_
  refine AW2_reg [0, 1, 2, 3, 4, 5, 6, 7, 8, 9] rfl ?_
  refine r_op rfl rfl (PureD.opD (p_move rfl rfl)) ?_
  refine r_op rfl rfl (PureD.opD (p_move rfl rfl)) ?_
  refine r_op rfl rfl (PureD.opD (p_move rfl rfl)) ?_
  refine r_op rfl rfl (PureD.opD (p_move rfl rfl)) ?_
  refine bindK H fun r'1 h1 H => ?_
  refine r_op rfl rfl (PureD.opD (p_callp rfl rfl rfl Tryd.func29 rfl rfl (g_audit_Data_ac h1) ⟨rfl, rfl, rfl, rfl, trivial⟩)) ?_
  refine r_op rfl rfl (PureD.opD (p_move rfl rfl)) ?_
  refine r_op rfl rfl (PureD.opD (p_ext rfl rfl rfl rfl)) ?_
  refine r_op rfl rfl (PureD.opD (p_ext rfl rfl rfl rfl)) ?_
  refine r_op rfl rfl (PureD.opD (p_asg rfl rfl)) ?_
  refine r_op rfl rfl (PureD.opD (p_asg rfl rfl)) ?_
  refine RunW_st [(0, .c (.p (AV.int mode0))), (1, .c (.p (AV.int user1))), (2, .c (.p (AV.int f2))), (3, .c (.p (AV.txt text3))), (9, .c (.p (AV.bytes r'1.1))), (10, .c (.p (AV.int r'1.2)))] [] rfl ⟨TLes.same _, TLes.same _, TLes.same _, TLes.same _, TLes.same _, TLes.same _, trivial⟩ trivial ?_
  refine RunW_nil ?_
  refine AW2_seq ?_
  refine AW2_reg [0, 1, 2, 3, 4, 5, 6, 7, 8, 9] rfl ?_
  refine r_op rfl rfl (PureD.opD (p_move rfl rfl)) ?_
  refine r_op rfl rfl (PureD.opD (p_move rfl rfl)) ?_
  refine r_op rfl rfl (PureD.opD (p_move rfl rfl)) ?_
  refine r_op rfl rfl (PureD.opD (p_move rfl rfl)) ?_
  refine bindK H fun r'2 h2 H => ?_
  refine r_op rfl rfl (PureD.opD (p_callp rfl rfl rfl Tryd.func30 rfl rfl (g_ref_AuditData_ac h2) ⟨rfl, rfl, rfl, rfl, trivial⟩)) ?_
  refine r_op rfl rfl (PureD.opD (p_move rfl rfl)) ?_
  refine r_op rfl rfl (PureD.opD (p_ext rfl rfl rfl rfl)) ?_
  refine r_op rfl rfl (PureD.opD (p_ext rfl rfl rfl rfl)) ?_
  refine r_op rfl rfl (PureD.opD (p_asg rfl rfl)) ?_
  refine r_op rfl rfl (PureD.opD (p_asg rfl rfl)) ?_
  refine RunW_st [(9, .c (.p (AV.bytes r'1.1))), (10, .c (.p (AV.int r'1.2))), (11, .c (.p (AV.bytes r'2.1))), (12, .c (.p (AV.int r'2.2)))] [] rfl ⟨TLes.same _, TLes.same _, TLes.same _, TLes.same _, trivial⟩ trivial ?_
  refine RunW_nil ?_
  refine AW2_seq ?_
  refine bindK H fun g'5 h6 H => ?_
  refine AW2_mid (⟨[(8, .c (.p (AV.bool g'5)))], [], 37⟩ : TS) ?_ ?_
  · clear H
    have H := h6
    clear h6
    refine AW2_reg [0, 1, 2, 3, 4, 5, 6, 7, 8] rfl ?_
    refine r_op rfl rfl (PureD.opD (p_move rfl rfl)) ?_
    refine r_op rfl rfl (PureD.opD (p_move rfl rfl)) ?_
    refine r_op rfl rfl (PureD.opD (p_ieq rfl rfl rfl)) ?_
    refine r_op rfl rfl (PureD.opD (p_move rfl rfl)) ?_
    refine (Classical.em (r'1.2 = r'2.2)).elim (fun h4 => ?_) (fun h4 => ?_)
    · replace H := ite_then h4 H
      refine r_on rfl rfl rfl rfl (decide_eq_true (p := r'1.2 = r'2.2) h4) rfl (PureD.opD (p_move rfl rfl)) ?_
      refine r_on rfl rfl rfl rfl (decide_eq_true (p := r'1.2 = r'2.2) h4) rfl (PureD.opD (p_move rfl rfl)) ?_
      refine bindK H fun r'4 h5 H => ?_
      refine r_on rfl rfl rfl rfl (decide_eq_true (p := r'1.2 = r'2.2) h4) rfl (PureD.opD (p_callp rfl rfl rfl Tryd.func24 rfl rfl (g_law_sameBytes_ac h5) ⟨rfl, rfl, trivial⟩)) ?_
      refine r_op rfl rfl (PureD.opD (p_pkt rfl rfl (decide_eq_true (p := r'1.2 = r'2.2) h4) (.same _))) ?_
      refine r_op rfl rfl (PureD.opD (p_asg rfl rfl)) ?_
      refine RunW_st [(8, .c (.p (AV.bool r'4)))] [] rfl ⟨TLes.same _, trivial⟩ trivial ?_
      have hz := some_elim H
      subst hz
      exact RunW_nil rfl
    · replace H := ite_else h4 H
      refine r_off rfl rfl rfl rfl (decide_eq_false (p := r'1.2 = r'2.2) h4) rfl rfl ?_
      refine r_off rfl rfl rfl rfl (decide_eq_false (p := r'1.2 = r'2.2) h4) rfl rfl ?_
      refine r_off rfl rfl rfl rfl (decide_eq_false (p := r'1.2 = r'2.2) h4) rfl rfl ?_
      refine r_op rfl rfl (PureD.opD (p_pkf rfl rfl (decide_eq_false (p := r'1.2 = r'2.2) h4) (.same _))) ?_
      refine r_op rfl rfl (PureD.opD (p_asg rfl rfl)) ?_
      refine RunW_st [(8, .c (.p (AV.bool false)))] [] rfl ⟨TLes.same _, trivial⟩ trivial ?_
      have hz := some_elim H
      subst hz
      exact RunW_nil rfl
  · refine AW2_ret ?_
    have hz := some_elim H
    subst hz
    exact ⟨⟨res_tmp (.same _), trivial⟩, trivial⟩

/-! audit.Entry -/
noncomputable def g_audit_Entry (mode0 : Int) (state1 : List UInt8) (s2 : GSlot) : Option ((List UInt8) × Int) :=
  (g_slots_Leaf mode0 s2).bind fun r'1 => (if r'1.2 ≠ (0 : Int) then some ([], r'1.2) else (g_oracle_Digest mode0 (8 : Int) ([state1, r'1.1] : List (List UInt8))).bind fun r'2 => some (r'2.1, r'2.2))
set_option maxHeartbeats 4000000 in
set_option maxRecDepth 100000 in
theorem g_audit_Entry_ac {mode0 : Int} {state1 : List UInt8} {s2 : GSlot} {r : (List UInt8) × Int} (H : g_audit_Entry mode0 state1 s2 = some r) : ACp Tryd.prog 31 [(AV.int mode0), (AV.bytes state1), (.agg (GSlot.cs s2))] (.tup [(AV.bytes r.1), (AV.int r.2)]) := by
  refine ACp_of (AC2_of_body (vs := [.c (.p (AV.bytes r.1)), .c (.p (AV.int r.2))]) Tryd.func31 rfl rfl (Nat.le_of_ble_eq_true rfl) rfl ?_) (fun _ => .same _)
  unfold g_audit_Entry at H
  refine AW2_st [(0, .c (.p (AV.int mode0))), (1, .c (.p (AV.bytes state1))), (2, .c (.p (.agg (GSlot.cs s2))))] [] rfl ⟨TLes.same _, TLes.same _, TLes.same _, trivial⟩ trivial ?_
  refine AW2_seq ?_
  refine AW2_reg [0, 1, 2] rfl ?_
  refine r_op rfl rfl (MakeD.opD (n_box 5 rfl rfl) rfl rfl rfl rfl) ?_
  refine r_op rfl rfl (PureD.opD (p_asgn rfl)) ?_
  refine r_op rfl rfl (PureD.opD (p_asg rfl rfl)) ?_
  refine RunW_st [(0, .c (.p (AV.int mode0))), (1, .c (.p (AV.bytes state1))), (5, .c (.ptr 5 (0)))] [(5, .pure (GSlot.cs s2))] rfl ⟨TLes.same _, TLes.same _, TLes.same _, trivial⟩ ⟨rfl, trivial⟩ ?_
  refine RunW_nil ?_
  refine AW2_seq ?_
  refine AW2_reg [0, 1, 2, 3, 4, 5, 6, 7] rfl ?_
  refine r_op rfl rfl (PureD.opD (p_move rfl rfl)) ?_
  refine r_op rfl rfl (PureD.opD (u_lda rfl rfl Tryd.underlying48 rfl in_48 rfl (Nat.succ_pos _) (Sub.refl _) (GSlot.len s2))) ?_
  refine bindK H fun r'1 h1 H => ?_
  refine r_op rfl rfl (PureD.opD (p_callp rfl rfl rfl Tryd.func27 rfl rfl (g_slots_Leaf_ac h1) ⟨rfl, rfl, trivial⟩)) ?_
  refine r_op rfl rfl (PureD.opD (p_move rfl rfl)) ?_
  refine r_op rfl rfl (PureD.opD (p_ext rfl rfl rfl rfl)) ?_
  refine r_op rfl rfl (PureD.opD (p_ext rfl rfl rfl rfl)) ?_
  refine r_op rfl rfl (PureD.opD (p_asg rfl rfl)) ?_
  refine r_op rfl rfl (PureD.opD (p_asg rfl rfl)) ?_
  refine RunW_st [(0, .c (.p (AV.int mode0))), (1, .c (.p (AV.bytes state1))), (8, .c (.p (AV.bytes r'1.1))), (9, .c (.p (AV.int r'1.2)))] [] rfl ⟨TLes.same _, TLes.same _, TLes.same _, TLes.same _, trivial⟩ trivial ?_
  refine RunW_nil ?_
  refine AW2_seq ?_
  refine AW2_seq ?_
  refine AW2_reg [0, 1] rfl ?_
  refine r_op rfl rfl (PureD.opD (p_move rfl rfl)) ?_
  refine r_op rfl rfl (PureD.opD (p_ine rfl rfl rfl)) ?_
  refine RunW_st [(0, .c (.p (AV.int mode0))), (1, .c (.p (AV.bytes state1))), (8, .c (.p (AV.bytes r'1.1))), (9, .c (.p (AV.int r'1.2))), (17, .c (.p (.bool (decide (r'1.2 ≠ (0 : Int))))))] [] rfl ⟨TLes.same _, TLes.same _, TLes.same _, TLes.same _, TLes.same _, trivial⟩ trivial ?_
  refine RunW_nil ?_
  refine AW2_if (p := r'1.2 ≠ (0 : Int)) rfl (fun h2 => ?_) (fun h2 => ?_)
  · replace H := ite_then h2 H
    refine AW2_seq ?_
    refine AW2_reg [0, 1, 2] rfl ?_
    refine r_op rfl rfl (PureD.opD (p_move rfl rfl)) ?_
    refine r_op rfl rfl (PureD.opD (p_asgn rfl)) ?_
    refine r_op rfl rfl (PureD.opD (p_asg rfl rfl)) ?_
    refine RunW_st [(6, .c (.p .nil)), (7, .c (.p (AV.int r'1.2)))] [] rfl ⟨TLes.same _, TLes.same _, trivial⟩ trivial ?_
    refine RunW_nil ?_
    refine AW2_ret ?_
    have hz := some_elim H
    subst hz
    exact ⟨⟨res_tmp TLes.nil0, res_tmp (.same _), trivial⟩, trivial⟩
  · replace H := ite_else h2 H
    refine AW2_st [(0, .c (.p (AV.int mode0))), (1, .c (.p (AV.bytes state1))), (8, .c (.p (AV.bytes r'1.1)))] [] rfl ⟨TLes.same _, TLes.same _, TLes.same _, trivial⟩ trivial ?_
    refine AW2_skip ?_
    refine AW2_seq ?_
    refine AW2_reg [0, 1, 2, 3, 4, 5, 6, 7, 8] rfl ?_
    refine r_op rfl rfl (PureD.opD (p_move rfl rfl)) ?_
    refine r_op rfl rfl (PureD.opD (p_move rfl rfl)) ?_
    refine r_op rfl rfl (PureD.opD (p_move rfl rfl)) ?_
    refine r_op rfl rfl (MakeD.opD (u_bs 22 rfl Tryd.underlying44 in_22 rfl one_22 (by decide) (by decide) rfl rfl rfl) rfl rfl rfl rfl) ?_
    refine RunW_st [(0, .c (.p (AV.int mode0))), (1, .c (.p (AV.bytes state1))), (8, .c (.p (AV.bytes r'1.1))), (19, .c (.p (AV.int mode0))), (20, .c (.p (AV.bytes state1))), (21, .c (.p (AV.bytes r'1.1))), (22, .c (.own 22 ([state1, r'1.1] : List (List UInt8)).length 1))] [(22, .pure (([state1, r'1.1] : List (List UInt8)).map AV.bytes))] rfl ⟨TLes.same _, TLes.same _, TLes.same _, TLes.same _, TLes.same _, TLes.same _, TLes.own rfl, trivial⟩ ⟨rfl, trivial⟩ ?_
    refine RunW_gho (Gho_pubs [22] ⟨rfl, trivial⟩ rfl (ml AV.bytes ([state1, r'1.1] : List (List UInt8))) (by decide)) ?_
    refine bindK H fun r'2 h3 H => ?_
    refine r_op rfl rfl (PureD.opD (p_callp rfl rfl rfl Tryd.func25 rfl rfl (g_oracle_Digest_ac h3) ⟨rfl, rfl, rfl, trivial⟩)) ?_
    refine r_op rfl rfl (PureD.opD (p_ext rfl rfl rfl rfl)) ?_
    refine r_op rfl rfl (PureD.opD (p_ext rfl rfl rfl rfl)) ?_
    refine r_op rfl rfl (PureD.opD (p_asg rfl rfl)) ?_
    refine r_op rfl rfl (PureD.opD (p_asg rfl rfl)) ?_
    refine RunW_st [(6, .c (.p (AV.bytes r'2.1))), (7, .c (.p (AV.int r'2.2)))] [] rfl ⟨TLes.same _, TLes.same _, trivial⟩ trivial ?_
    refine RunW_nil ?_
    refine AW2_ret ?_
    have hz := some_elim H
    subst hz
    exact ⟨⟨res_tmp (.same _), res_tmp (.same _), trivial⟩, trivial⟩

/-! chirographref.EntryOf -/
noncomputable def g_ref_EntryOf (mode0 : Int) (state1 : List UInt8) (s2 : GSlot) : Option ((List UInt8) × Int) :=
  (g_ref_LeafOf mode0 s2).bind fun r'1 => (if r'1.2 ≠ (0 : Int) then some ([], r'1.2) else (g_ref_DigestOf mode0 (8 : Int) ([state1, r'1.1] : List (List UInt8))).bind fun r'2 => some (r'2.1, r'2.2))
set_option maxHeartbeats 4000000 in
set_option maxRecDepth 100000 in
theorem g_ref_EntryOf_ac {mode0 : Int} {state1 : List UInt8} {s2 : GSlot} {r : (List UInt8) × Int} (H : g_ref_EntryOf mode0 state1 s2 = some r) : ACp Tryd.prog 32 [(AV.int mode0), (AV.bytes state1), (.agg (GSlot.cs s2))] (.tup [(AV.bytes r.1), (AV.int r.2)]) := by
  refine ACp_of (AC2_of_body (vs := [.c (.p (AV.bytes r.1)), .c (.p (AV.int r.2))]) Tryd.func32 rfl rfl (Nat.le_of_ble_eq_true rfl) rfl ?_) (fun _ => .same _)
  unfold g_ref_EntryOf at H
  refine AW2_st [(0, .c (.p (AV.int mode0))), (1, .c (.p (AV.bytes state1))), (2, .c (.p (.agg (GSlot.cs s2))))] [] rfl ⟨TLes.same _, TLes.same _, TLes.same _, trivial⟩ trivial ?_
  refine AW2_seq ?_
  refine AW2_reg [0, 1, 2] rfl ?_
  refine r_op rfl rfl (MakeD.opD (n_box 5 rfl rfl) rfl rfl rfl rfl) ?_
  refine r_op rfl rfl (PureD.opD (p_asgn rfl)) ?_
  refine r_op rfl rfl (PureD.opD (p_asg rfl rfl)) ?_
  refine RunW_st [(0, .c (.p (AV.int mode0))), (1, .c (.p (AV.bytes state1))), (5, .c (.ptr 5 (0)))] [(5, .pure (GSlot.cs s2))] rfl ⟨TLes.same _, TLes.same _, TLes.same _, trivial⟩ ⟨rfl, trivial⟩ ?_
  refine RunW_nil ?_
  refine AW2_seq ?_
  refine AW2_reg [0, 1, 2, 3, 4, 5, 6, 7] rfl ?_
  refine r_op rfl rfl (PureD.opD (p_move rfl rfl)) ?_
  refine r_op rfl rfl (PureD.opD (u_lda rfl rfl Tryd.underlying48 rfl in_48 rfl (Nat.succ_pos _) (Sub.refl _) (GSlot.len s2))) ?_
  refine bindK H fun r'1 h1 H => ?_
  refine r_op rfl rfl (PureD.opD (p_callp rfl rfl rfl Tryd.func28 rfl rfl (g_ref_LeafOf_ac h1) ⟨rfl, rfl, trivial⟩)) ?_
  refine r_op rfl rfl (PureD.opD (p_move rfl rfl)) ?_
  refine r_op rfl rfl (PureD.opD (p_ext rfl rfl rfl rfl)) ?_
  refine r_op rfl rfl (PureD.opD (p_ext rfl rfl rfl rfl)) ?_
  refine r_op rfl rfl (PureD.opD (p_asg rfl rfl)) ?_
  refine r_op rfl rfl (PureD.opD (p_asg rfl rfl)) ?_
  refine RunW_st [(0, .c (.p (AV.int mode0))), (1, .c (.p (AV.bytes state1))), (8, .c (.p (AV.bytes r'1.1))), (9, .c (.p (AV.int r'1.2)))] [] rfl ⟨TLes.same _, TLes.same _, TLes.same _, TLes.same _, trivial⟩ trivial ?_
  refine RunW_nil ?_
  refine AW2_seq ?_
  refine AW2_seq ?_
  refine AW2_reg [0, 1] rfl ?_
  refine r_op rfl rfl (PureD.opD (p_move rfl rfl)) ?_
  refine r_op rfl rfl (PureD.opD (p_ine rfl rfl rfl)) ?_
  refine RunW_st [(0, .c (.p (AV.int mode0))), (1, .c (.p (AV.bytes state1))), (8, .c (.p (AV.bytes r'1.1))), (9, .c (.p (AV.int r'1.2))), (17, .c (.p (.bool (decide (r'1.2 ≠ (0 : Int))))))] [] rfl ⟨TLes.same _, TLes.same _, TLes.same _, TLes.same _, TLes.same _, trivial⟩ trivial ?_
  refine RunW_nil ?_
  refine AW2_if (p := r'1.2 ≠ (0 : Int)) rfl (fun h2 => ?_) (fun h2 => ?_)
  · replace H := ite_then h2 H
    refine AW2_seq ?_
    refine AW2_reg [0, 1, 2] rfl ?_
    refine r_op rfl rfl (PureD.opD (p_move rfl rfl)) ?_
    refine r_op rfl rfl (PureD.opD (p_asgn rfl)) ?_
    refine r_op rfl rfl (PureD.opD (p_asg rfl rfl)) ?_
    refine RunW_st [(6, .c (.p .nil)), (7, .c (.p (AV.int r'1.2)))] [] rfl ⟨TLes.same _, TLes.same _, trivial⟩ trivial ?_
    refine RunW_nil ?_
    refine AW2_ret ?_
    have hz := some_elim H
    subst hz
    exact ⟨⟨res_tmp TLes.nil0, res_tmp (.same _), trivial⟩, trivial⟩
  · replace H := ite_else h2 H
    refine AW2_st [(0, .c (.p (AV.int mode0))), (1, .c (.p (AV.bytes state1))), (8, .c (.p (AV.bytes r'1.1)))] [] rfl ⟨TLes.same _, TLes.same _, TLes.same _, trivial⟩ trivial ?_
    refine AW2_skip ?_
    refine AW2_seq ?_
    refine AW2_reg [0, 1, 2, 3, 4, 5, 6, 7, 8] rfl ?_
    refine r_op rfl rfl (PureD.opD (p_move rfl rfl)) ?_
    refine r_op rfl rfl (PureD.opD (p_move rfl rfl)) ?_
    refine r_op rfl rfl (PureD.opD (p_move rfl rfl)) ?_
    refine r_op rfl rfl (MakeD.opD (u_bs 22 rfl Tryd.underlying44 in_22 rfl one_22 (by decide) (by decide) rfl rfl rfl) rfl rfl rfl rfl) ?_
    refine RunW_st [(0, .c (.p (AV.int mode0))), (1, .c (.p (AV.bytes state1))), (8, .c (.p (AV.bytes r'1.1))), (19, .c (.p (AV.int mode0))), (20, .c (.p (AV.bytes state1))), (21, .c (.p (AV.bytes r'1.1))), (22, .c (.own 22 ([state1, r'1.1] : List (List UInt8)).length 1))] [(22, .pure (([state1, r'1.1] : List (List UInt8)).map AV.bytes))] rfl ⟨TLes.same _, TLes.same _, TLes.same _, TLes.same _, TLes.same _, TLes.same _, TLes.own rfl, trivial⟩ ⟨rfl, trivial⟩ ?_
    refine RunW_gho (Gho_pubs [22] ⟨rfl, trivial⟩ rfl (ml AV.bytes ([state1, r'1.1] : List (List UInt8))) (by decide)) ?_
    refine bindK H fun r'2 h3 H => ?_
    refine r_op rfl rfl (PureD.opD (p_callp rfl rfl rfl Tryd.func26 rfl rfl (g_ref_DigestOf_ac h3) ⟨rfl, rfl, rfl, trivial⟩)) ?_
    refine r_op rfl rfl (PureD.opD (p_ext rfl rfl rfl rfl)) ?_
    refine r_op rfl rfl (PureD.opD (p_ext rfl rfl rfl rfl)) ?_
    refine r_op rfl rfl (PureD.opD (p_asg rfl rfl)) ?_
    refine r_op rfl rfl (PureD.opD (p_asg rfl rfl)) ?_
    refine RunW_st [(6, .c (.p (AV.bytes r'2.1))), (7, .c (.p (AV.int r'2.2)))] [] rfl ⟨TLes.same _, TLes.same _, trivial⟩ trivial ?_
    refine RunW_nil ?_
    refine AW2_ret ?_
    have hz := some_elim H
    subst hz
    exact ⟨⟨res_tmp (.same _), res_tmp (.same _), trivial⟩, trivial⟩

/-! chirographlaw.AuditEntries -/
noncomputable def g_law_AuditEntries (mode0 : Int) (state1 : List UInt8) (s2 : GSlot) : Option (Bool) :=
  (g_audit_Entry mode0 state1 s2).bind fun r'1 => (g_ref_EntryOf mode0 state1 s2).bind fun r'2 => ((if r'1.2 = r'2.2 then (g_law_sameBytes r'1.1 r'2.1).bind fun r'4 => some r'4 else some false)).bind fun g'5 => some g'5
set_option maxHeartbeats 4000000 in
set_option maxRecDepth 100000 in
theorem g_law_AuditEntries_ac {mode0 : Int} {state1 : List UInt8} {s2 : GSlot} {r : Bool} (H : g_law_AuditEntries mode0 state1 s2 = some r) : ACp Tryd.prog 11 [(AV.int mode0), (AV.bytes state1), (.agg (GSlot.cs s2))] (AV.bool r) := by
  refine ACp_of (AC2_of_body (vs := [.c (.p (AV.bool r))]) Tryd.func11 rfl rfl (Nat.le_of_ble_eq_true rfl) rfl ?_) (fun _ => .same _)
  unfold g_law_AuditEntries at H
  refine AW2_st [(0, .c (.p (AV.int mode0))), (1, .c (.p (AV.bytes state1))), (2, .c (.p (.agg (GSlot.cs s2))))] [] rfl ⟨TLes.same _, TLes.same _, TLes.same _, trivial⟩ trivial ?_
  refine AW2_seq ?_
  refine AW2_reg [0, 1] rfl ?_
  refine r_op rfl rfl (MakeD.opD (n_box 5 rfl rfl) rfl rfl rfl rfl) ?_
  refine r_op rfl rfl (PureD.opD (p_asg rfl rfl)) ?_
  refine RunW_st [(0, .c (.p (AV.int mode0))), (1, .c (.p (AV.bytes state1))), (5, .c (.ptr 5 (0)))] [(5, .pure (GSlot.cs s2))] rfl ⟨TLes.same _, TLes.same _, TLes.same _, trivial⟩ ⟨rfl, trivial⟩ ?_
  refine RunW_nil ?_
  refine AW2_seq ?_
  refine AW2_reg [0, 1, 2, 3, 4, 5, 6, 7, 8] rfl ?_
  refine r_op rfl rfl (PureD.opD (p_move rfl rfl)) ?_
  refine r_op rfl rfl (PureD.opD (p_move rfl rfl)) ?_
  refine r_op rfl rfl (PureD.opD (u_lda rfl rfl Tryd.underlying48 rfl in_48 rfl (Nat.succ_pos _) (Sub.refl _) (GSlot.len s2))) ?_
  refine bindK H fun r'1 h1 H => ?_
  refine r_op rfl rfl (PureD.opD (p_callp rfl rfl rfl Tryd.func31 rfl rfl (g_audit_Entry_ac h1) ⟨rfl, rfl, rfl, trivial⟩)) ?_
  refine r_op rfl rfl (PureD.opD (p_move rfl rfl)) ?_
  refine r_op rfl rfl (PureD.opD (p_ext rfl rfl rfl rfl)) ?_
  refine r_op rfl rfl (PureD.opD (p_ext rfl rfl rfl rfl)) ?_
  refine r_op rfl rfl (PureD.opD (p_asg rfl rfl)) ?_
  refine r_op rfl rfl (PureD.opD (p_asg rfl rfl)) ?_
  refine RunW_st [(0, .c (.p (AV.int mode0))), (1, .c (.p (AV.bytes state1))), (5, .c (.ptr 5 (0))), (7, .c (.p (AV.bytes r'1.1))), (8, .c (.p (AV.int r'1.2)))] [(5, .pure (GSlot.cs s2))] rfl ⟨TLes.same _, TLes.same _, TLes.same _, TLes.same _, TLes.same _, trivial⟩ ⟨rfl, trivial⟩ ?_
  refine RunW_nil ?_
  refine AW2_seq ?_
  refine AW2_reg [0, 1, 2, 3, 4, 5, 6, 7, 8] rfl ?_
  refine r_op rfl rfl (PureD.opD (p_move rfl rfl)) ?_
  refine r_op rfl rfl (PureD.opD (p_move rfl rfl)) ?_
  refine r_op rfl rfl (PureD.opD (u_lda rfl rfl Tryd.underlying48 rfl in_48 rfl (Nat.succ_pos _) (Sub.refl _) (GSlot.len s2))) ?_
  refine bindK H fun r'2 h2 H => ?_
  refine r_op rfl rfl (PureD.opD (p_callp rfl rfl rfl Tryd.func32 rfl rfl (g_ref_EntryOf_ac h2) ⟨rfl, rfl, rfl, trivial⟩)) ?_
  refine r_op rfl rfl (PureD.opD (p_move rfl rfl)) ?_
  refine r_op rfl rfl (PureD.opD (p_ext rfl rfl rfl rfl)) ?_
  refine r_op rfl rfl (PureD.opD (p_ext rfl rfl rfl rfl)) ?_
  refine r_op rfl rfl (PureD.opD (p_asg rfl rfl)) ?_
  refine r_op rfl rfl (PureD.opD (p_asg rfl rfl)) ?_
  refine RunW_st [(7, .c (.p (AV.bytes r'1.1))), (8, .c (.p (AV.int r'1.2))), (9, .c (.p (AV.bytes r'2.1))), (10, .c (.p (AV.int r'2.2)))] [] rfl ⟨TLes.same _, TLes.same _, TLes.same _, TLes.same _, trivial⟩ trivial ?_
  refine RunW_nil ?_
  refine AW2_seq ?_
  refine bindK H fun g'5 h6 H => ?_
  refine AW2_mid (⟨[(6, .c (.p (AV.bool g'5)))], [], 33⟩ : TS) ?_ ?_
  · clear H
    have H := h6
    clear h6
    refine AW2_reg [0, 1, 2, 3, 4, 5, 6, 7, 8] rfl ?_
    refine r_op rfl rfl (PureD.opD (p_move rfl rfl)) ?_
    refine r_op rfl rfl (PureD.opD (p_move rfl rfl)) ?_
    refine r_op rfl rfl (PureD.opD (p_ieq rfl rfl rfl)) ?_
    refine r_op rfl rfl (PureD.opD (p_move rfl rfl)) ?_
    refine (Classical.em (r'1.2 = r'2.2)).elim (fun h4 => ?_) (fun h4 => ?_)
    · replace H := ite_then h4 H
      refine r_on rfl rfl rfl rfl (decide_eq_true (p := r'1.2 = r'2.2) h4) rfl (PureD.opD (p_move rfl rfl)) ?_
      refine r_on rfl rfl rfl rfl (decide_eq_true (p := r'1.2 = r'2.2) h4) rfl (PureD.opD (p_move rfl rfl)) ?_
      refine bindK H fun r'4 h5 H => ?_
      refine r_on rfl rfl rfl rfl (decide_eq_true (p := r'1.2 = r'2.2) h4) rfl (PureD.opD (p_callp rfl rfl rfl Tryd.func24 rfl rfl (g_law_sameBytes_ac h5) ⟨rfl, rfl, trivial⟩)) ?_
      refine r_op rfl rfl (PureD.opD (p_pkt rfl rfl (decide_eq_true (p := r'1.2 = r'2.2) h4) (.same _))) ?_
      refine r_op rfl rfl (PureD.opD (p_asg rfl rfl)) ?_
      refine RunW_st [(6, .c (.p (AV.bool r'4)))] [] rfl ⟨TLes.same _, trivial⟩ trivial ?_
      have hz := some_elim H
      subst hz
      exact RunW_nil rfl
    · replace H := ite_else h4 H
      refine r_off rfl rfl rfl rfl (decide_eq_false (p := r'1.2 = r'2.2) h4) rfl rfl ?_
      refine r_off rfl rfl rfl rfl (decide_eq_false (p := r'1.2 = r'2.2) h4) rfl rfl ?_
      refine r_off rfl rfl rfl rfl (decide_eq_false (p := r'1.2 = r'2.2) h4) rfl rfl ?_
      refine r_op rfl rfl (PureD.opD (p_pkf rfl rfl (decide_eq_false (p := r'1.2 = r'2.2) h4) (.same _))) ?_
      refine r_op rfl rfl (PureD.opD (p_asg rfl rfl)) ?_
      refine RunW_st [(6, .c (.p (AV.bool false)))] [] rfl ⟨TLes.same _, trivial⟩ trivial ?_
      have hz := some_elim H
      subst hz
      exact RunW_nil rfl
  · refine AW2_ret ?_
    have hz := some_elim H
    subst hz
    exact ⟨⟨res_tmp (.same _), trivial⟩, trivial⟩
end Go.Proofs.YtoepdjccgngpdaaDoor.VM
