/- Functions of the program, as they answer, and that their code comes to these answers. -/
import Derived.Test.YtkaeboabpahemaaDoorGs2
namespace Go.Proofs.YtkaeboabpahemaaDoor.VM
open Go Go.RowKit



/-! chirographref.ExtendFault -/
noncomputable def g_ref_ExtendFault (mode0 : Int) (old1 : List UInt8) (m2 : Int) (head3 : List UInt8) (n4 : Int) (path5 : List (List UInt8)) : Option (Int) :=
  (g_ref_badMode mode0).bind fun r'1 => (if r'1 = true then some (2 : Int) else (if (n4 < (0 : Int)) ∨ (n4 > (64 : Int)) then some (1 : Int) else (if (m2 < (0 : Int)) ∨ (m2 > n4) then some (6 : Int) else (g_ref_DigestOf mode0 (4 : Int) []).bind fun r'2 => ((if m2 = (0 : Int) then some (decide ((((path5.length : Int) = (0 : Int)) ∧ (old1 = r'2.1)) ∧ ((n4 > (0 : Int)) ∨ (head3 = old1)))) else (if m2 = n4 then some (decide (((path5.length : Int) = (0 : Int)) ∧ (old1 = head3))) else (g_ref_extended mode0 old1 m2 head3 n4 path5).bind fun r'4 => some r'4))).bind fun j'3 => (if (!j'3) = true then some (10 : Int) else some (0 : Int)))))
set_option maxHeartbeats 4000000 in
set_option maxRecDepth 100000 in
theorem g_ref_ExtendFault_ac {mode0 : Int} {old1 : List UInt8} {m2 : Int} {head3 : List UInt8} {n4 : Int} {path5 : List (List UInt8)} {r : Int} (H : g_ref_ExtendFault mode0 old1 m2 head3 n4 path5 = some r) : ACp Tryd.prog 38 [(AV.int mode0), (AV.bytes old1), (AV.int m2), (AV.bytes head3), (AV.int n4), (AV.lists path5)] (AV.int r) := by
  refine ACp_of (AC2_of_body (vs := [.i r]) Tryd.func38 rfl rfl (Nat.le_of_ble_eq_true rfl) rfl ?_) (fun _ => .same _)
  unfold g_ref_ExtendFault at H
  refine as2 [(0, .i mode0), (1, .y old1), (2, .i m2), (3, .y head3), (4, .i n4), (5, .p (AV.lists path5))] [] rfl rfl rfl ?_
  refine sg [0] rfl ?_
  refine rp rfl rfl (p_asg rfl rfl) ?_
  refine rz [(0, .i mode0), (1, .y old1), (2, .i m2), (3, .y head3), (4, .i n4), (5, .p (AV.lists path5))] [] rfl rfl rfl ?_
  refine AW2_seq ?_
  refine AW2_block ?_
  refine sg [0, 1, 2] rfl ?_
  refine rp rfl rfl (p_move rfl rfl) ?_
  refine bindK H fun r'1 h1 H => ?_
  refine rp rfl rfl (p_callp rfl rfl rfl Tryd.func41 rfl rfl (g_ref_badMode_ac h1) ⟨rfl, trivial⟩) ?_
  refine rp rfl rfl (p_asg rfl rfl) ?_
  refine rz [(0, .i mode0), (1, .y old1), (2, .i m2), (3, .y head3), (4, .i n4), (5, .p (AV.lists path5)), (16, .b r'1)] [] rfl rfl rfl ?_
  refine AW2_cond rfl (fun h2 => ?_) (fun h2 => ?_)
  · replace H := ite_then h2 H
    refine sg [0] rfl ?_
    refine rp rfl rfl (p_asg rfl rfl) ?_
    refine rz [(12, .i (2 : Int))] [] rfl rfl rfl ?_
    refine AW2_ret ?_
    have hz := some_elim H
    subst hz
    exact ⟨⟨res_tmp (.same _), trivial⟩, trivial⟩
  · replace H := ite_else (ne_true h2) H
    refine AW2_seq ?_
    refine AW2_mid (⟨[(0, .i mode0), (1, .y old1), (2, .i m2), (3, .y head3), (4, .i n4), (5, .p (AV.lists path5)), (19, .b (decide ((n4 < (0 : Int)) ∨ (n4 > (64 : Int)))))], [], 86⟩ : TS) ?_ ?_
    · refine AW2_reg [0, 1, 2, 3, 4, 5, 6] rfl ?_
      refine rp rfl rfl (p_move rfl rfl) ?_
      refine rp rfl rfl (p_bin rfl rfl rfl rfl) ?_
      refine rp rfl rfl (p_move rfl rfl) ?_
      refine (Classical.em (n4 < (0 : Int))).elim (fun h3 => ?_) (fun h3 => ?_)
      · refine r_off rfl rfl rfl rfl (decide_eq_true (p := n4 < (0 : Int)) h3) rfl rfl ?_
        refine r_off rfl rfl rfl rfl (decide_eq_true (p := n4 < (0 : Int)) h3) rfl rfl ?_
        refine rp rfl rfl (p_pkt rfl rfl (decide_eq_true (p := n4 < (0 : Int)) h3) (tb (decide_eq_true (p := (n4 < (0 : Int)) ∨ (n4 > (64 : Int))) (Or.inl h3)).symm)) ?_
        refine rp rfl rfl (p_asg rfl rfl) ?_
        refine rs [(0, .i mode0), (1, .y old1), (2, .i m2), (3, .y head3), (4, .i n4), (5, .p (AV.lists path5)), (19, .b (decide ((n4 < (0 : Int)) ∨ (n4 > (64 : Int)))))] [] rfl rfl rfl ?_
        exact RunW_nil rfl
      · refine r_on rfl rfl rfl rfl (decide_eq_false (p := n4 < (0 : Int)) h3) rfl (PureD.opD (p_move rfl rfl)) ?_
        refine r_on rfl rfl rfl rfl (decide_eq_false (p := n4 < (0 : Int)) h3) rfl (PureD.opD (p_bin rfl rfl rfl rfl)) ?_
        refine rp rfl rfl (p_pkf rfl rfl (decide_eq_false (p := n4 < (0 : Int)) h3) (tb ((or_l (p := n4 < (0 : Int)) (q := n4 > (64 : Int)) h3)))) ?_
        refine rp rfl rfl (p_asg rfl rfl) ?_
        refine rs [(0, .i mode0), (1, .y old1), (2, .i m2), (3, .y head3), (4, .i n4), (5, .p (AV.lists path5)), (19, .b (decide ((n4 < (0 : Int)) ∨ (n4 > (64 : Int)))))] [] rfl rfl rfl ?_
        exact RunW_nil rfl
    · refine AW2_if (p := (n4 < (0 : Int)) ∨ (n4 > (64 : Int))) rfl (fun h4 => ?_) (fun h4 => ?_)
      · replace H := ite_then h4 H
        refine sg [0] rfl ?_
        refine rp rfl rfl (p_asg rfl rfl) ?_
        refine rz [(12, .i (1 : Int))] [] rfl rfl rfl ?_
        refine AW2_ret ?_
        have hz := some_elim H
        subst hz
        exact ⟨⟨res_tmp (.same _), trivial⟩, trivial⟩
      · replace H := ite_else h4 H
        refine AW2_seq ?_
        refine AW2_mid (⟨[(0, .i mode0), (1, .y old1), (2, .i m2), (3, .y head3), (4, .i n4), (5, .p (AV.lists path5)), (26, .b (decide ((m2 < (0 : Int)) ∨ (m2 > n4))))], [], 86⟩ : TS) ?_ ?_
        · refine AW2_reg [0, 1, 2, 3, 4, 5, 6, 7] rfl ?_
          refine rp rfl rfl (p_move rfl rfl) ?_
          refine rp rfl rfl (p_bin rfl rfl rfl rfl) ?_
          refine rp rfl rfl (p_move rfl rfl) ?_
          refine (Classical.em (m2 < (0 : Int))).elim (fun h5 => ?_) (fun h5 => ?_)
          · refine r_off rfl rfl rfl rfl (decide_eq_true (p := m2 < (0 : Int)) h5) rfl rfl ?_
            refine r_off rfl rfl rfl rfl (decide_eq_true (p := m2 < (0 : Int)) h5) rfl rfl ?_
            refine r_off rfl rfl rfl rfl (decide_eq_true (p := m2 < (0 : Int)) h5) rfl rfl ?_
            refine rp rfl rfl (p_pkt rfl rfl (decide_eq_true (p := m2 < (0 : Int)) h5) (tb (decide_eq_true (p := (m2 < (0 : Int)) ∨ (m2 > n4)) (Or.inl h5)).symm)) ?_
            refine rp rfl rfl (p_asg rfl rfl) ?_
            refine rs [(0, .i mode0), (1, .y old1), (2, .i m2), (3, .y head3), (4, .i n4), (5, .p (AV.lists path5)), (26, .b (decide ((m2 < (0 : Int)) ∨ (m2 > n4))))] [] rfl rfl rfl ?_
            exact RunW_nil rfl
          · refine r_on rfl rfl rfl rfl (decide_eq_false (p := m2 < (0 : Int)) h5) rfl (PureD.opD (p_move rfl rfl)) ?_
            refine r_on rfl rfl rfl rfl (decide_eq_false (p := m2 < (0 : Int)) h5) rfl (PureD.opD (p_move rfl rfl)) ?_
            refine r_on rfl rfl rfl rfl (decide_eq_false (p := m2 < (0 : Int)) h5) rfl (PureD.opD (p_bin rfl rfl rfl rfl)) ?_
            refine rp rfl rfl (p_pkf rfl rfl (decide_eq_false (p := m2 < (0 : Int)) h5) (tb ((or_l (p := m2 < (0 : Int)) (q := m2 > n4) h5)))) ?_
            refine rp rfl rfl (p_asg rfl rfl) ?_
            refine rs [(0, .i mode0), (1, .y old1), (2, .i m2), (3, .y head3), (4, .i n4), (5, .p (AV.lists path5)), (26, .b (decide ((m2 < (0 : Int)) ∨ (m2 > n4))))] [] rfl rfl rfl ?_
            exact RunW_nil rfl
        · refine AW2_if (p := (m2 < (0 : Int)) ∨ (m2 > n4)) rfl (fun h6 => ?_) (fun h6 => ?_)
          · replace H := ite_then h6 H
            refine sg [0] rfl ?_
            refine rp rfl rfl (p_asg rfl rfl) ?_
            refine rz [(12, .i (6 : Int))] [] rfl rfl rfl ?_
            refine AW2_ret ?_
            have hz := some_elim H
            subst hz
            exact ⟨⟨res_tmp (.same _), trivial⟩, trivial⟩
          · replace H := ite_else h6 H
            refine as2 [(0, .i mode0), (1, .y old1), (2, .i m2), (3, .y head3), (4, .i n4), (5, .p (AV.lists path5))] [] rfl rfl rfl ?_
            refine AW2_skip ?_
            refine sg [0] rfl ?_
            refine rp rfl rfl (p_asg rfl rfl) ?_
            refine rz [(0, .i mode0), (1, .y old1), (2, .i m2), (3, .y head3), (4, .i n4), (5, .p (AV.lists path5))] [] rfl rfl rfl ?_
            refine sg [0, 1, 2, 3, 4, 5, 6] rfl ?_
            refine rp rfl rfl (p_move rfl rfl) ?_
            refine bindK H fun r'2 h7 H => ?_
            refine rp rfl rfl (p_callp rfl rfl rfl Tryd.func42 rfl rfl (g_ref_DigestOf_ac h7) ⟨rfl, rfl, rfl, trivial⟩) ?_
            refine rp rfl rfl (p_move rfl rfl) ?_
            refine rp rfl rfl (p_ext rfl rfl rfl rfl) ?_
            refine rp rfl rfl (p_ext rfl rfl rfl rfl) ?_
            refine rp rfl rfl (p_asg rfl rfl) ?_
            refine rp rfl rfl (p_asg rfl rfl) ?_
            refine rz [(0, .i mode0), (1, .y old1), (2, .i m2), (3, .y head3), (4, .i n4), (5, .p (AV.lists path5)), (14, .y r'2.1)] [] rfl rfl rfl ?_
            refine AW2_seq ?_
            refine bindK H fun j'3 h8 H => ?_
            refine AW2_mid (⟨[(13, .b j'3)], [], 86⟩ : TS) ?_ ?_
            · clear H
              have H := h8
              clear h8
              refine AW2_block ?_
              refine sg [0, 1, 2] rfl ?_
              refine rp rfl rfl (p_move rfl rfl) ?_
              refine rp rfl rfl (p_ieq rfl rfl rfl) ?_
              refine rp rfl rfl (p_asg rfl rfl) ?_
              refine rz [(0, .i mode0), (1, .y old1), (2, .i m2), (3, .y head3), (4, .i n4), (5, .p (AV.lists path5)), (14, .y r'2.1), (46, .b (decide (m2 = (0 : Int))))] [] rfl rfl rfl ?_
              refine AW2_if (p := m2 = (0 : Int)) rfl (fun h9 => ?_) (fun h9 => ?_)
              · replace H := ite_then h9 H
                refine AW2_mid (⟨[(13, .b (decide ((((path5.length : Int) = (0 : Int)) ∧ (old1 = r'2.1)) ∧ ((n4 > (0 : Int)) ∨ (head3 = old1)))))], [], 86⟩ : TS) ?_ ?_
                · refine AW2_reg [0, 1, 2, 3, 4, 5, 6, 7, 8, 9, 10, 11, 12, 13, 14, 15, 16, 17, 18, 19, 20, 21] rfl ?_
                  refine rp rfl rfl (p_move rfl rfl) ?_
                  refine rp rfl rfl (p_lenl rfl Tryd.underlying33 rfl rfl) ?_
                  refine rp rfl rfl (p_ieq rfl rfl rfl) ?_
                  refine rp rfl rfl (p_move rfl rfl) ?_
                  refine (Classical.em ((path5.length : Int) = (0 : Int))).elim (fun h10 => ?_) (fun h10 => ?_)
                  · refine r_on rfl rfl rfl rfl (decide_eq_true (p := (path5.length : Int) = (0 : Int)) h10) rfl (PureD.opD (p_move rfl rfl)) ?_
                    refine r_on rfl rfl rfl rfl (decide_eq_true (p := (path5.length : Int) = (0 : Int)) h10) rfl (PureD.opD (p_cb rfl rfl Tryd.underlying22 Tryd.underlying5 Tryd.underlying9 rfl)) ?_
                    refine r_on rfl rfl rfl rfl (decide_eq_true (p := (path5.length : Int) = (0 : Int)) h10) rfl (PureD.opD (p_move rfl rfl)) ?_
                    refine r_on rfl rfl rfl rfl (decide_eq_true (p := (path5.length : Int) = (0 : Int)) h10) rfl (PureD.opD (p_cb rfl rfl Tryd.underlying22 Tryd.underlying5 Tryd.underlying9 rfl)) ?_
                    refine r_on rfl rfl rfl rfl (decide_eq_true (p := (path5.length : Int) = (0 : Int)) h10) rfl (PureD.opD (p_seq rfl rfl rfl)) ?_
                    refine rp rfl rfl (p_pkt rfl rfl (decide_eq_true (p := (path5.length : Int) = (0 : Int)) h10) (tb ((and_l (p := (path5.length : Int) = (0 : Int)) (q := old1 = r'2.1) h10)))) ?_
                    refine rp rfl rfl (p_move rfl rfl) ?_
                    refine (Classical.em (old1 = r'2.1)).elim (fun h11 => ?_) (fun h11 => ?_)
                    · refine r_on rfl rfl rfl rfl (decide_eq_true (p := ((path5.length : Int) = (0 : Int)) ∧ (old1 = r'2.1)) ⟨h10, h11⟩) rfl (PureD.opD (p_move rfl rfl)) ?_
                      refine r_on rfl rfl rfl rfl (decide_eq_true (p := ((path5.length : Int) = (0 : Int)) ∧ (old1 = r'2.1)) ⟨h10, h11⟩) rfl (PureD.opD (p_bin rfl rfl rfl rfl)) ?_
                      refine r_on rfl rfl rfl rfl (decide_eq_true (p := ((path5.length : Int) = (0 : Int)) ∧ (old1 = r'2.1)) ⟨h10, h11⟩) rfl (PureD.opD (p_move rfl rfl)) ?_
                      refine (Classical.em (n4 > (0 : Int))).elim (fun h12 => ?_) (fun h12 => ?_)
                      · refine r_off rfl rfl rfl rfl (decide_eq_true (p := n4 > (0 : Int)) h12) rfl rfl ?_
                        refine r_off rfl rfl rfl rfl (decide_eq_true (p := n4 > (0 : Int)) h12) rfl rfl ?_
                        refine r_off rfl rfl rfl rfl (decide_eq_true (p := n4 > (0 : Int)) h12) rfl rfl ?_
                        refine r_off rfl rfl rfl rfl (decide_eq_true (p := n4 > (0 : Int)) h12) rfl rfl ?_
                        refine r_off rfl rfl rfl rfl (decide_eq_true (p := n4 > (0 : Int)) h12) rfl rfl ?_
                        refine r_on rfl rfl rfl rfl (decide_eq_true (p := ((path5.length : Int) = (0 : Int)) ∧ (old1 = r'2.1)) ⟨h10, h11⟩) rfl (PureD.opD (p_pkt rfl rfl (decide_eq_true (p := n4 > (0 : Int)) h12) (tb (decide_eq_true (p := (n4 > (0 : Int)) ∨ (head3 = old1)) (Or.inl h12)).symm))) ?_
                        refine rp rfl rfl (p_pkt rfl rfl (decide_eq_true (p := ((path5.length : Int) = (0 : Int)) ∧ (old1 = r'2.1)) ⟨h10, h11⟩) (tb ((and_l (p := ((path5.length : Int) = (0 : Int)) ∧ (old1 = r'2.1)) (q := (n4 > (0 : Int)) ∨ (head3 = old1)) ⟨h10, h11⟩)))) ?_
                        refine rp rfl rfl (p_asg rfl rfl) ?_
                        refine rs [(13, .b (decide ((((path5.length : Int) = (0 : Int)) ∧ (old1 = r'2.1)) ∧ ((n4 > (0 : Int)) ∨ (head3 = old1)))))] [] rfl rfl rfl ?_
                        exact RunW_nil rfl
                      · refine r_on rfl rfl rfl rfl (decide_eq_false (p := n4 > (0 : Int)) h12) rfl (PureD.opD (p_move rfl rfl)) ?_
                        refine r_on rfl rfl rfl rfl (decide_eq_false (p := n4 > (0 : Int)) h12) rfl (PureD.opD (p_cb rfl rfl Tryd.underlying22 Tryd.underlying5 Tryd.underlying9 rfl)) ?_
                        refine r_on rfl rfl rfl rfl (decide_eq_false (p := n4 > (0 : Int)) h12) rfl (PureD.opD (p_move rfl rfl)) ?_
                        refine r_on rfl rfl rfl rfl (decide_eq_false (p := n4 > (0 : Int)) h12) rfl (PureD.opD (p_cb rfl rfl Tryd.underlying22 Tryd.underlying5 Tryd.underlying9 rfl)) ?_
                        refine r_on rfl rfl rfl rfl (decide_eq_false (p := n4 > (0 : Int)) h12) rfl (PureD.opD (p_seq rfl rfl rfl)) ?_
                        refine r_on rfl rfl rfl rfl (decide_eq_true (p := ((path5.length : Int) = (0 : Int)) ∧ (old1 = r'2.1)) ⟨h10, h11⟩) rfl (PureD.opD (p_pkf rfl rfl (decide_eq_false (p := n4 > (0 : Int)) h12) (tb ((or_l (p := n4 > (0 : Int)) (q := head3 = old1) h12))))) ?_
                        refine rp rfl rfl (p_pkt rfl rfl (decide_eq_true (p := ((path5.length : Int) = (0 : Int)) ∧ (old1 = r'2.1)) ⟨h10, h11⟩) (tb ((and_l (p := ((path5.length : Int) = (0 : Int)) ∧ (old1 = r'2.1)) (q := (n4 > (0 : Int)) ∨ (head3 = old1)) ⟨h10, h11⟩)))) ?_
                        refine rp rfl rfl (p_asg rfl rfl) ?_
                        refine rs [(13, .b (decide ((((path5.length : Int) = (0 : Int)) ∧ (old1 = r'2.1)) ∧ ((n4 > (0 : Int)) ∨ (head3 = old1)))))] [] rfl rfl rfl ?_
                        exact RunW_nil rfl
                    · refine r_off rfl rfl rfl rfl (decide_eq_false (p := ((path5.length : Int) = (0 : Int)) ∧ (old1 = r'2.1)) (fun h => h11 h.2)) rfl rfl ?_
                      refine r_off rfl rfl rfl rfl (decide_eq_false (p := ((path5.length : Int) = (0 : Int)) ∧ (old1 = r'2.1)) (fun h => h11 h.2)) rfl rfl ?_
                      refine r_off rfl rfl rfl rfl (decide_eq_false (p := ((path5.length : Int) = (0 : Int)) ∧ (old1 = r'2.1)) (fun h => h11 h.2)) rfl rfl ?_
                      refine r_off2 rfl rfl rfl rfl rfl rfl ?_
                      refine r_off2 rfl rfl rfl rfl rfl rfl ?_
                      refine r_off2 rfl rfl rfl rfl rfl rfl ?_
                      refine r_off2 rfl rfl rfl rfl rfl rfl ?_
                      refine r_off2 rfl rfl rfl rfl rfl rfl ?_
                      refine r_off rfl rfl rfl rfl (decide_eq_false (p := ((path5.length : Int) = (0 : Int)) ∧ (old1 = r'2.1)) (fun h => h11 h.2)) rfl rfl ?_
                      refine rp rfl rfl (p_pkf rfl rfl (decide_eq_false (p := ((path5.length : Int) = (0 : Int)) ∧ (old1 = r'2.1)) (fun h => h11 h.2)) (tb (decide_eq_false (p := (((path5.length : Int) = (0 : Int)) ∧ (old1 = r'2.1)) ∧ ((n4 > (0 : Int)) ∨ (head3 = old1))) (fun x => (fun h => h11 h.2) x.1)).symm)) ?_
                      refine rp rfl rfl (p_asg rfl rfl) ?_
                      refine rs [(13, .b (decide ((((path5.length : Int) = (0 : Int)) ∧ (old1 = r'2.1)) ∧ ((n4 > (0 : Int)) ∨ (head3 = old1)))))] [] rfl rfl rfl ?_
                      exact RunW_nil rfl
                  · refine r_off rfl rfl rfl rfl (decide_eq_false (p := (path5.length : Int) = (0 : Int)) h10) rfl rfl ?_
                    refine r_off rfl rfl rfl rfl (decide_eq_false (p := (path5.length : Int) = (0 : Int)) h10) rfl rfl ?_
                    refine r_off rfl rfl rfl rfl (decide_eq_false (p := (path5.length : Int) = (0 : Int)) h10) rfl rfl ?_
                    refine r_off rfl rfl rfl rfl (decide_eq_false (p := (path5.length : Int) = (0 : Int)) h10) rfl rfl ?_
                    refine r_off rfl rfl rfl rfl (decide_eq_false (p := (path5.length : Int) = (0 : Int)) h10) rfl rfl ?_
                    refine rp rfl rfl (p_pkf rfl rfl (decide_eq_false (p := (path5.length : Int) = (0 : Int)) h10) (tb (decide_eq_false (p := ((path5.length : Int) = (0 : Int)) ∧ (old1 = r'2.1)) (fun x => h10 x.1)).symm)) ?_
                    refine rp rfl rfl (p_move rfl rfl) ?_
                    refine r_off rfl rfl rfl rfl (decide_eq_false (p := ((path5.length : Int) = (0 : Int)) ∧ (old1 = r'2.1)) (fun h => h10 h.1)) rfl rfl ?_
                    refine r_off rfl rfl rfl rfl (decide_eq_false (p := ((path5.length : Int) = (0 : Int)) ∧ (old1 = r'2.1)) (fun h => h10 h.1)) rfl rfl ?_
                    refine r_off rfl rfl rfl rfl (decide_eq_false (p := ((path5.length : Int) = (0 : Int)) ∧ (old1 = r'2.1)) (fun h => h10 h.1)) rfl rfl ?_
                    refine r_off2 rfl rfl rfl rfl rfl rfl ?_
                    refine r_off2 rfl rfl rfl rfl rfl rfl ?_
                    refine r_off2 rfl rfl rfl rfl rfl rfl ?_
                    refine r_off2 rfl rfl rfl rfl rfl rfl ?_
                    refine r_off2 rfl rfl rfl rfl rfl rfl ?_
                    refine r_off rfl rfl rfl rfl (decide_eq_false (p := ((path5.length : Int) = (0 : Int)) ∧ (old1 = r'2.1)) (fun h => h10 h.1)) rfl rfl ?_
                    refine rp rfl rfl (p_pkf rfl rfl (decide_eq_false (p := ((path5.length : Int) = (0 : Int)) ∧ (old1 = r'2.1)) (fun h => h10 h.1)) (tb (decide_eq_false (p := (((path5.length : Int) = (0 : Int)) ∧ (old1 = r'2.1)) ∧ ((n4 > (0 : Int)) ∨ (head3 = old1))) (fun x => (fun h => h10 h.1) x.1)).symm)) ?_
                    refine rp rfl rfl (p_asg rfl rfl) ?_
                    refine rs [(13, .b (decide ((((path5.length : Int) = (0 : Int)) ∧ (old1 = r'2.1)) ∧ ((n4 > (0 : Int)) ∨ (head3 = old1)))))] [] rfl rfl rfl ?_
                    exact RunW_nil rfl
                · have hz := some_elim H
                  subst hz
                  exact rfl
              · replace H := ite_else h9 H
                refine sg [0, 1, 2, 3] rfl ?_
                refine rp rfl rfl (p_move rfl rfl) ?_
                refine rp rfl rfl (p_move rfl rfl) ?_
                refine rp rfl rfl (p_ieq rfl rfl rfl) ?_
                refine rp rfl rfl (p_asg rfl rfl) ?_
                refine rz [(0, .i mode0), (1, .y old1), (2, .i m2), (3, .y head3), (4, .i n4), (5, .p (AV.lists path5)), (70, .b (decide (m2 = n4)))] [] rfl rfl rfl ?_
                refine AW2_if (p := m2 = n4) rfl (fun h13 => ?_) (fun h13 => ?_)
                · replace H := ite_then h13 H
                  refine AW2_mid (⟨[(13, .b (decide (((path5.length : Int) = (0 : Int)) ∧ (old1 = head3))))], [], 86⟩ : TS) ?_ ?_
                  · refine AW2_reg [0, 1, 2, 3, 4, 5, 6, 7, 8, 9, 10] rfl ?_
                    refine rp rfl rfl (p_move rfl rfl) ?_
                    refine rp rfl rfl (p_lenl rfl Tryd.underlying33 rfl rfl) ?_
                    refine rp rfl rfl (p_ieq rfl rfl rfl) ?_
                    refine rp rfl rfl (p_move rfl rfl) ?_
                    refine (Classical.em ((path5.length : Int) = (0 : Int))).elim (fun h14 => ?_) (fun h14 => ?_)
                    · refine r_on rfl rfl rfl rfl (decide_eq_true (p := (path5.length : Int) = (0 : Int)) h14) rfl (PureD.opD (p_move rfl rfl)) ?_
                      refine r_on rfl rfl rfl rfl (decide_eq_true (p := (path5.length : Int) = (0 : Int)) h14) rfl (PureD.opD (p_cb rfl rfl Tryd.underlying22 Tryd.underlying5 Tryd.underlying9 rfl)) ?_
                      refine r_on rfl rfl rfl rfl (decide_eq_true (p := (path5.length : Int) = (0 : Int)) h14) rfl (PureD.opD (p_move rfl rfl)) ?_
                      refine r_on rfl rfl rfl rfl (decide_eq_true (p := (path5.length : Int) = (0 : Int)) h14) rfl (PureD.opD (p_cb rfl rfl Tryd.underlying22 Tryd.underlying5 Tryd.underlying9 rfl)) ?_
                      refine r_on rfl rfl rfl rfl (decide_eq_true (p := (path5.length : Int) = (0 : Int)) h14) rfl (PureD.opD (p_seq rfl rfl rfl)) ?_
                      refine rp rfl rfl (p_pkt rfl rfl (decide_eq_true (p := (path5.length : Int) = (0 : Int)) h14) (tb ((and_l (p := (path5.length : Int) = (0 : Int)) (q := old1 = head3) h14)))) ?_
                      refine rp rfl rfl (p_asg rfl rfl) ?_
                      refine rs [(13, .b (decide (((path5.length : Int) = (0 : Int)) ∧ (old1 = head3))))] [] rfl rfl rfl ?_
                      exact RunW_nil rfl
                    · refine r_off rfl rfl rfl rfl (decide_eq_false (p := (path5.length : Int) = (0 : Int)) h14) rfl rfl ?_
                      refine r_off rfl rfl rfl rfl (decide_eq_false (p := (path5.length : Int) = (0 : Int)) h14) rfl rfl ?_
                      refine r_off rfl rfl rfl rfl (decide_eq_false (p := (path5.length : Int) = (0 : Int)) h14) rfl rfl ?_
                      refine r_off rfl rfl rfl rfl (decide_eq_false (p := (path5.length : Int) = (0 : Int)) h14) rfl rfl ?_
                      refine r_off rfl rfl rfl rfl (decide_eq_false (p := (path5.length : Int) = (0 : Int)) h14) rfl rfl ?_
                      refine rp rfl rfl (p_pkf rfl rfl (decide_eq_false (p := (path5.length : Int) = (0 : Int)) h14) (tb (decide_eq_false (p := ((path5.length : Int) = (0 : Int)) ∧ (old1 = head3)) (fun x => h14 x.1)).symm)) ?_
                      refine rp rfl rfl (p_asg rfl rfl) ?_
                      refine rs [(13, .b (decide (((path5.length : Int) = (0 : Int)) ∧ (old1 = head3))))] [] rfl rfl rfl ?_
                      exact RunW_nil rfl
                  · have hz := some_elim H
                    subst hz
                    exact rfl
                · replace H := ite_else h13 H
                  refine AW2_reg [0, 1, 2, 3, 4, 5, 6, 7] rfl ?_
                  refine rp rfl rfl (p_move rfl rfl) ?_
                  refine rp rfl rfl (p_move rfl rfl) ?_
                  refine rp rfl rfl (p_move rfl rfl) ?_
                  refine rp rfl rfl (p_move rfl rfl) ?_
                  refine rp rfl rfl (p_move rfl rfl) ?_
                  refine rp rfl rfl (p_move rfl rfl) ?_
                  refine bindK H fun r'4 h15 H => ?_
                  refine rp rfl rfl (p_callp rfl rfl rfl Tryd.func71 rfl rfl (g_ref_extended_ac h15) ⟨rfl, rfl, rfl, rfl, rfl, rfl, trivial⟩) ?_
                  refine rp rfl rfl (p_asg rfl rfl) ?_
                  refine rz [(13, .b r'4)] [] rfl rfl rfl ?_
                  have hz := some_elim H
                  subst hz
                  exact rfl
            · refine AW2_seq ?_
              refine sg [0, 1] rfl ?_
              refine rp rfl rfl (p_move rfl rfl) ?_
              refine rp rfl rfl (p_not rfl rfl) ?_
              refine rz [(85, .b (!j'3))] [] rfl rfl rfl ?_
              refine AW2_cond rfl (fun h16 => ?_) (fun h16 => ?_)
              · replace H := ite_then h16 H
                refine sg [0] rfl ?_
                refine rp rfl rfl (p_asg rfl rfl) ?_
                refine rz [(12, .i (10 : Int))] [] rfl rfl rfl ?_
                refine AW2_ret ?_
                have hz := some_elim H
                subst hz
                exact ⟨⟨res_tmp (.same _), trivial⟩, trivial⟩
              · replace H := ite_else (ne_true h16) H
                refine as2 [] [] rfl rfl rfl ?_
                refine AW2_skip ?_
                refine sg [0] rfl ?_
                refine rp rfl rfl (p_asg rfl rfl) ?_
                refine rz [(12, .i (0 : Int))] [] rfl rfl rfl ?_
                refine AW2_ret ?_
                have hz := some_elim H
                subst hz
                exact ⟨⟨res_tmp (.same _), trivial⟩, trivial⟩

/-! chirographlaw.RollExtendChecks -/
noncomputable def g_law_RollExtendChecks (mode0 : Int) (old1 : List UInt8) (m2 : Int) (top3 : List UInt8) (n4 : Int) (path5 : List (List UInt8)) : Option (Bool) :=
  (g_roll_CheckExtend mode0 old1 m2 top3 n4 path5).bind fun r'1 => (g_ref_ExtendFault mode0 old1 m2 top3 n4 path5).bind fun r'2 => some (decide (r'1 = r'2))
set_option maxHeartbeats 4000000 in
set_option maxRecDepth 100000 in
theorem g_law_RollExtendChecks_ac {mode0 : Int} {old1 : List UInt8} {m2 : Int} {top3 : List UInt8} {n4 : Int} {path5 : List (List UInt8)} {r : Bool} (H : g_law_RollExtendChecks mode0 old1 m2 top3 n4 path5 = some r) : ACp Tryd.prog 13 [(AV.int mode0), (AV.bytes old1), (AV.int m2), (AV.bytes top3), (AV.int n4), (AV.lists path5)] (AV.bool r) := by
  refine ACp_of (AC2_of_body (vs := [.b r]) Tryd.func13 rfl rfl (Nat.le_of_ble_eq_true rfl) rfl ?_) (fun _ => .same _)
  unfold g_law_RollExtendChecks at H
  refine as2 [(0, .i mode0), (1, .y old1), (2, .i m2), (3, .y top3), (4, .i n4), (5, .p (AV.lists path5))] [] rfl rfl rfl ?_
  refine sg [0] rfl ?_
  refine rp rfl rfl (p_asg rfl rfl) ?_
  refine rz [(0, .i mode0), (1, .y old1), (2, .i m2), (3, .y top3), (4, .i n4), (5, .p (AV.lists path5))] [] rfl rfl rfl ?_
  refine sg [0, 1, 2, 3, 4, 5, 6, 7] rfl ?_
  refine rp rfl rfl (p_move rfl rfl) ?_
  refine rp rfl rfl (p_move rfl rfl) ?_
  refine rp rfl rfl (p_move rfl rfl) ?_
  refine rp rfl rfl (p_move rfl rfl) ?_
  refine rp rfl rfl (p_move rfl rfl) ?_
  refine rp rfl rfl (p_move rfl rfl) ?_
  refine bindK H fun r'1 h1 H => ?_
  refine rp rfl rfl (p_callp rfl rfl rfl Tryd.func37 rfl rfl (g_roll_CheckExtend_ac h1) ⟨rfl, rfl, rfl, rfl, rfl, rfl, trivial⟩) ?_
  refine rp rfl rfl (p_asg rfl rfl) ?_
  refine rz [(0, .i mode0), (1, .y old1), (2, .i m2), (3, .y top3), (4, .i n4), (5, .p (AV.lists path5)), (13, .i r'1)] [] rfl rfl rfl ?_
  refine sg [0, 1, 2, 3, 4, 5, 6, 7] rfl ?_
  refine rp rfl rfl (p_move rfl rfl) ?_
  refine rp rfl rfl (p_move rfl rfl) ?_
  refine rp rfl rfl (p_move rfl rfl) ?_
  refine rp rfl rfl (p_move rfl rfl) ?_
  refine rp rfl rfl (p_move rfl rfl) ?_
  refine rp rfl rfl (p_move rfl rfl) ?_
  refine bindK H fun r'2 h2 H => ?_
  refine rp rfl rfl (p_callp rfl rfl rfl Tryd.func38 rfl rfl (g_ref_ExtendFault_ac h2) ⟨rfl, rfl, rfl, rfl, rfl, rfl, trivial⟩) ?_
  refine rp rfl rfl (p_asg rfl rfl) ?_
  refine rz [(13, .i r'1), (14, .i r'2)] [] rfl rfl rfl ?_
  refine sg [0, 1, 2, 3] rfl ?_
  refine rp rfl rfl (p_move rfl rfl) ?_
  refine rp rfl rfl (p_move rfl rfl) ?_
  refine rp rfl rfl (p_ieq rfl rfl rfl) ?_
  refine rp rfl rfl (p_asg rfl rfl) ?_
  refine rz [(12, .b (decide (r'1 = r'2)))] [] rfl rfl rfl ?_
  refine AW2_ret ?_
  have hz := some_elim H
  subst hz
  exact ⟨⟨res_tmp (.same _), trivial⟩, trivial⟩
end Go.Proofs.YtkaeboabpahemaaDoor.VM
