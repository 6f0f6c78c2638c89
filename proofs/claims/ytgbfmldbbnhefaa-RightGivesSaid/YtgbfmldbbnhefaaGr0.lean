/- Functions of the program, as they answer, and that their code comes to these answers. -/
import Derived.Test.YtgbfmldbbnhefaaVtTyped
import Derived.Test.YtgbfmldbbnhefaaVtScope
namespace Go.Proofs.Ytgbfmldbbnhefaa.VM
open Go Go.RowKit

structure GGrant where
  From : Int
  To : Int
  Object : Int
  Right : Int
  Option : Bool
deriving DecidableEq, Inhabited
def GGrant.zero : GGrant := ⟨(0 : Int), (0 : Int), (0 : Int), (0 : Int), false⟩
def GGrant.cs (x : GGrant) : List AV := ([(AV.int x.From)]) ++ (([(AV.int x.To)]) ++ (([(AV.int x.Object)]) ++ (([(AV.int x.Right)]) ++ ([(AV.bool x.Option)]))))
theorem GGrant.len (x : GGrant) : (GGrant.cs x).length = 5 := by
  simp only [GGrant.cs, List.length_append]
  rw [show ([(AV.int x.From)]).length = 1 from (show ([(AV.int x.From)]).length = 1 from rfl), show ([(AV.int x.To)]).length = 1 from (show ([(AV.int x.To)]).length = 1 from rfl), show ([(AV.int x.Object)]).length = 1 from (show ([(AV.int x.Object)]).length = 1 from rfl), show ([(AV.int x.Right)]).length = 1 from (show ([(AV.int x.Right)]).length = 1 from rfl), show ([(AV.bool x.Option)]).length = 1 from (show ([(AV.bool x.Option)]).length = 1 from rfl)]
theorem GGrant.sub0 (x : GGrant) : Sub (GGrant.cs x) 0 ([(AV.int x.From)]) := Sub.head _ _
theorem GGrant.upd0 (x : GGrant) (y : Int) : Upd (GGrant.cs x) 0 ([(AV.int y)]) (GGrant.cs { x with From := y }) := Upd.head (show ([(AV.int y)]).length = ([(AV.int x.From)]).length from rfl)
theorem GGrant.sub1 (x : GGrant) : Sub (GGrant.cs x) 1 ([(AV.int x.To)]) := Sub.skip (k := 1) (show ([(AV.int x.From)]).length = 1 from rfl) (Sub.head _ _)
theorem GGrant.upd1 (x : GGrant) (y : Int) : Upd (GGrant.cs x) 1 ([(AV.int y)]) (GGrant.cs { x with To := y }) := Upd.skip (k := 1) (show ([(AV.int x.From)]).length = 1 from rfl) (Upd.head (show ([(AV.int y)]).length = ([(AV.int x.To)]).length from rfl))
theorem GGrant.sub2 (x : GGrant) : Sub (GGrant.cs x) 2 ([(AV.int x.Object)]) := Sub.skip (k := 1) (show ([(AV.int x.From)]).length = 1 from rfl) (Sub.skip (k := 1) (show ([(AV.int x.To)]).length = 1 from rfl) (Sub.head _ _))
theorem GGrant.upd2 (x : GGrant) (y : Int) : Upd (GGrant.cs x) 2 ([(AV.int y)]) (GGrant.cs { x with Object := y }) := Upd.skip (k := 1) (show ([(AV.int x.From)]).length = 1 from rfl) (Upd.skip (k := 1) (show ([(AV.int x.To)]).length = 1 from rfl) (Upd.head (show ([(AV.int y)]).length = ([(AV.int x.Object)]).length from rfl)))
theorem GGrant.sub3 (x : GGrant) : Sub (GGrant.cs x) 3 ([(AV.int x.Right)]) := Sub.skip (k := 1) (show ([(AV.int x.From)]).length = 1 from rfl) (Sub.skip (k := 1) (show ([(AV.int x.To)]).length = 1 from rfl) (Sub.skip (k := 1) (show ([(AV.int x.Object)]).length = 1 from rfl) (Sub.head _ _)))
theorem GGrant.upd3 (x : GGrant) (y : Int) : Upd (GGrant.cs x) 3 ([(AV.int y)]) (GGrant.cs { x with Right := y }) := Upd.skip (k := 1) (show ([(AV.int x.From)]).length = 1 from rfl) (Upd.skip (k := 1) (show ([(AV.int x.To)]).length = 1 from rfl) (Upd.skip (k := 1) (show ([(AV.int x.Object)]).length = 1 from rfl) (Upd.head (show ([(AV.int y)]).length = ([(AV.int x.Right)]).length from rfl))))
theorem GGrant.sub4 (x : GGrant) : Sub (GGrant.cs x) 4 ([(AV.bool x.Option)]) := Sub.skip (k := 1) (show ([(AV.int x.From)]).length = 1 from rfl) (Sub.skip (k := 1) (show ([(AV.int x.To)]).length = 1 from rfl) (Sub.skip (k := 1) (show ([(AV.int x.Object)]).length = 1 from rfl) (Sub.skip (k := 1) (show ([(AV.int x.Right)]).length = 1 from rfl) (Sub.refl _))))
theorem GGrant.upd4 (x : GGrant) (y : Bool) : Upd (GGrant.cs x) 4 ([(AV.bool y)]) (GGrant.cs { x with Option := y }) := Upd.skip (k := 1) (show ([(AV.int x.From)]).length = 1 from rfl) (Upd.skip (k := 1) (show ([(AV.int x.To)]).length = 1 from rfl) (Upd.skip (k := 1) (show ([(AV.int x.Object)]).length = 1 from rfl) (Upd.skip (k := 1) (show ([(AV.int x.Right)]).length = 1 from rfl) (Upd.refl (show ([(AV.bool y)]).length = ([(AV.bool x.Option)]).length from rfl)))))
theorem GGrant.nl (x : GGrant) : (GGrant.cs x).all noLst1 = true := nlA rfl (nlA rfl (nlA rfl (nlA rfl (rfl))))
theorem in_3 : Info Try.prog 3 1 8 (.int .i64 0) := by unfold Info; kernel_rfl
theorem one_3 : (.int .i64 0 : Value).cells.all (·.oneCell') = true := by kernel_rfl
theorem zc_3 : ((.int .i64 0 : Value).cells.toList.map zcell) = [(AV.int (0 : Int))] := by rfl

/-! right.owner -/
noncomputable def g_right_owner (object0 : Int) : Option (Int) :=
  some (w64 (object0.tdiv (4 : Int)))
set_option maxHeartbeats 4000000 in
set_option maxRecDepth 100000 in
theorem g_right_owner_ac {object0 : Int} {r : Int} (H : g_right_owner object0 = some r) : ACp Try.prog 27 [(AV.int object0)] (AV.int r) := by
  refine ACp_of (AC2_of_body (vs := [.c (.p (AV.int r))]) Try.func27 rfl rfl (Nat.le_of_ble_eq_true rfl) rfl ?_) (fun _ => .same _)
  unfold g_right_owner at H
  refine AW2_st [(0, .c (.p (AV.int object0)))] [] rfl ⟨TLes.same _, trivial⟩ trivial ?_
  refine AW2_seq ?_
  refine AW2_reg [0] rfl ?_
  refine r_op rfl rfl (PureD.opD (p_asg rfl rfl)) ?_
  refine RunW_st [(0, .c (.p (AV.int object0)))] [] rfl ⟨TLes.same _, trivial⟩ trivial ?_
  refine RunW_nil ?_
  refine AW2_seq ?_
  refine AW2_reg [0, 1, 2] rfl ?_
  refine r_op rfl rfl (PureD.opD (p_move rfl rfl)) ?_
  refine r_op rfl rfl (PureD.opD (p_iquo rfl rfl rfl (by decide))) ?_
  refine r_op rfl rfl (PureD.opD (p_asg rfl rfl)) ?_
  refine RunW_st [(2, .c (.p (AV.int (w64 (object0.tdiv (4 : Int))))))] [] rfl ⟨TLes.same _, trivial⟩ trivial ?_
  refine RunW_nil ?_
  refine AW2_ret ?_
  have hz := some_elim H
  subst hz
  exact ⟨⟨res_tmp (.same _), trivial⟩, trivial⟩

/-! right.bounds -/
noncomputable def g_right_bounds (g0 : GGrant) : Option (Int) :=
  (if (((((g0.From < (0 : Int)) ∨ (g0.From ≥ (3 : Int))) ∨ (g0.To < (0 : Int))) ∨ (g0.To ≥ (3 : Int))) ∨ (g0.Object < (0 : Int))) ∨ (g0.Object ≥ (12 : Int)) then some (6 : Int) else (if (g0.Right ≠ (1 : Int)) ∧ (g0.Right ≠ (2 : Int)) then some (2 : Int) else ((if g0.From = g0.To then some true else (g_right_owner g0.Object).bind fun r'1 => some (decide (g0.To = r'1)))).bind fun g'2 => (if g'2 = true then some (3 : Int) else some (0 : Int))))
set_option maxHeartbeats 4000000 in
set_option maxRecDepth 100000 in
theorem g_right_bounds_ac {g0 : GGrant} {r : Int} (H : g_right_bounds g0 = some r) : ACp Try.prog 19 [(.agg (GGrant.cs g0))] (AV.int r) := by
  refine ACp_of (AC2_of_body (vs := [.c (.p (AV.int r))]) Try.func19 rfl rfl (Nat.le_of_ble_eq_true rfl) rfl ?_) (fun _ => .same _)
  unfold g_right_bounds at H
  refine AW2_st [(0, .c (.p (.agg (GGrant.cs g0))))] [] rfl ⟨TLes.same _, trivial⟩ trivial ?_
  refine AW2_seq ?_
  refine AW2_reg [0, 1] rfl ?_
  refine r_op rfl rfl (MakeD.opD (n_box 1 rfl rfl) rfl rfl rfl rfl) ?_
  refine r_op rfl rfl (PureD.opD (p_asg rfl rfl)) ?_
  refine RunW_st [(1, .c (.ptr 1 (0)))] [(1, .pure (GGrant.cs g0))] rfl ⟨TLes.same _, trivial⟩ ⟨rfl, trivial⟩ ?_
  refine RunW_nil ?_
  refine AW2_seq ?_
  refine AW2_seq ?_
  refine AW2_mid (⟨[(1, .c (.ptr 1 (0))), (30, .c (.p (.bool (decide ((((((g0.From < (0 : Int)) ∨ (g0.From ≥ (3 : Int))) ∨ (g0.To < (0 : Int))) ∨ (g0.To ≥ (3 : Int))) ∨ (g0.Object < (0 : Int))) ∨ (g0.Object ≥ (12 : Int)))))))], [(1, .pure (GGrant.cs g0))], 52⟩ : TS) ?_ ?_
  · refine AW2_reg [0, 1, 2, 3, 4, 5, 6, 7, 8, 9, 10, 11, 12, 13, 14, 15, 16, 17, 18, 19, 20, 21, 22, 23, 24, 25, 26, 27] rfl ?_
    refine r_op rfl rfl (PureD.opD (u_fa rfl rfl Try.underlying27 rfl in_3 (Nat.succ_ne_zero _) rfl rfl (ne_of_lt (n := 0) (Nat.lt_of_lt_of_eq (by decide) (Eq.symm (GGrant.len g0)))))) ?_
    refine r_op rfl rfl (PureD.opD (u_ld rfl rfl Try.underlying3 rfl rfl ((Sub.refl _).trans (GGrant.sub0 g0)))) ?_
    refine r_op rfl rfl (PureD.opD (p_bin rfl rfl rfl rfl)) ?_
    refine r_op rfl rfl (PureD.opD (p_move rfl rfl)) ?_
    refine (Classical.em (g0.From < (0 : Int))).elim (fun h1 => ?_) (fun h1 => ?_)
    · refine r_off rfl rfl rfl rfl (decide_eq_true (p := g0.From < (0 : Int)) h1) rfl rfl ?_
      refine r_off rfl rfl rfl rfl (decide_eq_true (p := g0.From < (0 : Int)) h1) rfl rfl ?_
      refine r_off rfl rfl rfl rfl (decide_eq_true (p := g0.From < (0 : Int)) h1) rfl rfl ?_
      refine r_op rfl rfl (PureD.opD (p_pkt rfl rfl (decide_eq_true (p := g0.From < (0 : Int)) h1) (tb (decide_eq_true (p := (g0.From < (0 : Int)) ∨ (g0.From ≥ (3 : Int))) (Or.inl h1)).symm))) ?_
      refine r_op rfl rfl (PureD.opD (p_move rfl rfl)) ?_
      refine r_off rfl rfl rfl rfl (decide_eq_true (p := (g0.From < (0 : Int)) ∨ (g0.From ≥ (3 : Int))) (Or.inl h1)) rfl rfl ?_
      refine r_off rfl rfl rfl rfl (decide_eq_true (p := (g0.From < (0 : Int)) ∨ (g0.From ≥ (3 : Int))) (Or.inl h1)) rfl rfl ?_
      refine r_off rfl rfl rfl rfl (decide_eq_true (p := (g0.From < (0 : Int)) ∨ (g0.From ≥ (3 : Int))) (Or.inl h1)) rfl rfl ?_
      refine r_op rfl rfl (PureD.opD (p_pkt rfl rfl (decide_eq_true (p := (g0.From < (0 : Int)) ∨ (g0.From ≥ (3 : Int))) (Or.inl h1)) (tb (decide_eq_true (p := ((g0.From < (0 : Int)) ∨ (g0.From ≥ (3 : Int))) ∨ (g0.To < (0 : Int))) (Or.inl (Or.inl h1))).symm))) ?_
      refine r_op rfl rfl (PureD.opD (p_move rfl rfl)) ?_
      refine r_off rfl rfl rfl rfl (decide_eq_true (p := ((g0.From < (0 : Int)) ∨ (g0.From ≥ (3 : Int))) ∨ (g0.To < (0 : Int))) (Or.inl (Or.inl h1))) rfl rfl ?_
      refine r_off rfl rfl rfl rfl (decide_eq_true (p := ((g0.From < (0 : Int)) ∨ (g0.From ≥ (3 : Int))) ∨ (g0.To < (0 : Int))) (Or.inl (Or.inl h1))) rfl rfl ?_
      refine r_off rfl rfl rfl rfl (decide_eq_true (p := ((g0.From < (0 : Int)) ∨ (g0.From ≥ (3 : Int))) ∨ (g0.To < (0 : Int))) (Or.inl (Or.inl h1))) rfl rfl ?_
      refine r_op rfl rfl (PureD.opD (p_pkt rfl rfl (decide_eq_true (p := ((g0.From < (0 : Int)) ∨ (g0.From ≥ (3 : Int))) ∨ (g0.To < (0 : Int))) (Or.inl (Or.inl h1))) (tb (decide_eq_true (p := (((g0.From < (0 : Int)) ∨ (g0.From ≥ (3 : Int))) ∨ (g0.To < (0 : Int))) ∨ (g0.To ≥ (3 : Int))) (Or.inl (Or.inl (Or.inl h1)))).symm))) ?_
      refine r_op rfl rfl (PureD.opD (p_move rfl rfl)) ?_
      refine r_off rfl rfl rfl rfl (decide_eq_true (p := (((g0.From < (0 : Int)) ∨ (g0.From ≥ (3 : Int))) ∨ (g0.To < (0 : Int))) ∨ (g0.To ≥ (3 : Int))) (Or.inl (Or.inl (Or.inl h1)))) rfl rfl ?_
      refine r_off rfl rfl rfl rfl (decide_eq_true (p := (((g0.From < (0 : Int)) ∨ (g0.From ≥ (3 : Int))) ∨ (g0.To < (0 : Int))) ∨ (g0.To ≥ (3 : Int))) (Or.inl (Or.inl (Or.inl h1)))) rfl rfl ?_
      refine r_off rfl rfl rfl rfl (decide_eq_true (p := (((g0.From < (0 : Int)) ∨ (g0.From ≥ (3 : Int))) ∨ (g0.To < (0 : Int))) ∨ (g0.To ≥ (3 : Int))) (Or.inl (Or.inl (Or.inl h1)))) rfl rfl ?_
      refine r_op rfl rfl (PureD.opD (p_pkt rfl rfl (decide_eq_true (p := (((g0.From < (0 : Int)) ∨ (g0.From ≥ (3 : Int))) ∨ (g0.To < (0 : Int))) ∨ (g0.To ≥ (3 : Int))) (Or.inl (Or.inl (Or.inl h1)))) (tb (decide_eq_true (p := ((((g0.From < (0 : Int)) ∨ (g0.From ≥ (3 : Int))) ∨ (g0.To < (0 : Int))) ∨ (g0.To ≥ (3 : Int))) ∨ (g0.Object < (0 : Int))) (Or.inl (Or.inl (Or.inl (Or.inl h1))))).symm))) ?_
      refine r_op rfl rfl (PureD.opD (p_move rfl rfl)) ?_
      refine r_off rfl rfl rfl rfl (decide_eq_true (p := ((((g0.From < (0 : Int)) ∨ (g0.From ≥ (3 : Int))) ∨ (g0.To < (0 : Int))) ∨ (g0.To ≥ (3 : Int))) ∨ (g0.Object < (0 : Int))) (Or.inl (Or.inl (Or.inl (Or.inl h1))))) rfl rfl ?_
      refine r_off rfl rfl rfl rfl (decide_eq_true (p := ((((g0.From < (0 : Int)) ∨ (g0.From ≥ (3 : Int))) ∨ (g0.To < (0 : Int))) ∨ (g0.To ≥ (3 : Int))) ∨ (g0.Object < (0 : Int))) (Or.inl (Or.inl (Or.inl (Or.inl h1))))) rfl rfl ?_
      refine r_off rfl rfl rfl rfl (decide_eq_true (p := ((((g0.From < (0 : Int)) ∨ (g0.From ≥ (3 : Int))) ∨ (g0.To < (0 : Int))) ∨ (g0.To ≥ (3 : Int))) ∨ (g0.Object < (0 : Int))) (Or.inl (Or.inl (Or.inl (Or.inl h1))))) rfl rfl ?_
      refine r_op rfl rfl (PureD.opD (p_pkt rfl rfl (decide_eq_true (p := ((((g0.From < (0 : Int)) ∨ (g0.From ≥ (3 : Int))) ∨ (g0.To < (0 : Int))) ∨ (g0.To ≥ (3 : Int))) ∨ (g0.Object < (0 : Int))) (Or.inl (Or.inl (Or.inl (Or.inl h1))))) (tb (decide_eq_true (p := (((((g0.From < (0 : Int)) ∨ (g0.From ≥ (3 : Int))) ∨ (g0.To < (0 : Int))) ∨ (g0.To ≥ (3 : Int))) ∨ (g0.Object < (0 : Int))) ∨ (g0.Object ≥ (12 : Int))) (Or.inl (Or.inl (Or.inl (Or.inl (Or.inl h1)))))).symm))) ?_
      refine RunW_st [(1, .c (.ptr 1 (0))), (30, .c (.p (.bool (decide ((((((g0.From < (0 : Int)) ∨ (g0.From ≥ (3 : Int))) ∨ (g0.To < (0 : Int))) ∨ (g0.To ≥ (3 : Int))) ∨ (g0.Object < (0 : Int))) ∨ (g0.Object ≥ (12 : Int)))))))] [(1, .pure (GGrant.cs g0))] rfl ⟨TLes.same _, TLes.same _, trivial⟩ ⟨rfl, trivial⟩ ?_
      exact RunW_nil rfl
    · refine r_on rfl rfl rfl rfl (decide_eq_false (p := g0.From < (0 : Int)) h1) rfl (PureD.opD (u_fa rfl rfl Try.underlying27 rfl in_3 (Nat.succ_ne_zero _) rfl rfl (ne_of_lt (n := 0) (Nat.lt_of_lt_of_eq (by decide) (Eq.symm (GGrant.len g0)))))) ?_
      refine r_on rfl rfl rfl rfl (decide_eq_false (p := g0.From < (0 : Int)) h1) rfl (PureD.opD (u_ld rfl rfl Try.underlying3 rfl rfl ((Sub.refl _).trans (GGrant.sub0 g0)))) ?_
      refine r_on rfl rfl rfl rfl (decide_eq_false (p := g0.From < (0 : Int)) h1) rfl (PureD.opD (p_bin rfl rfl rfl rfl)) ?_
      refine r_op rfl rfl (PureD.opD (p_pkf rfl rfl (decide_eq_false (p := g0.From < (0 : Int)) h1) (tb ((or_l (p := g0.From < (0 : Int)) (q := g0.From ≥ (3 : Int)) h1))))) ?_
      refine r_op rfl rfl (PureD.opD (p_move rfl rfl)) ?_
      refine (Classical.em (g0.From ≥ (3 : Int))).elim (fun h2 => ?_) (fun h2 => ?_)
      · refine r_off rfl rfl rfl rfl (decide_eq_true (p := (g0.From < (0 : Int)) ∨ (g0.From ≥ (3 : Int))) (Or.inr h2)) rfl rfl ?_
        refine r_off rfl rfl rfl rfl (decide_eq_true (p := (g0.From < (0 : Int)) ∨ (g0.From ≥ (3 : Int))) (Or.inr h2)) rfl rfl ?_
        refine r_off rfl rfl rfl rfl (decide_eq_true (p := (g0.From < (0 : Int)) ∨ (g0.From ≥ (3 : Int))) (Or.inr h2)) rfl rfl ?_
        refine r_op rfl rfl (PureD.opD (p_pkt rfl rfl (decide_eq_true (p := (g0.From < (0 : Int)) ∨ (g0.From ≥ (3 : Int))) (Or.inr h2)) (tb (decide_eq_true (p := ((g0.From < (0 : Int)) ∨ (g0.From ≥ (3 : Int))) ∨ (g0.To < (0 : Int))) (Or.inl (Or.inr h2))).symm))) ?_
        refine r_op rfl rfl (PureD.opD (p_move rfl rfl)) ?_
        refine r_off rfl rfl rfl rfl (decide_eq_true (p := ((g0.From < (0 : Int)) ∨ (g0.From ≥ (3 : Int))) ∨ (g0.To < (0 : Int))) (Or.inl (Or.inr h2))) rfl rfl ?_
        refine r_off rfl rfl rfl rfl (decide_eq_true (p := ((g0.From < (0 : Int)) ∨ (g0.From ≥ (3 : Int))) ∨ (g0.To < (0 : Int))) (Or.inl (Or.inr h2))) rfl rfl ?_
        refine r_off rfl rfl rfl rfl (decide_eq_true (p := ((g0.From < (0 : Int)) ∨ (g0.From ≥ (3 : Int))) ∨ (g0.To < (0 : Int))) (Or.inl (Or.inr h2))) rfl rfl ?_
        refine r_op rfl rfl (PureD.opD (p_pkt rfl rfl (decide_eq_true (p := ((g0.From < (0 : Int)) ∨ (g0.From ≥ (3 : Int))) ∨ (g0.To < (0 : Int))) (Or.inl (Or.inr h2))) (tb (decide_eq_true (p := (((g0.From < (0 : Int)) ∨ (g0.From ≥ (3 : Int))) ∨ (g0.To < (0 : Int))) ∨ (g0.To ≥ (3 : Int))) (Or.inl (Or.inl (Or.inr h2)))).symm))) ?_
        refine r_op rfl rfl (PureD.opD (p_move rfl rfl)) ?_
        refine r_off rfl rfl rfl rfl (decide_eq_true (p := (((g0.From < (0 : Int)) ∨ (g0.From ≥ (3 : Int))) ∨ (g0.To < (0 : Int))) ∨ (g0.To ≥ (3 : Int))) (Or.inl (Or.inl (Or.inr h2)))) rfl rfl ?_
        refine r_off rfl rfl rfl rfl (decide_eq_true (p := (((g0.From < (0 : Int)) ∨ (g0.From ≥ (3 : Int))) ∨ (g0.To < (0 : Int))) ∨ (g0.To ≥ (3 : Int))) (Or.inl (Or.inl (Or.inr h2)))) rfl rfl ?_
        refine r_off rfl rfl rfl rfl (decide_eq_true (p := (((g0.From < (0 : Int)) ∨ (g0.From ≥ (3 : Int))) ∨ (g0.To < (0 : Int))) ∨ (g0.To ≥ (3 : Int))) (Or.inl (Or.inl (Or.inr h2)))) rfl rfl ?_
        refine r_op rfl rfl (PureD.opD (p_pkt rfl rfl (decide_eq_true (p := (((g0.From < (0 : Int)) ∨ (g0.From ≥ (3 : Int))) ∨ (g0.To < (0 : Int))) ∨ (g0.To ≥ (3 : Int))) (Or.inl (Or.inl (Or.inr h2)))) (tb (decide_eq_true (p := ((((g0.From < (0 : Int)) ∨ (g0.From ≥ (3 : Int))) ∨ (g0.To < (0 : Int))) ∨ (g0.To ≥ (3 : Int))) ∨ (g0.Object < (0 : Int))) (Or.inl (Or.inl (Or.inl (Or.inr h2))))).symm))) ?_
        refine r_op rfl rfl (PureD.opD (p_move rfl rfl)) ?_
        refine r_off rfl rfl rfl rfl (decide_eq_true (p := ((((g0.From < (0 : Int)) ∨ (g0.From ≥ (3 : Int))) ∨ (g0.To < (0 : Int))) ∨ (g0.To ≥ (3 : Int))) ∨ (g0.Object < (0 : Int))) (Or.inl (Or.inl (Or.inl (Or.inr h2))))) rfl rfl ?_
        refine r_off rfl rfl rfl rfl (decide_eq_true (p := ((((g0.From < (0 : Int)) ∨ (g0.From ≥ (3 : Int))) ∨ (g0.To < (0 : Int))) ∨ (g0.To ≥ (3 : Int))) ∨ (g0.Object < (0 : Int))) (Or.inl (Or.inl (Or.inl (Or.inr h2))))) rfl rfl ?_
        refine r_off rfl rfl rfl rfl (decide_eq_true (p := ((((g0.From < (0 : Int)) ∨ (g0.From ≥ (3 : Int))) ∨ (g0.To < (0 : Int))) ∨ (g0.To ≥ (3 : Int))) ∨ (g0.Object < (0 : Int))) (Or.inl (Or.inl (Or.inl (Or.inr h2))))) rfl rfl ?_
        refine r_op rfl rfl (PureD.opD (p_pkt rfl rfl (decide_eq_true (p := ((((g0.From < (0 : Int)) ∨ (g0.From ≥ (3 : Int))) ∨ (g0.To < (0 : Int))) ∨ (g0.To ≥ (3 : Int))) ∨ (g0.Object < (0 : Int))) (Or.inl (Or.inl (Or.inl (Or.inr h2))))) (tb (decide_eq_true (p := (((((g0.From < (0 : Int)) ∨ (g0.From ≥ (3 : Int))) ∨ (g0.To < (0 : Int))) ∨ (g0.To ≥ (3 : Int))) ∨ (g0.Object < (0 : Int))) ∨ (g0.Object ≥ (12 : Int))) (Or.inl (Or.inl (Or.inl (Or.inl (Or.inr h2)))))).symm))) ?_
        refine RunW_st [(1, .c (.ptr 1 (0))), (30, .c (.p (.bool (decide ((((((g0.From < (0 : Int)) ∨ (g0.From ≥ (3 : Int))) ∨ (g0.To < (0 : Int))) ∨ (g0.To ≥ (3 : Int))) ∨ (g0.Object < (0 : Int))) ∨ (g0.Object ≥ (12 : Int)))))))] [(1, .pure (GGrant.cs g0))] rfl ⟨TLes.same _, TLes.same _, trivial⟩ ⟨rfl, trivial⟩ ?_
        exact RunW_nil rfl
      · refine r_on rfl rfl rfl rfl (decide_eq_false (p := (g0.From < (0 : Int)) ∨ (g0.From ≥ (3 : Int))) (not_or.2 ⟨h1, h2⟩)) rfl (PureD.opD (u_fa rfl rfl Try.underlying27 rfl in_3 (Nat.succ_ne_zero _) rfl rfl (ne_of_lt (n := 0) (Nat.lt_of_lt_of_eq (by decide) (Eq.symm (GGrant.len g0)))))) ?_
        refine r_on rfl rfl rfl rfl (decide_eq_false (p := (g0.From < (0 : Int)) ∨ (g0.From ≥ (3 : Int))) (not_or.2 ⟨h1, h2⟩)) rfl (PureD.opD (u_ld rfl rfl Try.underlying3 rfl rfl ((Sub.refl _).trans (GGrant.sub1 g0)))) ?_
        refine r_on rfl rfl rfl rfl (decide_eq_false (p := (g0.From < (0 : Int)) ∨ (g0.From ≥ (3 : Int))) (not_or.2 ⟨h1, h2⟩)) rfl (PureD.opD (p_bin rfl rfl rfl rfl)) ?_
        refine r_op rfl rfl (PureD.opD (p_pkf rfl rfl (decide_eq_false (p := (g0.From < (0 : Int)) ∨ (g0.From ≥ (3 : Int))) (not_or.2 ⟨h1, h2⟩)) (tb ((or_l (p := (g0.From < (0 : Int)) ∨ (g0.From ≥ (3 : Int))) (q := g0.To < (0 : Int)) (not_or.2 ⟨h1, h2⟩)))))) ?_
        refine r_op rfl rfl (PureD.opD (p_move rfl rfl)) ?_
        refine (Classical.em (g0.To < (0 : Int))).elim (fun h3 => ?_) (fun h3 => ?_)
        · refine r_off rfl rfl rfl rfl (decide_eq_true (p := ((g0.From < (0 : Int)) ∨ (g0.From ≥ (3 : Int))) ∨ (g0.To < (0 : Int))) (Or.inr h3)) rfl rfl ?_
          refine r_off rfl rfl rfl rfl (decide_eq_true (p := ((g0.From < (0 : Int)) ∨ (g0.From ≥ (3 : Int))) ∨ (g0.To < (0 : Int))) (Or.inr h3)) rfl rfl ?_
          refine r_off rfl rfl rfl rfl (decide_eq_true (p := ((g0.From < (0 : Int)) ∨ (g0.From ≥ (3 : Int))) ∨ (g0.To < (0 : Int))) (Or.inr h3)) rfl rfl ?_
          refine r_op rfl rfl (PureD.opD (p_pkt rfl rfl (decide_eq_true (p := ((g0.From < (0 : Int)) ∨ (g0.From ≥ (3 : Int))) ∨ (g0.To < (0 : Int))) (Or.inr h3)) (tb (decide_eq_true (p := (((g0.From < (0 : Int)) ∨ (g0.From ≥ (3 : Int))) ∨ (g0.To < (0 : Int))) ∨ (g0.To ≥ (3 : Int))) (Or.inl (Or.inr h3))).symm))) ?_
          refine r_op rfl rfl (PureD.opD (p_move rfl rfl)) ?_
          refine r_off rfl rfl rfl rfl (decide_eq_true (p := (((g0.From < (0 : Int)) ∨ (g0.From ≥ (3 : Int))) ∨ (g0.To < (0 : Int))) ∨ (g0.To ≥ (3 : Int))) (Or.inl (Or.inr h3))) rfl rfl ?_
          refine r_off rfl rfl rfl rfl (decide_eq_true (p := (((g0.From < (0 : Int)) ∨ (g0.From ≥ (3 : Int))) ∨ (g0.To < (0 : Int))) ∨ (g0.To ≥ (3 : Int))) (Or.inl (Or.inr h3))) rfl rfl ?_
          refine r_off rfl rfl rfl rfl (decide_eq_true (p := (((g0.From < (0 : Int)) ∨ (g0.From ≥ (3 : Int))) ∨ (g0.To < (0 : Int))) ∨ (g0.To ≥ (3 : Int))) (Or.inl (Or.inr h3))) rfl rfl ?_
          refine r_op rfl rfl (PureD.opD (p_pkt rfl rfl (decide_eq_true (p := (((g0.From < (0 : Int)) ∨ (g0.From ≥ (3 : Int))) ∨ (g0.To < (0 : Int))) ∨ (g0.To ≥ (3 : Int))) (Or.inl (Or.inr h3))) (tb (decide_eq_true (p := ((((g0.From < (0 : Int)) ∨ (g0.From ≥ (3 : Int))) ∨ (g0.To < (0 : Int))) ∨ (g0.To ≥ (3 : Int))) ∨ (g0.Object < (0 : Int))) (Or.inl (Or.inl (Or.inr h3)))).symm))) ?_
          refine r_op rfl rfl (PureD.opD (p_move rfl rfl)) ?_
          refine r_off rfl rfl rfl rfl (decide_eq_true (p := ((((g0.From < (0 : Int)) ∨ (g0.From ≥ (3 : Int))) ∨ (g0.To < (0 : Int))) ∨ (g0.To ≥ (3 : Int))) ∨ (g0.Object < (0 : Int))) (Or.inl (Or.inl (Or.inr h3)))) rfl rfl ?_
          refine r_off rfl rfl rfl rfl (decide_eq_true (p := ((((g0.From < (0 : Int)) ∨ (g0.From ≥ (3 : Int))) ∨ (g0.To < (0 : Int))) ∨ (g0.To ≥ (3 : Int))) ∨ (g0.Object < (0 : Int))) (Or.inl (Or.inl (Or.inr h3)))) rfl rfl ?_
          refine r_off rfl rfl rfl rfl (decide_eq_true (p := ((((g0.From < (0 : Int)) ∨ (g0.From ≥ (3 : Int))) ∨ (g0.To < (0 : Int))) ∨ (g0.To ≥ (3 : Int))) ∨ (g0.Object < (0 : Int))) (Or.inl (Or.inl (Or.inr h3)))) rfl rfl ?_
          refine r_op rfl rfl (PureD.opD (p_pkt rfl rfl (decide_eq_true (p := ((((g0.From < (0 : Int)) ∨ (g0.From ≥ (3 : Int))) ∨ (g0.To < (0 : Int))) ∨ (g0.To ≥ (3 : Int))) ∨ (g0.Object < (0 : Int))) (Or.inl (Or.inl (Or.inr h3)))) (tb (decide_eq_true (p := (((((g0.From < (0 : Int)) ∨ (g0.From ≥ (3 : Int))) ∨ (g0.To < (0 : Int))) ∨ (g0.To ≥ (3 : Int))) ∨ (g0.Object < (0 : Int))) ∨ (g0.Object ≥ (12 : Int))) (Or.inl (Or.inl (Or.inl (Or.inr h3))))).symm))) ?_
          refine RunW_st [(1, .c (.ptr 1 (0))), (30, .c (.p (.bool (decide ((((((g0.From < (0 : Int)) ∨ (g0.From ≥ (3 : Int))) ∨ (g0.To < (0 : Int))) ∨ (g0.To ≥ (3 : Int))) ∨ (g0.Object < (0 : Int))) ∨ (g0.Object ≥ (12 : Int)))))))] [(1, .pure (GGrant.cs g0))] rfl ⟨TLes.same _, TLes.same _, trivial⟩ ⟨rfl, trivial⟩ ?_
          exact RunW_nil rfl
        · refine r_on rfl rfl rfl rfl (decide_eq_false (p := ((g0.From < (0 : Int)) ∨ (g0.From ≥ (3 : Int))) ∨ (g0.To < (0 : Int))) (not_or.2 ⟨(not_or.2 ⟨h1, h2⟩), h3⟩)) rfl (PureD.opD (u_fa rfl rfl Try.underlying27 rfl in_3 (Nat.succ_ne_zero _) rfl rfl (ne_of_lt (n := 0) (Nat.lt_of_lt_of_eq (by decide) (Eq.symm (GGrant.len g0)))))) ?_
          refine r_on rfl rfl rfl rfl (decide_eq_false (p := ((g0.From < (0 : Int)) ∨ (g0.From ≥ (3 : Int))) ∨ (g0.To < (0 : Int))) (not_or.2 ⟨(not_or.2 ⟨h1, h2⟩), h3⟩)) rfl (PureD.opD (u_ld rfl rfl Try.underlying3 rfl rfl ((Sub.refl _).trans (GGrant.sub1 g0)))) ?_
          refine r_on rfl rfl rfl rfl (decide_eq_false (p := ((g0.From < (0 : Int)) ∨ (g0.From ≥ (3 : Int))) ∨ (g0.To < (0 : Int))) (not_or.2 ⟨(not_or.2 ⟨h1, h2⟩), h3⟩)) rfl (PureD.opD (p_bin rfl rfl rfl rfl)) ?_
          refine r_op rfl rfl (PureD.opD (p_pkf rfl rfl (decide_eq_false (p := ((g0.From < (0 : Int)) ∨ (g0.From ≥ (3 : Int))) ∨ (g0.To < (0 : Int))) (not_or.2 ⟨(not_or.2 ⟨h1, h2⟩), h3⟩)) (tb ((or_l (p := ((g0.From < (0 : Int)) ∨ (g0.From ≥ (3 : Int))) ∨ (g0.To < (0 : Int))) (q := g0.To ≥ (3 : Int)) (not_or.2 ⟨(not_or.2 ⟨h1, h2⟩), h3⟩)))))) ?_
          refine r_op rfl rfl (PureD.opD (p_move rfl rfl)) ?_
          refine (Classical.em (g0.To ≥ (3 : Int))).elim (fun h4 => ?_) (fun h4 => ?_)
          · refine r_off rfl rfl rfl rfl (decide_eq_true (p := (((g0.From < (0 : Int)) ∨ (g0.From ≥ (3 : Int))) ∨ (g0.To < (0 : Int))) ∨ (g0.To ≥ (3 : Int))) (Or.inr h4)) rfl rfl ?_
            refine r_off rfl rfl rfl rfl (decide_eq_true (p := (((g0.From < (0 : Int)) ∨ (g0.From ≥ (3 : Int))) ∨ (g0.To < (0 : Int))) ∨ (g0.To ≥ (3 : Int))) (Or.inr h4)) rfl rfl ?_
            refine r_off rfl rfl rfl rfl (decide_eq_true (p := (((g0.From < (0 : Int)) ∨ (g0.From ≥ (3 : Int))) ∨ (g0.To < (0 : Int))) ∨ (g0.To ≥ (3 : Int))) (Or.inr h4)) rfl rfl ?_
            refine r_op rfl rfl (PureD.opD (p_pkt rfl rfl (decide_eq_true (p := (((g0.From < (0 : Int)) ∨ (g0.From ≥ (3 : Int))) ∨ (g0.To < (0 : Int))) ∨ (g0.To ≥ (3 : Int))) (Or.inr h4)) (tb (decide_eq_true (p := ((((g0.From < (0 : Int)) ∨ (g0.From ≥ (3 : Int))) ∨ (g0.To < (0 : Int))) ∨ (g0.To ≥ (3 : Int))) ∨ (g0.Object < (0 : Int))) (Or.inl (Or.inr h4))).symm))) ?_
            refine r_op rfl rfl (PureD.opD (p_move rfl rfl)) ?_
            refine r_off rfl rfl rfl rfl (decide_eq_true (p := ((((g0.From < (0 : Int)) ∨ (g0.From ≥ (3 : Int))) ∨ (g0.To < (0 : Int))) ∨ (g0.To ≥ (3 : Int))) ∨ (g0.Object < (0 : Int))) (Or.inl (Or.inr h4))) rfl rfl ?_
            refine r_off rfl rfl rfl rfl (decide_eq_true (p := ((((g0.From < (0 : Int)) ∨ (g0.From ≥ (3 : Int))) ∨ (g0.To < (0 : Int))) ∨ (g0.To ≥ (3 : Int))) ∨ (g0.Object < (0 : Int))) (Or.inl (Or.inr h4))) rfl rfl ?_
            refine r_off rfl rfl rfl rfl (decide_eq_true (p := ((((g0.From < (0 : Int)) ∨ (g0.From ≥ (3 : Int))) ∨ (g0.To < (0 : Int))) ∨ (g0.To ≥ (3 : Int))) ∨ (g0.Object < (0 : Int))) (Or.inl (Or.inr h4))) rfl rfl ?_
            refine r_op rfl rfl (PureD.opD (p_pkt rfl rfl (decide_eq_true (p := ((((g0.From < (0 : Int)) ∨ (g0.From ≥ (3 : Int))) ∨ (g0.To < (0 : Int))) ∨ (g0.To ≥ (3 : Int))) ∨ (g0.Object < (0 : Int))) (Or.inl (Or.inr h4))) (tb (decide_eq_true (p := (((((g0.From < (0 : Int)) ∨ (g0.From ≥ (3 : Int))) ∨ (g0.To < (0 : Int))) ∨ (g0.To ≥ (3 : Int))) ∨ (g0.Object < (0 : Int))) ∨ (g0.Object ≥ (12 : Int))) (Or.inl (Or.inl (Or.inr h4)))).symm))) ?_
            refine RunW_st [(1, .c (.ptr 1 (0))), (30, .c (.p (.bool (decide ((((((g0.From < (0 : Int)) ∨ (g0.From ≥ (3 : Int))) ∨ (g0.To < (0 : Int))) ∨ (g0.To ≥ (3 : Int))) ∨ (g0.Object < (0 : Int))) ∨ (g0.Object ≥ (12 : Int)))))))] [(1, .pure (GGrant.cs g0))] rfl ⟨TLes.same _, TLes.same _, trivial⟩ ⟨rfl, trivial⟩ ?_
            exact RunW_nil rfl
          · refine r_on rfl rfl rfl rfl (decide_eq_false (p := (((g0.From < (0 : Int)) ∨ (g0.From ≥ (3 : Int))) ∨ (g0.To < (0 : Int))) ∨ (g0.To ≥ (3 : Int))) (not_or.2 ⟨(not_or.2 ⟨(not_or.2 ⟨h1, h2⟩), h3⟩), h4⟩)) rfl (PureD.opD (u_fa rfl rfl Try.underlying27 rfl in_3 (Nat.succ_ne_zero _) rfl rfl (ne_of_lt (n := 0) (Nat.lt_of_lt_of_eq (by decide) (Eq.symm (GGrant.len g0)))))) ?_
            refine r_on rfl rfl rfl rfl (decide_eq_false (p := (((g0.From < (0 : Int)) ∨ (g0.From ≥ (3 : Int))) ∨ (g0.To < (0 : Int))) ∨ (g0.To ≥ (3 : Int))) (not_or.2 ⟨(not_or.2 ⟨(not_or.2 ⟨h1, h2⟩), h3⟩), h4⟩)) rfl (PureD.opD (u_ld rfl rfl Try.underlying3 rfl rfl ((Sub.refl _).trans (GGrant.sub2 g0)))) ?_
            refine r_on rfl rfl rfl rfl (decide_eq_false (p := (((g0.From < (0 : Int)) ∨ (g0.From ≥ (3 : Int))) ∨ (g0.To < (0 : Int))) ∨ (g0.To ≥ (3 : Int))) (not_or.2 ⟨(not_or.2 ⟨(not_or.2 ⟨h1, h2⟩), h3⟩), h4⟩)) rfl (PureD.opD (p_bin rfl rfl rfl rfl)) ?_
            refine r_op rfl rfl (PureD.opD (p_pkf rfl rfl (decide_eq_false (p := (((g0.From < (0 : Int)) ∨ (g0.From ≥ (3 : Int))) ∨ (g0.To < (0 : Int))) ∨ (g0.To ≥ (3 : Int))) (not_or.2 ⟨(not_or.2 ⟨(not_or.2 ⟨h1, h2⟩), h3⟩), h4⟩)) (tb ((or_l (p := (((g0.From < (0 : Int)) ∨ (g0.From ≥ (3 : Int))) ∨ (g0.To < (0 : Int))) ∨ (g0.To ≥ (3 : Int))) (q := g0.Object < (0 : Int)) (not_or.2 ⟨(not_or.2 ⟨(not_or.2 ⟨h1, h2⟩), h3⟩), h4⟩)))))) ?_
            refine r_op rfl rfl (PureD.opD (p_move rfl rfl)) ?_
            refine (Classical.em (g0.Object < (0 : Int))).elim (fun h5 => ?_) (fun h5 => ?_)
            · refine r_off rfl rfl rfl rfl (decide_eq_true (p := ((((g0.From < (0 : Int)) ∨ (g0.From ≥ (3 : Int))) ∨ (g0.To < (0 : Int))) ∨ (g0.To ≥ (3 : Int))) ∨ (g0.Object < (0 : Int))) (Or.inr h5)) rfl rfl ?_
              refine r_off rfl rfl rfl rfl (decide_eq_true (p := ((((g0.From < (0 : Int)) ∨ (g0.From ≥ (3 : Int))) ∨ (g0.To < (0 : Int))) ∨ (g0.To ≥ (3 : Int))) ∨ (g0.Object < (0 : Int))) (Or.inr h5)) rfl rfl ?_
              refine r_off rfl rfl rfl rfl (decide_eq_true (p := ((((g0.From < (0 : Int)) ∨ (g0.From ≥ (3 : Int))) ∨ (g0.To < (0 : Int))) ∨ (g0.To ≥ (3 : Int))) ∨ (g0.Object < (0 : Int))) (Or.inr h5)) rfl rfl ?_
              refine r_op rfl rfl (PureD.opD (p_pkt rfl rfl (decide_eq_true (p := ((((g0.From < (0 : Int)) ∨ (g0.From ≥ (3 : Int))) ∨ (g0.To < (0 : Int))) ∨ (g0.To ≥ (3 : Int))) ∨ (g0.Object < (0 : Int))) (Or.inr h5)) (tb (decide_eq_true (p := (((((g0.From < (0 : Int)) ∨ (g0.From ≥ (3 : Int))) ∨ (g0.To < (0 : Int))) ∨ (g0.To ≥ (3 : Int))) ∨ (g0.Object < (0 : Int))) ∨ (g0.Object ≥ (12 : Int))) (Or.inl (Or.inr h5))).symm))) ?_
              refine RunW_st [(1, .c (.ptr 1 (0))), (30, .c (.p (.bool (decide ((((((g0.From < (0 : Int)) ∨ (g0.From ≥ (3 : Int))) ∨ (g0.To < (0 : Int))) ∨ (g0.To ≥ (3 : Int))) ∨ (g0.Object < (0 : Int))) ∨ (g0.Object ≥ (12 : Int)))))))] [(1, .pure (GGrant.cs g0))] rfl ⟨TLes.same _, TLes.same _, trivial⟩ ⟨rfl, trivial⟩ ?_
              exact RunW_nil rfl
            · refine r_on rfl rfl rfl rfl (decide_eq_false (p := ((((g0.From < (0 : Int)) ∨ (g0.From ≥ (3 : Int))) ∨ (g0.To < (0 : Int))) ∨ (g0.To ≥ (3 : Int))) ∨ (g0.Object < (0 : Int))) (not_or.2 ⟨(not_or.2 ⟨(not_or.2 ⟨(not_or.2 ⟨h1, h2⟩), h3⟩), h4⟩), h5⟩)) rfl (PureD.opD (u_fa rfl rfl Try.underlying27 rfl in_3 (Nat.succ_ne_zero _) rfl rfl (ne_of_lt (n := 0) (Nat.lt_of_lt_of_eq (by decide) (Eq.symm (GGrant.len g0)))))) ?_
              refine r_on rfl rfl rfl rfl (decide_eq_false (p := ((((g0.From < (0 : Int)) ∨ (g0.From ≥ (3 : Int))) ∨ (g0.To < (0 : Int))) ∨ (g0.To ≥ (3 : Int))) ∨ (g0.Object < (0 : Int))) (not_or.2 ⟨(not_or.2 ⟨(not_or.2 ⟨(not_or.2 ⟨h1, h2⟩), h3⟩), h4⟩), h5⟩)) rfl (PureD.opD (u_ld rfl rfl Try.underlying3 rfl rfl ((Sub.refl _).trans (GGrant.sub2 g0)))) ?_
              refine r_on rfl rfl rfl rfl (decide_eq_false (p := ((((g0.From < (0 : Int)) ∨ (g0.From ≥ (3 : Int))) ∨ (g0.To < (0 : Int))) ∨ (g0.To ≥ (3 : Int))) ∨ (g0.Object < (0 : Int))) (not_or.2 ⟨(not_or.2 ⟨(not_or.2 ⟨(not_or.2 ⟨h1, h2⟩), h3⟩), h4⟩), h5⟩)) rfl (PureD.opD (p_bin rfl rfl rfl rfl)) ?_
              refine r_op rfl rfl (PureD.opD (p_pkf rfl rfl (decide_eq_false (p := ((((g0.From < (0 : Int)) ∨ (g0.From ≥ (3 : Int))) ∨ (g0.To < (0 : Int))) ∨ (g0.To ≥ (3 : Int))) ∨ (g0.Object < (0 : Int))) (not_or.2 ⟨(not_or.2 ⟨(not_or.2 ⟨(not_or.2 ⟨h1, h2⟩), h3⟩), h4⟩), h5⟩)) (tb ((or_l (p := ((((g0.From < (0 : Int)) ∨ (g0.From ≥ (3 : Int))) ∨ (g0.To < (0 : Int))) ∨ (g0.To ≥ (3 : Int))) ∨ (g0.Object < (0 : Int))) (q := g0.Object ≥ (12 : Int)) (not_or.2 ⟨(not_or.2 ⟨(not_or.2 ⟨(not_or.2 ⟨h1, h2⟩), h3⟩), h4⟩), h5⟩)))))) ?_
              refine RunW_st [(1, .c (.ptr 1 (0))), (30, .c (.p (.bool (decide ((((((g0.From < (0 : Int)) ∨ (g0.From ≥ (3 : Int))) ∨ (g0.To < (0 : Int))) ∨ (g0.To ≥ (3 : Int))) ∨ (g0.Object < (0 : Int))) ∨ (g0.Object ≥ (12 : Int)))))))] [(1, .pure (GGrant.cs g0))] rfl ⟨TLes.same _, TLes.same _, trivial⟩ ⟨rfl, trivial⟩ ?_
              exact RunW_nil rfl
  · refine AW2_if (p := (((((g0.From < (0 : Int)) ∨ (g0.From ≥ (3 : Int))) ∨ (g0.To < (0 : Int))) ∨ (g0.To ≥ (3 : Int))) ∨ (g0.Object < (0 : Int))) ∨ (g0.Object ≥ (12 : Int))) rfl (fun h6 => ?_) (fun h6 => ?_)
    · replace H := ite_then h6 H
      refine AW2_seq ?_
      refine AW2_reg [0] rfl ?_
      refine r_op rfl rfl (PureD.opD (p_asg rfl rfl)) ?_
      refine RunW_st [(2, .c (.p (AV.int (6 : Int))))] [] rfl ⟨TLes.same _, trivial⟩ trivial ?_
      refine RunW_nil ?_
      refine AW2_ret ?_
      have hz := some_elim H
      subst hz
      exact ⟨⟨res_tmp (.same _), trivial⟩, trivial⟩
    · replace H := ite_else h6 H
      refine AW2_st [(1, .c (.ptr 1 (0)))] [(1, .pure (GGrant.cs g0))] rfl ⟨TLes.same _, trivial⟩ ⟨rfl, trivial⟩ ?_
      refine AW2_skip ?_
      refine AW2_seq ?_
      refine AW2_seq ?_
      refine AW2_mid (⟨[(1, .c (.ptr 1 (0))), (38, .c (.p (.bool (decide ((g0.Right ≠ (1 : Int)) ∧ (g0.Right ≠ (2 : Int)))))))], [(1, .pure (GGrant.cs g0))], 52⟩ : TS) ?_ ?_
      · refine AW2_reg [0, 1, 2, 3, 4, 5, 6, 7] rfl ?_
        refine r_op rfl rfl (PureD.opD (u_fa rfl rfl Try.underlying27 rfl in_3 (Nat.succ_ne_zero _) rfl rfl (ne_of_lt (n := 0) (Nat.lt_of_lt_of_eq (by decide) (Eq.symm (GGrant.len g0)))))) ?_
        refine r_op rfl rfl (PureD.opD (u_ld rfl rfl Try.underlying3 rfl rfl ((Sub.refl _).trans (GGrant.sub3 g0)))) ?_
        refine r_op rfl rfl (PureD.opD (p_ine rfl rfl rfl)) ?_
        refine r_op rfl rfl (PureD.opD (p_move rfl rfl)) ?_
        refine (Classical.em (g0.Right ≠ (1 : Int))).elim (fun h7 => ?_) (fun h7 => ?_)
        · refine r_on rfl rfl rfl rfl (decide_eq_true (p := g0.Right ≠ (1 : Int)) h7) rfl (PureD.opD (u_fa rfl rfl Try.underlying27 rfl in_3 (Nat.succ_ne_zero _) rfl rfl (ne_of_lt (n := 0) (Nat.lt_of_lt_of_eq (by decide) (Eq.symm (GGrant.len g0)))))) ?_
          refine r_on rfl rfl rfl rfl (decide_eq_true (p := g0.Right ≠ (1 : Int)) h7) rfl (PureD.opD (u_ld rfl rfl Try.underlying3 rfl rfl ((Sub.refl _).trans (GGrant.sub3 g0)))) ?_
          refine r_on rfl rfl rfl rfl (decide_eq_true (p := g0.Right ≠ (1 : Int)) h7) rfl (PureD.opD (p_ine rfl rfl rfl)) ?_
          refine r_op rfl rfl (PureD.opD (p_pkt rfl rfl (decide_eq_true (p := g0.Right ≠ (1 : Int)) h7) (tb ((and_l (p := g0.Right ≠ (1 : Int)) (q := g0.Right ≠ (2 : Int)) h7))))) ?_
          refine RunW_st [(1, .c (.ptr 1 (0))), (38, .c (.p (.bool (decide ((g0.Right ≠ (1 : Int)) ∧ (g0.Right ≠ (2 : Int)))))))] [(1, .pure (GGrant.cs g0))] rfl ⟨TLes.same _, TLes.same _, trivial⟩ ⟨rfl, trivial⟩ ?_
          exact RunW_nil rfl
        · refine r_off rfl rfl rfl rfl (decide_eq_false (p := g0.Right ≠ (1 : Int)) h7) rfl rfl ?_
          refine r_off rfl rfl rfl rfl (decide_eq_false (p := g0.Right ≠ (1 : Int)) h7) rfl rfl ?_
          refine r_off rfl rfl rfl rfl (decide_eq_false (p := g0.Right ≠ (1 : Int)) h7) rfl rfl ?_
          refine r_op rfl rfl (PureD.opD (p_pkf rfl rfl (decide_eq_false (p := g0.Right ≠ (1 : Int)) h7) (tb (decide_eq_false (p := (g0.Right ≠ (1 : Int)) ∧ (g0.Right ≠ (2 : Int))) (fun x => h7 x.1)).symm))) ?_
          refine RunW_st [(1, .c (.ptr 1 (0))), (38, .c (.p (.bool (decide ((g0.Right ≠ (1 : Int)) ∧ (g0.Right ≠ (2 : Int)))))))] [(1, .pure (GGrant.cs g0))] rfl ⟨TLes.same _, TLes.same _, trivial⟩ ⟨rfl, trivial⟩ ?_
          exact RunW_nil rfl
      · refine AW2_if (p := (g0.Right ≠ (1 : Int)) ∧ (g0.Right ≠ (2 : Int))) rfl (fun h8 => ?_) (fun h8 => ?_)
        · replace H := ite_then h8 H
          refine AW2_seq ?_
          refine AW2_reg [0] rfl ?_
          refine r_op rfl rfl (PureD.opD (p_asg rfl rfl)) ?_
          refine RunW_st [(2, .c (.p (AV.int (2 : Int))))] [] rfl ⟨TLes.same _, trivial⟩ trivial ?_
          refine RunW_nil ?_
          refine AW2_ret ?_
          have hz := some_elim H
          subst hz
          exact ⟨⟨res_tmp (.same _), trivial⟩, trivial⟩
        · replace H := ite_else h8 H
          refine AW2_st [(1, .c (.ptr 1 (0)))] [(1, .pure (GGrant.cs g0))] rfl ⟨TLes.same _, trivial⟩ ⟨rfl, trivial⟩ ?_
          refine AW2_skip ?_
          refine AW2_seq ?_
          refine AW2_seq ?_
          refine bindK H fun g'2 h11 H => ?_
          refine AW2_mid (⟨[(51, .c (.p (AV.bool g'2)))], [], 52⟩ : TS) ?_ ?_
          · clear H
            have H := h11
            clear h11
            refine (Classical.em (g0.From = g0.To)).elim (fun h9 => ?_) (fun h9 => ?_)
            · replace H := ite_then h9 H
              have hz := some_elim H
              subst hz
              refine AW2_ghoQ ?_
              refine AW2_draw 11 [11, 12] (fun k => ([.c (.ptr 1 (0 + 0)), .c (.p (AV.int g0.From)), .c (.ptr 1 (0 + 1)), .c (.p (AV.int g0.To)), .c (.p (.bool (decide (g0.From = g0.To)))), .c (.p (.bool (decide (g0.From = g0.To)))), .c (.p (.tup [])), .c (.p (.tup [])), .c (.p (.tup [])), .c (.p (.tup [])), .c (.p (.tup []))] : List TV).getD k TV.any) (fun k => ([[(1, none)], [(39, some 0)], [(1, none)], [(41, some 2)], [(40, some 1), (42, some 3)], [(43, some 4)], [(1, none), (44, some 5)], [(44, some 5), (45, some 6)], [(1, none), (44, some 5)], [(44, some 5), (47, some 8)], [(44, some 5), (48, some 9)]] : List (List (Nat × Option Nat))).getD k []) [(44, some 5), (46, some 7), (49, some 10)] [] (fun k => ([[], [0], [], [2], [0, 1, 2, 3], [0, 1, 2, 3, 4], [0, 1, 2, 3, 4, 5], [0, 1, 2, 3, 4, 5, 6], [0, 1, 2, 3, 4, 5], [0, 1, 2, 3, 4, 5, 8], [0, 1, 2, 3, 4, 5, 8, 9], [0, 1, 2, 3, 4, 5, 6, 7, 8, 9, 10], [0, 1, 2, 3, 4, 5, 6, 7, 8, 9, 10, 11]] : List (List Nat)).getD k []) mixed (by kernel_rfl) rfl rfl (a_op (g_x rfl (x_p rfl (u_fa rfl rfl Try.underlying27 rfl in_3 (Nat.succ_ne_zero _) rfl rfl (ne_of_lt (n := 0) (Nat.lt_of_lt_of_eq (by decide) (Eq.symm (GGrant.len g0))))) rfl)) (a_op (g_x rfl (x_p rfl (u_ld rfl rfl Try.underlying3 rfl rfl ((Sub.refl _).trans (GGrant.sub0 g0))) rfl)) (a_op (g_x rfl (x_p rfl (u_fa rfl rfl Try.underlying27 rfl in_3 (Nat.succ_ne_zero _) rfl rfl (ne_of_lt (n := 0) (Nat.lt_of_lt_of_eq (by decide) (Eq.symm (GGrant.len g0))))) rfl)) (a_op (g_x rfl (x_p rfl (u_ld rfl rfl Try.underlying3 rfl rfl ((Sub.refl _).trans (GGrant.sub1 g0))) rfl)) (a_op (g_x rfl (x_p rfl (p_ieq rfl rfl rfl) rfl)) (a_op (g_x rfl (x_p rfl (p_move rfl rfl) rfl)) (a_op (g_off rfl rfl rfl rfl rfl (decide_eq_true (p := g0.From = g0.To) h9) rfl rfl) (a_op (g_off rfl rfl rfl rfl rfl (decide_eq_true (p := g0.From = g0.To) h9) rfl rfl) (a_op (g_off rfl rfl rfl rfl rfl (decide_eq_true (p := g0.From = g0.To) h9) rfl rfl) (a_op (g_off rfl rfl rfl rfl rfl (decide_eq_true (p := g0.From = g0.To) h9) rfl rfl) (a_op (g_off rfl rfl rfl rfl rfl (decide_eq_true (p := g0.From = g0.To) h9) rfl rfl) (a_nil)))))))))))) ?_
              refine t_off rfl rfl rfl rfl (decide_eq_true (p := g0.From = g0.To) h9) rfl rfl ?_
              refine t_op rfl rfl (PureD.opD (p_pkt rfl rfl (decide_eq_true (p := g0.From = g0.To) h9) (.same _))) ?_
              exact t_gho (Gho_st (L := [(51, .c (.p (AV.bool true)))]) (H := []) rfl ⟨TLes.same _, trivial⟩ trivial) rfl
            · replace H := ite_else h9 H
              refine bindK H fun r'1 h10 H => ?_
              have hz := some_elim H
              subst hz
              refine AW2_ghoQ ?_
              refine AW2_draw 11 [11, 12] (fun k => ([.c (.ptr 1 (0 + 0)), .c (.p (AV.int g0.From)), .c (.ptr 1 (0 + 1)), .c (.p (AV.int g0.To)), .c (.p (.bool (decide (g0.From = g0.To)))), .c (.p (.bool (decide (g0.From = g0.To)))), .c (.ptr 1 (0 + 1)), .c (.p (AV.int g0.To)), .c (.ptr 1 (0 + 2)), .c (.p (AV.int g0.Object)), .c (.p (AV.int r'1))] : List TV).getD k TV.any) (fun k => ([[(1, none)], [(39, some 0)], [(1, none)], [(41, some 2)], [(40, some 1), (42, some 3)], [(43, some 4)], [(1, none), (44, some 5)], [(44, some 5), (45, some 6)], [(1, none), (44, some 5)], [(44, some 5), (47, some 8)], [(44, some 5), (48, some 9)]] : List (List (Nat × Option Nat))).getD k []) [(44, some 5), (46, some 7), (49, some 10)] [] (fun k => ([[], [0], [], [2], [0, 1, 2, 3], [0, 1, 2, 3, 4], [0, 1, 2, 3, 4, 5], [0, 1, 2, 3, 4, 5, 6], [0, 1, 2, 3, 4, 5], [0, 1, 2, 3, 4, 5, 8], [0, 1, 2, 3, 4, 5, 8, 9], [0, 1, 2, 3, 4, 5, 6, 7, 8, 9, 10], [0, 1, 2, 3, 4, 5, 6, 7, 8, 9, 10, 11]] : List (List Nat)).getD k []) mixed (by kernel_rfl) rfl rfl (a_op (g_x rfl (x_p rfl (u_fa rfl rfl Try.underlying27 rfl in_3 (Nat.succ_ne_zero _) rfl rfl (ne_of_lt (n := 0) (Nat.lt_of_lt_of_eq (by decide) (Eq.symm (GGrant.len g0))))) rfl)) (a_op (g_x rfl (x_p rfl (u_ld rfl rfl Try.underlying3 rfl rfl ((Sub.refl _).trans (GGrant.sub0 g0))) rfl)) (a_op (g_x rfl (x_p rfl (u_fa rfl rfl Try.underlying27 rfl in_3 (Nat.succ_ne_zero _) rfl rfl (ne_of_lt (n := 0) (Nat.lt_of_lt_of_eq (by decide) (Eq.symm (GGrant.len g0))))) rfl)) (a_op (g_x rfl (x_p rfl (u_ld rfl rfl Try.underlying3 rfl rfl ((Sub.refl _).trans (GGrant.sub1 g0))) rfl)) (a_op (g_x rfl (x_p rfl (p_ieq rfl rfl rfl) rfl)) (a_op (g_x rfl (x_p rfl (p_move rfl rfl) rfl)) (a_op (g_on rfl rfl rfl (decide_eq_false (p := g0.From = g0.To) h9) rfl (x_p rfl (u_fa rfl rfl Try.underlying27 rfl in_3 (Nat.succ_ne_zero _) rfl rfl (ne_of_lt (n := 0) (Nat.lt_of_lt_of_eq (by decide) (Eq.symm (GGrant.len g0))))) rfl)) (a_op (g_on rfl rfl rfl (decide_eq_false (p := g0.From = g0.To) h9) rfl (x_p rfl (u_ld rfl rfl Try.underlying3 rfl rfl ((Sub.refl _).trans (GGrant.sub1 g0))) rfl)) (a_op (g_on rfl rfl rfl (decide_eq_false (p := g0.From = g0.To) h9) rfl (x_p rfl (u_fa rfl rfl Try.underlying27 rfl in_3 (Nat.succ_ne_zero _) rfl rfl (ne_of_lt (n := 0) (Nat.lt_of_lt_of_eq (by decide) (Eq.symm (GGrant.len g0))))) rfl)) (a_op (g_on rfl rfl rfl (decide_eq_false (p := g0.From = g0.To) h9) rfl (x_p rfl (u_ld rfl rfl Try.underlying3 rfl rfl ((Sub.refl _).trans (GGrant.sub2 g0))) rfl)) (a_op (g_on rfl rfl rfl (decide_eq_false (p := g0.From = g0.To) h9) rfl (x_p rfl (p_callp rfl rfl rfl Try.func27 rfl rfl (g_right_owner_ac h10) ⟨rfl, trivial⟩) rfl)) (a_nil)))))))))))) ?_
              refine t_on rfl rfl rfl rfl (decide_eq_false (p := g0.From = g0.To) h9) rfl (PureD.opD (p_ieq rfl rfl rfl)) ?_
              refine t_op rfl rfl (PureD.opD (p_pkf rfl rfl (decide_eq_false (p := g0.From = g0.To) h9) (.same _))) ?_
              exact t_gho (Gho_st (L := [(51, .c (.p (.bool (decide (g0.To = r'1)))))]) (H := []) rfl ⟨TLes.same _, trivial⟩ trivial) rfl
          · refine AW2_cond rfl (fun h12 => ?_) (fun h12 => ?_)
            · replace H := ite_then h12 H
              refine AW2_seq ?_
              refine AW2_reg [0] rfl ?_
              refine r_op rfl rfl (PureD.opD (p_asg rfl rfl)) ?_
              refine RunW_st [(2, .c (.p (AV.int (3 : Int))))] [] rfl ⟨TLes.same _, trivial⟩ trivial ?_
              refine RunW_nil ?_
              refine AW2_ret ?_
              have hz := some_elim H
              subst hz
              exact ⟨⟨res_tmp (.same _), trivial⟩, trivial⟩
            · replace H := ite_else (ne_true h12) H
              refine AW2_st [] [] rfl trivial trivial ?_
              refine AW2_skip ?_
              refine AW2_seq ?_
              refine AW2_reg [0] rfl ?_
              refine r_op rfl rfl (PureD.opD (p_asg rfl rfl)) ?_
              refine RunW_st [(2, .c (.p (AV.int (0 : Int))))] [] rfl ⟨TLes.same _, trivial⟩ trivial ?_
              refine RunW_nil ?_
              refine AW2_ret ?_
              have hz := some_elim H
              subst hz
              exact ⟨⟨res_tmp (.same _), trivial⟩, trivial⟩
end Go.Proofs.Ytgbfmldbbnhefaa.VM
