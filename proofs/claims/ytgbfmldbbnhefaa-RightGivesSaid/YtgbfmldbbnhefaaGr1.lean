/- Functions of the program, as they answer, and that their code comes to these answers. -/
import Derived.Test.YtgbfmldbbnhefaaGr0
namespace Go.Proofs.Ytgbfmldbbnhefaa.VM
open Go Go.RowKit

structure Gright_place where
  object_ : Int
  right_ : Int
  from_ : Int
  to_ : Int
deriving DecidableEq, Inhabited
def Gright_place.zero : Gright_place := ⟨(0 : Int), (0 : Int), (0 : Int), (0 : Int)⟩
def Gright_place.cs (x : Gright_place) : List AV := ([(AV.int x.object_)]) ++ (([(AV.int x.right_)]) ++ (([(AV.int x.from_)]) ++ ([(AV.int x.to_)])))
theorem Gright_place.len (x : Gright_place) : (Gright_place.cs x).length = 4 := by
  simp only [Gright_place.cs, List.length_append]
  rw [show ([(AV.int x.object_)]).length = 1 from (show ([(AV.int x.object_)]).length = 1 from rfl), show ([(AV.int x.right_)]).length = 1 from (show ([(AV.int x.right_)]).length = 1 from rfl), show ([(AV.int x.from_)]).length = 1 from (show ([(AV.int x.from_)]).length = 1 from rfl), show ([(AV.int x.to_)]).length = 1 from (show ([(AV.int x.to_)]).length = 1 from rfl)]
theorem Gright_place.sub0 (x : Gright_place) : Sub (Gright_place.cs x) 0 ([(AV.int x.object_)]) := Sub.head _ _
theorem Gright_place.upd0 (x : Gright_place) (y : Int) : Upd (Gright_place.cs x) 0 ([(AV.int y)]) (Gright_place.cs { x with object_ := y }) := Upd.head (show ([(AV.int y)]).length = ([(AV.int x.object_)]).length from rfl)
theorem Gright_place.sub1 (x : Gright_place) : Sub (Gright_place.cs x) 1 ([(AV.int x.right_)]) := Sub.skip (k := 1) (show ([(AV.int x.object_)]).length = 1 from rfl) (Sub.head _ _)
theorem Gright_place.upd1 (x : Gright_place) (y : Int) : Upd (Gright_place.cs x) 1 ([(AV.int y)]) (Gright_place.cs { x with right_ := y }) := Upd.skip (k := 1) (show ([(AV.int x.object_)]).length = 1 from rfl) (Upd.head (show ([(AV.int y)]).length = ([(AV.int x.right_)]).length from rfl))
theorem Gright_place.sub2 (x : Gright_place) : Sub (Gright_place.cs x) 2 ([(AV.int x.from_)]) := Sub.skip (k := 1) (show ([(AV.int x.object_)]).length = 1 from rfl) (Sub.skip (k := 1) (show ([(AV.int x.right_)]).length = 1 from rfl) (Sub.head _ _))
theorem Gright_place.upd2 (x : Gright_place) (y : Int) : Upd (Gright_place.cs x) 2 ([(AV.int y)]) (Gright_place.cs { x with from_ := y }) := Upd.skip (k := 1) (show ([(AV.int x.object_)]).length = 1 from rfl) (Upd.skip (k := 1) (show ([(AV.int x.right_)]).length = 1 from rfl) (Upd.head (show ([(AV.int y)]).length = ([(AV.int x.from_)]).length from rfl)))
theorem Gright_place.sub3 (x : Gright_place) : Sub (Gright_place.cs x) 3 ([(AV.int x.to_)]) := Sub.skip (k := 1) (show ([(AV.int x.object_)]).length = 1 from rfl) (Sub.skip (k := 1) (show ([(AV.int x.right_)]).length = 1 from rfl) (Sub.skip (k := 1) (show ([(AV.int x.from_)]).length = 1 from rfl) (Sub.refl _)))
theorem Gright_place.upd3 (x : Gright_place) (y : Int) : Upd (Gright_place.cs x) 3 ([(AV.int y)]) (Gright_place.cs { x with to_ := y }) := Upd.skip (k := 1) (show ([(AV.int x.object_)]).length = 1 from rfl) (Upd.skip (k := 1) (show ([(AV.int x.right_)]).length = 1 from rfl) (Upd.skip (k := 1) (show ([(AV.int x.from_)]).length = 1 from rfl) (Upd.refl (show ([(AV.int y)]).length = ([(AV.int x.to_)]).length from rfl))))
theorem Gright_place.nl (x : Gright_place) : (Gright_place.cs x).all noLst1 = true := nlA rfl (nlA rfl (nlA rfl (rfl)))
theorem in_37 : Info Try.prog 37 4 32 (.agg #[.int .i64 0, .int .i64 0, .int .i64 0, .int .i64 0]) := by unfold Info; kernel_rfl
theorem one_37 : (.agg #[.int .i64 0, .int .i64 0, .int .i64 0, .int .i64 0] : Value).cells.all (·.oneCell') = true := by kernel_rfl
theorem zc_37 : ((.agg #[.int .i64 0, .int .i64 0, .int .i64 0, .int .i64 0] : Value).cells.toList.map zcell) = Gright_place.cs Gright_place.zero := by rfl
theorem pl_37 : placesOf Try.prog 37 = some [(0, 1), (1, 1), (2, 1), (3, 1)] := by kernel_rfl
theorem in_27 : Info Try.prog 27 5 40 (.agg #[.int .i64 0, .int .i64 0, .int .i64 0, .int .i64 0, .bool false]) := by unfold Info; kernel_rfl
theorem one_27 : (.agg #[.int .i64 0, .int .i64 0, .int .i64 0, .int .i64 0, .bool false] : Value).cells.all (·.oneCell') = true := by kernel_rfl
theorem zc_27 : ((.agg #[.int .i64 0, .int .i64 0, .int .i64 0, .int .i64 0, .bool false] : Value).cells.toList.map zcell) = GGrant.cs GGrant.zero := by rfl
theorem pl_27 : placesOf Try.prog 27 = some [(0, 1), (1, 1), (2, 1), (3, 1), (4, 1)] := by kernel_rfl
theorem in_4 : Info Try.prog 4 1 1 (.bool false) := by unfold Info; kernel_rfl
theorem one_4 : (.bool false : Value).cells.all (·.oneCell') = true := by kernel_rfl
theorem zc_4 : ((.bool false : Value).cells.toList.map zcell) = [(AV.bool false)] := by rfl

/-! right.placed -/
noncomputable def g_right_placed (g0 : GGrant) : Option (Gright_place) :=
  letO ({ { { { Gright_place.zero with object_ := g0.Object } with right_ := g0.Right } with from_ := g0.From } with to_ := g0.To }) fun t2'1 => some t2'1
set_option maxHeartbeats 4000000 in
set_option maxRecDepth 100000 in
theorem g_right_placed_ac {g0 : GGrant} {r : Gright_place} (H : g_right_placed g0 = some r) : ACp Try.prog 20 [(.agg (GGrant.cs g0))] (.agg (Gright_place.cs r)) := by
  refine ACp_of (AC2_of_body (vs := [.c (.p (.agg (Gright_place.cs r)))]) Try.func20 rfl rfl (Nat.le_of_ble_eq_true rfl) rfl ?_) (fun _ => .same _)
  unfold g_right_placed at H
  refine AW2_st [(0, .c (.p (.agg (GGrant.cs g0))))] [] rfl ⟨TLes.same _, trivial⟩ trivial ?_
  refine AW2_seq ?_
  refine AW2_reg [0, 1] rfl ?_
  refine r_op rfl rfl (MakeD.opD (n_box 1 rfl rfl) rfl rfl rfl rfl) ?_
  refine r_op rfl rfl (MakeD.opD (u_alloc 2 rfl in_37 one_37 zc_37) rfl rfl rfl rfl) ?_
  refine RunW_st [(1, .c (.ptr 1 (0))), (2, .c (.ptr 2 (0)))] [(1, .pure (GGrant.cs g0)), (2, .pure (Gright_place.cs Gright_place.zero))] rfl ⟨TLes.same _, TLes.same _, trivial⟩ ⟨rfl, rfl, trivial⟩ ?_
  refine RunW_nil ?_
  refine AW2_seq ?_
  refine AW2_reg [0, 1, 2, 3, 4, 5, 6, 7, 8, 9] rfl ?_
  refine r_op rfl rfl (PureD.opD (u_fa rfl rfl Try.underlying27 rfl in_3 (Nat.succ_ne_zero _) rfl rfl (ne_of_lt (n := 0) (Nat.lt_of_lt_of_eq (by decide) (Eq.symm (GGrant.len g0)))))) ?_
  refine r_op rfl rfl (PureD.opD (u_ld rfl rfl Try.underlying3 rfl rfl ((Sub.refl _).trans (GGrant.sub2 g0)))) ?_
  refine r_op rfl rfl (PureD.opD (u_fa rfl rfl Try.underlying27 rfl in_3 (Nat.succ_ne_zero _) rfl rfl (ne_of_lt (n := 0) (Nat.lt_of_lt_of_eq (by decide) (Eq.symm (GGrant.len g0)))))) ?_
  refine r_op rfl rfl (PureD.opD (u_ld rfl rfl Try.underlying3 rfl rfl ((Sub.refl _).trans (GGrant.sub3 g0)))) ?_
  refine r_op rfl rfl (PureD.opD (u_fa rfl rfl Try.underlying27 rfl in_3 (Nat.succ_ne_zero _) rfl rfl (ne_of_lt (n := 0) (Nat.lt_of_lt_of_eq (by decide) (Eq.symm (GGrant.len g0)))))) ?_
  refine r_op rfl rfl (PureD.opD (u_ld rfl rfl Try.underlying3 rfl rfl ((Sub.refl _).trans (GGrant.sub0 g0)))) ?_
  refine r_op rfl rfl (PureD.opD (u_fa rfl rfl Try.underlying27 rfl in_3 (Nat.succ_ne_zero _) rfl rfl (ne_of_lt (n := 0) (Nat.lt_of_lt_of_eq (by decide) (Eq.symm (GGrant.len g0)))))) ?_
  refine r_op rfl rfl (PureD.opD (u_ld rfl rfl Try.underlying3 rfl rfl ((Sub.refl _).trans (GGrant.sub1 g0)))) ?_
  refine r_op rfl rfl (PureD.opD (u_bld rfl in_37 one_37 zc_37 pl_37 rfl (af_cons rfl rfl (Gright_place.upd0 Gright_place.zero g0.Object) (af_cons rfl rfl (Gright_place.upd1 ({ Gright_place.zero with object_ := g0.Object }) g0.Right) (af_cons rfl rfl (Gright_place.upd2 ({ { Gright_place.zero with object_ := g0.Object } with right_ := g0.Right }) g0.From) (af_cons rfl rfl (Gright_place.upd3 ({ { { Gright_place.zero with object_ := g0.Object } with right_ := g0.Right } with from_ := g0.From }) g0.To) rfl)))))) ?_
  refine r_op rfl rfl (u_st rfl rfl rfl rfl rfl in_37 (Gright_place.len ({ { { { Gright_place.zero with object_ := g0.Object } with right_ := g0.Right } with from_ := g0.From } with to_ := g0.To })) (ne_of_lt (n := 0) (Nat.lt_of_lt_of_eq (by decide) (Eq.symm (Gright_place.len Gright_place.zero)))) (Upd.refl ((Gright_place.len ({ { { { Gright_place.zero with object_ := g0.Object } with right_ := g0.Right } with from_ := g0.From } with to_ := g0.To })).trans (Gright_place.len Gright_place.zero).symm))) ?_
  refine RunW_st [(2, .c (.ptr 2 (0)))] [(2, .pure (Gright_place.cs ({ { { { Gright_place.zero with object_ := g0.Object } with right_ := g0.Right } with from_ := g0.From } with to_ := g0.To })))] rfl ⟨TLes.same _, trivial⟩ ⟨rfl, trivial⟩ ?_
  refine RunW_nil ?_
  refine gen1 (fun t2'1 => (⟨[(2, .c (.ptr 2 (0)))], [(2, .pure (Gright_place.cs t2'1))], 12⟩ : TS)) H ?_
  intro t2'1 H
  refine AW2_ret ?_
  have hz := some_elim H
  subst hz
  exact ⟨⟨res_cella Try.underlying37 rfl in_37.sz rfl (Sub.le (Sub.refl _) (Gright_place.len t2'1)) (by decide) (Sub.take (Sub.refl _) (Gright_place.len t2'1)), trivial⟩, trivial⟩

/-! right.place).before -/
noncomputable def g_right_place_before (p0 : Gright_place) (q1 : Gright_place) : Option (Bool) :=
  (if p0.object_ ≠ q1.object_ then some (decide (p0.object_ < q1.object_)) else (if p0.right_ ≠ q1.right_ then some (decide (p0.right_ < q1.right_)) else (if p0.from_ ≠ q1.from_ then some (decide (p0.from_ < q1.from_)) else some (decide (p0.to_ < q1.to_)))))
set_option maxHeartbeats 4000000 in
set_option maxRecDepth 100000 in
theorem g_right_place_before_ac {p0 : Gright_place} {q1 : Gright_place} {r : Bool} (H : g_right_place_before p0 q1 = some r) : ACp Try.prog 21 [(.agg (Gright_place.cs p0)), (.agg (Gright_place.cs q1))] (AV.bool r) := by
  refine ACp_of (AC2_of_body (vs := [.c (.p (AV.bool r))]) Try.func21 rfl rfl (Nat.le_of_ble_eq_true rfl) rfl ?_) (fun _ => .same _)
  unfold g_right_place_before at H
  refine AW2_st [(0, .c (.p (.agg (Gright_place.cs p0)))), (1, .c (.p (.agg (Gright_place.cs q1))))] [] rfl ⟨TLes.same _, TLes.same _, trivial⟩ trivial ?_
  refine AW2_seq ?_
  refine AW2_reg [0, 1, 2] rfl ?_
  refine r_op rfl rfl (MakeD.opD (n_box 2 rfl rfl) rfl rfl rfl rfl) ?_
  refine r_op rfl rfl (MakeD.opD (n_box 3 rfl rfl) rfl rfl rfl rfl) ?_
  refine r_op rfl rfl (PureD.opD (p_asg rfl rfl)) ?_
  refine RunW_st [(2, .c (.ptr 2 (0))), (3, .c (.ptr 3 (0)))] [(2, .pure (Gright_place.cs p0)), (3, .pure (Gright_place.cs q1))] rfl ⟨TLes.same _, TLes.same _, trivial⟩ ⟨rfl, rfl, trivial⟩ ?_
  refine RunW_nil ?_
  refine AW2_seq ?_
  refine AW2_block ?_
  refine AW2_seq ?_
  refine AW2_reg [0, 1, 2, 3, 4, 5] rfl ?_
  refine r_op rfl rfl (PureD.opD (u_fa rfl rfl Try.underlying37 rfl in_3 (Nat.succ_ne_zero _) rfl rfl (ne_of_lt (n := 0) (Nat.lt_of_lt_of_eq (by decide) (Eq.symm (Gright_place.len p0)))))) ?_
  refine r_op rfl rfl (PureD.opD (u_ld rfl rfl Try.underlying3 rfl rfl ((Sub.refl _).trans (Gright_place.sub0 p0)))) ?_
  refine r_op rfl rfl (PureD.opD (u_fa rfl rfl Try.underlying37 rfl in_3 (Nat.succ_ne_zero _) rfl rfl (ne_of_lt (n := 0) (Nat.lt_of_lt_of_eq (by decide) (Eq.symm (Gright_place.len q1)))))) ?_
  refine r_op rfl rfl (PureD.opD (u_ld rfl rfl Try.underlying3 rfl rfl ((Sub.refl _).trans (Gright_place.sub0 q1)))) ?_
  refine r_op rfl rfl (PureD.opD (p_ine rfl rfl rfl)) ?_
  refine r_op rfl rfl (PureD.opD (p_asg rfl rfl)) ?_
  refine RunW_st [(2, .c (.ptr 2 (0))), (3, .c (.ptr 3 (0))), (5, .c (.p (.bool (decide (p0.object_ ≠ q1.object_)))))] [(2, .pure (Gright_place.cs p0)), (3, .pure (Gright_place.cs q1))] rfl ⟨TLes.same _, TLes.same _, TLes.same _, trivial⟩ ⟨rfl, rfl, trivial⟩ ?_
  refine RunW_nil ?_
  refine AW2_if (p := p0.object_ ≠ q1.object_) rfl (fun h1 => ?_) (fun h1 => ?_)
  · replace H := ite_then h1 H
    refine AW2_seq ?_
    refine AW2_reg [0, 1, 2, 3, 4, 5] rfl ?_
    refine r_op rfl rfl (PureD.opD (u_fa rfl rfl Try.underlying37 rfl in_3 (Nat.succ_ne_zero _) rfl rfl (ne_of_lt (n := 0) (Nat.lt_of_lt_of_eq (by decide) (Eq.symm (Gright_place.len p0)))))) ?_
    refine r_op rfl rfl (PureD.opD (u_ld rfl rfl Try.underlying3 rfl rfl ((Sub.refl _).trans (Gright_place.sub0 p0)))) ?_
    refine r_op rfl rfl (PureD.opD (u_fa rfl rfl Try.underlying37 rfl in_3 (Nat.succ_ne_zero _) rfl rfl (ne_of_lt (n := 0) (Nat.lt_of_lt_of_eq (by decide) (Eq.symm (Gright_place.len q1)))))) ?_
    refine r_op rfl rfl (PureD.opD (u_ld rfl rfl Try.underlying3 rfl rfl ((Sub.refl _).trans (Gright_place.sub0 q1)))) ?_
    refine r_op rfl rfl (PureD.opD (p_bin rfl rfl rfl rfl)) ?_
    refine r_op rfl rfl (PureD.opD (p_asg rfl rfl)) ?_
    refine RunW_st [(4, .c (.p (.bool (decide (p0.object_ < q1.object_)))))] [] rfl ⟨TLes.same _, trivial⟩ trivial ?_
    refine RunW_nil ?_
    refine AW2_ret ?_
    have hz := some_elim H
    subst hz
    exact ⟨⟨res_tmp (.same _), trivial⟩, trivial⟩
  · replace H := ite_else h1 H
    refine AW2_seq ?_
    refine AW2_reg [0, 1, 2, 3, 4, 5] rfl ?_
    refine r_op rfl rfl (PureD.opD (u_fa rfl rfl Try.underlying37 rfl in_3 (Nat.succ_ne_zero _) rfl rfl (ne_of_lt (n := 0) (Nat.lt_of_lt_of_eq (by decide) (Eq.symm (Gright_place.len p0)))))) ?_
    refine r_op rfl rfl (PureD.opD (u_ld rfl rfl Try.underlying3 rfl rfl ((Sub.refl _).trans (Gright_place.sub1 p0)))) ?_
    refine r_op rfl rfl (PureD.opD (u_fa rfl rfl Try.underlying37 rfl in_3 (Nat.succ_ne_zero _) rfl rfl (ne_of_lt (n := 0) (Nat.lt_of_lt_of_eq (by decide) (Eq.symm (Gright_place.len q1)))))) ?_
    refine r_op rfl rfl (PureD.opD (u_ld rfl rfl Try.underlying3 rfl rfl ((Sub.refl _).trans (Gright_place.sub1 q1)))) ?_
    refine r_op rfl rfl (PureD.opD (p_ine rfl rfl rfl)) ?_
    refine r_op rfl rfl (PureD.opD (p_asg rfl rfl)) ?_
    refine RunW_st [(2, .c (.ptr 2 (0))), (3, .c (.ptr 3 (0))), (16, .c (.p (.bool (decide (p0.right_ ≠ q1.right_)))))] [(2, .pure (Gright_place.cs p0)), (3, .pure (Gright_place.cs q1))] rfl ⟨TLes.same _, TLes.same _, TLes.same _, trivial⟩ ⟨rfl, rfl, trivial⟩ ?_
    refine RunW_nil ?_
    refine AW2_if (p := p0.right_ ≠ q1.right_) rfl (fun h2 => ?_) (fun h2 => ?_)
    · replace H := ite_then h2 H
      refine AW2_seq ?_
      refine AW2_reg [0, 1, 2, 3, 4, 5] rfl ?_
      refine r_op rfl rfl (PureD.opD (u_fa rfl rfl Try.underlying37 rfl in_3 (Nat.succ_ne_zero _) rfl rfl (ne_of_lt (n := 0) (Nat.lt_of_lt_of_eq (by decide) (Eq.symm (Gright_place.len p0)))))) ?_
      refine r_op rfl rfl (PureD.opD (u_ld rfl rfl Try.underlying3 rfl rfl ((Sub.refl _).trans (Gright_place.sub1 p0)))) ?_
      refine r_op rfl rfl (PureD.opD (u_fa rfl rfl Try.underlying37 rfl in_3 (Nat.succ_ne_zero _) rfl rfl (ne_of_lt (n := 0) (Nat.lt_of_lt_of_eq (by decide) (Eq.symm (Gright_place.len q1)))))) ?_
      refine r_op rfl rfl (PureD.opD (u_ld rfl rfl Try.underlying3 rfl rfl ((Sub.refl _).trans (Gright_place.sub1 q1)))) ?_
      refine r_op rfl rfl (PureD.opD (p_bin rfl rfl rfl rfl)) ?_
      refine r_op rfl rfl (PureD.opD (p_asg rfl rfl)) ?_
      refine RunW_st [(4, .c (.p (.bool (decide (p0.right_ < q1.right_)))))] [] rfl ⟨TLes.same _, trivial⟩ trivial ?_
      refine RunW_nil ?_
      refine AW2_ret ?_
      have hz := some_elim H
      subst hz
      exact ⟨⟨res_tmp (.same _), trivial⟩, trivial⟩
    · replace H := ite_else h2 H
      refine AW2_seq ?_
      refine AW2_reg [0, 1, 2, 3, 4, 5] rfl ?_
      refine r_op rfl rfl (PureD.opD (u_fa rfl rfl Try.underlying37 rfl in_3 (Nat.succ_ne_zero _) rfl rfl (ne_of_lt (n := 0) (Nat.lt_of_lt_of_eq (by decide) (Eq.symm (Gright_place.len p0)))))) ?_
      refine r_op rfl rfl (PureD.opD (u_ld rfl rfl Try.underlying3 rfl rfl ((Sub.refl _).trans (Gright_place.sub2 p0)))) ?_
      refine r_op rfl rfl (PureD.opD (u_fa rfl rfl Try.underlying37 rfl in_3 (Nat.succ_ne_zero _) rfl rfl (ne_of_lt (n := 0) (Nat.lt_of_lt_of_eq (by decide) (Eq.symm (Gright_place.len q1)))))) ?_
      refine r_op rfl rfl (PureD.opD (u_ld rfl rfl Try.underlying3 rfl rfl ((Sub.refl _).trans (Gright_place.sub2 q1)))) ?_
      refine r_op rfl rfl (PureD.opD (p_ine rfl rfl rfl)) ?_
      refine r_op rfl rfl (PureD.opD (p_asg rfl rfl)) ?_
      refine RunW_st [(2, .c (.ptr 2 (0))), (3, .c (.ptr 3 (0))), (27, .c (.p (.bool (decide (p0.from_ ≠ q1.from_)))))] [(2, .pure (Gright_place.cs p0)), (3, .pure (Gright_place.cs q1))] rfl ⟨TLes.same _, TLes.same _, TLes.same _, trivial⟩ ⟨rfl, rfl, trivial⟩ ?_
      refine RunW_nil ?_
      refine AW2_if (p := p0.from_ ≠ q1.from_) rfl (fun h3 => ?_) (fun h3 => ?_)
      · replace H := ite_then h3 H
        refine AW2_seq ?_
        refine AW2_reg [0, 1, 2, 3, 4, 5] rfl ?_
        refine r_op rfl rfl (PureD.opD (u_fa rfl rfl Try.underlying37 rfl in_3 (Nat.succ_ne_zero _) rfl rfl (ne_of_lt (n := 0) (Nat.lt_of_lt_of_eq (by decide) (Eq.symm (Gright_place.len p0)))))) ?_
        refine r_op rfl rfl (PureD.opD (u_ld rfl rfl Try.underlying3 rfl rfl ((Sub.refl _).trans (Gright_place.sub2 p0)))) ?_
        refine r_op rfl rfl (PureD.opD (u_fa rfl rfl Try.underlying37 rfl in_3 (Nat.succ_ne_zero _) rfl rfl (ne_of_lt (n := 0) (Nat.lt_of_lt_of_eq (by decide) (Eq.symm (Gright_place.len q1)))))) ?_
        refine r_op rfl rfl (PureD.opD (u_ld rfl rfl Try.underlying3 rfl rfl ((Sub.refl _).trans (Gright_place.sub2 q1)))) ?_
        refine r_op rfl rfl (PureD.opD (p_bin rfl rfl rfl rfl)) ?_
        refine r_op rfl rfl (PureD.opD (p_asg rfl rfl)) ?_
        refine RunW_st [(4, .c (.p (.bool (decide (p0.from_ < q1.from_)))))] [] rfl ⟨TLes.same _, trivial⟩ trivial ?_
        refine RunW_nil ?_
        refine AW2_ret ?_
        have hz := some_elim H
        subst hz
        exact ⟨⟨res_tmp (.same _), trivial⟩, trivial⟩
      · replace H := ite_else h3 H
        refine AW2_st [(2, .c (.ptr 2 (0))), (3, .c (.ptr 3 (0)))] [(2, .pure (Gright_place.cs p0)), (3, .pure (Gright_place.cs q1))] rfl ⟨TLes.same _, TLes.same _, trivial⟩ ⟨rfl, rfl, trivial⟩ ?_
        refine AW2_skip ?_
        refine AW2_seq ?_
        refine AW2_reg [0, 1, 2, 3, 4, 5] rfl ?_
        refine r_op rfl rfl (PureD.opD (u_fa rfl rfl Try.underlying37 rfl in_3 (Nat.succ_ne_zero _) rfl rfl (ne_of_lt (n := 0) (Nat.lt_of_lt_of_eq (by decide) (Eq.symm (Gright_place.len p0)))))) ?_
        refine r_op rfl rfl (PureD.opD (u_ld rfl rfl Try.underlying3 rfl rfl ((Sub.refl _).trans (Gright_place.sub3 p0)))) ?_
        refine r_op rfl rfl (PureD.opD (u_fa rfl rfl Try.underlying37 rfl in_3 (Nat.succ_ne_zero _) rfl rfl (ne_of_lt (n := 0) (Nat.lt_of_lt_of_eq (by decide) (Eq.symm (Gright_place.len q1)))))) ?_
        refine r_op rfl rfl (PureD.opD (u_ld rfl rfl Try.underlying3 rfl rfl ((Sub.refl _).trans (Gright_place.sub3 q1)))) ?_
        refine r_op rfl rfl (PureD.opD (p_bin rfl rfl rfl rfl)) ?_
        refine r_op rfl rfl (PureD.opD (p_asg rfl rfl)) ?_
        refine RunW_st [(4, .c (.p (.bool (decide (p0.to_ < q1.to_)))))] [] rfl ⟨TLes.same _, trivial⟩ trivial ?_
        refine RunW_nil ?_
        refine AW2_ret ?_
        have hz := some_elim H
        subst hz
        exact ⟨⟨res_tmp (.same _), trivial⟩, trivial⟩

/-! right.held -/
noncomputable def g_right_held_l2 (l0 : List GGrant) (good3_0 : List Int) (t16_1 : Int) : Int → Option (Int ⊕ (((List Int)) ⊕ Unit))
  | t37_2 => (if t37_2 < (l0.length : Int) then if 0 ≤ t37_2 ∧ t37_2 < (l0.length : Int) then if 0 ≤ t37_2 ∧ t37_2 < (good3_0.length : Int) then letO (decide ((((((lrd good3_0 t37_2.toNat) = (1 : Int)) ∧ (((lrd l0 t37_2.toNat).Option) = true)) ∧ ((lrd l0 t37_2.toNat).To = (lrd l0 t16_1.toNat).From)) ∧ ((lrd l0 t37_2.toNat).Object = (lrd l0 t16_1.toNat).Object)) ∧ ((lrd l0 t37_2.toNat).Right = (lrd l0 t16_1.toNat).Right))) fun t71'4 => (if t71'4 = true then if 0 ≤ t16_1 ∧ t16_1 < (good3_0.length : Int) then some (.inr (.inl (good3_0.set t16_1.toNat (1 : Int)))) else none else some (.inl (w64 (t37_2 + (1 : Int))))) else none else none else some (.inr (.inr ())))
noncomputable def g_right_held_l1 (l0 : List GGrant) (good3_0 : List Int) : Int → Option (Int ⊕ (((List Int)) ⊕ Unit))
  | t16_1 => (if t16_1 < (l0.length : Int) then (show Option ((((List Int))) ⊕ Unit) from if 0 ≤ t16_1 ∧ t16_1 < (l0.length : Int) then if 0 ≤ t16_1 ∧ t16_1 < (good3_0.length : Int) then (if (lrd good3_0 t16_1.toNat) = (1 : Int) then some (.inr ()) else (g_right_owner ((lrd l0 t16_1.toNat).Object)).bind fun r'3 => (if (lrd l0 t16_1.toNat).From = r'3 then if 0 ≤ t16_1 ∧ t16_1 < (good3_0.length : Int) then some (.inl (good3_0.set t16_1.toNat (1 : Int))) else none else (loopO (g_right_held_l2 l0 good3_0 t16_1) (0 : Int)).bind fun o'8 => match o'8 with | .inl y'9 => some (.inl y'9) | .inr (y'10) => some (.inr ()))) else none else none).bind fun o'12 => match o'12 with | .inl y'11 => some (.inr (.inl y'11)) | .inr j'1 => some (.inl (w64 (t16_1 + (1 : Int)))) else some (.inr (.inr ())))
noncomputable def g_right_held_l3 (l0 : List GGrant) (good3_0 : List Int) : Int × (List GGrant) → Option ((Int × (List GGrant)) ⊕ (((List GGrant))))
  | (t79_3, out8_3) => (if t79_3 < (l0.length : Int) then (if 0 ≤ t79_3 ∧ t79_3 < (l0.length : Int) then if 0 ≤ t79_3 ∧ t79_3 < (good3_0.length : Int) then (if (lrd good3_0 t79_3.toNat) = (1 : Int) then if room (out8_3.length + ([(lrd l0 t79_3.toNat)] : List GGrant).length) 40 then some (out8_3 ++ ([(lrd l0 t79_3.toNat)] : List GGrant)) else none else some out8_3) else none else none).bind fun j'20 => some (.inl (w64 (t79_3 + (1 : Int)), j'20)) else some (.inr out8_3))
noncomputable def g_right_held_l0 (l0 : List GGrant) : (List Int) → Option (((List Int)) ⊕ (((List GGrant))))
  | good3_0 => (loopO (g_right_held_l1 l0 good3_0) (0 : Int)).bind fun o'17 => match o'17 with | .inl y'18 => some (.inl y'18) | .inr (y'19) => (loopO (g_right_held_l3 l0 good3_0) ((0 : Int), ([] : List GGrant))).bind fun y'24 => some (.inr y'24)
noncomputable def g_right_held (l0 : List GGrant) : Option ((List GGrant)) :=
  if 0 ≤ (l0.length : Int) then if 8 * (l0.length : Int).toNat ≤ 281474976710656 then (loopO (g_right_held_l0 l0) (List.replicate ((l0.length : Int).toNat) (0 : Int))).bind fun y'28 => some y'28 else none else none
set_option maxHeartbeats 4000000 in
set_option maxRecDepth 100000 in
theorem g_right_held_ac {l0 : List GGrant} {r : (List GGrant)} (H : g_right_held l0 = some r) : ACp Try.prog 22 [((fun q : List GGrant => AV.lst (q.flatMap GGrant.cs) q.length) l0)] ((fun q : List GGrant => AV.lst (q.flatMap GGrant.cs) q.length) r) := by
  refine ACp_of (AC2_of_body (vs := [.c (.p ((fun q : List GGrant => AV.lst (q.flatMap GGrant.cs) q.length) r))]) Try.func22 rfl rfl (Nat.le_of_ble_eq_true rfl) rfl ?_) (fun _ => .same _)
  unfold g_right_held at H
  refine AW2_st [(0, .c (.p ((fun q : List GGrant => AV.lst (q.flatMap GGrant.cs) q.length) l0)))] [] rfl ⟨TLes.same _, trivial⟩ trivial ?_
  refine AW2_seq ?_
  refine AW2_reg [0] rfl ?_
  refine r_op rfl rfl (PureD.opD (p_asgn rfl)) ?_
  refine RunW_st [(0, .c (.p ((fun q : List GGrant => AV.lst (q.flatMap GGrant.cs) q.length) l0)))] [] rfl ⟨TLes.same _, trivial⟩ trivial ?_
  refine RunW_nil ?_
  refine AW2_scope rfl ?_
  refine AW2_reg [0, 1, 2, 3] rfl ?_
  refine r_op rfl rfl (PureD.opD (p_move rfl rfl)) ?_
  refine r_op rfl rfl (PureD.opD (p_lenl rfl Try.underlying22 rfl rfl)) ?_
  refine chkK H fun h1 H => ?_
  refine chkK H fun h2 H => ?_
  refine r_op rfl rfl (MakeD.opD (u_make 13 rfl rfl rfl (Int.toNat_of_nonneg h1).symm Try.underlying44 in_3 rfl one_3 h2 (by omega) zc_3 (az_map _ _ _) (List.length_replicate (n := (l0.length : Int).toNat) (a := (0 : Int))).symm) rfl rfl rfl rfl) ?_
  refine r_op rfl rfl (PureD.opD (p_asg rfl rfl)) ?_
  refine RunW_st [(0, .c (.p ((fun q : List GGrant => AV.lst (q.flatMap GGrant.cs) q.length) l0))), (3, .c (.own 13 (List.replicate ((l0.length : Int).toNat) (0 : Int)).length 1))] [(13, .pure ((List.replicate ((l0.length : Int).toNat) (0 : Int)).map AV.int))] rfl ⟨TLes.same _, TLes.same _, trivial⟩ ⟨rfl, trivial⟩ ?_
  refine RunW_gho (Gho_ren 13 3 rfl rfl rfl rfl rfl) ?_
  refine RunW_st [(0, .c (.p ((fun q : List GGrant => AV.lst (q.flatMap GGrant.cs) q.length) l0))), (3, .c (.own 3 (List.replicate ((l0.length : Int).toNat) (0 : Int)).length 1))] [(3, .pure ((List.replicate ((l0.length : Int).toNat) (0 : Int)).map AV.int))] rfl ⟨TLes.same _, TLes.same _, trivial⟩ ⟨rfl, trivial⟩ ?_
  refine RunW_nil ?_
  refine inScope_st [(0, .c (.p ((fun q : List GGrant => AV.lst (q.flatMap GGrant.cs) q.length) l0))), (3, .c (.own 3 (List.replicate ((l0.length : Int).toNat) (0 : Int)).length 1))] [(3, .pure ((List.replicate ((l0.length : Int).toNat) (0 : Int)).map AV.int))] rfl ⟨TLes.same _, TLes.same _, trivial⟩ ⟨rfl, trivial⟩ ?_
  refine bindK H fun y'28 h29 H => ?_
  refine inScope_loopO (fun a'25 : (List Int) => (⟨[(0, .c (.p ((fun q : List GGrant => AV.lst (q.flatMap GGrant.cs) q.length) l0))), (3, .c (.own 3 a'25.length 1))], [(3, .pure (a'25.map AV.int))], 95⟩ : TS)) (fun (y'26 : ((List GGrant))) e s' => e = Go.Exit.ret ∧ ResAll Try.prog s' [ResultVar.tmp 2] [.c (.p ((fun q : List GGrant => AV.lst (q.flatMap GGrant.cs) q.length) y'26))] ∧ HFits s' []) h29 rfl (fun good3_0 x hx => ?_) (fun e s' hs => ?_)
  · clear H
    have H := hx
    clear hx
    unfold g_right_held_l0 at H
    refine AW2_seq ?_
    refine AW2_seq ?_
    refine AW2_reg [0, 1, 2] rfl ?_
    refine r_op rfl rfl (PureD.opD (p_move rfl rfl)) ?_
    refine r_op rfl rfl (PureD.opD (p_lenl rfl Try.underlying22 rfl rfl)) ?_
    refine r_op rfl rfl (PureD.opD (p_move rfl rfl)) ?_
    refine RunW_st [(0, .c (.p ((fun q : List GGrant => AV.lst (q.flatMap GGrant.cs) q.length) l0))), (3, .c (.own 3 good3_0.length 1)), (14, .c (.p ((fun q : List GGrant => AV.lst (q.flatMap GGrant.cs) q.length) l0))), (15, .c (.p (AV.int (l0.length : Int)))), (16, .c (.p (AV.int (0 : Int))))] [(3, .pure (good3_0.map AV.int))] rfl ⟨TLes.same _, TLes.same _, TLes.same _, TLes.same _, TLes.same _, trivial⟩ ⟨rfl, trivial⟩ ?_
    refine RunW_nil ?_
    refine AW2_block ?_
    refine AW2_st [(0, .c (.p ((fun q : List GGrant => AV.lst (q.flatMap GGrant.cs) q.length) l0))), (3, .c (.own 3 good3_0.length 1)), (14, .c (.p ((fun q : List GGrant => AV.lst (q.flatMap GGrant.cs) q.length) l0))), (15, .c (.p (AV.int (l0.length : Int)))), (16, .c (.p (AV.int (0 : Int))))] [(3, .pure (good3_0.map AV.int))] rfl ⟨TLes.same _, TLes.same _, TLes.same _, TLes.same _, TLes.same _, trivial⟩ ⟨rfl, trivial⟩ ?_
    refine bindK H fun o'17 h21 H => ?_
    refine AW2_loopO (fun a'14 : Int => (⟨[(0, .c (.p ((fun q : List GGrant => AV.lst (q.flatMap GGrant.cs) q.length) l0))), (3, .c (.own 3 good3_0.length 1)), (14, .c (.p ((fun q : List GGrant => AV.lst (q.flatMap GGrant.cs) q.length) l0))), (15, .c (.p (AV.int (l0.length : Int)))), (16, .c (.p (AV.int a'14)))], [(3, .pure (good3_0.map AV.int))], 95⟩ : TS)) (fun (o : ((List Int)) ⊕ Unit) e s' => match o with | .inl y'15 => e = Go.Exit.goto 0 ∧ s' = (⟨[(0, .c (.p ((fun q : List GGrant => AV.lst (q.flatMap GGrant.cs) q.length) l0))), (3, .c (.own 3 y'15.length 1))], [(3, .pure (y'15.map AV.int))], 95⟩ : TS) | .inr (y'16) => e = Go.Exit.exit 0 ∧ s' = (⟨[(0, .c (.p ((fun q : List GGrant => AV.lst (q.flatMap GGrant.cs) q.length) l0))), (3, .c (.own 3 good3_0.length 1))], [(3, .pure (good3_0.map AV.int))], 95⟩ : TS)) h21 rfl (fun t16_1 x hx => ?_) (fun e s' hs => ?_)
    · clear H
      have H := hx
      clear hx
      unfold g_right_held_l1 at H
      refine AW2_seq ?_
      refine AW2_reg [0] rfl ?_
      refine r_op rfl rfl (PureD.opD (p_bin rfl rfl rfl rfl)) ?_
      refine RunW_st [(0, .c (.p ((fun q : List GGrant => AV.lst (q.flatMap GGrant.cs) q.length) l0))), (3, .c (.own 3 good3_0.length 1)), (14, .c (.p ((fun q : List GGrant => AV.lst (q.flatMap GGrant.cs) q.length) l0))), (15, .c (.p (AV.int (l0.length : Int)))), (16, .c (.p (AV.int t16_1))), (17, .c (.p (.bool (decide (t16_1 < (l0.length : Int))))))] [(3, .pure (good3_0.map AV.int))] rfl ⟨TLes.same _, TLes.same _, TLes.same _, TLes.same _, TLes.same _, TLes.same _, trivial⟩ ⟨rfl, trivial⟩ ?_
      refine RunW_nil ?_
      refine AW2_seq ?_
      refine AW2_if (p := t16_1 < (l0.length : Int)) rfl (fun h3 => ?_) (fun h3 => ?_)
      · replace H := ite_then h3 H
        refine AW2_st [(0, .c (.p ((fun q : List GGrant => AV.lst (q.flatMap GGrant.cs) q.length) l0))), (3, .c (.own 3 good3_0.length 1)), (14, .c (.p ((fun q : List GGrant => AV.lst (q.flatMap GGrant.cs) q.length) l0))), (15, .c (.p (AV.int (l0.length : Int)))), (16, .c (.p (AV.int t16_1)))] [(3, .pure (good3_0.map AV.int))] rfl ⟨TLes.same _, TLes.same _, TLes.same _, TLes.same _, TLes.same _, trivial⟩ ⟨rfl, trivial⟩ ?_
        refine AW2_skip ?_
        refine AW2_seq ?_
        refine bindK H fun o'12 h4 H => ?_
        refine AW2_join (fun j'1 : Unit => (⟨[(0, .c (.p ((fun q : List GGrant => AV.lst (q.flatMap GGrant.cs) q.length) l0))), (3, .c (.own 3 good3_0.length 1)), (14, .c (.p ((fun q : List GGrant => AV.lst (q.flatMap GGrant.cs) q.length) l0))), (15, .c (.p (AV.int (l0.length : Int)))), (16, .c (.p (AV.int t16_1)))], [(3, .pure (good3_0.map AV.int))], 95⟩ : TS)) (fun (y'2 : ((List Int))) e s' => e = Go.Exit.goto 0 ∧ s' = (⟨[(0, .c (.p ((fun q : List GGrant => AV.lst (q.flatMap GGrant.cs) q.length) l0))), (3, .c (.own 3 y'2.length 1))], [(3, .pure (y'2.map AV.int))], 95⟩ : TS)) (x := o'12) ?_ (fun j'1 hy => ?_) (fun y'11 e s' hy hs => ?_)
        · clear H
          have H := h4
          clear h4
          refine AW2_block ?_
          refine AW2_seq ?_
          refine AW2_reg [0, 1, 2, 3, 4, 5] rfl ?_
          refine r_op rfl rfl (PureD.opD (p_move rfl rfl)) ?_
          refine chkK H fun h5 H => ?_
          refine r_op rfl rfl (PureD.opD (u_ixl rfl rfl Try.underlying22 in_27 rfl rfl (ixe h5) (ixn h5) (fne (fun x => (GGrant.len x)) (by decide) (ixn h5)))) ?_
          refine r_op rfl rfl (PureD.opD (u_lda rfl rfl Try.underlying27 rfl in_27 rfl (Nat.succ_pos _) (Sub.fm default (fun x => (GGrant.len x)) (ixn h5)) (GGrant.len (lrd l0 t16_1.toNat)))) ?_
          refine r_op rfl rfl (MakeD.opD (u_alloc 5 rfl in_27 one_27 zc_27) rfl rfl rfl rfl) ?_
          refine r_op rfl rfl (PureD.opD (p_asg rfl rfl)) ?_
          refine r_op rfl rfl (u_st rfl rfl rfl rfl rfl in_27 (GGrant.len (lrd l0 t16_1.toNat)) (ne_of_lt (n := 0) (Nat.lt_of_lt_of_eq (by decide) (Eq.symm (GGrant.len GGrant.zero)))) (Upd.refl ((GGrant.len (lrd l0 t16_1.toNat)).trans (GGrant.len GGrant.zero).symm))) ?_
          refine RunW_st [(0, .c (.p ((fun q : List GGrant => AV.lst (q.flatMap GGrant.cs) q.length) l0))), (3, .c (.own 3 good3_0.length 1)), (4, .c (.p (AV.int t16_1))), (5, .c (.ptr 5 (0))), (14, .c (.p ((fun q : List GGrant => AV.lst (q.flatMap GGrant.cs) q.length) l0))), (15, .c (.p (AV.int (l0.length : Int)))), (16, .c (.p (AV.int t16_1)))] [(3, .pure (good3_0.map AV.int)), (5, .pure (GGrant.cs (lrd l0 t16_1.toNat)))] rfl ⟨TLes.same _, TLes.same _, TLes.same _, TLes.same _, TLes.same _, TLes.same _, TLes.same _, trivial⟩ ⟨rfl, rfl, trivial⟩ ?_
          refine RunW_nil ?_
          refine AW2_seq ?_
          refine AW2_seq ?_
          refine AW2_reg [0, 1, 2, 3, 4] rfl ?_
          refine r_op rfl rfl (PureD.opD (p_move rfl rfl)) ?_
          refine r_op rfl rfl (PureD.opD (p_move rfl rfl)) ?_
          refine chkK H fun h6 H => ?_
          refine r_op rfl rfl (PureD.opD (u_ixo rfl rfl Try.underlying44 in_3 rfl rfl (lne (ixn h6)) rfl (ixe h6) (ixn h6))) ?_
          refine r_op rfl rfl (PureD.opD (u_ld rfl rfl Try.underlying3 rfl rfl ((Sub.refl _).trans (Sub.map default (ixn h6))))) ?_
          refine r_op rfl rfl (PureD.opD (p_ieq rfl rfl rfl)) ?_
          refine RunW_st [(0, .c (.p ((fun q : List GGrant => AV.lst (q.flatMap GGrant.cs) q.length) l0))), (3, .c (.own 3 good3_0.length 1)), (4, .c (.p (AV.int t16_1))), (5, .c (.ptr 5 (0))), (14, .c (.p ((fun q : List GGrant => AV.lst (q.flatMap GGrant.cs) q.length) l0))), (15, .c (.p (AV.int (l0.length : Int)))), (16, .c (.p (AV.int t16_1))), (25, .c (.p (.bool (decide ((lrd good3_0 t16_1.toNat) = (1 : Int))))))] [(3, .pure (good3_0.map AV.int)), (5, .pure (GGrant.cs (lrd l0 t16_1.toNat)))] rfl ⟨TLes.same _, TLes.same _, TLes.same _, TLes.same _, TLes.same _, TLes.same _, TLes.same _, TLes.same _, trivial⟩ ⟨rfl, rfl, trivial⟩ ?_
          refine RunW_nil ?_
          refine AW2_if (p := (lrd good3_0 t16_1.toNat) = (1 : Int)) rfl (fun h7 => ?_) (fun h7 => ?_)
          · replace H := ite_then h7 H
            refine AW2_st [(0, .c (.p ((fun q : List GGrant => AV.lst (q.flatMap GGrant.cs) q.length) l0))), (3, .c (.own 3 good3_0.length 1)), (14, .c (.p ((fun q : List GGrant => AV.lst (q.flatMap GGrant.cs) q.length) l0))), (15, .c (.p (AV.int (l0.length : Int)))), (16, .c (.p (AV.int t16_1)))] [(3, .pure (good3_0.map AV.int))] rfl ⟨TLes.same _, TLes.same _, TLes.same _, TLes.same _, TLes.same _, trivial⟩ ⟨rfl, trivial⟩ ?_
            refine AW2_exit ?_
            refine thenQ2_exit ?_
            refine blockQ2_exit ?_
            have hz := some_elim H
            subst hz
            exact ⟨rfl, rfl⟩
          · replace H := ite_else h7 H
            refine AW2_st [(0, .c (.p ((fun q : List GGrant => AV.lst (q.flatMap GGrant.cs) q.length) l0))), (3, .c (.own 3 good3_0.length 1)), (4, .c (.p (AV.int t16_1))), (5, .c (.ptr 5 (0))), (14, .c (.p ((fun q : List GGrant => AV.lst (q.flatMap GGrant.cs) q.length) l0))), (15, .c (.p (AV.int (l0.length : Int)))), (16, .c (.p (AV.int t16_1)))] [(3, .pure (good3_0.map AV.int)), (5, .pure (GGrant.cs (lrd l0 t16_1.toNat)))] rfl ⟨TLes.same _, TLes.same _, TLes.same _, TLes.same _, TLes.same _, TLes.same _, TLes.same _, trivial⟩ ⟨rfl, rfl, trivial⟩ ?_
            refine AW2_skip ?_
            refine AW2_seq ?_
            refine AW2_seq ?_
            refine bindK H fun r'3 h8 H => ?_
            refine AW2_ghoQ ?_
            refine AW2_draw 5 [5] (fun k => ([.c (.ptr 5 (0 + 0)), .c (.p (AV.int ((lrd l0 t16_1.toNat).From))), .c (.ptr 5 (0 + 2)), .c (.p (AV.int ((lrd l0 t16_1.toNat).Object))), .c (.p (AV.int r'3))] : List TV).getD k TV.any) (fun k => ([[(5, none)], [(26, some 0)], [(5, none)], [(28, some 2)], [(29, some 3)]] : List (List (Nat × Option Nat))).getD k []) [(0, none), (3, none), (4, none), (5, none), (14, none), (15, none), (16, none), (27, some 1), (30, some 4)] [] (fun k => ([[], [0], [], [2], [2, 3], [0, 1, 2, 3, 4]] : List (List Nat)).getD k []) mixed (by kernel_rfl) rfl rfl (a_op (g_x rfl (x_p rfl (u_fa rfl rfl Try.underlying27 rfl in_3 (Nat.succ_ne_zero _) rfl rfl (ne_of_lt (n := 0) (Nat.lt_of_lt_of_eq (by decide) (Eq.symm (GGrant.len (lrd l0 t16_1.toNat)))))) rfl)) (a_op (g_x rfl (x_p rfl (u_ld rfl rfl Try.underlying3 rfl rfl ((Sub.refl _).trans (GGrant.sub0 (lrd l0 t16_1.toNat)))) rfl)) (a_op (g_x rfl (x_p rfl (u_fa rfl rfl Try.underlying27 rfl in_3 (Nat.succ_ne_zero _) rfl rfl (ne_of_lt (n := 0) (Nat.lt_of_lt_of_eq (by decide) (Eq.symm (GGrant.len (lrd l0 t16_1.toNat)))))) rfl)) (a_op (g_x rfl (x_p rfl (u_ld rfl rfl Try.underlying3 rfl rfl ((Sub.refl _).trans (GGrant.sub2 (lrd l0 t16_1.toNat)))) rfl)) (a_op (g_x rfl (x_p rfl (p_callp rfl rfl rfl Try.func27 rfl rfl (g_right_owner_ac h8) ⟨rfl, trivial⟩) rfl)) (a_nil)))))) ?_
            refine t_op rfl rfl (PureD.opD (p_ieq rfl rfl rfl)) ?_
            refine t_gho (Gho_st (L := [(0, .c (.p ((fun q : List GGrant => AV.lst (q.flatMap GGrant.cs) q.length) l0))), (3, .c (.own 3 good3_0.length 1)), (4, .c (.p (AV.int t16_1))), (5, .c (.ptr 5 (0))), (14, .c (.p ((fun q : List GGrant => AV.lst (q.flatMap GGrant.cs) q.length) l0))), (15, .c (.p (AV.int (l0.length : Int)))), (16, .c (.p (AV.int t16_1))), (31, .c (.p (.bool (decide ((lrd l0 t16_1.toNat).From = r'3)))))]) (H := [(3, .pure (good3_0.map AV.int)), (5, .pure (GGrant.cs (lrd l0 t16_1.toNat)))]) rfl ⟨TLes.same _, TLes.same _, TLes.same _, TLes.same _, TLes.same _, TLes.same _, TLes.same _, TLes.same _, trivial⟩ ⟨rfl, rfl, trivial⟩) ?_
            refine AW2_if (p := (lrd l0 t16_1.toNat).From = r'3) rfl (fun h9 => ?_) (fun h9 => ?_)
            · replace H := ite_then h9 H
              refine AW2_seq ?_
              refine AW2_reg [0, 1, 2, 3] rfl ?_
              refine r_op rfl rfl (PureD.opD (p_move rfl rfl)) ?_
              refine r_op rfl rfl (PureD.opD (p_move rfl rfl)) ?_
              refine chkK H fun h10 H => ?_
              refine r_op rfl rfl (PureD.opD (u_ixo rfl rfl Try.underlying44 in_3 rfl rfl (lne (ixn h10)) rfl (ixe h10) (ixn h10))) ?_
              refine r_op rfl rfl (u_st rfl rfl rfl rfl rfl in_3 rfl (lne (ixn h10)) (Upd.trans (Sub.refl _) (Upd.map (ixn h10)) (Upd.refl (by simp)))) ?_
              refine RunW_st [(0, .c (.p ((fun q : List GGrant => AV.lst (q.flatMap GGrant.cs) q.length) l0))), (3, .c (.own 3 (good3_0.set t16_1.toNat (1 : Int)).length 1))] [(3, .pure ((good3_0.set t16_1.toNat (1 : Int)).map AV.int))] rfl ⟨TLes.same _, TLes.own (by simp only [List.length_set]), trivial⟩ ⟨rfl, trivial⟩ ?_
              refine RunW_nil ?_
              refine AW2_st [(0, .c (.p ((fun q : List GGrant => AV.lst (q.flatMap GGrant.cs) q.length) l0))), (3, .c (.own 3 (good3_0.set t16_1.toNat (1 : Int)).length 1))] [(3, .pure ((good3_0.set t16_1.toNat (1 : Int)).map AV.int))] rfl ⟨TLes.same _, TLes.same _, trivial⟩ ⟨rfl, trivial⟩ ?_
              refine AW2_goto ?_
              refine thenQ2_goto ?_
              refine blockQ2_goto ?_
              have hz := some_elim H
              subst hz
              exact ⟨rfl, rfl⟩
            · replace H := ite_else h9 H
              refine AW2_st [(0, .c (.p ((fun q : List GGrant => AV.lst (q.flatMap GGrant.cs) q.length) l0))), (3, .c (.own 3 good3_0.length 1)), (4, .c (.p (AV.int t16_1))), (5, .c (.ptr 5 (0))), (14, .c (.p ((fun q : List GGrant => AV.lst (q.flatMap GGrant.cs) q.length) l0))), (15, .c (.p (AV.int (l0.length : Int)))), (16, .c (.p (AV.int t16_1)))] [(3, .pure (good3_0.map AV.int)), (5, .pure (GGrant.cs (lrd l0 t16_1.toNat)))] rfl ⟨TLes.same _, TLes.same _, TLes.same _, TLes.same _, TLes.same _, TLes.same _, TLes.same _, trivial⟩ ⟨rfl, rfl, trivial⟩ ?_
              refine AW2_skip ?_
              refine AW2_seq ?_
              refine AW2_reg [0, 1, 2] rfl ?_
              refine r_op rfl rfl (PureD.opD (p_move rfl rfl)) ?_
              refine r_op rfl rfl (PureD.opD (p_lenl rfl Try.underlying22 rfl rfl)) ?_
              refine r_op rfl rfl (PureD.opD (p_move rfl rfl)) ?_
              refine RunW_st [(0, .c (.p ((fun q : List GGrant => AV.lst (q.flatMap GGrant.cs) q.length) l0))), (3, .c (.own 3 good3_0.length 1)), (4, .c (.p (AV.int t16_1))), (5, .c (.ptr 5 (0))), (14, .c (.p ((fun q : List GGrant => AV.lst (q.flatMap GGrant.cs) q.length) l0))), (15, .c (.p (AV.int (l0.length : Int)))), (16, .c (.p (AV.int t16_1))), (35, .c (.p ((fun q : List GGrant => AV.lst (q.flatMap GGrant.cs) q.length) l0))), (36, .c (.p (AV.int (l0.length : Int)))), (37, .c (.p (AV.int (0 : Int))))] [(3, .pure (good3_0.map AV.int)), (5, .pure (GGrant.cs (lrd l0 t16_1.toNat)))] rfl ⟨TLes.same _, TLes.same _, TLes.same _, TLes.same _, TLes.same _, TLes.same _, TLes.same _, TLes.same _, TLes.same _, TLes.same _, trivial⟩ ⟨rfl, rfl, trivial⟩ ?_
              refine RunW_nil ?_
              refine AW2_block ?_
              refine AW2_st [(0, .c (.p ((fun q : List GGrant => AV.lst (q.flatMap GGrant.cs) q.length) l0))), (3, .c (.own 3 good3_0.length 1)), (4, .c (.p (AV.int t16_1))), (5, .c (.ptr 5 (0))), (14, .c (.p ((fun q : List GGrant => AV.lst (q.flatMap GGrant.cs) q.length) l0))), (15, .c (.p (AV.int (l0.length : Int)))), (16, .c (.p (AV.int t16_1))), (35, .c (.p ((fun q : List GGrant => AV.lst (q.flatMap GGrant.cs) q.length) l0))), (36, .c (.p (AV.int (l0.length : Int)))), (37, .c (.p (AV.int (0 : Int))))] [(3, .pure (good3_0.map AV.int)), (5, .pure (GGrant.cs (lrd l0 t16_1.toNat)))] rfl ⟨TLes.same _, TLes.same _, TLes.same _, TLes.same _, TLes.same _, TLes.same _, TLes.same _, TLes.same _, TLes.same _, TLes.same _, trivial⟩ ⟨rfl, rfl, trivial⟩ ?_
              refine bindK H fun o'8 h20 H => ?_
              refine AW2_loopO (fun a'5 : Int => (⟨[(0, .c (.p ((fun q : List GGrant => AV.lst (q.flatMap GGrant.cs) q.length) l0))), (3, .c (.own 3 good3_0.length 1)), (4, .c (.p (AV.int t16_1))), (5, .c (.ptr 5 (0))), (14, .c (.p ((fun q : List GGrant => AV.lst (q.flatMap GGrant.cs) q.length) l0))), (15, .c (.p (AV.int (l0.length : Int)))), (16, .c (.p (AV.int t16_1))), (35, .c (.p ((fun q : List GGrant => AV.lst (q.flatMap GGrant.cs) q.length) l0))), (36, .c (.p (AV.int (l0.length : Int)))), (37, .c (.p (AV.int a'5)))], [(3, .pure (good3_0.map AV.int)), (5, .pure (GGrant.cs (lrd l0 t16_1.toNat)))], 95⟩ : TS)) (fun (o : ((List Int)) ⊕ Unit) e s' => match o with | .inl y'6 => e = Go.Exit.goto 0 ∧ s' = (⟨[(0, .c (.p ((fun q : List GGrant => AV.lst (q.flatMap GGrant.cs) q.length) l0))), (3, .c (.own 3 y'6.length 1))], [(3, .pure (y'6.map AV.int))], 95⟩ : TS) | .inr (y'7) => e = Go.Exit.exit 2 ∧ s' = (⟨[(0, .c (.p ((fun q : List GGrant => AV.lst (q.flatMap GGrant.cs) q.length) l0))), (3, .c (.own 3 good3_0.length 1)), (14, .c (.p ((fun q : List GGrant => AV.lst (q.flatMap GGrant.cs) q.length) l0))), (15, .c (.p (AV.int (l0.length : Int)))), (16, .c (.p (AV.int t16_1)))], [(3, .pure (good3_0.map AV.int))], 95⟩ : TS)) h20 rfl (fun t37_2 x hx => ?_) (fun e s' hs => ?_)
              · clear H
                have H := hx
                clear hx
                unfold g_right_held_l2 at H
                refine AW2_seq ?_
                refine AW2_reg [0] rfl ?_
                refine r_op rfl rfl (PureD.opD (p_bin rfl rfl rfl rfl)) ?_
                refine RunW_st [(0, .c (.p ((fun q : List GGrant => AV.lst (q.flatMap GGrant.cs) q.length) l0))), (3, .c (.own 3 good3_0.length 1)), (4, .c (.p (AV.int t16_1))), (5, .c (.ptr 5 (0))), (14, .c (.p ((fun q : List GGrant => AV.lst (q.flatMap GGrant.cs) q.length) l0))), (15, .c (.p (AV.int (l0.length : Int)))), (16, .c (.p (AV.int t16_1))), (35, .c (.p ((fun q : List GGrant => AV.lst (q.flatMap GGrant.cs) q.length) l0))), (36, .c (.p (AV.int (l0.length : Int)))), (37, .c (.p (AV.int t37_2))), (38, .c (.p (.bool (decide (t37_2 < (l0.length : Int))))))] [(3, .pure (good3_0.map AV.int)), (5, .pure (GGrant.cs (lrd l0 t16_1.toNat)))] rfl ⟨TLes.same _, TLes.same _, TLes.same _, TLes.same _, TLes.same _, TLes.same _, TLes.same _, TLes.same _, TLes.same _, TLes.same _, TLes.same _, trivial⟩ ⟨rfl, rfl, trivial⟩ ?_
                refine RunW_nil ?_
                refine AW2_seq ?_
                refine AW2_if (p := t37_2 < (l0.length : Int)) rfl (fun h11 => ?_) (fun h11 => ?_)
                · replace H := ite_then h11 H
                  refine AW2_st [(0, .c (.p ((fun q : List GGrant => AV.lst (q.flatMap GGrant.cs) q.length) l0))), (3, .c (.own 3 good3_0.length 1)), (4, .c (.p (AV.int t16_1))), (5, .c (.ptr 5 (0))), (14, .c (.p ((fun q : List GGrant => AV.lst (q.flatMap GGrant.cs) q.length) l0))), (15, .c (.p (AV.int (l0.length : Int)))), (16, .c (.p (AV.int t16_1))), (35, .c (.p ((fun q : List GGrant => AV.lst (q.flatMap GGrant.cs) q.length) l0))), (36, .c (.p (AV.int (l0.length : Int)))), (37, .c (.p (AV.int t37_2)))] [(3, .pure (good3_0.map AV.int)), (5, .pure (GGrant.cs (lrd l0 t16_1.toNat)))] rfl ⟨TLes.same _, TLes.same _, TLes.same _, TLes.same _, TLes.same _, TLes.same _, TLes.same _, TLes.same _, TLes.same _, TLes.same _, trivial⟩ ⟨rfl, rfl, trivial⟩ ?_
                  refine AW2_skip ?_
                  refine AW2_seq ?_
                  refine AW2_block ?_
                  refine AW2_seq ?_
                  refine AW2_reg [0, 1, 2, 3, 4, 5] rfl ?_
                  refine r_op rfl rfl (PureD.opD (p_move rfl rfl)) ?_
                  refine chkK H fun h12 H => ?_
                  refine r_op rfl rfl (PureD.opD (u_ixl rfl rfl Try.underlying22 in_27 rfl rfl (ixe h12) (ixn h12) (fne (fun x => (GGrant.len x)) (by decide) (ixn h12)))) ?_
                  refine r_op rfl rfl (PureD.opD (u_lda rfl rfl Try.underlying27 rfl in_27 rfl (Nat.succ_pos _) (Sub.fm default (fun x => (GGrant.len x)) (ixn h12)) (GGrant.len (lrd l0 t37_2.toNat)))) ?_
                  refine r_op rfl rfl (MakeD.opD (u_alloc 7 rfl in_27 one_27 zc_27) rfl rfl rfl rfl) ?_
                  refine r_op rfl rfl (PureD.opD (p_asg rfl rfl)) ?_
                  refine r_op rfl rfl (u_st rfl rfl rfl rfl rfl in_27 (GGrant.len (lrd l0 t37_2.toNat)) (ne_of_lt (n := 0) (Nat.lt_of_lt_of_eq (by decide) (Eq.symm (GGrant.len GGrant.zero)))) (Upd.refl ((GGrant.len (lrd l0 t37_2.toNat)).trans (GGrant.len GGrant.zero).symm))) ?_
                  refine RunW_st [(0, .c (.p ((fun q : List GGrant => AV.lst (q.flatMap GGrant.cs) q.length) l0))), (3, .c (.own 3 good3_0.length 1)), (4, .c (.p (AV.int t16_1))), (5, .c (.ptr 5 (0))), (6, .c (.p (AV.int t37_2))), (7, .c (.ptr 7 (0))), (14, .c (.p ((fun q : List GGrant => AV.lst (q.flatMap GGrant.cs) q.length) l0))), (15, .c (.p (AV.int (l0.length : Int)))), (16, .c (.p (AV.int t16_1))), (35, .c (.p ((fun q : List GGrant => AV.lst (q.flatMap GGrant.cs) q.length) l0))), (36, .c (.p (AV.int (l0.length : Int)))), (37, .c (.p (AV.int t37_2)))] [(3, .pure (good3_0.map AV.int)), (5, .pure (GGrant.cs (lrd l0 t16_1.toNat))), (7, .pure (GGrant.cs (lrd l0 t37_2.toNat)))] rfl ⟨TLes.same _, TLes.same _, TLes.same _, TLes.same _, TLes.same _, TLes.same _, TLes.same _, TLes.same _, TLes.same _, TLes.same _, TLes.same _, TLes.same _, trivial⟩ ⟨rfl, rfl, rfl, trivial⟩ ?_
                  refine RunW_nil ?_
                  refine AW2_seq ?_
                  refine chkK H fun h13 H => ?_
                  refine AW2_mid (⟨[(0, .c (.p ((fun q : List GGrant => AV.lst (q.flatMap GGrant.cs) q.length) l0))), (3, .c (.own 3 good3_0.length 1)), (4, .c (.p (AV.int t16_1))), (5, .c (.ptr 5 (0))), (14, .c (.p ((fun q : List GGrant => AV.lst (q.flatMap GGrant.cs) q.length) l0))), (15, .c (.p (AV.int (l0.length : Int)))), (16, .c (.p (AV.int t16_1))), (35, .c (.p ((fun q : List GGrant => AV.lst (q.flatMap GGrant.cs) q.length) l0))), (36, .c (.p (AV.int (l0.length : Int)))), (37, .c (.p (AV.int t37_2))), (71, .c (.p (.bool (decide ((((((lrd good3_0 t37_2.toNat) = (1 : Int)) ∧ (((lrd l0 t37_2.toNat).Option) = true)) ∧ ((lrd l0 t37_2.toNat).To = (lrd l0 t16_1.toNat).From)) ∧ ((lrd l0 t37_2.toNat).Object = (lrd l0 t16_1.toNat).Object)) ∧ ((lrd l0 t37_2.toNat).Right = (lrd l0 t16_1.toNat).Right))))))], [(3, .pure (good3_0.map AV.int)), (5, .pure (GGrant.cs (lrd l0 t16_1.toNat)))], 95⟩ : TS) ?_ ?_
                  · refine AW2_reg [0, 1, 2, 3, 4, 5, 6, 7, 8, 9, 10, 11, 12, 13, 14, 15, 16, 17, 18, 19, 20, 21, 22, 23, 24, 25, 26, 27, 28, 29] rfl ?_
                    refine r_op rfl rfl (PureD.opD (p_move rfl rfl)) ?_
                    refine r_op rfl rfl (PureD.opD (p_move rfl rfl)) ?_
                    refine r_op rfl rfl (PureD.opD (u_ixo rfl rfl Try.underlying44 in_3 rfl rfl (lne (ixn h13)) rfl (ixe h13) (ixn h13))) ?_
                    refine r_op rfl rfl (PureD.opD (u_ld rfl rfl Try.underlying3 rfl rfl ((Sub.refl _).trans (Sub.map default (ixn h13))))) ?_
                    refine r_op rfl rfl (PureD.opD (p_ieq rfl rfl rfl)) ?_
                    refine r_op rfl rfl (PureD.opD (p_move rfl rfl)) ?_
                    refine (Classical.em ((lrd good3_0 t37_2.toNat) = (1 : Int))).elim (fun h14 => ?_) (fun h14 => ?_)
                    · refine r_on rfl rfl rfl rfl (decide_eq_true (p := (lrd good3_0 t37_2.toNat) = (1 : Int)) h14) rfl (PureD.opD (u_fa rfl rfl Try.underlying27 rfl in_4 (Nat.succ_ne_zero _) rfl rfl (ne_of_lt (n := 0) (Nat.lt_of_lt_of_eq (by decide) (Eq.symm (GGrant.len (lrd l0 t37_2.toNat))))))) ?_
                      refine r_on rfl rfl rfl rfl (decide_eq_true (p := (lrd good3_0 t37_2.toNat) = (1 : Int)) h14) rfl (PureD.opD (u_ld rfl rfl Try.underlying4 rfl rfl ((Sub.refl _).trans (GGrant.sub4 (lrd l0 t37_2.toNat))))) ?_
                      refine r_op rfl rfl (PureD.opD (p_pkt rfl rfl (decide_eq_true (p := (lrd good3_0 t37_2.toNat) = (1 : Int)) h14) (tb ((bdec _).trans (and_l (p := (lrd good3_0 t37_2.toNat) = (1 : Int)) (q := ((lrd l0 t37_2.toNat).Option) = true) h14))))) ?_
                      refine r_op rfl rfl (PureD.opD (p_move rfl rfl)) ?_
                      refine (Classical.em (((lrd l0 t37_2.toNat).Option) = true)).elim (fun h15 => ?_) (fun h15 => ?_)
                      · refine r_on rfl rfl rfl rfl (decide_eq_true (p := ((lrd good3_0 t37_2.toNat) = (1 : Int)) ∧ (((lrd l0 t37_2.toNat).Option) = true)) ⟨h14, h15⟩) rfl (PureD.opD (u_fa rfl rfl Try.underlying27 rfl in_3 (Nat.succ_ne_zero _) rfl rfl (ne_of_lt (n := 0) (Nat.lt_of_lt_of_eq (by decide) (Eq.symm (GGrant.len (lrd l0 t37_2.toNat))))))) ?_
                        refine r_on rfl rfl rfl rfl (decide_eq_true (p := ((lrd good3_0 t37_2.toNat) = (1 : Int)) ∧ (((lrd l0 t37_2.toNat).Option) = true)) ⟨h14, h15⟩) rfl (PureD.opD (u_ld rfl rfl Try.underlying3 rfl rfl ((Sub.refl _).trans (GGrant.sub1 (lrd l0 t37_2.toNat))))) ?_
                        refine r_on rfl rfl rfl rfl (decide_eq_true (p := ((lrd good3_0 t37_2.toNat) = (1 : Int)) ∧ (((lrd l0 t37_2.toNat).Option) = true)) ⟨h14, h15⟩) rfl (PureD.opD (u_fa rfl rfl Try.underlying27 rfl in_3 (Nat.succ_ne_zero _) rfl rfl (ne_of_lt (n := 0) (Nat.lt_of_lt_of_eq (by decide) (Eq.symm (GGrant.len (lrd l0 t16_1.toNat))))))) ?_
                        refine r_on rfl rfl rfl rfl (decide_eq_true (p := ((lrd good3_0 t37_2.toNat) = (1 : Int)) ∧ (((lrd l0 t37_2.toNat).Option) = true)) ⟨h14, h15⟩) rfl (PureD.opD (u_ld rfl rfl Try.underlying3 rfl rfl ((Sub.refl _).trans (GGrant.sub0 (lrd l0 t16_1.toNat))))) ?_
                        refine r_on rfl rfl rfl rfl (decide_eq_true (p := ((lrd good3_0 t37_2.toNat) = (1 : Int)) ∧ (((lrd l0 t37_2.toNat).Option) = true)) ⟨h14, h15⟩) rfl (PureD.opD (p_ieq rfl rfl rfl)) ?_
                        refine r_op rfl rfl (PureD.opD (p_pkt rfl rfl (decide_eq_true (p := ((lrd good3_0 t37_2.toNat) = (1 : Int)) ∧ (((lrd l0 t37_2.toNat).Option) = true)) ⟨h14, h15⟩) (tb ((and_l (p := ((lrd good3_0 t37_2.toNat) = (1 : Int)) ∧ (((lrd l0 t37_2.toNat).Option) = true)) (q := (lrd l0 t37_2.toNat).To = (lrd l0 t16_1.toNat).From) ⟨h14, h15⟩))))) ?_
                        refine r_op rfl rfl (PureD.opD (p_move rfl rfl)) ?_
                        refine (Classical.em ((lrd l0 t37_2.toNat).To = (lrd l0 t16_1.toNat).From)).elim (fun h16 => ?_) (fun h16 => ?_)
                        · refine r_on rfl rfl rfl rfl (decide_eq_true (p := (((lrd good3_0 t37_2.toNat) = (1 : Int)) ∧ (((lrd l0 t37_2.toNat).Option) = true)) ∧ ((lrd l0 t37_2.toNat).To = (lrd l0 t16_1.toNat).From)) ⟨⟨h14, h15⟩, h16⟩) rfl (PureD.opD (u_fa rfl rfl Try.underlying27 rfl in_3 (Nat.succ_ne_zero _) rfl rfl (ne_of_lt (n := 0) (Nat.lt_of_lt_of_eq (by decide) (Eq.symm (GGrant.len (lrd l0 t37_2.toNat))))))) ?_
                          refine r_on rfl rfl rfl rfl (decide_eq_true (p := (((lrd good3_0 t37_2.toNat) = (1 : Int)) ∧ (((lrd l0 t37_2.toNat).Option) = true)) ∧ ((lrd l0 t37_2.toNat).To = (lrd l0 t16_1.toNat).From)) ⟨⟨h14, h15⟩, h16⟩) rfl (PureD.opD (u_ld rfl rfl Try.underlying3 rfl rfl ((Sub.refl _).trans (GGrant.sub2 (lrd l0 t37_2.toNat))))) ?_
                          refine r_on rfl rfl rfl rfl (decide_eq_true (p := (((lrd good3_0 t37_2.toNat) = (1 : Int)) ∧ (((lrd l0 t37_2.toNat).Option) = true)) ∧ ((lrd l0 t37_2.toNat).To = (lrd l0 t16_1.toNat).From)) ⟨⟨h14, h15⟩, h16⟩) rfl (PureD.opD (u_fa rfl rfl Try.underlying27 rfl in_3 (Nat.succ_ne_zero _) rfl rfl (ne_of_lt (n := 0) (Nat.lt_of_lt_of_eq (by decide) (Eq.symm (GGrant.len (lrd l0 t16_1.toNat))))))) ?_
                          refine r_on rfl rfl rfl rfl (decide_eq_true (p := (((lrd good3_0 t37_2.toNat) = (1 : Int)) ∧ (((lrd l0 t37_2.toNat).Option) = true)) ∧ ((lrd l0 t37_2.toNat).To = (lrd l0 t16_1.toNat).From)) ⟨⟨h14, h15⟩, h16⟩) rfl (PureD.opD (u_ld rfl rfl Try.underlying3 rfl rfl ((Sub.refl _).trans (GGrant.sub2 (lrd l0 t16_1.toNat))))) ?_
                          refine r_on rfl rfl rfl rfl (decide_eq_true (p := (((lrd good3_0 t37_2.toNat) = (1 : Int)) ∧ (((lrd l0 t37_2.toNat).Option) = true)) ∧ ((lrd l0 t37_2.toNat).To = (lrd l0 t16_1.toNat).From)) ⟨⟨h14, h15⟩, h16⟩) rfl (PureD.opD (p_ieq rfl rfl rfl)) ?_
                          refine r_op rfl rfl (PureD.opD (p_pkt rfl rfl (decide_eq_true (p := (((lrd good3_0 t37_2.toNat) = (1 : Int)) ∧ (((lrd l0 t37_2.toNat).Option) = true)) ∧ ((lrd l0 t37_2.toNat).To = (lrd l0 t16_1.toNat).From)) ⟨⟨h14, h15⟩, h16⟩) (tb ((and_l (p := (((lrd good3_0 t37_2.toNat) = (1 : Int)) ∧ (((lrd l0 t37_2.toNat).Option) = true)) ∧ ((lrd l0 t37_2.toNat).To = (lrd l0 t16_1.toNat).From)) (q := (lrd l0 t37_2.toNat).Object = (lrd l0 t16_1.toNat).Object) ⟨⟨h14, h15⟩, h16⟩))))) ?_
                          refine r_op rfl rfl (PureD.opD (p_move rfl rfl)) ?_
                          refine (Classical.em ((lrd l0 t37_2.toNat).Object = (lrd l0 t16_1.toNat).Object)).elim (fun h17 => ?_) (fun h17 => ?_)
                          · refine r_on rfl rfl rfl rfl (decide_eq_true (p := ((((lrd good3_0 t37_2.toNat) = (1 : Int)) ∧ (((lrd l0 t37_2.toNat).Option) = true)) ∧ ((lrd l0 t37_2.toNat).To = (lrd l0 t16_1.toNat).From)) ∧ ((lrd l0 t37_2.toNat).Object = (lrd l0 t16_1.toNat).Object)) ⟨⟨⟨h14, h15⟩, h16⟩, h17⟩) rfl (PureD.opD (u_fa rfl rfl Try.underlying27 rfl in_3 (Nat.succ_ne_zero _) rfl rfl (ne_of_lt (n := 0) (Nat.lt_of_lt_of_eq (by decide) (Eq.symm (GGrant.len (lrd l0 t37_2.toNat))))))) ?_
                            refine r_on rfl rfl rfl rfl (decide_eq_true (p := ((((lrd good3_0 t37_2.toNat) = (1 : Int)) ∧ (((lrd l0 t37_2.toNat).Option) = true)) ∧ ((lrd l0 t37_2.toNat).To = (lrd l0 t16_1.toNat).From)) ∧ ((lrd l0 t37_2.toNat).Object = (lrd l0 t16_1.toNat).Object)) ⟨⟨⟨h14, h15⟩, h16⟩, h17⟩) rfl (PureD.opD (u_ld rfl rfl Try.underlying3 rfl rfl ((Sub.refl _).trans (GGrant.sub3 (lrd l0 t37_2.toNat))))) ?_
                            refine r_on rfl rfl rfl rfl (decide_eq_true (p := ((((lrd good3_0 t37_2.toNat) = (1 : Int)) ∧ (((lrd l0 t37_2.toNat).Option) = true)) ∧ ((lrd l0 t37_2.toNat).To = (lrd l0 t16_1.toNat).From)) ∧ ((lrd l0 t37_2.toNat).Object = (lrd l0 t16_1.toNat).Object)) ⟨⟨⟨h14, h15⟩, h16⟩, h17⟩) rfl (PureD.opD (u_fa rfl rfl Try.underlying27 rfl in_3 (Nat.succ_ne_zero _) rfl rfl (ne_of_lt (n := 0) (Nat.lt_of_lt_of_eq (by decide) (Eq.symm (GGrant.len (lrd l0 t16_1.toNat))))))) ?_
                            refine r_on rfl rfl rfl rfl (decide_eq_true (p := ((((lrd good3_0 t37_2.toNat) = (1 : Int)) ∧ (((lrd l0 t37_2.toNat).Option) = true)) ∧ ((lrd l0 t37_2.toNat).To = (lrd l0 t16_1.toNat).From)) ∧ ((lrd l0 t37_2.toNat).Object = (lrd l0 t16_1.toNat).Object)) ⟨⟨⟨h14, h15⟩, h16⟩, h17⟩) rfl (PureD.opD (u_ld rfl rfl Try.underlying3 rfl rfl ((Sub.refl _).trans (GGrant.sub3 (lrd l0 t16_1.toNat))))) ?_
                            refine r_on rfl rfl rfl rfl (decide_eq_true (p := ((((lrd good3_0 t37_2.toNat) = (1 : Int)) ∧ (((lrd l0 t37_2.toNat).Option) = true)) ∧ ((lrd l0 t37_2.toNat).To = (lrd l0 t16_1.toNat).From)) ∧ ((lrd l0 t37_2.toNat).Object = (lrd l0 t16_1.toNat).Object)) ⟨⟨⟨h14, h15⟩, h16⟩, h17⟩) rfl (PureD.opD (p_ieq rfl rfl rfl)) ?_
                            refine r_op rfl rfl (PureD.opD (p_pkt rfl rfl (decide_eq_true (p := ((((lrd good3_0 t37_2.toNat) = (1 : Int)) ∧ (((lrd l0 t37_2.toNat).Option) = true)) ∧ ((lrd l0 t37_2.toNat).To = (lrd l0 t16_1.toNat).From)) ∧ ((lrd l0 t37_2.toNat).Object = (lrd l0 t16_1.toNat).Object)) ⟨⟨⟨h14, h15⟩, h16⟩, h17⟩) (tb ((and_l (p := ((((lrd good3_0 t37_2.toNat) = (1 : Int)) ∧ (((lrd l0 t37_2.toNat).Option) = true)) ∧ ((lrd l0 t37_2.toNat).To = (lrd l0 t16_1.toNat).From)) ∧ ((lrd l0 t37_2.toNat).Object = (lrd l0 t16_1.toNat).Object)) (q := (lrd l0 t37_2.toNat).Right = (lrd l0 t16_1.toNat).Right) ⟨⟨⟨h14, h15⟩, h16⟩, h17⟩))))) ?_
                            refine RunW_st [(0, .c (.p ((fun q : List GGrant => AV.lst (q.flatMap GGrant.cs) q.length) l0))), (3, .c (.own 3 good3_0.length 1)), (4, .c (.p (AV.int t16_1))), (5, .c (.ptr 5 (0))), (14, .c (.p ((fun q : List GGrant => AV.lst (q.flatMap GGrant.cs) q.length) l0))), (15, .c (.p (AV.int (l0.length : Int)))), (16, .c (.p (AV.int t16_1))), (35, .c (.p ((fun q : List GGrant => AV.lst (q.flatMap GGrant.cs) q.length) l0))), (36, .c (.p (AV.int (l0.length : Int)))), (37, .c (.p (AV.int t37_2))), (71, .c (.p (.bool (decide ((((((lrd good3_0 t37_2.toNat) = (1 : Int)) ∧ (((lrd l0 t37_2.toNat).Option) = true)) ∧ ((lrd l0 t37_2.toNat).To = (lrd l0 t16_1.toNat).From)) ∧ ((lrd l0 t37_2.toNat).Object = (lrd l0 t16_1.toNat).Object)) ∧ ((lrd l0 t37_2.toNat).Right = (lrd l0 t16_1.toNat).Right))))))] [(3, .pure (good3_0.map AV.int)), (5, .pure (GGrant.cs (lrd l0 t16_1.toNat)))] rfl ⟨TLes.same _, TLes.same _, TLes.same _, TLes.same _, TLes.same _, TLes.same _, TLes.same _, TLes.same _, TLes.same _, TLes.same _, TLes.same _, trivial⟩ ⟨rfl, rfl, trivial⟩ ?_
                            exact RunW_nil rfl
                          · refine r_off rfl rfl rfl rfl (decide_eq_false (p := ((((lrd good3_0 t37_2.toNat) = (1 : Int)) ∧ (((lrd l0 t37_2.toNat).Option) = true)) ∧ ((lrd l0 t37_2.toNat).To = (lrd l0 t16_1.toNat).From)) ∧ ((lrd l0 t37_2.toNat).Object = (lrd l0 t16_1.toNat).Object)) (fun h => h17 h.2)) rfl rfl ?_
                            refine r_off rfl rfl rfl rfl (decide_eq_false (p := ((((lrd good3_0 t37_2.toNat) = (1 : Int)) ∧ (((lrd l0 t37_2.toNat).Option) = true)) ∧ ((lrd l0 t37_2.toNat).To = (lrd l0 t16_1.toNat).From)) ∧ ((lrd l0 t37_2.toNat).Object = (lrd l0 t16_1.toNat).Object)) (fun h => h17 h.2)) rfl rfl ?_
                            refine r_off rfl rfl rfl rfl (decide_eq_false (p := ((((lrd good3_0 t37_2.toNat) = (1 : Int)) ∧ (((lrd l0 t37_2.toNat).Option) = true)) ∧ ((lrd l0 t37_2.toNat).To = (lrd l0 t16_1.toNat).From)) ∧ ((lrd l0 t37_2.toNat).Object = (lrd l0 t16_1.toNat).Object)) (fun h => h17 h.2)) rfl rfl ?_
                            refine r_off rfl rfl rfl rfl (decide_eq_false (p := ((((lrd good3_0 t37_2.toNat) = (1 : Int)) ∧ (((lrd l0 t37_2.toNat).Option) = true)) ∧ ((lrd l0 t37_2.toNat).To = (lrd l0 t16_1.toNat).From)) ∧ ((lrd l0 t37_2.toNat).Object = (lrd l0 t16_1.toNat).Object)) (fun h => h17 h.2)) rfl rfl ?_
                            refine r_off rfl rfl rfl rfl (decide_eq_false (p := ((((lrd good3_0 t37_2.toNat) = (1 : Int)) ∧ (((lrd l0 t37_2.toNat).Option) = true)) ∧ ((lrd l0 t37_2.toNat).To = (lrd l0 t16_1.toNat).From)) ∧ ((lrd l0 t37_2.toNat).Object = (lrd l0 t16_1.toNat).Object)) (fun h => h17 h.2)) rfl rfl ?_
                            refine r_op rfl rfl (PureD.opD (p_pkf rfl rfl (decide_eq_false (p := ((((lrd good3_0 t37_2.toNat) = (1 : Int)) ∧ (((lrd l0 t37_2.toNat).Option) = true)) ∧ ((lrd l0 t37_2.toNat).To = (lrd l0 t16_1.toNat).From)) ∧ ((lrd l0 t37_2.toNat).Object = (lrd l0 t16_1.toNat).Object)) (fun h => h17 h.2)) (tb (decide_eq_false (p := (((((lrd good3_0 t37_2.toNat) = (1 : Int)) ∧ (((lrd l0 t37_2.toNat).Option) = true)) ∧ ((lrd l0 t37_2.toNat).To = (lrd l0 t16_1.toNat).From)) ∧ ((lrd l0 t37_2.toNat).Object = (lrd l0 t16_1.toNat).Object)) ∧ ((lrd l0 t37_2.toNat).Right = (lrd l0 t16_1.toNat).Right)) (fun x => (fun h => h17 h.2) x.1)).symm))) ?_
                            refine RunW_st [(0, .c (.p ((fun q : List GGrant => AV.lst (q.flatMap GGrant.cs) q.length) l0))), (3, .c (.own 3 good3_0.length 1)), (4, .c (.p (AV.int t16_1))), (5, .c (.ptr 5 (0))), (14, .c (.p ((fun q : List GGrant => AV.lst (q.flatMap GGrant.cs) q.length) l0))), (15, .c (.p (AV.int (l0.length : Int)))), (16, .c (.p (AV.int t16_1))), (35, .c (.p ((fun q : List GGrant => AV.lst (q.flatMap GGrant.cs) q.length) l0))), (36, .c (.p (AV.int (l0.length : Int)))), (37, .c (.p (AV.int t37_2))), (71, .c (.p (.bool (decide ((((((lrd good3_0 t37_2.toNat) = (1 : Int)) ∧ (((lrd l0 t37_2.toNat).Option) = true)) ∧ ((lrd l0 t37_2.toNat).To = (lrd l0 t16_1.toNat).From)) ∧ ((lrd l0 t37_2.toNat).Object = (lrd l0 t16_1.toNat).Object)) ∧ ((lrd l0 t37_2.toNat).Right = (lrd l0 t16_1.toNat).Right))))))] [(3, .pure (good3_0.map AV.int)), (5, .pure (GGrant.cs (lrd l0 t16_1.toNat)))] rfl ⟨TLes.same _, TLes.same _, TLes.same _, TLes.same _, TLes.same _, TLes.same _, TLes.same _, TLes.same _, TLes.same _, TLes.same _, TLes.same _, trivial⟩ ⟨rfl, rfl, trivial⟩ ?_
                            exact RunW_nil rfl
                        · refine r_off rfl rfl rfl rfl (decide_eq_false (p := (((lrd good3_0 t37_2.toNat) = (1 : Int)) ∧ (((lrd l0 t37_2.toNat).Option) = true)) ∧ ((lrd l0 t37_2.toNat).To = (lrd l0 t16_1.toNat).From)) (fun h => h16 h.2)) rfl rfl ?_
                          refine r_off rfl rfl rfl rfl (decide_eq_false (p := (((lrd good3_0 t37_2.toNat) = (1 : Int)) ∧ (((lrd l0 t37_2.toNat).Option) = true)) ∧ ((lrd l0 t37_2.toNat).To = (lrd l0 t16_1.toNat).From)) (fun h => h16 h.2)) rfl rfl ?_
                          refine r_off rfl rfl rfl rfl (decide_eq_false (p := (((lrd good3_0 t37_2.toNat) = (1 : Int)) ∧ (((lrd l0 t37_2.toNat).Option) = true)) ∧ ((lrd l0 t37_2.toNat).To = (lrd l0 t16_1.toNat).From)) (fun h => h16 h.2)) rfl rfl ?_
                          refine r_off rfl rfl rfl rfl (decide_eq_false (p := (((lrd good3_0 t37_2.toNat) = (1 : Int)) ∧ (((lrd l0 t37_2.toNat).Option) = true)) ∧ ((lrd l0 t37_2.toNat).To = (lrd l0 t16_1.toNat).From)) (fun h => h16 h.2)) rfl rfl ?_
                          refine r_off rfl rfl rfl rfl (decide_eq_false (p := (((lrd good3_0 t37_2.toNat) = (1 : Int)) ∧ (((lrd l0 t37_2.toNat).Option) = true)) ∧ ((lrd l0 t37_2.toNat).To = (lrd l0 t16_1.toNat).From)) (fun h => h16 h.2)) rfl rfl ?_
                          refine r_op rfl rfl (PureD.opD (p_pkf rfl rfl (decide_eq_false (p := (((lrd good3_0 t37_2.toNat) = (1 : Int)) ∧ (((lrd l0 t37_2.toNat).Option) = true)) ∧ ((lrd l0 t37_2.toNat).To = (lrd l0 t16_1.toNat).From)) (fun h => h16 h.2)) (tb (decide_eq_false (p := ((((lrd good3_0 t37_2.toNat) = (1 : Int)) ∧ (((lrd l0 t37_2.toNat).Option) = true)) ∧ ((lrd l0 t37_2.toNat).To = (lrd l0 t16_1.toNat).From)) ∧ ((lrd l0 t37_2.toNat).Object = (lrd l0 t16_1.toNat).Object)) (fun x => (fun h => h16 h.2) x.1)).symm))) ?_
                          refine r_op rfl rfl (PureD.opD (p_move rfl rfl)) ?_
                          refine r_off rfl rfl rfl rfl (decide_eq_false (p := ((((lrd good3_0 t37_2.toNat) = (1 : Int)) ∧ (((lrd l0 t37_2.toNat).Option) = true)) ∧ ((lrd l0 t37_2.toNat).To = (lrd l0 t16_1.toNat).From)) ∧ ((lrd l0 t37_2.toNat).Object = (lrd l0 t16_1.toNat).Object)) (fun h => (fun h => h16 h.2) h.1)) rfl rfl ?_
                          refine r_off rfl rfl rfl rfl (decide_eq_false (p := ((((lrd good3_0 t37_2.toNat) = (1 : Int)) ∧ (((lrd l0 t37_2.toNat).Option) = true)) ∧ ((lrd l0 t37_2.toNat).To = (lrd l0 t16_1.toNat).From)) ∧ ((lrd l0 t37_2.toNat).Object = (lrd l0 t16_1.toNat).Object)) (fun h => (fun h => h16 h.2) h.1)) rfl rfl ?_
                          refine r_off rfl rfl rfl rfl (decide_eq_false (p := ((((lrd good3_0 t37_2.toNat) = (1 : Int)) ∧ (((lrd l0 t37_2.toNat).Option) = true)) ∧ ((lrd l0 t37_2.toNat).To = (lrd l0 t16_1.toNat).From)) ∧ ((lrd l0 t37_2.toNat).Object = (lrd l0 t16_1.toNat).Object)) (fun h => (fun h => h16 h.2) h.1)) rfl rfl ?_
                          refine r_off rfl rfl rfl rfl (decide_eq_false (p := ((((lrd good3_0 t37_2.toNat) = (1 : Int)) ∧ (((lrd l0 t37_2.toNat).Option) = true)) ∧ ((lrd l0 t37_2.toNat).To = (lrd l0 t16_1.toNat).From)) ∧ ((lrd l0 t37_2.toNat).Object = (lrd l0 t16_1.toNat).Object)) (fun h => (fun h => h16 h.2) h.1)) rfl rfl ?_
                          refine r_off rfl rfl rfl rfl (decide_eq_false (p := ((((lrd good3_0 t37_2.toNat) = (1 : Int)) ∧ (((lrd l0 t37_2.toNat).Option) = true)) ∧ ((lrd l0 t37_2.toNat).To = (lrd l0 t16_1.toNat).From)) ∧ ((lrd l0 t37_2.toNat).Object = (lrd l0 t16_1.toNat).Object)) (fun h => (fun h => h16 h.2) h.1)) rfl rfl ?_
                          refine r_op rfl rfl (PureD.opD (p_pkf rfl rfl (decide_eq_false (p := ((((lrd good3_0 t37_2.toNat) = (1 : Int)) ∧ (((lrd l0 t37_2.toNat).Option) = true)) ∧ ((lrd l0 t37_2.toNat).To = (lrd l0 t16_1.toNat).From)) ∧ ((lrd l0 t37_2.toNat).Object = (lrd l0 t16_1.toNat).Object)) (fun h => (fun h => h16 h.2) h.1)) (tb (decide_eq_false (p := (((((lrd good3_0 t37_2.toNat) = (1 : Int)) ∧ (((lrd l0 t37_2.toNat).Option) = true)) ∧ ((lrd l0 t37_2.toNat).To = (lrd l0 t16_1.toNat).From)) ∧ ((lrd l0 t37_2.toNat).Object = (lrd l0 t16_1.toNat).Object)) ∧ ((lrd l0 t37_2.toNat).Right = (lrd l0 t16_1.toNat).Right)) (fun x => (fun h => (fun h => h16 h.2) h.1) x.1)).symm))) ?_
                          refine RunW_st [(0, .c (.p ((fun q : List GGrant => AV.lst (q.flatMap GGrant.cs) q.length) l0))), (3, .c (.own 3 good3_0.length 1)), (4, .c (.p (AV.int t16_1))), (5, .c (.ptr 5 (0))), (14, .c (.p ((fun q : List GGrant => AV.lst (q.flatMap GGrant.cs) q.length) l0))), (15, .c (.p (AV.int (l0.length : Int)))), (16, .c (.p (AV.int t16_1))), (35, .c (.p ((fun q : List GGrant => AV.lst (q.flatMap GGrant.cs) q.length) l0))), (36, .c (.p (AV.int (l0.length : Int)))), (37, .c (.p (AV.int t37_2))), (71, .c (.p (.bool (decide ((((((lrd good3_0 t37_2.toNat) = (1 : Int)) ∧ (((lrd l0 t37_2.toNat).Option) = true)) ∧ ((lrd l0 t37_2.toNat).To = (lrd l0 t16_1.toNat).From)) ∧ ((lrd l0 t37_2.toNat).Object = (lrd l0 t16_1.toNat).Object)) ∧ ((lrd l0 t37_2.toNat).Right = (lrd l0 t16_1.toNat).Right))))))] [(3, .pure (good3_0.map AV.int)), (5, .pure (GGrant.cs (lrd l0 t16_1.toNat)))] rfl ⟨TLes.same _, TLes.same _, TLes.same _, TLes.same _, TLes.same _, TLes.same _, TLes.same _, TLes.same _, TLes.same _, TLes.same _, TLes.same _, trivial⟩ ⟨rfl, rfl, trivial⟩ ?_
                          exact RunW_nil rfl
                      · refine r_off rfl rfl rfl rfl (decide_eq_false (p := ((lrd good3_0 t37_2.toNat) = (1 : Int)) ∧ (((lrd l0 t37_2.toNat).Option) = true)) (fun h => h15 h.2)) rfl rfl ?_
                        refine r_off rfl rfl rfl rfl (decide_eq_false (p := ((lrd good3_0 t37_2.toNat) = (1 : Int)) ∧ (((lrd l0 t37_2.toNat).Option) = true)) (fun h => h15 h.2)) rfl rfl ?_
                        refine r_off rfl rfl rfl rfl (decide_eq_false (p := ((lrd good3_0 t37_2.toNat) = (1 : Int)) ∧ (((lrd l0 t37_2.toNat).Option) = true)) (fun h => h15 h.2)) rfl rfl ?_
                        refine r_off rfl rfl rfl rfl (decide_eq_false (p := ((lrd good3_0 t37_2.toNat) = (1 : Int)) ∧ (((lrd l0 t37_2.toNat).Option) = true)) (fun h => h15 h.2)) rfl rfl ?_
                        refine r_off rfl rfl rfl rfl (decide_eq_false (p := ((lrd good3_0 t37_2.toNat) = (1 : Int)) ∧ (((lrd l0 t37_2.toNat).Option) = true)) (fun h => h15 h.2)) rfl rfl ?_
                        refine r_op rfl rfl (PureD.opD (p_pkf rfl rfl (decide_eq_false (p := ((lrd good3_0 t37_2.toNat) = (1 : Int)) ∧ (((lrd l0 t37_2.toNat).Option) = true)) (fun h => h15 h.2)) (tb (decide_eq_false (p := (((lrd good3_0 t37_2.toNat) = (1 : Int)) ∧ (((lrd l0 t37_2.toNat).Option) = true)) ∧ ((lrd l0 t37_2.toNat).To = (lrd l0 t16_1.toNat).From)) (fun x => (fun h => h15 h.2) x.1)).symm))) ?_
                        refine r_op rfl rfl (PureD.opD (p_move rfl rfl)) ?_
                        refine r_off rfl rfl rfl rfl (decide_eq_false (p := (((lrd good3_0 t37_2.toNat) = (1 : Int)) ∧ (((lrd l0 t37_2.toNat).Option) = true)) ∧ ((lrd l0 t37_2.toNat).To = (lrd l0 t16_1.toNat).From)) (fun h => (fun h => h15 h.2) h.1)) rfl rfl ?_
                        refine r_off rfl rfl rfl rfl (decide_eq_false (p := (((lrd good3_0 t37_2.toNat) = (1 : Int)) ∧ (((lrd l0 t37_2.toNat).Option) = true)) ∧ ((lrd l0 t37_2.toNat).To = (lrd l0 t16_1.toNat).From)) (fun h => (fun h => h15 h.2) h.1)) rfl rfl ?_
                        refine r_off rfl rfl rfl rfl (decide_eq_false (p := (((lrd good3_0 t37_2.toNat) = (1 : Int)) ∧ (((lrd l0 t37_2.toNat).Option) = true)) ∧ ((lrd l0 t37_2.toNat).To = (lrd l0 t16_1.toNat).From)) (fun h => (fun h => h15 h.2) h.1)) rfl rfl ?_
                        refine r_off rfl rfl rfl rfl (decide_eq_false (p := (((lrd good3_0 t37_2.toNat) = (1 : Int)) ∧ (((lrd l0 t37_2.toNat).Option) = true)) ∧ ((lrd l0 t37_2.toNat).To = (lrd l0 t16_1.toNat).From)) (fun h => (fun h => h15 h.2) h.1)) rfl rfl ?_
                        refine r_off rfl rfl rfl rfl (decide_eq_false (p := (((lrd good3_0 t37_2.toNat) = (1 : Int)) ∧ (((lrd l0 t37_2.toNat).Option) = true)) ∧ ((lrd l0 t37_2.toNat).To = (lrd l0 t16_1.toNat).From)) (fun h => (fun h => h15 h.2) h.1)) rfl rfl ?_
                        refine r_op rfl rfl (PureD.opD (p_pkf rfl rfl (decide_eq_false (p := (((lrd good3_0 t37_2.toNat) = (1 : Int)) ∧ (((lrd l0 t37_2.toNat).Option) = true)) ∧ ((lrd l0 t37_2.toNat).To = (lrd l0 t16_1.toNat).From)) (fun h => (fun h => h15 h.2) h.1)) (tb (decide_eq_false (p := ((((lrd good3_0 t37_2.toNat) = (1 : Int)) ∧ (((lrd l0 t37_2.toNat).Option) = true)) ∧ ((lrd l0 t37_2.toNat).To = (lrd l0 t16_1.toNat).From)) ∧ ((lrd l0 t37_2.toNat).Object = (lrd l0 t16_1.toNat).Object)) (fun x => (fun h => (fun h => h15 h.2) h.1) x.1)).symm))) ?_
                        refine r_op rfl rfl (PureD.opD (p_move rfl rfl)) ?_
                        refine r_off rfl rfl rfl rfl (decide_eq_false (p := ((((lrd good3_0 t37_2.toNat) = (1 : Int)) ∧ (((lrd l0 t37_2.toNat).Option) = true)) ∧ ((lrd l0 t37_2.toNat).To = (lrd l0 t16_1.toNat).From)) ∧ ((lrd l0 t37_2.toNat).Object = (lrd l0 t16_1.toNat).Object)) (fun h => (fun h => (fun h => h15 h.2) h.1) h.1)) rfl rfl ?_
                        refine r_off rfl rfl rfl rfl (decide_eq_false (p := ((((lrd good3_0 t37_2.toNat) = (1 : Int)) ∧ (((lrd l0 t37_2.toNat).Option) = true)) ∧ ((lrd l0 t37_2.toNat).To = (lrd l0 t16_1.toNat).From)) ∧ ((lrd l0 t37_2.toNat).Object = (lrd l0 t16_1.toNat).Object)) (fun h => (fun h => (fun h => h15 h.2) h.1) h.1)) rfl rfl ?_
                        refine r_off rfl rfl rfl rfl (decide_eq_false (p := ((((lrd good3_0 t37_2.toNat) = (1 : Int)) ∧ (((lrd l0 t37_2.toNat).Option) = true)) ∧ ((lrd l0 t37_2.toNat).To = (lrd l0 t16_1.toNat).From)) ∧ ((lrd l0 t37_2.toNat).Object = (lrd l0 t16_1.toNat).Object)) (fun h => (fun h => (fun h => h15 h.2) h.1) h.1)) rfl rfl ?_
                        refine r_off rfl rfl rfl rfl (decide_eq_false (p := ((((lrd good3_0 t37_2.toNat) = (1 : Int)) ∧ (((lrd l0 t37_2.toNat).Option) = true)) ∧ ((lrd l0 t37_2.toNat).To = (lrd l0 t16_1.toNat).From)) ∧ ((lrd l0 t37_2.toNat).Object = (lrd l0 t16_1.toNat).Object)) (fun h => (fun h => (fun h => h15 h.2) h.1) h.1)) rfl rfl ?_
                        refine r_off rfl rfl rfl rfl (decide_eq_false (p := ((((lrd good3_0 t37_2.toNat) = (1 : Int)) ∧ (((lrd l0 t37_2.toNat).Option) = true)) ∧ ((lrd l0 t37_2.toNat).To = (lrd l0 t16_1.toNat).From)) ∧ ((lrd l0 t37_2.toNat).Object = (lrd l0 t16_1.toNat).Object)) (fun h => (fun h => (fun h => h15 h.2) h.1) h.1)) rfl rfl ?_
                        refine r_op rfl rfl (PureD.opD (p_pkf rfl rfl (decide_eq_false (p := ((((lrd good3_0 t37_2.toNat) = (1 : Int)) ∧ (((lrd l0 t37_2.toNat).Option) = true)) ∧ ((lrd l0 t37_2.toNat).To = (lrd l0 t16_1.toNat).From)) ∧ ((lrd l0 t37_2.toNat).Object = (lrd l0 t16_1.toNat).Object)) (fun h => (fun h => (fun h => h15 h.2) h.1) h.1)) (tb (decide_eq_false (p := (((((lrd good3_0 t37_2.toNat) = (1 : Int)) ∧ (((lrd l0 t37_2.toNat).Option) = true)) ∧ ((lrd l0 t37_2.toNat).To = (lrd l0 t16_1.toNat).From)) ∧ ((lrd l0 t37_2.toNat).Object = (lrd l0 t16_1.toNat).Object)) ∧ ((lrd l0 t37_2.toNat).Right = (lrd l0 t16_1.toNat).Right)) (fun x => (fun h => (fun h => (fun h => h15 h.2) h.1) h.1) x.1)).symm))) ?_
                        refine RunW_st [(0, .c (.p ((fun q : List GGrant => AV.lst (q.flatMap GGrant.cs) q.length) l0))), (3, .c (.own 3 good3_0.length 1)), (4, .c (.p (AV.int t16_1))), (5, .c (.ptr 5 (0))), (14, .c (.p ((fun q : List GGrant => AV.lst (q.flatMap GGrant.cs) q.length) l0))), (15, .c (.p (AV.int (l0.length : Int)))), (16, .c (.p (AV.int t16_1))), (35, .c (.p ((fun q : List GGrant => AV.lst (q.flatMap GGrant.cs) q.length) l0))), (36, .c (.p (AV.int (l0.length : Int)))), (37, .c (.p (AV.int t37_2))), (71, .c (.p (.bool (decide ((((((lrd good3_0 t37_2.toNat) = (1 : Int)) ∧ (((lrd l0 t37_2.toNat).Option) = true)) ∧ ((lrd l0 t37_2.toNat).To = (lrd l0 t16_1.toNat).From)) ∧ ((lrd l0 t37_2.toNat).Object = (lrd l0 t16_1.toNat).Object)) ∧ ((lrd l0 t37_2.toNat).Right = (lrd l0 t16_1.toNat).Right))))))] [(3, .pure (good3_0.map AV.int)), (5, .pure (GGrant.cs (lrd l0 t16_1.toNat)))] rfl ⟨TLes.same _, TLes.same _, TLes.same _, TLes.same _, TLes.same _, TLes.same _, TLes.same _, TLes.same _, TLes.same _, TLes.same _, TLes.same _, trivial⟩ ⟨rfl, rfl, trivial⟩ ?_
                        exact RunW_nil rfl
                    · refine r_off rfl rfl rfl rfl (decide_eq_false (p := (lrd good3_0 t37_2.toNat) = (1 : Int)) h14) rfl rfl ?_
                      refine r_off rfl rfl rfl rfl (decide_eq_false (p := (lrd good3_0 t37_2.toNat) = (1 : Int)) h14) rfl rfl ?_
                      refine r_op rfl rfl (PureD.opD (p_pkf rfl rfl (decide_eq_false (p := (lrd good3_0 t37_2.toNat) = (1 : Int)) h14) (tb (decide_eq_false (p := ((lrd good3_0 t37_2.toNat) = (1 : Int)) ∧ (((lrd l0 t37_2.toNat).Option) = true)) (fun x => h14 x.1)).symm))) ?_
                      refine r_op rfl rfl (PureD.opD (p_move rfl rfl)) ?_
                      refine r_off rfl rfl rfl rfl (decide_eq_false (p := ((lrd good3_0 t37_2.toNat) = (1 : Int)) ∧ (((lrd l0 t37_2.toNat).Option) = true)) (fun h => h14 h.1)) rfl rfl ?_
                      refine r_off rfl rfl rfl rfl (decide_eq_false (p := ((lrd good3_0 t37_2.toNat) = (1 : Int)) ∧ (((lrd l0 t37_2.toNat).Option) = true)) (fun h => h14 h.1)) rfl rfl ?_
                      refine r_off rfl rfl rfl rfl (decide_eq_false (p := ((lrd good3_0 t37_2.toNat) = (1 : Int)) ∧ (((lrd l0 t37_2.toNat).Option) = true)) (fun h => h14 h.1)) rfl rfl ?_
                      refine r_off rfl rfl rfl rfl (decide_eq_false (p := ((lrd good3_0 t37_2.toNat) = (1 : Int)) ∧ (((lrd l0 t37_2.toNat).Option) = true)) (fun h => h14 h.1)) rfl rfl ?_
                      refine r_off rfl rfl rfl rfl (decide_eq_false (p := ((lrd good3_0 t37_2.toNat) = (1 : Int)) ∧ (((lrd l0 t37_2.toNat).Option) = true)) (fun h => h14 h.1)) rfl rfl ?_
                      refine r_op rfl rfl (PureD.opD (p_pkf rfl rfl (decide_eq_false (p := ((lrd good3_0 t37_2.toNat) = (1 : Int)) ∧ (((lrd l0 t37_2.toNat).Option) = true)) (fun h => h14 h.1)) (tb (decide_eq_false (p := (((lrd good3_0 t37_2.toNat) = (1 : Int)) ∧ (((lrd l0 t37_2.toNat).Option) = true)) ∧ ((lrd l0 t37_2.toNat).To = (lrd l0 t16_1.toNat).From)) (fun x => (fun h => h14 h.1) x.1)).symm))) ?_
                      refine r_op rfl rfl (PureD.opD (p_move rfl rfl)) ?_
                      refine r_off rfl rfl rfl rfl (decide_eq_false (p := (((lrd good3_0 t37_2.toNat) = (1 : Int)) ∧ (((lrd l0 t37_2.toNat).Option) = true)) ∧ ((lrd l0 t37_2.toNat).To = (lrd l0 t16_1.toNat).From)) (fun h => (fun h => h14 h.1) h.1)) rfl rfl ?_
                      refine r_off rfl rfl rfl rfl (decide_eq_false (p := (((lrd good3_0 t37_2.toNat) = (1 : Int)) ∧ (((lrd l0 t37_2.toNat).Option) = true)) ∧ ((lrd l0 t37_2.toNat).To = (lrd l0 t16_1.toNat).From)) (fun h => (fun h => h14 h.1) h.1)) rfl rfl ?_
                      refine r_off rfl rfl rfl rfl (decide_eq_false (p := (((lrd good3_0 t37_2.toNat) = (1 : Int)) ∧ (((lrd l0 t37_2.toNat).Option) = true)) ∧ ((lrd l0 t37_2.toNat).To = (lrd l0 t16_1.toNat).From)) (fun h => (fun h => h14 h.1) h.1)) rfl rfl ?_
                      refine r_off rfl rfl rfl rfl (decide_eq_false (p := (((lrd good3_0 t37_2.toNat) = (1 : Int)) ∧ (((lrd l0 t37_2.toNat).Option) = true)) ∧ ((lrd l0 t37_2.toNat).To = (lrd l0 t16_1.toNat).From)) (fun h => (fun h => h14 h.1) h.1)) rfl rfl ?_
                      refine r_off rfl rfl rfl rfl (decide_eq_false (p := (((lrd good3_0 t37_2.toNat) = (1 : Int)) ∧ (((lrd l0 t37_2.toNat).Option) = true)) ∧ ((lrd l0 t37_2.toNat).To = (lrd l0 t16_1.toNat).From)) (fun h => (fun h => h14 h.1) h.1)) rfl rfl ?_
                      refine r_op rfl rfl (PureD.opD (p_pkf rfl rfl (decide_eq_false (p := (((lrd good3_0 t37_2.toNat) = (1 : Int)) ∧ (((lrd l0 t37_2.toNat).Option) = true)) ∧ ((lrd l0 t37_2.toNat).To = (lrd l0 t16_1.toNat).From)) (fun h => (fun h => h14 h.1) h.1)) (tb (decide_eq_false (p := ((((lrd good3_0 t37_2.toNat) = (1 : Int)) ∧ (((lrd l0 t37_2.toNat).Option) = true)) ∧ ((lrd l0 t37_2.toNat).To = (lrd l0 t16_1.toNat).From)) ∧ ((lrd l0 t37_2.toNat).Object = (lrd l0 t16_1.toNat).Object)) (fun x => (fun h => (fun h => h14 h.1) h.1) x.1)).symm))) ?_
                      refine r_op rfl rfl (PureD.opD (p_move rfl rfl)) ?_
                      refine r_off rfl rfl rfl rfl (decide_eq_false (p := ((((lrd good3_0 t37_2.toNat) = (1 : Int)) ∧ (((lrd l0 t37_2.toNat).Option) = true)) ∧ ((lrd l0 t37_2.toNat).To = (lrd l0 t16_1.toNat).From)) ∧ ((lrd l0 t37_2.toNat).Object = (lrd l0 t16_1.toNat).Object)) (fun h => (fun h => (fun h => h14 h.1) h.1) h.1)) rfl rfl ?_
                      refine r_off rfl rfl rfl rfl (decide_eq_false (p := ((((lrd good3_0 t37_2.toNat) = (1 : Int)) ∧ (((lrd l0 t37_2.toNat).Option) = true)) ∧ ((lrd l0 t37_2.toNat).To = (lrd l0 t16_1.toNat).From)) ∧ ((lrd l0 t37_2.toNat).Object = (lrd l0 t16_1.toNat).Object)) (fun h => (fun h => (fun h => h14 h.1) h.1) h.1)) rfl rfl ?_
                      refine r_off rfl rfl rfl rfl (decide_eq_false (p := ((((lrd good3_0 t37_2.toNat) = (1 : Int)) ∧ (((lrd l0 t37_2.toNat).Option) = true)) ∧ ((lrd l0 t37_2.toNat).To = (lrd l0 t16_1.toNat).From)) ∧ ((lrd l0 t37_2.toNat).Object = (lrd l0 t16_1.toNat).Object)) (fun h => (fun h => (fun h => h14 h.1) h.1) h.1)) rfl rfl ?_
                      refine r_off rfl rfl rfl rfl (decide_eq_false (p := ((((lrd good3_0 t37_2.toNat) = (1 : Int)) ∧ (((lrd l0 t37_2.toNat).Option) = true)) ∧ ((lrd l0 t37_2.toNat).To = (lrd l0 t16_1.toNat).From)) ∧ ((lrd l0 t37_2.toNat).Object = (lrd l0 t16_1.toNat).Object)) (fun h => (fun h => (fun h => h14 h.1) h.1) h.1)) rfl rfl ?_
                      refine r_off rfl rfl rfl rfl (decide_eq_false (p := ((((lrd good3_0 t37_2.toNat) = (1 : Int)) ∧ (((lrd l0 t37_2.toNat).Option) = true)) ∧ ((lrd l0 t37_2.toNat).To = (lrd l0 t16_1.toNat).From)) ∧ ((lrd l0 t37_2.toNat).Object = (lrd l0 t16_1.toNat).Object)) (fun h => (fun h => (fun h => h14 h.1) h.1) h.1)) rfl rfl ?_
                      refine r_op rfl rfl (PureD.opD (p_pkf rfl rfl (decide_eq_false (p := ((((lrd good3_0 t37_2.toNat) = (1 : Int)) ∧ (((lrd l0 t37_2.toNat).Option) = true)) ∧ ((lrd l0 t37_2.toNat).To = (lrd l0 t16_1.toNat).From)) ∧ ((lrd l0 t37_2.toNat).Object = (lrd l0 t16_1.toNat).Object)) (fun h => (fun h => (fun h => h14 h.1) h.1) h.1)) (tb (decide_eq_false (p := (((((lrd good3_0 t37_2.toNat) = (1 : Int)) ∧ (((lrd l0 t37_2.toNat).Option) = true)) ∧ ((lrd l0 t37_2.toNat).To = (lrd l0 t16_1.toNat).From)) ∧ ((lrd l0 t37_2.toNat).Object = (lrd l0 t16_1.toNat).Object)) ∧ ((lrd l0 t37_2.toNat).Right = (lrd l0 t16_1.toNat).Right)) (fun x => (fun h => (fun h => (fun h => h14 h.1) h.1) h.1) x.1)).symm))) ?_
                      refine RunW_st [(0, .c (.p ((fun q : List GGrant => AV.lst (q.flatMap GGrant.cs) q.length) l0))), (3, .c (.own 3 good3_0.length 1)), (4, .c (.p (AV.int t16_1))), (5, .c (.ptr 5 (0))), (14, .c (.p ((fun q : List GGrant => AV.lst (q.flatMap GGrant.cs) q.length) l0))), (15, .c (.p (AV.int (l0.length : Int)))), (16, .c (.p (AV.int t16_1))), (35, .c (.p ((fun q : List GGrant => AV.lst (q.flatMap GGrant.cs) q.length) l0))), (36, .c (.p (AV.int (l0.length : Int)))), (37, .c (.p (AV.int t37_2))), (71, .c (.p (.bool (decide ((((((lrd good3_0 t37_2.toNat) = (1 : Int)) ∧ (((lrd l0 t37_2.toNat).Option) = true)) ∧ ((lrd l0 t37_2.toNat).To = (lrd l0 t16_1.toNat).From)) ∧ ((lrd l0 t37_2.toNat).Object = (lrd l0 t16_1.toNat).Object)) ∧ ((lrd l0 t37_2.toNat).Right = (lrd l0 t16_1.toNat).Right))))))] [(3, .pure (good3_0.map AV.int)), (5, .pure (GGrant.cs (lrd l0 t16_1.toNat)))] rfl ⟨TLes.same _, TLes.same _, TLes.same _, TLes.same _, TLes.same _, TLes.same _, TLes.same _, TLes.same _, TLes.same _, TLes.same _, TLes.same _, trivial⟩ ⟨rfl, rfl, trivial⟩ ?_
                      exact RunW_nil rfl
                  · refine gen1 (fun t71'4 => (⟨[(0, .c (.p ((fun q : List GGrant => AV.lst (q.flatMap GGrant.cs) q.length) l0))), (3, .c (.own 3 good3_0.length 1)), (4, .c (.p (AV.int t16_1))), (5, .c (.ptr 5 (0))), (14, .c (.p ((fun q : List GGrant => AV.lst (q.flatMap GGrant.cs) q.length) l0))), (15, .c (.p (AV.int (l0.length : Int)))), (16, .c (.p (AV.int t16_1))), (35, .c (.p ((fun q : List GGrant => AV.lst (q.flatMap GGrant.cs) q.length) l0))), (36, .c (.p (AV.int (l0.length : Int)))), (37, .c (.p (AV.int t37_2))), (71, .c (.p (AV.bool t71'4)))], [(3, .pure (good3_0.map AV.int)), (5, .pure (GGrant.cs (lrd l0 t16_1.toNat)))], 95⟩ : TS)) H ?_
                    intro t71'4 H
                    refine AW2_cond rfl (fun h18 => ?_) (fun h18 => ?_)
                    · replace H := ite_then h18 H
                      refine AW2_seq ?_
                      refine AW2_reg [0, 1, 2, 3] rfl ?_
                      refine r_op rfl rfl (PureD.opD (p_move rfl rfl)) ?_
                      refine r_op rfl rfl (PureD.opD (p_move rfl rfl)) ?_
                      refine chkK H fun h19 H => ?_
                      refine r_op rfl rfl (PureD.opD (u_ixo rfl rfl Try.underlying44 in_3 rfl rfl (lne (ixn h19)) rfl (ixe h19) (ixn h19))) ?_
                      refine r_op rfl rfl (u_st rfl rfl rfl rfl rfl in_3 rfl (lne (ixn h19)) (Upd.trans (Sub.refl _) (Upd.map (ixn h19)) (Upd.refl (by simp)))) ?_
                      refine RunW_st [(0, .c (.p ((fun q : List GGrant => AV.lst (q.flatMap GGrant.cs) q.length) l0))), (3, .c (.own 3 (good3_0.set t16_1.toNat (1 : Int)).length 1))] [(3, .pure ((good3_0.set t16_1.toNat (1 : Int)).map AV.int))] rfl ⟨TLes.same _, TLes.own (by simp only [List.length_set]), trivial⟩ ⟨rfl, trivial⟩ ?_
                      refine RunW_nil ?_
                      refine AW2_st [(0, .c (.p ((fun q : List GGrant => AV.lst (q.flatMap GGrant.cs) q.length) l0))), (3, .c (.own 3 (good3_0.set t16_1.toNat (1 : Int)).length 1))] [(3, .pure ((good3_0.set t16_1.toNat (1 : Int)).map AV.int))] rfl ⟨TLes.same _, TLes.same _, trivial⟩ ⟨rfl, trivial⟩ ?_
                      refine AW2_goto ?_
                      refine blockQ2_goto ?_
                      refine thenQ2_goto ?_
                      have hz := some_elim H
                      subst hz
                      exact ⟨rfl, rfl⟩
                    · replace H := ite_else (ne_true h18) H
                      refine AW2_st [(0, .c (.p ((fun q : List GGrant => AV.lst (q.flatMap GGrant.cs) q.length) l0))), (3, .c (.own 3 good3_0.length 1)), (4, .c (.p (AV.int t16_1))), (5, .c (.ptr 5 (0))), (14, .c (.p ((fun q : List GGrant => AV.lst (q.flatMap GGrant.cs) q.length) l0))), (15, .c (.p (AV.int (l0.length : Int)))), (16, .c (.p (AV.int t16_1))), (35, .c (.p ((fun q : List GGrant => AV.lst (q.flatMap GGrant.cs) q.length) l0))), (36, .c (.p (AV.int (l0.length : Int)))), (37, .c (.p (AV.int t37_2)))] [(3, .pure (good3_0.map AV.int)), (5, .pure (GGrant.cs (lrd l0 t16_1.toNat)))] rfl ⟨TLes.same _, TLes.same _, TLes.same _, TLes.same _, TLes.same _, TLes.same _, TLes.same _, TLes.same _, TLes.same _, TLes.same _, trivial⟩ ⟨rfl, rfl, trivial⟩ ?_
                      refine AW2_skip ?_
                      refine AW2_reg [0, 1] rfl ?_
                      refine r_op rfl rfl (PureD.opD (p_bin rfl rfl rfl rfl)) ?_
                      refine r_op rfl rfl (PureD.opD (p_move rfl rfl)) ?_
                      refine RunW_st [(0, .c (.p ((fun q : List GGrant => AV.lst (q.flatMap GGrant.cs) q.length) l0))), (3, .c (.own 3 good3_0.length 1)), (4, .c (.p (AV.int t16_1))), (5, .c (.ptr 5 (0))), (14, .c (.p ((fun q : List GGrant => AV.lst (q.flatMap GGrant.cs) q.length) l0))), (15, .c (.p (AV.int (l0.length : Int)))), (16, .c (.p (AV.int t16_1))), (35, .c (.p ((fun q : List GGrant => AV.lst (q.flatMap GGrant.cs) q.length) l0))), (36, .c (.p (AV.int (l0.length : Int)))), (37, .c (.p (AV.int (w64 (t37_2 + (1 : Int))))))] [(3, .pure (good3_0.map AV.int)), (5, .pure (GGrant.cs (lrd l0 t16_1.toNat)))] rfl ⟨TLes.same _, TLes.same _, TLes.same _, TLes.same _, TLes.same _, TLes.same _, TLes.same _, TLes.same _, TLes.same _, TLes.same _, trivial⟩ ⟨rfl, rfl, trivial⟩ ?_
                      refine RunW_nil ?_
                      have hz := some_elim H
                      subst hz
                      exact ⟨rfl, rfl⟩
                · replace H := ite_else h11 H
                  refine AW2_st [(0, .c (.p ((fun q : List GGrant => AV.lst (q.flatMap GGrant.cs) q.length) l0))), (3, .c (.own 3 good3_0.length 1)), (14, .c (.p ((fun q : List GGrant => AV.lst (q.flatMap GGrant.cs) q.length) l0))), (15, .c (.p (AV.int (l0.length : Int)))), (16, .c (.p (AV.int t16_1)))] [(3, .pure (good3_0.map AV.int))] rfl ⟨TLes.same _, TLes.same _, TLes.same _, TLes.same _, TLes.same _, trivial⟩ ⟨rfl, trivial⟩ ?_
                  refine AW2_exit ?_
                  refine thenQ2_exit ?_
                  have hz := some_elim H
                  subst hz
                  exact ⟨rfl, rfl⟩
              · rcases o'8 with y'9 | y'10
                · obtain ⟨rfl, rfl⟩ := hs
                  refine ⟨by simp, ?_⟩
                  refine blockQ2_goto ?_
                  refine blockQ2_goto ?_
                  have hz := some_elim H
                  subst hz
                  exact ⟨rfl, rfl⟩
                · obtain ⟨rfl, rfl⟩ := hs
                  refine ⟨by simp, ?_⟩
                  refine blockQ2_exit ?_
                  have hz := some_elim H
                  subst hz
                  exact ⟨rfl, rfl⟩
        · subst hy
          refine AW2_reg [0, 1] rfl ?_
          refine r_op rfl rfl (PureD.opD (p_bin rfl rfl rfl rfl)) ?_
          refine r_op rfl rfl (PureD.opD (p_move rfl rfl)) ?_
          refine RunW_st [(0, .c (.p ((fun q : List GGrant => AV.lst (q.flatMap GGrant.cs) q.length) l0))), (3, .c (.own 3 good3_0.length 1)), (14, .c (.p ((fun q : List GGrant => AV.lst (q.flatMap GGrant.cs) q.length) l0))), (15, .c (.p (AV.int (l0.length : Int)))), (16, .c (.p (AV.int (w64 (t16_1 + (1 : Int))))))] [(3, .pure (good3_0.map AV.int))] rfl ⟨TLes.same _, TLes.same _, TLes.same _, TLes.same _, TLes.same _, trivial⟩ ⟨rfl, trivial⟩ ?_
          refine RunW_nil ?_
          have hz := some_elim H
          subst hz
          exact ⟨rfl, rfl⟩
        · subst hy
          obtain ⟨rfl, rfl⟩ := hs
          refine thenQ2_goto ?_
          have hz := some_elim H
          subst hz
          exact ⟨rfl, rfl⟩
      · replace H := ite_else h3 H
        refine AW2_st [(0, .c (.p ((fun q : List GGrant => AV.lst (q.flatMap GGrant.cs) q.length) l0))), (3, .c (.own 3 good3_0.length 1))] [(3, .pure (good3_0.map AV.int))] rfl ⟨TLes.same _, TLes.same _, trivial⟩ ⟨rfl, trivial⟩ ?_
        refine AW2_exit ?_
        refine thenQ2_exit ?_
        have hz := some_elim H
        subst hz
        exact ⟨rfl, rfl⟩
    · rcases o'17 with y'18 | y'19
      · obtain ⟨rfl, rfl⟩ := hs
        refine ⟨by simp, ?_⟩
        refine blockQ2_goto ?_
        refine thenQ2_goto ?_
        have hz := some_elim H
        subst hz
        exact ⟨rfl, rfl⟩
      · obtain ⟨rfl, rfl⟩ := hs
        refine ⟨by simp, ?_⟩
        refine blockQ2_exit ?_
        refine AW2_seq ?_
        refine AW2_reg [0] rfl ?_
        refine r_op rfl rfl (PureD.opD (p_asgn rfl)) ?_
        refine RunW_st [(0, .c (.p ((fun q : List GGrant => AV.lst (q.flatMap GGrant.cs) q.length) l0))), (3, .c (.own 3 good3_0.length 1)), (8, .c (.p .nil))] [(3, .pure (good3_0.map AV.int))] rfl ⟨TLes.same _, TLes.same _, TLes.same _, trivial⟩ ⟨rfl, trivial⟩ ?_
        refine RunW_nil ?_
        refine AW2_seq ?_
        refine AW2_seq ?_
        refine AW2_reg [0, 1, 2] rfl ?_
        refine r_op rfl rfl (PureD.opD (p_move rfl rfl)) ?_
        refine r_op rfl rfl (PureD.opD (p_lenl rfl Try.underlying22 rfl rfl)) ?_
        refine r_op rfl rfl (PureD.opD (p_move rfl rfl)) ?_
        refine RunW_st [(3, .c (.own 3 good3_0.length 1)), (8, .c (.p .nil)), (77, .c (.p ((fun q : List GGrant => AV.lst (q.flatMap GGrant.cs) q.length) l0))), (78, .c (.p (AV.int (l0.length : Int)))), (79, .c (.p (AV.int (0 : Int))))] [(3, .pure (good3_0.map AV.int))] rfl ⟨TLes.same _, TLes.same _, TLes.same _, TLes.same _, TLes.same _, trivial⟩ ⟨rfl, trivial⟩ ?_
        refine RunW_nil ?_
        refine AW2_block ?_
        refine AW2_st [(3, .c (.own 3 good3_0.length 1)), (8, .c (.p .nil)), (77, .c (.p ((fun q : List GGrant => AV.lst (q.flatMap GGrant.cs) q.length) l0))), (78, .c (.p (AV.int (l0.length : Int)))), (79, .c (.p (AV.int (0 : Int))))] [(3, .pure (good3_0.map AV.int))] rfl ⟨TLes.same _, TLes.same _, TLes.same _, TLes.same _, TLes.same _, trivial⟩ ⟨rfl, trivial⟩ ?_
        refine AW2_gho (Gho_own (d := 8) (b := 8) (z := 5) rfl rfl rfl rfl) ?_
        refine AW2_st [(3, .c (.own 3 good3_0.length 1)), (8, .c (.own 8 ([] : List GGrant).length 5)), (77, .c (.p ((fun q : List GGrant => AV.lst (q.flatMap GGrant.cs) q.length) l0))), (78, .c (.p (AV.int (l0.length : Int)))), (79, .c (.p (AV.int (0 : Int))))] [(3, .pure (good3_0.map AV.int)), (8, .pure (([] : List GGrant).flatMap GGrant.cs))] rfl ⟨TLes.same _, TLes.own rfl, TLes.same _, TLes.same _, TLes.same _, trivial⟩ ⟨rfl, rfl, trivial⟩ ?_
        refine bindK H fun y'24 h28 H => ?_
        refine AW2_loopO (fun a'21 : Int × (List GGrant) => (⟨[(3, .c (.own 3 good3_0.length 1)), (8, .c (.own 8 a'21.2.length 5)), (77, .c (.p ((fun q : List GGrant => AV.lst (q.flatMap GGrant.cs) q.length) l0))), (78, .c (.p (AV.int (l0.length : Int)))), (79, .c (.p (AV.int a'21.1)))], [(3, .pure (good3_0.map AV.int)), (8, .pure (a'21.2.flatMap GGrant.cs))], 95⟩ : TS)) (fun (y'22 : ((List GGrant))) e s' => e = Go.Exit.exit 4 ∧ s' = (⟨[(8, .c (.own 8 y'22.length 5))], [(8, .pure (y'22.flatMap GGrant.cs))], 95⟩ : TS)) h28 rfl (fun a x hx => ?_) (fun e s' hs => ?_)
        · clear H
          obtain ⟨t79_3, out8_3⟩ := a
          have H := hx
          clear hx
          unfold g_right_held_l3 at H
          refine AW2_seq ?_
          refine AW2_reg [0] rfl ?_
          refine r_op rfl rfl (PureD.opD (p_bin rfl rfl rfl rfl)) ?_
          refine RunW_st [(3, .c (.own 3 good3_0.length 1)), (8, .c (.own 8 out8_3.length 5)), (77, .c (.p ((fun q : List GGrant => AV.lst (q.flatMap GGrant.cs) q.length) l0))), (78, .c (.p (AV.int (l0.length : Int)))), (79, .c (.p (AV.int t79_3))), (80, .c (.p (.bool (decide (t79_3 < (l0.length : Int))))))] [(3, .pure (good3_0.map AV.int)), (8, .pure (out8_3.flatMap GGrant.cs))] rfl ⟨TLes.same _, TLes.same _, TLes.same _, TLes.same _, TLes.same _, TLes.same _, trivial⟩ ⟨rfl, rfl, trivial⟩ ?_
          refine RunW_nil ?_
          refine AW2_seq ?_
          refine AW2_if (p := t79_3 < (l0.length : Int)) rfl (fun h22 => ?_) (fun h22 => ?_)
          · replace H := ite_then h22 H
            refine AW2_st [(3, .c (.own 3 good3_0.length 1)), (8, .c (.own 8 out8_3.length 5)), (77, .c (.p ((fun q : List GGrant => AV.lst (q.flatMap GGrant.cs) q.length) l0))), (78, .c (.p (AV.int (l0.length : Int)))), (79, .c (.p (AV.int t79_3)))] [(3, .pure (good3_0.map AV.int)), (8, .pure (out8_3.flatMap GGrant.cs))] rfl ⟨TLes.same _, TLes.same _, TLes.same _, TLes.same _, TLes.same _, trivial⟩ ⟨rfl, rfl, trivial⟩ ?_
            refine AW2_skip ?_
            refine AW2_seq ?_
            refine bindK H fun j'20 h23 H => ?_
            refine AW2_mid (⟨[(3, .c (.own 3 good3_0.length 1)), (8, .c (.own 8 j'20.length 5)), (77, .c (.p ((fun q : List GGrant => AV.lst (q.flatMap GGrant.cs) q.length) l0))), (78, .c (.p (AV.int (l0.length : Int)))), (79, .c (.p (AV.int t79_3)))], [(3, .pure (good3_0.map AV.int)), (8, .pure (j'20.flatMap GGrant.cs))], 95⟩ : TS) ?_ ?_
            · clear H
              have H := h23
              clear h23
              refine AW2_block ?_
              refine AW2_seq ?_
              refine AW2_reg [0, 1, 2, 3, 4, 5] rfl ?_
              refine r_op rfl rfl (PureD.opD (p_move rfl rfl)) ?_
              refine chkK H fun h24 H => ?_
              refine r_op rfl rfl (PureD.opD (u_ixl rfl rfl Try.underlying22 in_27 rfl rfl (ixe h24) (ixn h24) (fne (fun x => (GGrant.len x)) (by decide) (ixn h24)))) ?_
              refine r_op rfl rfl (PureD.opD (u_lda rfl rfl Try.underlying27 rfl in_27 rfl (Nat.succ_pos _) (Sub.fm default (fun x => (GGrant.len x)) (ixn h24)) (GGrant.len (lrd l0 t79_3.toNat)))) ?_
              refine r_op rfl rfl (MakeD.opD (u_alloc 10 rfl in_27 one_27 zc_27) rfl rfl rfl rfl) ?_
              refine r_op rfl rfl (PureD.opD (p_asg rfl rfl)) ?_
              refine r_op rfl rfl (u_st rfl rfl rfl rfl rfl in_27 (GGrant.len (lrd l0 t79_3.toNat)) (ne_of_lt (n := 0) (Nat.lt_of_lt_of_eq (by decide) (Eq.symm (GGrant.len GGrant.zero)))) (Upd.refl ((GGrant.len (lrd l0 t79_3.toNat)).trans (GGrant.len GGrant.zero).symm))) ?_
              refine RunW_st [(3, .c (.own 3 good3_0.length 1)), (8, .c (.own 8 out8_3.length 5)), (9, .c (.p (AV.int t79_3))), (10, .c (.ptr 10 (0))), (77, .c (.p ((fun q : List GGrant => AV.lst (q.flatMap GGrant.cs) q.length) l0))), (78, .c (.p (AV.int (l0.length : Int)))), (79, .c (.p (AV.int t79_3)))] [(3, .pure (good3_0.map AV.int)), (8, .pure (out8_3.flatMap GGrant.cs)), (10, .pure (GGrant.cs (lrd l0 t79_3.toNat)))] rfl ⟨TLes.same _, TLes.same _, TLes.same _, TLes.same _, TLes.same _, TLes.same _, TLes.same _, trivial⟩ ⟨rfl, rfl, rfl, trivial⟩ ?_
              refine RunW_nil ?_
              refine AW2_seq ?_
              refine AW2_reg [0, 1, 2, 3, 4] rfl ?_
              refine r_op rfl rfl (PureD.opD (p_move rfl rfl)) ?_
              refine r_op rfl rfl (PureD.opD (p_move rfl rfl)) ?_
              refine chkK H fun h25 H => ?_
              refine r_op rfl rfl (PureD.opD (u_ixo rfl rfl Try.underlying44 in_3 rfl rfl (lne (ixn h25)) rfl (ixe h25) (ixn h25))) ?_
              refine r_op rfl rfl (PureD.opD (u_ld rfl rfl Try.underlying3 rfl rfl ((Sub.refl _).trans (Sub.map default (ixn h25))))) ?_
              refine r_op rfl rfl (PureD.opD (p_ieq rfl rfl rfl)) ?_
              refine RunW_st [(3, .c (.own 3 good3_0.length 1)), (8, .c (.own 8 out8_3.length 5)), (10, .c (.ptr 10 (0))), (77, .c (.p ((fun q : List GGrant => AV.lst (q.flatMap GGrant.cs) q.length) l0))), (78, .c (.p (AV.int (l0.length : Int)))), (79, .c (.p (AV.int t79_3))), (88, .c (.p (.bool (decide ((lrd good3_0 t79_3.toNat) = (1 : Int))))))] [(3, .pure (good3_0.map AV.int)), (8, .pure (out8_3.flatMap GGrant.cs)), (10, .pure (GGrant.cs (lrd l0 t79_3.toNat)))] rfl ⟨TLes.same _, TLes.same _, TLes.same _, TLes.same _, TLes.same _, TLes.same _, TLes.same _, trivial⟩ ⟨rfl, rfl, rfl, trivial⟩ ?_
              refine RunW_nil ?_
              refine AW2_if (p := (lrd good3_0 t79_3.toNat) = (1 : Int)) rfl (fun h26 => ?_) (fun h26 => ?_)
              · replace H := ite_then h26 H
                refine AW2_reg [0, 1, 2, 3, 4] rfl ?_
                refine r_op rfl rfl (PureD.opD (p_move rfl rfl)) ?_
                refine r_op rfl rfl (PureD.opD (u_lda rfl rfl Try.underlying27 rfl in_27 rfl (Nat.succ_pos _) (Sub.refl _) (GGrant.len (lrd l0 t79_3.toNat)))) ?_
                refine r_op rfl rfl (MakeD.opD (u_bs 91 rfl Try.underlying22 in_27 rfl one_27 (by decide) (by decide) rfl rfl rfl) rfl rfl rfl rfl) ?_
                refine chkK H fun h27 H => ?_
                refine r_op rfl rfl (u_app [8, 89] rfl rfl rfl rfl Try.underlying22 Try.underlying22 in_27 rfl rfl rfl (fm_length (fun x => (GGrant.len x)) out8_3) (by decide) (srcT_o rfl rfl (fm_length (fun x => (GGrant.len x)) ([(lrd l0 t79_3.toNat)] : List GGrant)) (by decide)) (fm_length (fun x => (GGrant.len x)) ([(lrd l0 t79_3.toNat)] : List GGrant)) h27 (by decide) rfl rfl (fapp GGrant.cs out8_3 ([(lrd l0 t79_3.toNat)] : List GGrant)) (lapp out8_3 ([(lrd l0 t79_3.toNat)] : List GGrant))) ?_
                refine r_op rfl rfl (PureD.opD (p_asg rfl rfl)) ?_
                refine RunW_st [(3, .c (.own 3 good3_0.length 1)), (8, .c (.own 8 (out8_3 ++ ([(lrd l0 t79_3.toNat)] : List GGrant)).length 5)), (77, .c (.p ((fun q : List GGrant => AV.lst (q.flatMap GGrant.cs) q.length) l0))), (78, .c (.p (AV.int (l0.length : Int)))), (79, .c (.p (AV.int t79_3)))] [(3, .pure (good3_0.map AV.int)), (8, .pure ((out8_3 ++ ([(lrd l0 t79_3.toNat)] : List GGrant)).flatMap GGrant.cs))] rfl ⟨TLes.same _, TLes.same _, TLes.same _, TLes.same _, TLes.same _, trivial⟩ ⟨rfl, rfl, trivial⟩ ?_
                refine RunW_nil ?_
                have hz := some_elim H
                subst hz
                exact rfl
              · replace H := ite_else h26 H
                refine AW2_st [(3, .c (.own 3 good3_0.length 1)), (8, .c (.own 8 out8_3.length 5)), (77, .c (.p ((fun q : List GGrant => AV.lst (q.flatMap GGrant.cs) q.length) l0))), (78, .c (.p (AV.int (l0.length : Int)))), (79, .c (.p (AV.int t79_3)))] [(3, .pure (good3_0.map AV.int)), (8, .pure (out8_3.flatMap GGrant.cs))] rfl ⟨TLes.same _, TLes.same _, TLes.same _, TLes.same _, TLes.same _, trivial⟩ ⟨rfl, rfl, trivial⟩ ?_
                refine AW2_skip ?_
                have hz := some_elim H
                subst hz
                exact rfl
            · refine AW2_reg [0, 1] rfl ?_
              refine r_op rfl rfl (PureD.opD (p_bin rfl rfl rfl rfl)) ?_
              refine r_op rfl rfl (PureD.opD (p_move rfl rfl)) ?_
              refine RunW_st [(3, .c (.own 3 good3_0.length 1)), (8, .c (.own 8 j'20.length 5)), (77, .c (.p ((fun q : List GGrant => AV.lst (q.flatMap GGrant.cs) q.length) l0))), (78, .c (.p (AV.int (l0.length : Int)))), (79, .c (.p (AV.int (w64 (t79_3 + (1 : Int))))))] [(3, .pure (good3_0.map AV.int)), (8, .pure (j'20.flatMap GGrant.cs))] rfl ⟨TLes.same _, TLes.same _, TLes.same _, TLes.same _, TLes.same _, trivial⟩ ⟨rfl, rfl, trivial⟩ ?_
              refine RunW_nil ?_
              have hz := some_elim H
              subst hz
              exact ⟨rfl, rfl⟩
          · replace H := ite_else h22 H
            refine AW2_st [(8, .c (.own 8 out8_3.length 5))] [(8, .pure (out8_3.flatMap GGrant.cs))] rfl ⟨TLes.same _, trivial⟩ ⟨rfl, trivial⟩ ?_
            refine AW2_exit ?_
            refine thenQ2_exit ?_
            have hz := some_elim H
            subst hz
            exact ⟨rfl, rfl⟩
        · obtain ⟨rfl, rfl⟩ := hs
          refine ⟨by simp, ?_⟩
          refine blockQ2_exit ?_
          refine AW2_seq ?_
          refine AW2_reg [0, 1] rfl ?_
          refine r_op rfl rfl (PureD.opD (p_move rfl rfl)) ?_
          refine r_op rfl rfl (PureD.opD (p_asg rfl rfl)) ?_
          refine RunW_st [(2, .c (.own 8 y'24.length 5))] [(8, .pure (y'24.flatMap GGrant.cs))] rfl ⟨TLes.same _, trivial⟩ ⟨rfl, trivial⟩ ?_
          refine RunW_gho (Gho_ren 8 2 rfl rfl rfl rfl rfl) ?_
          refine RunW_st [(2, .c (.own 2 y'24.length 5))] [(2, .pure (y'24.flatMap GGrant.cs))] rfl ⟨TLes.same _, trivial⟩ ⟨rfl, trivial⟩ ?_
          refine RunW_nil ?_
          refine AW2_gho (Gho_pubs [2] ⟨rfl, trivial⟩ rfl (fm_length (fun x => (GGrant.len x)) y'24) (by decide)) ?_
          refine AW2_ret ?_
          have hz := some_elim H
          subst hz
          exact ⟨rfl, ⟨res_tmp (.same _), trivial⟩, trivial⟩
  · obtain ⟨rfl, hs⟩ := hs
    refine ⟨by simp, ?_⟩
    have hz := some_elim H
    subst hz
    exact ⟨hs.1, hs.2⟩
end Go.Proofs.Ytgbfmldbbnhefaa.VM
