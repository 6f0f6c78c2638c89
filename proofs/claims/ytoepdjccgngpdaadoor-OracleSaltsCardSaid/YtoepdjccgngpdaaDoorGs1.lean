/- Functions of the program, as they answer, and that their code comes to these answers. -/
import Derived.Test.YtoepdjccgngpdaaDoorGs0
namespace Go.Proofs.YtoepdjccgngpdaaDoor.VM
open Go Go.RowKit

theorem in_3 : Info Tryd.prog 3 1 8 (.int .i64 0) := by unfold Info; kernel_rfl
theorem one_3 : (.int .i64 0 : Value).cells.all (·.oneCell') = true := by kernel_rfl
theorem zc_3 : ((.int .i64 0 : Value).cells.toList.map zcell) = [(AV.int (0 : Int))] := by rfl
theorem in_28 : Info Tryd.prog 28 64 64 (.agg #[.int .u8 0, .int .u8 0, .int .u8 0, .int .u8 0, .int .u8 0, .int .u8 0, .int .u8 0, .int .u8 0, .int .u8 0, .int .u8 0, .int .u8 0, .int .u8 0, .int .u8 0, .int .u8 0, .int .u8 0, .int .u8 0, .int .u8 0, .int .u8 0, .int .u8 0, .int .u8 0, .int .u8 0, .int .u8 0, .int .u8 0, .int .u8 0, .int .u8 0, .int .u8 0, .int .u8 0, .int .u8 0, .int .u8 0, .int .u8 0, .int .u8 0, .int .u8 0, .int .u8 0, .int .u8 0, .int .u8 0, .int .u8 0, .int .u8 0, .int .u8 0, .int .u8 0, .int .u8 0, .int .u8 0, .int .u8 0, .int .u8 0, .int .u8 0, .int .u8 0, .int .u8 0, .int .u8 0, .int .u8 0, .int .u8 0, .int .u8 0, .int .u8 0, .int .u8 0, .int .u8 0, .int .u8 0, .int .u8 0, .int .u8 0, .int .u8 0, .int .u8 0, .int .u8 0, .int .u8 0, .int .u8 0, .int .u8 0, .int .u8 0, .int .u8 0]) := by unfold Info; kernel_rfl
theorem one_28 : (.agg #[.int .u8 0, .int .u8 0, .int .u8 0, .int .u8 0, .int .u8 0, .int .u8 0, .int .u8 0, .int .u8 0, .int .u8 0, .int .u8 0, .int .u8 0, .int .u8 0, .int .u8 0, .int .u8 0, .int .u8 0, .int .u8 0, .int .u8 0, .int .u8 0, .int .u8 0, .int .u8 0, .int .u8 0, .int .u8 0, .int .u8 0, .int .u8 0, .int .u8 0, .int .u8 0, .int .u8 0, .int .u8 0, .int .u8 0, .int .u8 0, .int .u8 0, .int .u8 0, .int .u8 0, .int .u8 0, .int .u8 0, .int .u8 0, .int .u8 0, .int .u8 0, .int .u8 0, .int .u8 0, .int .u8 0, .int .u8 0, .int .u8 0, .int .u8 0, .int .u8 0, .int .u8 0, .int .u8 0, .int .u8 0, .int .u8 0, .int .u8 0, .int .u8 0, .int .u8 0, .int .u8 0, .int .u8 0, .int .u8 0, .int .u8 0, .int .u8 0, .int .u8 0, .int .u8 0, .int .u8 0, .int .u8 0, .int .u8 0, .int .u8 0, .int .u8 0] : Value).cells.all (·.oneCell') = true := by kernel_rfl
theorem zc_28 : ((.agg #[.int .u8 0, .int .u8 0, .int .u8 0, .int .u8 0, .int .u8 0, .int .u8 0, .int .u8 0, .int .u8 0, .int .u8 0, .int .u8 0, .int .u8 0, .int .u8 0, .int .u8 0, .int .u8 0, .int .u8 0, .int .u8 0, .int .u8 0, .int .u8 0, .int .u8 0, .int .u8 0, .int .u8 0, .int .u8 0, .int .u8 0, .int .u8 0, .int .u8 0, .int .u8 0, .int .u8 0, .int .u8 0, .int .u8 0, .int .u8 0, .int .u8 0, .int .u8 0, .int .u8 0, .int .u8 0, .int .u8 0, .int .u8 0, .int .u8 0, .int .u8 0, .int .u8 0, .int .u8 0, .int .u8 0, .int .u8 0, .int .u8 0, .int .u8 0, .int .u8 0, .int .u8 0, .int .u8 0, .int .u8 0, .int .u8 0, .int .u8 0, .int .u8 0, .int .u8 0, .int .u8 0, .int .u8 0, .int .u8 0, .int .u8 0, .int .u8 0, .int .u8 0, .int .u8 0, .int .u8 0, .int .u8 0, .int .u8 0, .int .u8 0, .int .u8 0] : Value).cells.toList.map zcell) = bcells ((Vector.replicate 64 (0 : UInt8)).toList) := by rfl
theorem in_23 : Info Tryd.prog 23 32 32 (.agg #[.int .u8 0, .int .u8 0, .int .u8 0, .int .u8 0, .int .u8 0, .int .u8 0, .int .u8 0, .int .u8 0, .int .u8 0, .int .u8 0, .int .u8 0, .int .u8 0, .int .u8 0, .int .u8 0, .int .u8 0, .int .u8 0, .int .u8 0, .int .u8 0, .int .u8 0, .int .u8 0, .int .u8 0, .int .u8 0, .int .u8 0, .int .u8 0, .int .u8 0, .int .u8 0, .int .u8 0, .int .u8 0, .int .u8 0, .int .u8 0, .int .u8 0, .int .u8 0]) := by unfold Info; kernel_rfl
theorem one_23 : (.agg #[.int .u8 0, .int .u8 0, .int .u8 0, .int .u8 0, .int .u8 0, .int .u8 0, .int .u8 0, .int .u8 0, .int .u8 0, .int .u8 0, .int .u8 0, .int .u8 0, .int .u8 0, .int .u8 0, .int .u8 0, .int .u8 0, .int .u8 0, .int .u8 0, .int .u8 0, .int .u8 0, .int .u8 0, .int .u8 0, .int .u8 0, .int .u8 0, .int .u8 0, .int .u8 0, .int .u8 0, .int .u8 0, .int .u8 0, .int .u8 0, .int .u8 0, .int .u8 0] : Value).cells.all (·.oneCell') = true := by kernel_rfl
theorem zc_23 : ((.agg #[.int .u8 0, .int .u8 0, .int .u8 0, .int .u8 0, .int .u8 0, .int .u8 0, .int .u8 0, .int .u8 0, .int .u8 0, .int .u8 0, .int .u8 0, .int .u8 0, .int .u8 0, .int .u8 0, .int .u8 0, .int .u8 0, .int .u8 0, .int .u8 0, .int .u8 0, .int .u8 0, .int .u8 0, .int .u8 0, .int .u8 0, .int .u8 0, .int .u8 0, .int .u8 0, .int .u8 0, .int .u8 0, .int .u8 0, .int .u8 0, .int .u8 0, .int .u8 0] : Value).cells.toList.map zcell) = bcells ((Vector.replicate 32 (0 : UInt8)).toList) := by rfl

/-! sum.feed -/
noncomputable def g_sum_feed_l0 (b1 : List UInt8) : Int × GStream → Option ((Int × GStream) ⊕ (GStream))
  | (t15_0, s2_0) => (if t15_0 < (b1.length : Int) then (if 0 ≤ t15_0 ∧ t15_0 < (b1.length : Int) then if 0 ≤ s2_0.N ∧ s2_0.N < (64 : Int) then letO ({ s2_0 with Held := (vwr s2_0.Held s2_0.N.toNat (lrd b1 t15_0.toNat)) }) fun s2'2 => (if ({ s2'2 with N := w64 (s2'2.N + (1 : Int)) }).N = (64 : Int) then (g_sum_turn (({ s2'2 with N := w64 (s2'2.N + (1 : Int)) }).H) (({ s2'2 with N := w64 (s2'2.N + (1 : Int)) }).Held)).bind fun r'3 => letO ({ { { s2'2 with N := w64 (s2'2.N + (1 : Int)) } with H := r'3 } with Held := (Vector.replicate 64 (0 : UInt8)) }) fun s2'4 => some ({ s2'4 with N := (0 : Int) }) else some ({ s2'2 with N := w64 (s2'2.N + (1 : Int)) })) else none else none).bind fun j'1 => some (.inl (w64 (t15_0 + (1 : Int)), j'1)) else some (.inr s2_0))
noncomputable def g_sum_feed (s0 : GStream) (b1 : List UInt8) : Option (GStream) :=
  (loopO (g_sum_feed_l0 b1) ((0 : Int), { s0 with Len := w64 (s0.Len + (b1.length : Int)) })).bind fun y'8 => some y'8
set_option maxHeartbeats 4000000 in
set_option maxRecDepth 100000 in
theorem g_sum_feed_ac {s0 : GStream} {b1 : List UInt8} {r : GStream} (H : g_sum_feed s0 b1 = some r) : ACp Tryd.prog 34 [(.agg (GStream.cs s0)), (AV.bytes b1)] (.agg (GStream.cs r)) := by
  refine ACp_of (AC2_of_body (vs := [.c (.p (.agg (GStream.cs r)))]) Tryd.func34 rfl rfl (Nat.le_of_ble_eq_true rfl) rfl ?_) (fun _ => .same _)
  unfold g_sum_feed at H
  refine AW2_st [(0, .c (.p (.agg (GStream.cs s0)))), (1, .c (.p (AV.bytes b1)))] [] rfl ⟨TLes.same _, TLes.same _, trivial⟩ trivial ?_
  refine AW2_seq ?_
  refine AW2_reg [0, 1] rfl ?_
  refine r_op rfl rfl (MakeD.opD (n_box 2 rfl rfl) rfl rfl rfl rfl) ?_
  refine r_op rfl rfl (MakeD.opD (u_alloc 4 rfl in_30 one_30 zc_30) rfl rfl rfl rfl) ?_
  refine RunW_st [(1, .c (.p (AV.bytes b1))), (2, .c (.ptr 2 (0))), (4, .c (.ptr 4 (0)))] [(2, .pure (GStream.cs s0)), (4, .pure (GStream.cs GStream.zero))] rfl ⟨TLes.same _, TLes.same _, TLes.same _, trivial⟩ ⟨rfl, rfl, trivial⟩ ?_
  refine RunW_nil ?_
  refine AW2_seq ?_
  refine AW2_reg [0, 1, 2, 3, 4, 5, 6] rfl ?_
  refine r_op rfl rfl (PureD.opD (u_fa rfl rfl Tryd.underlying30 rfl in_3 (Nat.succ_ne_zero _) rfl rfl (ne_of_lt (n := 0) (Nat.lt_of_lt_of_eq (by decide) (Eq.symm (GStream.len s0)))))) ?_
  refine r_op rfl rfl (PureD.opD (u_ld rfl rfl Tryd.underlying3 rfl rfl ((Sub.refl _).trans (GStream.sub3 s0)))) ?_
  refine r_op rfl rfl (PureD.opD (p_move rfl rfl)) ?_
  refine r_op rfl rfl (PureD.opD (p_lenl rfl Tryd.underlying22 rfl rfl)) ?_
  refine r_op rfl rfl (PureD.opD (p_bin rfl rfl rfl rfl)) ?_
  refine r_op rfl rfl (PureD.opD (u_fa rfl rfl Tryd.underlying30 rfl in_3 (Nat.succ_ne_zero _) rfl rfl (ne_of_lt (n := 0) (Nat.lt_of_lt_of_eq (by decide) (Eq.symm (GStream.len s0)))))) ?_
  refine r_op rfl rfl (u_st rfl rfl rfl rfl rfl in_3 rfl (ne_of_lt (n := 0) (Nat.lt_of_lt_of_eq (by decide) (Eq.symm (GStream.len s0)))) (Upd.trans (Sub.refl _) (GStream.upd3 s0 (w64 (s0.Len + (b1.length : Int)))) (Upd.refl ((GStream.len ({ s0 with Len := w64 (s0.Len + (b1.length : Int)) })).trans (GStream.len s0).symm)))) ?_
  refine RunW_st [(1, .c (.p (AV.bytes b1))), (2, .c (.ptr 2 (0))), (4, .c (.ptr 4 (0)))] [(2, .pure (GStream.cs ({ s0 with Len := w64 (s0.Len + (b1.length : Int)) }))), (4, .pure (GStream.cs GStream.zero))] rfl ⟨TLes.same _, TLes.same _, TLes.same _, trivial⟩ ⟨rfl, rfl, trivial⟩ ?_
  refine RunW_nil ?_
  refine AW2_seq ?_
  refine AW2_seq ?_
  refine AW2_reg [0, 1, 2] rfl ?_
  refine r_op rfl rfl (PureD.opD (p_move rfl rfl)) ?_
  refine r_op rfl rfl (PureD.opD (p_lenl rfl Tryd.underlying22 rfl rfl)) ?_
  refine r_op rfl rfl (PureD.opD (p_move rfl rfl)) ?_
  refine RunW_st [(2, .c (.ptr 2 (0))), (4, .c (.ptr 4 (0))), (13, .c (.p (AV.bytes b1))), (14, .c (.p (AV.int (b1.length : Int)))), (15, .c (.p (AV.int (0 : Int))))] [(2, .pure (GStream.cs ({ s0 with Len := w64 (s0.Len + (b1.length : Int)) }))), (4, .pure (GStream.cs GStream.zero))] rfl ⟨TLes.same _, TLes.same _, TLes.same _, TLes.same _, TLes.same _, trivial⟩ ⟨rfl, rfl, trivial⟩ ?_
  refine RunW_nil ?_
  refine AW2_block ?_
  refine AW2_st [(2, .c (.ptr 2 (0))), (4, .c (.ptr 4 (0))), (13, .c (.p (AV.bytes b1))), (14, .c (.p (AV.int (b1.length : Int)))), (15, .c (.p (AV.int (0 : Int))))] [(2, .pure (GStream.cs ({ s0 with Len := w64 (s0.Len + (b1.length : Int)) }))), (4, .pure (GStream.cs GStream.zero))] rfl ⟨TLes.same _, TLes.same _, TLes.same _, TLes.same _, TLes.same _, trivial⟩ ⟨rfl, rfl, trivial⟩ ?_
  refine bindK H fun y'8 h7 H => ?_
  refine AW2_loopO (fun a'5 : Int × GStream => (⟨[(2, .c (.ptr 2 (0))), (4, .c (.ptr 4 (0))), (13, .c (.p (AV.bytes b1))), (14, .c (.p (AV.int (b1.length : Int)))), (15, .c (.p (AV.int a'5.1)))], [(2, .pure (GStream.cs a'5.2)), (4, .pure (GStream.cs GStream.zero))], 42⟩ : TS)) (fun (y'6 : GStream) e s' => e = Go.Exit.exit 0 ∧ s' = (⟨[(2, .c (.ptr 2 (0))), (4, .c (.ptr 4 (0)))], [(2, .pure (GStream.cs y'6)), (4, .pure (GStream.cs GStream.zero))], 42⟩ : TS)) h7 rfl (fun a x hx => ?_) (fun e s' hs => ?_)
  · clear H
    obtain ⟨t15_0, s2_0⟩ := a
    have H := hx
    clear hx
    unfold g_sum_feed_l0 at H
    refine AW2_seq ?_
    refine AW2_reg [0] rfl ?_
    refine r_op rfl rfl (PureD.opD (p_bin rfl rfl rfl rfl)) ?_
    refine RunW_st [(2, .c (.ptr 2 (0))), (4, .c (.ptr 4 (0))), (13, .c (.p (AV.bytes b1))), (14, .c (.p (AV.int (b1.length : Int)))), (15, .c (.p (AV.int t15_0))), (16, .c (.p (.bool (decide (t15_0 < (b1.length : Int))))))] [(2, .pure (GStream.cs s2_0)), (4, .pure (GStream.cs GStream.zero))] rfl ⟨TLes.same _, TLes.same _, TLes.same _, TLes.same _, TLes.same _, TLes.same _, trivial⟩ ⟨rfl, rfl, trivial⟩ ?_
    refine RunW_nil ?_
    refine AW2_seq ?_
    refine AW2_if (p := t15_0 < (b1.length : Int)) rfl (fun h1 => ?_) (fun h1 => ?_)
    · replace H := ite_then h1 H
      refine AW2_st [(2, .c (.ptr 2 (0))), (4, .c (.ptr 4 (0))), (13, .c (.p (AV.bytes b1))), (14, .c (.p (AV.int (b1.length : Int)))), (15, .c (.p (AV.int t15_0)))] [(2, .pure (GStream.cs s2_0)), (4, .pure (GStream.cs GStream.zero))] rfl ⟨TLes.same _, TLes.same _, TLes.same _, TLes.same _, TLes.same _, trivial⟩ ⟨rfl, rfl, trivial⟩ ?_
      refine AW2_skip ?_
      refine AW2_seq ?_
      refine bindK H fun j'1 h2 H => ?_
      refine AW2_mid (⟨[(2, .c (.ptr 2 (0))), (4, .c (.ptr 4 (0))), (13, .c (.p (AV.bytes b1))), (14, .c (.p (AV.int (b1.length : Int)))), (15, .c (.p (AV.int t15_0)))], [(2, .pure (GStream.cs j'1)), (4, .pure (GStream.cs GStream.zero))], 42⟩ : TS) ?_ ?_
      · clear H
        have H := h2
        clear h2
        refine AW2_block ?_
        refine AW2_seq ?_
        refine AW2_reg [0, 1, 2] rfl ?_
        refine chkK H fun h3 H => ?_
        refine r_op rfl rfl (PureD.opD (u_ixl rfl rfl Tryd.underlying22 in_5 rfl rfl (ixe h3) (ixn h3) (lne (ixn h3)))) ?_
        refine r_op rfl rfl (PureD.opD (u_ld rfl rfl Tryd.underlying5 rfl rfl (Sub.map default (ixn h3)))) ?_
        refine r_op rfl rfl (PureD.opD (p_asg rfl rfl)) ?_
        refine RunW_st [(2, .c (.ptr 2 (0))), (4, .c (.ptr 4 (0))), (6, .c (.p (AV.b8 (lrd b1 t15_0.toNat)))), (13, .c (.p (AV.bytes b1))), (14, .c (.p (AV.int (b1.length : Int)))), (15, .c (.p (AV.int t15_0)))] [(2, .pure (GStream.cs s2_0)), (4, .pure (GStream.cs GStream.zero))] rfl ⟨TLes.same _, TLes.same _, TLes.same _, TLes.same _, TLes.same _, TLes.same _, trivial⟩ ⟨rfl, rfl, trivial⟩ ?_
        refine RunW_nil ?_
        refine AW2_seq ?_
        refine AW2_reg [0, 1, 2, 3, 4, 5] rfl ?_
        refine r_op rfl rfl (PureD.opD (u_fa rfl rfl Tryd.underlying30 rfl in_3 (Nat.succ_ne_zero _) rfl rfl (ne_of_lt (n := 0) (Nat.lt_of_lt_of_eq (by decide) (Eq.symm (GStream.len s2_0)))))) ?_
        refine r_op rfl rfl (PureD.opD (u_ld rfl rfl Tryd.underlying3 rfl rfl ((Sub.refl _).trans (GStream.sub2 s2_0)))) ?_
        refine r_op rfl rfl (PureD.opD (p_move rfl rfl)) ?_
        refine r_op rfl rfl (PureD.opD (u_fa rfl rfl Tryd.underlying30 rfl in_28 (Nat.succ_ne_zero _) rfl rfl (ne_of_lt (n := 0) (Nat.lt_of_lt_of_eq (by decide) (Eq.symm (GStream.len s2_0)))))) ?_
        refine chkK H fun h4 H => ?_
        refine r_op rfl rfl (PureD.opD (u_ixp rfl rfl Tryd.underlying28 in_5 rfl rfl (ne_of_lt (n := 0) (Nat.lt_of_lt_of_eq (by decide) (Eq.symm (GStream.len s2_0)))) rfl (ixe h4) (ixn h4))) ?_
        refine r_op rfl rfl (u_st rfl rfl rfl rfl rfl in_5 rfl (ne_of_lt (n := 0) (Nat.lt_of_lt_of_eq (by decide) (Eq.symm (GStream.len s2_0)))) (Upd.trans ((Sub.refl _).trans (GStream.sub1 s2_0)) (Upd.vmap (ixn h4)) (Upd.trans (Sub.refl _) (GStream.upd1 s2_0 (vwr s2_0.Held s2_0.N.toNat (lrd b1 t15_0.toNat))) (Upd.refl ((GStream.len ({ s2_0 with Held := (vwr s2_0.Held s2_0.N.toNat (lrd b1 t15_0.toNat)) })).trans (GStream.len s2_0).symm))))) ?_
        refine RunW_st [(2, .c (.ptr 2 (0))), (4, .c (.ptr 4 (0))), (13, .c (.p (AV.bytes b1))), (14, .c (.p (AV.int (b1.length : Int)))), (15, .c (.p (AV.int t15_0)))] [(2, .pure (GStream.cs ({ s2_0 with Held := (vwr s2_0.Held s2_0.N.toNat (lrd b1 t15_0.toNat)) }))), (4, .pure (GStream.cs GStream.zero))] rfl ⟨TLes.same _, TLes.same _, TLes.same _, TLes.same _, TLes.same _, trivial⟩ ⟨rfl, rfl, trivial⟩ ?_
        refine RunW_nil ?_
        refine gen1 (fun s2'2 => (⟨[(2, .c (.ptr 2 (0))), (4, .c (.ptr 4 (0))), (13, .c (.p (AV.bytes b1))), (14, .c (.p (AV.int (b1.length : Int)))), (15, .c (.p (AV.int t15_0)))], [(2, .pure (GStream.cs s2'2)), (4, .pure (GStream.cs GStream.zero))], 42⟩ : TS)) H ?_
        intro s2'2 H
        refine AW2_seq ?_
        refine AW2_reg [0, 1, 2, 3, 4] rfl ?_
        refine r_op rfl rfl (PureD.opD (u_fa rfl rfl Tryd.underlying30 rfl in_3 (Nat.succ_ne_zero _) rfl rfl (ne_of_lt (n := 0) (Nat.lt_of_lt_of_eq (by decide) (Eq.symm (GStream.len s2'2)))))) ?_
        refine r_op rfl rfl (PureD.opD (u_ld rfl rfl Tryd.underlying3 rfl rfl ((Sub.refl _).trans (GStream.sub2 s2'2)))) ?_
        refine r_op rfl rfl (PureD.opD (p_bin rfl rfl rfl rfl)) ?_
        refine r_op rfl rfl (PureD.opD (u_fa rfl rfl Tryd.underlying30 rfl in_3 (Nat.succ_ne_zero _) rfl rfl (ne_of_lt (n := 0) (Nat.lt_of_lt_of_eq (by decide) (Eq.symm (GStream.len s2'2)))))) ?_
        refine r_op rfl rfl (u_st rfl rfl rfl rfl rfl in_3 rfl (ne_of_lt (n := 0) (Nat.lt_of_lt_of_eq (by decide) (Eq.symm (GStream.len s2'2)))) (Upd.trans (Sub.refl _) (GStream.upd2 s2'2 (w64 (s2'2.N + (1 : Int)))) (Upd.refl ((GStream.len ({ s2'2 with N := w64 (s2'2.N + (1 : Int)) })).trans (GStream.len s2'2).symm)))) ?_
        refine RunW_st [(2, .c (.ptr 2 (0))), (4, .c (.ptr 4 (0))), (13, .c (.p (AV.bytes b1))), (14, .c (.p (AV.int (b1.length : Int)))), (15, .c (.p (AV.int t15_0)))] [(2, .pure (GStream.cs ({ s2'2 with N := w64 (s2'2.N + (1 : Int)) }))), (4, .pure (GStream.cs GStream.zero))] rfl ⟨TLes.same _, TLes.same _, TLes.same _, TLes.same _, TLes.same _, trivial⟩ ⟨rfl, rfl, trivial⟩ ?_
        refine RunW_nil ?_
        refine AW2_seq ?_
        refine AW2_reg [0, 1, 2] rfl ?_
        refine r_op rfl rfl (PureD.opD (u_fa rfl rfl Tryd.underlying30 rfl in_3 (Nat.succ_ne_zero _) rfl rfl (ne_of_lt (n := 0) (Nat.lt_of_lt_of_eq (by decide) (Eq.symm (GStream.len ({ s2'2 with N := w64 (s2'2.N + (1 : Int)) }))))))) ?_
        refine r_op rfl rfl (PureD.opD (u_ld rfl rfl Tryd.underlying3 rfl rfl ((Sub.refl _).trans (GStream.sub2 ({ s2'2 with N := w64 (s2'2.N + (1 : Int)) }))))) ?_
        refine r_op rfl rfl (PureD.opD (p_ieq rfl rfl rfl)) ?_
        refine RunW_st [(2, .c (.ptr 2 (0))), (4, .c (.ptr 4 (0))), (13, .c (.p (AV.bytes b1))), (14, .c (.p (AV.int (b1.length : Int)))), (15, .c (.p (AV.int t15_0))), (30, .c (.p (.bool (decide (({ s2'2 with N := w64 (s2'2.N + (1 : Int)) }).N = (64 : Int))))))] [(2, .pure (GStream.cs ({ s2'2 with N := w64 (s2'2.N + (1 : Int)) }))), (4, .pure (GStream.cs GStream.zero))] rfl ⟨TLes.same _, TLes.same _, TLes.same _, TLes.same _, TLes.same _, TLes.same _, trivial⟩ ⟨rfl, rfl, trivial⟩ ?_
        refine RunW_nil ?_
        refine AW2_if (p := ({ s2'2 with N := w64 (s2'2.N + (1 : Int)) }).N = (64 : Int)) rfl (fun h5 => ?_) (fun h5 => ?_)
        · replace H := ite_then h5 H
          refine AW2_seq ?_
          refine AW2_reg [0, 1, 2, 3, 4, 5, 6] rfl ?_
          refine r_op rfl rfl (PureD.opD (u_fa rfl rfl Tryd.underlying30 rfl in_27 (Nat.succ_ne_zero _) rfl rfl (ne_of_lt (n := 0) (Nat.lt_of_lt_of_eq (by decide) (Eq.symm (GStream.len ({ s2'2 with N := w64 (s2'2.N + (1 : Int)) }))))))) ?_
          refine r_op rfl rfl (PureD.opD (u_lda rfl rfl Tryd.underlying27 rfl in_27 rfl (Nat.succ_pos _) ((Sub.refl _).trans (GStream.sub0 ({ s2'2 with N := w64 (s2'2.N + (1 : Int)) }))) (vmap_len (f := AV.u32) (({ s2'2 with N := w64 (s2'2.N + (1 : Int)) }).H)))) ?_
          refine r_op rfl rfl (PureD.opD (u_fa rfl rfl Tryd.underlying30 rfl in_28 (Nat.succ_ne_zero _) rfl rfl (ne_of_lt (n := 0) (Nat.lt_of_lt_of_eq (by decide) (Eq.symm (GStream.len ({ s2'2 with N := w64 (s2'2.N + (1 : Int)) }))))))) ?_
          refine r_op rfl rfl (PureD.opD (u_lda rfl rfl Tryd.underlying28 rfl in_28 rfl (Nat.succ_pos _) ((Sub.refl _).trans (GStream.sub1 ({ s2'2 with N := w64 (s2'2.N + (1 : Int)) }))) ((bcells_length _).trans (vlen (({ s2'2 with N := w64 (s2'2.N + (1 : Int)) }).Held))))) ?_
          refine bindK H fun r'3 h6 H => ?_
          refine r_op rfl rfl (PureD.opD (p_callp rfl rfl rfl Tryd.func50 rfl rfl (g_sum_turn_ac h6) ⟨rfl, rfl, trivial⟩)) ?_
          refine r_op rfl rfl (PureD.opD (u_fa rfl rfl Tryd.underlying30 rfl in_27 (Nat.succ_ne_zero _) rfl rfl (ne_of_lt (n := 0) (Nat.lt_of_lt_of_eq (by decide) (Eq.symm (GStream.len ({ s2'2 with N := w64 (s2'2.N + (1 : Int)) }))))))) ?_
          refine r_op rfl rfl (u_st rfl rfl rfl rfl rfl in_27 (vmap_len (f := AV.u32) r'3) (ne_of_lt (n := 0) (Nat.lt_of_lt_of_eq (by decide) (Eq.symm (GStream.len ({ s2'2 with N := w64 (s2'2.N + (1 : Int)) }))))) (Upd.trans (Sub.refl _) (GStream.upd0 ({ s2'2 with N := w64 (s2'2.N + (1 : Int)) }) r'3) (Upd.refl ((GStream.len ({ { s2'2 with N := w64 (s2'2.N + (1 : Int)) } with H := r'3 })).trans (GStream.len ({ s2'2 with N := w64 (s2'2.N + (1 : Int)) })).symm)))) ?_
          refine RunW_st [(2, .c (.ptr 2 (0))), (4, .c (.ptr 4 (0))), (13, .c (.p (AV.bytes b1))), (14, .c (.p (AV.int (b1.length : Int)))), (15, .c (.p (AV.int t15_0)))] [(2, .pure (GStream.cs ({ { s2'2 with N := w64 (s2'2.N + (1 : Int)) } with H := r'3 }))), (4, .pure (GStream.cs GStream.zero))] rfl ⟨TLes.same _, TLes.same _, TLes.same _, TLes.same _, TLes.same _, trivial⟩ ⟨rfl, rfl, trivial⟩ ?_
          refine RunW_nil ?_
          refine AW2_seq ?_
          refine AW2_reg [0, 1, 2] rfl ?_
          refine r_op rfl rfl (PureD.opD (u_blda rfl in_28 one_28 zc_28 Tryd.underlying28 in_5 rfl rfl)) ?_
          refine r_op rfl rfl (PureD.opD (u_fa rfl rfl Tryd.underlying30 rfl in_28 (Nat.succ_ne_zero _) rfl rfl (ne_of_lt (n := 0) (Nat.lt_of_lt_of_eq (by decide) (Eq.symm (GStream.len ({ { s2'2 with N := w64 (s2'2.N + (1 : Int)) } with H := r'3 }))))))) ?_
          refine r_op rfl rfl (u_st rfl rfl rfl rfl rfl in_28 ((bcells_length _).trans (vlen (Vector.replicate 64 (0 : UInt8)))) (ne_of_lt (n := 0) (Nat.lt_of_lt_of_eq (by decide) (Eq.symm (GStream.len ({ { s2'2 with N := w64 (s2'2.N + (1 : Int)) } with H := r'3 }))))) (Upd.trans (Sub.refl _) (GStream.upd1 ({ { s2'2 with N := w64 (s2'2.N + (1 : Int)) } with H := r'3 }) (Vector.replicate 64 (0 : UInt8))) (Upd.refl ((GStream.len ({ { { s2'2 with N := w64 (s2'2.N + (1 : Int)) } with H := r'3 } with Held := (Vector.replicate 64 (0 : UInt8)) })).trans (GStream.len ({ { s2'2 with N := w64 (s2'2.N + (1 : Int)) } with H := r'3 })).symm)))) ?_
          refine RunW_st [(2, .c (.ptr 2 (0))), (4, .c (.ptr 4 (0))), (13, .c (.p (AV.bytes b1))), (14, .c (.p (AV.int (b1.length : Int)))), (15, .c (.p (AV.int t15_0)))] [(2, .pure (GStream.cs ({ { { s2'2 with N := w64 (s2'2.N + (1 : Int)) } with H := r'3 } with Held := (Vector.replicate 64 (0 : UInt8)) }))), (4, .pure (GStream.cs GStream.zero))] rfl ⟨TLes.same _, TLes.same _, TLes.same _, TLes.same _, TLes.same _, trivial⟩ ⟨rfl, rfl, trivial⟩ ?_
          refine RunW_nil ?_
          refine gen1 (fun s2'4 => (⟨[(2, .c (.ptr 2 (0))), (4, .c (.ptr 4 (0))), (13, .c (.p (AV.bytes b1))), (14, .c (.p (AV.int (b1.length : Int)))), (15, .c (.p (AV.int t15_0)))], [(2, .pure (GStream.cs s2'4)), (4, .pure (GStream.cs GStream.zero))], 42⟩ : TS)) H ?_
          intro s2'4 H
          refine AW2_reg [0, 1] rfl ?_
          refine r_op rfl rfl (PureD.opD (u_fa rfl rfl Tryd.underlying30 rfl in_3 (Nat.succ_ne_zero _) rfl rfl (ne_of_lt (n := 0) (Nat.lt_of_lt_of_eq (by decide) (Eq.symm (GStream.len s2'4)))))) ?_
          refine r_op rfl rfl (u_st rfl rfl rfl rfl rfl in_3 rfl (ne_of_lt (n := 0) (Nat.lt_of_lt_of_eq (by decide) (Eq.symm (GStream.len s2'4)))) (Upd.trans (Sub.refl _) (GStream.upd2 s2'4 (0 : Int)) (Upd.refl ((GStream.len ({ s2'4 with N := (0 : Int) })).trans (GStream.len s2'4).symm)))) ?_
          refine RunW_st [(2, .c (.ptr 2 (0))), (4, .c (.ptr 4 (0))), (13, .c (.p (AV.bytes b1))), (14, .c (.p (AV.int (b1.length : Int)))), (15, .c (.p (AV.int t15_0)))] [(2, .pure (GStream.cs ({ s2'4 with N := (0 : Int) }))), (4, .pure (GStream.cs GStream.zero))] rfl ⟨TLes.same _, TLes.same _, TLes.same _, TLes.same _, TLes.same _, trivial⟩ ⟨rfl, rfl, trivial⟩ ?_
          refine RunW_nil ?_
          have hz := some_elim H
          subst hz
          exact rfl
        · replace H := ite_else h5 H
          refine AW2_st [(2, .c (.ptr 2 (0))), (4, .c (.ptr 4 (0))), (13, .c (.p (AV.bytes b1))), (14, .c (.p (AV.int (b1.length : Int)))), (15, .c (.p (AV.int t15_0)))] [(2, .pure (GStream.cs ({ s2'2 with N := w64 (s2'2.N + (1 : Int)) }))), (4, .pure (GStream.cs GStream.zero))] rfl ⟨TLes.same _, TLes.same _, TLes.same _, TLes.same _, TLes.same _, trivial⟩ ⟨rfl, rfl, trivial⟩ ?_
          refine AW2_skip ?_
          have hz := some_elim H
          subst hz
          exact rfl
      · refine AW2_reg [0, 1] rfl ?_
        refine r_op rfl rfl (PureD.opD (p_bin rfl rfl rfl rfl)) ?_
        refine r_op rfl rfl (PureD.opD (p_move rfl rfl)) ?_
        refine RunW_st [(2, .c (.ptr 2 (0))), (4, .c (.ptr 4 (0))), (13, .c (.p (AV.bytes b1))), (14, .c (.p (AV.int (b1.length : Int)))), (15, .c (.p (AV.int (w64 (t15_0 + (1 : Int))))))] [(2, .pure (GStream.cs j'1)), (4, .pure (GStream.cs GStream.zero))] rfl ⟨TLes.same _, TLes.same _, TLes.same _, TLes.same _, TLes.same _, trivial⟩ ⟨rfl, rfl, trivial⟩ ?_
        refine RunW_nil ?_
        have hz := some_elim H
        subst hz
        exact ⟨rfl, rfl⟩
    · replace H := ite_else h1 H
      refine AW2_st [(2, .c (.ptr 2 (0))), (4, .c (.ptr 4 (0)))] [(2, .pure (GStream.cs s2_0)), (4, .pure (GStream.cs GStream.zero))] rfl ⟨TLes.same _, TLes.same _, trivial⟩ ⟨rfl, rfl, trivial⟩ ?_
      refine AW2_exit ?_
      refine thenQ2_exit ?_
      have hz := some_elim H
      subst hz
      exact ⟨rfl, rfl⟩
  · obtain ⟨rfl, rfl⟩ := hs
    refine ⟨by simp, ?_⟩
    refine blockQ2_exit ?_
    refine AW2_seq ?_
    refine AW2_reg [0, 1] rfl ?_
    refine r_op rfl rfl (PureD.opD (u_lda rfl rfl Tryd.underlying30 rfl in_30 rfl (Nat.succ_pos _) (Sub.refl _) (GStream.len y'8))) ?_
    refine r_op rfl rfl (u_st rfl rfl rfl rfl rfl in_30 (GStream.len y'8) (ne_of_lt (n := 0) (Nat.lt_of_lt_of_eq (by decide) (Eq.symm (GStream.len GStream.zero)))) (Upd.refl ((GStream.len y'8).trans (GStream.len GStream.zero).symm))) ?_
    refine RunW_st [(4, .c (.ptr 4 (0)))] [(4, .pure (GStream.cs y'8))] rfl ⟨TLes.same _, trivial⟩ ⟨rfl, trivial⟩ ?_
    refine RunW_nil ?_
    refine AW2_ret ?_
    have hz := some_elim H
    subst hz
    exact ⟨⟨res_cella Tryd.underlying30 rfl in_30.sz rfl (Sub.le (Sub.refl _) (GStream.len y'8)) (by decide) (Sub.take (Sub.refl _) (GStream.len y'8)), trivial⟩, trivial⟩

/-! sum.end -/
noncomputable def g_sum_end_l0 : GStream → Option (GStream ⊕ (GStream))
  | s1_0 => (if s1_0.N ≠ (56 : Int) then (g_sum_feed s1_0 ([(0 : UInt8)] : List UInt8)).bind fun r'2 => some (.inl r'2) else some (.inr s1_0))
noncomputable def g_sum_end_l1 (s0 : GStream) : Int × GStream → Option ((Int × GStream) ⊕ (GStream))
  | (i4_1, s1_1) => (if i4_1 ≥ (0 : Int) then if 0 ≤ i4_1 then (g_sum_feed s1_1 ([(shr_u64 ((UInt64.ofInt s0.Len) * (8 : UInt64)) i4_1.toNat).toUInt8] : List UInt8)).bind fun r'7 => some (.inl (w64 (i4_1 - (8 : Int)), r'7)) else none else some (.inr s1_1))
noncomputable def g_sum_end_l2 (y'11 : GStream) : Int × (Vector UInt8 32) → Option ((Int × (Vector UInt8 32)) ⊕ (((Vector UInt8 32))))
  | (t31_2, out5_2) => (if t31_2 < (32 : Int) then if 0 ≤ w64 (t31_2.tdiv (4 : Int)) ∧ w64 (t31_2.tdiv (4 : Int)) < (8 : Int) then if 0 ≤ w64 ((24 : Int) - (w64 ((8 : Int) * (t31_2.tmod (4 : Int))))) then if 0 ≤ t31_2 ∧ t31_2 < (32 : Int) then letO ((vwr out5_2 t31_2.toNat ((shr_u32 (vrd y'11.H ((w64 (t31_2.tdiv (4 : Int))).toNat)) ((w64 ((24 : Int) - (w64 ((8 : Int) * (t31_2.tmod (4 : Int)))))).toNat)).toUInt8))) fun out5'12 => some (.inl (w64 (t31_2 + (1 : Int)), out5'12)) else none else none else none else some (.inr out5_2))
noncomputable def g_sum_end (s0 : GStream) : Option ((Vector UInt8 32)) :=
  (g_sum_feed s0 ([(128 : UInt8)] : List UInt8)).bind fun r'1 => (loopO (g_sum_end_l0) r'1).bind fun y'6 => (loopO (g_sum_end_l1 s0) ((56 : Int), y'6)).bind fun y'11 => (loopO (g_sum_end_l2 y'11) ((0 : Int), (Vector.replicate 32 (0 : UInt8)))).bind fun y'16 => some y'16
set_option maxHeartbeats 4000000 in
set_option maxRecDepth 100000 in
theorem g_sum_end_ac {s0 : GStream} {r : (Vector UInt8 32)} (H : g_sum_end s0 = some r) : ACp Tryd.prog 33 [(.agg (GStream.cs s0))] (.agg (bcells r.toList)) := by
  refine ACp_of (AC2_of_body (vs := [.c (.p (.agg (bcells r.toList)))]) Tryd.func33 rfl rfl (Nat.le_of_ble_eq_true rfl) rfl ?_) (fun _ => .same _)
  unfold g_sum_end at H
  refine AW2_st [(0, .c (.p (.agg (GStream.cs s0))))] [] rfl ⟨TLes.same _, trivial⟩ trivial ?_
  refine AW2_seq ?_
  refine AW2_reg [0, 1] rfl ?_
  refine r_op rfl rfl (MakeD.opD (n_box 1 rfl rfl) rfl rfl rfl rfl) ?_
  refine r_op rfl rfl (MakeD.opD (u_alloc 2 rfl in_23 one_23 zc_23) rfl rfl rfl rfl) ?_
  refine RunW_st [(1, .c (.ptr 1 (0))), (2, .c (.ptr 2 (0)))] [(1, .pure (GStream.cs s0)), (2, .pure (bcells ((Vector.replicate 32 (0 : UInt8)).toList)))] rfl ⟨TLes.same _, TLes.same _, trivial⟩ ⟨rfl, rfl, trivial⟩ ?_
  refine RunW_nil ?_
  refine AW2_seq ?_
  refine AW2_reg [0, 1, 2, 3, 4] rfl ?_
  refine r_op rfl rfl (PureD.opD (u_fa rfl rfl Tryd.underlying30 rfl in_3 (Nat.succ_ne_zero _) rfl rfl (ne_of_lt (n := 0) (Nat.lt_of_lt_of_eq (by decide) (Eq.symm (GStream.len s0)))))) ?_
  refine r_op rfl rfl (PureD.opD (u_ld rfl rfl Tryd.underlying3 rfl rfl ((Sub.refl _).trans (GStream.sub3 s0)))) ?_
  refine r_op rfl rfl (PureD.opD (p_i_u64 rfl Tryd.underlying3 Tryd.underlying66 rfl)) ?_
  refine r_op rfl rfl (PureD.opD (p_u64mul (a := UInt64.ofInt s0.Len) (b := (8 : UInt64)) rfl rfl rfl)) ?_
  refine r_op rfl rfl (PureD.opD (p_asg rfl rfl)) ?_
  refine RunW_st [(1, .c (.ptr 1 (0))), (2, .c (.ptr 2 (0))), (3, .c (.p (AV.u64 ((UInt64.ofInt s0.Len) * (8 : UInt64)))))] [(1, .pure (GStream.cs s0)), (2, .pure (bcells ((Vector.replicate 32 (0 : UInt8)).toList)))] rfl ⟨TLes.same _, TLes.same _, TLes.same _, trivial⟩ ⟨rfl, rfl, trivial⟩ ?_
  refine RunW_nil ?_
  refine AW2_seq ?_
  refine AW2_reg [0, 1, 2, 3] rfl ?_
  refine r_op rfl rfl (PureD.opD (u_lda rfl rfl Tryd.underlying30 rfl in_30 rfl (Nat.succ_pos _) (Sub.refl _) (GStream.len s0))) ?_
  refine r_op rfl rfl (MakeD.opD (u_bs 12 rfl Tryd.underlying22 in_5 rfl one_5 (by decide) (by decide) rfl rfl rfl) rfl rfl rfl rfl) ?_
  refine bindK H fun r'1 h1 H => ?_
  refine r_op rfl rfl (PureD.opD (p_calll rfl rfl rfl Tryd.func34 rfl rfl (g_sum_feed_ac h1) (GStream.nl r'1) ⟨lend_p rfl, lend_o rfl rfl rfl (bl ([(128 : UInt8)] : List UInt8)) (by decide), trivial⟩)) ?_
  refine r_op rfl rfl (u_st rfl rfl rfl rfl rfl in_30 (GStream.len r'1) (ne_of_lt (n := 0) (Nat.lt_of_lt_of_eq (by decide) (Eq.symm (GStream.len s0)))) (Upd.refl ((GStream.len r'1).trans (GStream.len s0).symm))) ?_
  refine RunW_st [(1, .c (.ptr 1 (0))), (2, .c (.ptr 2 (0))), (3, .c (.p (AV.u64 ((UInt64.ofInt s0.Len) * (8 : UInt64)))))] [(1, .pure (GStream.cs r'1)), (2, .pure (bcells ((Vector.replicate 32 (0 : UInt8)).toList)))] rfl ⟨TLes.same _, TLes.same _, TLes.same _, trivial⟩ ⟨rfl, rfl, trivial⟩ ?_
  refine RunW_nil ?_
  refine AW2_seq ?_
  refine AW2_block ?_
  refine AW2_st [(1, .c (.ptr 1 (0))), (2, .c (.ptr 2 (0))), (3, .c (.p (AV.u64 ((UInt64.ofInt s0.Len) * (8 : UInt64)))))] [(1, .pure (GStream.cs r'1)), (2, .pure (bcells ((Vector.replicate 32 (0 : UInt8)).toList)))] rfl ⟨TLes.same _, TLes.same _, TLes.same _, trivial⟩ ⟨rfl, rfl, trivial⟩ ?_
  refine bindK H fun y'6 h4 H => ?_
  refine AW2_loopO (fun a'3 : GStream => (⟨[(1, .c (.ptr 1 (0))), (2, .c (.ptr 2 (0))), (3, .c (.p (AV.u64 ((UInt64.ofInt s0.Len) * (8 : UInt64)))))], [(1, .pure (GStream.cs a'3)), (2, .pure (bcells ((Vector.replicate 32 (0 : UInt8)).toList)))], 49⟩ : TS)) (fun (y'4 : GStream) e s' => e = Go.Exit.exit 0 ∧ s' = (⟨[(1, .c (.ptr 1 (0))), (2, .c (.ptr 2 (0))), (3, .c (.p (AV.u64 ((UInt64.ofInt s0.Len) * (8 : UInt64)))))], [(1, .pure (GStream.cs y'4)), (2, .pure (bcells ((Vector.replicate 32 (0 : UInt8)).toList)))], 49⟩ : TS)) h4 rfl (fun s1_0 x hx => ?_) (fun e s' hs => ?_)
  · clear H
    have H := hx
    clear hx
    unfold g_sum_end_l0 at H
    refine AW2_seq ?_
    refine AW2_seq ?_
    refine AW2_reg [0, 1, 2] rfl ?_
    refine r_op rfl rfl (PureD.opD (u_fa rfl rfl Tryd.underlying30 rfl in_3 (Nat.succ_ne_zero _) rfl rfl (ne_of_lt (n := 0) (Nat.lt_of_lt_of_eq (by decide) (Eq.symm (GStream.len s1_0)))))) ?_
    refine r_op rfl rfl (PureD.opD (u_ld rfl rfl Tryd.underlying3 rfl rfl ((Sub.refl _).trans (GStream.sub2 s1_0)))) ?_
    refine r_op rfl rfl (PureD.opD (p_ine rfl rfl rfl)) ?_
    refine RunW_st [(1, .c (.ptr 1 (0))), (2, .c (.ptr 2 (0))), (3, .c (.p (AV.u64 ((UInt64.ofInt s0.Len) * (8 : UInt64))))), (16, .c (.p (.bool (decide (s1_0.N ≠ (56 : Int))))))] [(1, .pure (GStream.cs s1_0)), (2, .pure (bcells ((Vector.replicate 32 (0 : UInt8)).toList)))] rfl ⟨TLes.same _, TLes.same _, TLes.same _, TLes.same _, trivial⟩ ⟨rfl, rfl, trivial⟩ ?_
    refine RunW_nil ?_
    refine AW2_if (p := s1_0.N ≠ (56 : Int)) rfl (fun h2 => ?_) (fun h2 => ?_)
    · replace H := ite_then h2 H
      refine AW2_st [(1, .c (.ptr 1 (0))), (2, .c (.ptr 2 (0))), (3, .c (.p (AV.u64 ((UInt64.ofInt s0.Len) * (8 : UInt64)))))] [(1, .pure (GStream.cs s1_0)), (2, .pure (bcells ((Vector.replicate 32 (0 : UInt8)).toList)))] rfl ⟨TLes.same _, TLes.same _, TLes.same _, trivial⟩ ⟨rfl, rfl, trivial⟩ ?_
      refine AW2_skip ?_
      refine AW2_block ?_
      refine AW2_reg [0, 1, 2, 3] rfl ?_
      refine r_op rfl rfl (PureD.opD (u_lda rfl rfl Tryd.underlying30 rfl in_30 rfl (Nat.succ_pos _) (Sub.refl _) (GStream.len s1_0))) ?_
      refine r_op rfl rfl (MakeD.opD (u_bs 18 rfl Tryd.underlying22 in_5 rfl one_5 (by decide) (by decide) rfl rfl rfl) rfl rfl rfl rfl) ?_
      refine bindK H fun r'2 h3 H => ?_
      refine r_op rfl rfl (PureD.opD (p_calll rfl rfl rfl Tryd.func34 rfl rfl (g_sum_feed_ac h3) (GStream.nl r'2) ⟨lend_p rfl, lend_o rfl rfl rfl (bl ([(0 : UInt8)] : List UInt8)) (by decide), trivial⟩)) ?_
      refine r_op rfl rfl (u_st rfl rfl rfl rfl rfl in_30 (GStream.len r'2) (ne_of_lt (n := 0) (Nat.lt_of_lt_of_eq (by decide) (Eq.symm (GStream.len s1_0)))) (Upd.refl ((GStream.len r'2).trans (GStream.len s1_0).symm))) ?_
      refine RunW_st [(1, .c (.ptr 1 (0))), (2, .c (.ptr 2 (0))), (3, .c (.p (AV.u64 ((UInt64.ofInt s0.Len) * (8 : UInt64)))))] [(1, .pure (GStream.cs r'2)), (2, .pure (bcells ((Vector.replicate 32 (0 : UInt8)).toList)))] rfl ⟨TLes.same _, TLes.same _, TLes.same _, trivial⟩ ⟨rfl, rfl, trivial⟩ ?_
      refine RunW_nil ?_
      have hz := some_elim H
      subst hz
      exact ⟨rfl, rfl⟩
    · replace H := ite_else h2 H
      refine AW2_st [(1, .c (.ptr 1 (0))), (2, .c (.ptr 2 (0))), (3, .c (.p (AV.u64 ((UInt64.ofInt s0.Len) * (8 : UInt64)))))] [(1, .pure (GStream.cs s1_0)), (2, .pure (bcells ((Vector.replicate 32 (0 : UInt8)).toList)))] rfl ⟨TLes.same _, TLes.same _, TLes.same _, trivial⟩ ⟨rfl, rfl, trivial⟩ ?_
      refine AW2_exit ?_
      refine thenQ2_exit ?_
      have hz := some_elim H
      subst hz
      exact ⟨rfl, rfl⟩
  · obtain ⟨rfl, rfl⟩ := hs
    refine ⟨by simp, ?_⟩
    refine blockQ2_exit ?_
    refine AW2_seq ?_
    refine AW2_seq ?_
    refine AW2_reg [0] rfl ?_
    refine r_op rfl rfl (PureD.opD (p_asg rfl rfl)) ?_
    refine RunW_st [(1, .c (.ptr 1 (0))), (2, .c (.ptr 2 (0))), (3, .c (.p (AV.u64 ((UInt64.ofInt s0.Len) * (8 : UInt64))))), (4, .c (.p (AV.int (56 : Int))))] [(1, .pure (GStream.cs y'6)), (2, .pure (bcells ((Vector.replicate 32 (0 : UInt8)).toList)))] rfl ⟨TLes.same _, TLes.same _, TLes.same _, TLes.same _, trivial⟩ ⟨rfl, rfl, trivial⟩ ?_
    refine RunW_nil ?_
    refine AW2_block ?_
    refine AW2_st [(1, .c (.ptr 1 (0))), (2, .c (.ptr 2 (0))), (3, .c (.p (AV.u64 ((UInt64.ofInt s0.Len) * (8 : UInt64))))), (4, .c (.p (AV.int (56 : Int))))] [(1, .pure (GStream.cs y'6)), (2, .pure (bcells ((Vector.replicate 32 (0 : UInt8)).toList)))] rfl ⟨TLes.same _, TLes.same _, TLes.same _, TLes.same _, trivial⟩ ⟨rfl, rfl, trivial⟩ ?_
    refine bindK H fun y'11 h8 H => ?_
    refine AW2_loopO (fun a'8 : Int × GStream => (⟨[(1, .c (.ptr 1 (0))), (2, .c (.ptr 2 (0))), (3, .c (.p (AV.u64 ((UInt64.ofInt s0.Len) * (8 : UInt64))))), (4, .c (.p (AV.int a'8.1)))], [(1, .pure (GStream.cs a'8.2)), (2, .pure (bcells ((Vector.replicate 32 (0 : UInt8)).toList)))], 49⟩ : TS)) (fun (y'9 : GStream) e s' => e = Go.Exit.exit 2 ∧ s' = (⟨[(1, .c (.ptr 1 (0))), (2, .c (.ptr 2 (0)))], [(1, .pure (GStream.cs y'9)), (2, .pure (bcells ((Vector.replicate 32 (0 : UInt8)).toList)))], 49⟩ : TS)) h8 rfl (fun a x hx => ?_) (fun e s' hs => ?_)
    · clear H
      obtain ⟨i4_1, s1_1⟩ := a
      have H := hx
      clear hx
      unfold g_sum_end_l1 at H
      refine AW2_seq ?_
      refine AW2_seq ?_
      refine AW2_reg [0, 1] rfl ?_
      refine r_op rfl rfl (PureD.opD (p_move rfl rfl)) ?_
      refine r_op rfl rfl (PureD.opD (p_bin rfl rfl rfl rfl)) ?_
      refine RunW_st [(1, .c (.ptr 1 (0))), (2, .c (.ptr 2 (0))), (3, .c (.p (AV.u64 ((UInt64.ofInt s0.Len) * (8 : UInt64))))), (4, .c (.p (AV.int i4_1))), (21, .c (.p (.bool (decide (i4_1 ≥ (0 : Int))))))] [(1, .pure (GStream.cs s1_1)), (2, .pure (bcells ((Vector.replicate 32 (0 : UInt8)).toList)))] rfl ⟨TLes.same _, TLes.same _, TLes.same _, TLes.same _, TLes.same _, trivial⟩ ⟨rfl, rfl, trivial⟩ ?_
      refine RunW_nil ?_
      refine AW2_if (p := i4_1 ≥ (0 : Int)) rfl (fun h5 => ?_) (fun h5 => ?_)
      · replace H := ite_then h5 H
        refine AW2_st [(1, .c (.ptr 1 (0))), (2, .c (.ptr 2 (0))), (3, .c (.p (AV.u64 ((UInt64.ofInt s0.Len) * (8 : UInt64))))), (4, .c (.p (AV.int i4_1)))] [(1, .pure (GStream.cs s1_1)), (2, .pure (bcells ((Vector.replicate 32 (0 : UInt8)).toList)))] rfl ⟨TLes.same _, TLes.same _, TLes.same _, TLes.same _, trivial⟩ ⟨rfl, rfl, trivial⟩ ?_
        refine AW2_skip ?_
        refine AW2_seq ?_
        refine AW2_block ?_
        refine chkK H fun h6 H => ?_
        refine bindK H fun r'7 h7 H => ?_
        refine AW2_ghoQ ?_
        refine AW2_draw 6 [6, 7] (fun k => ([.c (.p (.agg (GStream.cs s1_1))), .c (.p (AV.u64 ((UInt64.ofInt s0.Len) * (8 : UInt64)))), .c (.p (AV.int i4_1)), .c (.p (AV.u64 (shr_u64 ((UInt64.ofInt s0.Len) * (8 : UInt64)) i4_1.toNat))), .c (.p (AV.b8 ((shr_u64 ((UInt64.ofInt s0.Len) * (8 : UInt64)) i4_1.toNat).toUInt8))), .c (.own 29 1 1)] : List TV).getD k TV.any) (fun k => ([[(1, none)], [(3, none)], [(4, none)], [(25, some 1), (26, some 2)], [(27, some 3)], [(28, some 4)]] : List (List (Nat × Option Nat))).getD k []) [(1, none), (2, none), (3, none), (4, none), (24, some 0), (29, some 5)] [(5, 29, (bcells ([(shr_u64 ((UInt64.ofInt s0.Len) * (8 : UInt64)) i4_1.toNat).toUInt8] : List UInt8)))] (fun k => ([[], [], [], [1, 2], [1, 2, 3], [1, 2, 3, 4], [0, 1, 2, 3, 4, 5], [0, 1, 2, 3, 4, 5, 6]] : List (List Nat)).getD k []) mixed (by kernel_rfl) rfl rfl (a_op (g_x rfl (x_p rfl (u_lda rfl rfl Tryd.underlying30 rfl in_30 rfl (Nat.succ_pos _) (Sub.refl _) (GStream.len s1_1)) rfl)) (a_op (g_x rfl (x_p rfl (p_move rfl rfl) rfl)) (a_op (g_x rfl (x_p rfl (p_move rfl rfl) rfl)) (a_op (g_x rfl (x_p rfl (p_u64shr (n := i4_1.toNat) rfl rfl rfl (Int.toNat_of_nonneg h6).symm) rfl)) (a_op (g_x rfl (x_p rfl (p_u64_u8 (a := shr_u64 ((UInt64.ofInt s0.Len) * (8 : UInt64)) i4_1.toNat) rfl Tryd.underlying66 Tryd.underlying5 rfl) rfl)) (a_op (g_x rfl (x_m rfl (u_bs 29 rfl Tryd.underlying22 in_5 rfl one_5 (by decide) (by decide) rfl rfl rfl) rfl rfl)) (a_nil))))))) ?_
        refine t_op rfl rfl (PureD.opD (p_calll rfl rfl rfl Tryd.func34 rfl rfl (g_sum_feed_ac h7) (GStream.nl r'7) ⟨lend_p rfl, lend_o rfl rfl rfl (bl ([(shr_u64 ((UInt64.ofInt s0.Len) * (8 : UInt64)) i4_1.toNat).toUInt8] : List UInt8)) (by decide), trivial⟩)) ?_
        refine t_op rfl rfl (u_st rfl rfl rfl rfl rfl in_30 (GStream.len r'7) (ne_of_lt (n := 0) (Nat.lt_of_lt_of_eq (by decide) (Eq.symm (GStream.len s1_1)))) (Upd.refl ((GStream.len r'7).trans (GStream.len s1_1).symm))) ?_
        refine t_gho (Gho_st (L := [(1, .c (.ptr 1 (0))), (2, .c (.ptr 2 (0))), (3, .c (.p (AV.u64 ((UInt64.ofInt s0.Len) * (8 : UInt64))))), (4, .c (.p (AV.int i4_1)))]) (H := [(1, .pure (GStream.cs r'7)), (2, .pure (bcells ((Vector.replicate 32 (0 : UInt8)).toList)))]) rfl ⟨TLes.same _, TLes.same _, TLes.same _, TLes.same _, trivial⟩ ⟨rfl, rfl, trivial⟩) ?_
        refine AW2_reg [0, 1, 2] rfl ?_
        refine r_op rfl rfl (PureD.opD (p_move rfl rfl)) ?_
        refine r_op rfl rfl (PureD.opD (p_bin rfl rfl rfl rfl)) ?_
        refine r_op rfl rfl (PureD.opD (p_asg rfl rfl)) ?_
        refine RunW_st [(1, .c (.ptr 1 (0))), (2, .c (.ptr 2 (0))), (3, .c (.p (AV.u64 ((UInt64.ofInt s0.Len) * (8 : UInt64))))), (4, .c (.p (AV.int (w64 (i4_1 - (8 : Int))))))] [(1, .pure (GStream.cs r'7)), (2, .pure (bcells ((Vector.replicate 32 (0 : UInt8)).toList)))] rfl ⟨TLes.same _, TLes.same _, TLes.same _, TLes.same _, trivial⟩ ⟨rfl, rfl, trivial⟩ ?_
        refine RunW_nil ?_
        have hz := some_elim H
        subst hz
        exact ⟨rfl, rfl⟩
      · replace H := ite_else h5 H
        refine AW2_st [(1, .c (.ptr 1 (0))), (2, .c (.ptr 2 (0)))] [(1, .pure (GStream.cs s1_1)), (2, .pure (bcells ((Vector.replicate 32 (0 : UInt8)).toList)))] rfl ⟨TLes.same _, TLes.same _, trivial⟩ ⟨rfl, rfl, trivial⟩ ?_
        refine AW2_exit ?_
        refine thenQ2_exit ?_
        have hz := some_elim H
        subst hz
        exact ⟨rfl, rfl⟩
    · obtain ⟨rfl, rfl⟩ := hs
      refine ⟨by simp, ?_⟩
      refine blockQ2_exit ?_
      refine AW2_seq ?_
      refine AW2_reg [0] rfl ?_
      refine r_op rfl rfl (MakeD.opD (u_alloc 5 rfl in_23 one_23 zc_23) rfl rfl rfl rfl) ?_
      refine RunW_st [(1, .c (.ptr 1 (0))), (2, .c (.ptr 2 (0))), (5, .c (.ptr 5 (0)))] [(1, .pure (GStream.cs y'11)), (2, .pure (bcells ((Vector.replicate 32 (0 : UInt8)).toList))), (5, .pure (bcells ((Vector.replicate 32 (0 : UInt8)).toList)))] rfl ⟨TLes.same _, TLes.same _, TLes.same _, trivial⟩ ⟨rfl, rfl, rfl, trivial⟩ ?_
      refine RunW_nil ?_
      refine AW2_seq ?_
      refine AW2_seq ?_
      refine AW2_reg [0] rfl ?_
      refine r_op rfl rfl (PureD.opD (p_move rfl rfl)) ?_
      refine RunW_st [(1, .c (.ptr 1 (0))), (2, .c (.ptr 2 (0))), (5, .c (.ptr 5 (0))), (31, .c (.p (AV.int (0 : Int))))] [(1, .pure (GStream.cs y'11)), (2, .pure (bcells ((Vector.replicate 32 (0 : UInt8)).toList))), (5, .pure (bcells ((Vector.replicate 32 (0 : UInt8)).toList)))] rfl ⟨TLes.same _, TLes.same _, TLes.same _, TLes.same _, trivial⟩ ⟨rfl, rfl, rfl, trivial⟩ ?_
      refine RunW_nil ?_
      refine AW2_block ?_
      refine AW2_st [(1, .c (.ptr 1 (0))), (2, .c (.ptr 2 (0))), (5, .c (.ptr 5 (0))), (31, .c (.p (AV.int (0 : Int))))] [(1, .pure (GStream.cs y'11)), (2, .pure (bcells ((Vector.replicate 32 (0 : UInt8)).toList))), (5, .pure (bcells ((Vector.replicate 32 (0 : UInt8)).toList)))] rfl ⟨TLes.same _, TLes.same _, TLes.same _, TLes.same _, trivial⟩ ⟨rfl, rfl, rfl, trivial⟩ ?_
      refine bindK H fun y'16 h13 H => ?_
      refine AW2_loopO (fun a'13 : Int × (Vector UInt8 32) => (⟨[(1, .c (.ptr 1 (0))), (2, .c (.ptr 2 (0))), (5, .c (.ptr 5 (0))), (31, .c (.p (AV.int a'13.1)))], [(1, .pure (GStream.cs y'11)), (2, .pure (bcells ((Vector.replicate 32 (0 : UInt8)).toList))), (5, .pure (bcells a'13.2.toList))], 49⟩ : TS)) (fun (y'14 : ((Vector UInt8 32))) e s' => e = Go.Exit.exit 4 ∧ s' = (⟨[(2, .c (.ptr 2 (0))), (5, .c (.ptr 5 (0)))], [(2, .pure (bcells ((Vector.replicate 32 (0 : UInt8)).toList))), (5, .pure (bcells y'14.toList))], 49⟩ : TS)) h13 rfl (fun a x hx => ?_) (fun e s' hs => ?_)
      · clear H
        obtain ⟨t31_2, out5_2⟩ := a
        have H := hx
        clear hx
        unfold g_sum_end_l2 at H
        refine AW2_seq ?_
        refine AW2_reg [0] rfl ?_
        refine r_op rfl rfl (PureD.opD (p_bin rfl rfl rfl rfl)) ?_
        refine RunW_st [(1, .c (.ptr 1 (0))), (2, .c (.ptr 2 (0))), (5, .c (.ptr 5 (0))), (31, .c (.p (AV.int t31_2))), (32, .c (.p (.bool (decide (t31_2 < (32 : Int))))))] [(1, .pure (GStream.cs y'11)), (2, .pure (bcells ((Vector.replicate 32 (0 : UInt8)).toList))), (5, .pure (bcells out5_2.toList))] rfl ⟨TLes.same _, TLes.same _, TLes.same _, TLes.same _, TLes.same _, trivial⟩ ⟨rfl, rfl, rfl, trivial⟩ ?_
        refine RunW_nil ?_
        refine AW2_seq ?_
        refine AW2_if (p := t31_2 < (32 : Int)) rfl (fun h9 => ?_) (fun h9 => ?_)
        · replace H := ite_then h9 H
          refine AW2_st [(1, .c (.ptr 1 (0))), (2, .c (.ptr 2 (0))), (5, .c (.ptr 5 (0))), (31, .c (.p (AV.int t31_2)))] [(1, .pure (GStream.cs y'11)), (2, .pure (bcells ((Vector.replicate 32 (0 : UInt8)).toList))), (5, .pure (bcells out5_2.toList))] rfl ⟨TLes.same _, TLes.same _, TLes.same _, TLes.same _, trivial⟩ ⟨rfl, rfl, rfl, trivial⟩ ?_
          refine AW2_skip ?_
          refine AW2_seq ?_
          refine AW2_block ?_
          refine AW2_seq ?_
          refine AW2_reg [0, 1] rfl ?_
          refine r_op rfl rfl (PureD.opD (p_move rfl rfl)) ?_
          refine r_op rfl rfl (PureD.opD (p_asg rfl rfl)) ?_
          refine RunW_st [(1, .c (.ptr 1 (0))), (2, .c (.ptr 2 (0))), (5, .c (.ptr 5 (0))), (6, .c (.p (AV.int t31_2))), (31, .c (.p (AV.int t31_2)))] [(1, .pure (GStream.cs y'11)), (2, .pure (bcells ((Vector.replicate 32 (0 : UInt8)).toList))), (5, .pure (bcells out5_2.toList))] rfl ⟨TLes.same _, TLes.same _, TLes.same _, TLes.same _, TLes.same _, trivial⟩ ⟨rfl, rfl, rfl, trivial⟩ ?_
          refine RunW_nil ?_
          refine AW2_reg [0, 1, 2, 3, 4, 5, 6, 7, 8, 9, 10, 11, 12, 13] rfl ?_
          refine r_op rfl rfl (PureD.opD (p_move rfl rfl)) ?_
          refine r_op rfl rfl (PureD.opD (p_move rfl rfl)) ?_
          refine r_op rfl rfl (PureD.opD (p_iquo rfl rfl rfl (by decide))) ?_
          refine r_op rfl rfl (PureD.opD (u_fa rfl rfl Tryd.underlying30 rfl in_27 (Nat.succ_ne_zero _) rfl rfl (ne_of_lt (n := 0) (Nat.lt_of_lt_of_eq (by decide) (Eq.symm (GStream.len y'11)))))) ?_
          refine chkK H fun h10 H => ?_
          refine r_op rfl rfl (PureD.opD (u_ixp rfl rfl Tryd.underlying27 in_26 rfl rfl (ne_of_lt (n := 0) (Nat.lt_of_lt_of_eq (by decide) (Eq.symm (GStream.len y'11)))) rfl (ixe h10) (ixn h10))) ?_
          refine r_op rfl rfl (PureD.opD (u_ld rfl rfl Tryd.underlying26 rfl rfl (((Sub.refl _).trans (GStream.sub0 y'11)).trans (Sub.vmap (ixn h10))))) ?_
          refine r_op rfl rfl (PureD.opD (p_move rfl rfl)) ?_
          refine r_op rfl rfl (PureD.opD (p_irem rfl rfl rfl (by decide))) ?_
          refine r_op rfl rfl (PureD.opD (p_bin rfl rfl rfl rfl)) ?_
          refine r_op rfl rfl (PureD.opD (p_bin rfl rfl rfl rfl)) ?_
          refine chkK H fun h11 H => ?_
          refine r_op rfl rfl (PureD.opD (p_u32shr (n := (w64 ((24 : Int) - (w64 ((8 : Int) * (t31_2.tmod (4 : Int)))))).toNat) rfl rfl rfl (Int.toNat_of_nonneg h11).symm)) ?_
          refine r_op rfl rfl (PureD.opD (p_u32_u8 (a := shr_u32 (vrd y'11.H ((w64 (t31_2.tdiv (4 : Int))).toNat)) ((w64 ((24 : Int) - (w64 ((8 : Int) * (t31_2.tmod (4 : Int)))))).toNat)) rfl Tryd.underlying26 Tryd.underlying5 rfl)) ?_
          refine chkK H fun h12 H => ?_
          refine r_op rfl rfl (PureD.opD (u_ixp rfl rfl Tryd.underlying23 in_5 rfl rfl (ne_of_lt (n := 0) (Nat.lt_of_lt_of_eq (by decide) (Eq.symm ((bcells_length _).trans (vlen out5_2))))) rfl (ixe h12) (ixn h12))) ?_
          refine r_op rfl rfl (u_st rfl rfl rfl rfl rfl in_5 rfl (ne_of_lt (n := 0) (Nat.lt_of_lt_of_eq (by decide) (Eq.symm ((bcells_length _).trans (vlen out5_2))))) (Upd.trans (Sub.refl _) (Upd.vmap (ixn h12)) (Upd.refl (((bcells_length _).trans (vlen (vwr out5_2 t31_2.toNat ((shr_u32 (vrd y'11.H ((w64 (t31_2.tdiv (4 : Int))).toNat)) ((w64 ((24 : Int) - (w64 ((8 : Int) * (t31_2.tmod (4 : Int)))))).toNat)).toUInt8)))).trans ((bcells_length _).trans (vlen out5_2)).symm)))) ?_
          refine RunW_st [(1, .c (.ptr 1 (0))), (2, .c (.ptr 2 (0))), (5, .c (.ptr 5 (0))), (31, .c (.p (AV.int t31_2)))] [(1, .pure (GStream.cs y'11)), (2, .pure (bcells ((Vector.replicate 32 (0 : UInt8)).toList))), (5, .pure (bcells ((vwr out5_2 t31_2.toNat ((shr_u32 (vrd y'11.H ((w64 (t31_2.tdiv (4 : Int))).toNat)) ((w64 ((24 : Int) - (w64 ((8 : Int) * (t31_2.tmod (4 : Int)))))).toNat)).toUInt8)).toList)))] rfl ⟨TLes.same _, TLes.same _, TLes.same _, TLes.same _, trivial⟩ ⟨rfl, rfl, rfl, trivial⟩ ?_
          refine RunW_nil ?_
          refine gen1 (fun out5'12 => (⟨[(1, .c (.ptr 1 (0))), (2, .c (.ptr 2 (0))), (5, .c (.ptr 5 (0))), (31, .c (.p (AV.int t31_2)))], [(1, .pure (GStream.cs y'11)), (2, .pure (bcells ((Vector.replicate 32 (0 : UInt8)).toList))), (5, .pure (bcells out5'12.toList))], 49⟩ : TS)) H ?_
          intro out5'12 H
          refine AW2_reg [0, 1] rfl ?_
          refine r_op rfl rfl (PureD.opD (p_bin rfl rfl rfl rfl)) ?_
          refine r_op rfl rfl (PureD.opD (p_move rfl rfl)) ?_
          refine RunW_st [(1, .c (.ptr 1 (0))), (2, .c (.ptr 2 (0))), (5, .c (.ptr 5 (0))), (31, .c (.p (AV.int (w64 (t31_2 + (1 : Int))))))] [(1, .pure (GStream.cs y'11)), (2, .pure (bcells ((Vector.replicate 32 (0 : UInt8)).toList))), (5, .pure (bcells out5'12.toList))] rfl ⟨TLes.same _, TLes.same _, TLes.same _, TLes.same _, trivial⟩ ⟨rfl, rfl, rfl, trivial⟩ ?_
          refine RunW_nil ?_
          have hz := some_elim H
          subst hz
          exact ⟨rfl, rfl⟩
        · replace H := ite_else h9 H
          refine AW2_st [(2, .c (.ptr 2 (0))), (5, .c (.ptr 5 (0)))] [(2, .pure (bcells ((Vector.replicate 32 (0 : UInt8)).toList))), (5, .pure (bcells out5_2.toList))] rfl ⟨TLes.same _, TLes.same _, trivial⟩ ⟨rfl, rfl, trivial⟩ ?_
          refine AW2_exit ?_
          refine thenQ2_exit ?_
          have hz := some_elim H
          subst hz
          exact ⟨rfl, rfl⟩
      · obtain ⟨rfl, rfl⟩ := hs
        refine ⟨by simp, ?_⟩
        refine blockQ2_exit ?_
        refine AW2_seq ?_
        refine AW2_reg [0, 1] rfl ?_
        refine r_op rfl rfl (PureD.opD (u_lda rfl rfl Tryd.underlying23 rfl in_23 rfl (Nat.succ_pos _) (Sub.refl _) ((bcells_length _).trans (vlen y'16)))) ?_
        refine r_op rfl rfl (u_st rfl rfl rfl rfl rfl in_23 ((bcells_length _).trans (vlen y'16)) (ne_of_lt (n := 0) (Nat.lt_of_lt_of_eq (by decide) (Eq.symm ((bcells_length _).trans (vlen (Vector.replicate 32 (0 : UInt8))))))) (Upd.refl (((bcells_length _).trans (vlen y'16)).trans ((bcells_length _).trans (vlen (Vector.replicate 32 (0 : UInt8)))).symm))) ?_
        refine RunW_st [(2, .c (.ptr 2 (0)))] [(2, .pure (bcells y'16.toList))] rfl ⟨TLes.same _, trivial⟩ ⟨rfl, trivial⟩ ?_
        refine RunW_nil ?_
        refine AW2_ret ?_
        have hz := some_elim H
        subst hz
        exact ⟨⟨res_cella Tryd.underlying23 rfl in_23.sz rfl (Sub.le (Sub.refl _) ((bcells_length _).trans (vlen y'16))) (by decide) (Sub.take (Sub.refl _) ((bcells_length _).trans (vlen y'16))), trivial⟩, trivial⟩

/-! sum.Sum -/
noncomputable def g_sum_Sum (b0 : List UInt8) : Option ((Vector UInt8 32)) :=
  (g_sum_Begin).bind fun r'1 => (g_sum_feed r'1 b0).bind fun r'2 => (g_sum_end r'2).bind fun r'3 => some r'3
set_option maxHeartbeats 4000000 in
set_option maxRecDepth 100000 in
theorem g_sum_Sum_ac {b0 : List UInt8} {r : (Vector UInt8 32)} (H : g_sum_Sum b0 = some r) : ACp Tryd.prog 12 [(AV.bytes b0)] (.agg (bcells r.toList)) := by
  refine ACp_of (AC2_of_body (vs := [.c (.p (.agg (bcells r.toList)))]) Tryd.func12 rfl rfl (Nat.le_of_ble_eq_true rfl) rfl ?_) (fun _ => .same _)
  unfold g_sum_Sum at H
  refine AW2_st [(0, .c (.p (AV.bytes b0)))] [] rfl ⟨TLes.same _, trivial⟩ trivial ?_
  refine AW2_seq ?_
  refine AW2_reg [0] rfl ?_
  refine r_op rfl rfl (MakeD.opD (u_alloc 2 rfl in_23 one_23 zc_23) rfl rfl rfl rfl) ?_
  refine RunW_st [(0, .c (.p (AV.bytes b0))), (2, .c (.ptr 2 (0)))] [(2, .pure (bcells ((Vector.replicate 32 (0 : UInt8)).toList)))] rfl ⟨TLes.same _, TLes.same _, trivial⟩ ⟨rfl, trivial⟩ ?_
  refine RunW_nil ?_
  refine AW2_seq ?_
  refine AW2_reg [0, 1, 2, 3, 4] rfl ?_
  refine bindK H fun r'1 h1 H => ?_
  refine r_op rfl rfl (PureD.opD (p_callp rfl rfl rfl Tryd.func16 rfl rfl (g_sum_Begin_ac h1) trivial)) ?_
  refine r_op rfl rfl (PureD.opD (p_move rfl rfl)) ?_
  refine bindK H fun r'2 h2 H => ?_
  refine r_op rfl rfl (PureD.opD (p_callp rfl rfl rfl Tryd.func34 rfl rfl (g_sum_feed_ac h2) ⟨rfl, rfl, trivial⟩)) ?_
  refine bindK H fun r'3 h3 H => ?_
  refine r_op rfl rfl (PureD.opD (p_callp rfl rfl rfl Tryd.func33 rfl rfl (g_sum_end_ac h3) ⟨rfl, trivial⟩)) ?_
  refine r_op rfl rfl (u_st rfl rfl rfl rfl rfl in_23 ((bcells_length _).trans (vlen r'3)) (ne_of_lt (n := 0) (Nat.lt_of_lt_of_eq (by decide) (Eq.symm ((bcells_length _).trans (vlen (Vector.replicate 32 (0 : UInt8))))))) (Upd.refl (((bcells_length _).trans (vlen r'3)).trans ((bcells_length _).trans (vlen (Vector.replicate 32 (0 : UInt8)))).symm))) ?_
  refine RunW_st [(2, .c (.ptr 2 (0)))] [(2, .pure (bcells r'3.toList))] rfl ⟨TLes.same _, trivial⟩ ⟨rfl, trivial⟩ ?_
  refine RunW_nil ?_
  refine AW2_ret ?_
  have hz := some_elim H
  subst hz
  exact ⟨⟨res_cella Tryd.underlying23 rfl in_23.sz rfl (Sub.le (Sub.refl _) ((bcells_length _).trans (vlen r'3))) (by decide) (Sub.take (Sub.refl _) ((bcells_length _).trans (vlen r'3))), trivial⟩, trivial⟩

/-! chirographref.hexWord -/
noncomputable def g_ref_hexWord_l0 (t17'1 : Int) (t16'2 : List UInt8) : UInt32 × Int → Option ((UInt32 × Int) ⊕ (UInt32))
  | (n5_0, t18_0) => (if t18_0 < t17'1 then if 0 ≤ t18_0 ∧ t18_0 < (t16'2.length : Int) then ((if (97 : UInt8) ≤ (lrd t16'2 t18_0.toNat) then some (((lrd t16'2 t18_0.toNat) - (97 : UInt8)) + (10 : UInt8)) else some ((lrd t16'2 t18_0.toNat) - (48 : UInt8)))).bind fun j'3 => some (.inl ((n5_0 * (16 : UInt32)) + j'3.toUInt32, w64 (t18_0 + (1 : Int)))) else none else some (.inr n5_0))
noncomputable def g_ref_hexWord (s0 : List UInt8) (i1 : Int) : Option (UInt32) :=
  if 0 ≤ w64 ((8 : Int) * i1) ∧ w64 ((8 : Int) * i1) ≤ w64 ((w64 ((8 : Int) * i1)) + (8 : Int)) ∧ w64 ((w64 ((8 : Int) * i1)) + (8 : Int)) ≤ (s0.length : Int) then letO (((cut s0 (w64 ((8 : Int) * i1)) (w64 ((w64 ((8 : Int) * i1)) + (8 : Int)))).length : Int)) fun t17'1 => letO ((cut s0 (w64 ((8 : Int) * i1)) (w64 ((w64 ((8 : Int) * i1)) + (8 : Int))))) fun t16'2 => (loopO (g_ref_hexWord_l0 t17'1 t16'2) ((0 : UInt32), (0 : Int))).bind fun y'7 => some y'7 else none
set_option maxHeartbeats 4000000 in
set_option maxRecDepth 100000 in
theorem g_ref_hexWord_ac {s0 : List UInt8} {i1 : Int} {r : UInt32} (H : g_ref_hexWord s0 i1 = some r) : ACp Tryd.prog 40 [(AV.txt s0), (AV.int i1)] (AV.u32 r) := by
  refine ACp_of (AC2_of_body (vs := [.c (.p (AV.u32 r))]) Tryd.func40 rfl rfl (Nat.le_of_ble_eq_true rfl) rfl ?_) (fun _ => .same _)
  unfold g_ref_hexWord at H
  refine AW2_st [(0, .c (.p (AV.txt s0))), (1, .c (.p (AV.int i1)))] [] rfl ⟨TLes.same _, TLes.same _, trivial⟩ trivial ?_
  refine AW2_seq ?_
  refine AW2_reg [0] rfl ?_
  refine r_op rfl rfl (PureD.opD (p_asg rfl rfl)) ?_
  refine RunW_st [(0, .c (.p (AV.txt s0))), (1, .c (.p (AV.int i1)))] [] rfl ⟨TLes.same _, TLes.same _, trivial⟩ trivial ?_
  refine RunW_nil ?_
  refine AW2_seq ?_
  refine AW2_reg [0] rfl ?_
  refine r_op rfl rfl (PureD.opD (p_asg rfl rfl)) ?_
  refine RunW_st [(0, .c (.p (AV.txt s0))), (1, .c (.p (AV.int i1))), (5, .c (.p (AV.u32 (0 : UInt32))))] [] rfl ⟨TLes.same _, TLes.same _, TLes.same _, trivial⟩ trivial ?_
  refine RunW_nil ?_
  refine AW2_seq ?_
  refine AW2_seq ?_
  refine AW2_reg [0, 1, 2, 3, 4, 5, 6, 7, 8, 9] rfl ?_
  refine r_op rfl rfl (PureD.opD (p_move rfl rfl)) ?_
  refine r_op rfl rfl (PureD.opD (p_move rfl rfl)) ?_
  refine r_op rfl rfl (PureD.opD (p_bin rfl rfl rfl rfl)) ?_
  refine r_op rfl rfl (PureD.opD (p_move rfl rfl)) ?_
  refine r_op rfl rfl (PureD.opD (p_bin rfl rfl rfl rfl)) ?_
  refine r_op rfl rfl (PureD.opD (p_bin rfl rfl rfl rfl)) ?_
  refine chkK H fun h1 H => ?_
  refine r_op rfl rfl (PureD.opD (u_cutt (a := w64 ((8 : Int) * i1)) (b := w64 ((w64 ((8 : Int) * i1)) + (8 : Int))) rfl Tryd.underlying9 rfl (bT_i (show 0 ≤ w64 ((8 : Int) * i1) ∧ w64 ((8 : Int) * i1) ≤ w64 ((w64 ((8 : Int) * i1)) + (8 : Int)) ∧ w64 ((w64 ((8 : Int) * i1)) + (8 : Int)) ≤ (s0.length : Int) from h1).1 rfl) (bT_i (Int.le_trans (show 0 ≤ w64 ((8 : Int) * i1) ∧ w64 ((8 : Int) * i1) ≤ w64 ((w64 ((8 : Int) * i1)) + (8 : Int)) ∧ w64 ((w64 ((8 : Int) * i1)) + (8 : Int)) ≤ (s0.length : Int) from h1).1 (show 0 ≤ w64 ((8 : Int) * i1) ∧ w64 ((8 : Int) * i1) ≤ w64 ((w64 ((8 : Int) * i1)) + (8 : Int)) ∧ w64 ((w64 ((8 : Int) * i1)) + (8 : Int)) ≤ (s0.length : Int) from h1).2.1) rfl) (show 0 ≤ w64 ((8 : Int) * i1) ∧ w64 ((8 : Int) * i1) ≤ w64 ((w64 ((8 : Int) * i1)) + (8 : Int)) ∧ w64 ((w64 ((8 : Int) * i1)) + (8 : Int)) ≤ (s0.length : Int) from h1))) ?_
  refine r_op rfl rfl (MakeD.opD (n_sb 16 rfl Tryd.underlying9 Tryd.underlying22 Tryd.underlying5 rfl) rfl rfl rfl rfl) ?_
  refine r_op rfl rfl (PureD.opD (p_leno rfl Tryd.underlying22 rfl rfl rfl (bl (cut s0 (w64 ((8 : Int) * i1)) (w64 ((w64 ((8 : Int) * i1)) + (8 : Int))))) (by decide))) ?_
  refine r_op rfl rfl (PureD.opD (p_move rfl rfl)) ?_
  refine RunW_st [(5, .c (.p (AV.u32 (0 : UInt32)))), (16, .c (.own 16 (cut s0 (w64 ((8 : Int) * i1)) (w64 ((w64 ((8 : Int) * i1)) + (8 : Int)))).length 1)), (17, .c (.p (AV.int ((cut s0 (w64 ((8 : Int) * i1)) (w64 ((w64 ((8 : Int) * i1)) + (8 : Int)))).length : Int)))), (18, .c (.p (AV.int (0 : Int))))] [(16, .pure (bcells (cut s0 (w64 ((8 : Int) * i1)) (w64 ((w64 ((8 : Int) * i1)) + (8 : Int))))))] rfl ⟨TLes.same _, TLes.same _, TLes.same _, TLes.same _, trivial⟩ ⟨rfl, trivial⟩ ?_
  refine RunW_nil ?_
  refine gen1 (fun t17'1 => (⟨[(5, .c (.p (AV.u32 (0 : UInt32)))), (16, .c (.own 16 (cut s0 (w64 ((8 : Int) * i1)) (w64 ((w64 ((8 : Int) * i1)) + (8 : Int)))).length 1)), (17, .c (.p (AV.int t17'1))), (18, .c (.p (AV.int (0 : Int))))], [(16, .pure (bcells (cut s0 (w64 ((8 : Int) * i1)) (w64 ((w64 ((8 : Int) * i1)) + (8 : Int))))))], 36⟩ : TS)) H ?_
  intro t17'1 H
  refine gen1 (fun t16'2 => (⟨[(5, .c (.p (AV.u32 (0 : UInt32)))), (16, .c (.own 16 t16'2.length 1)), (17, .c (.p (AV.int t17'1))), (18, .c (.p (AV.int (0 : Int))))], [(16, .pure (bcells t16'2))], 36⟩ : TS)) H ?_
  intro t16'2 H
  refine AW2_block ?_
  refine AW2_st [(5, .c (.p (AV.u32 (0 : UInt32)))), (16, .c (.own 16 t16'2.length 1)), (17, .c (.p (AV.int t17'1))), (18, .c (.p (AV.int (0 : Int))))] [(16, .pure (bcells t16'2))] rfl ⟨TLes.same _, TLes.same _, TLes.same _, TLes.same _, trivial⟩ ⟨rfl, trivial⟩ ?_
  refine bindK H fun y'7 h6 H => ?_
  refine AW2_loopO (fun a'4 : UInt32 × Int => (⟨[(5, .c (.p (AV.u32 a'4.1))), (16, .c (.own 16 t16'2.length 1)), (17, .c (.p (AV.int t17'1))), (18, .c (.p (AV.int a'4.2)))], [(16, .pure (bcells t16'2))], 36⟩ : TS)) (fun (y'5 : UInt32) e s' => e = Go.Exit.exit 0 ∧ s' = (⟨[(5, .c (.p (AV.u32 y'5)))], [], 36⟩ : TS)) h6 rfl (fun a x hx => ?_) (fun e s' hs => ?_)
  · clear H
    obtain ⟨n5_0, t18_0⟩ := a
    have H := hx
    clear hx
    unfold g_ref_hexWord_l0 at H
    refine AW2_seq ?_
    refine AW2_reg [0] rfl ?_
    refine r_op rfl rfl (PureD.opD (p_bin rfl rfl rfl rfl)) ?_
    refine RunW_st [(5, .c (.p (AV.u32 n5_0))), (16, .c (.own 16 t16'2.length 1)), (17, .c (.p (AV.int t17'1))), (18, .c (.p (AV.int t18_0))), (19, .c (.p (.bool (decide (t18_0 < t17'1)))))] [(16, .pure (bcells t16'2))] rfl ⟨TLes.same _, TLes.same _, TLes.same _, TLes.same _, TLes.same _, trivial⟩ ⟨rfl, trivial⟩ ?_
    refine RunW_nil ?_
    refine AW2_seq ?_
    refine AW2_if (p := t18_0 < t17'1) rfl (fun h2 => ?_) (fun h2 => ?_)
    · replace H := ite_then h2 H
      refine AW2_st [(5, .c (.p (AV.u32 n5_0))), (16, .c (.own 16 t16'2.length 1)), (17, .c (.p (AV.int t17'1))), (18, .c (.p (AV.int t18_0)))] [(16, .pure (bcells t16'2))] rfl ⟨TLes.same _, TLes.same _, TLes.same _, TLes.same _, trivial⟩ ⟨rfl, trivial⟩ ?_
      refine AW2_skip ?_
      refine AW2_seq ?_
      refine AW2_block ?_
      refine AW2_seq ?_
      refine AW2_reg [0, 1, 2] rfl ?_
      refine chkK H fun h3 H => ?_
      refine r_op rfl rfl (PureD.opD (u_ixo rfl rfl Tryd.underlying22 in_5 rfl rfl (lne (ixn h3)) rfl (ixe h3) (ixn h3))) ?_
      refine r_op rfl rfl (PureD.opD (u_ld rfl rfl Tryd.underlying5 rfl rfl ((Sub.refl _).trans (Sub.map default (ixn h3))))) ?_
      refine r_op rfl rfl (PureD.opD (p_asg rfl rfl)) ?_
      refine RunW_st [(5, .c (.p (AV.u32 n5_0))), (7, .c (.p (AV.b8 (lrd t16'2 t18_0.toNat)))), (16, .c (.own 16 t16'2.length 1)), (17, .c (.p (AV.int t17'1))), (18, .c (.p (AV.int t18_0)))] [(16, .pure (bcells t16'2))] rfl ⟨TLes.same _, TLes.same _, TLes.same _, TLes.same _, TLes.same _, trivial⟩ ⟨rfl, trivial⟩ ?_
      refine RunW_nil ?_
      refine AW2_seq ?_
      refine AW2_reg [0, 1, 2] rfl ?_
      refine r_op rfl rfl (PureD.opD (p_move rfl rfl)) ?_
      refine r_op rfl rfl (PureD.opD (p_u8sub (a := (lrd t16'2 t18_0.toNat)) (b := (48 : UInt8)) rfl rfl rfl)) ?_
      refine r_op rfl rfl (PureD.opD (p_asg rfl rfl)) ?_
      refine RunW_st [(5, .c (.p (AV.u32 n5_0))), (7, .c (.p (AV.b8 (lrd t16'2 t18_0.toNat)))), (8, .c (.p (AV.b8 ((lrd t16'2 t18_0.toNat) - (48 : UInt8))))), (16, .c (.own 16 t16'2.length 1)), (17, .c (.p (AV.int t17'1))), (18, .c (.p (AV.int t18_0)))] [(16, .pure (bcells t16'2))] rfl ⟨TLes.same _, TLes.same _, TLes.same _, TLes.same _, TLes.same _, TLes.same _, trivial⟩ ⟨rfl, trivial⟩ ?_
      refine RunW_nil ?_
      refine AW2_seq ?_
      refine bindK H fun j'3 h4 H => ?_
      refine AW2_mid (⟨[(5, .c (.p (AV.u32 n5_0))), (8, .c (.p (AV.b8 j'3))), (16, .c (.own 16 t16'2.length 1)), (17, .c (.p (AV.int t17'1))), (18, .c (.p (AV.int t18_0)))], [(16, .pure (bcells t16'2))], 36⟩ : TS) ?_ ?_
      · clear H
        have H := h4
        clear h4
        refine AW2_seq ?_
        refine AW2_reg [0, 1] rfl ?_
        refine r_op rfl rfl (PureD.opD (p_move rfl rfl)) ?_
        refine r_op rfl rfl (PureD.opD (p_u8ge (a := (lrd t16'2 t18_0.toNat)) (b := (97 : UInt8)) rfl rfl rfl)) ?_
        refine RunW_st [(5, .c (.p (AV.u32 n5_0))), (7, .c (.p (AV.b8 (lrd t16'2 t18_0.toNat)))), (8, .c (.p (AV.b8 ((lrd t16'2 t18_0.toNat) - (48 : UInt8))))), (16, .c (.own 16 t16'2.length 1)), (17, .c (.p (AV.int t17'1))), (18, .c (.p (AV.int t18_0))), (25, .c (.p (.bool (decide ((97 : UInt8) ≤ (lrd t16'2 t18_0.toNat))))))] [(16, .pure (bcells t16'2))] rfl ⟨TLes.same _, TLes.same _, TLes.same _, TLes.same _, TLes.same _, TLes.same _, TLes.same _, trivial⟩ ⟨rfl, trivial⟩ ?_
        refine RunW_nil ?_
        refine AW2_if (p := (97 : UInt8) ≤ (lrd t16'2 t18_0.toNat)) rfl (fun h5 => ?_) (fun h5 => ?_)
        · replace H := ite_then h5 H
          refine AW2_reg [0, 1, 2, 3] rfl ?_
          refine r_op rfl rfl (PureD.opD (p_move rfl rfl)) ?_
          refine r_op rfl rfl (PureD.opD (p_u8sub (a := (lrd t16'2 t18_0.toNat)) (b := (97 : UInt8)) rfl rfl rfl)) ?_
          refine r_op rfl rfl (PureD.opD (p_u8add (a := (lrd t16'2 t18_0.toNat) - (97 : UInt8)) (b := (10 : UInt8)) rfl rfl rfl)) ?_
          refine r_op rfl rfl (PureD.opD (p_asg rfl rfl)) ?_
          refine RunW_st [(5, .c (.p (AV.u32 n5_0))), (8, .c (.p (AV.b8 (((lrd t16'2 t18_0.toNat) - (97 : UInt8)) + (10 : UInt8))))), (16, .c (.own 16 t16'2.length 1)), (17, .c (.p (AV.int t17'1))), (18, .c (.p (AV.int t18_0)))] [(16, .pure (bcells t16'2))] rfl ⟨TLes.same _, TLes.same _, TLes.same _, TLes.same _, TLes.same _, trivial⟩ ⟨rfl, trivial⟩ ?_
          refine RunW_nil ?_
          have hz := some_elim H
          subst hz
          exact rfl
        · replace H := ite_else h5 H
          refine AW2_st [(5, .c (.p (AV.u32 n5_0))), (8, .c (.p (AV.b8 ((lrd t16'2 t18_0.toNat) - (48 : UInt8))))), (16, .c (.own 16 t16'2.length 1)), (17, .c (.p (AV.int t17'1))), (18, .c (.p (AV.int t18_0)))] [(16, .pure (bcells t16'2))] rfl ⟨TLes.same _, TLes.same _, TLes.same _, TLes.same _, TLes.same _, trivial⟩ ⟨rfl, trivial⟩ ?_
          refine AW2_skip ?_
          have hz := some_elim H
          subst hz
          exact rfl
      · refine AW2_reg [0, 1, 2, 3, 4, 5] rfl ?_
        refine r_op rfl rfl (PureD.opD (p_move rfl rfl)) ?_
        refine r_op rfl rfl (PureD.opD (p_u32mul (a := n5_0) (b := (16 : UInt32)) rfl rfl rfl)) ?_
        refine r_op rfl rfl (PureD.opD (p_move rfl rfl)) ?_
        refine r_op rfl rfl (PureD.opD (p_u8_u32 (a := j'3) rfl Tryd.underlying5 Tryd.underlying26 rfl)) ?_
        refine r_op rfl rfl (PureD.opD (p_u32add (a := n5_0 * (16 : UInt32)) (b := j'3.toUInt32) rfl rfl rfl)) ?_
        refine r_op rfl rfl (PureD.opD (p_asg rfl rfl)) ?_
        refine RunW_st [(5, .c (.p (AV.u32 ((n5_0 * (16 : UInt32)) + j'3.toUInt32)))), (16, .c (.own 16 t16'2.length 1)), (17, .c (.p (AV.int t17'1))), (18, .c (.p (AV.int t18_0)))] [(16, .pure (bcells t16'2))] rfl ⟨TLes.same _, TLes.same _, TLes.same _, TLes.same _, trivial⟩ ⟨rfl, trivial⟩ ?_
        refine RunW_nil ?_
        refine AW2_reg [0, 1] rfl ?_
        refine r_op rfl rfl (PureD.opD (p_bin rfl rfl rfl rfl)) ?_
        refine r_op rfl rfl (PureD.opD (p_move rfl rfl)) ?_
        refine RunW_st [(5, .c (.p (AV.u32 ((n5_0 * (16 : UInt32)) + j'3.toUInt32)))), (16, .c (.own 16 t16'2.length 1)), (17, .c (.p (AV.int t17'1))), (18, .c (.p (AV.int (w64 (t18_0 + (1 : Int))))))] [(16, .pure (bcells t16'2))] rfl ⟨TLes.same _, TLes.same _, TLes.same _, TLes.same _, trivial⟩ ⟨rfl, trivial⟩ ?_
        refine RunW_nil ?_
        have hz := some_elim H
        subst hz
        exact ⟨rfl, rfl⟩
    · replace H := ite_else h2 H
      refine AW2_st [(5, .c (.p (AV.u32 n5_0)))] [] rfl ⟨TLes.same _, trivial⟩ trivial ?_
      refine AW2_exit ?_
      refine thenQ2_exit ?_
      have hz := some_elim H
      subst hz
      exact ⟨rfl, rfl⟩
  · obtain ⟨rfl, rfl⟩ := hs
    refine ⟨by simp, ?_⟩
    refine blockQ2_exit ?_
    refine AW2_seq ?_
    refine AW2_reg [0, 1] rfl ?_
    refine r_op rfl rfl (PureD.opD (p_move rfl rfl)) ?_
    refine r_op rfl rfl (PureD.opD (p_asg rfl rfl)) ?_
    refine RunW_st [(4, .c (.p (AV.u32 y'7)))] [] rfl ⟨TLes.same _, trivial⟩ trivial ?_
    refine RunW_nil ?_
    refine AW2_ret ?_
    have hz := some_elim H
    subst hz
    exact ⟨⟨res_tmp (.same _), trivial⟩, trivial⟩

/-! chirographref.Begun -/
def g_ref_Begun_t0 : List UInt8 := [54, 97, 48, 57, 101, 54, 54, 55, 98, 98, 54, 55, 97, 101, 56, 53, 51, 99, 54, 101, 102, 51, 55, 50, 97, 53, 52, 102, 102, 53, 51, 97, 53, 49, 48, 101, 53, 50, 55, 102, 57, 98, 48, 53, 54, 56, 56, 99, 49, 102, 56, 51, 100, 57, 97, 98, 53, 98, 101, 48, 99, 100, 49, 57]
noncomputable def g_ref_Begun_l0 : Int × GStream → Option ((Int × GStream) ⊕ (GStream))
  | (t3_0, s1_0) => (if t3_0 < (8 : Int) then (g_ref_hexWord g_ref_Begun_t0 t3_0).bind fun r'1 => if 0 ≤ t3_0 ∧ t3_0 < (8 : Int) then some (.inl (w64 (t3_0 + (1 : Int)), { s1_0 with H := (vwr s1_0.H t3_0.toNat r'1) })) else none else some (.inr s1_0))
noncomputable def g_ref_Begun : Option (GStream) :=
  (loopO (g_ref_Begun_l0) ((0 : Int), GStream.zero)).bind fun y'5 => some y'5
set_option maxHeartbeats 4000000 in
set_option maxRecDepth 100000 in
theorem g_ref_Begun_ac {r : GStream} (H : g_ref_Begun = some r) : ACp Tryd.prog 17 [] (.agg (GStream.cs r)) := by
  refine ACp_of (AC2_of_body (vs := [.c (.p (.agg (GStream.cs r)))]) Tryd.func17 rfl rfl (Nat.le_of_ble_eq_true rfl) rfl ?_) (fun _ => .same _)
  unfold g_ref_Begun at H
  refine AW2_st [] [] rfl trivial trivial ?_
  refine AW2_seq ?_
  refine AW2_reg [0] rfl ?_
  refine r_op rfl rfl (MakeD.opD (u_alloc 0 rfl in_30 one_30 zc_30) rfl rfl rfl rfl) ?_
  refine RunW_st [(0, .c (.ptr 0 (0)))] [(0, .pure (GStream.cs GStream.zero))] rfl ⟨TLes.same _, trivial⟩ ⟨rfl, trivial⟩ ?_
  refine RunW_nil ?_
  refine AW2_seq ?_
  refine AW2_reg [0] rfl ?_
  refine r_op rfl rfl (MakeD.opD (u_alloc 1 rfl in_30 one_30 zc_30) rfl rfl rfl rfl) ?_
  refine RunW_st [(0, .c (.ptr 0 (0))), (1, .c (.ptr 1 (0)))] [(0, .pure (GStream.cs GStream.zero)), (1, .pure (GStream.cs GStream.zero))] rfl ⟨TLes.same _, TLes.same _, trivial⟩ ⟨rfl, rfl, trivial⟩ ?_
  refine RunW_nil ?_
  refine AW2_seq ?_
  refine AW2_seq ?_
  refine AW2_reg [0] rfl ?_
  refine r_op rfl rfl (PureD.opD (p_move rfl rfl)) ?_
  refine RunW_st [(0, .c (.ptr 0 (0))), (1, .c (.ptr 1 (0))), (3, .c (.p (AV.int (0 : Int))))] [(0, .pure (GStream.cs GStream.zero)), (1, .pure (GStream.cs GStream.zero))] rfl ⟨TLes.same _, TLes.same _, TLes.same _, trivial⟩ ⟨rfl, rfl, trivial⟩ ?_
  refine RunW_nil ?_
  refine AW2_block ?_
  refine AW2_st [(0, .c (.ptr 0 (0))), (1, .c (.ptr 1 (0))), (3, .c (.p (AV.int (0 : Int))))] [(0, .pure (GStream.cs GStream.zero)), (1, .pure (GStream.cs GStream.zero))] rfl ⟨TLes.same _, TLes.same _, TLes.same _, trivial⟩ ⟨rfl, rfl, trivial⟩ ?_
  refine bindK H fun y'5 h4 H => ?_
  refine AW2_loopO (fun a'2 : Int × GStream => (⟨[(0, .c (.ptr 0 (0))), (1, .c (.ptr 1 (0))), (3, .c (.p (AV.int a'2.1)))], [(0, .pure (GStream.cs GStream.zero)), (1, .pure (GStream.cs a'2.2))], 13⟩ : TS)) (fun (y'3 : GStream) e s' => e = Go.Exit.exit 0 ∧ s' = (⟨[(0, .c (.ptr 0 (0))), (1, .c (.ptr 1 (0)))], [(0, .pure (GStream.cs GStream.zero)), (1, .pure (GStream.cs y'3))], 13⟩ : TS)) h4 rfl (fun a x hx => ?_) (fun e s' hs => ?_)
  · clear H
    obtain ⟨t3_0, s1_0⟩ := a
    have H := hx
    clear hx
    unfold g_ref_Begun_l0 at H
    refine AW2_seq ?_
    refine AW2_reg [0] rfl ?_
    refine r_op rfl rfl (PureD.opD (p_bin rfl rfl rfl rfl)) ?_
    refine RunW_st [(0, .c (.ptr 0 (0))), (1, .c (.ptr 1 (0))), (3, .c (.p (AV.int t3_0))), (4, .c (.p (.bool (decide (t3_0 < (8 : Int))))))] [(0, .pure (GStream.cs GStream.zero)), (1, .pure (GStream.cs s1_0))] rfl ⟨TLes.same _, TLes.same _, TLes.same _, TLes.same _, trivial⟩ ⟨rfl, rfl, trivial⟩ ?_
    refine RunW_nil ?_
    refine AW2_seq ?_
    refine AW2_if (p := t3_0 < (8 : Int)) rfl (fun h1 => ?_) (fun h1 => ?_)
    · replace H := ite_then h1 H
      refine AW2_st [(0, .c (.ptr 0 (0))), (1, .c (.ptr 1 (0))), (3, .c (.p (AV.int t3_0)))] [(0, .pure (GStream.cs GStream.zero)), (1, .pure (GStream.cs s1_0))] rfl ⟨TLes.same _, TLes.same _, TLes.same _, trivial⟩ ⟨rfl, rfl, trivial⟩ ?_
      refine AW2_skip ?_
      refine AW2_seq ?_
      refine AW2_block ?_
      refine AW2_seq ?_
      refine AW2_reg [0, 1] rfl ?_
      refine r_op rfl rfl (PureD.opD (p_move rfl rfl)) ?_
      refine r_op rfl rfl (PureD.opD (p_asg rfl rfl)) ?_
      refine RunW_st [(0, .c (.ptr 0 (0))), (1, .c (.ptr 1 (0))), (2, .c (.p (AV.int t3_0))), (3, .c (.p (AV.int t3_0)))] [(0, .pure (GStream.cs GStream.zero)), (1, .pure (GStream.cs s1_0))] rfl ⟨TLes.same _, TLes.same _, TLes.same _, TLes.same _, trivial⟩ ⟨rfl, rfl, trivial⟩ ?_
      refine RunW_nil ?_
      refine AW2_reg [0, 1, 2, 3, 4, 5] rfl ?_
      refine r_op rfl rfl (PureD.opD (p_move rfl rfl)) ?_
      refine r_op rfl rfl (PureD.opD (p_move rfl rfl)) ?_
      refine bindK H fun r'1 h2 H => ?_
      refine r_op rfl rfl (PureD.opD (p_callp rfl rfl rfl Tryd.func40 rfl rfl (g_ref_hexWord_ac h2) ⟨by kernel_rfl, rfl, trivial⟩)) ?_
      refine r_op rfl rfl (PureD.opD (u_fa rfl rfl Tryd.underlying30 rfl in_27 (Nat.succ_ne_zero _) rfl rfl (ne_of_lt (n := 0) (Nat.lt_of_lt_of_eq (by decide) (Eq.symm (GStream.len s1_0)))))) ?_
      refine chkK H fun h3 H => ?_
      refine r_op rfl rfl (PureD.opD (u_ixp rfl rfl Tryd.underlying27 in_26 rfl rfl (ne_of_lt (n := 0) (Nat.lt_of_lt_of_eq (by decide) (Eq.symm (GStream.len s1_0)))) rfl (ixe h3) (ixn h3))) ?_
      refine r_op rfl rfl (u_st rfl rfl rfl rfl rfl in_26 rfl (ne_of_lt (n := 0) (Nat.lt_of_lt_of_eq (by decide) (Eq.symm (GStream.len s1_0)))) (Upd.trans ((Sub.refl _).trans (GStream.sub0 s1_0)) (Upd.vmap (ixn h3)) (Upd.trans (Sub.refl _) (GStream.upd0 s1_0 (vwr s1_0.H t3_0.toNat r'1)) (Upd.refl ((GStream.len ({ s1_0 with H := (vwr s1_0.H t3_0.toNat r'1) })).trans (GStream.len s1_0).symm))))) ?_
      refine RunW_st [(0, .c (.ptr 0 (0))), (1, .c (.ptr 1 (0))), (3, .c (.p (AV.int t3_0)))] [(0, .pure (GStream.cs GStream.zero)), (1, .pure (GStream.cs ({ s1_0 with H := (vwr s1_0.H t3_0.toNat r'1) })))] rfl ⟨TLes.same _, TLes.same _, TLes.same _, trivial⟩ ⟨rfl, rfl, trivial⟩ ?_
      refine RunW_nil ?_
      refine AW2_reg [0, 1] rfl ?_
      refine r_op rfl rfl (PureD.opD (p_bin rfl rfl rfl rfl)) ?_
      refine r_op rfl rfl (PureD.opD (p_move rfl rfl)) ?_
      refine RunW_st [(0, .c (.ptr 0 (0))), (1, .c (.ptr 1 (0))), (3, .c (.p (AV.int (w64 (t3_0 + (1 : Int))))))] [(0, .pure (GStream.cs GStream.zero)), (1, .pure (GStream.cs ({ s1_0 with H := (vwr s1_0.H t3_0.toNat r'1) })))] rfl ⟨TLes.same _, TLes.same _, TLes.same _, trivial⟩ ⟨rfl, rfl, trivial⟩ ?_
      refine RunW_nil ?_
      have hz := some_elim H
      subst hz
      exact ⟨rfl, rfl⟩
    · replace H := ite_else h1 H
      refine AW2_st [(0, .c (.ptr 0 (0))), (1, .c (.ptr 1 (0)))] [(0, .pure (GStream.cs GStream.zero)), (1, .pure (GStream.cs s1_0))] rfl ⟨TLes.same _, TLes.same _, trivial⟩ ⟨rfl, rfl, trivial⟩ ?_
      refine AW2_exit ?_
      refine thenQ2_exit ?_
      have hz := some_elim H
      subst hz
      exact ⟨rfl, rfl⟩
  · obtain ⟨rfl, rfl⟩ := hs
    refine ⟨by simp, ?_⟩
    refine blockQ2_exit ?_
    refine AW2_seq ?_
    refine AW2_reg [0, 1] rfl ?_
    refine r_op rfl rfl (PureD.opD (u_lda rfl rfl Tryd.underlying30 rfl in_30 rfl (Nat.succ_pos _) (Sub.refl _) (GStream.len y'5))) ?_
    refine r_op rfl rfl (u_st rfl rfl rfl rfl rfl in_30 (GStream.len y'5) (ne_of_lt (n := 0) (Nat.lt_of_lt_of_eq (by decide) (Eq.symm (GStream.len GStream.zero)))) (Upd.refl ((GStream.len y'5).trans (GStream.len GStream.zero).symm))) ?_
    refine RunW_st [(0, .c (.ptr 0 (0)))] [(0, .pure (GStream.cs y'5))] rfl ⟨TLes.same _, trivial⟩ ⟨rfl, trivial⟩ ?_
    refine RunW_nil ?_
    refine AW2_ret ?_
    have hz := some_elim H
    subst hz
    exact ⟨⟨res_cella Tryd.underlying30 rfl in_30.sz rfl (Sub.le (Sub.refl _) (GStream.len y'5)) (by decide) (Sub.take (Sub.refl _) (GStream.len y'5)), trivial⟩, trivial⟩
end Go.Proofs.YtoepdjccgngpdaaDoor.VM
