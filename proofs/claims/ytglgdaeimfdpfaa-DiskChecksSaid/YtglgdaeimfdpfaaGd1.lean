/- Functions of the program, as they answer, and that their code comes to these answers. -/
import Derived.Test.YtglgdaeimfdpfaaGd0
namespace Go.Proofs.Ytglgdaeimfdpfaa.VM
open Go Go.RowKit

theorem in_45 : Info Try.prog 45 1 24 (.slice none 0 0) := by unfold Info; kernel_rfl
theorem one_45 : (.slice none 0 0 : Value).cells.all (·.oneCell') = true := by kernel_rfl
theorem zc_45 : ((.slice none 0 0 : Value).cells.toList.map zcell) = [(AV.bytes [])] := by rfl
theorem in_62 : Info Try.prog 62 118 1872 (.agg #[.bool false, .string ⟨#[]⟩, .slice none 0 0, .bool false, .slice none 0 0, .bool false, .slice none 0 0, .bool false, .slice none 0 0, .bool false, .slice none 0 0, .bool false, .slice none 0 0, .bool false, .slice none 0 0, .bool false, .slice none 0 0, .bool false, .slice none 0 0, .bool false, .string ⟨#[]⟩, .slice none 0 0, .bool false, .slice none 0 0, .bool false, .slice none 0 0, .bool false, .slice none 0 0, .bool false, .slice none 0 0, .bool false, .slice none 0 0, .bool false, .slice none 0 0, .bool false, .slice none 0 0, .bool false, .slice none 0 0, .bool false, .string ⟨#[]⟩, .slice none 0 0, .bool false, .slice none 0 0, .bool false, .slice none 0 0, .bool false, .slice none 0 0, .bool false, .slice none 0 0, .bool false, .slice none 0 0, .bool false, .slice none 0 0, .bool false, .slice none 0 0, .bool false, .slice none 0 0, .bool false, .string ⟨#[]⟩, .slice none 0 0, .bool false, .slice none 0 0, .bool false, .slice none 0 0, .bool false, .slice none 0 0, .bool false, .slice none 0 0, .bool false, .slice none 0 0, .bool false, .slice none 0 0, .bool false, .slice none 0 0, .bool false, .slice none 0 0, .bool false, .string ⟨#[]⟩, .slice none 0 0, .bool false, .slice none 0 0, .bool false, .slice none 0 0, .bool false, .slice none 0 0, .bool false, .slice none 0 0, .bool false, .slice none 0 0, .bool false, .slice none 0 0, .bool false, .slice none 0 0, .bool false, .slice none 0 0, .bool false, .string ⟨#[]⟩, .slice none 0 0, .bool false, .slice none 0 0, .bool false, .slice none 0 0, .bool false, .slice none 0 0, .bool false, .slice none 0 0, .bool false, .slice none 0 0, .bool false, .slice none 0 0, .bool false, .slice none 0 0, .bool false, .slice none 0 0, .slice none 0 0, .int .i64 0, .int .i64 0, .int .i64 0]) := by unfold Info; kernel_rfl
theorem one_62 : (.agg #[.bool false, .string ⟨#[]⟩, .slice none 0 0, .bool false, .slice none 0 0, .bool false, .slice none 0 0, .bool false, .slice none 0 0, .bool false, .slice none 0 0, .bool false, .slice none 0 0, .bool false, .slice none 0 0, .bool false, .slice none 0 0, .bool false, .slice none 0 0, .bool false, .string ⟨#[]⟩, .slice none 0 0, .bool false, .slice none 0 0, .bool false, .slice none 0 0, .bool false, .slice none 0 0, .bool false, .slice none 0 0, .bool false, .slice none 0 0, .bool false, .slice none 0 0, .bool false, .slice none 0 0, .bool false, .slice none 0 0, .bool false, .string ⟨#[]⟩, .slice none 0 0, .bool false, .slice none 0 0, .bool false, .slice none 0 0, .bool false, .slice none 0 0, .bool false, .slice none 0 0, .bool false, .slice none 0 0, .bool false, .slice none 0 0, .bool false, .slice none 0 0, .bool false, .slice none 0 0, .bool false, .string ⟨#[]⟩, .slice none 0 0, .bool false, .slice none 0 0, .bool false, .slice none 0 0, .bool false, .slice none 0 0, .bool false, .slice none 0 0, .bool false, .slice none 0 0, .bool false, .slice none 0 0, .bool false, .slice none 0 0, .bool false, .slice none 0 0, .bool false, .string ⟨#[]⟩, .slice none 0 0, .bool false, .slice none 0 0, .bool false, .slice none 0 0, .bool false, .slice none 0 0, .bool false, .slice none 0 0, .bool false, .slice none 0 0, .bool false, .slice none 0 0, .bool false, .slice none 0 0, .bool false, .slice none 0 0, .bool false, .string ⟨#[]⟩, .slice none 0 0, .bool false, .slice none 0 0, .bool false, .slice none 0 0, .bool false, .slice none 0 0, .bool false, .slice none 0 0, .bool false, .slice none 0 0, .bool false, .slice none 0 0, .bool false, .slice none 0 0, .bool false, .slice none 0 0, .slice none 0 0, .int .i64 0, .int .i64 0, .int .i64 0] : Value).cells.all (·.oneCell') = true := by kernel_rfl
theorem zc_62 : ((.agg #[.bool false, .string ⟨#[]⟩, .slice none 0 0, .bool false, .slice none 0 0, .bool false, .slice none 0 0, .bool false, .slice none 0 0, .bool false, .slice none 0 0, .bool false, .slice none 0 0, .bool false, .slice none 0 0, .bool false, .slice none 0 0, .bool false, .slice none 0 0, .bool false, .string ⟨#[]⟩, .slice none 0 0, .bool false, .slice none 0 0, .bool false, .slice none 0 0, .bool false, .slice none 0 0, .bool false, .slice none 0 0, .bool false, .slice none 0 0, .bool false, .slice none 0 0, .bool false, .slice none 0 0, .bool false, .slice none 0 0, .bool false, .string ⟨#[]⟩, .slice none 0 0, .bool false, .slice none 0 0, .bool false, .slice none 0 0, .bool false, .slice none 0 0, .bool false, .slice none 0 0, .bool false, .slice none 0 0, .bool false, .slice none 0 0, .bool false, .slice none 0 0, .bool false, .slice none 0 0, .bool false, .string ⟨#[]⟩, .slice none 0 0, .bool false, .slice none 0 0, .bool false, .slice none 0 0, .bool false, .slice none 0 0, .bool false, .slice none 0 0, .bool false, .slice none 0 0, .bool false, .slice none 0 0, .bool false, .slice none 0 0, .bool false, .slice none 0 0, .bool false, .string ⟨#[]⟩, .slice none 0 0, .bool false, .slice none 0 0, .bool false, .slice none 0 0, .bool false, .slice none 0 0, .bool false, .slice none 0 0, .bool false, .slice none 0 0, .bool false, .slice none 0 0, .bool false, .slice none 0 0, .bool false, .slice none 0 0, .bool false, .string ⟨#[]⟩, .slice none 0 0, .bool false, .slice none 0 0, .bool false, .slice none 0 0, .bool false, .slice none 0 0, .bool false, .slice none 0 0, .bool false, .slice none 0 0, .bool false, .slice none 0 0, .bool false, .slice none 0 0, .bool false, .slice none 0 0, .slice none 0 0, .int .i64 0, .int .i64 0, .int .i64 0] : Value).cells.toList.map zcell) = GState.cs GState.zero := by rfl
theorem pl_62 : placesOf Try.prog 62 = some [(0, 114), (114, 1), (115, 3)] := by kernel_rfl
theorem in_40 : Info Try.prog 40 1 24 (.slice none 0 0) := by unfold Info; kernel_rfl
theorem one_40 : (.slice none 0 0 : Value).cells.all (·.oneCell') = true := by kernel_rfl
theorem zc_40 : ((.slice none 0 0 : Value).cells.toList.map zcell) = [(AV.lists [])] := by rfl

/-! chirographlaw.sameLists -/
noncomputable def g_law_sameLists_l0 (a0 : List (List UInt8)) (b1 : List (List UInt8)) : Int → Option (Int ⊕ (Bool ⊕ Unit))
  | t13_0 => (if t13_0 < (a0.length : Int) then if 0 ≤ t13_0 ∧ t13_0 < (a0.length : Int) then if 0 ≤ t13_0 ∧ t13_0 < (b1.length : Int) then (if (lrd a0 t13_0.toNat) ≠ (lrd b1 t13_0.toNat) then some (.inr (.inl false)) else some (.inl (w64 (t13_0 + (1 : Int))))) else none else none else some (.inr (.inr ())))
noncomputable def g_law_sameLists (a0 : List (List UInt8)) (b1 : List (List UInt8)) : Option (Bool) :=
  (if (a0.length : Int) ≠ (b1.length : Int) then some false else (loopO (g_law_sameLists_l0 a0 b1) (0 : Int)).bind fun o'4 => match o'4 with | .inl y'5 => some y'5 | .inr (y'6) => some true)
set_option maxHeartbeats 4000000 in
set_option maxRecDepth 100000 in
theorem g_law_sameLists_ac {a0 : List (List UInt8)} {b1 : List (List UInt8)} {r : Bool} (H : g_law_sameLists a0 b1 = some r) : ACp Try.prog 23 [(AV.lists a0), (AV.lists b1)] (AV.bool r) := by
  refine ACp_of (AC2_of_body (vs := [.b r]) Try.func23 rfl rfl (Nat.le_of_ble_eq_true rfl) rfl ?_) (fun _ => .same _)
  unfold g_law_sameLists at H
  refine as2 [(0, .p (AV.lists a0)), (1, .p (AV.lists b1))] [] rfl rfl rfl ?_
  refine sg [0] rfl ?_
  refine rp rfl rfl (p_asg rfl rfl) ?_
  refine rz [(0, .p (AV.lists a0)), (1, .p (AV.lists b1))] [] rfl rfl rfl ?_
  refine AW2_seq ?_
  refine sg [0, 1, 2, 3, 4] rfl ?_
  refine rp rfl rfl (p_move rfl rfl) ?_
  refine rp rfl rfl (p_lenl rfl Try.underlying40 rfl rfl) ?_
  refine rp rfl rfl (p_move rfl rfl) ?_
  refine rp rfl rfl (p_lenl rfl Try.underlying40 rfl rfl) ?_
  refine rp rfl rfl (p_ine rfl rfl rfl) ?_
  refine rz [(0, .p (AV.lists a0)), (1, .p (AV.lists b1)), (10, .b (decide ((a0.length : Int) ≠ (b1.length : Int))))] [] rfl rfl rfl ?_
  refine AW2_if (p := (a0.length : Int) ≠ (b1.length : Int)) rfl (fun h1 => ?_) (fun h1 => ?_)
  · replace H := ite_then h1 H
    refine sg [0] rfl ?_
    refine rp rfl rfl (p_asg rfl rfl) ?_
    refine rz [(4, .b false)] [] rfl rfl rfl ?_
    refine AW2_ret ?_
    have hz := some_elim H
    subst hz
    exact ⟨⟨res_tmp (.same _), trivial⟩, trivial⟩
  · replace H := ite_else h1 H
    refine as2 [(0, .p (AV.lists a0)), (1, .p (AV.lists b1))] [] rfl rfl rfl ?_
    refine AW2_skip ?_
    refine AW2_seq ?_
    refine sg [0, 1, 2] rfl ?_
    refine rp rfl rfl (p_move rfl rfl) ?_
    refine rp rfl rfl (p_lenl rfl Try.underlying40 rfl rfl) ?_
    refine rp rfl rfl (p_move rfl rfl) ?_
    refine rz [(0, .p (AV.lists a0)), (1, .p (AV.lists b1)), (12, .i (a0.length : Int)), (13, .i (0 : Int))] [] rfl rfl rfl ?_
    refine AW2_block ?_
    refine as2 [(0, .p (AV.lists a0)), (1, .p (AV.lists b1)), (12, .i (a0.length : Int)), (13, .i (0 : Int))] [] rfl rfl rfl ?_
    refine bindK H fun o'4 h6 H => ?_
    refine AW2_loopO (fun a'1 : Int => (⟨[(0, .p (AV.lists a0)), (1, .p (AV.lists b1)), (12, .i (a0.length : Int)), (13, .i a'1)], [], 28⟩ : TS)) (fun (o : Bool ⊕ Unit) e s' => match o with | .inl y'2 => e = Go.Exit.ret ∧ ResAll Try.prog s' [ResultVar.tmp 4] [.b y'2] ∧ HFits s' [] | .inr (y'3) => e = Go.Exit.exit 0 ∧ s' = (⟨[], [], 28⟩ : TS)) h6 rfl (fun t13_0 x hx => ?_) (fun e s' hs => ?_)
    · clear H
      have H := hx
      clear hx
      unfold g_law_sameLists_l0 at H
      refine sg [0] rfl ?_
      refine rp rfl rfl (p_bin rfl rfl rfl rfl) ?_
      refine rz [(0, .p (AV.lists a0)), (1, .p (AV.lists b1)), (12, .i (a0.length : Int)), (13, .i t13_0), (14, .b (decide (t13_0 < (a0.length : Int))))] [] rfl rfl rfl ?_
      refine AW2_seq ?_
      refine AW2_if (p := t13_0 < (a0.length : Int)) rfl (fun h2 => ?_) (fun h2 => ?_)
      · replace H := ite_then h2 H
        refine as2 [(0, .p (AV.lists a0)), (1, .p (AV.lists b1)), (12, .i (a0.length : Int)), (13, .i t13_0)] [] rfl rfl rfl ?_
        refine AW2_skip ?_
        refine AW2_seq ?_
        refine AW2_block ?_
        refine sg [0, 1] rfl ?_
        refine rp rfl rfl (p_move rfl rfl) ?_
        refine rp rfl rfl (p_asg rfl rfl) ?_
        refine rz [(0, .p (AV.lists a0)), (1, .p (AV.lists b1)), (5, .i t13_0), (12, .i (a0.length : Int)), (13, .i t13_0)] [] rfl rfl rfl ?_
        refine AW2_seq ?_
        refine chkK H fun h3 H => ?_
        refine chkK H fun h4 H => ?_
        refine AW2_ghoQ ?_
        refine AW2_draw 10 [10] (fun k => ([.p (AV.lists a0), .i t13_0, .p (.rptr (a0.map AV.bytes) (t13_0.toNat * 1)), .y (lrd a0 t13_0.toNat), .t (lrd a0 t13_0.toNat), .p (AV.lists b1), .i t13_0, .p (.rptr (b1.map AV.bytes) (t13_0.toNat * 1)), .y (lrd b1 t13_0.toNat), .t (lrd b1 t13_0.toNat)] : List TV).getD k TV.any) (fun k => ([[(0, none)], [(5, none)], [(16, some 0), (17, some 1)], [(18, some 2)], [(19, some 3)], [(1, none)], [(5, none)], [(21, some 5), (22, some 6)], [(23, some 7)], [(24, some 8)]] : List (List (Nat × Option Nat))).getD k []) [(0, none), (1, none), (12, none), (13, none), (20, some 4), (25, some 9)] [] (fun k => ([[], [], [0, 1], [0, 1, 2], [0, 1, 2, 3], [], [], [5, 6], [5, 6, 7], [5, 6, 7, 8], [0, 1, 2, 3, 4, 5, 6, 7, 8, 9]] : List (List Nat)).getD k []) mixed (by kernel_rfl) rfl rfl (a_op (g_x rfl (x_p rfl (p_move rfl rfl) rfl)) (a_op (g_x rfl (x_p rfl (p_move rfl rfl) rfl)) (a_op (g_x rfl (x_p rfl (u_ixl rfl rfl Try.underlying40 in_45 rfl rfl (ixe h3) (ixn h3) (lne (ixn h3))) rfl)) (a_op (g_x rfl (x_p rfl (u_ld rfl rfl Try.underlying45 rfl rfl (Sub.map default (ixn h3))) rfl)) (a_op (g_x rfl (x_p rfl (p_cb rfl rfl Try.underlying45 Try.underlying5 Try.underlying9 rfl) rfl)) (a_op (g_x rfl (x_p rfl (p_move rfl rfl) rfl)) (a_op (g_x rfl (x_p rfl (p_move rfl rfl) rfl)) (a_op (g_x rfl (x_p rfl (u_ixl rfl rfl Try.underlying40 in_45 rfl rfl (ixe h4) (ixn h4) (lne (ixn h4))) rfl)) (a_op (g_x rfl (x_p rfl (u_ld rfl rfl Try.underlying45 rfl rfl (Sub.map default (ixn h4))) rfl)) (a_op (g_x rfl (x_p rfl (p_cb rfl rfl Try.underlying45 Try.underlying5 Try.underlying9 rfl) rfl)) (a_nil))))))))))) ?_
        refine t_op rfl rfl (PureD.opD (p_sne rfl rfl rfl)) ?_
        refine t_gho (Gho_st (L := [(0, .p (AV.lists a0)), (1, .p (AV.lists b1)), (12, .i (a0.length : Int)), (13, .i t13_0), (26, .b (decide ((lrd a0 t13_0.toNat) ≠ (lrd b1 t13_0.toNat))))]) (H := []) rfl ⟨TLes.same _, TLes.same _, TLes.same _, TLes.same _, TLes.same _, trivial⟩ trivial) ?_
        refine AW2_if (p := (lrd a0 t13_0.toNat) ≠ (lrd b1 t13_0.toNat)) rfl (fun h5 => ?_) (fun h5 => ?_)
        · replace H := ite_then h5 H
          refine sg [0] rfl ?_
          refine rp rfl rfl (p_asg rfl rfl) ?_
          refine rz [(4, .b false)] [] rfl rfl rfl ?_
          refine AW2_ret ?_
          have hz := some_elim H
          subst hz
          exact ⟨rfl, ⟨res_tmp (.same _), trivial⟩, trivial⟩
        · replace H := ite_else h5 H
          refine as2 [(0, .p (AV.lists a0)), (1, .p (AV.lists b1)), (12, .i (a0.length : Int)), (13, .i t13_0)] [] rfl rfl rfl ?_
          refine AW2_skip ?_
          refine AW2_reg [0, 1] rfl ?_
          refine rp rfl rfl (p_bin rfl rfl rfl rfl) ?_
          refine rp rfl rfl (p_move rfl rfl) ?_
          refine rz [(0, .p (AV.lists a0)), (1, .p (AV.lists b1)), (12, .i (a0.length : Int)), (13, .i (w64 (t13_0 + (1 : Int))))] [] rfl rfl rfl ?_
          have hz := some_elim H
          subst hz
          exact ⟨rfl, rfl⟩
      · replace H := ite_else h2 H
        refine as2 [] [] rfl rfl rfl ?_
        refine AW2_exit ?_
        refine thenQ2_exit ?_
        have hz := some_elim H
        subst hz
        exact ⟨rfl, rfl⟩
    · rcases o'4 with y'5 | y'6
      · obtain ⟨rfl, hs⟩ := hs
        refine ⟨by simp, ?_⟩
        have hz := some_elim H
        subst hz
        exact ⟨hs.1, hs.2⟩
      · obtain ⟨rfl, rfl⟩ := hs
        refine ⟨by simp, ?_⟩
        refine blockQ2_exit ?_
        refine sg [0] rfl ?_
        refine rp rfl rfl (p_asg rfl rfl) ?_
        refine rz [(4, .b true)] [] rfl rfl rfl ?_
        refine AW2_ret ?_
        have hz := some_elim H
        subst hz
        exact ⟨⟨res_tmp (.same _), trivial⟩, trivial⟩

/-! chirographlaw.sameServer -/
noncomputable def g_law_sameServer (a0 : GServer) (b1 : GServer) : Option (Bool) :=
  ((if a0.Mode = b1.Mode then (g_law_sameBytes a0.Secret b1.Secret).bind fun r'2 => (if r'2 = true then (g_law_sameState a0.State b1.State).bind fun r'3 => (if r'3 = true then (g_law_sameLists a0.Roll b1.Roll).bind fun r'4 => (if r'4 = true then (g_law_sameDisk a0.Disk b1.Disk).bind fun r'5 => some r'5 else some false) else some false) else some false) else some false)).bind fun g'6 => some g'6
set_option maxHeartbeats 4000000 in
set_option maxRecDepth 100000 in
theorem g_law_sameServer_ac {a0 : GServer} {b1 : GServer} {r : Bool} (H : g_law_sameServer a0 b1 = some r) : ACp Try.prog 28 [(.agg (GServer.cs a0)), (.agg (GServer.cs b1))] (AV.bool r) := by
  refine ACp_of (AC2_of_body (vs := [.b r]) Try.func28 rfl rfl (Nat.le_of_ble_eq_true rfl) rfl ?_) (fun _ => .same _)
  unfold g_law_sameServer at H
  refine as2 [(0, .g (GServer.cs a0)), (1, .g (GServer.cs b1))] [] rfl rfl rfl ?_
  refine sg [0, 1, 2] rfl ?_
  refine r_op rfl rfl (MakeD.opD (n_box 2 rfl rfl) rfl rfl rfl rfl) ?_
  refine r_op rfl rfl (MakeD.opD (n_box 3 rfl rfl) rfl rfl rfl rfl) ?_
  refine rp rfl rfl (p_asg rfl rfl) ?_
  refine rz [(2, .q 2 (0)), (3, .q 3 (0))] [(2, .pure (GServer.cs a0)), (3, .pure (GServer.cs b1))] rfl rfl rfl ?_
  refine AW2_seq ?_
  refine bindK H fun g'6 h10 H => ?_
  refine AW2_mid (⟨[(4, .b g'6)], [], 38⟩ : TS) ?_ ?_
  · clear H
    have H := h10
    clear h10
    refine AW2_reg [0, 1, 2, 3, 4, 5, 6, 7, 8, 9, 10, 11, 12, 13, 14, 15, 16, 17, 18, 19, 20, 21, 22, 23, 24, 25, 26, 27, 28, 29, 30, 31, 32, 33] rfl ?_
    refine rp rfl rfl (u_fa rfl rfl Try.underlying64 rfl in_3 (Nat.succ_ne_zero _) rfl rfl (ne_of_lt (n := 0) (Nat.lt_of_lt_of_eq (by decide) (Eq.symm (GServer.len a0))))) ?_
    refine rp rfl rfl (u_ld rfl rfl Try.underlying3 rfl rfl ((Sub.refl _).trans (GServer.sub0 a0))) ?_
    refine rp rfl rfl (u_fa rfl rfl Try.underlying64 rfl in_3 (Nat.succ_ne_zero _) rfl rfl (ne_of_lt (n := 0) (Nat.lt_of_lt_of_eq (by decide) (Eq.symm (GServer.len b1))))) ?_
    refine rp rfl rfl (u_ld rfl rfl Try.underlying3 rfl rfl ((Sub.refl _).trans (GServer.sub0 b1))) ?_
    refine rp rfl rfl (p_ieq rfl rfl rfl) ?_
    refine rp rfl rfl (p_move rfl rfl) ?_
    refine (Classical.em (a0.Mode = b1.Mode)).elim (fun h2 => ?_) (fun h2 => ?_)
    · replace H := ite_then h2 H
      refine r_on rfl rfl rfl rfl (decide_eq_true (p := a0.Mode = b1.Mode) h2) rfl (PureD.opD (u_fa rfl rfl Try.underlying64 rfl in_45 (Nat.succ_ne_zero _) rfl rfl (ne_of_lt (n := 0) (Nat.lt_of_lt_of_eq (by decide) (Eq.symm (GServer.len a0)))))) ?_
      refine r_on rfl rfl rfl rfl (decide_eq_true (p := a0.Mode = b1.Mode) h2) rfl (PureD.opD (u_ld rfl rfl Try.underlying45 rfl rfl ((Sub.refl _).trans (GServer.sub1 a0)))) ?_
      refine r_on rfl rfl rfl rfl (decide_eq_true (p := a0.Mode = b1.Mode) h2) rfl (PureD.opD (u_fa rfl rfl Try.underlying64 rfl in_45 (Nat.succ_ne_zero _) rfl rfl (ne_of_lt (n := 0) (Nat.lt_of_lt_of_eq (by decide) (Eq.symm (GServer.len b1)))))) ?_
      refine r_on rfl rfl rfl rfl (decide_eq_true (p := a0.Mode = b1.Mode) h2) rfl (PureD.opD (u_ld rfl rfl Try.underlying45 rfl rfl ((Sub.refl _).trans (GServer.sub1 b1)))) ?_
      refine bindK H fun r'2 h3 H => ?_
      refine r_on rfl rfl rfl rfl (decide_eq_true (p := a0.Mode = b1.Mode) h2) rfl (PureD.opD (p_callp rfl rfl rfl Try.func45 rfl rfl (g_law_sameBytes_ac h3) ⟨rfl, rfl, trivial⟩)) ?_
      refine rp rfl rfl (p_pkt rfl rfl (decide_eq_true (p := a0.Mode = b1.Mode) h2) (.same _)) ?_
      refine rp rfl rfl (p_move rfl rfl) ?_
      refine (Classical.em (r'2 = true)).elim (fun h4 => ?_) (fun h4 => ?_)
      · replace H := ite_then h4 H
        refine rn rfl rfl rfl rfl h4 rfl (u_fa rfl rfl Try.underlying64 rfl in_62 (Nat.succ_ne_zero _) rfl rfl (ne_of_lt (n := 0) (Nat.lt_of_lt_of_eq (by decide) (Eq.symm (GServer.len a0))))) ?_
        refine rn rfl rfl rfl rfl h4 rfl (u_lda rfl rfl Try.underlying62 rfl in_62 rfl (Nat.succ_pos _) ((Sub.refl _).trans (GServer.sub2 a0)) (GState.len a0.State)) ?_
        refine rn rfl rfl rfl rfl h4 rfl (u_fa rfl rfl Try.underlying64 rfl in_62 (Nat.succ_ne_zero _) rfl rfl (ne_of_lt (n := 0) (Nat.lt_of_lt_of_eq (by decide) (Eq.symm (GServer.len b1))))) ?_
        refine rn rfl rfl rfl rfl h4 rfl (u_lda rfl rfl Try.underlying62 rfl in_62 rfl (Nat.succ_pos _) ((Sub.refl _).trans (GServer.sub2 b1)) (GState.len b1.State)) ?_
        refine bindK H fun r'3 h5 H => ?_
        refine rn rfl rfl rfl rfl h4 rfl (p_callp rfl rfl rfl Try.func46 rfl rfl (g_law_sameState_ac h5) ⟨rfl, rfl, trivial⟩) ?_
        refine rp rfl rfl (p_pkt rfl rfl h4 (.same _)) ?_
        refine rp rfl rfl (p_move rfl rfl) ?_
        refine (Classical.em (r'3 = true)).elim (fun h6 => ?_) (fun h6 => ?_)
        · replace H := ite_then h6 H
          refine rn rfl rfl rfl rfl h6 rfl (u_fa rfl rfl Try.underlying64 rfl in_40 (Nat.succ_ne_zero _) rfl rfl (ne_of_lt (n := 0) (Nat.lt_of_lt_of_eq (by decide) (Eq.symm (GServer.len a0))))) ?_
          refine rn rfl rfl rfl rfl h6 rfl (u_ld rfl rfl Try.underlying40 rfl rfl ((Sub.refl _).trans (GServer.sub3 a0))) ?_
          refine rn rfl rfl rfl rfl h6 rfl (u_fa rfl rfl Try.underlying64 rfl in_40 (Nat.succ_ne_zero _) rfl rfl (ne_of_lt (n := 0) (Nat.lt_of_lt_of_eq (by decide) (Eq.symm (GServer.len b1))))) ?_
          refine rn rfl rfl rfl rfl h6 rfl (u_ld rfl rfl Try.underlying40 rfl rfl ((Sub.refl _).trans (GServer.sub3 b1))) ?_
          refine bindK H fun r'4 h7 H => ?_
          refine rn rfl rfl rfl rfl h6 rfl (p_callp rfl rfl rfl Try.func23 rfl rfl (g_law_sameLists_ac h7) ⟨rfl, rfl, trivial⟩) ?_
          refine rp rfl rfl (p_pkt rfl rfl h6 (.same _)) ?_
          refine rp rfl rfl (p_move rfl rfl) ?_
          refine (Classical.em (r'4 = true)).elim (fun h8 => ?_) (fun h8 => ?_)
          · replace H := ite_then h8 H
            refine rn rfl rfl rfl rfl h8 rfl (u_fa rfl rfl Try.underlying64 rfl in_25 (Nat.succ_ne_zero _) rfl rfl (ne_of_lt (n := 0) (Nat.lt_of_lt_of_eq (by decide) (Eq.symm (GServer.len a0))))) ?_
            refine rn rfl rfl rfl rfl h8 rfl (u_lda rfl rfl Try.underlying25 rfl in_25 rfl (Nat.succ_pos _) ((Sub.refl _).trans (GServer.sub4 a0)) (GDisk.len a0.Disk)) ?_
            refine rn rfl rfl rfl rfl h8 rfl (u_fa rfl rfl Try.underlying64 rfl in_25 (Nat.succ_ne_zero _) rfl rfl (ne_of_lt (n := 0) (Nat.lt_of_lt_of_eq (by decide) (Eq.symm (GServer.len b1))))) ?_
            refine rn rfl rfl rfl rfl h8 rfl (u_lda rfl rfl Try.underlying25 rfl in_25 rfl (Nat.succ_pos _) ((Sub.refl _).trans (GServer.sub4 b1)) (GDisk.len b1.Disk)) ?_
            refine bindK H fun r'5 h9 H => ?_
            refine rn rfl rfl rfl rfl h8 rfl (p_callp rfl rfl rfl Try.func13 rfl rfl (g_law_sameDisk_ac h9) ⟨rfl, rfl, trivial⟩) ?_
            refine rp rfl rfl (p_pkt rfl rfl h8 (.same _)) ?_
            refine rp rfl rfl (p_asg rfl rfl) ?_
            refine rs [(4, .b r'5)] [] rfl rfl rfl ?_
            have hz := some_elim H
            subst hz
            exact RunW_nil rfl
          · replace H := ite_else h8 H
            refine r_off rfl rfl rfl rfl (bfalse h8) rfl rfl ?_
            refine r_off rfl rfl rfl rfl (bfalse h8) rfl rfl ?_
            refine r_off rfl rfl rfl rfl (bfalse h8) rfl rfl ?_
            refine r_off rfl rfl rfl rfl (bfalse h8) rfl rfl ?_
            refine r_off rfl rfl rfl rfl (bfalse h8) rfl rfl ?_
            refine rp rfl rfl (p_pkf rfl rfl (bfalse h8) (.same _)) ?_
            refine rp rfl rfl (p_asg rfl rfl) ?_
            refine rs [(4, .b false)] [] rfl rfl rfl ?_
            have hz := some_elim H
            subst hz
            exact RunW_nil rfl
        · replace H := ite_else h6 H
          refine r_off rfl rfl rfl rfl (bfalse h6) rfl rfl ?_
          refine r_off rfl rfl rfl rfl (bfalse h6) rfl rfl ?_
          refine r_off rfl rfl rfl rfl (bfalse h6) rfl rfl ?_
          refine r_off rfl rfl rfl rfl (bfalse h6) rfl rfl ?_
          refine r_off rfl rfl rfl rfl (bfalse h6) rfl rfl ?_
          refine rp rfl rfl (p_pkf rfl rfl (bfalse h6) (.same _)) ?_
          refine rp rfl rfl (p_move rfl rfl) ?_
          refine r_off rfl rfl rfl rfl (bfalse (by decide)) rfl rfl ?_
          refine r_off rfl rfl rfl rfl (bfalse (by decide)) rfl rfl ?_
          refine r_off rfl rfl rfl rfl (bfalse (by decide)) rfl rfl ?_
          refine r_off rfl rfl rfl rfl (bfalse (by decide)) rfl rfl ?_
          refine r_off rfl rfl rfl rfl (bfalse (by decide)) rfl rfl ?_
          refine rp rfl rfl (p_pkf rfl rfl (bfalse (by decide)) (.same _)) ?_
          refine rp rfl rfl (p_asg rfl rfl) ?_
          refine rs [(4, .b false)] [] rfl rfl rfl ?_
          have hz := some_elim H
          subst hz
          exact RunW_nil rfl
      · replace H := ite_else h4 H
        refine r_off rfl rfl rfl rfl (bfalse h4) rfl rfl ?_
        refine r_off rfl rfl rfl rfl (bfalse h4) rfl rfl ?_
        refine r_off rfl rfl rfl rfl (bfalse h4) rfl rfl ?_
        refine r_off rfl rfl rfl rfl (bfalse h4) rfl rfl ?_
        refine r_off rfl rfl rfl rfl (bfalse h4) rfl rfl ?_
        refine rp rfl rfl (p_pkf rfl rfl (bfalse h4) (.same _)) ?_
        refine rp rfl rfl (p_move rfl rfl) ?_
        refine r_off rfl rfl rfl rfl (bfalse (by decide)) rfl rfl ?_
        refine r_off rfl rfl rfl rfl (bfalse (by decide)) rfl rfl ?_
        refine r_off rfl rfl rfl rfl (bfalse (by decide)) rfl rfl ?_
        refine r_off rfl rfl rfl rfl (bfalse (by decide)) rfl rfl ?_
        refine r_off rfl rfl rfl rfl (bfalse (by decide)) rfl rfl ?_
        refine rp rfl rfl (p_pkf rfl rfl (bfalse (by decide)) (.same _)) ?_
        refine rp rfl rfl (p_move rfl rfl) ?_
        refine r_off rfl rfl rfl rfl (bfalse (by decide)) rfl rfl ?_
        refine r_off rfl rfl rfl rfl (bfalse (by decide)) rfl rfl ?_
        refine r_off rfl rfl rfl rfl (bfalse (by decide)) rfl rfl ?_
        refine r_off rfl rfl rfl rfl (bfalse (by decide)) rfl rfl ?_
        refine r_off rfl rfl rfl rfl (bfalse (by decide)) rfl rfl ?_
        refine rp rfl rfl (p_pkf rfl rfl (bfalse (by decide)) (.same _)) ?_
        refine rp rfl rfl (p_asg rfl rfl) ?_
        refine rs [(4, .b false)] [] rfl rfl rfl ?_
        have hz := some_elim H
        subst hz
        exact RunW_nil rfl
    · replace H := ite_else h2 H
      refine r_off rfl rfl rfl rfl (decide_eq_false (p := a0.Mode = b1.Mode) h2) rfl rfl ?_
      refine r_off rfl rfl rfl rfl (decide_eq_false (p := a0.Mode = b1.Mode) h2) rfl rfl ?_
      refine r_off rfl rfl rfl rfl (decide_eq_false (p := a0.Mode = b1.Mode) h2) rfl rfl ?_
      refine r_off rfl rfl rfl rfl (decide_eq_false (p := a0.Mode = b1.Mode) h2) rfl rfl ?_
      refine r_off rfl rfl rfl rfl (decide_eq_false (p := a0.Mode = b1.Mode) h2) rfl rfl ?_
      refine rp rfl rfl (p_pkf rfl rfl (decide_eq_false (p := a0.Mode = b1.Mode) h2) (.same _)) ?_
      refine rp rfl rfl (p_move rfl rfl) ?_
      refine r_off rfl rfl rfl rfl (bfalse (by decide)) rfl rfl ?_
      refine r_off rfl rfl rfl rfl (bfalse (by decide)) rfl rfl ?_
      refine r_off rfl rfl rfl rfl (bfalse (by decide)) rfl rfl ?_
      refine r_off rfl rfl rfl rfl (bfalse (by decide)) rfl rfl ?_
      refine r_off rfl rfl rfl rfl (bfalse (by decide)) rfl rfl ?_
      refine rp rfl rfl (p_pkf rfl rfl (bfalse (by decide)) (.same _)) ?_
      refine rp rfl rfl (p_move rfl rfl) ?_
      refine r_off rfl rfl rfl rfl (bfalse (by decide)) rfl rfl ?_
      refine r_off rfl rfl rfl rfl (bfalse (by decide)) rfl rfl ?_
      refine r_off rfl rfl rfl rfl (bfalse (by decide)) rfl rfl ?_
      refine r_off rfl rfl rfl rfl (bfalse (by decide)) rfl rfl ?_
      refine r_off rfl rfl rfl rfl (bfalse (by decide)) rfl rfl ?_
      refine rp rfl rfl (p_pkf rfl rfl (bfalse (by decide)) (.same _)) ?_
      refine rp rfl rfl (p_move rfl rfl) ?_
      refine r_off rfl rfl rfl rfl (bfalse (by decide)) rfl rfl ?_
      refine r_off rfl rfl rfl rfl (bfalse (by decide)) rfl rfl ?_
      refine r_off rfl rfl rfl rfl (bfalse (by decide)) rfl rfl ?_
      refine r_off rfl rfl rfl rfl (bfalse (by decide)) rfl rfl ?_
      refine r_off rfl rfl rfl rfl (bfalse (by decide)) rfl rfl ?_
      refine rp rfl rfl (p_pkf rfl rfl (bfalse (by decide)) (.same _)) ?_
      refine rp rfl rfl (p_asg rfl rfl) ?_
      refine rs [(4, .b false)] [] rfl rfl rfl ?_
      have hz := some_elim H
      subst hz
      exact RunW_nil rfl
  · refine AW2_ret ?_
    have hz := some_elim H
    subst hz
    exact ⟨⟨res_tmp (.same _), trivial⟩, trivial⟩
end Go.Proofs.Ytglgdaeimfdpfaa.VM
